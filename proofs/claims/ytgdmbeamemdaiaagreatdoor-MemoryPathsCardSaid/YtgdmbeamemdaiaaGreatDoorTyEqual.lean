/- Walks: TypesEqual. -/
import Derived.Test.YtgdmbeamemdaiaaGreatDoorTyFrom
import Derived.Test.YtgdmbeamemdaiaaGreatDoorTyAlikeLaw
namespace Go.Proofs.YtgdmbeamemdaiaaGreatDoor
open Go.RowKit

theorem tmod_ix {a : Int} {m : Nat} (ha : 0 ≤ a) (hm : ¬ m = 0) : ∃ i : Nat, i < m ∧ a.tmod (m : Int) = (i : Nat) := by
  have h1 := Int.emod_nonneg a (show (m : Int) ≠ 0 by omega)
  have h2 := Int.emod_lt_of_pos a (show 0 < (m : Int) by omega)
  refine ⟨(a % (m : Int)).toNat, by omega, ?_⟩
  rw [Int.tmod_eq_emod_of_nonneg ha]
  omega
set_option maxRecDepth 100000 in
set_option maxHeartbeats 4000000 in
theorem law_equal (gen bound : Int) (A : Option Addr) (n c : Nat) (ls : List InstA) (a b d : Int) (w : World) (hM : ModS w w.heap.size A n ls) (hn : n ≤ 3600000000000) (hP : Pow w)
    (hN : ∀ x ∈ ls, (∀ a ∈ x.1.2.2.2, 0 ≤ a.2.1 ∧ a.2.1 < 4294967296) ∧ (0 ≤ x.1.1 ∧ x.1.1 < 65536)) (ha : a < 9223372036854775808) (hb : b < 9223372036854775808) (hd : d < 9223372036854775808) :
    Calls Tryz.prog 8 #[.agg (modC gen bound A n c), .int .i64 a, .int .i64 b, .int .i64 d] w (BoolIs true w) := by
  have hb1 := (Below.refl w.heap.size w).alloc (Nat.le_refl _) (.cells (modC gen bound A n c) 25)
  have k1 := Blk.new w 25 (modC gen bound A n c)
  have hcp := copyModule_any gen bound A n c ls _ (hM.step hb1) hn
  obtain ⟨L, hL⟩ : ∃ L, L = ls.map (·.1) := ⟨_, rfl⟩
  have hu : ∀ i ∈ L, ∀ a ∈ i.2.2.2, 0 ≤ a.2.1 ∧ a.2.1 < 4294967296 := fun i hi => by
    rw [hL] at hi
    obtain ⟨x, hx, rfl⟩ := List.mem_map.1 hi
    exact (hN x hx).1
  have hop : ∀ i ∈ L, 0 ≤ i.1 ∧ i.1 < 65536 := fun i hi => by
    rw [hL] at hi
    obtain ⟨x, hx, rfl⟩ := List.mem_map.1 hi
    exact (hN x hx).2
  rw [← hL] at hcp
  clear hL hM hN
  unfold modC at *
  obtain ⟨z0, z1, z2⟩ := three_ k1
  go_enter Tryz.func8, Tryz.ntmps8
  go_wp2_with fail
  refine hcp.mono ?_
  rintro e w2 ⟨A', c', ls', rfl, hM', hL', hb2⟩
  have hb3 := below_cut hb1 hb2 (Nat.le_refl _)
  have hnw := new_copied (gen := gen) (bound := bound) (c := c') hM' hL' (hP.step hb3) hu hop
  generalize newM bound L = r at *
  obtain ⟨r1, r2, s⟩ := r
  clear hcp hM' hL' hu hop z0 z1 z2 k1
  go_wp2_with fail
  refine hnw.mono ?_
  rintro e w3 ⟨hb4, ⟨h0, hw, gt, rfl, hG⟩ | ⟨h0, rfl⟩⟩
  · have h0 : r1 = 0 := h0
    have hw : WellS s := hw
    have hG : TabG w3 (some ⟨gt, 0, none⟩) s := hG
    have hb5 := below_cut hb3 hb4 (Nat.le_refl _)
    have hbs := (Below.refl w3.heap.size w3).alloc (Nat.le_refl _) (.cells #[.int .i64 0, .int .i64 0] 29)
    have hb6 := hb5.alloc hb5.size (.cells #[.int .i64 0, .int .i64 0] 29)
    have kS := Blk.new w3 29 #[.int .i64 0, .int .i64 0]
    obtain ⟨S, hT, hI⟩ := hG.step hbs
    obtain ⟨q0, q1⟩ := two_ kS
    have hids := idsT_any (some ⟨gt, 0, none⟩) s.ord _ hI
    have hor : s.ord.length ≤ 7100000000000 := by
      rcases hI with ⟨h, -⟩ | ⟨g, A, m, c, -, -, h, hm⟩
      · cases h
      · have := h.len; omega
    clear hnw hG hI h0
    go_wp2_with fail
    generalize (w3.alloc (.cells #[.int .i64 0, .int .i64 0] 29)) = W at *
    refine hids.mono ?_
    rintro e w4 ⟨Ai, ci, rfl, ho, hb7⟩
    have hb8 := below_cut hb6 hb7 (Nat.le_refl _)
    have hT4 := hT.step hb7
    have hrd := Reads.of_own ho
    clear q0 q1 hids kS
    have HW := Lib.hid hw
    have HT := Lib.hid hT4
    have HR := Lib.hid hrd
    have HLen := Lib.hid (rfl : s.ord.length = s.ord.length)
    clear hw hT hT4 hrd ho
    obtain ⟨m, hm⟩ : ∃ m, m = s.ord.length := ⟨_, rfl⟩
    rw [← hm] at HR hor ⊢
    have HM := Lib.hid hm
    clear hm HLen
    have haw := awake_any w4 (hP.step hb8)
    by_cases hm0 : m = 0
    · have e0 : (((m : Nat) : Int) == 0) = true := by rw [hm0]; rfl
      clear hm0
      go_wp2_with fail
      refine haw.mono ?_
      rintro e w5 ⟨rfl, hb9⟩
      have hb10 := below_cut hb8 hb9 (Nat.le_refl _)
      go_wp2_with fail
      go_ret
      exact ⟨rfl, hb10⟩
    · have e0 : (((m : Nat) : Int) == 0) = false := by rw [beq_eq_false_iff_ne]; omega
      by_cases h1 : a < 0
      · have d1 : decide (a < 0) = true := by simpa using h1
        clear hm0 h1
        go_wp2_with fail
        refine haw.mono ?_
        rintro e w5 ⟨rfl, hb9⟩
        have hb10 := below_cut hb8 hb9 (Nat.le_refl _)
        go_wp2_with fail
        go_ret
        exact ⟨rfl, hb10⟩
      by_cases h2 : b < 0
      · have d1 : decide (a < 0) = false := by simpa using h1
        have d2 : decide (b < 0) = true := by simpa using h2
        clear hm0 h1 h2
        go_wp2_with fail
        refine haw.mono ?_
        rintro e w5 ⟨rfl, hb9⟩
        have hb10 := below_cut hb8 hb9 (Nat.le_refl _)
        go_wp2_with fail
        go_ret
        exact ⟨rfl, hb10⟩
      by_cases h3 : d < 0
      · have d1 : decide (a < 0) = false := by simpa using h1
        have d2 : decide (b < 0) = false := by simpa using h2
        have d3 : decide (d < 0) = true := by simpa using h3
        clear hm0 h1 h2 h3
        go_wp2_with fail
        refine haw.mono ?_
        rintro e w5 ⟨rfl, hb9⟩
        have hb10 := below_cut hb8 hb9 (Nat.le_refl _)
        go_wp2_with fail
        go_ret
        exact ⟨rfl, hb10⟩
      have d1 : decide (a < 0) = false := by simpa using h1
      have d2 : decide (b < 0) = false := by simpa using h2
      have d3 : decide (d < 0) = false := by simpa using h3
      have hY := HW.out.typed
      have hD := hY.deepT
      obtain ⟨ia, hia, ea⟩ := tmod_ix (show 0 ≤ a by omega) hm0
      obtain ⟨ib, hib, eb⟩ := tmod_ix (show 0 ≤ b by omega) hm0
      obtain ⟨ic, hic, ec⟩ := tmod_ix (show 0 ≤ d by omega) hm0
      have wa : IntKind.i64.wrap ((ia : Nat) : Int) = ia := IntWalk.i64_in _ (by omega)
      have wb : IntKind.i64.wrap ((ib : Nat) : Int) = ib := IntWalk.i64_in _ (by omega)
      have wc : IntKind.i64.wrap ((ic : Nat) : Int) = ic := IntWalk.i64_in _ (by omega)
      have ma : ((ia : Nat) : Int) < (m : Nat) := by omega
      have mb : ((ib : Nat) : Int) < (m : Nat) := by omega
      have mc : ((ic : Nat) : Int) < (m : Nat) := by omega
      obtain ⟨bb, off, rfl, hbb, hcc⟩ := HR.out.ints (by omega)
      have c0 := hcc ia hia
      have c1 := hcc ib hib
      have c2 := hcc ic hic
      clear hcc HR
      generalize ix s.ord ia = x at *
      generalize ix s.ord ib = y at *
      generalize ix s.ord ic = z at *
      have hself := alike_self hY 17 x (by have := (hY.deep x).2; omega)
      have lx := fun (u v : Int) (w' : World) (h : TabW w' (some ⟨gt, 0, none⟩) s.T S) => alike_any (some ⟨gt, 0, none⟩) s.T S hD 17 u v w' h (by have := (hY.deep u).2; omega) (by omega)
      have hsz : alikeT s.T 17 x y = true → (s.T y).size = (s.T x).size ∧ cntT (s.T y) = cntT (s.T x) ∧ (s.T y).kind = (s.T x).kind := fun h => by
        obtain ⟨⟨g1, g2, g3, g4, g5⟩, -⟩ := alikeT_iff.1 h
        exact ⟨g3.symm, by unfold cntT; omega, g2.symm⟩
      have htr : alikeT s.T 17 x y = true → alikeT s.T 17 y z = true → alikeT s.T 17 x z = true := alike_trans
      have a1 := lx x x
      rw [hself] at a1
      have a2 := fun (w' : World) (h : TabW w' (some ⟨gt, 0, none⟩) s.T S) => plainM_any _ _ _ x w' h.tab
      have a3 := lx x y
      have a4 := lx y x
      rw [alike_symm s.T 17 y x] at a4
      have a5 := lx y z
      have a6 := lx x z
      have s1 := fun (u : Int) (w' : World) (h : TabW w' (some ⟨gt, 0, none⟩) s.T S) => sizeM_any _ _ _ u w' h.tab
      have s2 := fun (u : Int) (w' : World) (h : TabW w' (some ⟨gt, 0, none⟩) s.T S) => countM_any _ _ _ u w' h.tab (h.mild u)
      have s3 := fun (u : Int) (w' : World) (h : TabW w' (some ⟨gt, 0, none⟩) s.T S) => kindM_any _ _ _ u w' h.tab
      have sx := s1 x
      have sy := s1 y
      have cx := s2 x
      have cy := s2 y
      have kx := s3 x
      have ky := s3 y
      clear hself lx s1 s2 s3 hY hD HW HM
      generalize decide (0 < (s.T x).size) = P at *
      generalize alikeT s.T 17 x y = Q at *
      generalize alikeT s.T 17 y z = R at *
      generalize alikeT s.T 17 x z = U at *
      have eP : (P != P) = false := by simp
      have eQ : (Q != Q) = false := by simp
      have haw2 := fun (w' : World) (h : Below w.heap.size w w') => awake_any w' (hP.step h)
      clear hm0 h1 h2 h3 hia hib hic haw
      go_wp2_with fail
      have HT4 := HT
      have B4 := hb8
      clear HT hb8
      refine (a1 w4 HT4.out).mono ?_
      rintro e w5 ⟨rfl, g5⟩
      have HT5 := Lib.hid (HT4.out.step g5)
      have B5 := below_cut B4 g5 (Nat.le_refl _)
      clear g5 HT4 B4
      go_wp2_with fail
      refine (a2 w5 HT5.out).mono ?_
      rintro e w6 ⟨rfl, g6⟩
      have HT6 := Lib.hid (HT5.out.step g6)
      have B6 := below_cut B5 g6 (Nat.le_refl _)
      clear g6 HT5 B5
      go_wp2_with fail
      refine (a3 w6 HT6.out).mono ?_
      rintro e w7 ⟨rfl, g7⟩
      have HT7 := Lib.hid (HT6.out.step g7)
      have B7 := below_cut B6 g7 (Nat.le_refl _)
      clear g7 HT6 B6
      go_wp2_with fail
      refine (a4 w7 HT7.out).mono ?_
      rintro e w8 ⟨rfl, g8⟩
      have HT8 := Lib.hid (HT7.out.step g8)
      have B8 := below_cut B7 g8 (Nat.le_refl _)
      clear g8 HT7 B7
      go_wp2_with fail
      refine (a3 w8 HT8.out).mono ?_
      rintro e w9 ⟨rfl, g9⟩
      have HT9 := Lib.hid (HT8.out.step g9)
      have B9 := below_cut B8 g9 (Nat.le_refl _)
      clear g9 HT8 B8
      cases Q
      · clear hsz htr
        go_wp2_with fail
        refine (a3 w9 HT9.out).mono ?_
        rintro e w10 ⟨rfl, g10⟩
        have HT10 := Lib.hid (HT9.out.step g10)
        have B10 := below_cut B9 g10 (Nat.le_refl _)
        clear g10 HT9 B9
        go_wp2_with fail
        refine (haw2 w10 B10).mono ?_
        rintro e w11 ⟨rfl, g11⟩
        have B11 := below_cut B10 g11 (Nat.le_refl _)
        clear g11 B10
        go_wp2_with fail
        go_ret
        exact ⟨rfl, B11⟩
      · obtain ⟨z1, z2, z3⟩ := hsz rfl
        rw [z1] at sy
        rw [z2] at cy
        rw [z3] at ky
        clear z1 z2 z3 hsz
        generalize (s.T x).size = v1 at *
        generalize cntT (s.T x) = v2 at *
        generalize (s.T x).kind = v3 at *
        have f1 : (v1 != v1) = false := by simp
        have f2 : (v2 != v2) = false := by simp
        have f3 : (v3 != v3) = false := by simp
        have HR := Lib.hid (htr rfl)
        clear htr
        go_wp2_with fail
        refine (sx w9 HT9.out).mono ?_
        rintro e w10 ⟨rfl, g10⟩
        have HT10 := Lib.hid (HT9.out.step g10)
        have B10 := below_cut B9 g10 (Nat.le_refl _)
        clear g10 HT9 B9
        go_wp2_with fail
        refine (sy w10 HT10.out).mono ?_
        rintro e w11 ⟨rfl, g11⟩
        have HT11 := Lib.hid (HT10.out.step g11)
        have B11 := below_cut B10 g11 (Nat.le_refl _)
        clear g11 HT10 B10
        go_wp2_with fail
        refine (cx w11 HT11.out).mono ?_
        rintro e w12 ⟨rfl, g12⟩
        have HT12 := Lib.hid (HT11.out.step g12)
        have B12 := below_cut B11 g12 (Nat.le_refl _)
        clear g12 HT11 B11
        go_wp2_with fail
        refine (cy w12 HT12.out).mono ?_
        rintro e w13 ⟨rfl, g13⟩
        have HT13 := Lib.hid (HT12.out.step g13)
        have B13 := below_cut B12 g13 (Nat.le_refl _)
        clear g13 HT12 B12
        go_wp2_with fail
        refine (kx w13 HT13.out).mono ?_
        rintro e w14 ⟨rfl, g14⟩
        have HT14 := Lib.hid (HT13.out.step g14)
        have B14 := below_cut B13 g14 (Nat.le_refl _)
        clear g14 HT13 B13
        go_wp2_with fail
        refine (ky w14 HT14.out).mono ?_
        rintro e w15 ⟨rfl, g15⟩
        have HT15 := Lib.hid (HT14.out.step g15)
        have B15 := below_cut B14 g15 (Nat.le_refl _)
        clear g15 HT14 B14
        go_wp2_with fail
        refine (a3 w15 HT15.out).mono ?_
        rintro e w16 ⟨rfl, g16⟩
        have HT16 := Lib.hid (HT15.out.step g16)
        have B16 := below_cut B15 g16 (Nat.le_refl _)
        clear g16 HT15 B15
        go_wp2_with fail
        refine (a5 w16 HT16.out).mono ?_
        rintro e w17 ⟨rfl, g17⟩
        have HT17 := Lib.hid (HT16.out.step g17)
        have B17 := below_cut B16 g17 (Nat.le_refl _)
        clear g17 HT16 B16
        cases R
        · go_wp2_with fail
          refine (haw2 w17 B17).mono ?_
          rintro e w18 ⟨rfl, g18⟩
          have B18 := below_cut B17 g18 (Nat.le_refl _)
          clear g18 B17
          go_wp2_with fail
          go_ret
          exact ⟨rfl, B18⟩
        · have hU := HR.out rfl
          subst hU
          clear HR
          go_wp2_with fail
          refine (a6 w17 HT17.out).mono ?_
          rintro e w18 ⟨rfl, g18⟩
          have HT18 := Lib.hid (HT17.out.step g18)
          have B18 := below_cut B17 g18 (Nat.le_refl _)
          clear g18 HT17 B17
          go_wp2_with fail
          refine (haw2 w18 B18).mono ?_
          rintro e w19 ⟨rfl, g19⟩
          have B19 := below_cut B18 g19 (Nat.le_refl _)
          clear g19 B18
          go_wp2_with fail
          go_ret
          exact ⟨rfl, B19⟩
  · have h0 : r1 ≠ 0 := h0
    have hb5 := below_cut hb3 hb4 (Nat.le_refl _)
    have hb6 := hb5.alloc hb5.size (.cells #[.int .i64 r1, .int .i64 r2] 29)
    have kS := Blk.new w3 29 #[.int .i64 r1, .int .i64 r2]
    obtain ⟨q0, q1⟩ := two_ kS
    have e0 : (r1 != 0) = true := by simpa using h0
    have haw := awake_any _ (hP.step hb6)
    clear hnw h0
    go_wp2_with fail
    generalize (w3.alloc (.cells #[.int .i64 r1, .int .i64 r2] 29)) = W at *
    refine haw.mono ?_
    rintro e w5 ⟨rfl, hb9⟩
    have hb10 := below_cut hb6 hb9 (Nat.le_refl _)
    clear q0 q1
    go_wp2_with fail
    go_ret
    exact ⟨rfl, hb10⟩
end Go.Proofs.YtgdmbeamemdaiaaGreatDoor
