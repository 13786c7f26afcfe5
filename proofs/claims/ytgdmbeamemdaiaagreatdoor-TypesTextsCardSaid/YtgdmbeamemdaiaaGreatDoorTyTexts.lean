/- Walks: TypesTexts. -/
import Derived.Deep.RegionHeld3
import Derived.Test.YtgdmbeamemdaiaaGreatDoorTyEqual
import Derived.Test.YtgdmbeamemdaiaaGreatDoorTySimple
import Derived.Test.YtgdmbeamemdaiaaGreatDoorTyTextsLaw
namespace Go.Proofs.YtgdmbeamemdaiaaGreatDoor
open Go.RowKit

/-- two cells, and nothing else turned -/
abbrev C2 (w1 : World) (b o1 o2 : Nat) (x y : Int) (w' : World) : Prop := w'.cell? ⟨b, o1, none⟩ = some (.int .u32 x) ∧ w'.cell? ⟨b, o2, none⟩ = some (.int .u32 y) ∧ Below w1.heap.size w1 w'
section
variable {w1 w2 w3 : World} {b o1 o2 : Nat} {x y : Int}
theorem C2.drew_ (h : C2 w1 b o1 o2 x y w2) : C2 w1 b o1 o2 x y w2.drew := ⟨h.1, h.2.1, h.2.2.drew⟩
theorem C2.call (hb : b < w1.heap.size) (h : C2 w1 b o1 o2 x y w2) (hq : Below w2.heap.size w2 w3) : C2 w1 b o1 o2 x y w3 :=
  ⟨(hq.cell (p := ⟨b, o1, none⟩) (Nat.lt_of_lt_of_le hb h.2.2.size)).trans h.1, (hq.cell (p := ⟨b, o2, none⟩) (Nat.lt_of_lt_of_le hb h.2.2.size)).trans h.2.1, below_cut h.2.2 hq (Nat.le_refl _)⟩
theorem C2.is (h : C2 w1 b o1 o2 x y w2) : Below w1.heap.size w1 w2 := h.2.2
end
set_option maxRecDepth 100000 in
set_option maxHeartbeats 4000000 in
theorem law_texts (gen bound : Int) (A : Option Addr) (n c : Nat) (ls : List InstA) (w : World) (hM : ModS w w.heap.size A n ls) (hn : n ≤ 3600000000000) (hP : Pow w)
    (hN : ∀ x ∈ ls, (∀ a ∈ x.1.2.2.2, 0 ≤ a.2.1 ∧ a.2.1 < 4294967296) ∧ (0 ≤ x.1.1 ∧ x.1.1 < 65536)) :
    Calls Tryz.prog 3 #[.agg (modC gen bound A n c)] w (BoolIs true w) := by
  have hb1 := (Below.refl w.heap.size w).alloc (Nat.le_refl _) (.cells (modC gen bound A n c) 25)
  have k1 := Blk.new w 25 (modC gen bound A n c)
  have hcp := copyModule_any gen bound A n c ls _ (hM.step hb1) hn
  obtain ⟨L, hL⟩ : ∃ L, L = ls.map (·.1) := ⟨_, rfl⟩
  have hu : ∀ i ∈ L, ∀ a ∈ i.2.2.2, 0 ≤ a.2.1 ∧ a.2.1 < 4294967296 := fun i hi => by
    rw [hL] at hi
    obtain ⟨x, hx, rfl⟩ := List.mem_map.1 hi
    exact (hN x hx).1
  have hop : ∀ i ∈ L, 0 ≤ i.1 ∧ i.1 < 65536 := fun i hi => by
    rw [hL] at hi
    obtain ⟨x, hx, rfl⟩ := List.mem_map.1 hi
    exact (hN x hx).2
  rw [← hL] at hcp
  clear hL hM hN
  unfold modC at *
  obtain ⟨z0, z1, z2⟩ := three_ k1
  go_enter Tryz.func3, Tryz.ntmps3
  go_wp2_with fail
  refine hcp.mono ?_
  rintro e w2 ⟨A', c', ls', rfl, hM', hL', hb2⟩
  have hb3 := below_cut hb1 hb2 (Nat.le_refl _)
  have hnw := new_copied (gen := gen) (bound := bound) (c := c') hM' hL' (hP.step hb3) hu hop
  have hone := Lib.hid (fun at_ s (h : newM bound L = (0, at_, s)) => newM_once (fun i hi x hx => by unfold nums at hx; obtain ⟨y, hy, rfl⟩ := List.mem_map.1 hx; exact (hu i hi y hy).1) h)
  generalize newM bound L = r at *
  obtain ⟨r1, r2, s⟩ := r
  clear hcp hM' hL' hu hop z0 z1 z2 k1
  go_wp2_with fail
  refine hnw.mono ?_
  rintro e w3 ⟨hb4, ⟨h0, hw, gt, rfl, hG⟩ | ⟨h0, rfl⟩⟩
  · have h0 : r1 = 0 := h0
    have HO := Lib.hid (hone.out r2 s (by rw [h0]))
    clear hone
    have hw : WellS s := hw
    have hG : TabG w3 (some ⟨gt, 0, none⟩) s := hG
    have hb5 := below_cut hb3 hb4 (Nat.le_refl _)
    have hbs := (Below.refl w3.heap.size w3).alloc (Nat.le_refl _) (.cells #[.int .i64 0, .int .i64 0] 29)
    have hb6 := hb5.alloc hb5.size (.cells #[.int .i64 0, .int .i64 0] 29)
    have kS := Blk.new w3 29 #[.int .i64 0, .int .i64 0]
    obtain ⟨S, hT, hI⟩ := hG.step hbs
    obtain ⟨q0, q1⟩ := two_ kS
    have hids := idsT_any (some ⟨gt, 0, none⟩) s.ord _ hI
    have hor : s.ord.length ≤ 7100000000000 := by
      rcases hI with ⟨h, -⟩ | ⟨g, A, m, c, -, -, h, hm⟩
      · cases h
      · have := h.len; omega
    clear hnw hG hI h0
    go_wp2_with fail
    generalize (w3.alloc (.cells #[.int .i64 0, .int .i64 0] 29)) = W at *
    refine hids.mono ?_
    rintro e w4 ⟨Ai, ci, rfl, ho, hb7⟩
    have hb8 := below_cut hb6 hb7 (Nat.le_refl _)
    have hT4 := hT.step hb7
    have hrd := Reads.of_own ho
    clear q0 q1 hids kS
    have HW := Lib.hid hw
    have HT := Lib.hid hT4
    have HR := Lib.hid hrd
    have HLen := Lib.hid (rfl : s.ord.length = s.ord.length)
    clear hw hT hT4 hrd ho
    obtain ⟨m, hm⟩ : ∃ m, m = s.ord.length := ⟨_, rfl⟩
    rw [← hm] at HR hor ⊢
    have HM := Lib.hid hm
    clear hm HLen
    have haw2 := fun (w' : World) (h : Below w.heap.size w w') => awake_any w' (hP.step h)
    have hY := HW.out.typed
    have htx := fun (u : Int) (w' : World) (h : Below w4.heap.size w4 w') => textT_any (some ⟨gt, 0, none⟩) s.T S hY 19 u w' (HT.out.step h) ((hP.step hb8).step h) (by have := (rankT_bd hY u).2; omega)
    unfold TextIs at htx
    have HY := Lib.hid hY
    have hcell : ∀ k, k < m → ∃ b off, Ai = some ⟨b, off, none⟩ ∧ b < w4.heap.size ∧ ∀ k, k < m → w4.cell? ⟨b, off + k, none⟩ = some (.int .u32 (ix s.ord k)) := fun k hk => by
      obtain ⟨b, off, h1, h2, h3⟩ := HR.out.ints (by omega)
      exact ⟨b, off, h1, h2, h3⟩
    have HC := Lib.hid hcell
    clear hY hcell HR
    go_wp2_with fail
    go_loopg [6] m (fun qq i wr => ∃ k : Nat, k + qq = m ∧ i = .int .i64 (k : Nat) ∧ Below w4.heap.size w4 wr)
    case atStart => exact ⟨0, by omega, rfl, Below.refl _ _⟩
    case round =>
      obtain ⟨k, hkq, rfl, hbr⟩ := hrel
      by_cases hlt : k < m
      · by_cases h30 : k < 30
        · have d1 : decide (((k : Nat) : Int) < (m : Nat)) = true := by rw [decide_eq_true_eq]; omega
          have d2 : decide (((k : Nat) : Int) < 30) = true := by rw [decide_eq_true_eq]; omega
          have hlt2 : ((k : Nat) : Int) < (m : Nat) := by omega
          obtain ⟨b, off, rfl, hbb, hcc⟩ := HC.out k hlt
          have HCC := Lib.hid hcc
          have c0 := (hbr.cell (p := ⟨b, off + k, none⟩) hbb).trans (hcc k hlt)
          have hxt := htx (ix s.ord k)
          have hain := ix_in (show k < s.ord.length by have := HM.out; omega)
          rw [kindB_in (HW.out.kind_in hain)] at hxt
          have dx : (bs (textT s.T 19 (ix s.ord k))).toList.isEmpty = false := ne_isEmpty (by rw [bs_size]; have := text_ne HW.out hain 18; exact fun hc => this (List.eq_nil_of_length_eq_zero hc))
          have HJ := Lib.hid (fun j (hj : j < k) => texts_ok HW.out HO.out (show k < s.ord.length by have := HM.out; omega) hj)
          clear hain
          go_wp2_with fail
          refine (hxt wr hbr).mono ?_
          rintro e w5 ⟨rfl, g5⟩
          have B5 := below_cut hbr g5 (Nat.le_refl _)
          clear g5 hxt c0
          go_wp2_with fail
          go_loopg [9] k (fun qq i wr => ∃ j : Nat, j + qq = k ∧ i = .int .i64 (j : Nat) ∧ Below w4.heap.size w4 wr)
          case atStart => exact ⟨0, by omega, rfl, B5⟩
          case round =>
            obtain ⟨j, hjq, rfl, hbj⟩ := hrel
            by_cases hj : j < k
            · have dj : decide (((j : Nat) : Int) < (k : Nat)) = true := by rw [decide_eq_true_eq]; omega
              have hjm : ((j : Nat) : Int) < (m : Nat) := by omega
              have c1 := (hbj.cell (p := ⟨b, off + j, none⟩) hbb).trans (HCC.out j (by omega))
              have hyt := htx (ix s.ord j)
              rw [kindB_in (HW.out.kind_in (ix_in (show j < s.ord.length by have := HM.out; omega)))] at hyt
              by_cases hXY : textT s.T 19 (ix s.ord k) = textT s.T 19 (ix s.ord j)
              · obtain ⟨t1, t2, t3, t4, t5, t6⟩ := HJ.out j hj hXY
                rw [← hXY] at hyt
                have HJM := Lib.hid (show k + 1 ≤ m ∧ j + 1 ≤ k by omega)
                have HT6 := Lib.hid t6
                have c0 := (hbj.cell (p := ⟨b, off + k, none⟩) hbb).trans (HCC.out k hlt)
                clear HJ hXY t6 hcc
                have hrk1 := (rankT_bd HY.out (ix s.ord k)).2
                have hrk2 := (rankT_bd HY.out (ix s.ord j)).2
                have a1 := fun (w' : World) (h : TabW w' (some ⟨gt, 0, none⟩) s.T S) => simple_any (some ⟨gt, 0, none⟩) s.T S HY.out 19 (ix s.ord k) w' h (by omega)
                have a2 := fun (w' : World) (h : TabW w' (some ⟨gt, 0, none⟩) s.T S) => simple_any (some ⟨gt, 0, none⟩) s.T S HY.out 19 (ix s.ord j) w' h (by omega)
                rw [t1] at a1
                rw [t2] at a2
                have a3 := fun (w' : World) (h : TabW w' (some ⟨gt, 0, none⟩) s.T S) => kindM_any _ _ _ (ix s.ord k) w' h.tab
                have a4 := fun (w' : World) (h : TabW w' (some ⟨gt, 0, none⟩) s.T S) => kindM_any _ _ _ (ix s.ord j) w' h.tab
                have a5 := fun (w' : World) (h : TabW w' (some ⟨gt, 0, none⟩) s.T S) => sizeM_any _ _ _ (ix s.ord k) w' h.tab
                have a6 := fun (w' : World) (h : TabW w' (some ⟨gt, 0, none⟩) s.T S) => sizeM_any _ _ _ (ix s.ord j) w' h.tab
                have a7 := fun (w' : World) (h : TabW w' (some ⟨gt, 0, none⟩) s.T S) => countM_any _ _ _ (ix s.ord k) w' h.tab (h.mild _)
                have a8 := fun (w' : World) (h : TabW w' (some ⟨gt, 0, none⟩) s.T S) => countM_any _ _ _ (ix s.ord j) w' h.tab (h.mild _)
                have a9 := fun (w' : World) (h : TabW w' (some ⟨gt, 0, none⟩) s.T S) => partM_any _ _ _ (ix s.ord k) 0 w' h.tab (h.mild _)
                have a10 := fun (w' : World) (h : TabW w' (some ⟨gt, 0, none⟩) s.T S) => partM_any _ _ _ (ix s.ord j) 0 w' h.tab (h.mild _)
                have a11 := htx (partT (s.T (ix s.ord k)) 0).1
                have a12 := htx (partT (s.T (ix s.ord j)) 0).1
                rw [← HT6.out] at a12
                rw [← t3] at a4
                rw [← t4] at a6
                rw [← t5] at a8
                unfold BoolIs at a1 a2
                clear t1 t2 t3 t4 t5 HT6 hrk1 hrk2 htx dx
                have e12 : ((bs (textT s.T 19 (partT (s.T (ix s.ord k)) 0).1)).toList == (bs (textT s.T 19 (partT (s.T (ix s.ord k)) 0).1)).toList) = true := by simp
                generalize partT (s.T (ix s.ord k)) 0 = pk at *
                generalize partT (s.T (ix s.ord j)) 0 = pj at *
                obtain ⟨pk1, pk2⟩ := pk
                obtain ⟨pj1, pj2⟩ := pj
                generalize (s.T (ix s.ord k)).kind = v3 at *
                generalize (s.T (ix s.ord k)).size = v4 at *
                generalize cntT (s.T (ix s.ord k)) = v5 at *
                generalize bs (textT s.T 19 (ix s.ord k)) = sx at *
                have e13 : (!(sx.toList == sx.toList)) = false := by simp
                have e14 : (sx.toList == sx.toList) = true := by simp
                have e15 : (sx != sx) = false := by show (!(sx.data == sx.data)) = false; simp
                generalize ix s.ord k = x at *
                generalize ix s.ord j = y at *
                have f3 : (v3 != v3) = false := by simp
                have f4 : (v4 != v4) = false := by simp
                have f5 : (v5 != v5) = false := by simp
                have aS : ∀ (u : Int) (w' : World), u = x ∨ u = y → TabW w' (some ⟨gt, 0, none⟩) s.T S → Calls Tryz.prog 18 #[.pointer (some ⟨gt, 0, none⟩), .int .u32 u] w' fun e w'' => e = .returned (.bool false) ∧ Below w'.heap.size w' w'' := fun u w' hu h => by
                  rcases hu with hu | hu
                  · rw [hu]; exact a1 w' h
                  · rw [hu]; exact a2 w' h
                have aK : ∀ (u : Int) (w' : World), u = x ∨ u = y → TabW w' (some ⟨gt, 0, none⟩) s.T S → Calls Tryz.prog 19 #[.pointer (some ⟨gt, 0, none⟩), .int .u32 u] w' fun e w'' => e = .returned (.int .u8 v3) ∧ Below w'.heap.size w' w'' := fun u w' hu h => by
                  rcases hu with hu | hu
                  · rw [hu]; exact a3 w' h
                  · rw [hu]; exact a4 w' h
                have aZ : ∀ (u : Int) (w' : World), u = x ∨ u = y → TabW w' (some ⟨gt, 0, none⟩) s.T S → Calls Tryz.prog 20 #[.pointer (some ⟨gt, 0, none⟩), .int .u32 u] w' fun e w'' => e = .returned (.int .i64 v4) ∧ Below w'.heap.size w' w'' := fun u w' hu h => by
                  rcases hu with hu | hu
                  · rw [hu]; exact a5 w' h
                  · rw [hu]; exact a6 w' h
                have aC : ∀ (u : Int) (w' : World), u = x ∨ u = y → TabW w' (some ⟨gt, 0, none⟩) s.T S → Calls Tryz.prog 21 #[.pointer (some ⟨gt, 0, none⟩), .int .u32 u] w' fun e w'' => e = .returned (.int .i64 v5) ∧ Below w'.heap.size w' w'' := fun u w' hu h => by
                  rcases hu with hu | hu
                  · rw [hu]; exact a7 w' h
                  · rw [hu]; exact a8 w' h
                clear a1 a2 a3 a4 a5 a6 a7 a8
                clear hlt
                go_wp2_with fail
                refine (hyt wr hbj).mono ?_
                rintro e w6 ⟨rfl, g6⟩
                have B6 := below_cut hbj g6 (Nat.le_refl _)
                have c0 := (g6.cell (p := ⟨b, off + k, none⟩) (Nat.lt_of_lt_of_le hbb hbj.size)).trans c0
                have c1 := (g6.cell (p := ⟨b, off + j, none⟩) (Nat.lt_of_lt_of_le hbb hbj.size)).trans c1
                have hbl : b < w6.heap.size := Nat.lt_of_lt_of_le hbb B6.size
                have hS0 : C2 w6 b (off + k) (off + j) x y w6 := ⟨c0, c1, Below.refl _ _⟩
                have hT6 := HT.out.step B6
                clear g6 hyt
                go_wp2_with fail
                go_region_held3 (C2 w6 b (off + k) (off + j) x y) (first | with_reducible exact hS0.drew_ | with_reducible assumption | with_reducible exact C2.call hbl (by assumption) hbq | fail) ((first | (go_at_call 18; (first | with_reducible refine (aS x _ (Or.inl rfl) (hT6.step (C2.is (by assumption)))).mono ?_ | with_reducible refine (aS y _ (Or.inr rfl) (hT6.step (C2.is (by assumption)))).mono ?_); rintro e w' ⟨rfl, hbq⟩) | (go_at_call 19; (first | with_reducible refine (aK x _ (Or.inl rfl) (hT6.step (C2.is (by assumption)))).mono ?_ | with_reducible refine (aK y _ (Or.inr rfl) (hT6.step (C2.is (by assumption)))).mono ?_); rintro e w' ⟨rfl, hbq⟩) | (go_at_call 20; (first | with_reducible refine (aZ x _ (Or.inl rfl) (hT6.step (C2.is (by assumption)))).mono ?_ | with_reducible refine (aZ y _ (Or.inr rfl) (hT6.step (C2.is (by assumption)))).mono ?_); rintro e w' ⟨rfl, hbq⟩) | (go_at_call 21; (first | with_reducible refine (aC x _ (Or.inl rfl) (hT6.step (C2.is (by assumption)))).mono ?_ | with_reducible refine (aC y _ (Or.inr rfl) (hT6.step (C2.is (by assumption)))).mono ?_); rintro e w' ⟨rfl, hbq⟩)))
                all_goals
                  have hH : C2 w6 b (off + k) (off + j) x y w' := by assumption
                  have B7 := below_cut B6 hH.2.2 (Nat.le_refl _)
                  have c0 := hH.1
                  have c1 := hH.2.1
                  obtain ⟨hm1, hm2⟩ := HJM.out
                  have hjm : ((j : Nat) : Int) < (m : Nat) := by omega
                  have hkm : ((k : Nat) : Int) < (m : Nat) := by omega
                  clear aS aK aZ aC hS0
                  generalize hsp : bs (textT s.T 19 pk1) = sp at *
                  have e16 : (!(sp.toList == sp.toList)) = false := by simp
                  have e17 : (sp != sp) = false := by show (!(sp.data == sp.data)) = false; simp
                  clear hsp
                  go_wp2_with fail
                  refine (a9 w' (HT.out.step B7)).mono ?_
                  rintro e w8 ⟨rfl, g8⟩
                  have B8 := below_cut B7 g8 (Nat.le_refl _)
                  have c1 := (g8.cell (p := ⟨b, off + j, none⟩) (Nat.lt_of_lt_of_le hbb B7.size)).trans c1
                  clear g8 c0 a9
                  go_wp2_with fail
                  refine (a10 w8 (HT.out.step B8)).mono ?_
                  rintro e w9 ⟨rfl, g9⟩
                  have B9 := below_cut B8 g9 (Nat.le_refl _)
                  clear g9 c1 a10
                  go_wp2_with fail
                  refine (a11 w9 B9).mono ?_
                  rintro e w10 ⟨rfl, g10⟩
                  have B10 := below_cut B9 g10 (Nat.le_refl _)
                  clear g10 a11
                  go_wp2_with fail
                  refine (a12 w10 B10).mono ?_
                  rintro e w11 ⟨rfl, g11⟩
                  have B11 := below_cut B10 g11 (Nat.le_refl _)
                  clear g11 a12
                  go_wp2_with fail
                  go_roundg (k - (j + 1))
                  case measure => omega
                  case rel => exact ⟨j + 1, by omega, by go_num, B11⟩
              · have dxy := bs_ne hXY
                clear hXY
                go_wp2_with fail
                refine (hyt wr hbj).mono ?_
                rintro e w6 ⟨rfl, g6⟩
                have B6 := below_cut hbj g6 (Nat.le_refl _)
                clear g6 hyt c1
                go_wp2_with fail
                go_roundg (k - (j + 1))
                case measure => omega
                case rel => exact ⟨j + 1, by omega, by go_num, B6⟩
            · have dj : decide (((j : Nat) : Int) < (k : Nat)) = false := by rw [decide_eq_false_iff_not]; omega
              clear HJ
              go_wp2_with fail
              go_roundg (m - (k + 1))
              case measure => omega
              case rel => exact ⟨k + 1, by omega, by go_num, hbj⟩
        · have d1 : decide (((k : Nat) : Int) < (m : Nat)) = true := by rw [decide_eq_true_eq]; omega
          have d2 : decide (((k : Nat) : Int) < 30) = false := by rw [decide_eq_false_iff_not]; omega
          go_wp2_with fail
          refine (haw2 wr (below_cut hb8 hbr (Nat.le_refl _))).mono ?_
          rintro e w5 ⟨rfl, g5⟩
          have B5 := below_cut (below_cut hb8 hbr (Nat.le_refl _)) g5 (Nat.le_refl _)
          clear g5
          go_wp2_with fail
          go_ret
          exact ⟨rfl, B5⟩
      · have d1 : decide (((k : Nat) : Int) < (m : Nat)) = false := by rw [decide_eq_false_iff_not]; omega
        go_wp2_with fail
        refine (haw2 wr (below_cut hb8 hbr (Nat.le_refl _))).mono ?_
        rintro e w5 ⟨rfl, g5⟩
        have B5 := below_cut (below_cut hb8 hbr (Nat.le_refl _)) g5 (Nat.le_refl _)
        clear g5
        go_wp2_with fail
        go_ret
        exact ⟨rfl, B5⟩
  · have h0 : r1 ≠ 0 := h0
    have hb5 := below_cut hb3 hb4 (Nat.le_refl _)
    have hb6 := hb5.alloc hb5.size (.cells #[.int .i64 r1, .int .i64 r2] 29)
    have kS := Blk.new w3 29 #[.int .i64 r1, .int .i64 r2]
    obtain ⟨q0, q1⟩ := two_ kS
    have e0 : (r1 != 0) = true := by simpa using h0
    have haw := awake_any _ (hP.step hb6)
    clear hnw h0
    go_wp2_with fail
    generalize (w3.alloc (.cells #[.int .i64 r1, .int .i64 r2] 29)) = W at *
    refine haw.mono ?_
    rintro e w5 ⟨rfl, hb9⟩
    have hb10 := below_cut hb6 hb9 (Nat.le_refl _)
    clear q0 q1
    go_wp2_with fail
    go_ret
    exact ⟨rfl, hb10⟩
end Go.Proofs.YtgdmbeamemdaiaaGreatDoor
