/- Walks: TypesSizes. -/
import Derived.Deep.RegionHeld3
import Derived.Test.YtgdmbeamemdaiaaGreatDoorTyEqual
import Derived.Test.YtgdmbeamemdaiaaGreatDoorTySizeLaw
import Derived.Test.YtgdmbeamemdaiaaGreatDoorTyTextsLaw
namespace Go.Proofs.YtgdmbeamemdaiaaGreatDoor
open Go.RowKit

set_option maxRecDepth 100000 in
set_option maxHeartbeats 2000000 in
theorem ahead_any (A : Option Addr) (n c : Nat) (l : List Int) (x : Int) (w : World) (hn : n ≤ 7100000000000) (hr : Reads w w.heap.size 1 A n (Ints .u32 l)) :
    Calls Tryz.prog 35 #[.slice A n c, .int .u32 x] w fun e w' => e = .returned (.bool (decide (x ∈ l))) ∧ w = w' := by
  have hl := hr.len
  have HR := Lib.hid hr
  clear hr
  go_enter Tryz.func35, Tryz.ntmps35
  go_wp2_with fail
  go_loopg [5] n (fun qq i wr => ∃ k : Nat, k + qq = n ∧ i = .int .i64 (k : Nat) ∧ Hid (x ∉ l.take k) ∧ w = wr)
  case atStart => exact ⟨0, by omega, rfl, Lib.hid (by simp), rfl⟩
  case round =>
    obtain ⟨k, hkq, rfl, hnin, rfl⟩ := hrel
    by_cases hlt : k < n
    · have d1 : decide (((k : Nat) : Int) < (n : Nat)) = true := by rw [decide_eq_true_eq]; omega
      have hlt2 : ((k : Nat) : Int) < (n : Nat) := by omega
      obtain ⟨b, off, rfl, hbb, hcc⟩ := HR.out.ints (by omega)
      have c0 := hcc k hlt
      by_cases he : ix l k = x
      · have e1 : (ix l k == x) = true := by simpa using he
        have hv : decide (x ∈ l) = true := by rw [decide_eq_true_eq, ← he]; exact ix_in (by omega)
        clear he hcc
        go_wp2_with fail
        go_ret
        exact ⟨by rw [hv]; rfl, rfl⟩
      · have e1 : (ix l k == x) = false := by simpa using he
        have hn2 : Hid (x ∉ l.take (k + 1)) := Lib.hid (by
          rw [List.take_succ_eq_append_getElem (by omega), List.mem_append, List.mem_singleton, ← ix_of (by omega)]
          rintro (h | h)
          · exact hnin.out h
          · exact he h.symm)
        clear he hcc
        go_wp2_with fail
        go_roundg (n - (k + 1))
        case measure => omega
        case rel => exact ⟨k + 1, by omega, by go_num, hn2, rfl⟩
    · have d1 : decide (((k : Nat) : Int) < (n : Nat)) = false := by rw [decide_eq_false_iff_not]; omega
      have hv : decide (x ∈ l) = false := by
        rw [decide_eq_false_iff_not]
        have := hnin.out
        rwa [List.take_of_length_le (by omega)] at this
      go_wp2_with fail
      go_ret
      exact ⟨by rw [hv]; rfl, rfl⟩
/-- the first of some numbers -/
theorem reads_cut {w : World} {B n : Nat} {b off : Nat} {l : List Int} (h : ∀ k, k < n → w.cell? ⟨b, off + k, none⟩ = some (.int .u32 (ix l k))) (hb : b < B) (hl : l.length = n) {k : Nat} (hk : k ≤ n) : Reads w B 1 (some ⟨b, off, none⟩) k (Ints .u32 (l.take k)) := by
  refine ⟨by rw [Ints_length, List.length_take]; omega, fun h0 => ⟨⟨b, off, none⟩, rfl, hb, fun j v hv => ?_⟩⟩
  rw [add_plain]
  have hj : j < k := by
    have := (List.getElem?_eq_some_iff.1 hv).1
    rw [Ints_length, List.length_take] at this
    omega
  rw [h j (by omega)]
  rw [Ints_at (by rw [List.length_take]; omega)] at hv
  rw [← hv]
  have h1 : j < (l.take k).length := by rw [List.length_take]; omega
  have h2 : j < l.length := by omega
  rw [ix_of h1, ix_of h2, List.getElem_take]
/-- one cell, and nothing else turned -/
abbrev C1 (w1 : World) (b o1 : Nat) (x : Int) (w' : World) : Prop := w'.cell? ⟨b, o1, none⟩ = some (.int .u32 x) ∧ Below w1.heap.size w1 w'
section
variable {w1 w2 w3 : World} {b o1 : Nat} {x : Int}
theorem C1.drew_ (h : C1 w1 b o1 x w2) : C1 w1 b o1 x w2.drew := ⟨h.1, h.2.drew⟩
theorem C1.call (hb : b < w1.heap.size) (h : C1 w1 b o1 x w2) (hq : Below w2.heap.size w2 w3) : C1 w1 b o1 x w3 :=
  ⟨(hq.cell (p := ⟨b, o1, none⟩) (Nat.lt_of_lt_of_le hb h.2.size)).trans h.1, below_cut h.2 hq (Nat.le_refl _)⟩
theorem C1.is (h : C1 w1 b o1 x w2) : Below w1.heap.size w1 w2 := h.2
end
set_option maxRecDepth 100000 in
set_option maxHeartbeats 4000000 in
theorem law_sizes (gen bound : Int) (A : Option Addr) (n c : Nat) (ls : List InstA) (w : World) (hM : ModS w w.heap.size A n ls) (hn : n ≤ 3600000000000) (hP : Pow w)
    (hN : ∀ x ∈ ls, (∀ a ∈ x.1.2.2.2, 0 ≤ a.2.1 ∧ a.2.1 < 4294967296) ∧ (0 ≤ x.1.1 ∧ x.1.1 < 65536)) :
    Calls Tryz.prog 7 #[.agg (modC gen bound A n c)] w (BoolIs true w) := by
  have hb1 := (Below.refl w.heap.size w).alloc (Nat.le_refl _) (.cells (modC gen bound A n c) 25)
  have k1 := Blk.new w 25 (modC gen bound A n c)
  have hcp := copyModule_any gen bound A n c ls _ (hM.step hb1) hn
  obtain ⟨L, hL⟩ : ∃ L, L = ls.map (·.1) := ⟨_, rfl⟩
  have hu : ∀ i ∈ L, ∀ a ∈ i.2.2.2, 0 ≤ a.2.1 ∧ a.2.1 < 4294967296 := fun i hi => by
    rw [hL] at hi
    obtain ⟨x, hx, rfl⟩ := List.mem_map.1 hi
    exact (hN x hx).1
  have hop : ∀ i ∈ L, 0 ≤ i.1 ∧ i.1 < 65536 := fun i hi => by
    rw [hL] at hi
    obtain ⟨x, hx, rfl⟩ := List.mem_map.1 hi
    exact (hN x hx).2
  rw [← hL] at hcp
  clear hL hM hN
  unfold modC at *
  obtain ⟨z0, z1, z2⟩ := three_ k1
  go_enter Tryz.func7, Tryz.ntmps7
  go_wp2_with fail
  refine hcp.mono ?_
  rintro e w2 ⟨A', c', ls', rfl, hM', hL', hb2⟩
  have hb3 := below_cut hb1 hb2 (Nat.le_refl _)
  have hnw := new_copied (gen := gen) (bound := bound) (c := c') hM' hL' (hP.step hb3) hu hop
  generalize newM bound L = r at *
  obtain ⟨r1, r2, s⟩ := r
  clear hcp hM' hL' hu hop z0 z1 z2 k1
  go_wp2_with fail
  refine hnw.mono ?_
  rintro e w3 ⟨hb4, ⟨h0, hw, gt, rfl, hG⟩ | ⟨h0, rfl⟩⟩
  · have h0 : r1 = 0 := h0
    have hw : WellS s := hw
    have hG : TabG w3 (some ⟨gt, 0, none⟩) s := hG
    have hb5 := below_cut hb3 hb4 (Nat.le_refl _)
    have hbs := (Below.refl w3.heap.size w3).alloc (Nat.le_refl _) (.cells #[.int .i64 0, .int .i64 0] 29)
    have hb6 := hb5.alloc hb5.size (.cells #[.int .i64 0, .int .i64 0] 29)
    have kS := Blk.new w3 29 #[.int .i64 0, .int .i64 0]
    obtain ⟨S, hT, hI⟩ := hG.step hbs
    obtain ⟨q0, q1⟩ := two_ kS
    have hids := idsT_any (some ⟨gt, 0, none⟩) s.ord _ hI
    have hor : s.ord.length ≤ 7100000000000 := by
      rcases hI with ⟨h, -⟩ | ⟨g, A, m, c, -, -, h, hm⟩
      · cases h
      · have := h.len; omega
    clear hnw hG hI h0
    go_wp2_with fail
    generalize (w3.alloc (.cells #[.int .i64 0, .int .i64 0] 29)) = W at *
    refine hids.mono ?_
    rintro e w4 ⟨Ai, ci, rfl, ho, hb7⟩
    have hb8 := below_cut hb6 hb7 (Nat.le_refl _)
    have hT4 := hT.step hb7
    have hrd := Reads.of_own ho
    have hcap := own_cap ho
    clear q0 q1 hids kS
    have HW := Lib.hid hw
    have HT := Lib.hid hT4
    have HR := Lib.hid hrd
    have HLen := Lib.hid (rfl : s.ord.length = s.ord.length)
    clear hw hT hT4 hrd ho
    obtain ⟨m, hm⟩ : ∃ m, m = s.ord.length := ⟨_, rfl⟩
    rw [← hm] at HR hor hcap ⊢
    have HM := Lib.hid hm
    clear hm HLen
    have haw2 := fun (w' : World) (h : Below w.heap.size w w') => awake_any w' (hP.step h)
    have hY := HW.out.typed
    have hSz := fun (u : Int) (w' : World) (h : TabW w' (some ⟨gt, 0, none⟩) s.T S) => sizeM_any _ _ _ u w' h.tab
    have hcell : ∀ k, k < m → ∃ b off, Ai = some ⟨b, off, none⟩ ∧ b < w4.heap.size ∧ ∀ k, k < m → w4.cell? ⟨b, off + k, none⟩ = some (.int .u32 (ix s.ord k)) := fun k hk => by
      obtain ⟨b, off, h1, h2, h3⟩ := HR.out.ints (by omega)
      exact ⟨b, off, h1, h2, h3⟩
    have HC := Lib.hid hcell
    have HY := Lib.hid hY
    clear hcell HR hY
    go_wp2_with fail
    go_loopg [6] m (fun qq i wr => ∃ k : Nat, k + qq = m ∧ i = .int .i64 (k : Nat) ∧ Below w4.heap.size w4 wr)
    case atStart => exact ⟨0, by omega, rfl, Below.refl _ _⟩
    case round =>
      obtain ⟨k, hkq, rfl, hbr⟩ := hrel
      by_cases hlt : k < m
      · have d1 : decide (((k : Nat) : Int) < (m : Nat)) = true := by rw [decide_eq_true_eq]; omega
        have hlt2 : ((k : Nat) : Int) < (m : Nat) := by omega
        obtain ⟨b, off, rfl, hbb, hcc⟩ := HC.out k hlt
        have HCC := Lib.hid hcc
        have c0 := (hbr.cell (p := ⟨b, off + k, none⟩) hbb).trans (hcc k hlt)
        have hmk := HM.out
        have hks : k < s.ord.length := by omega
        have hok := HW.out.made k hks
        have hml := HT.out.mild (ix s.ord k)
        have hsz := HW.out.size
        rw [← ix_of hks] at hok
        have hSO := hok.sizes HY.out
        have hcnt := fun (w' : World) (h : TabW w' (some ⟨gt, 0, none⟩) s.T S) => countM_any _ _ _ (ix s.ord k) w' h.tab (h.mild _)
        have hknd := fun (w' : World) (h : TabW w' (some ⟨gt, 0, none⟩) s.T S) => kindM_any _ _ _ (ix s.ord k) w' h.tab
        have hPl := fun (w' : World) (h : TabW w' (some ⟨gt, 0, none⟩) s.T S) => plainM_any _ _ _ (ix s.ord k) w' h.tab
        have hprt := fun (j : Int) (w' : World) (h : TabW w' (some ⟨gt, 0, none⟩) s.T S) => partM_any _ _ _ (ix s.ord k) j w' h.tab (h.mild _)
        have hoff := fun (j : Int) (w' : World) (h : TabW w' (some ⟨gt, 0, none⟩) s.T S) => offM_any _ _ _ (ix s.ord k) j w' h
        have hSx := fun (w' : World) (h : TabW w' (some ⟨gt, 0, none⟩) s.T S) => hSz (ix s.ord k) w' h
        have hrc : ∀ (w' : World), Below w4.heap.size w4 w' → Reads w' w'.heap.size 1 (some ⟨b, off, none⟩) k (Ints .u32 (s.ord.take k)) := fun w' h => reads_cut (fun j hj => (h.cell (p := ⟨b, off + j, none⟩) hbb).trans (HCC.out j hj)) (Nat.lt_of_lt_of_le hbb h.size) HM.out.symm (by omega)
        have hcx : ∀ (w' : World), Below w4.heap.size w4 w' → w'.cell? ⟨b, off + k, none⟩ = some (.int .u32 (ix s.ord k)) := fun w' h => (h.cell (p := ⟨b, off + k, none⟩) hbb).trans (HCC.out k hlt)
        have HCX := Lib.hid hcx
        have HRC := Lib.hid hrc
        have hsmB : ∀ j : Nat, (j : Int) ≤ 7200000000000 → 0 ≤ sumP s.T (s.T (ix s.ord k)) j ∧ sumP s.T (s.T (ix s.ord k)) j ≤ 4096 * (j : Int) := fun j hj => by
          clear hj
          induction j with
          | zero => exact ⟨Int.le_refl _, by show (0 : Int) ≤ _; omega⟩
          | succ j ih =>
            have := hsz (partN (s.T (ix s.ord k)) j)
            show 0 ≤ sumP s.T (s.T (ix s.ord k)) j + _ ∧ sumP s.T (s.T (ix s.ord k)) j + _ ≤ _
            omega
        have HSB := Lib.hid hsmB
        have HSZ := Lib.hid hsz
        have hkd := HW.out.kind_in (ix_in hks)
        clear hcx hrc hcc hsmB hsz hok hks hmk
        generalize s.T (ix s.ord k) = X at *
        generalize hx : ix s.ord k = x at *
        clear hx
        obtain ⟨N, hN⟩ : ∃ N : Nat, cntT X = N := ⟨(cntT X).toNat, by unfold cntT; have := hml.lo; omega⟩
        have hNb : N ≤ 7200000000000 := by unfold cntT at hN; have := hml.hi; have := hml.len; omega
        clear hml
        rw [hN] at hcnt
        have HS := Lib.hid hSO
        have HN := Lib.hid hN
        have hkd0 : 0 ≤ X.kind := by omega
        clear hSO hN hkd
        go_wp2_with fail
        refine (hcnt wr (HT.out.step hbr)).mono ?_
        rintro e w5 ⟨rfl, g5⟩
        have B5 := below_cut hbr g5 (Nat.le_refl _)
        have c0 := HCX.out _ B5
        clear g5 hcnt
        go_wp2_with fail
        refine (hknd w5 (HT.out.step B5)).mono ?_
        rintro e w6 ⟨rfl, g6⟩
        have B6 := below_cut B5 g6 (Nat.le_refl _)
        clear g6 hknd c0
        go_wp2_with fail
        go_loopg [9, 10] N (fun qq a i wr => ∃ j : Nat, j + qq = N ∧ a = .int .i64 (sumP s.T X j) ∧ i = .int .i64 (j : Nat) ∧ Below w4.heap.size w4 wr)
        case atStart => exact ⟨0, by omega, rfl, rfl, B6⟩
        case round =>
          obtain ⟨j, hjq, rfl, rfl, hbj⟩ := hrel
          by_cases hj : j < N
          · have dj : decide (((j : Nat) : Int) < (N : Nat)) = true := by rw [decide_eq_true_eq]; omega
            have hp := HS.out.has j (by rw [HN.out]; omega)
            have ho := HS.out.off j (by rw [HN.out]; omega)
            have hpj := hprt j
            have hof := hoff j
            rw [hp.1] at hpj
            rw [ho.1] at hof
            have hsb := HSB.out j (by omega)
            have hkc : k ≤ ci := by omega
            have hsp := HSZ.out (partT X j).1
            have hin : decide ((partT X j).1 ∈ s.ord.take k) = true := by rw [decide_eq_true_eq]; exact hp.2
            have hst : sumP s.T X (j + 1) = sumP s.T X j + (s.T (partT X j).1).size := rfl
            have ho2 := Lib.hid ho.2
            have c0 := HCX.out _ hbj
            have hwr : IntKind.i64.wrap (sumP s.T X j + (s.T (partT X j).1).size) = sumP s.T X j + (s.T (partT X j).1).size := IntWalk.i64_in _ (by omega)
            have hah := fun (cc : Nat) (w' : World) (h : Below w4.heap.size w4 w') => ahead_any (some ⟨b, off, none⟩) k cc (s.ord.take k) (partT X j).1 w' (by omega) (HRC.out w' h)
            rw [hin] at hah
            have HST := Lib.hid hst
            clear hp ho hin hst hsp
            go_wp2_with fail
            refine (hpj wr (HT.out.step hbj)).mono ?_
            rintro e w7 ⟨rfl, g7⟩
            have B7 := below_cut hbj g7 (Nat.le_refl _)
            have c0 := HCX.out _ B7
            clear g7 hpj
            go_wp2_with fail
            refine (hah _ w7 B7).mono ?_
            rintro e w8 ⟨rfl, rfl⟩
            clear hah
            by_cases hk : X.kind = 4 ∨ X.kind = 5 ∨ X.kind = 6
            · have e1 : decide (X.kind = 4 ∨ X.kind = 5 ∨ X.kind = 6) = true := by rw [decide_eq_true_eq]; exact hk
              rw [e1, ho2.out hk] at hof
              clear e1 ho2
              have esm : (sumP s.T X j != sumP s.T X j) = false := by simp
              rcases hk with hk | hk | hk
              · have k4 : (X.kind == 4) = true := by rw [hk]; rfl
                clear hk
                go_wp2_with fail
                refine (hof w7 (HT.out.step B7)).mono ?_
                rintro e w9 ⟨rfl, g9⟩
                have B9 := below_cut B7 g9 (Nat.le_refl _)
                clear g9 hof c0
                go_wp2_with fail
                refine (hSz (partT X j).1 w9 (HT.out.step B9)).mono ?_
                rintro e w10 ⟨rfl, g10⟩
                have B10 := below_cut B9 g10 (Nat.le_refl _)
                clear g10
                go_wp2_with fail
                go_roundg (N - (j + 1))
                case measure => omega
                case rel => exact ⟨j + 1, by omega, by rw [HST.out], by go_num, B10⟩
              · have k4 : (X.kind == 4) = false := by rw [hk]; rfl
                have k5 : (X.kind == 5) = true := by rw [hk]; rfl
                clear hk
                go_wp2_with fail
                refine (hof w7 (HT.out.step B7)).mono ?_
                rintro e w9 ⟨rfl, g9⟩
                have B9 := below_cut B7 g9 (Nat.le_refl _)
                clear g9 hof c0
                go_wp2_with fail
                refine (hSz (partT X j).1 w9 (HT.out.step B9)).mono ?_
                rintro e w10 ⟨rfl, g10⟩
                have B10 := below_cut B9 g10 (Nat.le_refl _)
                clear g10
                go_wp2_with fail
                go_roundg (N - (j + 1))
                case measure => omega
                case rel => exact ⟨j + 1, by omega, by rw [HST.out], by go_num, B10⟩
              · have k4 : (X.kind == 4) = false := by rw [hk]; rfl
                have k5 : (X.kind == 5) = false := by rw [hk]; rfl
                have k6 : (X.kind == 6) = true := by rw [hk]; rfl
                clear hk
                go_wp2_with fail
                refine (hof w7 (HT.out.step B7)).mono ?_
                rintro e w9 ⟨rfl, g9⟩
                have B9 := below_cut B7 g9 (Nat.le_refl _)
                clear g9 hof c0
                go_wp2_with fail
                refine (hSz (partT X j).1 w9 (HT.out.step B9)).mono ?_
                rintro e w10 ⟨rfl, g10⟩
                have B10 := below_cut B9 g10 (Nat.le_refl _)
                clear g10
                go_wp2_with fail
                go_roundg (N - (j + 1))
                case measure => omega
                case rel => exact ⟨j + 1, by omega, by rw [HST.out], by go_num, B10⟩
            · have e1 : decide (X.kind = 4 ∨ X.kind = 5 ∨ X.kind = 6) = false := by rw [decide_eq_false_iff_not]; exact hk
              rw [e1] at hof
              have k4 : (X.kind == 4) = false := by rw [beq_eq_false_iff_ne]; omega
              have k5 : (X.kind == 5) = false := by rw [beq_eq_false_iff_ne]; omega
              have k6 : (X.kind == 6) = false := by rw [beq_eq_false_iff_ne]; omega
              generalize (offT s.T X j).1 = ov at *
              clear e1 hk ho2
              go_wp2_with fail
              refine (hof w7 (HT.out.step B7)).mono ?_
              rintro e w9 ⟨rfl, g9⟩
              have B9 := below_cut B7 g9 (Nat.le_refl _)
              clear g9 hof c0
              go_wp2_with fail
              refine (hSz (partT X j).1 w9 (HT.out.step B9)).mono ?_
              rintro e w10 ⟨rfl, g10⟩
              have B10 := below_cut B9 g10 (Nat.le_refl _)
              clear g10
              go_wp2_with fail
              go_roundg (N - (j + 1))
              case measure => omega
              case rel => exact ⟨j + 1, by omega, by rw [HST.out], by go_num, B10⟩
          · have dj : decide (((j : Nat) : Int) < (N : Nat)) = false := by rw [decide_eq_false_iff_not]; omega
            obtain rfl : j = N := by omega
            have hw := HS.out.whole
            have hmo := HS.out.most
            have hsx := HSB.out j (by omega)
            have eN := HN.out
            rw [eN] at hw
            have c0 := HCX.out _ hbj
            have hbl : b < wr.heap.size := Nat.lt_of_lt_of_le hbb hbj.size
            have hS0 : C1 wr b (off + k) x wr := ⟨c0, Below.refl _ _⟩
            have hT7 := HT.out.step hbj
            have g4 : decide (X.size > 4096) = false := by rw [decide_eq_false_iff_not]; omega
            have gP : (decide (0 < X.size) != decide (X.size > 0)) = false := by simp
            clear HS HSB HCX HRC hprt hoff
            obtain ⟨wb, hwb⟩ : ∃ wb, wb = (decide (0 < j) && ((X.kind != 7) && (X.kind != 8))) := ⟨_, rfl⟩
            have HWB := Lib.hid hwb
            have HW := Lib.hid hw
            clear hw hwb hmo hsx
            go_upto_region 21 with fail
            go_cut [15] (fun v wx => v = .bool wb ∧ wr = wx)
            case first =>
              by_cases hj0 : 0 < j
              · have n0 : decide (((j : Nat) : Int) > 0) = true := by rw [decide_eq_true_eq]; omega
                by_cases h7 : X.kind = 7
                · have n7 : (X.kind != 7) = false := by rw [h7]; rfl
                  have hv : wb = false := by rw [HWB.out, n7]; simp
                  clear h7
                  go_wp2_with fail
                  go_meet
                  exact ⟨by rw [hv], rfl⟩
                by_cases h8 : X.kind = 8
                · have n7 : (X.kind != 7) = true := by simpa using h7
                  have n8 : (X.kind != 8) = false := by rw [h8]; rfl
                  have hv : wb = false := by rw [HWB.out, n8]; simp
                  clear h7 h8
                  go_wp2_with fail
                  go_meet
                  exact ⟨by rw [hv], rfl⟩
                have n7 : (X.kind != 7) = true := by simpa using h7
                have n8 : (X.kind != 8) = true := by simpa using h8
                have hv : wb = true := by rw [HWB.out, n7, n8]; simpa using hj0
                clear h7 h8
                go_wp2_with fail
                go_meet
                exact ⟨by rw [hv], rfl⟩
              · have n0 : decide (((j : Nat) : Int) > 0) = false := by rw [decide_eq_false_iff_not]; omega
                have hv : wb = false := by rw [HWB.out]; simp; omega
                go_wp2_with fail
                go_meet
                exact ⟨by rw [hv], rfl⟩
            obtain ⟨rfl, rfl⟩ := hcut
            cases wb with
            | true =>
              have hb := HWB.out.symm
              simp only [Bool.and_eq_true, decide_eq_true_eq, bne_iff_ne] at hb
              have e : X.size = sumP s.T X j := HW.out (by omega) hb.2.1 hb.2.2
              rw [← e]
              have es : (X.size != X.size) = false := by simp
              clear e hb HW HWB
              go_upto_region 22 with fail
              go_region_held3 (C1 wr b (off + k) x) (first | with_reducible exact hS0.drew_ | with_reducible assumption | with_reducible exact C1.call hbl (by assumption) hbq | fail) ((first | (go_at_call 20; (with_reducible refine (hSx _ (hT7.step (C1.is (by assumption)))).mono ?_); rintro e w' ⟨rfl, hbq⟩) | (go_at_call 37; (with_reducible refine (hPl _ (hT7.step (C1.is (by assumption)))).mono ?_); rintro e w' ⟨rfl, hbq⟩)))
              all_goals
                have B9 := below_cut hbj (C1.is (by assumption)) (Nat.le_refl _)
                go_wp2_with fail
                go_roundg (m - (k + 1))
                case measure => omega
                case rel => exact ⟨k + 1, by omega, by go_num, B9⟩
            | false =>
              clear HW HWB
              go_upto_region 22 with fail
              refine wp_region_held_drew (S := C1 wr b (off + k) x) (by kernel_rfl) hS0.drew_ (fun hHeld => ?_)
              refine wpAnyH_take (i := 0) (oi := _) (v := ?_) rfl (by kernel_rfl) (by kernel_rfl) (by kernel_rfl) (fun _ _ _ h => h) (Or.inl ⟨by rfl, ?_⟩) hHeld ?_
              rotate_left
              · intro w' hSw
                go_simp
                try with_reducible rfl
              (try simp only [Act.put, List.setIfInBounds_toArray, List.set_cons_zero, List.set_cons_succ, List.getElem_toArray, List.getElem_cons_zero])
              refine wpAnyH_take (i := 1) (oi := _) (v := ?_) rfl (by kernel_rfl) (by kernel_rfl) (by kernel_rfl) (fun _ _ _ h => h) (Or.inl ⟨by rfl, ?_⟩) hHeld ?_
              rotate_left
              · intro w' hSw
                go_simp
                try with_reducible rfl
              (try simp only [Act.put, List.setIfInBounds_toArray, List.set_cons_zero, List.set_cons_succ, List.getElem_toArray, List.getElem_cons_succ, List.getElem_cons_zero])
              refine wpAnyH_take (i := 2) (oi := _) (v := ?_) rfl (by kernel_rfl) (by kernel_rfl) (by kernel_rfl) (fun _ _ _ h => h) (Or.inl ⟨by rfl, ?_⟩) hHeld ?_
              rotate_left
              · intro w' hSw
                go_simp
                try with_reducible rfl
              (try simp only [Act.put, List.setIfInBounds_toArray, List.set_cons_zero, List.set_cons_succ, List.getElem_toArray, List.getElem_cons_succ, List.getElem_cons_zero])
              refine wpAnyH_take (i := 3) (oi := _) (v := ?_) rfl (by kernel_rfl) (by kernel_rfl) (by kernel_rfl) (fun _ _ _ h => h) (Or.inl ⟨by rfl, ?_⟩) hHeld ?_
              rotate_left
              · intro w' hSw
                go_simp
                try with_reducible rfl
              (try simp only [Act.put, List.setIfInBounds_toArray, List.set_cons_zero, List.set_cons_succ, List.getElem_toArray, List.getElem_cons_succ, List.getElem_cons_zero])
              refine wpAnyH_take (i := 4) (oi := _) (v := ?_) rfl (by kernel_rfl) (by kernel_rfl) (by kernel_rfl) (fun _ _ _ h => h) (Or.inl ⟨by rfl, ?_⟩) hHeld ?_
              rotate_left
              · intro w' hSw
                have hc0 := hSw.1
                go_simp
                try with_reducible rfl
              (try simp only [Act.put, List.setIfInBounds_toArray, List.set_cons_zero, List.set_cons_succ, List.getElem_toArray, List.getElem_cons_succ, List.getElem_cons_zero])
              refine wpAnyH_ready (rs := [5]) (by kernel_rfl) (by simp) ?_
              refine AllReadyH.cons (o := _) rfl (fun K hK => ?_) AllReadyH.nil
              go_simp
              go_at_call 20
              (with_reducible refine (hSx _ (hT7.step (C1.is hHeld))).mono ?_)
              rintro e w' ⟨rfl, hbq⟩
              (try go_wp2_with fail)
              have hHeld2 := C1.call hbl hHeld hbq
              refine hK.out _ _ hHeld2 (fun hHeld => ?_)
              clear hK K hHeld2
              (try simp only [Act.put, List.setIfInBounds_toArray, List.set_cons_zero, List.set_cons_succ, List.getElem_toArray, List.getElem_cons_succ, List.getElem_cons_zero])
              refine wpAnyH_take (i := 6) (oi := _) (v := ?_) rfl (by kernel_rfl) (by kernel_rfl) (by kernel_rfl) (fun _ _ _ h => h) (Or.inl ⟨by rfl, ?_⟩) hHeld ?_
              rotate_left
              · intro w' hSw
                go_simp
                try with_reducible rfl
              (try simp only [Act.put, List.setIfInBounds_toArray, List.set_cons_zero, List.set_cons_succ, List.getElem_toArray, List.getElem_cons_succ, List.getElem_cons_zero])
              refine wpAnyH_take (i := 7) (oi := _) (v := ?_) rfl (by kernel_rfl) (by kernel_rfl) (by kernel_rfl) (fun _ _ _ h => h) (Or.inl ⟨by rfl, ?_⟩) hHeld ?_
              rotate_left
              · intro w' hSw
                go_simp
                try with_reducible rfl
              (try simp only [Act.put, List.setIfInBounds_toArray, List.set_cons_zero, List.set_cons_succ, List.getElem_toArray, List.getElem_cons_succ, List.getElem_cons_zero])
              refine wpAnyH_take (i := 8) (oi := _) (v := ?_) rfl (by kernel_rfl) (by kernel_rfl) (by kernel_rfl) (fun _ _ _ h => h) (Or.inl ⟨by rfl, ?_⟩) hHeld ?_
              rotate_left
              · intro w' hSw
                go_simp
                try with_reducible rfl
              (try simp only [Act.put, List.setIfInBounds_toArray, List.set_cons_zero, List.set_cons_succ, List.getElem_toArray, List.getElem_cons_succ, List.getElem_cons_zero])
              refine wpAnyH_take (i := 9) (oi := _) (v := ?_) rfl (by kernel_rfl) (by kernel_rfl) (by kernel_rfl) (fun _ _ _ h => h) (Or.inl ⟨by rfl, ?_⟩) hHeld ?_
              rotate_left
              · intro w' hSw
                go_simp
                try with_reducible rfl
              (try simp only [Act.put, List.setIfInBounds_toArray, List.set_cons_zero, List.set_cons_succ, List.getElem_toArray, List.getElem_cons_succ, List.getElem_cons_zero])
              refine wpAnyH_take (i := 10) (oi := _) (v := undef) rfl (by kernel_rfl) (by kernel_rfl) (by kernel_rfl) (fun _ _ _ h => h) (Or.inr ⟨by rfl, rfl⟩) hHeld ?_
              (try simp only [Act.put, List.setIfInBounds_toArray, List.set_cons_zero, List.set_cons_succ, List.getElem_toArray, List.getElem_cons_succ, List.getElem_cons_zero])
              refine wpAnyH_take (i := 11) (oi := _) (v := undef) rfl (by kernel_rfl) (by kernel_rfl) (by kernel_rfl) (fun _ _ _ h => h) (Or.inr ⟨by rfl, rfl⟩) hHeld ?_
              (try simp only [Act.put, List.setIfInBounds_toArray, List.set_cons_zero, List.set_cons_succ, List.getElem_toArray, List.getElem_cons_succ, List.getElem_cons_zero])
              refine wpAnyH_take (i := 12) (oi := _) (v := undef) rfl (by kernel_rfl) (by kernel_rfl) (by kernel_rfl) (fun _ _ _ h => h) (Or.inr ⟨by rfl, rfl⟩) hHeld ?_
              (try simp only [Act.put, List.setIfInBounds_toArray, List.set_cons_zero, List.set_cons_succ, List.getElem_toArray, List.getElem_cons_succ, List.getElem_cons_zero])
              refine wpAnyH_take (i := 13) (oi := _) (v := undef) rfl (by kernel_rfl) (by kernel_rfl) (by kernel_rfl) (fun _ _ _ h => h) (Or.inr ⟨by rfl, rfl⟩) hHeld ?_
              (try simp only [Act.put, List.setIfInBounds_toArray, List.set_cons_zero, List.set_cons_succ, List.getElem_toArray, List.getElem_cons_succ, List.getElem_cons_zero])
              refine wpAnyH_take (i := 14) (oi := _) (v := undef) rfl (by kernel_rfl) (by kernel_rfl) (by kernel_rfl) (fun _ _ _ h => h) (Or.inr ⟨by rfl, rfl⟩) hHeld ?_
              (try simp only [Act.put, List.setIfInBounds_toArray, List.set_cons_zero, List.set_cons_succ, List.getElem_toArray, List.getElem_cons_succ, List.getElem_cons_zero])
              refine wpAnyH_take (i := 15) (oi := _) (v := undef) rfl (by kernel_rfl) (by kernel_rfl) (by kernel_rfl) (fun _ _ _ h => h) (Or.inr ⟨by rfl, rfl⟩) hHeld ?_
              (try simp only [Act.put, List.setIfInBounds_toArray, List.set_cons_zero, List.set_cons_succ, List.getElem_toArray, List.getElem_cons_succ, List.getElem_cons_zero])
              refine wpAnyH_take (i := 16) (oi := _) (v := undef) rfl (by kernel_rfl) (by kernel_rfl) (by kernel_rfl) (fun _ _ _ h => h) (Or.inr ⟨by rfl, rfl⟩) hHeld ?_
              (try simp only [Act.put, List.setIfInBounds_toArray, List.set_cons_zero, List.set_cons_succ, List.getElem_toArray, List.getElem_cons_succ, List.getElem_cons_zero])
              refine wpAnyH_take (i := 17) (oi := _) (v := undef) rfl (by kernel_rfl) (by kernel_rfl) (by kernel_rfl) (fun _ _ _ h => h) (Or.inr ⟨by rfl, rfl⟩) hHeld ?_
              (try simp only [Act.put, List.setIfInBounds_toArray, List.set_cons_zero, List.set_cons_succ, List.getElem_toArray, List.getElem_cons_succ, List.getElem_cons_zero])
              refine wpAnyH_take (i := 18) (oi := _) (v := ?_) rfl (by kernel_rfl) (by kernel_rfl) (by kernel_rfl) (fun _ _ _ h => h) (Or.inl ⟨by rfl, ?_⟩) hHeld ?_
              rotate_left
              · intro w' hSw
                go_simp
                try with_reducible rfl
              (try simp only [Act.put, List.setIfInBounds_toArray, List.set_cons_zero, List.set_cons_succ, List.getElem_toArray, List.getElem_cons_succ, List.getElem_cons_zero])
              refine wpAnyH_take (i := 19) (oi := _) (v := ?_) rfl (by kernel_rfl) (by kernel_rfl) (by kernel_rfl) (fun _ _ _ h => h) (Or.inl ⟨by rfl, ?_⟩) hHeld ?_
              rotate_left
              · intro w' hSw
                go_simp
                try with_reducible rfl
              (try simp only [Act.put, List.setIfInBounds_toArray, List.set_cons_zero, List.set_cons_succ, List.getElem_toArray, List.getElem_cons_succ, List.getElem_cons_zero])
              refine wpAnyH_take (i := 20) (oi := _) (v := ?_) rfl (by kernel_rfl) (by kernel_rfl) (by kernel_rfl) (fun _ _ _ h => h) (Or.inl ⟨by rfl, ?_⟩) hHeld ?_
              rotate_left
              · intro w' hSw
                go_simp
                try with_reducible rfl
              (try simp only [Act.put, List.setIfInBounds_toArray, List.set_cons_zero, List.set_cons_succ, List.getElem_toArray, List.getElem_cons_succ, List.getElem_cons_zero])
              refine wpAnyH_take (i := 21) (oi := _) (v := ?_) rfl (by kernel_rfl) (by kernel_rfl) (by kernel_rfl) (fun _ _ _ h => h) (Or.inl ⟨by rfl, ?_⟩) hHeld ?_
              rotate_left
              · intro w' hSw
                go_simp
                try with_reducible rfl
              (try simp only [Act.put, List.setIfInBounds_toArray, List.set_cons_zero, List.set_cons_succ, List.getElem_toArray, List.getElem_cons_succ, List.getElem_cons_zero])
              refine wpAnyH_take (i := 22) (oi := _) (v := ?_) rfl (by kernel_rfl) (by kernel_rfl) (by kernel_rfl) (fun _ _ _ h => h) (Or.inl ⟨by rfl, ?_⟩) hHeld ?_
              rotate_left
              · intro w' hSw
                go_simp
                try with_reducible rfl
              (try simp only [Act.put, List.setIfInBounds_toArray, List.set_cons_zero, List.set_cons_succ, List.getElem_toArray, List.getElem_cons_succ, List.getElem_cons_zero])
              refine wpAnyH_take (i := 23) (oi := _) (v := ?_) rfl (by kernel_rfl) (by kernel_rfl) (by kernel_rfl) (fun _ _ _ h => h) (Or.inl ⟨by rfl, ?_⟩) hHeld ?_
              rotate_left
              · intro w' hSw
                go_simp
                try with_reducible rfl
              (try simp only [Act.put, List.setIfInBounds_toArray, List.set_cons_zero, List.set_cons_succ, List.getElem_toArray, List.getElem_cons_succ, List.getElem_cons_zero])
              refine wpAnyH_take (i := 24) (oi := _) (v := ?_) rfl (by kernel_rfl) (by kernel_rfl) (by kernel_rfl) (fun _ _ _ h => h) (Or.inl ⟨by rfl, ?_⟩) hHeld ?_
              rotate_left
              · intro w' hSw
                go_simp
                try with_reducible rfl
              (try simp only [Act.put, List.setIfInBounds_toArray, List.set_cons_zero, List.set_cons_succ, List.getElem_toArray, List.getElem_cons_succ, List.getElem_cons_zero])
              refine wpAnyH_take (i := 25) (oi := _) (v := ?_) rfl (by kernel_rfl) (by kernel_rfl) (by kernel_rfl) (fun _ _ _ h => h) (Or.inl ⟨by rfl, ?_⟩) hHeld ?_
              rotate_left
              · intro w' hSw
                have hc0 := hSw.1
                go_simp
                try with_reducible rfl
              (try simp only [Act.put, List.setIfInBounds_toArray, List.set_cons_zero, List.set_cons_succ, List.getElem_toArray, List.getElem_cons_succ, List.getElem_cons_zero])
              refine wpAnyH_take (i := 27) (oi := _) (v := ?_) rfl (by kernel_rfl) (by kernel_rfl) (by kernel_rfl) (fun _ _ _ h => h) (Or.inl ⟨by rfl, ?_⟩) hHeld ?_
              rotate_left
              · intro w' hSw
                go_simp
                try with_reducible rfl
              (try simp only [Act.put, List.setIfInBounds_toArray, List.set_cons_zero, List.set_cons_succ, List.getElem_toArray, List.getElem_cons_succ, List.getElem_cons_zero])
              refine wpAnyH_take (i := 28) (oi := _) (v := ?_) rfl (by kernel_rfl) (by kernel_rfl) (by kernel_rfl) (fun _ _ _ h => h) (Or.inl ⟨by rfl, ?_⟩) hHeld ?_
              rotate_left
              · intro w' hSw
                go_simp
                try with_reducible rfl
              (try simp only [Act.put, List.setIfInBounds_toArray, List.set_cons_zero, List.set_cons_succ, List.getElem_toArray, List.getElem_cons_succ, List.getElem_cons_zero])
              refine wpAnyH_take (i := 29) (oi := _) (v := ?_) rfl (by kernel_rfl) (by kernel_rfl) (by kernel_rfl) (fun _ _ _ h => h) (Or.inl ⟨by rfl, ?_⟩) hHeld ?_
              rotate_left
              · intro w' hSw
                go_simp
                try with_reducible rfl
              (try simp only [Act.put, List.setIfInBounds_toArray, List.set_cons_zero, List.set_cons_succ, List.getElem_toArray, List.getElem_cons_succ, List.getElem_cons_zero])
              refine wpAnyH_take (i := 30) (oi := _) (v := ?_) rfl (by kernel_rfl) (by kernel_rfl) (by kernel_rfl) (fun _ _ _ h => h) (Or.inl ⟨by rfl, ?_⟩) hHeld ?_
              rotate_left
              · intro w' hSw
                go_simp
                try with_reducible rfl
              (try simp only [Act.put, List.setIfInBounds_toArray, List.set_cons_zero, List.set_cons_succ, List.getElem_toArray, List.getElem_cons_succ, List.getElem_cons_zero])
              refine wpAnyH_take (i := 31) (oi := _) (v := ?_) rfl (by kernel_rfl) (by kernel_rfl) (by kernel_rfl) (fun _ _ _ h => h) (Or.inl ⟨by rfl, ?_⟩) hHeld ?_
              rotate_left
              · intro w' hSw
                have hc0 := hSw.1
                go_simp
                try with_reducible rfl
              (try simp only [Act.put, List.setIfInBounds_toArray, List.set_cons_zero, List.set_cons_succ, List.getElem_toArray, List.getElem_cons_succ, List.getElem_cons_zero])
              refine wpAnyH_ready (rs := [26]) (by kernel_rfl) (by simp) ?_
              refine AllReadyH.cons (o := _) rfl (fun K hK => ?_) AllReadyH.nil
              go_simp
              go_at_call 37
              (with_reducible refine (hPl _ (hT7.step (C1.is hHeld))).mono ?_)
              rintro e w' ⟨rfl, hbq⟩
              (try go_wp2_with fail)
              have hHeld2 := C1.call hbl hHeld hbq
              refine hK.out _ _ hHeld2 (fun hHeld => ?_)
              clear hK K hHeld2
              (try simp only [Act.put, List.setIfInBounds_toArray, List.set_cons_zero, List.set_cons_succ, List.getElem_toArray, List.getElem_cons_succ, List.getElem_cons_zero])
              refine wpAnyH_ready (rs := [32]) (by kernel_rfl) (by simp) ?_
              refine AllReadyH.cons (o := _) rfl (fun K hK => ?_) AllReadyH.nil
              go_simp
              go_at_call 20
              (with_reducible refine (hSx _ (hT7.step (C1.is hHeld))).mono ?_)
              rintro e w' ⟨rfl, hbq⟩
              (try go_wp2_with fail)
              have hHeld2 := C1.call hbl hHeld hbq
              refine hK.out _ _ hHeld2 (fun hHeld => ?_)
              clear hK K hHeld2
              (try simp only [Act.put, List.setIfInBounds_toArray, List.set_cons_zero, List.set_cons_succ, List.getElem_toArray, List.getElem_cons_succ, List.getElem_cons_zero])
              refine wpAnyH_take (i := 33) (oi := _) (v := ?_) rfl (by kernel_rfl) (by kernel_rfl) (by kernel_rfl) (fun _ _ _ h => h) (Or.inl ⟨by rfl, ?_⟩) hHeld ?_
              rotate_left
              · intro w' hSw
                go_simp
                try with_reducible rfl
              (try simp only [Act.put, List.setIfInBounds_toArray, List.set_cons_zero, List.set_cons_succ, List.getElem_toArray, List.getElem_cons_succ, List.getElem_cons_zero])
              refine wpAnyH_take (i := 34) (oi := _) (v := ?_) rfl (by kernel_rfl) (by kernel_rfl) (by kernel_rfl) (fun _ _ _ h => h) (Or.inl ⟨by rfl, ?_⟩) hHeld ?_
              rotate_left
              · intro w' hSw
                go_simp
                try with_reducible rfl
              (try simp only [Act.put, List.setIfInBounds_toArray, List.set_cons_zero, List.set_cons_succ, List.getElem_toArray, List.getElem_cons_succ, List.getElem_cons_zero])
              refine wpAnyH_take (i := 35) (oi := _) (v := ?_) rfl (by kernel_rfl) (by kernel_rfl) (by kernel_rfl) (fun _ _ _ h => h) (Or.inl ⟨by rfl, ?_⟩) hHeld ?_
              rotate_left
              · intro w' hSw
                go_simp
                try with_reducible rfl
              (try simp only [Act.put, List.setIfInBounds_toArray, List.set_cons_zero, List.set_cons_succ, List.getElem_toArray, List.getElem_cons_succ, List.getElem_cons_zero])
              refine wpAnyH_done (by kernel_rfl) ?_ _
              have B9 := below_cut hbj (C1.is hHeld) (Nat.le_refl _)
              go_wp2_with fail
              go_roundg (m - (k + 1))
              case measure => omega
              case rel => exact ⟨k + 1, by omega, by go_num, B9⟩
      · have d1 : decide (((k : Nat) : Int) < (m : Nat)) = false := by rw [decide_eq_false_iff_not]; omega
        go_wp2_with fail
        refine (haw2 wr (below_cut hb8 hbr (Nat.le_refl _))).mono ?_
        rintro e w5 ⟨rfl, g5⟩
        have B5 := below_cut (below_cut hb8 hbr (Nat.le_refl _)) g5 (Nat.le_refl _)
        clear g5
        go_wp2_with fail
        go_ret
        exact ⟨rfl, B5⟩
  · have h0 : r1 ≠ 0 := h0
    have hb5 := below_cut hb3 hb4 (Nat.le_refl _)
    have hb6 := hb5.alloc hb5.size (.cells #[.int .i64 r1, .int .i64 r2] 29)
    have kS := Blk.new w3 29 #[.int .i64 r1, .int .i64 r2]
    obtain ⟨q0, q1⟩ := two_ kS
    have e0 : (r1 != 0) = true := by simpa using h0
    have haw := awake_any _ (hP.step hb6)
    clear hnw h0
    go_wp2_with fail
    generalize (w3.alloc (.cells #[.int .i64 r1, .int .i64 r2] 29)) = W at *
    refine haw.mono ?_
    rintro e w5 ⟨rfl, hb9⟩
    have hb10 := below_cut hb6 hb9 (Nat.le_refl _)
    clear q0 q1
    go_wp2_with fail
    go_ret
    exact ⟨rfl, hb10⟩
end Go.Proofs.YtgdmbeamemdaiaaGreatDoor
