/- Walks: value.given, value.walk, value.Zero. -/
import Derived.Test.YtgdmbeamemdaiaaGreatDoorTyFitsB
import Derived.Test.YtgdmbeamemdaiaaGreatDoorTR
namespace Go.Proofs.YtgdmbeamemdaiaaGreatDoor
open Go.RowKit

theorem fits_well (gt : Nat) (T : Int → TyI) (S : Int → SlI) (hY : Typed T) (ty : Int) (A : Option Addr) (n c : Nat) (ws : List Int) (w : World) (hT : TabW w (some ⟨gt, 0, none⟩) T S) (hr : Reads w w.heap.size 1 A n (Ints .u32 ws)) (hp : 0 < (T ty).size) (hn : (n : Int) = (T ty).size) :
    Calls Tryz.prog 113 #[.pointer (some ⟨gt, 0, none⟩), .int .u32 ty, .slice A n c] w (BoolIs (fitsV T ty ws) w) := callsIn_wide.1 (fits_go gt T S hY ty A n c ws w hT hr hp hn)
/-- words that are no more than 1 fit every plain type -/
theorem fitsV_small {T : Int → TyI} {ty : Int} {ws : List Int} (hp : 0 < (T ty).size) (hn : (ws.length : Int) = (T ty).size) (h : ∀ k, k < ws.length → ix ws k ≤ 1) : fitsV T ty ws = true := by
  unfold fitsV
  have e1 : decide (0 < (T ty).size) = true := by rw [decide_eq_true_eq]; exact hp
  have e2 : decide ((ws.length : Int) = (T ty).size) = true := by rw [decide_eq_true_eq]; exact hn
  rw [e1, e2, Bool.true_and, Bool.true_and, List.all_eq_true]
  intro k hk
  have hk := h k (List.mem_range.1 hk)
  have e3 : decide (1 < ix ws k) = false := by rw [decide_eq_false_iff_not]; omega
  rw [e3, Bool.and_false]
  rfl
set_option maxRecDepth 100000 in
set_option maxHeartbeats 1000000 in
theorem given_well (gt : Nat) (T : Int → TyI) (S : Int → SlI) (hY : Typed T) (ty : Int) (A : Option Addr) (n c : Nat) (ws : List Int) (w : World) (hT : TabW w (some ⟨gt, 0, none⟩) T S) (hr : Reads w w.heap.size 1 A n (Ints .u32 ws)) (hp : 0 < (T ty).size) (hn : (n : Int) = (T ty).size) :
    Calls Tryz.prog 82 #[.pointer (some ⟨gt, 0, none⟩), .int .u32 ty, .slice A n c] w fun e w' => e = .returned (.int .i64 (if fitsV T ty ws = true then 0 else 2)) ∧ Below w.heap.size w w' := by
  have hask := asked_any gt T S ty w hT
  have ea : askE T ty = 0 := if_pos hp
  rw [ea] at hask
  have hft := fun (w' : World) (h : Below w.heap.size w w') => fits_well gt T S hY ty A n c ws w' (hT.step h) ((hr.below h).more h.size) hp hn
  unfold BoolIs at hft
  generalize fitsV T ty ws = v at *
  clear hT hr hp hn hY ea
  go_enter Tryz.func82, Tryz.ntmps82
  go_wp2_with fail
  refine hask.mono ?_
  rintro e w1 ⟨rfl, hb1⟩
  have hf1 := hft w1 hb1
  clear hask hft
  go_wp2_with fail
  refine hf1.mono ?_
  rintro e w2 ⟨rfl, hb2⟩
  have hb3 := below_cut hb1 hb2 (Nat.le_refl _)
  clear hf1 hb1 hb2
  cases v with
  | true =>
    go_wp2_with fail
    go_ret
    exact ⟨rfl, hb3⟩
  | false =>
    go_wp2_with fail
    go_ret
    exact ⟨rfl, hb3⟩
/-- where a walk leads is nowhere, or within -/
theorem wkW_in {T : Int → TyI} (hT : Typed T) : ∀ {l : List Int} {a ty : Int}, (∀ k ∈ l, 0 ≤ k) → 0 < (T ty).size → wkW T a ty l = (0, 0) ∨ (0 < (T (wkW T a ty l).2).size ∧ a ≤ (wkW T a ty l).1 ∧ (wkW T a ty l).1 + (T (wkW T a ty l).2).size ≤ a + (T ty).size)
  | [], a, ty, _, hs => .inr ⟨hs, Int.le_refl _, Int.le_refl _⟩
  | k :: r, a, ty, h, hs => by
    have hk := h k List.mem_cons_self
    unfold wkW
    by_cases h0 : cntT (T ty) ≤ k
    · rw [if_pos h0]; exact .inl rfl
    · rw [if_neg h0]
      obtain ⟨p1, p2, p3⟩ := part_in hT hs (k := k) hk (by omega)
      rcases wkW_in hT (l := r) (a := a + (offT T (T ty) k).1) (fun j hj => h j (List.mem_cons_of_mem _ hj)) p1 with e | ⟨q1, q2, q3⟩
      · exact .inl e
      · exact .inr ⟨q1, by omega, by omega⟩
set_option maxRecDepth 100000 in
set_option maxHeartbeats 4000000 in
theorem walk_well (gt : Nat) (T : Int → TyI) (S : Int → SlI) (hY : Typed T) (ty : Int) (A : Option Addr) (n c : Nat) (l : List Int) (w : World) (h : TabW w (some ⟨gt, 0, none⟩) T S) (hn : n ≤ 35184372087808)
    (hr : Reads w w.heap.size 1 A n (Ints .u32 l)) (hl : ∀ x ∈ l, 0 ≤ x ∧ x < 4294967296) (hp : 0 < (T ty).size) :
    Calls Tryz.prog 83 #[.pointer (some ⟨gt, 0, none⟩), .int .u32 ty, .slice A n c] w fun e w' => e = .returned (.tuple #[.int .i64 (wkW T 0 ty l).1, .int .u32 (wkW T 0 ty l).2, .bool ((wkW T 0 ty l).2 != 0)]) ∧ Below w.heap.size w w' := by
  have hlen := hr.len
  obtain ⟨v, hvv⟩ : ∃ v, v = wkW T 0 ty l := ⟨_, rfl⟩
  rw [← hvv]
  have HV := Lib.hid hvv
  have HT := Lib.hid h
  have HR := Lib.hid hr
  have HY := Lib.hid hY
  have HL := Lib.hid hl
  have HP := Lib.hid hp
  have hcnt := fun (u : Int) (w' : World) (h : TabW w' (some ⟨gt, 0, none⟩) T S) => countM_any _ _ _ u w' h.tab (h.mild _)
  have hprt := fun (u j : Int) (w' : World) (h : TabW w' (some ⟨gt, 0, none⟩) T S) => partM_any _ _ _ u j w' h.tab (h.mild _)
  have hoff := fun (u j : Int) (w' : World) (h : TabW w' (some ⟨gt, 0, none⟩) T S) => offM_any _ _ _ u j w' h
  have hsb := (hY.size ty).2.2
  clear hvv h hr hY hl hp
  go_enter Tryz.func83, Tryz.ntmps83
  go_wp2_with fail
  go_step3
  go_wp2_with fail
  go_step3
  go_wp2_with fail
  go_loopg [6, 7, 16] n (fun q a t i wr => ∃ (k : Nat) (u av : Int), k + q = n ∧ t = .int .u32 u ∧ a = .int .i64 av ∧ i = .int .i64 (k : Nat) ∧ Hid (v = wkW T av u (l.drop k)) ∧ Hid (0 < (T u).size) ∧ 0 ≤ av ∧ av + (T u).size ≤ (T ty).size ∧ Below w.heap.size w wr)
  case atStart => exact ⟨0, ty, 0, by omega, rfl, rfl, rfl, HV, HP, Int.le_refl _, by omega, Below.refl _ _⟩
  case round =>
    obtain ⟨k, u, av, hkq, rfl, rfl, rfl, HK, HU, ha0, ha1, hbr⟩ := hrel
    by_cases hlt : k < n
    · have d1 : decide (((k : Nat) : Int) < (n : Nat)) = true := by rw [decide_eq_true_eq]; omega
      have hlt2 : ((k : Nat) : Int) < (n : Nat) := by omega
      obtain ⟨b, off, rfl, hbb, hcc⟩ := (HR.out.below hbr).ints (by omega)
      have c0 := hcc k hlt
      have hdk : l.drop k = ix l k :: l.drop (k + 1) := by rw [ix_of (by omega)]; exact List.drop_eq_getElem_cons (by omega)
      have hk1 := HK.out
      rw [hdk] at hk1
      unfold wkW at hk1
      have hxl := HL.out (ix l k) (ix_in (by omega))
      have hcb := cnt_bd HY.out u
      have hcn := hcnt u
      generalize ix l k = x at *
      have wM : IntKind.u32.wrap (cntT (T u)) = cntT (T u) := IntWalk.u32_in _ (by omega)
      have wM2 : cntT (T u) % 4294967296 = cntT (T u) := by omega
      by_cases h0 : cntT (T u) ≤ x
      · rw [if_pos h0] at hk1
        have HK1 := Lib.hid hk1
        have d2 : decide (x ≥ cntT (T u)) = true := by rw [decide_eq_true_eq]; exact h0
        clear hk1 hdk h0 hcc HK hcb
        generalize cntT (T u) = N at *
        go_wp2_with fail
        refine (hcn wr (HT.out.step hbr)).mono ?_
        rintro e w2 ⟨rfl, hb2⟩
        have hb3 := below_cut hbr hb2 (Nat.le_refl _)
        clear hcn hb2
        go_wp2_with fail
        rw [Exit.noGoto_ret]
        go_ret3
        exact ⟨by rw [HK1.out]; rfl, hb3⟩
      · rw [if_neg h0] at hk1
        have d2 : decide (x ≥ cntT (T u)) = false := by rw [decide_eq_false_iff_not]; exact h0
        have hpi := part_in HY.out HU.out (k := x) (by omega) (by omega)
        have hof := hoff u x
        have hpt := hprt u x
        have HK1 := Lib.hid hk1
        have HPI := Lib.hid hpi.1
        obtain ⟨-, hp2, hp3⟩ := hpi
        clear hk1 hdk hcc HK h0
        generalize cntT (T u) = N at *
        go_wp2_with fail
        refine (hcn wr (HT.out.step hbr)).mono ?_
        rintro e w2 ⟨rfl, hb2⟩
        have hb3 := below_cut hbr hb2 (Nat.le_refl _)
        clear hcn hb2
        go_wp2_with fail
        refine (hof w2 (HT.out.step hb3)).mono ?_
        rintro e w3 ⟨rfl, hb4⟩
        have hb5 := below_cut hb3 hb4 (Nat.le_refl _)
        clear hof hb4
        go_wp2_with fail
        refine (hpt w3 (HT.out.step hb5)).mono ?_
        rintro e w4 ⟨rfl, hb6⟩
        have hb7 := below_cut hb5 hb6 (Nat.le_refl _)
        clear hpt hb6
        generalize (offT T (T u) x).1 = o at *
        generalize (partT (T u) x).1 = u2 at *
        have wS : IntKind.i64.wrap (av + o) = av + o := IntWalk.i64_in _ (by have := HPI.out; omega)
        go_wp2_with fail
        go_roundg (n - (k + 1))
        case measure => omega
        case rel => exact ⟨k + 1, u2, av + o, by omega, rfl, rfl, by go_num, HK1, HPI, by omega, by omega, hb7⟩
    · have d1 : decide (((k : Nat) : Int) < (n : Nat)) = false := by rw [decide_eq_false_iff_not]; omega
      have hk1 := HK.out
      rw [List.drop_of_length_le (by omega)] at hk1
      have HK1 := Lib.hid hk1
      clear hk1 HK
      go_wp2_with fail
      rw [Exit.noGoto_ret]
      go_ret3
      exact ⟨by rw [HK1.out]; rfl, hbr⟩
set_option maxRecDepth 100000 in
set_option maxHeartbeats 1000000 in
theorem zero_well (gt : Nat) (T : Int → TyI) (S : Int → SlI) (hY : Typed T) (ty : Int) (w : World) (hT : TabW w (some ⟨gt, 0, none⟩) T S) (hp : 0 < (T ty).size) (n : Nat) (hn : (n : Int) = (T ty).size) :
    Calls Tryz.prog 45 #[.pointer (some ⟨gt, 0, none⟩), .int .u32 ty] w fun e w' => ∃ g, e = .returned (.tuple #[.slice (some ⟨g, 0, none⟩) n n, .int .i64 0]) ∧ w'.ownsRow w.heap.size 22 1 (.slice (some ⟨g, 0, none⟩) n n) n (List.replicate n (.int .u32 0)) ∧ Below w.heap.size w w' := by
  have hask := asked_any gt T S ty w hT
  have ea : askE T ty = 0 := if_pos hp
  have hn4 := (hY.size ty).2.2
  rw [ea] at hask
  have hsz := fun (w' : World) (h : Below w.heap.size w w') => sizeM_any _ _ _ ty w' (hT.step h).tab
  rw [← hn] at hsz hn4
  clear hT hp hn hY ea
  go_enter Tryz.func45, Tryz.ntmps45
  go_wp2_with fail
  refine hask.mono ?_
  rintro e w1 ⟨rfl, hb1⟩
  have hs1 := hsz w1 hb1
  clear hask hsz
  go_wp2_with fail
  refine hs1.mono ?_
  rintro e w2 ⟨rfl, hb2⟩
  have hb3 := below_cut hb1 hb2 (Nat.le_refl _)
  have hs2 := hb3.size
  clear hs1
  go_wp2_with (at_make; refine mk_full sl32 rfl w2 rfl _ _ rfl w.heap.size n rfl rfl rfl rfl (by omega) (by omega) (by omega) ?_; intro w3 hown hgr)
  go_ret2
  exact ⟨w2.heap.size, rfl, hown, hb3.grown hgr hs2 (fun j hj => by cases hj)⟩
theorem zero_none (gt : Nat) (T : Int → TyI) (S : Int → SlI) (ty : Int) (w : World) (hT : TabW w (some ⟨gt, 0, none⟩) T S) (hp : ¬ 0 < (T ty).size) :
    Calls Tryz.prog 45 #[.pointer (some ⟨gt, 0, none⟩), .int .u32 ty] w fun e w' => e = .returned (.tuple #[.slice none 0 0, .int .i64 100]) ∧ Below w.heap.size w w' := by
  have hask := asked_any gt T S ty w hT
  have ea : askE T ty = 100 := if_neg hp
  rw [ea] at hask
  clear hT hp ea
  go_enter Tryz.func45, Tryz.ntmps45
  go_wp2_with fail
  refine hask.mono ?_
  rintro e w1 ⟨rfl, hb1⟩
  clear hask
  go_wp2_with fail
  go_ret2
  exact ⟨rfl, hb1⟩
end Go.Proofs.YtgdmbeamemdaiaaGreatDoor
