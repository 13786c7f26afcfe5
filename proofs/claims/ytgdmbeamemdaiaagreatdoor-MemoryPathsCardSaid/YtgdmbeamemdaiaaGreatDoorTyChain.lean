/- Walks: memory.Chain. -/
import Derived.Test.YtgdmbeamemdaiaaGreatDoorTyChainLaw
import Derived.Test.YtgdmbeamemdaiaaGreatDoorTT
import Derived.Test.YtgdmbeamemdaiaaGreatDoorTyTextsLaw
namespace Go.Proofs.YtgdmbeamemdaiaaGreatDoor
open Go.RowKit

theorem cnt_bd {T : Int → TyI} (hT : Typed T) (id : Int) : 0 ≤ cntT (T id) ∧ cntT (T id) ≤ 65535 := by
  rcases hT.ok id with h | ⟨b, h⟩
  · rw [h]; decide
  · generalize T id = x at *
    unfold cntT
    cases h <;> simp [ty0] <;> omega
set_option maxRecDepth 100000 in
set_option maxHeartbeats 4000000 in
theorem chain_any (gt : Nat) (T : Int → TyI) (S : Int → SlI) (hY : Typed T) (ty : Int) (A : Option Addr) (n c : Nat) (l : List Int) (w : World) (h : TabW w (some ⟨gt, 0, none⟩) T S) (hn : n ≤ 35184372087808)
    (hr : Reads w w.heap.size 1 A n (Ints .u32 l)) (hl : ∀ x ∈ l, 0 ≤ x ∧ x < 4294967296) :
    Calls Tryz.prog 43 #[.pointer (some ⟨gt, 0, none⟩), .int .u32 ty, .slice A n c] w fun e w' => e = .returned (.tuple #[.int .i64 (chM T ty l).1, .int .u32 (chM T ty l).2.1, .int .i64 (chM T ty l).2.2]) ∧ Below w.heap.size w w' := by
  have hpl := plainM_any _ _ _ ty w h.tab
  have hlen := hr.len
  by_cases hp : 0 < (T ty).size
  · have hv : chM T ty l = chW T 0 ty l := if_pos hp
    have dp : decide (0 < (T ty).size) = true := by rw [decide_eq_true_eq]; exact hp
    rw [hv]
    rw [dp] at hpl
    obtain ⟨v, hvv⟩ : ∃ v, v = chW T 0 ty l := ⟨_, rfl⟩
    rw [← hvv]
    have HV := Lib.hid hvv
    have HT := Lib.hid h
    have HR := Lib.hid hr
    have HY := Lib.hid hY
    have HL := Lib.hid hl
    have HP := Lib.hid hp
    have hcnt := fun (u : Int) (w' : World) (h : TabW w' (some ⟨gt, 0, none⟩) T S) => countM_any _ _ _ u w' h.tab (h.mild _)
    have hprt := fun (u j : Int) (w' : World) (h : TabW w' (some ⟨gt, 0, none⟩) T S) => partM_any _ _ _ u j w' h.tab (h.mild _)
    have hoff := fun (u j : Int) (w' : World) (h : TabW w' (some ⟨gt, 0, none⟩) T S) => offM_any _ _ _ u j w' h
    have hsb := (hY.size ty).2.2
    clear hv hvv h hr hY hl hp dp
    go_enter Tryz.func43, Tryz.ntmps43
    go_wp2_with fail
    go_step3
    go_wp2_with fail
    refine hpl.mono ?_
    rintro e w1 ⟨rfl, hb1⟩
    clear hpl
    go_wp2_with fail
    go_step3
    go_wp2_with fail
    go_loopg [1, 9, 10, 27] n (fun q t a e i wr => ∃ (k : Nat) (u av : Int), k + q = n ∧ t = .int .u32 u ∧ a = .int .i64 av ∧ e = .int .i64 0 ∧ i = .int .i64 (k : Nat) ∧ Hid (v = chW T av u (l.drop k)) ∧ Hid (0 < (T u).size) ∧ 0 ≤ av ∧ av + (T u).size ≤ (T ty).size ∧ Below w.heap.size w wr)
    case atStart => exact ⟨0, ty, 0, by omega, rfl, rfl, rfl, rfl, HV, HP, Int.le_refl _, by omega, hb1⟩
    case round =>
      obtain ⟨k, u, av, hkq, rfl, rfl, rfl, rfl, HK, HU, ha0, ha1, hbr⟩ := hrel
      by_cases hlt : k < n
      · have d1 : decide (((k : Nat) : Int) < (n : Nat)) = true := by rw [decide_eq_true_eq]; omega
        have hlt2 : ((k : Nat) : Int) < (n : Nat) := by omega
        obtain ⟨b, off, rfl, hbb, hcc⟩ := (HR.out.below hbr).ints (by omega)
        have c0 := hcc k hlt
        have hdk : l.drop k = ix l k :: l.drop (k + 1) := by rw [ix_of (by omega)]; exact List.drop_eq_getElem_cons (by omega)
        have hk1 := HK.out
        rw [hdk] at hk1
        unfold chW at hk1
        have hxl := HL.out (ix l k) (ix_in (by omega))
        have hcb := cnt_bd HY.out u
        have hcn := hcnt u
        generalize ix l k = x at *
        by_cases h0 : cntT (T u) = 0
        · rw [if_pos h0] at hk1
          rw [h0] at hcn
          have HK1 := Lib.hid hk1
          clear hk1 hdk h0 hcc HK hcb
          go_wp2_with fail
          refine (hcn wr (HT.out.step hbr)).mono ?_
          rintro e w2 ⟨rfl, hb2⟩
          have hb3 := below_cut hbr hb2 (Nat.le_refl _)
          clear hcn hb2
          go_wp2_with fail
          rw [Exit.noGoto_ret]
          go_ret3
          exact ⟨by rw [HK1.out]; rfl, hb3⟩
        · rw [if_neg h0] at hk1
          have hpi := part_in HY.out HU.out (k := min x (cntT (T u) - 1)) (by omega) (by omega)
          have hof := hoff u (min x (cntT (T u) - 1))
          have hpt := hprt u (min x (cntT (T u) - 1))
          have HK1 := Lib.hid hk1
          have HPI := Lib.hid hpi.1
          obtain ⟨-, hp2, hp3⟩ := hpi
          have z0 : (cntT (T u) == 0) = false := by rw [beq_eq_false_iff_ne]; exact h0
          have hc1 : 1 ≤ cntT (T u) := by omega
          clear hk1 hdk hcc HK h0
          generalize cntT (T u) = N at *
          have wN : IntKind.i64.wrap (N - 1) = N - 1 := IntWalk.i64_in _ (by omega)
          have wM : IntKind.u32.wrap (N - 1) = N - 1 := IntWalk.u32_in _ (by omega)
          have wM2 : (N - 1) % 4294967296 = N - 1 := by omega
          go_wp2_with fail
          refine (hcn wr (HT.out.step hbr)).mono ?_
          rintro e w2 ⟨rfl, hb2⟩
          have hb3 := below_cut hbr hb2 (Nat.le_refl _)
          clear hcn hb2
          go_wp2_with fail
          refine (hof w2 (HT.out.step hb3)).mono ?_
          rintro e w3 ⟨rfl, hb4⟩
          have hb5 := below_cut hb3 hb4 (Nat.le_refl _)
          clear hof hb4
          go_wp2_with fail
          refine (hpt w3 (HT.out.step hb5)).mono ?_
          rintro e w4 ⟨rfl, hb6⟩
          have hb7 := below_cut hb5 hb6 (Nat.le_refl _)
          clear hpt hb6
          generalize (offT T (T u) (min x (N - 1))).1 = o at *
          generalize (partT (T u) (min x (N - 1))).1 = u2 at *
          have wS : IntKind.i64.wrap (av + o) = av + o := IntWalk.i64_in _ (by have := HPI.out; omega)
          go_wp2_with fail
          go_roundg (n - (k + 1))
          case measure => omega
          case rel => exact ⟨k + 1, u2, av + o, by omega, rfl, rfl, rfl, by go_num, HK1, HPI, by omega, by omega, hb7⟩
      · have d1 : decide (((k : Nat) : Int) < (n : Nat)) = false := by rw [decide_eq_false_iff_not]; omega
        have hk1 := HK.out
        rw [List.drop_of_length_le (by omega)] at hk1
        have HK1 := Lib.hid hk1
        clear hk1 HK
        go_wp2_with fail
        rw [Exit.noGoto_ret]
        go_ret3
        exact ⟨by rw [HK1.out]; rfl, hbr⟩
  · have hv : chM T ty l = (0, 0, 100) := if_neg hp
    have dp : decide (0 < (T ty).size) = false := by rw [decide_eq_false_iff_not]; exact hp
    rw [hv]
    rw [dp] at hpl
    clear hv h hr hY hl hp dp
    go_enter Tryz.func43, Tryz.ntmps43
    go_wp2_with fail
    go_step3
    go_wp2_with fail
    refine hpl.mono ?_
    rintro e w1 ⟨rfl, hb1⟩
    go_wp2_with fail
    rw [Exit.noGoto_ret]
    go_ret3
    exact ⟨rfl, hb1⟩
end Go.Proofs.YtgdmbeamemdaiaaGreatDoor
