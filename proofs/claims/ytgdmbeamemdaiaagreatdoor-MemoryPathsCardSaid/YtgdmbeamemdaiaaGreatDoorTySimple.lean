/- Walks: law10.simple. -/
import Derived.Test.YtgdmbeamemdaiaaGreatDoorTyFrom
import Derived.Test.YtgdmbeamemdaiaaGreatDoorTySame
namespace Go.Proofs.YtgdmbeamemdaiaaGreatDoor
open Go.RowKit

theorem part_rank {T : Int → TyI} (h : Typed T) {id : Int} {k : Nat} (hk : ((k : Nat) : Int) < cntT (T id)) : rankT (T (partT (T id) (k : Nat)).1) < rankT (T id) := by
  unfold partT
  rw [if_neg (by omega)]
  split
  · rename_i h1
    exact rankT_part h ((times_kind h id).1 h1)
  · rename_i h1
    have ht : 0 ≤ (T id).times := by
      rcases h.ok id with h2 | ⟨b, h2⟩
      · rw [h2]; exact Int.le_refl _
      · generalize T id = x at *
        cases h2 <;> simp [ty0] <;> omega
    have hc : k < (T id).parts.length := by unfold cntT at hk; omega
    refine rankT_parts h _ ?_
    show ix (T id).parts k ∈ _
    rw [ix_of hc]
    exact List.getElem_mem _
set_option maxRecDepth 100000 in
set_option maxHeartbeats 4000000 in
theorem simple_any (p : Option Addr) (T : Int → TyI) (S : Int → SlI) (hY : Typed T) : ∀ (q : Nat) (id : Int) (w : World), TabW w p T S → rankT (T id) < (q : Int) →
    Calls Tryz.prog 18 #[.pointer p, .int .u32 id] w (BoolIs (simpleT T q id) w)
  | 0, id, w, h, hq => absurd hq (by have := (rankT_bd hY id).1; omega)
  | q + 1, id, w, h, hq => by
    have ih := simple_any p T S hY q
    have hk := kindM_any _ _ _ id w h.tab
    have hcn := fun (w' : World) (h : TabW w' p T S) => countM_any _ _ _ id w' h.tab (h.mild id)
    have hpt := fun (k : Int) (w' : World) (h : TabW w' p T S) => partM_any _ _ _ id k w' h.tab (h.mild id)
    have hrk := fun (k : Nat) (h : ((k : Nat) : Int) < cntT (T id)) => part_rank hY (id := id) h
    have hmi := h.mild id
    obtain ⟨N, hN⟩ : ∃ N : Nat, cntT (T id) = N := ⟨(cntT (T id)).toNat, by unfold cntT; have := hmi.lo; omega⟩
    have hNb : N < 7200000000000 := by unfold cntT at hN; have := hmi.hi; have := hmi.len; omega
    obtain ⟨v, hv⟩ : ∃ v, v = simpleT T (q + 1) id := ⟨_, rfl⟩
    rw [← hv]
    replace hv : v = if (T id).kind = 5 ∨ (T id).kind = 6 then false else allS (simpleT T q) (T id) (cntT (T id)).toNat := hv
    rw [hN] at hv hcn hrk
    have HV := Lib.hid hv
    have HT := Lib.hid h
    clear hv h hmi hN
    have HQ := Lib.hid hq
    clear hq
    generalize hkk : (T id).kind = kk at *
    have HKK := Lib.hid hkk
    clear hkk
    go_enter Tryz.func18, Tryz.ntmps18
    by_cases h5 : kk = 5
    · have d5 : (kk == 5) = true := by simpa using h5
      have hv1 : v = false := by rw [HV.out, if_pos (.inl h5)]
      clear h5
      go_wp2_with fail
      refine hk.mono ?_
      rintro e w2 ⟨rfl, hb2⟩
      go_wp2_with fail
      go_ret
      exact ⟨by rw [hv1]; rfl, hb2⟩
    by_cases h6 : kk = 6
    · have d5 : (kk == 5) = false := by simpa using h5
      have d6 : (kk == 6) = true := by simpa using h6
      have hv1 : v = false := by rw [HV.out, if_pos (.inr h6)]
      clear h5 h6
      go_wp2_with fail
      refine hk.mono ?_
      rintro e w2 ⟨rfl, hb2⟩
      go_wp2_with fail
      go_ret
      exact ⟨by rw [hv1]; rfl, hb2⟩
    have d5 : (kk == 5) = false := by simpa using h5
    have d6 : (kk == 6) = false := by simpa using h6
    have hv := HV.out
    rw [if_neg (by rintro (h | h); exact h5 h; exact h6 h)] at hv
    have HV2 := Lib.hid hv
    clear hv HV h5 h6
    go_wp2_with fail
    refine hk.mono ?_
    rintro e w2 ⟨rfl, hb2⟩
    clear hk
    go_wp2_with fail
    go_loopg [6] N (fun qq i wr => ∃ k : Nat, k + qq = N ∧ i = .int .i64 (k : Nat) ∧ Hid (allS (simpleT T q) (T id) k = true) ∧ Below w.heap.size w wr)
    case atStart => exact ⟨0, by omega, rfl, Lib.hid rfl, hb2⟩
    case round =>
      obtain ⟨k, hkq, rfl, HK, hbr⟩ := hrel
      have hcr := hcn wr (HT.out.step hbr)
      by_cases hlt : k < N
      · have dk : decide (((k : Nat) : Int) < (N : Nat)) = true := by rw [decide_eq_true_eq]; omega
        have hrk1 := hrk k (by omega)
        have hst : allS (simpleT T q) (T id) (k + 1) = simpleT T q (partT (T id) (k : Nat)).1 := by
          show (allS (simpleT T q) (T id) k && _) = _
          rw [HK.out, Bool.true_and]
        have hpt1 := hpt (k : Nat)
        have hih := fun w' (h : TabW w' p T S) => ih (partT (T id) (k : Nat)).1 w' h (by have := HQ.out; omega)
        have HST := Lib.hid hst
        have HKS := Lib.hid (show k + 1 ≤ N by omega)
        obtain ⟨z, hz⟩ : ∃ z, z = simpleT T q (partT (T id) (k : Nat)).1 := ⟨_, rfl⟩
        rw [← hz] at hih HST
        generalize hpp : partT (T id) (k : Nat) = pp at *
        have HPP := Lib.hid (And.intro hpp hz)
        obtain ⟨pp1, pp2⟩ := pp
        clear hst hz hrk hrk1 hpt hpp
        go_wp2_with fail
        refine hcr.mono ?_
        rintro e w3 ⟨rfl, hb3⟩
        have hb4 := below_cut hbr hb3 (Nat.le_refl _)
        go_wp2_with fail
        refine (hpt1 w3 (HT.out.step hb4)).mono ?_
        rintro e w4 ⟨rfl, hb5⟩
        have hb6 := below_cut hb4 hb5 (Nat.le_refl _)
        go_wp2_with fail
        refine (hih w4 (HT.out.step hb6)).mono ?_
        rintro e w5 ⟨rfl, hb7⟩
        have hb8 := below_cut hb6 hb7 (Nat.le_refl _)
        clear hb3 hb5 hb7 hb4 hb6 hcr hih hpt1
        cases z with
        | true =>
          go_wp2_with fail
          go_roundg (N - (k + 1))
          case measure => omega
          case rel => exact ⟨k + 1, by omega, by go_num, Lib.hid HST.out, hb8⟩
        | false =>
          go_wp2_with fail
          go_ret
          refine ⟨?_, hb8⟩
          have hz := HPP.out
          have hf : simpleT T q (partT (T id) (k : Nat)).1 = false := by rw [hz.1]; exact hz.2.symm
          rw [HV2.out, allS_false hf _ (show k < ((N : Nat) : Int).toNat by have := HKS.out; omega)]
          rfl
      · obtain rfl : k = N := by omega
        have dk : decide (((k : Nat) : Int) < (k : Nat)) = false := by rw [decide_eq_false_iff_not]; omega
        go_wp2_with fail
        refine hcr.mono ?_
        rintro e w3 ⟨rfl, hb3⟩
        have hb4 := below_cut hbr hb3 (Nat.le_refl _)
        clear hcr
        go_wp2_with fail
        go_ret
        refine ⟨?_, hb4⟩
        rw [HV2.out]
        show _ = Ending.returned (.bool (allS (simpleT T q) (T id) k))
        rw [HK.out]
        rfl
end Go.Proofs.YtgdmbeamemdaiaaGreatDoor
