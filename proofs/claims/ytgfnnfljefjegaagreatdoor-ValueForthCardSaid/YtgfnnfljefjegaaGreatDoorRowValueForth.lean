/- The statement of ValueForth: for every input the law answers true, and its arguments read as they did. No condition but that the listed variables hold what the program's text lays in them, which the card ties. -/
import Derived.Carry
import Derived.Test.YtgfnnfljefjegaaGreatDoorCVH
import Derived.Test.YtgfnnfljefjegaaGreatDoorCTV
import Derived.Test.YtgfnnfljefjegaaGreatDoorVlForth
namespace Go.Proofs.YtgfnnfljefjegaaGreatDoor
open Go.ChangeShapes Go.WideShapes Go.ChangeAt Go.RowKit Go.ChangeMaps

set_option maxRecDepth 100000 in
theorem valueForth_lifted (os : Os) (started : os.Started) (H : Type) (enc : TypeId × Value → H) :
    ReturnsInHanded {} Tryz.checked os 3 .any (fun w args => (Rows.valueForthSpec.pre enc Tryz.prog Tryz.f3 Rows.valueForthRow.domain false w args ∧ laidMetH Tryz.prog tabs3 w) ∧ sizedMet enc Tryz.prog Tryz.f3 (OpenSpec.ofChange Rows.valueForthSpec) false w args)
      (Rows.valueForthSpec.post enc Tryz.prog Tryz.f3 false true false false) := by
  refine law_lifted_laid (C := Tryz.checked) own_knob started (by kernel_rfl) Tryz.func3 laid_out (by kernel_rfl) (tb := 4) rfl Tryz.underlying4 rfl ?_
    (ChangeSpec.witness_shaped (enc := enc) (C := Tryz.checked) (os := os) (X := fun w _ => laidMetH Tryz.prog tabs3 w) false (World.doorLaid Tryz.prog 400 os) #[.agg #[.int .u32 0, .int .u32 0, .slice none 0 0], .int .u32 0, .string ByteArray.empty] 8 rfl (World.shaped_of_RefB (by kernel_rfl) (by kernel_rfl)) (by kernel_rfl) (by kernel_rfl) (by kernel_rfl) (door_met os _)) ?_
  · intro ds h
    match ds, h with
    | [d0, d1, d2], _ => exact ⟨rfl, rfl, rfl⟩
  · intro W base args ds p hval hA hsz hlt hL
    rw [Tryz.params3] at hA hval hsz
    obtain ⟨v0, v1, v2, d0, d1, d2, p0, p1, p2, rfl, rfl, rfl, h0, h1, h2⟩ := trodAll_three hA
    obtain ⟨gen, bound, A, n, c, ls, rfl, hn, hM, hN⟩ := open_module (hval 0 _ v0 rfl rfl) h0 (fun q hq => hlt q (by simp [hq])) (sized_atm hsz (j := 0) rfl rfl)
    obtain ⟨x1, rfl, rfl, rfl, wx1⟩ := open_int Tryz.underlying22 (hval 1 _ v1 rfl rfl) h1
    have y1 := wf_u32 wx1
    obtain ⟨s2, rfl, rfl, rfl, ws2⟩ := open_string Tryz.underlying9 (hval 2 _ v2 rfl rfl) h2
    have b2 := sized_string hsz (j := 2) rfl rfl
    have b2 : s2.size ≤ 140737488351232 := by simpa [reachBytes] using b2
    exact law_forth gen bound A n c ls x1 s2 W hM hn (pow_of_laid hL) (errs_of_laid hL) (fun x hx => ⟨(hN x hx).1, (hN x hx).2.1⟩) b2

theorem valueForth_said : Rows.ValueForthSaid :=
  OpenClaim.holds_of_wide 3 Tryz.f3 rfl rfl rfl rfl rfl rfl rfl ⟨rfl, rfl, rfl, rfl, rfl⟩ rfl rfl rfl rfl rfl (by kernel_rfl) Tryz.func3 (by kernel_rfl)
    (of_decide_eq_true (by kernel_rfl)) (by unfold Func.isWrapper; rw [if_neg (of_decide_eq_false (by kernel_rfl))]; exact ⟨rfl, rfl⟩)
    (fun os started H enc _ => valueForth_lifted os started H enc)
theorem valueForth_holds : Rows.ValueForthCardSaid :=
  Claim7.holds_tied_plain_at .later [] [.data, .data, .data, .sentinel, .sentinel] true (true, "b94bf2ded74fc3d9102a8cf8938adea111fa1882f06ffaf2927f4704ace3752e") true
    valueForth_said (fun _ h => by cases h) (by kernel_rfl) (fun _ h => by cases h) valueForth_row_tie rfl ⟨rfl, rfl⟩ (by kernel_rfl) rfl
    (fun f fn hf hfn => by
      obtain rfl : f = 3 := Option.some.inj ((show Tryz.prog.funcNamed "intaglio/intagliolaw12.ValueForth" = some 3 by kernel_rfl).symm.trans hf) |>.symm
      obtain rfl : fn = Tryz.f3 := (Option.some.inj (Tryz.func3.symm.trans hfn)).symm
      exact ⟨by kernel_rfl, fun j t ht => by
        rw [Tryz.params3] at ht
        have hj : t = 25 ∨ t = 22 ∨ t = 9 := by
          rcases j with _ | _ | _ | j
          · left; simpa using ht.symm
          · right; left; simpa using ht.symm
          · right; right; simpa using ht.symm
          · simp at ht
        rcases hj with rfl | rfl | rfl
        · exact (show Tryz.prog.wantsStandIn 25 = false by kernel_rfl)
        · exact (show Tryz.prog.wantsStandIn 22 = false by kernel_rfl)
        · exact (show Tryz.prog.wantsStandIn 9 = false by kernel_rfl)⟩)
    (by kernel_rfl)
end Go.Proofs.YtgfnnfljefjegaaGreatDoor
