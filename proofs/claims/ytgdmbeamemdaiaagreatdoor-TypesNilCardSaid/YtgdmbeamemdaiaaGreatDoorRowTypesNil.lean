/- The statement of TypesNil: for every input the law answers true, and its arguments read as they did. No condition but that the listed variables hold what the program's text lays in them, which the card ties. -/
import Derived.Test.YtgdmbeamemdaiaaGreatDoorTU
import Derived.Test.YtgdmbeamemdaiaaGreatDoorTT
namespace Go.Proofs.YtgdmbeamemdaiaaGreatDoor
open Go.ChangeShapes Go.WideShapes Go.ChangeAt Go.RowKit Go.ChangeMaps

set_option maxRecDepth 100000 in
theorem typesNil_lifted (os : Os) (started : os.Started) (H : Type) (enc : TypeId × Value → H) :
    ReturnsInHanded {} Tryz.checked os 10 .any (fun w args => (Rows.typesNilSpec.pre enc Tryz.prog Tryz.f10 Rows.typesNilRow.domain false w args ∧ laidMetH Tryz.prog tabs3 w) ∧ sizedMet enc Tryz.prog Tryz.f10 (OpenSpec.ofChange Rows.typesNilSpec) false w args)
      (Rows.typesNilSpec.post enc Tryz.prog Tryz.f10 false true false false) := by
  refine law_lifted_laid (C := Tryz.checked) own_knob started (by kernel_rfl) Tryz.func10 laid_out (by kernel_rfl) (tb := 4) rfl Tryz.underlying4 rfl ?_
    (ChangeSpec.witness_shaped (enc := enc) (C := Tryz.checked) (os := os) (X := fun w _ => laidMetH Tryz.prog tabs3 w) false (World.doorLaid Tryz.prog 400 os) #[.int .u32 0, .int .i64 0] 8 rfl (World.shaped_of_RefB (by kernel_rfl) (by kernel_rfl)) (by kernel_rfl) (by kernel_rfl) (by kernel_rfl) (door_met os _)) ?_
  · intro ds h
    match ds, h with
    | [d0, d1], _ => exact ⟨rfl, rfl, rfl⟩
  · intro W base args ds p hval hA hsz hlt hL
    rw [Tryz.params10] at hA hval hsz
    obtain ⟨v0, v1, d0, d1, p0, p1, rfl, rfl, rfl, h0, h1⟩ := trodAll_two hA
    obtain ⟨x0, rfl, rfl, rfl, wx0⟩ := open_int Tryz.underlying22 (hval 0 _ v0 rfl rfl) h0
    obtain ⟨x1, rfl, rfl, rfl, wx1⟩ := open_int Tryz.underlying3 (hval 1 _ v1 rfl rfl) h1
    exact law_nil x0 x1 W (pow_of_laid hL)

theorem typesNil_said : Rows.TypesNilSaid :=
  OpenClaim.holds_of_wide 10 Tryz.f10 rfl rfl rfl rfl rfl rfl rfl ⟨rfl, rfl, rfl, rfl, rfl⟩ rfl rfl rfl rfl rfl (by kernel_rfl) Tryz.func10 (by kernel_rfl)
    (of_decide_eq_true (by kernel_rfl)) (by unfold Func.isWrapper; rw [if_neg (of_decide_eq_false (by kernel_rfl))]; exact ⟨rfl, rfl⟩)
    (fun os started H enc _ => typesNil_lifted os started H enc)
theorem typesNil_holds : Rows.TypesNilCardSaid :=
  Claim7.holds_tied_plain_at .later [] [.data, .data, .data] true (true, "8be59d3d53b555d6b6af6c792abe04b1e2e55b621a79cbc273eebf09ffe34f05") false
    typesNil_said (fun _ h => by cases h) (by kernel_rfl) (fun _ h => by cases h) typesNil_row_tie rfl ⟨rfl, rfl⟩ (by kernel_rfl) rfl
    (fun f fn hf hfn => by
      obtain rfl : f = 10 := Option.some.inj ((show Tryz.prog.funcNamed "intaglio/intagliolaw10.TypesNil" = some 10 by kernel_rfl).symm.trans hf) |>.symm
      obtain rfl : fn = Tryz.f10 := (Option.some.inj (Tryz.func10.symm.trans hfn)).symm
      exact ⟨by kernel_rfl, fun j t ht => by
        rw [Tryz.params10] at ht
        have hj : t = 22 ∨ t = 3 := by
          rcases j with _ | _ | j
          · left; simpa using ht.symm
          · right; simpa using ht.symm
          · simp at ht
        rcases hj with rfl | rfl
        · exact (show Tryz.prog.wantsStandIn 22 = false by kernel_rfl)
        · exact (show Tryz.prog.wantsStandIn 3 = false by kernel_rfl)⟩)
    (by kernel_rfl)
end Go.Proofs.YtgdmbeamemdaiaaGreatDoor
