/- The statement of TypesTexts: for every input the law answers true, and its arguments read as they did. No condition but that the listed variables hold what the program's text lays in them, which the card ties. -/
import Derived.Carry
import Derived.Test.YtgdmbeamemdaiaaGreatDoorTU
import Derived.Test.YtgdmbeamemdaiaaGreatDoorTV
import Derived.Test.YtgdmbeamemdaiaaGreatDoorTyTexts
namespace Go.Proofs.YtgdmbeamemdaiaaGreatDoor
open Go.ChangeShapes Go.WideShapes Go.ChangeAt Go.RowKit Go.ChangeMaps

set_option maxRecDepth 100000 in
theorem typesTexts_lifted (os : Os) (started : os.Started) (H : Type) (enc : TypeId × Value → H) :
    ReturnsInHanded {} Tryz.checked os 3 .any (fun w args => (Rows.typesTextsSpec.pre enc Tryz.prog Tryz.f3 Rows.typesTextsRow.domain false w args ∧ laidMetH Tryz.prog tabs3 w) ∧ sizedMet enc Tryz.prog Tryz.f3 (OpenSpec.ofChange Rows.typesTextsSpec) false w args)
      (Rows.typesTextsSpec.post enc Tryz.prog Tryz.f3 false true false false) := by
  refine law_lifted_laid (C := Tryz.checked) own_knob started (by kernel_rfl) Tryz.func3 laid_out (by kernel_rfl) (tb := 4) rfl Tryz.underlying4 rfl ?_
    (ChangeSpec.witness_shaped (enc := enc) (C := Tryz.checked) (os := os) (X := fun w _ => laidMetH Tryz.prog tabs3 w) false (World.doorLaid Tryz.prog 400 os) #[.agg #[.int .u32 0, .int .u32 0, .slice none 0 0]] 8 rfl (World.shaped_of_RefB (by kernel_rfl) (by kernel_rfl)) (by kernel_rfl) (by kernel_rfl) (by kernel_rfl) (door_met os _)) ?_
  · intro ds h
    match ds, h with
    | [d0], _ => trivial
  · intro W base args ds p hval hA hsz hlt hL
    rw [Tryz.params3] at hA hval hsz
    obtain ⟨v0, d0, rfl, rfl, h0⟩ := trodAll_one hA
    obtain ⟨gen, bound, A, n, c, ls, rfl, hn, hM, hN⟩ := open_module (hval 0 _ v0 rfl rfl) h0 (fun q hq => hlt q (by simpa using hq)) (sized_atm hsz (j := 0) rfl rfl)
    exact law_texts gen bound A n c ls W hM hn (pow_of_laid hL) (fun x hx => ⟨(hN x hx).1, (hN x hx).2.1⟩)

theorem typesTexts_said : Rows.TypesTextsSaid :=
  OpenClaim.holds_of_wide 3 Tryz.f3 rfl rfl rfl rfl rfl rfl rfl ⟨rfl, rfl, rfl, rfl, rfl⟩ rfl rfl rfl rfl rfl (by kernel_rfl) Tryz.func3 (by kernel_rfl)
    (of_decide_eq_true (by kernel_rfl)) (by unfold Func.isWrapper; rw [if_neg (of_decide_eq_false (by kernel_rfl))]; exact ⟨rfl, rfl⟩)
    (fun os started H enc _ => typesTexts_lifted os started H enc)
theorem typesTexts_holds : Rows.TypesTextsCardSaid :=
  Claim7.holds_tied_plain_at .later [] [.data, .data, .data] true (true, "8be59d3d53b555d6b6af6c792abe04b1e2e55b621a79cbc273eebf09ffe34f05") false
    typesTexts_said (fun _ h => by cases h) (by kernel_rfl) (fun _ h => by cases h) typesTexts_row_tie rfl ⟨rfl, rfl⟩ (by kernel_rfl) rfl
    (fun f fn hf hfn => by
      obtain rfl : f = 3 := Option.some.inj ((show Tryz.prog.funcNamed "intaglio/intagliolaw10.TypesTexts" = some 3 by kernel_rfl).symm.trans hf) |>.symm
      obtain rfl : fn = Tryz.f3 := (Option.some.inj (Tryz.func3.symm.trans hfn)).symm
      exact ⟨by kernel_rfl, fun j t ht => by
        rw [Tryz.params3] at ht
        have hj : t = 25 := by
          rcases j with _ | j
          · simpa using ht.symm
          · simp at ht
        rw [hj]
        exact (show Tryz.prog.wantsStandIn 25 = false by kernel_rfl)⟩)
    (by kernel_rfl)
end Go.Proofs.YtgdmbeamemdaiaaGreatDoor
