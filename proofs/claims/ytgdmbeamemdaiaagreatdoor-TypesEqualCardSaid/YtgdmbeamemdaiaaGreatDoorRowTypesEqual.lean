/- The statement of TypesEqual: for every input the law answers true, and its arguments read as they did. No condition but that the listed variables hold what the program's text lays in them, which the card ties. -/
import Derived.Carry
import Derived.Test.YtgdmbeamemdaiaaGreatDoorTU
import Derived.Test.YtgdmbeamemdaiaaGreatDoorTV
import Derived.Test.YtgdmbeamemdaiaaGreatDoorTyEqual
namespace Go.Proofs.YtgdmbeamemdaiaaGreatDoor
open Go.ChangeShapes Go.WideShapes Go.ChangeAt Go.RowKit Go.ChangeMaps

set_option maxRecDepth 100000 in
theorem typesEqual_lifted (os : Os) (started : os.Started) (H : Type) (enc : TypeId × Value → H) :
    ReturnsInHanded {} Tryz.checked os 8 .any (fun w args => (Rows.typesEqualSpec.pre enc Tryz.prog Tryz.f8 Rows.typesEqualRow.domain false w args ∧ laidMetH Tryz.prog tabs3 w) ∧ sizedMet enc Tryz.prog Tryz.f8 (OpenSpec.ofChange Rows.typesEqualSpec) false w args)
      (Rows.typesEqualSpec.post enc Tryz.prog Tryz.f8 false true false false) := by
  refine law_lifted_laid (C := Tryz.checked) own_knob started (by kernel_rfl) Tryz.func8 laid_out (by kernel_rfl) (tb := 4) rfl Tryz.underlying4 rfl ?_
    (ChangeSpec.witness_shaped (enc := enc) (C := Tryz.checked) (os := os) (X := fun w _ => laidMetH Tryz.prog tabs3 w) false (World.doorLaid Tryz.prog 400 os) #[.agg #[.int .u32 0, .int .u32 0, .slice none 0 0], .int .i64 0, .int .i64 0, .int .i64 0] 8 rfl (World.shaped_of_RefB (by kernel_rfl) (by kernel_rfl)) (by kernel_rfl) (by kernel_rfl) (by kernel_rfl) (door_met os _)) ?_
  · intro ds h
    match ds, h with
    | [d0, d1, d2, d3], _ => exact ⟨rfl, rfl, rfl⟩
  · intro W base args ds p hval hA hsz hlt hL
    rw [Tryz.params8] at hA hval hsz
    obtain ⟨v0, v1, v2, v3, d0, d1, d2, d3, p0, p1, p2, p3, rfl, rfl, rfl, h0, h1, h2, h3⟩ := trodAll_four hA
    obtain ⟨gen, bound, A, n, c, ls, rfl, hn, hM, hN⟩ := open_module (hval 0 _ v0 rfl rfl) h0 (fun q hq => hlt q (by simp [hq])) (sized_atm hsz (j := 0) rfl rfl)
    obtain ⟨x1, rfl, rfl, rfl, wx1⟩ := open_int Tryz.underlying3 (hval 1 _ v1 rfl rfl) h1
    obtain ⟨x2, rfl, rfl, rfl, wx2⟩ := open_int Tryz.underlying3 (hval 2 _ v2 rfl rfl) h2
    obtain ⟨x3, rfl, rfl, rfl, wx3⟩ := open_int Tryz.underlying3 (hval 3 _ v3 rfl rfl) h3
    exact law_equal gen bound A n c ls x1 x2 x3 W hM hn (pow_of_laid hL) (fun x hx => ⟨(hN x hx).1, (hN x hx).2.1⟩) (by have := wf_i64 wx1; omega) (by have := wf_i64 wx2; omega) (by have := wf_i64 wx3; omega)

theorem typesEqual_said : Rows.TypesEqualSaid :=
  OpenClaim.holds_of_wide 8 Tryz.f8 rfl rfl rfl rfl rfl rfl rfl ⟨rfl, rfl, rfl, rfl, rfl⟩ rfl rfl rfl rfl rfl (by kernel_rfl) Tryz.func8 (by kernel_rfl)
    (of_decide_eq_true (by kernel_rfl)) (by unfold Func.isWrapper; rw [if_neg (of_decide_eq_false (by kernel_rfl))]; exact ⟨rfl, rfl⟩)
    (fun os started H enc _ => typesEqual_lifted os started H enc)
theorem typesEqual_holds : Rows.TypesEqualCardSaid :=
  Claim7.holds_tied_plain_at .later [] [.data, .data, .data] true (true, "8be59d3d53b555d6b6af6c792abe04b1e2e55b621a79cbc273eebf09ffe34f05") false
    typesEqual_said (fun _ h => by cases h) (by kernel_rfl) (fun _ h => by cases h) typesEqual_row_tie rfl ⟨rfl, rfl⟩ (by kernel_rfl) rfl
    (fun f fn hf hfn => by
      obtain rfl : f = 8 := Option.some.inj ((show Tryz.prog.funcNamed "intaglio/intagliolaw10.TypesEqual" = some 8 by kernel_rfl).symm.trans hf) |>.symm
      obtain rfl : fn = Tryz.f8 := (Option.some.inj (Tryz.func8.symm.trans hfn)).symm
      exact ⟨by kernel_rfl, fun j t ht => by
        rw [Tryz.params8] at ht
        have hj : t = 25 ∨ t = 3 := by
          rcases j with _ | _ | _ | _ | j
          · left; simpa using ht.symm
          · right; simpa using ht.symm
          · right; simpa using ht.symm
          · right; simpa using ht.symm
          · simp at ht
        rcases hj with rfl | rfl
        · exact (show Tryz.prog.wantsStandIn 25 = false by kernel_rfl)
        · exact (show Tryz.prog.wantsStandIn 3 = false by kernel_rfl)⟩)
    (by kernel_rfl)
end Go.Proofs.YtgdmbeamemdaiaaGreatDoor
