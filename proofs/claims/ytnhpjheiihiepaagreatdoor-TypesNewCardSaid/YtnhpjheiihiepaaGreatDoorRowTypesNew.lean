/- The statement of TypesNew: for every input the law answers true, and its arguments read as they did. No condition but that the listed variables hold what the program's text lays in them, which the card ties. -/
import Derived.Carry
import Derived.Test.YtnhpjheiihiepaaGreatDoorTU
import Derived.Test.YtnhpjheiihiepaaGreatDoorTV
import Derived.Test.YtnhpjheiihiepaaGreatDoorRtNewLaw
namespace Go.Proofs.YtnhpjheiihiepaaGreatDoor
open Go.ChangeShapes Go.WideShapes Go.ChangeAt Go.RowKit Go.ChangeMaps

set_option maxRecDepth 100000 in
theorem typesNew_lifted (os : Os) (started : os.Started) (H : Type) (enc : TypeId × Value → H) :
    ReturnsInHanded {} Tryz.checked os 3 .any (fun w args => (Rows.typesNewSpec.pre enc Tryz.prog Tryz.f3 Rows.typesNewRow.domain false w args ∧ laidMetH Tryz.prog tabs3 w) ∧ sizedMet enc Tryz.prog Tryz.f3 (OpenSpec.ofChange Rows.typesNewSpec) false w args)
      (Rows.typesNewSpec.post enc Tryz.prog Tryz.f3 false true false false) := by
  refine law_lifted_laid (C := Tryz.checked) own_knob started (by kernel_rfl) Tryz.func3 laid_out (by kernel_rfl) (tb := 4) rfl Tryz.underlying4 rfl ?_
    (ChangeSpec.witness_shaped (enc := enc) (C := Tryz.checked) (os := os) (X := fun w _ => laidMetH Tryz.prog tabs3 w) false (World.doorLaid Tryz.prog 400 os) #[.agg #[.int .u32 0, .int .u32 0, .slice none 0 0], .slice none 0 0] 8 rfl (World.shaped_of_RefB (by kernel_rfl) (by kernel_rfl)) (by kernel_rfl) (by kernel_rfl) (by kernel_rfl) (door_met os _)) ?_
  · intro ds h
    match ds, h with
    | [d0, d1], _ => exact ⟨rfl, rfl, rfl⟩
  · intro W base args ds p hval hA hsz hlt hL
    rw [Tryz.params3] at hA hval hsz
    obtain ⟨v0, v1, d0, d1, p0, p1, rfl, rfl, rfl, h0, h1⟩ := trodAll_two hA
    obtain ⟨gen, bound, A, n, c, ls, rfl, hn, hM, hN⟩ := open_module (hval 0 _ v0 rfl rfl) h0 (fun q hq => hlt q (by simp [hq])) (sized_atm hsz (j := 0) rfl rfl)
    obtain ⟨A2, n2, c2, l2, rfl, hnc2, hc2, hwf2, hr2⟩ := open_reads Tryz.underlying26 Tryz.underlying22 (by kernel_rfl) (bytes := 4) (by kernel_rfl) (hval 1 _ v1 rfl rfl) h1 (fun x hx => hlt x (by simp [hx])) (fun elems spare hd => sized_slice hsz (j := 1) rfl (by rw [hd]; rfl) Tryz.underlying26)
    exact law_new gen bound A n c ls A2 n2 c2 l2 W hM hn (pow_of_laid hL) hr2 (fun x hx => ⟨(hN x hx).1, (hN x hx).2.1⟩)

theorem typesNew_said : Rows.TypesNewSaid :=
  OpenClaim.holds_of_wide 3 Tryz.f3 rfl rfl rfl rfl rfl rfl rfl ⟨rfl, rfl, rfl, rfl, rfl⟩ rfl rfl rfl rfl rfl (by kernel_rfl) Tryz.func3 (by kernel_rfl)
    (of_decide_eq_true (by kernel_rfl)) (by unfold Func.isWrapper; rw [if_neg (of_decide_eq_false (by kernel_rfl))]; exact ⟨rfl, rfl⟩)
    (fun os started H enc _ => typesNew_lifted os started H enc)
theorem typesNew_holds : Rows.TypesNewCardSaid :=
  Claim7.holds_tied_plain_at .later [] [.data, .data, .data] true (true, "5a4d8379f45cef200231a89500b3ffb18b5c15ae3db0d8910585ab88aca9edef") false
    typesNew_said (fun _ h => by cases h) (by kernel_rfl) (fun _ h => by cases h) typesNew_row_tie rfl ⟨rfl, rfl⟩ (by kernel_rfl) rfl
    (fun f fn hf hfn => by
      obtain rfl : f = 3 := Option.some.inj ((show Tryz.prog.funcNamed "intaglio/intagliolaw10.TypesNew" = some 3 by kernel_rfl).symm.trans hf) |>.symm
      obtain rfl : fn = Tryz.f3 := (Option.some.inj (Tryz.func3.symm.trans hfn)).symm
      exact ⟨by kernel_rfl, fun j t ht => by
        rw [Tryz.params3] at ht
        have hj : t = 25 ∨ t = 26 := by
          rcases j with _ | _ | j
          · left; simpa using ht.symm
          · right; simpa using ht.symm
          · simp at ht
        rcases hj with rfl | rfl
        · exact (show Tryz.prog.wantsStandIn 25 = false by kernel_rfl)
        · exact (show Tryz.prog.wantsStandIn 26 = false by kernel_rfl)⟩)
    (by kernel_rfl)
end Go.Proofs.YtnhpjheiihiepaaGreatDoor
