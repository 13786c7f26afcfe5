/- The statement of WordsTwice: for every input the law answers true, and its arguments read as they did. No condition. -/
import Derived.Test.YtmcilcgpaokifaaRow
import Derived.Test.YtmcilcgpaokifaaTwice
namespace Go.Proofs.Ytmcilcgpaokifaa
open Go.ChangeShapes Go.WideShapes Go.ChangeAt Go.RowKit Go.ChangeMaps

set_option maxRecDepth 100000 in
theorem wordsTwice_lifted (os : Os) (started : os.Started) (H : Type) (enc : TypeId × Value → H) :
    ReturnsInHanded {} Try.checked os 4 .any (Rows.wordsTwiceSpec.pre6 enc Try.prog Try.f4 Rows.wordsTwiceRow.domain false) (Rows.wordsTwiceSpec.post enc Try.prog Try.f4 false true false false) := by
  refine law_lifted (C := Try.checked) own_knob started (by kernel_rfl) Try.func4 laid_out (by kernel_rfl) (tb := 4) rfl Try.underlying4 rfl ?_
    (ChangeSpec.witness6 (enc := enc) (C := Try.checked) false ⟨#[], #[.int .u32 0], []⟩ 8 (by kernel_rfl) (by kernel_rfl) (by kernel_rfl) (by kernel_rfl)) ?_
  · intro ds h
    match ds, h with
    | [d0], _ => exact ⟨rfl, rfl, rfl⟩
  · intro W base args ds p hval hA hsz hlt
    rw [Try.params4] at hA hval hsz
    obtain ⟨v0, d0, rfl, rfl, h0⟩ := trodAll_one hA
    obtain ⟨x0, rfl, rfl, rfl, wx0⟩ := open_int Try.underlying28 (hval 0 _ v0 rfl rfl) h0
    have hx0 := wf_u32 wx0
    exact law_twice x0 W hx0.1 hx0.2

theorem wordsTwice_holds : Rows.WordsTwiceSaid :=
  OpenClaim.holds_of_wide 4 Try.f4 rfl rfl rfl rfl rfl rfl rfl ⟨rfl, rfl, rfl, rfl, rfl⟩ rfl rfl rfl rfl rfl (by kernel_rfl) Try.func4 (by kernel_rfl)
    (of_decide_eq_true (by kernel_rfl)) (by unfold Func.isWrapper; rw [if_neg (of_decide_eq_false (by kernel_rfl))]; exact ⟨rfl, rfl⟩)
    (fun os started H enc _ => wordsTwice_lifted os started H enc)
end Go.Proofs.Ytmcilcgpaokifaa
