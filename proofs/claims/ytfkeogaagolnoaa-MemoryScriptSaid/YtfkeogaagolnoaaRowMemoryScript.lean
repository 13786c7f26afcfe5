/- The statement of MemoryScript: for every input the law answers true, and its arguments read as they did. No condition. -/
import Derived.Test.YtfkeogaagolnoaaOpenm
import Derived.Test.YtfkeogaagolnoaaScript
namespace Go.Proofs.Ytfkeogaagolnoaa
open Go.ChangeShapes Go.WideShapes Go.ChangeAt Go.RowKit Go.ChangeMaps

set_option maxRecDepth 100000 in
theorem memoryScript_lifted (os : Os) (started : os.Started) (H : Type) (enc : TypeId × Value → H) :
    ReturnsInHanded {} Try.checked os 5 .any (Rows.memoryScriptSpec.pre6 enc Try.prog Try.f5 Rows.memoryScriptRow.domain false) (Rows.memoryScriptSpec.post enc Try.prog Try.f5 false true false false) := by
  refine law_lifted (C := Try.checked) own_knob started (by kernel_rfl) Try.func5 laid_out (by kernel_rfl) (tb := 4) rfl Try.underlying4 rfl ?_
    (ChangeSpec.witness6 (enc := enc) (C := Try.checked) false ⟨#[], #[.slice none 0 0], []⟩ 8 (by kernel_rfl) (by kernel_rfl) (by kernel_rfl) (by kernel_rfl)) ?_
  · intro ds h
    match ds, h with
    | [d0], _ => exact ⟨rfl, rfl, rfl⟩
  · intro W base args ds p hval hA hsz hlt
    rw [Try.params5] at hA hval hsz
    obtain ⟨v0, d0, rfl, rfl, h0⟩ := trodAll_one hA
    obtain ⟨A0, n0, c0, l0, rfl, hl0, hnc0, hc0, hr0⟩ := open_calls Try.underlying38 Try.underlying44 Try.underlying3 Try.underlying3 Try.underlying3 Try.underlying3 Try.underlying28 Try.underlying36 (by kernel_rfl) (by kernel_rfl) (by kernel_rfl) (by kernel_rfl) (by kernel_rfl)
      (hval 0 _ v0 rfl rfl) h0 (fun q hq => hlt q (by simp [hq])) (sized_at hsz (j := 0) rfl rfl)
    exact law_script A0 n0 c0 l0 W hl0 (by omega) hr0

theorem memoryScript_holds : Rows.MemoryScriptSaid :=
  OpenClaim.holds_of_wide 5 Try.f5 rfl rfl rfl rfl rfl rfl rfl ⟨rfl, rfl, rfl, rfl, rfl⟩ rfl rfl rfl rfl rfl (by kernel_rfl) Try.func5 (by kernel_rfl)
    (of_decide_eq_true (by kernel_rfl)) (by unfold Func.isWrapper; rw [if_neg (of_decide_eq_false (by kernel_rfl))]; exact ⟨rfl, rfl⟩)
    (fun os started H enc _ => memoryScript_lifted os started H enc)
end Go.Proofs.Ytfkeogaagolnoaa
