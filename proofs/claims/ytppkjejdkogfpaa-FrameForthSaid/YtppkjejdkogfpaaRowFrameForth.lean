/- The statement of FrameForth: for every input the law answers true, and its arguments read as they did. No condition. -/
import Derived.Test.YtppkjejdkogfpaaOpenf
import Derived.Test.YtppkjejdkogfpaaForth
namespace Go.Proofs.Ytppkjejdkogfpaa
open Go.ChangeShapes Go.WideShapes Go.ChangeAt Go.RowKit Go.ChangeMaps

set_option maxRecDepth 100000 in
theorem frameForth_lifted (os : Os) (started : os.Started) (H : Type) (enc : TypeId × Value → H) :
    ReturnsInHanded {} Try.checked os 5 .any (Rows.frameForthSpec.pre6 enc Try.prog Try.f5 Rows.frameForthRow.domain false) (Rows.frameForthSpec.post enc Try.prog Try.f5 false true false false) := by
  refine law_lifted (C := Try.checked) own_knob started (by kernel_rfl) Try.func5 laid_out (by kernel_rfl) (tb := 4) rfl Try.underlying4 rfl ?_
    (ChangeSpec.witness6 (enc := enc) (C := Try.checked) false ⟨#[], #[.agg #[.int .u32 0, .int .u32 0], .slice none 0 0], []⟩ 8 (by kernel_rfl) (by kernel_rfl) (by kernel_rfl) (by kernel_rfl)) ?_
  · intro ds h
    match ds, h with
    | [d0, d1], _ => exact ⟨rfl, rfl, rfl⟩
  · intro W base args ds p hval hA hsz hlt
    rw [Try.params5] at hA hval hsz
    obtain ⟨v0, v1, d0, d1, p0, p1, rfl, rfl, rfl, h0, h1⟩ := trodAll_two hA
    obtain ⟨g, b, rfl, hg, hb⟩ := open_head Try.underlying25 (by kernel_rfl) (by kernel_rfl) Try.underlying23 Try.underlying23 (hval 0 _ v0 rfl rfl) h0
    obtain ⟨A1, n1, c1, l1, rfl, hl1, hnc1, hc1, hr1, hu1⟩ := open_raws Try.underlying26 Try.underlying45 Try.underlying43 Try.underlying22 Try.underlying23 (by kernel_rfl) (by kernel_rfl) (by kernel_rfl) (by kernel_rfl) (by kernel_rfl)
      (hval 1 _ v1 rfl rfl) h1 (fun q hq => hlt q (by simp [hq])) (sized_at hsz (j := 1) rfl rfl)
    exact law_forth g b A1 n1 c1 l1 W hg hb hl1 (by omega) hr1 hu1

theorem frameForth_holds : Rows.FrameForthSaid :=
  OpenClaim.holds_of_wide 5 Try.f5 rfl rfl rfl rfl rfl rfl rfl ⟨rfl, rfl, rfl, rfl, rfl⟩ rfl rfl rfl rfl rfl (by kernel_rfl) Try.func5 (by kernel_rfl)
    (of_decide_eq_true (by kernel_rfl)) (by unfold Func.isWrapper; rw [if_neg (of_decide_eq_false (by kernel_rfl))]; exact ⟨rfl, rfl⟩)
    (fun os started H enc _ => frameForth_lifted os started H enc)
end Go.Proofs.Ytppkjejdkogfpaa
