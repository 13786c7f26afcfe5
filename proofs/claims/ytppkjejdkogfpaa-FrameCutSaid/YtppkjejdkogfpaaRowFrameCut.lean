/- The statement of FrameCut: for every input the law answers true, and its arguments read as they did. No condition. -/
import Derived.Test.YtppkjejdkogfpaaOpenf
import Derived.Test.YtppkjejdkogfpaaCut
namespace Go.Proofs.Ytppkjejdkogfpaa
open Go.ChangeShapes Go.WideShapes Go.ChangeAt Go.RowKit Go.ChangeMaps

set_option maxRecDepth 100000 in
theorem frameCut_lifted (os : Os) (started : os.Started) (H : Type) (enc : TypeId × Value → H) :
    ReturnsInHanded {} Try.checked os 6 .any (Rows.frameCutSpec.pre6 enc Try.prog Try.f6 Rows.frameCutRow.domain false) (Rows.frameCutSpec.post enc Try.prog Try.f6 false true false false) := by
  refine law_lifted (C := Try.checked) own_knob started (by kernel_rfl) Try.func6 laid_out (by kernel_rfl) (tb := 4) rfl Try.underlying4 rfl ?_
    (ChangeSpec.witness6 (enc := enc) (C := Try.checked) false ⟨#[], #[.agg #[.int .u32 0, .int .u32 0], .slice none 0 0, .int .i64 0, .int .u32 0], []⟩ 8 (by kernel_rfl) (by kernel_rfl) (by kernel_rfl) (by kernel_rfl)) ?_
  · intro ds h
    match ds, h with
    | [d0, d1, d2, d3], _ => exact ⟨rfl, rfl, rfl⟩
  · intro W base args ds p hval hA hsz hlt
    rw [Try.params6] at hA hval hsz
    obtain ⟨v0, v1, v2, v3, d0, d1, d2, d3, p0, p1, p2, p3, rfl, rfl, rfl, h0, h1, h2, h3⟩ := trodAll_four hA
    obtain ⟨g, b, rfl, hg, hb⟩ := open_head Try.underlying25 (by kernel_rfl) (by kernel_rfl) Try.underlying23 Try.underlying23 (hval 0 _ v0 rfl rfl) h0
    obtain ⟨A1, n1, c1, l1, rfl, hl1, hnc1, hc1, hr1, hu1⟩ := open_raws Try.underlying26 Try.underlying45 Try.underlying43 Try.underlying22 Try.underlying23 (by kernel_rfl) (by kernel_rfl) (by kernel_rfl) (by kernel_rfl) (by kernel_rfl)
      (hval 1 _ v1 rfl rfl) h1 (fun q hq => hlt q (by simp [hq])) (sized_at hsz (j := 1) rfl rfl)
    obtain ⟨x2, rfl, rfl, rfl, wx2⟩ := open_int Try.underlying3 (hval 2 _ v2 rfl rfl) h2
    have hx2 := wf_i64 wx2
    obtain ⟨x3, rfl, rfl, rfl, wx3⟩ := open_int Try.underlying23 (hval 3 _ v3 rfl rfl) h3
    have hx3 := wf_u32 wx3
    exact law_cut g b A1 n1 c1 l1 x2 x3 W hg hb hl1 (by omega) hr1 hu1 hx2 hx3

theorem frameCut_holds : Rows.FrameCutSaid :=
  OpenClaim.holds_of_wide 6 Try.f6 rfl rfl rfl rfl rfl rfl rfl ⟨rfl, rfl, rfl, rfl, rfl⟩ rfl rfl rfl rfl rfl (by kernel_rfl) Try.func6 (by kernel_rfl)
    (of_decide_eq_true (by kernel_rfl)) (by unfold Func.isWrapper; rw [if_neg (of_decide_eq_false (by kernel_rfl))]; exact ⟨rfl, rfl⟩)
    (fun os started H enc _ => frameCut_lifted os started H enc)
end Go.Proofs.Ytppkjejdkogfpaa
