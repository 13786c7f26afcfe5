/- The statement of CanvasPlots: for every input the law answers true, and its arguments read as they did. No condition. -/
import Derived.Test.YtfciaefjilobaaaRow
import Derived.Test.YtfciaefjilobaaaOpenc
import Derived.Test.YtfciaefjilobaaaPlots
namespace Go.Proofs.Ytfciaefjilobaaa
open Go.ChangeShapes Go.WideShapes Go.ChangeAt Go.RowKit Go.ChangeMaps

set_option maxRecDepth 100000 in
theorem canvasPlots_lifted (os : Os) (started : os.Started) (H : Type) (enc : TypeId × Value → H) :
    ReturnsInHanded {} Try.checked os 3 .any (Rows.canvasPlotsSpec.pre6 enc Try.prog Try.f3 Rows.canvasPlotsRow.domain false) (Rows.canvasPlotsSpec.post enc Try.prog Try.f3 false true false false) := by
  refine law_lifted (C := Try.checked) own_knob started (by kernel_rfl) Try.func3 laid_out (by kernel_rfl) (tb := 4) rfl Try.underlying4 rfl ?_
    (ChangeSpec.witness6 (enc := enc) (C := Try.checked) false ⟨#[], #[.agg #[.int .i64 0, .int .i64 0, .int .u32 0, .slice none 0 0], .int .i64 0, .int .i64 0], []⟩ 8 (by kernel_rfl) (by kernel_rfl) (by kernel_rfl) (by kernel_rfl)) ?_
  · intro ds h
    match ds, h with
    | [d0, d1, d2], _ => exact ⟨rfl, rfl, rfl⟩
  · intro W base args ds p hval hA hsz hlt
    rw [Try.params3] at hA hval hsz
    obtain ⟨v0, v1, v2, d0, d1, d2, p0, p1, p2, rfl, rfl, rfl, h0, h1, h2⟩ := trodAll_three hA
    obtain ⟨x, y, z, A0, n0, c0, l0, rfl, hx, hy, hz, hnc0, hc0, hwf0, hr0⟩ := open_picture Try.underlying27 (by kernel_rfl) ⟨rfl, rfl⟩ ⟨rfl, rfl⟩ Try.underlying24 (by kernel_rfl) (by kernel_rfl) (by kernel_rfl)
      Try.underlying3 Try.underlying3 Try.underlying22 Try.underlying25 Try.underlying57 Try.underlying3 Try.underlying3 Try.underlying21 Try.underlying22 (by kernel_rfl) (by kernel_rfl) (bytes := 24) (by kernel_rfl)
      (hval 0 _ v0 rfl rfl) h0 (fun q hq => hlt q (by simp [hq]))
      (fun a elems spare hd => sized_in_pair hsz (j := 0) rfl (by rw [hd]; rfl) Try.underlying27 rfl Try.underlying25)
    obtain ⟨x1, rfl, rfl, rfl, wx1⟩ := open_int Try.underlying3 (hval 1 _ v1 rfl rfl) h1
    obtain ⟨x2, rfl, rfl, rfl, wx2⟩ := open_int Try.underlying3 (hval 2 _ v2 rfl rfl) h2
    obtain ⟨k1, k2, k3⟩ := wf_sheet hx hy hz
    exact law_plots x y z A0 n0 c0 l0 x1 x2 W k1 k2 k3 (by omega) (okDots_of hwf0) hr0

theorem canvasPlots_holds : Rows.CanvasPlotsSaid :=
  OpenClaim.holds_of_wide 3 Try.f3 rfl rfl rfl rfl rfl rfl rfl ⟨rfl, rfl, rfl, rfl, rfl⟩ rfl rfl rfl rfl rfl (by kernel_rfl) Try.func3 (by kernel_rfl)
    (of_decide_eq_true (by kernel_rfl)) (by unfold Func.isWrapper; rw [if_neg (of_decide_eq_false (by kernel_rfl))]; exact ⟨rfl, rfl⟩)
    (fun os started H enc _ => canvasPlots_lifted os started H enc)
end Go.Proofs.Ytfciaefjilobaaa
