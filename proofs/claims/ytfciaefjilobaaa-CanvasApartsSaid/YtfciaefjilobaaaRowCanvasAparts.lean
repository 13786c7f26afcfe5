/- The statement of CanvasAparts: for every input the law answers true, and its arguments read as they did. No condition. -/
import Derived.Test.YtfciaefjilobaaaRow
import Derived.Test.YtfciaefjilobaaaOpenc
import Derived.Test.YtfciaefjilobaaaAparts
namespace Go.Proofs.Ytfciaefjilobaaa
open Go.ChangeShapes Go.WideShapes Go.ChangeAt Go.RowKit Go.ChangeMaps

set_option maxRecDepth 100000 in
theorem canvasAparts_lifted (os : Os) (started : os.Started) (H : Type) (enc : TypeId × Value → H) :
    ReturnsInHanded {} Try.checked os 7 .any (Rows.canvasApartsSpec.pre6 enc Try.prog Try.f7 Rows.canvasApartsRow.domain false) (Rows.canvasApartsSpec.post enc Try.prog Try.f7 false true false false) := by
  refine law_lifted (C := Try.checked) own_knob started (by kernel_rfl) Try.func7 laid_out (by kernel_rfl) (tb := 4) rfl Try.underlying4 rfl ?_
    (ChangeSpec.witness6 (enc := enc) (C := Try.checked) false ⟨#[], #[.agg #[.int .i64 0, .int .i64 0, .int .u32 0, .slice none 0 0], .agg #[.int .i64 0, .int .i64 0, .int .u32 0, .slice none 0 0]], []⟩ 8 (by kernel_rfl) (by kernel_rfl) (by kernel_rfl) (by kernel_rfl)) ?_
  · intro ds h
    match ds, h with
    | [d0, d1], _ => exact ⟨rfl, rfl, rfl⟩
  · intro W base args ds p hval hA hsz hlt
    rw [Try.params7] at hA hval hsz
    obtain ⟨v0, v1, d0, d1, p0, p1, rfl, rfl, rfl, h0, h1⟩ := trodAll_two hA
    obtain ⟨x0, y0, z0, A0, n0, c0, l0, rfl, hx0, hy0, hz0, hnc0, hc0, hwf0, hr0⟩ := open_picture Try.underlying27 (by kernel_rfl) ⟨rfl, rfl⟩ ⟨rfl, rfl⟩ Try.underlying24 (by kernel_rfl) (by kernel_rfl) (by kernel_rfl)
      Try.underlying3 Try.underlying3 Try.underlying22 Try.underlying25 Try.underlying57 Try.underlying3 Try.underlying3 Try.underlying21 Try.underlying22 (by kernel_rfl) (by kernel_rfl) (bytes := 24) (by kernel_rfl)
      (hval 0 _ v0 rfl rfl) h0 (fun q hq => hlt q (by simp [hq]))
      (fun a elems spare hd => sized_in_pair hsz (j := 0) rfl (by rw [hd]; rfl) Try.underlying27 rfl Try.underlying25)
    obtain ⟨k01, k02, k03⟩ := wf_sheet hx0 hy0 hz0
    obtain ⟨x1, y1, z1, A1, n1, c1, l1, rfl, hx1, hy1, hz1, hnc1, hc1, hwf1, hr1⟩ := open_picture Try.underlying27 (by kernel_rfl) ⟨rfl, rfl⟩ ⟨rfl, rfl⟩ Try.underlying24 (by kernel_rfl) (by kernel_rfl) (by kernel_rfl)
      Try.underlying3 Try.underlying3 Try.underlying22 Try.underlying25 Try.underlying57 Try.underlying3 Try.underlying3 Try.underlying21 Try.underlying22 (by kernel_rfl) (by kernel_rfl) (bytes := 24) (by kernel_rfl)
      (hval 1 _ v1 rfl rfl) h1 (fun q hq => hlt q (by simp [hq]))
      (fun a elems spare hd => sized_in_pair hsz (j := 1) rfl (by rw [hd]; rfl) Try.underlying27 rfl Try.underlying25)
    obtain ⟨k11, k12, k13⟩ := wf_sheet hx1 hy1 hz1
    exact law_aparts x0 y0 z0 A0 n0 c0 l0 x1 y1 z1 A1 n1 c1 l1 W k01 k02 k03 (by omega) (okDots_of hwf0) hr0 k11 k12 k13 (by omega) (okDots_of hwf1) hr1

theorem canvasAparts_holds : Rows.CanvasApartsSaid :=
  OpenClaim.holds_of_wide 7 Try.f7 rfl rfl rfl rfl rfl rfl rfl ⟨rfl, rfl, rfl, rfl, rfl⟩ rfl rfl rfl rfl rfl (by kernel_rfl) Try.func7 (by kernel_rfl)
    (of_decide_eq_true (by kernel_rfl)) (by unfold Func.isWrapper; rw [if_neg (of_decide_eq_false (by kernel_rfl))]; exact ⟨rfl, rfl⟩)
    (fun os started H enc _ => canvasAparts_lifted os started H enc)
end Go.Proofs.Ytfciaefjilobaaa
