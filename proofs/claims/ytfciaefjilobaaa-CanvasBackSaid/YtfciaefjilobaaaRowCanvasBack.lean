/- The statement of CanvasBack: for every input the law answers true, and its arguments read as they did. No condition. -/
import Derived.Test.YtfciaefjilobaaaRow
import Derived.Test.YtfciaefjilobaaaOpenc
import Derived.Test.YtfciaefjilobaaaBackc
namespace Go.Proofs.Ytfciaefjilobaaa
open Go.ChangeShapes Go.WideShapes Go.ChangeAt Go.RowKit Go.ChangeMaps

set_option maxRecDepth 100000 in
theorem canvasBack_lifted (os : Os) (started : os.Started) (H : Type) (enc : TypeId × Value → H) :
    ReturnsInHanded {} Try.checked os 10 .any (Rows.canvasBackSpec.pre6 enc Try.prog Try.f10 Rows.canvasBackRow.domain false) (Rows.canvasBackSpec.post enc Try.prog Try.f10 false true false false) := by
  refine law_lifted (C := Try.checked) own_knob started (by kernel_rfl) Try.func10 laid_out (by kernel_rfl) (tb := 4) rfl Try.underlying4 rfl ?_
    (ChangeSpec.witness6 (enc := enc) (C := Try.checked) false ⟨#[], #[.agg #[.int .i64 0, .int .i64 0, .int .u32 0], .slice none 0 0], []⟩ 8 (by kernel_rfl) (by kernel_rfl) (by kernel_rfl) (by kernel_rfl)) ?_
  · intro ds h
    match ds, h with
    | [d0, d1], _ => exact ⟨rfl, rfl, rfl⟩
  · intro W base args ds p hval hA hsz hlt
    rw [Try.params10] at hA hval hsz
    obtain ⟨v0, v1, d0, d1, p0, p1, rfl, rfl, rfl, h0, h1⟩ := trodAll_two hA
    obtain ⟨x, y, z, rfl, hx, hy, hz⟩ := open_sheet Try.underlying24 (by kernel_rfl) (by kernel_rfl) Try.underlying3 Try.underlying3 Try.underlying22 (hval 0 _ v0 rfl rfl) h0
    obtain ⟨A0, n0, c0, l0, rfl, hnc0, hc0, hwf0, hr0⟩ := open_dots Try.underlying25 Try.underlying57 Try.underlying3 Try.underlying3 Try.underlying21 Try.underlying22 (by kernel_rfl) (by kernel_rfl) (bytes := 24) (by kernel_rfl)
      (hval 1 _ v1 rfl rfl) h1 (fun q hq => hlt q (by simp [hq])) (fun elems spare hd => sized_slice hsz (j := 1) rfl (by rw [hd]; rfl) Try.underlying25)
    obtain ⟨k1, k2, k3⟩ := wf_sheet hx hy hz
    exact law_backc x y z A0 n0 c0 l0 W k1 k2 k3 (by omega) (okDots_of hwf0) hr0

theorem canvasBack_holds : Rows.CanvasBackSaid :=
  OpenClaim.holds_of_wide 10 Try.f10 rfl rfl rfl rfl rfl rfl rfl ⟨rfl, rfl, rfl, rfl, rfl⟩ rfl rfl rfl rfl rfl (by kernel_rfl) Try.func10 (by kernel_rfl)
    (of_decide_eq_true (by kernel_rfl)) (by unfold Func.isWrapper; rw [if_neg (of_decide_eq_false (by kernel_rfl))]; exact ⟨rfl, rfl⟩)
    (fun os started H enc _ => canvasBack_lifted os started H enc)
end Go.Proofs.Ytfciaefjilobaaa
