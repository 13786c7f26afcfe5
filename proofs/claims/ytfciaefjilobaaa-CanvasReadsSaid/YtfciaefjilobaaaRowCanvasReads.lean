/- The statement of CanvasReads: for every input the law answers true, and its arguments read as they did. No condition. -/
import Derived.Test.YtfciaefjilobaaaRow
import Derived.Test.YtfciaefjilobaaaCreads
namespace Go.Proofs.Ytfciaefjilobaaa
open Go.ChangeShapes Go.WideShapes Go.ChangeAt Go.RowKit Go.ChangeMaps

set_option maxRecDepth 100000 in
theorem canvasReads_lifted (os : Os) (started : os.Started) (H : Type) (enc : TypeId × Value → H) :
    ReturnsInHanded {} Try.checked os 9 .any (Rows.canvasReadsSpec.pre6 enc Try.prog Try.f9 Rows.canvasReadsRow.domain false) (Rows.canvasReadsSpec.post enc Try.prog Try.f9 false true false false) := by
  refine law_lifted (C := Try.checked) own_knob started (by kernel_rfl) Try.func9 laid_out (by kernel_rfl) (tb := 4) rfl Try.underlying4 rfl ?_
    (ChangeSpec.witness6 (enc := enc) (C := Try.checked) false ⟨#[], #[.slice none 0 0], []⟩ 8 (by kernel_rfl) (by kernel_rfl) (by kernel_rfl) (by kernel_rfl)) ?_
  · intro ds h
    match ds, h with
    | [d0], _ => exact ⟨rfl, rfl, rfl⟩
  · intro W base args ds p hval hA hsz hlt
    rw [Try.params9] at hA hval hsz
    obtain ⟨v0, d0, rfl, rfl, h0⟩ := trodAll_one hA
    obtain ⟨A0, n0, c0, l0, rfl, hnc0, hc0, hwf0, hr0⟩ := open_reads Try.underlying47 Try.underlying5 (by kernel_rfl) (bytes := 1) (by kernel_rfl) (hval 0 _ v0 rfl rfl) h0 hlt (fun elems spare hd => sized_slice hsz (j := 0) rfl (by rw [hd]; rfl) Try.underlying47)
    exact law_creads A0 n0 c0 l0 W (by omega) (under_u8 hwf0) hr0

theorem canvasReads_holds : Rows.CanvasReadsSaid :=
  OpenClaim.holds_of_wide 9 Try.f9 rfl rfl rfl rfl rfl rfl rfl ⟨rfl, rfl, rfl, rfl, rfl⟩ rfl rfl rfl rfl rfl (by kernel_rfl) Try.func9 (by kernel_rfl)
    (of_decide_eq_true (by kernel_rfl)) (by unfold Func.isWrapper; rw [if_neg (of_decide_eq_false (by kernel_rfl))]; exact ⟨rfl, rfl⟩)
    (fun os started H enc _ => canvasReads_lifted os started H enc)
end Go.Proofs.Ytfciaefjilobaaa
