/- The statement of WordsSplits: for every input the law answers true, and its arguments read as they did. No condition. -/
import Derived.Test.YtmcilcgpaokifaaRow
import Derived.Test.YtmcilcgpaokifaaSplits
namespace Go.Proofs.Ytmcilcgpaokifaa
open Go.ChangeShapes Go.WideShapes Go.ChangeAt Go.RowKit Go.ChangeMaps

set_option maxRecDepth 100000 in
theorem wordsSplits_lifted (os : Os) (started : os.Started) (H : Type) (enc : TypeId × Value → H) :
    ReturnsInHanded {} Try.checked os 6 .any (Rows.wordsSplitsSpec.pre6 enc Try.prog Try.f6 Rows.wordsSplitsRow.domain false) (Rows.wordsSplitsSpec.post enc Try.prog Try.f6 false true false false) := by
  refine law_lifted (C := Try.checked) own_knob started (by kernel_rfl) Try.func6 laid_out (by kernel_rfl) (tb := 4) rfl Try.underlying4 rfl ?_
    (ChangeSpec.witness6 (enc := enc) (C := Try.checked) false ⟨#[], #[.slice none 0 0], []⟩ 8 (by kernel_rfl) (by kernel_rfl) (by kernel_rfl) (by kernel_rfl)) ?_
  · intro ds h
    match ds, h with
    | [d0], _ => exact ⟨rfl, rfl, rfl⟩
  · intro W base args ds p hval hA hsz hlt
    rw [Try.params6] at hA hval hsz
    obtain ⟨v0, d0, rfl, rfl, h0⟩ := trodAll_one hA
    obtain ⟨A0, n0, c0, l0, rfl, hnc0, hc0, hwf0, hr0⟩ := open_reads Try.underlying24 Try.underlying5 (by kernel_rfl) (bytes := 1) (by kernel_rfl) (hval 0 _ v0 rfl rfl) h0 hlt (fun elems spare hd => sized_slice hsz (j := 0) rfl (by rw [hd]; rfl) Try.underlying24)
    exact law_splits A0 n0 c0 l0 W (by omega) (under_u8 hwf0) hr0

theorem wordsSplits_holds : Rows.WordsSplitsSaid :=
  OpenClaim.holds_of_wide 6 Try.f6 rfl rfl rfl rfl rfl rfl rfl ⟨rfl, rfl, rfl, rfl, rfl⟩ rfl rfl rfl rfl rfl (by kernel_rfl) Try.func6 (by kernel_rfl)
    (of_decide_eq_true (by kernel_rfl)) (by unfold Func.isWrapper; rw [if_neg (of_decide_eq_false (by kernel_rfl))]; exact ⟨rfl, rfl⟩)
    (fun os started H enc _ => wordsSplits_lifted os started H enc)
end Go.Proofs.Ytmcilcgpaokifaa
