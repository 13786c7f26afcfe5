/- The statement of WordsTexts: for every input the law answers true, and its arguments read as they did. No condition. -/
import Derived.Test.YtmcilcgpaokifaaRow
import Derived.Test.YtmcilcgpaokifaaTexts
namespace Go.Proofs.Ytmcilcgpaokifaa
open Go.ChangeShapes Go.WideShapes Go.ChangeAt Go.RowKit Go.ChangeMaps

set_option maxRecDepth 100000 in
theorem wordsTexts_lifted (os : Os) (started : os.Started) (H : Type) (enc : TypeId × Value → H) :
    ReturnsInHanded {} Try.checked os 7 .any (Rows.wordsTextsSpec.pre6 enc Try.prog Try.f7 Rows.wordsTextsRow.domain false) (Rows.wordsTextsSpec.post enc Try.prog Try.f7 false true false false) := by
  refine law_lifted (C := Try.checked) own_knob started (by kernel_rfl) Try.func7 laid_out (by kernel_rfl) (tb := 4) rfl Try.underlying4 rfl ?_
    (ChangeSpec.witness6 (enc := enc) (C := Try.checked) false ⟨#[], #[.slice none 0 0], []⟩ 8 (by kernel_rfl) (by kernel_rfl) (by kernel_rfl) (by kernel_rfl)) ?_
  · intro ds h
    match ds, h with
    | [d0], _ => exact ⟨rfl, rfl, rfl⟩
  · intro W base args ds p hval hA hsz hlt
    rw [Try.params7] at hA hval hsz
    obtain ⟨v0, d0, rfl, rfl, h0⟩ := trodAll_one hA
    obtain ⟨A0, n0, c0, l0, rfl, hnc0, hc0, hwf0, hr0⟩ := open_reads Try.underlying22 Try.underlying28 (by kernel_rfl) (bytes := 4) (by kernel_rfl) (hval 0 _ v0 rfl rfl) h0 hlt (fun elems spare hd => sized_slice hsz (j := 0) rfl (by rw [hd]; rfl) Try.underlying22)
    exact law_texts A0 n0 c0 l0 W (by omega) (under_u32 hwf0) hr0

theorem wordsTexts_holds : Rows.WordsTextsSaid :=
  OpenClaim.holds_of_wide 7 Try.f7 rfl rfl rfl rfl rfl rfl rfl ⟨rfl, rfl, rfl, rfl, rfl⟩ rfl rfl rfl rfl rfl (by kernel_rfl) Try.func7 (by kernel_rfl)
    (of_decide_eq_true (by kernel_rfl)) (by unfold Func.isWrapper; rw [if_neg (of_decide_eq_false (by kernel_rfl))]; exact ⟨rfl, rfl⟩)
    (fun os started H enc _ => wordsTexts_lifted os started H enc)
end Go.Proofs.Ytmcilcgpaokifaa
