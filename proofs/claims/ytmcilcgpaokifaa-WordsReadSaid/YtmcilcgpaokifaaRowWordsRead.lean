/- The statement of WordsRead: for every input the law answers true, and its arguments read as they did. No condition. -/
import Derived.Test.YtmcilcgpaokifaaRow
import Derived.Test.YtmcilcgpaokifaaRead
namespace Go.Proofs.Ytmcilcgpaokifaa
open Go.ChangeShapes Go.WideShapes Go.ChangeAt Go.RowKit Go.ChangeMaps

set_option maxRecDepth 100000 in
theorem wordsRead_lifted (os : Os) (started : os.Started) (H : Type) (enc : TypeId × Value → H) :
    ReturnsInHanded {} Try.checked os 9 .any (Rows.wordsReadSpec.pre6 enc Try.prog Try.f9 Rows.wordsReadRow.domain false) (Rows.wordsReadSpec.post enc Try.prog Try.f9 false true false false) := by
  refine law_lifted (C := Try.checked) own_knob started (by kernel_rfl) Try.func9 laid_out (by kernel_rfl) (tb := 4) rfl Try.underlying4 rfl ?_
    (ChangeSpec.witness6 (enc := enc) (C := Try.checked) false ⟨#[], #[.string ByteArray.empty, .slice none 0 0], []⟩ 8 (by kernel_rfl) (by kernel_rfl) (by kernel_rfl) (by kernel_rfl)) ?_
  · intro ds h
    match ds, h with
    | [d0, d1], _ => exact ⟨rfl, rfl, rfl⟩
  · intro W base args ds p hval hA hsz hlt
    rw [Try.params9] at hA hval hsz
    obtain ⟨v0, v1, d0, d1, p0, p1, rfl, rfl, rfl, h0, h1⟩ := trodAll_two hA
    obtain ⟨s0, rfl, rfl, rfl, ws0⟩ := open_string Try.underlying9 (hval 0 _ v0 rfl rfl) h0
    have hs0 := sized_string hsz (j := 0) rfl rfl
    obtain ⟨A1, n1, c1, l1, rfl, hnc1, hc1, hwf1, hr1⟩ := open_reads Try.underlying22 Try.underlying28 (by kernel_rfl) (bytes := 4) (by kernel_rfl) (hval 1 _ v1 rfl rfl) h1 (fun x hx => hlt x (List.mem_append_right _ hx)) (fun elems spare hd => sized_slice hsz (j := 1) rfl (by rw [hd]; rfl) Try.underlying22)
    exact law_read s0 A1 n1 c1 l1 W (by simpa [reachBytes] using hs0) (by omega) (under_u32 hwf1) hr1

theorem wordsRead_holds : Rows.WordsReadSaid :=
  OpenClaim.holds_of_wide 9 Try.f9 rfl rfl rfl rfl rfl rfl rfl ⟨rfl, rfl, rfl, rfl, rfl⟩ rfl rfl rfl rfl rfl (by kernel_rfl) Try.func9 (by kernel_rfl)
    (of_decide_eq_true (by kernel_rfl)) (by unfold Func.isWrapper; rw [if_neg (of_decide_eq_false (by kernel_rfl))]; exact ⟨rfl, rfl⟩)
    (fun os started H enc _ => wordsRead_lifted os started H enc)
end Go.Proofs.Ytmcilcgpaokifaa
