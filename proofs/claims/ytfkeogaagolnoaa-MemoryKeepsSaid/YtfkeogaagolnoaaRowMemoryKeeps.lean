/- The statement of MemoryKeeps: for every input the law answers true, and its arguments read as they did. No condition. -/
import Derived.Test.YtfkeogaagolnoaaRow
import Derived.Test.YtfkeogaagolnoaaKeeps
namespace Go.Proofs.Ytfkeogaagolnoaa
open Go.ChangeShapes Go.WideShapes Go.ChangeAt Go.RowKit Go.ChangeMaps

set_option maxRecDepth 100000 in
theorem memoryKeeps_lifted (os : Os) (started : os.Started) (H : Type) (enc : TypeId × Value → H) :
    ReturnsInHanded {} Try.checked os 4 .any (Rows.memoryKeepsSpec.pre6 enc Try.prog Try.f4 Rows.memoryKeepsRow.domain false) (Rows.memoryKeepsSpec.post enc Try.prog Try.f4 false true false false) := by
  refine law_lifted (C := Try.checked) own_knob started (by kernel_rfl) Try.func4 laid_out (by kernel_rfl) (tb := 4) rfl Try.underlying4 rfl ?_
    (ChangeSpec.witness6 (enc := enc) (C := Try.checked) false ⟨#[], #[.slice none 0 0, .slice none 0 0, .slice none 0 0, .int .i64 0], []⟩ 8 (by kernel_rfl) (by kernel_rfl) (by kernel_rfl) (by kernel_rfl)) ?_
  · intro ds h
    match ds, h with
    | [d0, d1, d2, d3], _ => exact ⟨rfl, rfl, rfl⟩
  · intro W base args ds p hval hA hsz hlt
    rw [Try.params4] at hA hval hsz
    obtain ⟨v0, v1, v2, v3, d0, d1, d2, d3, p0, p1, p2, p3, rfl, rfl, rfl, h0, h1, h2, h3⟩ := trodAll_four hA
    obtain ⟨A0, n0, c0, l0, rfl, hnc0, hc0, hwf0, hr0⟩ := open_reads Try.underlying28 Try.underlying36 (by kernel_rfl) (bytes := 4) (by kernel_rfl) (hval 0 _ v0 rfl rfl) h0 (fun x hx => hlt x (by simp [hx])) (fun elems spare hd => sized_slice hsz (j := 0) rfl (by rw [hd]; rfl) Try.underlying28)
    obtain ⟨A1, n1, c1, l1, rfl, hnc1, hc1, hwf1, hr1⟩ := open_reads Try.underlying28 Try.underlying36 (by kernel_rfl) (bytes := 4) (by kernel_rfl) (hval 1 _ v1 rfl rfl) h1 (fun x hx => hlt x (by simp [hx])) (fun elems spare hd => sized_slice hsz (j := 1) rfl (by rw [hd]; rfl) Try.underlying28)
    obtain ⟨A2, n2, c2, l2, rfl, hnc2, hc2, hwf2, hr2⟩ := open_reads Try.underlying28 Try.underlying36 (by kernel_rfl) (bytes := 4) (by kernel_rfl) (hval 2 _ v2 rfl rfl) h2 (fun x hx => hlt x (by simp [hx])) (fun elems spare hd => sized_slice hsz (j := 2) rfl (by rw [hd]; rfl) Try.underlying28)
    obtain ⟨x3, rfl, rfl, rfl, wx3⟩ := open_int Try.underlying3 (hval 3 _ v3 rfl rfl) h3
    have hx3 := wf_i64 wx3
    exact law_keeps A0 A1 A2 n0 n1 n2 c0 c1 c2 l0 l1 l2 x3 W (by omega) (by omega) (by omega) (under_u32 hwf0) (under_u32 hwf1) (under_u32 hwf2) hr0 hr1 hr2 hx3.1 hx3.2

theorem memoryKeeps_holds : Rows.MemoryKeepsSaid :=
  OpenClaim.holds_of_wide 4 Try.f4 rfl rfl rfl rfl rfl rfl rfl ⟨rfl, rfl, rfl, rfl, rfl⟩ rfl rfl rfl rfl rfl (by kernel_rfl) Try.func4 (by kernel_rfl)
    (of_decide_eq_true (by kernel_rfl)) (by unfold Func.isWrapper; rw [if_neg (of_decide_eq_false (by kernel_rfl))]; exact ⟨rfl, rfl⟩)
    (fun os started H enc _ => memoryKeeps_lifted os started H enc)
end Go.Proofs.Ytfkeogaagolnoaa
