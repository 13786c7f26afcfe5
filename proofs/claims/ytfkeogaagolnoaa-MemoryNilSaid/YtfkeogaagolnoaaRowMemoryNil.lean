/- The statement of MemoryNil: for every input the law answers true, and its arguments read as they did. No condition. -/
import Derived.Test.YtfkeogaagolnoaaRow
import Derived.Test.YtfkeogaagolnoaaMnil
namespace Go.Proofs.Ytfkeogaagolnoaa
open Go.ChangeShapes Go.WideShapes Go.ChangeAt Go.RowKit Go.ChangeMaps

set_option maxRecDepth 100000 in
theorem memoryNil_lifted (os : Os) (started : os.Started) (H : Type) (enc : TypeId × Value → H) :
    ReturnsInHanded {} Try.checked os 6 .any (Rows.memoryNilSpec.pre6 enc Try.prog Try.f6 Rows.memoryNilRow.domain false) (Rows.memoryNilSpec.post enc Try.prog Try.f6 false true false false) := by
  refine law_lifted (C := Try.checked) own_knob started (by kernel_rfl) Try.func6 laid_out (by kernel_rfl) (tb := 4) rfl Try.underlying4 rfl ?_
    (ChangeSpec.witness6 (enc := enc) (C := Try.checked) false ⟨#[], #[.int .i64 0, .int .i64 0, .int .i64 0, .slice none 0 0], []⟩ 8 (by kernel_rfl) (by kernel_rfl) (by kernel_rfl) (by kernel_rfl)) ?_
  · intro ds h
    match ds, h with
    | [d0, d1, d2, d3], _ => exact ⟨rfl, rfl, rfl⟩
  · intro W base args ds p hval hA hsz hlt
    rw [Try.params6] at hA hval hsz
    obtain ⟨v0, v1, v2, v3, d0, d1, d2, d3, p0, p1, p2, p3, rfl, rfl, rfl, h0, h1, h2, h3⟩ := trodAll_four hA
    obtain ⟨x0, rfl, rfl, rfl, wx0⟩ := open_int Try.underlying3 (hval 0 _ v0 rfl rfl) h0
    have hx0 := wf_i64 wx0
    obtain ⟨x1, rfl, rfl, rfl, wx1⟩ := open_int Try.underlying3 (hval 1 _ v1 rfl rfl) h1
    have hx1 := wf_i64 wx1
    obtain ⟨x2, rfl, rfl, rfl, wx2⟩ := open_int Try.underlying3 (hval 2 _ v2 rfl rfl) h2
    have hx2 := wf_i64 wx2
    obtain ⟨A3, n3, c3, l3, rfl, hnc3, hc3, hwf3, hr3⟩ := open_reads Try.underlying28 Try.underlying36 (by kernel_rfl) (bytes := 4) (by kernel_rfl) (hval 3 _ v3 rfl rfl) h3 (fun x hx => hlt x (by simp [hx])) (fun elems spare hd => sized_slice hsz (j := 3) rfl (by rw [hd]; rfl) Try.underlying28)
    exact law_mnil x0 x1 x2 A3 n3 c3 l3 W hx0.1 hx0.2 hx1.1 hx1.2 hx2.1 hx2.2 (by omega) (under_u32 hwf3) hr3

theorem memoryNil_holds : Rows.MemoryNilSaid :=
  OpenClaim.holds_of_wide 6 Try.f6 rfl rfl rfl rfl rfl rfl rfl ⟨rfl, rfl, rfl, rfl, rfl⟩ rfl rfl rfl rfl rfl (by kernel_rfl) Try.func6 (by kernel_rfl)
    (of_decide_eq_true (by kernel_rfl)) (by unfold Func.isWrapper; rw [if_neg (of_decide_eq_false (by kernel_rfl))]; exact ⟨rfl, rfl⟩)
    (fun os started H enc _ => memoryNil_lifted os started H enc)
end Go.Proofs.Ytfkeogaagolnoaa
