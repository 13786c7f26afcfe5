/- The statement of FrameEach in its second form: where what it reads is of bulk at most 1048576 the law answers true, and its arguments read as they did. -/
import Derived.Test.YtppkjejdkogfpaaRowUpto
import Derived.Test.YtppkjejdkogfpaaEachl
namespace Go.Proofs.Ytppkjejdkogfpaa
open Go.ChangeShapes Go.WideShapes Go.ChangeAt Go.RowKit Go.ChangeMaps

set_option maxRecDepth 100000 in
theorem frameEach_lifted (os : Os) (started : os.Started) (H : Type) (enc : TypeId × Value → H) (F : Stop.Interp) :
    ReturnsInHanded {} Try.checked os 4 .any ((Rows.OpenSpec.upto Rows.frameEachSpec).pre6 enc Try.prog Try.f4 Rows.frameEachUptoRow.domain false) (((Rows.OpenSpec.upto Rows.frameEachSpec).at F).post enc Try.prog Try.f4 false true false false) := by
  refine law_lifted_upto (cs := Rows.frameEachSpec) started (by kernel_rfl) Try.func4 (by kernel_rfl) (tb := 4) rfl Try.underlying4 rfl ?_
    (OpenSpec.witness (enc := enc) (C := Try.checked) (s := Rows.OpenSpec.upto Rows.frameEachSpec) (k := Rows.uptoSmall) rfl false ⟨#[], #[.slice none 0 0, .int .i64 0], []⟩ 8 (by kernel_rfl) (by kernel_rfl) (by kernel_rfl)
      (x := ([.nil, .lit (.int .i64 0)], [], [])) (by kernel_rfl) rfl (by kernel_rfl)) ?_
  · intro ds h
    match ds, h with
    | [d0, d1], _ => exact ⟨rfl, rfl, rfl⟩
  · intro W base args ds p hval hA hk hlt
    rw [Try.params4] at hA hval
    obtain ⟨v0, v1, d0, d1, p0, p1, rfl, rfl, rfl, h0, h1⟩ := trodAll_two hA
    obtain ⟨A0, n0, c0, l0, rfl, hnc0, hc0, hwf0, hr0⟩ := open_reads_small (M := 1048576) Try.underlying22 Try.underlying23 (by kernel_rfl) (hval 0 _ v0 rfl rfl) h0 (fun q hq => hlt q (by simp [hq])) (fun elems spare hd => upto_room hk (d := d0) (by simp) hd)
    obtain ⟨x1, rfl, rfl, rfl, wx1⟩ := open_int Try.underlying3 (hval 1 _ v1 rfl rfl) h1
    exact law_each A0 n0 c0 l0 x1 W (by omega) (under_u32 hwf0) hr0

theorem frameEach_holds : Rows.FrameEachUptoSaid :=
  OpenClaim.holds_of_cond 4 Try.f4 rfl rfl rfl rfl rfl rfl rfl ⟨rfl, rfl, rfl, rfl, rfl⟩ rfl rfl rfl rfl rfl (by kernel_rfl) Try.func4 (by kernel_rfl)
    (of_decide_eq_true (by kernel_rfl)) (by unfold Func.isWrapper; rw [if_neg (of_decide_eq_false (by kernel_rfl))]; exact ⟨rfl, rfl⟩)
    (fun os started H enc _ F => frameEach_lifted os started H enc F)
end Go.Proofs.Ytppkjejdkogfpaa
