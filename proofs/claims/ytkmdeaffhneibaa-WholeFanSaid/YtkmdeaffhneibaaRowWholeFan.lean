/- The statement of WholeFan: for every input the law answers true, and its arguments read as they did. No condition. -/
import Derived.Test.YtkmdeaffhneibaaRow
import Derived.Test.YtkmdeaffhneibaaOpenp
import Derived.Test.YtkmdeaffhneibaaFan
namespace Go.Proofs.Ytkmdeaffhneibaa
open Go.ChangeShapes Go.WideShapes Go.ChangeAt Go.RowKit Go.ChangeMaps

set_option maxRecDepth 100000 in
theorem wholeFan_lifted (os : Os) (started : os.Started) (H : Type) (enc : TypeId × Value → H) :
    ReturnsInHanded {} Try.checked os 3 .any (Rows.wholeFanSpec.pre6 enc Try.prog Try.f3 Rows.wholeFanRow.domain false) (Rows.wholeFanSpec.post enc Try.prog Try.f3 false true false false) := by
  refine law_lifted (C := Try.checked) own_knob started (by kernel_rfl) Try.func3 laid_out (by kernel_rfl) (tb := 4) rfl Try.underlying4 rfl ?_
    (ChangeSpec.witness6 (enc := enc) (C := Try.checked) false ⟨#[], #[.int .i64 0, .int .i64 0, .slice none 0 0], []⟩ 8 (by kernel_rfl) (by kernel_rfl) (by kernel_rfl) (by kernel_rfl)) ?_
  · intro ds h
    match ds, h with
    | [d0, d1, d2], _ => exact ⟨rfl, rfl, rfl⟩
  · intro W base args ds p hval hA hsz hlt
    rw [Try.params3] at hA hval hsz
    obtain ⟨v0, v1, v2, d0, d1, d2, p0, p1, p2, rfl, rfl, rfl, h0, h1, h2⟩ := trodAll_three hA
    obtain ⟨x, rfl, _⟩ := open_int Try.underlying3 (hval 0 _ v0 rfl rfl) h0
    obtain ⟨y, rfl, _⟩ := open_int Try.underlying3 (hval 1 _ v1 rfl rfl) h1
    obtain ⟨A0, n0, c0, l0, rfl, hnc0, hc0, hr0⟩ := open_points Try.underlying22 Try.underlying27 Try.underlying21 Try.underlying21 Try.underlying21 (by kernel_rfl) (by kernel_rfl) (bytes := 12) (by kernel_rfl)
      (hval 2 _ v2 rfl rfl) h2 (fun q hq => hlt q (by simp [hq])) (fun elems spare hd => sized_slice hsz (j := 2) rfl (by rw [hd]; rfl) Try.underlying22)
    exact law_fan x y A0 n0 c0 l0 W (by omega) hr0

theorem wholeFan_holds : Rows.WholeFanSaid :=
  OpenClaim.holds_of_wide 3 Try.f3 rfl rfl rfl rfl rfl rfl rfl ⟨rfl, rfl, rfl, rfl, rfl⟩ rfl rfl rfl rfl rfl (by kernel_rfl) Try.func3 (by kernel_rfl)
    (of_decide_eq_true (by kernel_rfl)) (by unfold Func.isWrapper; rw [if_neg (of_decide_eq_false (by kernel_rfl))]; exact ⟨rfl, rfl⟩)
    (fun os started H enc _ => wholeFan_lifted os started H enc)
end Go.Proofs.Ytkmdeaffhneibaa
