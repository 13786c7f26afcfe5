/- Walks: slices.Clone of words: a row of its own with the same numbers; nothing that was there has turned. -/
import Derived.Test.YtfkeogaagolnoaaKitA
namespace Go.Proofs.Ytfkeogaagolnoaa
open Go.RowKit

set_option maxHeartbeats 400000 in
theorem clone_any (A : Option Addr) (n c : Nat) (l : List Int) (w : World) (hn : n ≤ 35184372087808) (hr : Reads w w.heap.size 1 A n (Ints .u32 l)) :
    Calls Try.prog 24 #[.slice A n c] w fun e w' => ∃ A' c', e = .returned (.slice A' n c') ∧ w'.ownsRow w.heap.size 36 1 (.slice A' n c') n (Ints .u32 l) ∧ Below w.heap.size w w' := by
  have h1 := fun x => Lib.run_eql_slice_nil (P := Try.prog) x 28 36 A n c 0 0 Try.underlying28
  rcases A with _ | ad
  · obtain rfl : n = 0 := by
      rcases Nat.eq_zero_or_pos n with h | h
      · exact h
      · obtain ⟨_, e, _⟩ := hr.2 h; cases e
    have hl : l = [] := List.eq_nil_of_length_eq_zero hr.len
    subst hl
    go_enter Try.func24, Try.ntmps24
    go_wp2
    go_ret
    exact ⟨none, 0, rfl, World.ownsRow_nil _ _ _ _, Below.refl _ _⟩
  · go_enter Try.func24, Try.ntmps24
    have he : (w.alloc (.cells #[] 36)).ownsRow w.heap.size 36 1 (.slice (some ⟨w.heap.size, 0, none⟩) 0 0) 0 [] := World.ownsRow_made w #[] 0 (Nat.le_refl _) (by unfold maxLen; omega) rfl
    go_wp2_with (at_builtin; refine ap_any sl32 _ rfl _ _ rfl w.heap.size (.slice (some ⟨w.heap.size, 0, none⟩) 0 0) 0 [] rfl he w.heap.size _ n c _ rfl (hr.alloc (Nat.le_refl _) _) Ints_oneCell (by omega) (by omega) (by simp) ?_; intro A' c' w1 ho hgr hat)
    go_ret
    rw [Nat.zero_add, List.nil_append] at ho
    exact ⟨A', c', rfl, ho, ((Below.refl _ _).alloc (Nat.le_refl _) _).grown hgr (by simp) (fun k hk => by simp [Value.ownBlock] at hk; omega)⟩
end Go.Proofs.Ytfkeogaagolnoaa
