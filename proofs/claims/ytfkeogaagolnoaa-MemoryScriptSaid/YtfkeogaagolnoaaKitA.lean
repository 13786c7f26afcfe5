/- Walks: the copies of the statements' own package: CopyWords, CopyBytes. Each answers a new slice with the same numbers; nothing that was there has turned. Condition: the slice is no longer than what may be read. -/
import Derived.Test.YtfkeogaagolnoaaRows
import Derived.Test.YtfkeogaagolnoaaMem
namespace Go.Proofs.Ytfkeogaagolnoaa
open Go.RowKit

theorem sl32 : SliceOf Try.prog 28 36 (.int .u32 0) 1 4 := ⟨Try.underlying28, by kernel_rfl, rfl, by decide⟩

set_option maxHeartbeats 400000 in
theorem copyWords (A : Option Addr) (n c : Nat) (l : List Int) (w : World) (hn : n ≤ 35184372087808) (hr : Reads w w.heap.size 1 A n (Ints .u32 l)) :
    Calls Try.prog 12 #[.slice A n c] w fun e w' => ∃ g, e = .returned (.slice (some ⟨g, 0, none⟩) n n) ∧ w'.ownsRow w.heap.size 36 1 (.slice (some ⟨g, 0, none⟩) n n) n (Ints .u32 l) ∧ Below w.heap.size w w' := by
  go_enter Try.func12, Try.ntmps12
  go_wp2_with (at_make; refine mk_full sl32 rfl _ rfl _ _ rfl w.heap.size n rfl rfl rfl rfl (by omega) (by omega) (Nat.le_refl _) ?_; intro w1 hown hgr)
  go_loopw [4] (fun i wr => ∃ k : Nat, k ≤ n ∧ i = .int .i64 k ∧ wr.ownsRow w.heap.size 36 1 (.slice (some ⟨w.heap.size, 0, none⟩) n n) n (Ints .u32 (mid l n k)) ∧ Below w.heap.size w wr) (fun i _ => n - (intOf i).toNat)
  case atStart => exact ⟨0, by omega, rfl, by rw [mid_zero, Ints_replicate]; exact hown, (Below.refl _ _).grown hgr (Nat.le_refl _) (fun _ h => by cases h)⟩
  case round =>
    obtain ⟨k, hk, rfl, ho, hb⟩ := hrel
    by_cases hlt : k < n
    · obtain ⟨ad, rfl, hadb, hc⟩ := (hr.below hb).int_at hlt
      have hc1 := own_int_at ho hlt
      have hf1 := ho.frozenAt k
      go_wp2
      go_roundw
      case rel => exact ⟨k + 1, by omega, by go_num, by rw [← mid_set hr.len hlt]; exact own_int_set ho k _, hb.setCell (Nat.le_refl _) _⟩
      case measure => simp [intOf]; omega
    · obtain rfl : k = n := by omega
      go_wp2
      go_ret
      exact ⟨_, rfl, by rw [mid_all hr.len] at ho; exact ho, hb⟩

end Go.Proofs.Ytfkeogaagolnoaa
