/- The walk of FrameFinds: whatever the words (1048576 at the most), the operation and the place, it answers true. -/
import Derived.Test.YtppkjejdkogfpaaRefplaces
import Derived.Test.YtppkjejdkogfpaaAwakef
namespace Go.Proofs.Ytppkjejdkogfpaa
open Go.RowKit

set_option maxRecDepth 100000 in
set_option maxHeartbeats 1000000 in
theorem law_finds (A : Option Addr) (n c : Nat) (ws : List Int) (op fr : Int) (w : World) (hn : n ≤ 1048576) (hu : Under 4294967296 ws) (hr : Reads w w.heap.size 1 A n (Ints .u32 ws)) :
    Calls Try.prog 8 #[.slice A n c, .int .u16 op, .int .i64 fr] w fun e w' => e = .returned (.bool true) ∧ Below w.heap.size w w' := by
  obtain ⟨L, E, hG⟩ := Goes.any ws 5
  have hn3 : n ≤ 35184372087808 := Nat.le_trans hn (by decide)
  go_enter Try.func8, Try.ntmps8
  go_wp2_with fail
  refine (refFind_any A n c ws op fr L E w hn hr hu hG).mono ?_
  rintro e w1 ⟨rfl, hb1⟩
  go_wp2_with fail
  refine (copyWords A n c ws w1 hn3 ((hr.below hb1).more hb1.size)).mono ?_
  rintro e w2 ⟨g, rfl, ho2, hb2⟩
  have hB2 := below_cut hb1 hb2 (Nat.le_refl _)
  have hr2 := Reads.of_own ho2
  go_wp2_with fail
  refine (find_any (some ⟨g, 0, none⟩) n n ws op fr L E w2 hn3 hr2 hu (Nat.le_refl n) hG).mono ?_
  rintro e w3 ⟨rfl, hb3⟩
  have hB3 := below_cut hB2 hb3 (Nat.le_refl _)
  go_wp2_with fail
  refine (awake_ok w3).mono ?_
  rintro e w4 ⟨rfl, hb4⟩
  go_wp2
  go_ret
  exact ⟨rfl, below_cut hB3 hb4 (Nat.le_refl _)⟩
end Go.Proofs.Ytppkjejdkogfpaa
