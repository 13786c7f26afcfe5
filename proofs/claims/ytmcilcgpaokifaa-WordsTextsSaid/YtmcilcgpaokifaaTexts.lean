/- The walk of WordsTexts: whatever the words, it answers true. -/
import Derived.Test.YtmcilcgpaokifaaText
namespace Go.Proofs.Ytmcilcgpaokifaa
open Go.RowKit

set_option maxHeartbeats 1000000 in
theorem law_texts (A : Option Addr) (n c : Nat) (l : List Int) (w : World) (hn : n ≤ 35184372087808) (hu : Under 4294967296 l) (hr : Reads w w.heap.size 1 A n (Ints .u32 l)) :
    Calls Try.prog 7 #[.slice A n c] w fun e w' => e = .returned (.bool true) ∧ Below w.heap.size w w' := by
  go_enter Try.func7, Try.ntmps7
  go_wp2_with fail
  refine (refText_any A n c l _ hn hu hr).mono ?_
  rintro e w1 ⟨rfl, hb1⟩
  go_wp2_with fail
  refine (copyWords A n c l _ hn ((hr.below hb1).more hb1.size)).mono ?_
  rintro e w2 ⟨g, rfl, ho2, hb2⟩
  have hB2 := below_cut hb1 hb2 (Nat.le_refl _)
  go_wp2_with fail
  refine (text_any _ n n l _ hn hu (Reads.of_own ho2)).mono ?_
  rintro e w3 ⟨rfl, hb3⟩
  have hB3 := below_cut hB2 hb3 (Nat.le_refl _)
  go_wp2
  go_ret
  exact ⟨rfl, hB3⟩
end Go.Proofs.Ytmcilcgpaokifaa
