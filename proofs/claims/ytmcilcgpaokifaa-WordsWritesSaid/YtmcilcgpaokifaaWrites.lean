/- The walk of WordsWrites: whatever the text, it answers true. -/
import Derived.Test.YtmcilcgpaokifaaOf
namespace Go.Proofs.Ytmcilcgpaokifaa
open Go.RowKit

set_option maxHeartbeats 1000000 in
theorem law_writes (s : ByteArray) (w : World) (hs : s.size ≤ 140737488351232) :
    Calls Try.prog 5 #[.string s] w fun e w' => e = .returned (.bool true) ∧ Below w.heap.size w w' := by
  have hle : (ofW (bl s)).length ≤ 9223372036854775807 := by
    have h := ofW_length (bl s)
    rw [bl_length] at h
    omega
  go_enter Try.func5, Try.ntmps5
  go_wp2_with fail
  refine (refOf_any s _ hs).mono ?_
  rintro e w1 ⟨A1, c1, rfl, ho1, hb1⟩
  go_wp2_with fail
  refine (of_any s _ hs).mono ?_
  rintro e w2 ⟨A2, rfl, ho2, hb2⟩
  have hB2 := below_cut hb1 hb2 (Nat.le_refl _)
  have ho1' := own_below ho1 hb2
  go_wp2_with fail
  refine (words_same A2 A1 _ _ _ c1 _ _ _ hle (Reads.of_own ho2) (Reads.of_own ho1')).mono ?_
  rintro e w3 ⟨rfl, m3, rfl⟩
  rw [sameB_refl]
  go_wp2_with fail
  refine (room_any s _ hs).mono ?_
  rintro e w4 ⟨rfl, rfl⟩
  go_wp2_with fail
  refine (refRoom_any s _ hs).mono ?_
  rintro e w4 ⟨rfl, rfl⟩
  go_wp2
  go_ret
  exact ⟨rfl, below_drewN hB2 m3⟩
end Go.Proofs.Ytmcilcgpaokifaa
