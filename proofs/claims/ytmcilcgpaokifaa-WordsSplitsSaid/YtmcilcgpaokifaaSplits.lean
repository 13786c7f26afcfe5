/- The walk of WordsSplits: whatever the bytes, it answers true. -/
import Derived.Test.YtmcilcgpaokifaaSplit
namespace Go.Proofs.Ytmcilcgpaokifaa
open Go.RowKit

set_option maxHeartbeats 1000000 in
theorem law_splits (A : Option Addr) (n c : Nat) (l : List Int) (w : World) (hn : n ≤ 140737488351232) (hu : Under 256 l) (hr : Reads w w.heap.size 1 A n (Ints .u8 l)) :
    Calls Try.prog 6 #[.slice A n c] w fun e w' => e = .returned (.bool true) ∧ Below w.heap.size w w' := by
  have hle : (splitW l).length ≤ 9223372036854775807 := by have := splitW_length l; have := hr.len; omega
  go_enter Try.func6, Try.ntmps6
  go_wp2_with fail
  refine (refSplit_any A n c l _ hn hu hr).mono ?_
  rintro e w1 ⟨A1, c1, rfl, ho1, hc1, hb1⟩
  go_wp2_with fail
  refine (copyBytes A n c l _ hn ((hr.below hb1).more hb1.size)).mono ?_
  rintro e w2 ⟨g, rfl, ho2, hb2⟩
  have hB2 := below_cut hb1 hb2 (Nat.le_refl _)
  have ho1' := own_below ho1 hb2
  have hg := own_lt ho2
  have hb1s := hb1.size
  go_wp2_with fail
  refine (split_any _ n n l _ hn hu (Reads.of_own ho2)).mono ?_
  rintro e w3 ⟨A3, c3, rfl, ho3, hc3, hb3⟩
  have hB3 := below_cut hB2 hb3 (Nat.le_refl _)
  have ho1'' := own_below ho1' hb3
  have ho2' := own_below ho2 hb3
  have n1 : (Value.slice A1 (splitW l).length c1).ownBlock ≠ some g := own_ne_high ho1 hg.1
  have n3 : (Value.slice A3 (splitW l).length c3).ownBlock ≠ some g := own_ne_low ho3 hg.2
  go_wp2_with fail
  refine (words_same A3 A1 _ _ c3 c1 _ _ _ hle (Reads.of_own ho3) (Reads.of_own ho1'')).mono ?_
  rintro e w4 ⟨rfl, m4, rfl⟩
  rw [sameB_refl]
  go_wp2_with fail
  refine (bytes_same _ A n n n c l l _ (by omega) (Reads.of_own (own_drewN ho2' m4)) (((hr.below hB3).more hB3.size).drewN m4)).mono ?_
  rintro e w5 ⟨rfl, m5, rfl⟩
  rw [sameB_refl]
  have hB5 : Below w.heap.size w ((w3.drewN m4).drewN m5) := below_drewN (below_drewN hB3 m4) m5
  have p1 := own_drewN (own_drewN ho1'' m4) m5
  have p2 := own_drewN (own_drewN ho2' m4) m5
  have p3 := own_drewN (own_drewN ho3 m4) m5
  generalize (w3.drewN m4).drewN m5 = w6 at *
  clear ho1 ho1' ho1'' ho2 ho2' ho3 hb1 hb2 hb3 hB2 hB3
  go_wp2
  go_loopw [8] (fun i wr => ∃ (k : Nat) (l' : List Int), k ≤ n ∧ i = .int .i64 k ∧ wr.ownsRow w1.heap.size 5 1 (.slice (some ⟨g, 0, none⟩) n n) n (Ints .u8 l') ∧ wr.ownsRow w.heap.size 28 1 (.slice A1 (splitW l).length c1) (splitW l).length (Ints .u32 (splitW l)) ∧ wr.ownsRow w2.heap.size 28 1 (.slice A3 (splitW l).length c3) (splitW l).length (Ints .u32 (splitW l)) ∧ Below w.heap.size w wr) (fun i _ => n - (intOf i).toNat)
  case atStart => exact ⟨0, l, by omega, rfl, p2, p1, p3, hB5⟩
  case round =>
    obtain ⟨k, l', hk, rfl, q2, q1, q3, hb⟩ := hrel
    by_cases hlt : k < n
    · have hc := own_int_at q2 hlt
      have hf := q2.frozenAt k
      go_wp2
      go_roundw
      case rel => exact ⟨k + 1, _, by omega, by go_num, own_int_set q2 k _, own_set_other q1 n1 _, own_set_other q3 n3 _, hb.setCell (show w.heap.size ≤ g from by have := hb1s; omega) _⟩
      case measure => simp [intOf]; omega
    · go_wp2_with fail
      refine (words_same A3 A1 _ _ c3 c1 _ _ _ hle (Reads.of_own q3) (Reads.of_own q1)).mono ?_
      rintro e w7 ⟨rfl, m7, rfl⟩
      rw [sameB_refl]
      go_wp2
      go_ret
      exact ⟨rfl, below_drewN hb m7⟩
end Go.Proofs.Ytmcilcgpaokifaa
