/- The walk of WordsJoins: whatever the words, it answers true, and nothing that was there has turned. -/
import Derived.Test.YtmcilcgpaokifaaWa
import Derived.Deep.RegionHeld3
namespace Go.Proofs.Ytmcilcgpaokifaa
open Go.RowKit

set_option maxHeartbeats 1000000 in
theorem law_joins (A : Option Addr) (n c : Nat) (l : List Int) (w : World) (hn : n ≤ 35184372087808) (hu : Under 4294967296 l) (hr : Reads w w.heap.size 1 A n (Ints .u32 l)) :
    Calls Try.prog 3 #[.slice A n c] w fun e w' => e = .returned (.bool true) ∧ Below w.heap.size w w' := by
  go_enter Try.func3, Try.ntmps3
  go_wp2_with fail
  refine (copyWords A n c l _ hn hr).mono ?_
  rintro e w1 ⟨g, rfl, ho1, hb1⟩
  go_wp2_with fail
  refine (join_any _ n n l _ hn hu (Reads.of_own ho1)).mono ?_
  rintro e w2 ⟨A2, c2, rfl, ho2, hb2⟩
  have hB2 : Below w.heap.size w w2 := hb1.trans (hb2.mono hb1.size)
  have ho1 := own_below ho1 hb2
  go_wp2_with fail
  refine (refJoin_any A n c l _ hn hu ((hr.below hB2).more hB2.size)).mono ?_
  rintro e w3 ⟨A3, c3, rfl, ho3, hb3⟩
  have hB3 : Below w.heap.size w w3 := hB2.trans (hb3.mono hB2.size)
  have ho1 := own_below ho1 hb3
  have ho2 := own_below ho2 hb3
  go_wp2_with fail
  refine (bytes_same A2 A3 (4 * n) (4 * n) c2 c3 _ _ _ (by omega) (Reads.of_own ho2) (Reads.of_own ho3)).mono ?_
  rintro e w4 ⟨rfl, m, rfl⟩
  rw [sameB_refl]
  go_wp2_with fail
  refine (words_same _ A n n n c l l _ (by omega) (Reads.of_own (own_drewN ho1 m)) (((hr.below hB3).more hB3.size).drewN m)).mono ?_
  rintro e w5 ⟨rfl, hd⟩
  rw [sameB_refl]
  have hB5 : Below w.heap.size w w5 := (below_drewN hB3 m).trans (hd.below _)
  clear hd ho1 ho2 ho3 hb1 hb2 hb3 hB2 hB3
  go_wp2_with fail
  go_loopw [5] (fun i wr => ∃ k : Nat, k ≤ n ∧ i = .int .i64 k ∧ Below w.heap.size w wr) (fun i _ => n - (intOf i).toNat)
  case atStart => exact ⟨0, by omega, rfl, hB5⟩
  case round =>
    obtain ⟨k, hk, rfl, hb⟩ := hrel
    by_cases hlt : k < n
    · obtain ⟨ad, rfl, hadb, hc⟩ := (hr.below hb).int_at hlt
      have hx := hu.ix (by decide) k
      go_wp2_with fail
      go_region_held3 (fun w' => w'.cell? (ad.add k) = some (.int .u32 (ix l k)) ∧ Below w.heap.size w w') (first | exact ⟨hc, hb.drew⟩ | (go_split_ands; exact ⟨by assumption, by assumption⟩) | (go_split_ands; exact ⟨cell_cut (by assumption) (by assumption) hbq (Nat.le_refl _) (add_block hadb), below_cut (by assumption) hbq (Nat.le_refl _)⟩)) ((first | (go_at_call 17; refine (turned_any (ix l k) _ hx.1 hx.2).mono ?_; rintro e w' ⟨rfl, rfl⟩) | (go_at_call 18; refine (refTurned_any (ix l k) _ hx.1 hx.2).mono ?_; rintro e w' ⟨rfl, hbq⟩)))
      have hq : w'.cell? (ad.add k) = some (.int .u32 (ix l k)) ∧ Below w.heap.size w w' := by assumption
      obtain ⟨_, hb'⟩ := hq
      go_wp2
      go_roundw
      case rel => exact ⟨k + 1, by omega, by go_num, hb'⟩
      case measure => simp [intOf]; omega
    · go_wp2_with fail
      refine (turned_any 119734787 _ (by decide) (by decide)).mono ?_
      rintro e w' ⟨rfl, rfl⟩
      rw [turn_magic]
      go_wp2
      go_ret
      exact ⟨rfl, hb⟩
end Go.Proofs.Ytmcilcgpaokifaa
