/- The walk of WordsBack: whatever the bytes and the words, it answers true. -/
import Derived.Test.YtmcilcgpaokifaaSplit
import Derived.Test.YtmcilcgpaokifaaBackLaw
namespace Go.Proofs.Ytmcilcgpaokifaa
open Go.RowKit

/-- what stands behind the first half: the words there and back -/
def BackRest (w : World) (e : Ending) (w' : World) : Prop := e = .returned (.bool true) ∧ Below w.heap.size w w'

set_option maxHeartbeats 2000000 in
theorem law_back (A : Option Addr) (n c : Nat) (l : List Int) (A' : Option Addr) (n' c' : Nat) (l' : List Int) (w : World) (hn : n ≤ 140737488351232) (hu : Under 256 l) (hr : Reads w w.heap.size 1 A n (Ints .u8 l))
    (hn' : n' ≤ 35184372087808) (hu' : Under 4294967296 l') (hr' : Reads w w.heap.size 1 A' n' (Ints .u32 l')) :
    Calls Try.prog 8 #[.slice A n c, .slice A' n' c'] w fun e w' => e = .returned (.bool true) ∧ Below w.heap.size w w' := by
  have hL := hr.len
  have hL' := hr'.len
  have hcase : (splitE l = 4 ∧ 4194304 < n) ∨ (splitE l = 10 ∧ ¬ 4194304 < n ∧ n % 4 ≠ 0) ∨ (splitE l = 0 ∧ splitW l = glue l (n / 4) ∧ ¬ 4194304 < n ∧ n % 4 = 0) := by
    rw [← hL]
    by_cases h1 : 4194304 < l.length
    · exact .inl ⟨(split_large h1).1, h1⟩
    · by_cases h2 : l.length % 4 = 0
      · exact .inr (.inr ⟨(split_whole h1 h2).1, (split_whole h1 h2).2, h1, h2⟩)
      · exact .inr (.inl ⟨(split_odd h1 h2).1, h1, h2⟩)
  have hlen := splitW_length l
  have huW := splitW_under hu
  have HC := Lib.hid hcase
  have HL := Lib.hid hL
  have HL' := Lib.hid hL'
  clear hcase hL hL'
  go_enter Try.func8, Try.ntmps8
  go_wp2_with fail
  refine (copyBytes A n c l _ hn hr).mono ?_
  rintro e w1 ⟨g, rfl, ho1, hb1⟩
  go_wp2_with fail
  refine (split_any _ n n l _ hn hu (Reads.of_own ho1)).mono ?_
  rintro e w2 ⟨A2, c2, rfl, ho2, _, hb2⟩
  have hB2 := below_cut hb1 hb2 (Nat.le_refl _)
  have hB2s := hB2.size
  clear ho1 hb1
  have huL := joined_under l'
  rcases HC.out with ⟨h1, h2⟩ | ⟨h1, h2, h3⟩ | ⟨h1, h1', h2, h3⟩
  · rw [h1]
    clear h1
    have hw : ((n : Int) % 4 == 0 && decide ((n : Int) ≤ 4194304)) = false := by simp; omega
    by_cases hm : n % 4 = 0
    · have hz : ((n : Int) % 4 == 0) = true := by rw [beq_iff_eq]; omega
      by_cases hbig : 1048576 < n'
      · go_wp2_with fail
        go_ret
        exact ⟨rfl, hB2⟩
      · go_wp2_with fail
        have Hrest := Lib.hid (split_joined hu' (by have := HL'.out; omega))
        refine (copyWords A' n' c' l' _ hn' ((hr'.below hB2).more (hB2).size)).mono ?_
        rintro e w5 ⟨g5, rfl, ho5, hb5⟩
        have hB5 := below_cut hB2 hb5 (Nat.le_refl _)
        go_wp2_with fail
        refine (join_any _ n' n' l' _ hn' hu' (Reads.of_own ho5)).mono ?_
        rintro e w6 ⟨A6, c6, rfl, ho6, hb6⟩
        have hB6 := below_cut hB5 hb6 (Nat.le_refl _)
        go_wp2_with fail
        refine (split_any A6 _ c6 (joined l') _ (by omega) huL (Reads.of_own ho6)).mono ?_
        rintro e w7 ⟨A7, c7, rfl, ho7, hc7, hb7⟩
        have hB7 := below_cut hB6 hb7 (Nat.le_refl _)
        have hq := Hrest.out
        have hq1 := hq.1
        have hq2 := hq.2
        clear hq
        rw [hq2] at ho7 hc7
        rw [hq1, hq2]
        clear hq1 hq2
        go_wp2_with fail
        refine (words_same A7 A' _ n' c7 c' l' l' _ (by have := HL'.out; omega) (Reads.of_own ho7) ((hr'.below hB7).more hB7.size)).mono ?_
        rintro e w8 ⟨rfl, m8, rfl⟩
        rw [sameB_refl]
        go_wp2
        go_ret
        exact ⟨rfl, below_drewN hB7 m8⟩
    · have hz : ((n : Int) % 4 == 0) = false := by rw [beq_eq_false_iff_ne]; omega
      by_cases hbig : 1048576 < n'
      · go_wp2_with fail
        go_ret
        exact ⟨rfl, hB2⟩
      · go_wp2_with fail
        have Hrest := Lib.hid (split_joined hu' (by have := HL'.out; omega))
        refine (copyWords A' n' c' l' _ hn' ((hr'.below hB2).more (hB2).size)).mono ?_
        rintro e w5 ⟨g5, rfl, ho5, hb5⟩
        have hB5 := below_cut hB2 hb5 (Nat.le_refl _)
        go_wp2_with fail
        refine (join_any _ n' n' l' _ hn' hu' (Reads.of_own ho5)).mono ?_
        rintro e w6 ⟨A6, c6, rfl, ho6, hb6⟩
        have hB6 := below_cut hB5 hb6 (Nat.le_refl _)
        go_wp2_with fail
        refine (split_any A6 _ c6 (joined l') _ (by omega) huL (Reads.of_own ho6)).mono ?_
        rintro e w7 ⟨A7, c7, rfl, ho7, hc7, hb7⟩
        have hB7 := below_cut hB6 hb7 (Nat.le_refl _)
        have hq := Hrest.out
        have hq1 := hq.1
        have hq2 := hq.2
        clear hq
        rw [hq2] at ho7 hc7
        rw [hq1, hq2]
        clear hq1 hq2
        go_wp2_with fail
        refine (words_same A7 A' _ n' c7 c' l' l' _ (by have := HL'.out; omega) (Reads.of_own ho7) ((hr'.below hB7).more hB7.size)).mono ?_
        rintro e w8 ⟨rfl, m8, rfl⟩
        rw [sameB_refl]
        go_wp2
        go_ret
        exact ⟨rfl, below_drewN hB7 m8⟩
  · rw [h1]
    clear h1
    have hz : ((n : Int) % 4 == 0) = false := by rw [beq_eq_false_iff_ne]; omega
    by_cases hbig : 1048576 < n'
    · go_wp2_with fail
      go_ret
      exact ⟨rfl, hB2⟩
    · go_wp2_with fail
      have Hrest := Lib.hid (split_joined hu' (by have := HL'.out; omega))
      refine (copyWords A' n' c' l' _ hn' ((hr'.below hB2).more (hB2).size)).mono ?_
      rintro e w5 ⟨g5, rfl, ho5, hb5⟩
      have hB5 := below_cut hB2 hb5 (Nat.le_refl _)
      go_wp2_with fail
      refine (join_any _ n' n' l' _ hn' hu' (Reads.of_own ho5)).mono ?_
      rintro e w6 ⟨A6, c6, rfl, ho6, hb6⟩
      have hB6 := below_cut hB5 hb6 (Nat.le_refl _)
      go_wp2_with fail
      refine (split_any A6 _ c6 (joined l') _ (by omega) huL (Reads.of_own ho6)).mono ?_
      rintro e w7 ⟨A7, c7, rfl, ho7, hc7, hb7⟩
      have hB7 := below_cut hB6 hb7 (Nat.le_refl _)
      have hq := Hrest.out
      have hq1 := hq.1
      have hq2 := hq.2
      clear hq
      rw [hq2] at ho7 hc7
      rw [hq1, hq2]
      clear hq1 hq2
      go_wp2_with fail
      refine (words_same A7 A' _ n' c7 c' l' l' _ (by have := HL'.out; omega) (Reads.of_own ho7) ((hr'.below hB7).more hB7.size)).mono ?_
      rintro e w8 ⟨rfl, m8, rfl⟩
      rw [sameB_refl]
      go_wp2
      go_ret
      exact ⟨rfl, below_drewN hB7 m8⟩
  · rw [h1]
    clear h1
    have hz : ((n : Int) % 4 == 0) = true := by rw [beq_iff_eq]; omega
    have hz2 : decide ((n : Int) ≤ 4194304) = true := by simp; omega
    have H1 := Lib.hid h1'
    have H3 := Lib.hid h3
    clear h1' h3
    go_wp2_with fail
    refine (join_any A2 _ c2 (splitW l) _ (by have := HL.out; omega) huW (Reads.of_own ho2)).mono ?_
    rintro e w3 ⟨A3, c3, rfl, ho3, hb3⟩
    have hB3 := below_cut hB2 hb3 (Nat.le_refl _)
    go_wp2_with fail
    refine (bytes_same A3 A _ n c3 c _ l _ (by have := HL.out; omega) (Reads.of_own ho3) ((hr.below hB3).more hB3.size)).mono ?_
    rintro e w4 ⟨rfl, m4, rfl⟩
    rw [sameB_all_eq (by rw [H1.out]; exact joined_glue hu (by have := H3.out; rw [HL.out]; omega))]
    by_cases hbig : 1048576 < n'
    · go_wp2_with fail
      go_ret
      exact ⟨rfl, below_drewN hB3 m4⟩
    · go_wp2_with fail
      have Hrest := Lib.hid (split_joined hu' (by have := HL'.out; omega))
      refine (copyWords A' n' c' l' _ hn' ((hr'.below (below_drewN hB3 m4)).more ((below_drewN hB3 m4)).size)).mono ?_
      rintro e w5 ⟨g5, rfl, ho5, hb5⟩
      have hB5 := below_cut (below_drewN hB3 m4) hb5 (Nat.le_refl _)
      go_wp2_with fail
      refine (join_any _ n' n' l' _ hn' hu' (Reads.of_own ho5)).mono ?_
      rintro e w6 ⟨A6, c6, rfl, ho6, hb6⟩
      have hB6 := below_cut hB5 hb6 (Nat.le_refl _)
      go_wp2_with fail
      refine (split_any A6 _ c6 (joined l') _ (by omega) huL (Reads.of_own ho6)).mono ?_
      rintro e w7 ⟨A7, c7, rfl, ho7, hc7, hb7⟩
      have hB7 := below_cut hB6 hb7 (Nat.le_refl _)
      have hq := Hrest.out
      have hq1 := hq.1
      have hq2 := hq.2
      clear hq
      rw [hq2] at ho7 hc7
      rw [hq1, hq2]
      clear hq1 hq2
      go_wp2_with fail
      refine (words_same A7 A' _ n' c7 c' l' l' _ (by have := HL'.out; omega) (Reads.of_own ho7) ((hr'.below hB7).more hB7.size)).mono ?_
      rintro e w8 ⟨rfl, m8, rfl⟩
      rw [sameB_refl]
      go_wp2
      go_ret
      exact ⟨rfl, below_drewN hB7 m8⟩
end Go.Proofs.Ytmcilcgpaokifaa
