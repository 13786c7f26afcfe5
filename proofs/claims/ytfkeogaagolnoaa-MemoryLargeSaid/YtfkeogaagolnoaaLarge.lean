/- The walk of MemoryLarge. -/
import Derived.Test.YtfkeogaagolnoaaAwake
namespace Go.Proofs.Ytfkeogaagolnoaa
open Go.RowKit

theorem under_zeros (n : Nat) : Under 4294967296 (List.replicate n 0) := fun x hx => by
  have := List.eq_of_mem_replicate hx
  omega

set_option maxHeartbeats 2000000 in
theorem law_large (n m : Int) (w : World) (hn0 : -9223372036854775808 ≤ n) (hn1 : n ≤ 9223372036854775807) (hm0 : -9223372036854775808 ≤ m) (hm1 : m ≤ 9223372036854775807) :
    Calls Try.prog 3 #[.int .i64 n, .int .i64 m] w fun e w' => e = .returned (.bool true) ∧ Below w.heap.size w w' := by
  by_cases c0 : n < 1
  · have g0 : decide (n < 1) = true := by simpa using c0
    go_enter Try.func3, Try.ntmps3
    go_wp2_with fail
    refine (awake_ok _).mono ?_
    rintro e w1 ⟨rfl, hb⟩
    go_wp2
    go_ret
    exact ⟨rfl, hb⟩
  have g0 : decide (n < 1) = false := by simpa using c0
  by_cases c1 : 1048576 < n
  · have g1 : decide (1048576 < n) = true := by simpa using c1
    go_enter Try.func3, Try.ntmps3
    go_wp2_with fail
    refine (awake_ok _).mono ?_
    rintro e w1 ⟨rfl, hb⟩
    go_wp2
    go_ret
    exact ⟨rfl, hb⟩
  have g1 : decide (1048576 < n) = false := by simpa using c1
  by_cases c2 : m < 1
  · have g2 : decide (m < 1) = true := by simpa using c2
    go_enter Try.func3, Try.ntmps3
    go_wp2_with fail
    refine (awake_ok _).mono ?_
    rintro e w1 ⟨rfl, hb⟩
    go_wp2
    go_ret
    exact ⟨rfl, hb⟩
  have g2 : decide (m < 1) = false := by simpa using c2
  by_cases c3 : 1048576 < m
  · have g3 : decide (1048576 < m) = true := by simpa using c3
    go_enter Try.func3, Try.ntmps3
    go_wp2_with fail
    refine (awake_ok _).mono ?_
    rintro e w1 ⟨rfl, hb⟩
    go_wp2
    go_ret
    exact ⟨rfl, hb⟩
  have g3 : decide (1048576 < m) = false := by simpa using c3
  obtain ⟨n, rfl⟩ := Int.eq_ofNat_of_zero_le (show 0 ≤ n by omega)
  obtain ⟨m, rfl⟩ := Int.eq_ofNat_of_zero_le (show 0 ≤ m by omega)
  have tok : True := trivial
  by_cases c5 : (1048576 : Int) < (n : Int) + (m : Int)
  · have g5 : decide ((1048576 : Int) < (n : Int) + (m : Int)) = true := by simpa using c5
    go_enter Try.func3, Try.ntmps3
    go_wp2_with fail
    refine (mnew_any _).mono ?_
    rintro e w1 ⟨g, rfl, hM1, hb1⟩
    go_wp2_with (at_make; have _t := tok; refine mk_full sl32 rfl _ rfl _ _ rfl w1.heap.size n rfl rfl rfl rfl (by omega) (by omega) (Nat.le_refl _) ?_; intro w2 ho2 hgr2; rw [← Ints_replicate] at ho2; clear tok)
    have hb2 := (Below.refl w1.heap.size w1).grown hgr2 (Nat.le_refl _) (fun _ h => by cases h)
    have hB2 := below_cut hb1 hb2 (Nat.le_refl _)
    have hM2 := hM1.below hb2
    refine (make_ok hM2 _ n n (List.replicate n 0) (by omega) (by rw [total_nil]; omega) (under_zeros n) (Reads.of_own ho2)).mono ?_
    rintro e w3 ⟨rfl, A3, c3, b3, hM3, hoff3, hb3, hA3⟩
    have hB3 := hB2.trans (hM2.made_below hoff3)
    have ht : total ([] ++ [List.replicate n 0]) = n := by simp [total_one]
    clear hM1 hM2 ho2 hgr2 hb1 hb2 hB2 hoff3 hb3 hA3
    go_wp2_with (at_make; refine mk_full sl32 rfl _ rfl _ _ rfl w3.heap.size m rfl rfl rfl rfl (by omega) (by omega) (Nat.le_refl _) ?_; intro w4 ho4 hgr4; rw [← Ints_replicate] at ho4)
    have hb4 := (Below.refl w3.heap.size w3).grown hgr4 (Nat.le_refl _) (fun _ h => by cases h)
    have hB4 := below_cut hB3 hb4 (Nat.le_refl _)
    have hM4 := hM3.below hb4
    refine (make_large hM4 _ m m (by omega) (by rw [ht]; omega) (by omega)).mono ?_
    rintro e w5 ⟨rfl, rfl⟩
    go_wp2_with fail
    refine (mlen_any hM4).mono ?_
    rintro e w5 ⟨rfl, rfl⟩
    go_wp2_with fail
    refine (msize_any hM4).mono ?_
    rintro e w5 ⟨rfl, rfl⟩
    rw [ht]
    go_wp2_with fail
    refine (awake_ok _).mono ?_
    rintro e w6 ⟨rfl, hb6⟩
    go_wp2
    go_ret
    exact ⟨rfl, below_cut hB4 hb6 (Nat.le_refl _)⟩
  · have g5 : decide ((1048576 : Int) < (n : Int) + (m : Int)) = false := by simpa using c5
    go_enter Try.func3, Try.ntmps3
    go_wp2_with fail
    refine (mnew_any _).mono ?_
    rintro e w1 ⟨g, rfl, hM1, hb1⟩
    go_wp2_with (at_make; have _t := tok; refine mk_full sl32 rfl _ rfl _ _ rfl w1.heap.size n rfl rfl rfl rfl (by omega) (by omega) (Nat.le_refl _) ?_; intro w2 ho2 hgr2; rw [← Ints_replicate] at ho2; clear tok)
    have hb2 := (Below.refl w1.heap.size w1).grown hgr2 (Nat.le_refl _) (fun _ h => by cases h)
    have hB2 := below_cut hb1 hb2 (Nat.le_refl _)
    have hM2 := hM1.below hb2
    refine (make_ok hM2 _ n n (List.replicate n 0) (by omega) (by rw [total_nil]; omega) (under_zeros n) (Reads.of_own ho2)).mono ?_
    rintro e w3 ⟨rfl, A3, c3, b3, hM3, hoff3, hb3, hA3⟩
    have hB3 := hB2.trans (hM2.made_below hoff3)
    have ht : total ([] ++ [List.replicate n 0]) = n := by simp [total_one]
    clear hM1 hM2 ho2 hgr2 hb1 hb2 hB2 hoff3 hb3 hA3
    go_wp2_with (at_make; refine mk_full sl32 rfl _ rfl _ _ rfl w3.heap.size m rfl rfl rfl rfl (by omega) (by omega) (Nat.le_refl _) ?_; intro w4 ho4 hgr4; rw [← Ints_replicate] at ho4)
    have hb4 := (Below.refl w3.heap.size w3).grown hgr4 (Nat.le_refl _) (fun _ h => by cases h)
    have hB4 := below_cut hB3 hb4 (Nat.le_refl _)
    have hM4 := hM3.below hb4
    refine (make_ok hM4 _ m m (List.replicate m 0) (by omega) (by rw [ht]; omega) (under_zeros m) (Reads.of_own ho4)).mono ?_
    rintro e w5 ⟨rfl, A5, c5', b5, hM5, hoff5, hb5, hA5⟩
    have hB5 := hB4.trans (hM4.made_below hoff5)
    have ht5 : ((total ([] ++ [List.replicate n 0] ++ [List.replicate m 0]) : Nat) : Int) = (n : Int) + (m : Int) := by rw [total_append, ht, total_one, List.length_replicate]; omega
    clear hM3 hM4 ho4 hgr4 hb4 hB3 hB4 hoff5 hb5 hA5
    go_wp2_with fail
    refine (mlen_any hM5).mono ?_
    rintro e w6 ⟨rfl, rfl⟩
    go_wp2_with fail
    refine (msize_any hM5).mono ?_
    rintro e w6 ⟨rfl, rfl⟩
    rw [ht5]
    go_wp2_with fail
    refine (awake_ok _).mono ?_
    rintro e w7 ⟨rfl, hb7⟩
    go_wp2
    go_ret
    exact ⟨rfl, below_cut hB5 hb7 (Nat.le_refl _)⟩
end Go.Proofs.Ytfkeogaagolnoaa
