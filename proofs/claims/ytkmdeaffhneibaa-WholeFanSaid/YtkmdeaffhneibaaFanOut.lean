/- The walk of WholeFan, where it speaks of nothing. -/
import Derived.Test.YtkmdeaffhneibaaCountc
import Derived.Test.YtkmdeaffhneibaaOpenp
namespace Go.Proofs.Ytkmdeaffhneibaa
open Go.RowKit Go.BigFrame

theorem count_six (w : World) : Calls Try.prog 4 #[.agg #[.int .i32 0, .int .i32 0, .int .i32 0, .int .i32 64, .int .i32 0, .int .i32 0, .int .i32 0, .int .i32 64, .int .i32 0], .int .i64 10, .int .i64 10] w fun e w' => e = .returned (.tuple #[.int .i64 6, .int .i64 0]) ∧ Below w.heap.size w w' := by
  have h := count_any 0 0 0 64 0 0 0 64 0 10 10 w (by omega) (by omega) _ rfl area_six
  rw [show cntR (rowsI (holdP (0, 0, 0)) (holdP (64, 0, 0)) (holdP (0, 64, 0)) 10 10) = 6 from cnt_six] at h
  exact h

set_option maxRecDepth 100000 in
set_option maxHeartbeats 2000000 in
theorem fan_out (x y : Int) (A : Option Addr) (n c : Nat) (w : World) (hn : n ≤ 9223372036854775807) (h : ¬ (0 ≤ x ∧ x < 64 ∧ 0 ≤ y ∧ y < 64 ∧ 3 ≤ n ∧ n ≤ 32)) :
    Calls Try.prog 3 #[.int .i64 x, .int .i64 y, .slice A n c] w fun e w' => e = .returned (.bool true) ∧ Below w.heap.size w w' := by
  by_cases c0 : x < 0
  · have d0 : decide (x < 0) = true := by simpa using c0
    go_enter Try.func3, Try.ntmps3
    go_wp2_with fail
    refine (count_six _).mono ?_
    rintro e w1 ⟨rfl, hb⟩
    go_wp2_with fail
    go_ret
    exact ⟨rfl, hb⟩
  have d0 : decide (x < 0) = false := by simpa using c0
  by_cases c1 : y < 0
  · have d1 : decide (y < 0) = true := by simpa using c1
    go_enter Try.func3, Try.ntmps3
    go_wp2_with fail
    refine (count_six _).mono ?_
    rintro e w1 ⟨rfl, hb⟩
    go_wp2_with fail
    go_ret
    exact ⟨rfl, hb⟩
  have d1 : decide (y < 0) = false := by simpa using c1
  by_cases c2 : 64 ≤ x
  · have d2 : decide (64 ≤ x) = true := by simpa using c2
    go_enter Try.func3, Try.ntmps3
    go_wp2_with fail
    refine (count_six _).mono ?_
    rintro e w1 ⟨rfl, hb⟩
    go_wp2_with fail
    go_ret
    exact ⟨rfl, hb⟩
  have d2 : decide (64 ≤ x) = false := by simpa using c2
  by_cases c3 : 64 ≤ y
  · have d3 : decide (64 ≤ y) = true := by simpa using c3
    go_enter Try.func3, Try.ntmps3
    go_wp2_with fail
    refine (count_six _).mono ?_
    rintro e w1 ⟨rfl, hb⟩
    go_wp2_with fail
    go_ret
    exact ⟨rfl, hb⟩
  have d3 : decide (64 ≤ y) = false := by simpa using c3
  by_cases c4 : n < 3
  · have d4 : decide ((n : Int) < 3) = true := by simp; omega
    go_enter Try.func3, Try.ntmps3
    go_wp2_with fail
    refine (count_six _).mono ?_
    rintro e w1 ⟨rfl, hb⟩
    go_wp2_with fail
    go_ret
    exact ⟨rfl, hb⟩
  have d4 : decide ((n : Int) < 3) = false := by simp; omega
  have c5 : 32 < n := by omega
  have d5 : decide (32 < (n : Int)) = true := by simp; omega
  go_enter Try.func3, Try.ntmps3
  go_wp2_with fail
  refine (count_six _).mono ?_
  rintro e w1 ⟨rfl, hb⟩
  go_wp2_with fail
  go_ret
  exact ⟨rfl, hb⟩

end Go.Proofs.Ytkmdeaffhneibaa
