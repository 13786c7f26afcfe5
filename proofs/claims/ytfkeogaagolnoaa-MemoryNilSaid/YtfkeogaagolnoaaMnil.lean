/- The walk of MemoryNil: what a nil memory answers. -/
import Derived.Test.YtfkeogaagolnoaaAwake
namespace Go.Proofs.Ytfkeogaagolnoaa
open Go.RowKit

theorem nil_make (v : Value) (w : World) : Calls Try.prog 9 #[.pointer none, v] w fun e w' => e = .returned (.tuple #[.int .i64 0, .int .i64 1]) ∧ w = w' := by
  go_enter Try.func9, Try.ntmps9
  go_wp2
  go_ret2
  exact ⟨rfl, rfl⟩
theorem nil_load (i p m : Int) (w : World) : Calls Try.prog 14 #[.pointer none, .int .i64 i, .int .i64 p, .int .i64 m] w fun e w' => e = .returned (.tuple #[.slice none 0 0, .int .i64 1]) ∧ Below w.heap.size w w' := by
  have hO := Below.refl w.heap.size w |>.alloc (Nat.le_refl _) (.cells #[.slice none 0 0] 28)
  have p0 := (Blk.new w 28 #[.slice none 0 0]).cell 0
  simp at p0
  have hw : ∀ w v, Calls Try.prog 25 #[.pointer none, .int .i64 i, .int .i64 p, .int .i64 m, v] w fun e w' => e = .returned (.int .i64 1) ∧ w = w' := by
    intro w v
    go_enter Try.func25, Try.ntmps25
    go_wp2
    go_ret
    exact ⟨rfl, rfl⟩
  go_enter Try.func14, Try.ntmps14
  go_wp2_with fail
  refine (hw _ _).mono ?_
  rintro e w1 ⟨rfl, rfl⟩
  go_wp2
  go_ret2
  exact ⟨rfl, hO⟩
theorem nil_store (i p : Int) (A : Option Addr) (n c : Nat) (w : World) : Calls Try.prog 13 #[.pointer none, .int .i64 i, .int .i64 p, .slice A n c] w fun e w' => e = .returned (.int .i64 1) ∧ Below w.heap.size w w' := by
  have hO := Below.refl w.heap.size w |>.alloc (Nat.le_refl _) (.cells #[.slice A n c] 28)
  have p0 := (Blk.new w 28 #[.slice A n c]).cell 0
  simp at p0
  have hw : ∀ w m v, Calls Try.prog 25 #[.pointer none, .int .i64 i, .int .i64 p, .int .i64 m, v] w fun e w' => e = .returned (.int .i64 1) ∧ w = w' := by
    intro w m v
    go_enter Try.func25, Try.ntmps25
    go_wp2
    go_ret
    exact ⟨rfl, rfl⟩
  go_enter Try.func13, Try.ntmps13
  go_wp2_with fail
  refine (hw _ _ _).mono ?_
  rintro e w1 ⟨rfl, rfl⟩
  go_wp2
  go_ret
  exact ⟨rfl, hO⟩
theorem nil_drop (i : Int) (w : World) : Calls Try.prog 21 #[.pointer none, .int .i64 i] w fun e w' => e = .returned (.int .i64 1) ∧ w = w' := by
  go_enter Try.func21, Try.ntmps21
  go_wp2
  go_ret
  exact ⟨rfl, rfl⟩
theorem nil_len (w : World) : Calls Try.prog 10 #[.pointer none] w fun e w' => e = .returned (.int .i64 0) ∧ w = w' := by
  go_enter Try.func10, Try.ntmps10
  go_wp2
  go_ret
  exact ⟨rfl, rfl⟩
theorem nil_size (w : World) : Calls Try.prog 11 #[.pointer none] w fun e w' => e = .returned (.int .i64 0) ∧ w = w' := by
  go_enter Try.func11, Try.ntmps11
  go_wp2
  go_ret
  exact ⟨rfl, rfl⟩
theorem nil_copy (w : World) : Calls Try.prog 18 #[.pointer none] w fun e w' => e = .returned (.pointer none) ∧ w = w' := by
  go_enter Try.func18, Try.ntmps18
  go_wp2
  go_ret
  exact ⟨rfl, rfl⟩
theorem nil_chain (t : Int) (v : Value) (w : World) : Calls Try.prog 22 #[.pointer none, .int .u32 t, v] w fun e w' => e = .returned (.tuple #[.int .i64 0, .int .u32 0, .int .i64 1]) ∧ w = w' := by
  go_enter Try.func22, Try.ntmps22
  go_wp2
  go_step3
  go_wp2
  rw [Exit.noGoto_ret]
  go_ret3
  exact ⟨rfl, rfl⟩

set_option maxHeartbeats 2000000 in
theorem law_mnil (i p m : Int) (A : Option Addr) (n c : Nat) (l : List Int) (w : World) (_ : -9223372036854775808 ≤ i) (_ : i ≤ 9223372036854775807) (_ : -9223372036854775808 ≤ p) (_ : p ≤ 9223372036854775807) (_ : -9223372036854775808 ≤ m) (_ : m ≤ 9223372036854775807)
    (hn : n ≤ 35184372087808) (_ : Under 4294967296 l) (hr : Reads w w.heap.size 1 A n (Ints .u32 l)) :
    Calls Try.prog 6 #[.int .i64 i, .int .i64 p, .int .i64 m, .slice A n c] w fun e w' => e = .returned (.bool true) ∧ Below w.heap.size w w' := by
  go_enter Try.func6, Try.ntmps6
  go_wp2_with fail
  refine (copyWords A n c l _ hn hr).mono ?_
  rintro e w1 ⟨g1, rfl, ho1, hb1⟩
  go_wp2_with fail
  refine (nil_make _ _).mono ?_
  rintro e w1' ⟨rfl, rfl⟩
  go_wp2_with fail
  refine (nil_load i p m _).mono ?_
  rintro e w2 ⟨rfl, hb2⟩
  have hB2 := below_cut hb1 hb2 (Nat.le_refl _)
  have hr2 := (hr.below hB2).more (B' := w2.heap.size) hB2.size
  go_wp2_with fail
  refine (copyWords A n c l _ hn hr2).mono ?_
  rintro e w3 ⟨g3, rfl, ho3, hb3⟩
  have hB3 := below_cut hB2 hb3 (Nat.le_refl _)
  go_wp2_with fail
  refine (nil_store i p _ _ _ _).mono ?_
  rintro e w4 ⟨rfl, hb4⟩
  have hB4 := below_cut hB3 hb4 (Nat.le_refl _)
  go_wp2_with fail
  refine (nil_drop i _).mono ?_
  rintro e w4' ⟨rfl, rfl⟩
  have hr4 := (hr.below hB4).more (B' := w4.heap.size) hB4.size
  go_wp2_with fail
  refine (copyWords A n c l _ hn hr4).mono ?_
  rintro e w5 ⟨g5, rfl, ho5, hb5⟩
  have hB5 := below_cut hB4 hb5 (Nat.le_refl _)
  go_wp2_with fail
  refine (nil_chain 1 _ _).mono ?_
  rintro e w5' ⟨rfl, rfl⟩
  go_wp2_with fail
  refine (nil_len _).mono ?_
  rintro e w5' ⟨rfl, rfl⟩
  go_wp2_with fail
  refine (nil_size _).mono ?_
  rintro e w5' ⟨rfl, rfl⟩
  go_wp2_with fail
  refine (nil_copy _).mono ?_
  rintro e w5' ⟨rfl, rfl⟩
  go_wp2_with fail
  refine (awake_ok _).mono ?_
  rintro e w6 ⟨rfl, hb6⟩
  go_wp2
  go_ret
  exact ⟨rfl, below_cut hB5 hb6 (Nat.le_refl _)⟩
end Go.Proofs.Ytfkeogaagolnoaa
