/- Walks: the statements' own helper awake: a head without instructions is read and written. -/
import Derived.Test.YtppkjejdkogfpaaLawf
import Derived.Test.YtppkjejdkogfpaaFrameOne
namespace Go.Proofs.Ytppkjejdkogfpaa
open Go.RowKit

theorem under_head : Under 4294967296 (headW 0 7) := fun x hx => by
  simp [headW] at hx
  rcases hx with rfl | rfl | rfl | rfl | rfl <;> omega
set_option maxRecDepth 100000 in
set_option maxHeartbeats 2000000 in
theorem awake_ok (w : World) : Calls Try.prog 17 #[] w fun e w' => e = .returned (.bool true) ∧ Below w.heap.size w w' := by
  go_enter Try.func17, Try.ntmps17
  go_wp2_with fail
  refine (lawHead_any 7 w).mono ?_
  rintro e w1 ⟨rfl, ho1, hb1⟩
  go_wp2_with fail
  refine (read_any _ 5 5 (headW 0 7) w1 (by omega) (Reads.of_own ho1) under_head (by omega)).mono ?_
  rintro e w2 ⟨g, b, er, p, A, c, l, hrd, rfl, hraw, hb2⟩
  obtain ⟨rfl, rfl, hl, rfl, rfl⟩ := hrd.one (readTo_head (b := 7) (by decide) (by decide))
  obtain rfl : l = [] := by simpa using hl
  have hB2 := below_cut hb1 hb2 (Nat.le_refl _)
  have hB2s := hB2.size
  simp only [List.length_nil]
  have kh := (Blk.new w2 25 #[.int .u32 0, .int .u32 7]).alloc (.cells #[.int .i64 0, .int .i64 0] 29)
  have ks := Blk.new (w2.alloc (.cells #[.int .u32 0, .int .u32 7] 25)) 29 #[.int .i64 0, .int .i64 0]
  rw [World.size_alloc] at ks
  have hB3 := (hB2.alloc hB2s (.cells #[.int .u32 0, .int .u32 7] 25)).alloc (by simp; omega) (.cells #[.int .i64 0, .int .i64 0] 29)
  have hs3 : ((w2.alloc (.cells #[.int .u32 0, .int .u32 7] 25)).alloc (.cells #[.int .i64 0, .int .i64 0] 29)).heap.size = w2.heap.size + 2 := by simp
  go_wp2_with fail
  generalize (w2.alloc (.cells #[.int .u32 0, .int .u32 7] 25)).alloc (.cells #[.int .i64 0, .int .i64 0] 29) = w3 at *
  refine (write_any 0 7 none 0 0 [] w3 rfl (by omega) ⟨Reads.none_, by simp, by simp, by simp⟩).mono ?_
  rintro e w4 ⟨ws, er, i, A4, c4, hwr, rfl, ho4, hb4⟩
  obtain ⟨hws, rfl, rfl⟩ := hwr.one (WriteTo.ok (g := 0) (b := 7) (l := insL []) (by decide) (fun j hj => by simp [insL] at hj))
  have hws' : ws = headW 0 7 := hws
  subst hws'
  have hl5 : (headW 0 7).length = 5 := rfl
  rw [hl5] at ho4 ⊢
  have kh4 := kh.below hb4 (by omega)
  have ks4 := ks.below hb4 (by omega)
  have hB4 := below_cut hB3 hb4 (Nat.le_refl _)
  have hs4 := hb4.size
  have kh5 := kh4.alloc (.cells #[.int .i64 0, .int .i64 0] 29)
  have ks5 := ks4.alloc (.cells #[.int .i64 0, .int .i64 0] 29)
  have kt5 := Blk.new w4 29 #[.int .i64 0, .int .i64 0]
  have hB5 := hB4.alloc hB4.size (.cells #[.int .i64 0, .int .i64 0] 29)
  have ho5 := ho4.alloc (.cells #[.int .i64 0, .int .i64 0] 29)
  have hs5 : (w4.alloc (.cells #[.int .i64 0, .int .i64 0] 29)).heap.size = w4.heap.size + 1 := by simp
  obtain ⟨a0, a1⟩ := kh5.read2
  obtain ⟨a2, a3⟩ := ks5.read2
  obtain ⟨a4, a5⟩ := kt5.read2
  clear hwr hrd hws
  go_wp2_with fail
  refine (lawHead_any 7 _).mono ?_
  rintro e w6 ⟨rfl, ho6, hb6⟩
  have ho56 := own_below ho5 hb6
  have hB6 := below_cut hB5 hb6 (Nat.le_refl _)
  rw [hs5] at ho6
  rw [hs5]
  go_wp2_with fail
  refine (words_same _ _ 5 5 _ _ _ _ w6 (by omega) (Reads.of_own ho56) (Reads.of_own ho6)).mono ?_
  rintro e w7 ⟨rfl, m7, rfl⟩
  rw [sameB_refl]
  go_wp2
  go_ret
  exact ⟨rfl, below_drewN hB6 _⟩
end Go.Proofs.Ytppkjejdkogfpaa
