/- The walk of FrameReads: whatever the words, it answers true. -/
import Derived.Test.YtppkjejdkogfpaaRefread
import Derived.Test.YtppkjejdkogfpaaApartf
import Derived.Test.YtppkjejdkogfpaaAwakef
namespace Go.Proofs.Ytppkjejdkogfpaa
open Go.RowKit

theorem ReadTo.lens {ws : List Int} {g b er : Int} {l : List Ins} {p : Nat} (h : ReadTo ws g b l er p) (hu : Under 4294967296 ws) : l.length ≤ 1048576 ∧ ∀ x ∈ l, x.2.length ≤ 65534 := by
  cases h with
  | large _ => exact ⟨by simp, by simp⟩
  | head _ _ => exact ⟨by simp, by simp⟩
  | count _ _ _ _ => exact ⟨by simp, by simp⟩
  | @ok L p h1 _ hg _ =>
    refine ⟨by have := hg.len; rw [List.length_map]; omega, fun x hx => ?_⟩
    obtain ⟨q, hq, rfl⟩ := List.mem_map.1 hx
    obtain ⟨k, rfl, hc⟩ := hg.mem hq
    exact (can_bounds hu hc).1

set_option maxRecDepth 100000 in
set_option maxHeartbeats 2000000 in
theorem law_reads (A : Option Addr) (n c : Nat) (ws : List Int) (w : World) (hn : n ≤ 35184372087808) (hu : Under 4294967296 ws) (hr : Reads w w.heap.size 1 A n (Ints .u32 ws)) :
    Calls Try.prog 3 #[.slice A n c] w fun e w' => e = .returned (.bool true) ∧ Below w.heap.size w w' := by
  go_enter Try.func3, Try.ntmps3
  go_wp2_with fail
  refine (refread_any A n c ws w hn hr hu).mono ?_
  rintro e w1 ⟨g1, b1, er1, p1, A1, c1, l1, hrd1, rfl, hraw1, hb1⟩
  have kh := (Blk.new w1 25 #[.int .u32 g1, .int .u32 b1]).alloc (.cells #[.int .i64 er1, .int .i64 p1] 29)
  have ks := Blk.new (w1.alloc (.cells #[.int .u32 g1, .int .u32 b1] 25)) 29 #[.int .i64 er1, .int .i64 p1]
  rw [World.size_alloc] at ks
  have hb2 := (hb1.alloc hb1.size (.cells #[.int .u32 g1, .int .u32 b1] 25)).alloc (by have := hb1.size; simp; omega) (.cells #[.int .i64 er1, .int .i64 p1] 29)
  have hraw2 := hraw1.below (((Below.refl w1.heap.size w1).alloc (Nat.le_refl _) (.cells #[.int .u32 g1, .int .u32 b1] 25)).alloc (by simp) (.cells #[.int .i64 er1, .int .i64 p1] 29))
  have hs2 : ((w1.alloc (.cells #[.int .u32 g1, .int .u32 b1] 25)).alloc (.cells #[.int .i64 er1, .int .i64 p1] 29)).heap.size = w1.heap.size + 2 := by simp
  go_wp2_with fail
  generalize (w1.alloc (.cells #[.int .u32 g1, .int .u32 b1] 25)).alloc (.cells #[.int .i64 er1, .int .i64 p1] 29) = w2 at *
  have hr2 := (hr.below hb2).more hb2.size
  refine (copyWords A n c ws w2 hn hr2).mono ?_
  rintro e w3 ⟨g, rfl, ho3, hb3⟩
  have hg := own_lt ho3
  have hB3 := below_cut hb2 hb3 (Nat.le_refl _)
  have kh3 := kh.below hb3 (by omega)
  have ks3 := ks.below hb3 (by omega)
  go_wp2_with fail
  refine (read_any _ n n ws w3 hn (Reads.of_own ho3) hu (Nat.le_refl _)).mono ?_
  rintro e w4 ⟨g4, b4, er4, p4, A4, c4, l4, hrd4, rfl, hraw4, hb4⟩
  obtain ⟨rfl, rfl, hl, rfl, rfl⟩ := hrd1.one hrd4
  have hs3 := hb3.size
  have hs4 := hb4.size
  have hB4 := below_cut hB3 hb4 (Nat.le_refl _)
  have kh4 := kh3.below hb4 (by omega)
  have ks4 := ks3.below hb4 (by omega)
  have ho4 := own_below ho3 hb4
  have hC2 : Below w2.heap.size w2 w4 := hb3.trans (hb4.mono hs3)
  obtain ⟨hlen4, hlens4⟩ := hrd4.lens hu
  rw [List.length_map] at hlen4
  have hll : l1.length = l4.length := by have := congrArg List.length hl; simpa using this
  have Hl := Lib.hid hl
  have Hlens := Lib.hid hlens4
  have Hle := Lib.hid hlen4
  clear hl hlens4 hlen4 hrd1 hrd4
  have kh5 := (kh4.alloc (.cells #[.int .u32 g1, .int .u32 b1] 25)).alloc (.cells #[.int .i64 er1, .int .i64 p1] 29)
  have ks5 := (ks4.alloc (.cells #[.int .u32 g1, .int .u32 b1] 25)).alloc (.cells #[.int .i64 er1, .int .i64 p1] 29)
  have kx5 := (Blk.new w4 25 #[.int .u32 g1, .int .u32 b1]).alloc (.cells #[.int .i64 er1, .int .i64 p1] 29)
  have ky5 := Blk.new (w4.alloc (.cells #[.int .u32 g1, .int .u32 b1] 25)) 29 #[.int .i64 er1, .int .i64 p1]
  rw [World.size_alloc] at ky5
  have hD5 : Below w4.heap.size w4 ((w4.alloc (.cells #[.int .u32 g1, .int .u32 b1] 25)).alloc (.cells #[.int .i64 er1, .int .i64 p1] 29)) := ((Below.refl w4.heap.size w4).alloc (Nat.le_refl _) _).alloc (by simp) _
  have hs5 : ((w4.alloc (.cells #[.int .u32 g1, .int .u32 b1] 25)).alloc (.cells #[.int .i64 er1, .int .i64 p1] 29)).heap.size = w4.heap.size + 2 := by simp
  have hB5 := below_cut hB4 hD5 (Nat.le_refl _)
  have hC5 := hC2.trans (hD5.mono (by omega))
  have hraw5 := hraw4.below hD5
  have ho5 := own_below ho4 hD5
  obtain ⟨a0, a1⟩ := kh5.read2
  obtain ⟨a2, a3⟩ := ks5.read2
  obtain ⟨a4, a5⟩ := kx5.read2
  obtain ⟨a6, a7⟩ := ky5.read2
  go_wp2_with fail
  generalize (w4.alloc (.cells #[.int .u32 g1, .int .u32 b1] 25)).alloc (.cells #[.int .i64 er1, .int .i64 p1] 29) = w5 at *
  have hraw15 := (hraw2.below hC5).reads
  refine (raws_same A4 A1 _ _ _ _ l4 l1 w5 rfl hll (by have := Hle.out; omega) (by have := Hle.out; omega) hraw5.reads hraw15).mono ?_
  rintro e w6 ⟨rfl, m6, rfl⟩
  rw [show insL l4 = insL l1 from Hl.out.symm, sameL_refl]
  have hr6 := (hr.below (below_drewN hB5 m6)).more (B' := (w5.drewN m6).heap.size) (below_drewN hB5 m6).size
  go_wp2_with fail
  refine (words_same _ A n n n c ws ws _ (by omega) (Reads.of_own (own_drewN ho5 m6)) hr6).mono ?_
  rintro e w7 ⟨rfl, m7, rfl⟩
  rw [sameB_refl]
  have ho7 := own_drewN ho5 (m6 + m7)
  have hraw7 := hraw5.drewN (m6 + m7)
  have hC7 := below_drewN hC5 (m6 + m7)
  have hB7 := below_drewN hB5 (m6 + m7)
  have hs7 : (w5.drewN (m6 + m7)).heap.size = w5.heap.size := rfl
  go_wp2_with fail
  refine (spoil_own _ n n w2.heap.size ws _ hn ho7).mono ?_
  rintro e w8 ⟨rfl, _, hg8⟩
  generalize w5.drewN (m6 + m7) = w7 at *
  have hrow8 : ∀ k, (Value.slice (some ⟨g, 0, none⟩) n n).ownBlock = some k → k = g := fun k h => by simp [Value.ownBlock] at h; exact h.symm
  have hraw8 := hraw7.off (Off.of_grown (S := fun k => k = g) hg8 hrow8) (fun k h1 _ h2 => by omega)
  have hC8 := hC7.grown hg8 hC7.size (fun k h => by have := hrow8 k h; omega)
  have hB8 := hB7.grown hg8 hB7.size (fun k h => by have := hrow8 k h; have := hb2.size; omega)
  have hs8 := hg8.size
  go_wp2_with fail
  refine (apart_any w2 w8 A4 A1 _ c4 c1 w3.heap.size l4 l1 rfl hll (by have := Hle.out; omega) Hl.out.symm hraw8 hraw2.reads hC8 hs3 (by omega) (fun y hy => by have := Hlens.out y.1 (List.mem_map_of_mem hy); omega)).mono ?_
  rintro e w9 ⟨rfl, hb9⟩
  have hB9 := hB8.trans (hb9.mono hB3.size)
  go_wp2_with fail
  refine (awake_ok w9).mono ?_
  rintro e w10 ⟨rfl, hb10⟩
  go_wp2
  go_ret
  exact ⟨rfl, below_cut hB9 hb10 (Nat.le_refl _)⟩
end Go.Proofs.Ytppkjejdkogfpaa
