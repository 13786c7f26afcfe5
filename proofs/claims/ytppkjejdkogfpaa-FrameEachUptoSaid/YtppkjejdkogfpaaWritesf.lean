/- The walk of FrameWrites: whatever the head and the instructions, it answers true. -/
import Derived.Test.YtppkjejdkogfpaaRefwrite
import Derived.Test.YtppkjejdkogfpaaCopied
import Derived.Test.YtppkjejdkogfpaaAwakef
namespace Go.Proofs.Ytppkjejdkogfpaa
open Go.RowKit

/-- how many words are written, and what is wrong -/
inductive SizeTo (l : List Ins) : Int → Int → Prop
  | fault {i : Nat} {e : Int} : FaultAt l i e → SizeTo l 0 e
  | ok : FaultTo l l.length → SizeTo l (5 + sz l) 0
theorem SizeTo.one {l : List Ins} {z z' e e' : Int} (h : SizeTo l z e) (h' : SizeTo l z' e') : z = z' ∧ e = e' := by
  cases h with
  | fault hf =>
    cases h' with
    | fault hf' => obtain ⟨_, rfl⟩ := faultAt_one hf hf'; exact ⟨rfl, rfl⟩
    | ok hf' => exact absurd hf' (faultAt_not hf _ hf.1)
  | ok hf =>
    cases h' with
    | fault hf' => exact absurd hf (faultAt_not hf' _ hf'.1)
    | ok _ => exact ⟨rfl, rfl⟩
theorem SizeIs.to {l : List Ins} {w : World} {e : Ending} {w' : World} (h : SizeIs l w e w') : ∃ z er, SizeTo l z er ∧ e = .returned (.tuple #[.int .i64 z, .int .i64 er]) ∧ Below w.heap.size w w' := by
  obtain ⟨h | ⟨i, er, h⟩, hb⟩ := h
  · exact ⟨_, _, .ok h.1, h.2, hb⟩
  · exact ⟨_, _, .fault h.1, h.2, hb⟩
theorem WriteTo.len {g b : Int} {l : List Ins} {ws : List Int} {e : Int} {i : Nat} (h : WriteTo g b l ws e i) : ws.length ≤ 1048576 := by
  cases h with
  | bound _ => simp
  | fault _ _ => simp
  | ok _ hf => rw [modW_length]; exact hf.all

set_option maxRecDepth 100000 in
set_option maxHeartbeats 2000000 in
theorem law_fwrites (g b : Int) (A : Option Addr) (n c : Nat) (l : List RI) (w : World) (hl : l.length = n) (hn : n ≤ 4398046511104) (hR : RawR w A l) :
    Calls Try.prog 7 #[.agg #[.int .u32 g, .int .u32 b], .slice A n c] w fun e w' => e = .returned (.bool true) ∧ Below w.heap.size w w' := by
  have kh := Blk.new w 25 #[.int .u32 g, .int .u32 b]
  have hb0 := (Below.refl w.heap.size w).alloc (Nat.le_refl _) (.cells #[.int .u32 g, .int .u32 b] 25)
  have hs0 : (w.alloc (.cells #[.int .u32 g, .int .u32 b] 25)).heap.size = w.heap.size + 1 := by simp
  obtain ⟨p0, p1⟩ := kh.read2
  go_enter Try.func7, Try.ntmps7
  go_wp2_with fail
  generalize w.alloc (.cells #[.int .u32 g, .int .u32 b] 25) = w0 at *
  have hR0 := hR.below hb0
  refine (refWrite_any g b A n c l w0 hl (by omega) hR0).mono ?_
  rintro e w1 ⟨ws, er, i, A1, c1, hwt, rfl, ho1, hb1⟩
  have hB1 := below_cut hb0 hb1 (Nat.le_refl _)
  have kh1 := kh.below hb1 (by omega)
  have hs1 := hb1.size
  have hB2 := hB1.alloc hB1.size (.cells #[.int .i64 er, .int .i64 i] 29)
  have kh2 := kh1.alloc (.cells #[.int .i64 er, .int .i64 i] 29)
  have ks2 := Blk.new w1 29 #[.int .i64 er, .int .i64 i]
  have ho2 := ho1.alloc (.cells #[.int .i64 er, .int .i64 i] 29)
  have hs2 : (w1.alloc (.cells #[.int .i64 er, .int .i64 i] 29)).heap.size = w1.heap.size + 1 := by simp
  clear p0 p1
  go_wp2_with fail
  generalize w1.alloc (.cells #[.int .i64 er, .int .i64 i] 29) = w2 at *
  refine (refSize_any A n c l w2 hl (by omega) (hR.below hB2)).mono ?_
  rintro e w3 h
  obtain ⟨z, ez, hzt, rfl, hb3⟩ := SizeIs.to h
  clear h
  have hB3 := below_cut hB2 hb3 (Nat.le_refl _)
  have hs3 := hb3.size
  have kh3 := kh2.below hb3 (by omega)
  have ks3 := ks2.below hb3 (by omega)
  have ho3 := own_below ho2 hb3
  go_wp2_with fail
  refine (copied_any A n c l w3 hl hn (hR.below hB3)).mono ?_
  rintro e w4 ⟨gc, l4, rfl, hl4, hraw4, hb4⟩
  have hlen4 : l4.length = n := by have := congrArg List.length hl4; simpa [insL, hl] using this
  have hB4 := below_cut hB3 hb4 (Nat.le_refl _)
  have hs4 := hb4.size
  have kh4 := kh3.below hb4 (by omega)
  have ks4 := ks3.below hb4 (by omega)
  have ho4 := own_below ho3 hb4
  obtain ⟨p0, p1⟩ := kh4.read2
  go_wp2_with fail
  refine (write_any g b _ n n l4 w4 hlen4 (by omega) hraw4.reads).mono ?_
  rintro e w5 ⟨ws5, er5, i5, A5, c5, hwt5, rfl, ho5, hb5⟩
  rw [hl4] at hwt5
  obtain ⟨rfl, rfl, rfl⟩ := hwt.one hwt5
  have hB5 := below_cut hB4 hb5 (Nat.le_refl _)
  have hs5 := hb5.size
  have ks5 := ks4.below hb5 (by omega)
  have ho5' := own_below ho4 hb5
  have hraw5 := hraw4.below hb5
  have hB6 := hB5.alloc hB5.size (.cells #[.int .i64 er, .int .i64 i] 29)
  have ks6 := ks5.alloc (.cells #[.int .i64 er, .int .i64 i] 29)
  have kt6 := Blk.new w5 29 #[.int .i64 er, .int .i64 i]
  have hD6 : Below w5.heap.size w5 (w5.alloc (.cells #[.int .i64 er, .int .i64 i] 29)) := (Below.refl _ _).alloc (Nat.le_refl _) _
  have ho6 := own_below ho5' hD6
  have hox6 := own_below ho5 hD6
  have hraw6 := hraw5.below hD6
  have hs6 : (w5.alloc (.cells #[.int .i64 er, .int .i64 i] 29)).heap.size = w5.heap.size + 1 := by simp
  have hC6 : Below w4.heap.size w4 (w5.alloc (.cells #[.int .i64 er, .int .i64 i] 29)) := hb5.alloc hb5.size _
  clear p0 p1 hD6
  go_wp2_with fail
  generalize w5.alloc (.cells #[.int .i64 er, .int .i64 i] 29) = w6 at *
  refine (size_any _ n n l4 w6 hlen4 (by omega) hraw6.reads).mono ?_
  rintro e w7 h
  obtain ⟨z7, ez7, hzt7, rfl, hb7⟩ := SizeIs.to h
  clear h
  rw [hl4] at hzt7
  obtain ⟨rfl, rfl⟩ := hzt.one hzt7
  have hB7 := below_cut hB6 hb7 (Nat.le_refl _)
  have hs7 := hb7.size
  have hC7 := hC6.trans (hb7.mono (by omega))
  have ks7 := ks6.below hb7 (by omega)
  have kt7 := kt6.below hb7 (by omega)
  have ho7 := own_below ho6 hb7
  have hox7 := own_below hox6 hb7
  have hraw7 := hraw6.below hb7
  obtain ⟨a0, a1⟩ := ks7.read2
  obtain ⟨a2, a3⟩ := kt7.read2
  have hwl := hwt.len
  have Hl4 := Lib.hid hl4
  have Hwl := Lib.hid hwl
  clear hl4 hwl hwt5 hzt7
  go_wp2_with fail
  refine (words_same _ _ _ _ _ _ _ _ w7 (by have := Hwl.out; omega) (Reads.of_own hox7) (Reads.of_own ho7)).mono ?_
  rintro e w8 ⟨rfl, m8, rfl⟩
  rw [sameB_refl]
  have hB8 := below_drewN hB7 m8
  have hox8 := own_drewN hox7 m8
  have hraw8 := hraw7.drewN m8
  have hs8 : (w7.drewN m8).heap.size = w7.heap.size := rfl
  go_wp2_with fail
  refine (raws_same _ A n n n c l4 l _ hlen4 hl (by omega) (by omega) hraw8.reads (hR.below hB8)).mono ?_
  rintro e w9 ⟨rfl, m9, rfl⟩
  rw [Hl4.out, sameL_refl]
  have hox9 := own_drewN hox7 (m8 + m9)
  have hB9 := below_drewN hB7 (m8 + m9)
  have hC9 := below_drewN hC7 (m8 + m9)
  have hs9 : (w7.drewN (m8 + m9)).heap.size = w7.heap.size := rfl
  clear hox8 hraw8 hB8
  go_wp2_with fail
  refine (spoil_own A5 _ c5 w4.heap.size ws _ (by have := Hwl.out; omega) hox9).mono ?_
  rintro e w10 ⟨rfl, _, hg10⟩
  generalize w7.drewN (m8 + m9) = w9 at *
  have hraw10 := hraw4.below (hC9.grown hg10 hC9.size (fun k h => (hox9.lt k h).1))
  have hB10 := hB9.grown hg10 hB9.size (fun k h => by have := (hox9.lt k h).1; omega)
  have hR10 := hR.below hB10
  go_wp2_with fail
  refine (raws_same _ A n n n c l4 l _ hlen4 hl (by omega) (by omega) hraw10.reads hR10).mono ?_
  rintro e w11 ⟨rfl, m11, rfl⟩
  rw [Hl4.out, sameL_refl]
  have hB11 := below_drewN hB10 m11
  go_wp2_with fail
  refine (awake_ok _).mono ?_
  rintro e w12 ⟨rfl, hb12⟩
  go_wp2
  go_ret
  exact ⟨rfl, below_cut hB11 hb12 (Nat.le_refl _)⟩
end Go.Proofs.Ytppkjejdkogfpaa
