/- The walk of CanvasReads: whatever the bytes, it answers true, and nothing that was there has turned. -/
import Derived.Test.YtfciaefjilobaaaRread
import Derived.Test.YtfciaefjilobaaaKitB
namespace Go.Proofs.Ytfciaefjilobaaa
open Go.RowKit

set_option maxHeartbeats 2000000 in
theorem law_creads (A : Option Addr) (n c : Nat) (l : List Int) (w : World) (hn : n ≤ 140737488351232) (hu : Under 256 l) (hr : Reads w w.heap.size 1 A n (Ints .u8 l)) :
    Calls Try.prog 9 #[.slice A n c] w fun e w' => e = .returned (.bool true) ∧ Below w.heap.size w w' := by
  have hsame := sameB_refl l
  have hL := hr.len
  go_enter Try.func9, Try.ntmps9
  go_wp2_with fail
  refine (rread_any A n c l w hn hu hr).mono ?_
  rintro e w1 ⟨hb1, hm⟩
  have hkey : (∃ (er : Int) (k : Nat), (er == 0) = false ∧ e = .returned (.tuple #[noCan, .agg #[.int .i64 er, .int .i64 k]]) ∧
      ∀ A c w, Reads w w.heap.size 1 A n (Ints .u8 l) → n ≤ c → Calls Try.prog 27 #[.slice A n c] w fun e w' => e = .returned (.tuple #[.pointer none, .agg #[.int .i64 er, .int .i64 k]]) ∧ Below w.heap.size w w') ∨
      ∃ W H back ps g, e = .returned (.tuple #[refV g (W * H) (W * H) W H back, .agg #[.int .i64 0, .int .i64 0]]) ∧ RefS w1 w.heap.size g (W * H) (W * H) W H back ps ∧
      ∀ A c w, Reads w w.heap.size 1 A n (Ints .u8 l) → n ≤ c → Calls Try.prog 27 #[.slice A n c] w fun e w' => Below w.heap.size w w' ∧ ∃ gC gp, e = .returned (.tuple #[.pointer (some ⟨gC, 0, none⟩), .agg #[.int .i64 0, .int .i64 0]]) ∧ CanS w' w.heap.size gC gp (W * H) (W * H) W H back ps := by
    by_cases h4 : l.length % 4 = 0
    · rw [if_neg (by omega)] at hm
      rcases hrd : readW (glue l (l.length / 4)) with k | ⟨W, H, back, ps⟩
      · rw [hrd] at hm
        refine .inl ⟨290, k, rfl, hm, fun A c w hr hc => (cread_any A n c l w hn hc hu hr).mono ?_⟩
        rintro e w' ⟨hb, hm⟩
        rw [if_neg (by omega), hrd] at hm
        exact ⟨hm, hb⟩
      · rw [hrd] at hm
        obtain ⟨g, hm, hR⟩ := hm
        refine .inr ⟨W, H, back, ps, g, hm, hR, fun A c w hr hc => (cread_any A n c l w hn hc hu hr).mono ?_⟩
        rintro e w' ⟨hb, hm⟩
        rw [if_neg (by omega), hrd] at hm
        exact ⟨hb, hm⟩
    · rw [if_pos h4] at hm
      refine .inl ⟨10, 0, rfl, hm, fun A c w hr hc => (cread_any A n c l w hn hc hu hr).mono ?_⟩
      rintro e w' ⟨hb, hm⟩
      rw [if_pos h4] at hm
      exact ⟨hm, hb⟩
  clear hm
  rcases hkey with ⟨er, k, her, rfl, hc⟩ | ⟨W, H, back, ps, g, rfl, hR, hc⟩
  · have hb2 := (hb1.alloc hb1.size (.cells #[.int .i64 0, .int .i64 0, .int .u32 0, .slice none 0 0] 31)).alloc (by have := hb1.size; simp; omega) (.cells #[.int .i64 er, .int .i64 k] 67)
    have ks := Blk.new (w1.alloc (.cells #[.int .i64 0, .int .i64 0, .int .u32 0, .slice none 0 0] 31)) 67 #[.int .i64 er, .int .i64 k]
    rw [World.size_alloc] at ks
    have hb1s := hb1.size
    unfold noCan
    go_wp2_with fail
    generalize (w1.alloc (.cells #[.int .i64 0, .int .i64 0, .int .u32 0, .slice none 0 0] 31)).alloc (.cells #[.int .i64 er, .int .i64 k] 67) = w2 at *
    have hr2 := hr.below hb2
    refine (copyBytes A n c l w2 hn (hr2.more hb2.size)).mono ?_
    rintro e w3 ⟨g3, rfl, ho3, hb3⟩
    have hb4 := below_cut hb2 hb3 (Nat.le_refl _)
    have ks3 := ks.below hb3 ks.lt
    go_wp2_with fail
    refine (hc _ _ w3 (Reads.of_own ho3) (Nat.le_refl _)).mono ?_
    rintro e w5 ⟨rfl, hb5⟩
    have hb6 := below_cut hb4 hb5 (Nat.le_refl _)
    have ks5 := (ks3.below hb5 ks3.lt).alloc (.cells #[.int .i64 er, .int .i64 k] 67)
    have kt5 := Blk.new w5 67 #[.int .i64 er, .int .i64 k]
    have hb7 := hb6.alloc hb6.size (.cells #[.int .i64 er, .int .i64 k] 67)
    have ho5 := (own_below ho3 hb5).alloc (.cells #[.int .i64 er, .int .i64 k] 67)
    obtain ⟨z0, z1⟩ : _ ∧ _ := And.intro (ks5.cell 0) (ks5.cell 1)
    obtain ⟨y0, y1⟩ : _ ∧ _ := And.intro (kt5.cell 0) (kt5.cell 1)
    simp at z0 z1 y0 y1
    go_wp2_with fail
    have hrr := hr.below hb7
    refine (bytes_same _ A n n n c l l _ (by omega) (Reads.of_own ho5) (hrr.more hb7.size)).mono ?_
    rintro e w6 ⟨rfl, hd6⟩
    rw [sameB_refl]
    have hb8 := below_cut hb7 (hd6.below _) (Nat.le_refl _)
    go_wp2_with fail
    go_ret
    exact ⟨rfl, hb8⟩
  · unfold refV
    generalize hN : W * H = N at *
    have hb2 := (hb1.alloc hb1.size (.cells #[.int .i64 W, .int .i64 H, .int .u32 back, .slice (some ⟨g, 0, none⟩) N N] 31)).alloc (by have := hb1.size; simp; omega) (.cells #[.int .i64 0, .int .i64 0] 67)
    have hbx := ((Below.refl w1.heap.size w1).alloc (Nat.le_refl _) (.cells #[.int .i64 W, .int .i64 H, .int .u32 back, .slice (some ⟨g, 0, none⟩) N N] 31)).alloc (by simp) (.cells #[.int .i64 0, .int .i64 0] 67)
    have ks := Blk.new (w1.alloc (.cells #[.int .i64 W, .int .i64 H, .int .u32 back, .slice (some ⟨g, 0, none⟩) N N] 31)) 67 #[.int .i64 0, .int .i64 0]
    rw [World.size_alloc] at ks
    have kd := (Blk.new w1 31 #[.int .i64 W, .int .i64 H, .int .u32 back, .slice (some ⟨g, 0, none⟩) N N]).alloc (.cells #[.int .i64 0, .int .i64 0] 67)
    have hb1s := hb1.size
    have hR2 := hR.below hbx
    have hgl := hR.lt
    clear hR hbx
    go_wp2_with fail
    generalize (w1.alloc (.cells #[.int .i64 W, .int .i64 H, .int .u32 back, .slice (some ⟨g, 0, none⟩) N N] 31)).alloc (.cells #[.int .i64 0, .int .i64 0] 67) = w2 at *
    have hr2 := hr.below hb2
    refine (copyBytes A n c l w2 hn (hr2.more hb2.size)).mono ?_
    rintro e w3 ⟨g3, rfl, ho3, hb3⟩
    have hb4 := below_cut hb2 hb3 (Nat.le_refl _)
    have ks3 := ks.below hb3 ks.lt
    have kd3 := kd.below hb3 kd.lt
    have hR3 := hR2.below hb3
    have hg3 := ho3.lt g3 rfl
    have hks := ks.lt
    go_wp2_with fail
    refine (hc _ _ w3 (Reads.of_own ho3) (Nat.le_refl _)).mono ?_
    rintro e w5 ⟨hb5, gC, gp, rfl, hC⟩
    have hb6 := below_cut hb4 hb5 (Nat.le_refl _)
    have hx5 := (Below.refl w5.heap.size w5).alloc (Nat.le_refl _) (.cells #[.int .i64 0, .int .i64 0] 67)
    have ks5 := (ks3.below hb5 ks3.lt).alloc (.cells #[.int .i64 0, .int .i64 0] 67)
    have kd5 := (kd3.below hb5 kd3.lt).alloc (.cells #[.int .i64 0, .int .i64 0] 67)
    have kt5 := Blk.new w5 67 #[.int .i64 0, .int .i64 0]
    have hb7 := hb6.alloc hb6.size (.cells #[.int .i64 0, .int .i64 0] 67)
    have ho5 := (own_below ho3 hb5).alloc (.cells #[.int .i64 0, .int .i64 0] 67)
    have hC5 := hC.below hx5
    have hR5 := (hR3.below hb5).below hx5
    have hClow := hC.low
    have hCl2 := hC.lt2
    obtain ⟨z0, z1⟩ : _ ∧ _ := And.intro (ks5.cell 0) (ks5.cell 1)
    obtain ⟨y0, y1⟩ : _ ∧ _ := And.intro (kt5.cell 0) (kt5.cell 1)
    simp at z0 z1 y0 y1
    go_wp2_with fail
    clear z0 z1 y0 y1 ks5 kt5 ks3 kd3 ks kd hx5 hC hR3 hR2 ho3
    have hrr := hr.below hb7
    generalize w5.alloc (.cells #[.int .i64 0, .int .i64 0] 67) = w6 at *
    refine (bytes_same _ A n n n c l l _ (by omega) (Reads.of_own ho5) (hrr.more hb7.size)).mono ?_
    rintro e w7 ⟨rfl, hd7⟩
    rw [sameB_refl]
    have hb8 := below_cut hb7 (hd7.below _) (Nat.le_refl _)
    have hC7 := hC5.below (hd7.below _)
    have hR7 := hR5.below (hd7.below _)
    have kd7 := kd5.below (hd7.below _) kd5.lt
    have ho7 := own_below ho5 (hd7.below _)
    clear hC5 hR5 kd5 ho5 hb7 hd7 hrr
    go_wp2_with fail
    go_loopw [8] (fun i wr => ∃ (k : Nat) (l' : List Int), k ≤ n ∧ i = .int .i64 k ∧ wr.ownsRow w2.heap.size 5 1 (.slice (some ⟨g3, 0, none⟩) n n) n (Ints .u8 l') ∧ CanS wr w3.heap.size gC gp N N W H back ps ∧ RefS wr w.heap.size g N N W H back ps ∧ Blk wr w1.heap.size 31 #[.int .i64 W, .int .i64 H, .int .u32 back, .slice (some ⟨g, 0, none⟩) N N] ∧ Below w.heap.size w wr) (fun i _ => n - (intOf i).toNat)
    case atStart => exact ⟨0, l, by omega, rfl, ho7, hC7, hR7, kd7, hb8⟩
    case round =>
      obtain ⟨k, l', hk, rfl, hor, hCr, hRr, kdr, hbr⟩ := hrel
      by_cases hlt : k < n
      · have hc1 := own_int_at hor hlt
        have hf1 := hor.frozenAt k
        have hos := (Off.refl (fun q => q = g3) wr).set_ (p := ⟨g3, k, none⟩) (.inl rfl) (.int .u8 0)
        go_wp2_with fail
        go_roundw
        case rel => exact ⟨k + 1, l'.set k 0, by omega, by go_num, own_int_set hor k _, hCr.off hos (by omega) (by omega), hRr.off hos (by omega), kdr.off hos (by omega), hbr.setCell (by simp; omega) _⟩
        case measure => simp [intOf]; omega
      · obtain rfl : k = n := by omega
        obtain ⟨q0, q1, q2, q3⟩ := kdr.read4
        have hal := all_any hCr hRr
        unfold refV at hal
        go_wp2_with fail
        refine hal.mono ?_
        rintro e w9 ⟨rfl, hb9⟩
        have hb10 := below_cut hbr hb9 (Nat.le_refl _)
        go_wp2_with fail
        go_ret
        exact ⟨rfl, hb10⟩
end Go.Proofs.Ytfciaefjilobaaa
