/- Walks: whether a pixel of both is the same, whether all are. -/
import Derived.Test.YtfciaefjilobaaaAt
namespace Go.Proofs.Ytfciaefjilobaaa
open Go.RowKit

section
variable {w : World} {base base' g gp gq n c n' c' W H : Nat} {back : Int} {ps : List Pix}
theorem same_any (h : CanS w base g gp n c W H back ps) (h' : RefS w base' gq n' c' W H back ps) (x y : Int) :
    Calls Try.prog 12 #[.pointer (some ⟨g, 0, none⟩), refV gq n' c' W H back, .int .i64 x, .int .i64 y] w fun e w' => e = .returned (.bool true) ∧ Below w.heap.size w w' := by
  have hbx := (Below.refl w.heap.size w).alloc (Nat.le_refl _) (.cells #[.int .i64 W, .int .i64 H, .int .u32 back, .slice (some ⟨gq, 0, none⟩) n' c'] 31)
  have hr := rat_any (h'.below hbx) x y
  have ha := at_any (h.below hbx) x y
  have ha2 := fun w' (hb : Below w.heap.size w w') => at_any (h.below hb) x y
  unfold refV at *
  generalize atC W H ps back x y = ac at *
  generalize atD W H ps x y = ad at *
  generalize atB W H ps x y = ab at *
  generalize plotE W H x y = ae at *
  go_enter Try.func12, Try.ntmps12
  go_wp2_with fail
  refine hr.mono ?_
  rintro e w1 ⟨rfl, hb1⟩
  have hb := below_cut hbx hb1 (Nat.le_refl _)
  go_wp2_with fail
  refine (ha2 _ hb).mono ?_
  rintro e w2 ⟨rfl, hd⟩
  go_wp2
  go_ret
  exact ⟨by simp, hb.trans (hd.below _)⟩
theorem size_any (h : CanS w base g gp n c W H back ps) :
    Calls Try.prog 24 #[.pointer (some ⟨g, 0, none⟩)] w fun e w' => e = .returned (.tuple #[.int .i64 W, .int .i64 H]) ∧ Drawn w w' := by
  have p0 := h.blk.cell 0
  have p1 := h.blk.cell 1
  simp at p0 p1
  go_enter Try.func24, Try.ntmps24
  go_wp2
  go_quiet (fail)
  go_wp2
  go_ret2
  exact ⟨rfl, Drawn.mk _ _⟩

set_option maxHeartbeats 1000000 in
theorem all_any (h : CanS w base g gp n c W H back ps) (h' : RefS w base' gq n' c' W H back ps) :
    Calls Try.prog 13 #[.pointer (some ⟨g, 0, none⟩), refV gq n' c' W H back] w fun e w' => e = .returned (.bool true) ∧ Below w.heap.size w w' := by
  have hbx := (Below.refl w.heap.size w).alloc (Nat.le_refl _) (.cells #[.int .i64 W, .int .i64 H, .int .u32 back, .slice (some ⟨gq, 0, none⟩) n' c'] 31)
  have hsame := fun w' (hb : Below w.heap.size w w') x y => same_any (h.below hb) (h'.below hb) x y
  have hblk := Blk.new w 31 #[.int .i64 W, .int .i64 H, .int .u32 back, .slice (some ⟨gq, 0, none⟩) n' c']
  have hW := h.sz.w2
  have hH := h.sz.h2
  unfold refV at *
  go_enter Try.func13, Try.ntmps13
  go_wp2_with fail
  refine (size_any (h.below hbx)).mono ?_
  rintro e w1 ⟨rfl, hd⟩
  have hb := hbx.trans (hd.below _)
  have kb : Blk w1 w.heap.size 31 #[.int .i64 W, .int .i64 H, .int .u32 back, .slice (some ⟨gq, 0, none⟩) n' c'] := by
    obtain ⟨m, rfl⟩ := hd
    exact hblk.drewN m
  have p0 := kb.cell 0
  have p1 := kb.cell 1
  simp at p0 p1
  go_wp2_with fail
  go_loopw [7, 8] (fun i _ wr => ∃ k : Nat, k ≤ H ∧ i = .int .i64 k ∧ Below w.heap.size w wr ∧ Blk wr w.heap.size 31 #[.int .i64 W, .int .i64 H, .int .u32 back, .slice (some ⟨gq, 0, none⟩) n' c']) (fun i _ _ => H - (intOf i).toNat)
  case atStart => exact ⟨0, by omega, rfl, hb, kb⟩
  case round =>
    obtain ⟨k, hk, rfl, hbr, kbr⟩ := hrel
    by_cases hlt : k < H
    · obtain ⟨wo, rfl⟩ : ∃ wo : World, wo = wr := ⟨_, rfl⟩
      have q0 := kbr.cell 0
      go_wp2_with fail
      go_loopw [8] (fun i wr => ∃ j : Nat, j ≤ W ∧ i = .int .i64 j ∧ Below w.heap.size w wr ∧ Blk wr w.heap.size 31 #[.int .i64 W, .int .i64 H, .int .u32 back, .slice (some ⟨gq, 0, none⟩) n' c']) (fun i _ => W - (intOf i).toNat)
      case atStart => exact ⟨0, by omega, rfl, hbr, kbr⟩
      case round =>
        obtain ⟨j, hj, rfl, hbr2, kbr2⟩ := hrel
        by_cases hlt2 : j < W
        · have q0 := kbr2.cell 0
          have q1 := kbr2.cell 1
          have q2 := kbr2.cell 2
          have q3 := kbr2.cell 3
          simp at q0 q1 q2 q3
          go_wp2_with fail
          refine (hsame _ hbr2 j k).mono ?_
          rintro e w2 ⟨rfl, hb2⟩
          have kb2 := kbr2.below hb2 kbr2.lt
          have hb3 := below_cut hbr2 hb2 (Nat.le_refl _)
          go_wp2
          go_roundw
          case rel => exact ⟨j + 1, by omega, by go_num, hb3, kb2⟩
          case measure => simp [intOf]; omega
        · go_wp2
          go_roundw
          case rel => exact ⟨k + 1, by omega, by go_num, hbr2, kbr2⟩
          case measure => simp [intOf]; omega
    · go_wp2
      go_ret
      exact ⟨rfl, hbr⟩
end
end Go.Proofs.Ytfciaefjilobaaa
