/- The walk of CanvasPlots: whatever the sheet, the dots and the place, it answers true, and nothing that was there has turned. -/
import Derived.Test.YtfciaefjilobaaaDrawn
namespace Go.Proofs.Ytfciaefjilobaaa
open Go.RowKit

theorem nat_of {x : Int} (h : 1 ≤ x) (h' : x ≤ 1024) : ∃ n : Nat, x = n ∧ 1 ≤ n ∧ n ≤ 1024 := ⟨x.toNat, by omega, by omega, by omega⟩

set_option maxHeartbeats 2000000 in
theorem law_plots (W H back : Int) (A : Option Addr) (m c : Nat) (l : List Dot) (x y : Int) (w : World) (hW : -9223372036854775808 ≤ W ∧ W ≤ 9223372036854775807) (hH : -9223372036854775808 ≤ H ∧ H ≤ 9223372036854775807) (hb : 0 ≤ back ∧ back < 4294967296)
    (hm : m ≤ 9223372036854775807) (hl : okDots l) (hr : Reads w w.heap.size 4 A m (Dots l)) :
    Calls Try.prog 3 #[.agg #[.int .i64 W, .int .i64 H, .int .u32 back, .slice A m c], .int .i64 x, .int .i64 y] w fun e w' => e = .returned (.bool true) ∧ Below w.heap.size w w' := by
  have hbad := fun w' (h : newE W H ≠ 0) => drawn_bad W H back hW hH h A m c w'
  have hok := fun (W' H' : Nat) (eW : W = W') (eH : H = H') (h1 : 1 ≤ W' ∧ W' ≤ 1024) (h2 : 1 ≤ H' ∧ H' ≤ 1024) w' hr => drawn_ok W' H' back h1 h2 hb A m c l w' hm hl hr
  have kb := Blk.new w 27 #[.int .i64 W, .int .i64 H, .int .u32 back, .slice A m c]
  have hb1 := (Below.refl w.heap.size w).alloc (Nat.le_refl _) (.cells #[.int .i64 W, .int .i64 H, .int .u32 back, .slice A m c] 27)
  go_enter Try.func3, Try.ntmps3
  go_wp2
  generalize w.alloc (.cells #[.int .i64 W, .int .i64 H, .int .u32 back, .slice A m c] 27) = w1 at *
  obtain ⟨q0, q1, q2, q3⟩ := kb.read4
  have o0 := fun o => (kb.alloc o).cell 0
  have o1 := fun o => (kb.alloc o).cell 1
  have o2 := fun o => (kb.alloc o).cell 2
  have o3 := fun o => (kb.alloc o).cell 3
  simp at o0 o1 o2 o3
  go_region
  have ks := (Blk.new w1 24 #[.int .i64 W, .int .i64 H, .int .u32 back]).drew
  have hb3 := (hb1.alloc hb1.size (.cells #[.int .i64 W, .int .i64 H, .int .u32 back] 24)).drew
  clear o0 o1 o2 o3 q0 q1 q2 q3 kb hb1
  generalize (w1.alloc (.cells #[.int .i64 W, .int .i64 H, .int .u32 back] 24)).drew = w3 at *
  obtain ⟨q0, q1, q2⟩ := ks.read3
  go_wp2_with fail
  clear q0 q1 q2 ks
  by_cases h0 : newE W H = 0
  · obtain ⟨a1, a2, a3, a4⟩ := newE_zero h0
    obtain ⟨W, rfl, hW1⟩ := nat_of a1 a2
    obtain ⟨H, rfl, hH1⟩ := nat_of a3 a4
    refine (hok W H rfl rfl hW1 hH1 w3 ((hr.below hb3).more hb3.size)).mono ?_
    rintro e w4 ⟨g, gp, gq, rfl, hC, hR, hb4⟩
    have hb5 := below_cut hb3 hb4 (Nat.le_refl _)
    clear hok hbad hb3 hb4 h0
    unfold refV
    generalize W * H = N at *
    generalize runD W H (List.replicate N noPix) l = ps at *
    have hb6 := hb5.alloc hb5.size (.cells #[.int .i64 W, .int .i64 H, .int .u32 back, .slice (some ⟨gq, 0, none⟩) N N] 31)
    have hbx := (Below.refl w4.heap.size w4).alloc (Nat.le_refl _) (.cells #[.int .i64 W, .int .i64 H, .int .u32 back, .slice (some ⟨gq, 0, none⟩) N N] 31)
    have kd := Blk.new w4 31 #[.int .i64 W, .int .i64 H, .int .u32 back, .slice (some ⟨gq, 0, none⟩) N N]
    have hC2 := hC.below hbx
    have hR2 := hR.below hbx
    go_wp2_with fail
    clear hC hR hbx hb5
    generalize w4.alloc (.cells #[.int .i64 W, .int .i64 H, .int .u32 back, .slice (some ⟨gq, 0, none⟩) N N] 31) = w5 at *
    refine (same_any hC2 hR2 x y).mono ?_
    rintro e w6 ⟨rfl, hb7⟩
    have hb8 := below_cut hb6 hb7 (Nat.le_refl _)
    have hC3 := hC2.below hb7
    have hR3 := hR2.below hb7
    obtain ⟨s0, s1, s2, s3⟩ := (kd.below hb7 kd.lt).read4
    go_wp2_with fail
    refine (all_any hC3 hR3).mono ?_
    rintro e w7 ⟨rfl, hb9⟩
    go_wp2
    go_ret
    exact ⟨rfl, below_cut hb8 hb9 (Nat.le_refl _)⟩
  · refine (hbad w3 h0).mono ?_
    rintro e w4 ⟨rfl, hb4⟩
    unfold noRef
    go_wp2
    go_ret
    exact ⟨rfl, (below_cut hb3 hb4 (Nat.le_refl _)).alloc (by have := (below_cut hb3 hb4 (Nat.le_refl _)).size; omega) _⟩
end Go.Proofs.Ytfciaefjilobaaa
