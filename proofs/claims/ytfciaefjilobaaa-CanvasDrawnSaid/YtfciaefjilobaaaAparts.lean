/- The walk of CanvasAparts: whatever the two pictures, it answers true, and nothing that was there has turned. -/
import Derived.Test.YtfciaefjilobaaaApart
import Derived.Test.YtfciaefjilobaaaPlots
namespace Go.Proofs.Ytfciaefjilobaaa
open Go.RowKit

/-- a region, cut off from what comes behind it -/
theorem region_mid {P : Program} {c : Code} {K : Act → World → Prop} {Q : Exit → Act → World → Prop} {a : Act} {w : World} (X : Act → Act → World → Prop) (h : ∀ K1 : Act → World → Prop, Hid (∀ a' w', X a a' w' → K1 a' w') → c.wp P (Exit.then K1 Q) a w) (k : ∀ a' w', X a a' w' → K a' w') : c.wp P (Exit.then K Q) a w :=
  wp_mono (h (fun a' w' => X a a' w') (Lib.hid fun _ _ hx => hx)) fun e a' w' hx => by
    cases e <;> first | exact k _ _ hx | exact hx

theorem two_new {w w1 : World} (t : TypeId) (a b : Array Value) (hb1 : Below w.heap.size w w1) : Blk ((w1.alloc (.cells a t)).alloc (.cells b t)).drew w1.heap.size t a ∧ Blk ((w1.alloc (.cells a t)).alloc (.cells b t)).drew (w1.heap.size + 1) t b ∧ Below w.heap.size w ((w1.alloc (.cells a t)).alloc (.cells b t)).drew := by
  have x2 := (Blk.new (w1.alloc (.cells a t)) t b).drew
  rw [World.size_alloc] at x2
  exact ⟨((Blk.new w1 t a).alloc (.cells b t)).drew, x2, ((hb1.alloc hb1.size (.cells a t)).alloc (by have := hb1.size; simp; omega) (.cells b t)).drew⟩
/-- what drawn answers, whatever the sheet -/
def DrawnC (w : World) (l : List Dot) (W H back : Int) (p : Option Addr) (a0 a1 a2 a3 : Value) (w' : World) : Prop :=
  (p = none ∧ a0 = .int .i64 0 ∧ a1 = .int .i64 0 ∧ a2 = .int .u32 0 ∧ a3 = .slice none 0 0) ∨
  ∃ (W' H' g gp gq : Nat), W = W' ∧ H = H' ∧ p = some ⟨g, 0, none⟩ ∧ a0 = .int .i64 W' ∧ a1 = .int .i64 H' ∧ a2 = .int .u32 back ∧ a3 = .slice (some ⟨gq, 0, none⟩) (W' * H') (W' * H') ∧
    CanS w' w.heap.size g gp (W' * H') (W' * H') W' H' back (runD W' H' (List.replicate (W' * H') noPix) l) ∧ RefS w' w.heap.size gq (W' * H') (W' * H') W' H' back (runD W' H' (List.replicate (W' * H') noPix) l)
theorem drawn_any (W H back : Int) (A : Option Addr) (m c : Nat) (l : List Dot) (w : World) (hW : -9223372036854775808 ≤ W ∧ W ≤ 9223372036854775807) (hH : -9223372036854775808 ≤ H ∧ H ≤ 9223372036854775807) (hb : 0 ≤ back ∧ back < 4294967296)
    (hm : m ≤ 9223372036854775807) (hl : okDots l) (hr : Reads w w.heap.size 4 A m (Dots l)) :
    Calls Try.prog 11 #[.agg #[.int .i64 W, .int .i64 H, .int .u32 back], .slice A m c] w fun e w' => ∃ p a0 a1 a2 a3, e = .returned (.tuple #[.pointer p, .agg #[a0, a1, a2, a3], .bool true]) ∧ DrawnC w l W H back p a0 a1 a2 a3 w' ∧ Below w.heap.size w w' := by
  by_cases h0 : newE W H = 0
  · obtain ⟨a1, a2, a3, a4⟩ := newE_zero h0
    obtain ⟨W, rfl, hW1⟩ := nat_of a1 a2
    obtain ⟨H, rfl, hH1⟩ := nat_of a3 a4
    refine (drawn_ok W H back hW1 hH1 hb A m c l w hm hl hr).mono ?_
    rintro e w' ⟨g, gp, gq, rfl, hC, hR, hb⟩
    exact ⟨_, _, _, _, _, rfl, .inr ⟨W, H, g, gp, gq, rfl, rfl, rfl, rfl, rfl, rfl, rfl, hC, hR⟩, hb⟩
  · refine (drawn_bad W H back hW hH h0 A m c w).mono ?_
    rintro e w' ⟨rfl, hb⟩
    exact ⟨_, _, _, _, _, rfl, .inl ⟨rfl, rfl, rfl, rfl, rfl⟩, hb⟩
theorem apart_nil (p q : Option Addr) (h : p = none ∨ q = none) (w : World) :
    Calls Try.prog 21 #[.pointer p, .pointer q] w fun e w' => e = .returned (.tuple #[.int .i64 0, .int .i64 0, .int .i64 0, .int .i64 1]) ∧ w = w' := by
  rcases p with _ | p
  · go_enter Try.func21, Try.ntmps21
    go_wp2
    (try simp only [Exit.inBlock, Exit.then]); refine bodyPost_ret (results_tmp4 rfl _ _ _) rfl ?_
    exact ⟨rfl, rfl⟩
  · rcases q with _ | q
    · go_enter Try.func21, Try.ntmps21
      go_wp2
      (try simp only [Exit.inBlock, Exit.then]); refine bodyPost_ret (results_tmp4 rfl _ _ _) rfl ?_
      exact ⟨rfl, rfl⟩
    · rcases h with h | h <;> cases h
theorem aparts_same {w : World} {b1 b2 b3 b4 g gp gq n c c1 g' gp' gq' n' c' c1' W H W' H' : Nat} {k1 k2 : Int} {ps qs : List Pix} (h : CanS w b1 g gp n c W H k1 ps) (h' : CanS w b2 g' gp' n' c' W' H' k2 qs) (r : RefS w b3 gq n c1 W H k1 ps) (r' : RefS w b4 gq' n' c1' W' H' k2 qs) :
    ∃ a b d e : Int, (∀ w', Below w.heap.size w w' → Calls Try.prog 21 #[.pointer (some ⟨g, 0, none⟩), .pointer (some ⟨g', 0, none⟩)] w' fun x w'' => x = .returned (.tuple #[.int .i64 a, .int .i64 b, .int .i64 d, .int .i64 e]) ∧ Below w'.heap.size w' w'') ∧
      (∀ w', Below w.heap.size w w' → Calls Try.prog 22 #[refV gq n c1 W H k1, refV gq' n' c1' W' H' k2] w' fun x w'' => x = .returned (.tuple #[.int .i64 a, .int .i64 b, .int .i64 d, .int .i64 e]) ∧ Below w'.heap.size w' w'') := by
  by_cases hs : W = W' ∧ H = H'
  · obtain ⟨rfl, rfl⟩ := hs
    obtain rfl : n = n' := by rw [h.sz.area, h'.sz.area]
    refine ⟨_, _, _, _, fun w' hb => (apart_near (h.below hb) (h'.below hb)).mono ?_, fun w' hb => rapart_near (r.below hb) (r'.below hb)⟩
    rintro e w'' ⟨he, hd⟩
    exact ⟨he, hd.below _⟩
  · refine ⟨_, _, _, _, fun w' hb => (apart_far (h.below hb) (h'.below hb) hs).mono ?_, fun w' hb => rapart_far w' gq n c1 W H gq' n' c1' W' H' k1 k2 hs⟩
    rintro e w'' ⟨he, hd⟩
    exact ⟨he, hd.below _⟩

set_option maxRecDepth 20000 in
set_option maxHeartbeats 4000000 in
theorem law_aparts (W H back : Int) (A : Option Addr) (m c : Nat) (l : List Dot) (W' H' back' : Int) (A' : Option Addr) (m' c' : Nat) (l' : List Dot) (w : World)
    (hW : -9223372036854775808 ≤ W ∧ W ≤ 9223372036854775807) (hH : -9223372036854775808 ≤ H ∧ H ≤ 9223372036854775807) (hb : 0 ≤ back ∧ back < 4294967296) (hm : m ≤ 9223372036854775807) (hl : okDots l) (hr : Reads w w.heap.size 4 A m (Dots l))
    (hW' : -9223372036854775808 ≤ W' ∧ W' ≤ 9223372036854775807) (hH' : -9223372036854775808 ≤ H' ∧ H' ≤ 9223372036854775807) (hb' : 0 ≤ back' ∧ back' < 4294967296) (hm' : m' ≤ 9223372036854775807) (hl' : okDots l') (hr' : Reads w w.heap.size 4 A' m' (Dots l')) :
    Calls Try.prog 7 #[.agg #[.int .i64 W, .int .i64 H, .int .u32 back, .slice A m c], .agg #[.int .i64 W', .int .i64 H', .int .u32 back', .slice A' m' c']] w fun e w' => e = .returned (.bool true) ∧ Below w.heap.size w w' := by
  have hd1 := fun w' hr => drawn_any W H back A m c l w' hW hH hb hm hl hr
  have hd2 := fun w' hr => drawn_any W' H' back' A' m' c' l' w' hW' hH' hb' hm' hl' hr
  have kb := Blk.new w 27 #[.int .i64 W, .int .i64 H, .int .u32 back, .slice A m c]
  have kc := Blk.new (w.alloc (.cells #[.int .i64 W, .int .i64 H, .int .u32 back, .slice A m c] 27)) 27 #[.int .i64 W', .int .i64 H', .int .u32 back', .slice A' m' c']
  have kb2 := kb.alloc (.cells #[.int .i64 W', .int .i64 H', .int .u32 back', .slice A' m' c'] 27)
  have hb1 := ((Below.refl w.heap.size w).alloc (Nat.le_refl _) (.cells #[.int .i64 W, .int .i64 H, .int .u32 back, .slice A m c] 27)).alloc (by simp) (.cells #[.int .i64 W', .int .i64 H', .int .u32 back', .slice A' m' c'] 27)
  rw [World.size_alloc] at kc
  go_enter Try.func7, Try.ntmps7
  go_wp2
  generalize (w.alloc (.cells #[.int .i64 W, .int .i64 H, .int .u32 back, .slice A m c] 27)).alloc (.cells #[.int .i64 W', .int .i64 H', .int .u32 back', .slice A' m' c'] 27) = w1 at *
  clear kb
  obtain ⟨q0, q1, q2, q3⟩ := kb2.read4
  obtain ⟨r0, r1, r2, r3⟩ := kc.read4
  have q01 := fun o => (kb2.alloc o).cell 0
  have q11 := fun o => (kb2.alloc o).cell 1
  have q21 := fun o => (kb2.alloc o).cell 2
  have q31 := fun o => (kb2.alloc o).cell 3
  have r01 := fun o => (kc.alloc o).cell 0
  have r11 := fun o => (kc.alloc o).cell 1
  have r21 := fun o => (kc.alloc o).cell 2
  have r31 := fun o => (kc.alloc o).cell 3
  have q02 := fun o o' => ((kb2.alloc o).alloc o').cell 0
  have q12 := fun o o' => ((kb2.alloc o).alloc o').cell 1
  have q22 := fun o o' => ((kb2.alloc o).alloc o').cell 2
  have q32 := fun o o' => ((kb2.alloc o).alloc o').cell 3
  have r02 := fun o o' => ((kc.alloc o).alloc o').cell 0
  have r12 := fun o o' => ((kc.alloc o).alloc o').cell 1
  have r22 := fun o o' => ((kc.alloc o).alloc o').cell 2
  have r32 := fun o o' => ((kc.alloc o).alloc o').cell 3
  simp at q01 q11 q21 q31 r01 r11 r21 r31 q02 q12 q22 q32 r02 r12 r22 r32
  refine region_mid (fun a a' w' => ∃ s1 s2, a' = (((((((((((a.put (some 29) (.pointer (some ⟨w.heap.size, 0, none⟩))).put (some 30) (.agg #[.int .i64 W, .int .i64 H, .int .u32 back])).put (some 31) (.pointer (some ⟨w.heap.size, 3, none⟩))).put (some 32) (.slice A m c)).put (some 33) (.pointer (some ⟨w.heap.size + 1, 0, none⟩))).put (some 34) (.agg #[.int .i64 W', .int .i64 H', .int .u32 back'])).put (some 35) (.pointer (some ⟨w.heap.size + 1, 3, none⟩))).put (some 36) (.slice A' m' c')).put (some 5) (.pointer (some ⟨s1, 0, none⟩))).put (some 6) (.slice A m c)).put (some 7) (.pointer (some ⟨s2, 0, none⟩))).put (some 8) (.slice A' m' c') ∧
    Blk w' s1 24 #[.int .i64 W, .int .i64 H, .int .u32 back] ∧ Blk w' s2 24 #[.int .i64 W', .int .i64 H', .int .u32 back'] ∧ Below w.heap.size w w') ?_ ?_
  · intro Q1 hQ1
    go_region
    all_goals first
      | exact hQ1.out _ _ ⟨_, _, by kernel_rfl, (two_new 24 _ _ hb1).1, (two_new 24 _ _ hb1).2.1, (two_new 24 _ _ hb1).2.2⟩
      | exact hQ1.out _ _ ⟨_, _, by kernel_rfl, (two_new 24 _ _ hb1).2.1, (two_new 24 _ _ hb1).1, (two_new 24 _ _ hb1).2.2⟩
  · rintro a' w3 ⟨s1, s2, rfl, k1, k2, hb3⟩
    clear q0 q1 q2 q3 r0 r1 r2 r3 q01 q11 q21 q31 r01 r11 r21 r31 q02 q12 q22 q32 r02 r12 r22 r32 kb2 kc hb1
    have hs3 := hb3.size
    obtain ⟨q0, q1, q2⟩ := k1.read3
    go_wp2_with fail
    refine (hd1 _ ((hr.below hb3).more hb3.size)).mono ?_
    rintro e w4 ⟨p, a0, a1, a2, a3, rfl, hD1, hb4⟩
    rcases hD1 with ⟨rfl, rfl, rfl, rfl, rfl⟩ | ⟨W, H, g, gp, gq, rfl, rfl, rfl, rfl, rfl, rfl, rfl, hC, hR⟩
    · have k3 := k2.below hb4 k2.lt
      have hb5 := below_cut hb3 hb4 (Nat.le_refl _)
      have hb6 := hb5.alloc hb5.size (.cells #[.int .i64 0, .int .i64 0, .int .u32 0, .slice none 0 0] 31)
      have kd := Blk.new w4 31 #[.int .i64 0, .int .i64 0, .int .u32 0, .slice none 0 0]
      obtain ⟨v0, v1, v2⟩ := (k3.alloc (.cells #[.int .i64 0, .int .i64 0, .int .u32 0, .slice none 0 0] 31)).read3
      have hrec := (Below.refl w4.heap.size w4).alloc (Nat.le_refl _) (.cells #[.int .i64 0, .int .i64 0, .int .u32 0, .slice none 0 0] 31)
      clear q0 q1 q2 k1 k2 hb3 hb4 hd1 k3
      go_wp2_with fail
      clear v0 v1 v2
      generalize w4.alloc (.cells #[.int .i64 0, .int .i64 0, .int .u32 0, .slice none 0 0] 31) = w5 at *
      refine (hd2 _ ((hr'.below hb6).more hb6.size)).mono ?_
      rintro e w6 ⟨p', a0', a1', a2', a3', rfl, hD2, hb7⟩
      have kd2 := kd.below hb7 kd.lt
      have hb8 := below_cut hb6 hb7 (Nat.le_refl _)
      clear hd2
      rcases hD2 with ⟨rfl, rfl, rfl, rfl, rfl⟩ | ⟨V, G, g', gp', gq', rfl, rfl, rfl, rfl, rfl, rfl, rfl, hC', hR'⟩
      · have hb9 := hb8.alloc hb8.size (.cells #[.int .i64 0, .int .i64 0, .int .u32 0, .slice none 0 0] 31)
        go_wp2_with fail
        refine (apart_nil none none (.inl rfl) _).mono ?_
        rintro e w7 ⟨rfl, rfl⟩
        go_wp2
        go_ret
        exact ⟨rfl, hb9⟩
      · have hb9 := hb8.alloc hb8.size (.cells #[.int .i64 V, .int .i64 G, .int .u32 back', .slice (some ⟨gq', 0, none⟩) (V * G) (V * G)] 31)
        go_wp2_with fail
        refine (apart_nil none (some ⟨g', 0, none⟩) (.inl rfl) _).mono ?_
        rintro e w7 ⟨rfl, rfl⟩
        go_wp2
        go_ret
        exact ⟨rfl, hb9⟩
    · have k3 := k2.below hb4 k2.lt
      have hb5 := below_cut hb3 hb4 (Nat.le_refl _)
      have hb6 := hb5.alloc hb5.size (.cells #[.int .i64 W, .int .i64 H, .int .u32 back, .slice (some ⟨gq, 0, none⟩) (W * H) (W * H)] 31)
      have kd := Blk.new w4 31 #[.int .i64 W, .int .i64 H, .int .u32 back, .slice (some ⟨gq, 0, none⟩) (W * H) (W * H)]
      obtain ⟨v0, v1, v2⟩ := (k3.alloc (.cells #[.int .i64 W, .int .i64 H, .int .u32 back, .slice (some ⟨gq, 0, none⟩) (W * H) (W * H)] 31)).read3
      have hrec := (Below.refl w4.heap.size w4).alloc (Nat.le_refl _) (.cells #[.int .i64 W, .int .i64 H, .int .u32 back, .slice (some ⟨gq, 0, none⟩) (W * H) (W * H)] 31)
      clear q0 q1 q2 k1 k2 hb3 hb4 hd1 k3
      go_wp2_with fail
      clear v0 v1 v2
      generalize w4.alloc (.cells #[.int .i64 W, .int .i64 H, .int .u32 back, .slice (some ⟨gq, 0, none⟩) (W * H) (W * H)] 31) = w5 at *
      refine (hd2 _ ((hr'.below hb6).more hb6.size)).mono ?_
      rintro e w6 ⟨p', a0', a1', a2', a3', rfl, hD2, hb7⟩
      have kd2 := kd.below hb7 kd.lt
      have hb8 := below_cut hb6 hb7 (Nat.le_refl _)
      clear hd2
      rcases hD2 with ⟨rfl, rfl, rfl, rfl, rfl⟩ | ⟨V, G, g', gp', gq', rfl, rfl, rfl, rfl, rfl, rfl, rfl, hC', hR'⟩
      · have hb9 := hb8.alloc hb8.size (.cells #[.int .i64 0, .int .i64 0, .int .u32 0, .slice none 0 0] 31)
        go_wp2_with fail
        refine (apart_nil (some ⟨g, 0, none⟩) none (.inr rfl) _).mono ?_
        rintro e w7 ⟨rfl, rfl⟩
        go_wp2
        go_ret
        exact ⟨rfl, hb9⟩
      · have hrec2 := (Below.refl w6.heap.size w6).alloc (Nat.le_refl _) (.cells #[.int .i64 V, .int .i64 G, .int .u32 back', .slice (some ⟨gq', 0, none⟩) (V * G) (V * G)] 31)
        have hC1 := ((hC.below hrec).below hb7).below hrec2
        have hR1 := ((hR.below hrec).below hb7).below hrec2
        have hC2 := hC'.below hrec2
        have hR2 := hR'.below hrec2
        have hb9 := hb8.alloc hb8.size (.cells #[.int .i64 V, .int .i64 G, .int .u32 back', .slice (some ⟨gq', 0, none⟩) (V * G) (V * G)] 31)
        have ke := Blk.new w6 31 #[.int .i64 V, .int .i64 G, .int .u32 back', .slice (some ⟨gq', 0, none⟩) (V * G) (V * G)]
        have kd3 := kd2.alloc (.cells #[.int .i64 V, .int .i64 G, .int .u32 back', .slice (some ⟨gq', 0, none⟩) (V * G) (V * G)] 31)
        have t1 := fun o => (kd2.alloc o).cell 0
        have t2 := fun o => (kd2.alloc o).cell 1
        have t3 := fun o => (kd2.alloc o).cell 2
        have t4 := fun o => (kd2.alloc o).cell 3
        simp at t1 t2 t3 t4
        clear hC hR hC' hR' hrec hrec2 hb7 hb8 hb6 hb5 kd kd2
        go_wp2_with fail
        clear t1 t2 t3 t4
        generalize w6.alloc (.cells #[.int .i64 V, .int .i64 G, .int .u32 back', .slice (some ⟨gq', 0, none⟩) (V * G) (V * G)] 31) = w7 at *
        obtain ⟨xa, xb, xd, xe, hA1, hA2⟩ := aparts_same hC1 hC2 hR1 hR2
        unfold refV at hA2
        refine (hA2 _ (Below.refl _ _)).mono ?_
        rintro e w8 ⟨rfl, hb10⟩
        go_wp2_with fail
        refine (hA1 _ hb10).mono ?_
        rintro e w9 ⟨rfl, hb11⟩
        have hb12 := below_cut hb10 hb11 (Nat.le_refl _)
        have hC3 := hC1.below hb12
        have hR3 := hR1.below hb12
        have kd4 := kd3.below hb12 kd3.lt
        have hb13 := below_cut hb9 hb12 (Nat.le_refl _)
        have z1 : (xa != xa) = false := by simp
        have z2 : (xb != xb) = false := by simp
        have z3 : (xd != xd) = false := by simp
        have z4 : (xe != xe) = false := by simp
        clear hA1 hA2 hC1 hC2 hR1 hR2 hb9 hb10 hb11 hb12 ke kd3
        go_wp2_with fail
        clear z1 z2 z3 z4
        refine (copy_any hC3).mono ?_
        rintro e w10 ⟨k, kp, kcap, rfl, hK, hb14⟩
        have hlen' := hr'.dots_len
        go_wp2_with fail
        go_loopw [28] (fun i wr => ∃ (j : Nat) (qs : List Pix), j ≤ m' ∧ i = .int .i64 j ∧ CanS wr w9.heap.size k kp (W * H) kcap W H back qs ∧ Below w9.heap.size w9 wr) (fun i _ => m' - (intOf i).toNat)
        case atStart => exact ⟨0, _, by omega, rfl, hK, hb14⟩
        case round =>
          obtain ⟨j, qs, hj, rfl, hKr, hbr⟩ := hrel
          by_cases hlt : j < m'
          · obtain ⟨ab, off, rfl, hab, hdots⟩ := (hr'.below (below_cut hb13 hbr (Nat.le_refl _))).dots (by omega)
            obtain ⟨d0, d1, _, d3⟩ := hdots j hlt
            clear hdots
            have hp0 := hl' _ (dt_mem (l := l') (k := j) (by omega))
            have hp : okPix (true, -2147483648, (dt l' j).2.2.2) := ⟨by simp, by simp, hp0.2.2.1, hp0.2.2.2⟩
            have hpl := fun w' h => plot_any (w := w') (h : CanS w' w9.heap.size k kp (W * H) kcap W H back qs) (dt l' j).1 (dt l' j).2.1 (-2147483648) (dt l' j).2.2.2 hp
            unfold Plotted at hpl
            generalize (dt l' j).1 = qx at d0 hpl
            generalize (dt l' j).2.1 = qy at d1 hpl
            generalize (dt l' j).2.2.2 = qc at d3 hpl hp
            go_wp2
            refine wp_region_tail 16 (by kernel_rfl) (by kernel_rfl) ?_
            simp only [List.take_succ_cons, List.take_zero, List.drop_succ_cons, List.drop_zero]
            repeat (go_big_quiet_step (fail))
            refine wpQuiet_nil ?_
            have hKr2 := hKr.below (Below.refl _ _).drew
            have hbr2 := hbr.drew
            clear hKr hbr d0 d1 d3
            generalize wr.drew = w11 at *
            go_wp2_with fail
            refine (hpl _ hKr2).mono ?_
            rintro e w12 ⟨rfl, hK3, ho3⟩
            have hkp := hKr2.lt2.1
            have hb15 := hbr2.trans (ho3.to_below w9.heap.size hbr2.size (fun k _ hk => by omega))
            go_wp2
            go_roundw
            case rel => exact ⟨j + 1, _, by omega, by go_num, hK3, hb15⟩
            case measure => simp [intOf]; omega
          · have hC4 := hC3.below hbr
            have hR4 := hR3.below hbr
            have kd5 := kd4.below hbr kd4.lt
            have hb16 := below_cut hb13 hbr (Nat.le_refl _)
            clear hKr hbr hC3 hR3 kd4 hK hb14 hb13
            go_wp2_with fail
            refine (copy_any hC4).mono ?_
            rintro e w12 ⟨k2, kp2, kcap2, rfl, hK2, hb17⟩
            have hC5 := hC4.below hb17
            have hR5 := hR4.below hb17
            have kd6 := kd5.below hb17 kd5.lt
            have hb18 := below_cut hb16 hb17 (Nat.le_refl _)
            have hgp := hC4.lt2
            have hap := hC5.apart hR5
            have hpl := plot_any hC5 0 0 (-2147483648) 5 ⟨by decide, by decide, by decide, by decide⟩
            unfold Plotted at hpl
            go_wp2_with fail
            refine hpl.mono ?_
            rintro e w13 ⟨rfl, _, ho4⟩
            have hR6 := hR5.off ho4 (Ne.symm hap.2)
            have hk2 := hK2.low
            have hkp2 := hK2.lt2.1
            have hK3 := hK2.off ho4 (by omega) (by omega)
            have kd7 := kd6.off ho4 (own_blk_ne' hC5.row kd6 (by decide))
            have hb19 := hb18.trans (ho4.to_below w.heap.size hb18.size (fun k _ hk => by omega))
            obtain ⟨u0, u1, u2, u3⟩ := kd7.read4
            have hall := all_any hK3 hR6
            unfold refV at hall
            go_wp2_with fail
            refine hall.mono ?_
            rintro e w14 ⟨rfl, hb20⟩
            go_wp2
            go_ret
            exact ⟨rfl, below_cut hb19 hb20 (Nat.le_refl _)⟩
end Go.Proofs.Ytfciaefjilobaaa
