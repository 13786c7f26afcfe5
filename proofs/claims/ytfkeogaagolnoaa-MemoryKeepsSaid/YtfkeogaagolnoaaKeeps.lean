/- The walk of MemoryKeeps. -/
import Derived.Test.YtfkeogaagolnoaaAwake
namespace Go.Proofs.Ytfkeogaagolnoaa
open Go.RowKit

/-- whatever the words, a room is made or not, and none is of no words -/
theorem make_any {w : World} {base g n c : Nat} {A : Option Addr} {bs : List (Nat × Nat)} {ls : List (List Int)} (h : MemS w base g A n c bs ls) (A' : Option Addr) (n' c' : Nat) (l : List Int) (hn : n' ≤ 35184372087808) (hu : Under 4294967296 l) (hr : Reads w w.heap.size 1 A' n' (Ints .u32 l)) :
    Calls Try.prog 9 #[.pointer (some ⟨g, 0, none⟩), .slice A' n' c'] w fun e w' => ∃ (r x : Int) (A2 : Option Addr) (n2 c2 : Nat) (bs2 : List (Nat × Nat)) (ls2 : List (List Int)),
      e = .returned (.tuple #[.int .i64 r, .int .i64 x]) ∧ (n' = 0 → x = 2) ∧ MemS w' base g A2 n2 c2 bs2 ls2 ∧ Below base w w' := by
  rcases Nat.eq_zero_or_pos n' with h0 | h0
  · subst h0
    refine (make_empty g A' c' w).mono ?_
    rintro e w' ⟨rfl, rfl⟩
    exact ⟨_, _, _, _, _, _, _, rfl, fun _ => rfl, h, Below.refl _ _⟩
  · by_cases h1 : 1048576 < total ls + n'
    · refine (make_large h A' n' c' h0 h1 hn).mono ?_
      rintro e w' ⟨rfl, rfl⟩
      exact ⟨_, _, _, _, _, _, _, rfl, fun h => by omega, h, Below.refl _ _⟩
    · refine (make_ok h A' n' c' l h0 (by omega) hu hr).mono ?_
      rintro e w' ⟨rfl, A2, c2, b, hM, hoff, hb, hA⟩
      exact ⟨_, _, _, _, _, _, _, rfl, fun h => by omega, hM, h.made_below hoff⟩

set_option maxRecDepth 20000 in
set_option maxHeartbeats 12000000 in
theorem keeps_not (A0 A1 A2 : Option Addr) (n0 n1 n2 c0 c1 c2 : Nat) (l0 l1 : List Int) (p : Int) (w : World)
    (hn0 : n0 ≤ 35184372087808) (hn1 : n1 ≤ 35184372087808) (hu0 : Under 4294967296 l0) (hu1 : Under 4294967296 l1) (hr0 : Reads w w.heap.size 1 A0 n0 (Ints .u32 l0)) (hr1 : Reads w w.heap.size 1 A1 n1 (Ints .u32 l1)) (hbad : n0 = 0 ∨ n1 = 0 ∨ 1048576 < n0 + n1) :
    Calls Try.prog 4 #[.slice A0 n0 c0, .slice A1 n1 c1, .slice A2 n2 c2, .int .i64 p] w fun e w' => e = .returned (.bool true) ∧ Below w.heap.size w w' := by
  have z0 : n0 = 0 ∨ (¬ n0 = 0 ∧ 0 < n0 ∧ ((n0 : Int) == 0) = false ∧ decide ((0 : Int) < (n0 : Int)) = true) := by
    rcases Nat.eq_zero_or_pos n0 with h | h
    · exact .inl h
    · exact .inr ⟨by omega, h, by rw [beq_eq_false_iff_ne]; omega, by simp; omega⟩
  have z1 : n1 = 0 ∨ (¬ n1 = 0 ∧ 0 < n1 ∧ ((n1 : Int) == 0) = false ∧ decide ((0 : Int) < (n1 : Int)) = true) := by
    rcases Nat.eq_zero_or_pos n1 with h | h
    · exact .inl h
    · exact .inr ⟨by omega, h, by rw [beq_eq_false_iff_ne]; omega, by simp; omega⟩
  have z2 : 0 < n0 → 0 < n1 → decide ((1048576 : Int) < (n0 : Int) + (n1 : Int)) = true := fun h h' => by simp; omega
  rcases z0 with rfl | ⟨j0, k0, y0, x0⟩ <;> rcases z1 with rfl | ⟨j1, k1, y1, x1⟩
  all_goals
    have y2 := z2
    clear z2
    try replace y2 := y2 k0 k1
    clear hbad
    go_enter Try.func4, Try.ntmps4
    go_wp2_with fail
    refine (mnew_any _).mono ?_
    rintro e w1 ⟨g, rfl, hM1, hb1⟩
    go_wp2_with fail
    refine (copyWords A0 _ c0 l0 _ hn0 ((hr0.below hb1).more hb1.size)).mono ?_
    rintro e w2 ⟨g2, rfl, ho2, hb2⟩
    have hB2 := below_cut hb1 hb2 (Nat.le_refl _)
    go_wp2_with fail
    refine (make_any (hM1.below hb2) _ _ _ l0 hn0 hu0 (Reads.of_own ho2)).mono ?_
    rintro e w3 ⟨r3, s3, A3, n3, c3, bs3, ls3, rfl, hs3, hM3, hb3⟩
    have hB3 := hB2.trans hb3
    have Hs3 := Lib.hid hs3
    clear hs3
    go_wp2_with fail
    refine (copyWords A1 _ c1 l1 _ hn1 ((hr1.below hB3).more hB3.size)).mono ?_
    rintro e w4 ⟨g4, rfl, ho4, hb4⟩
    have hB4 := below_cut hB3 hb4 (Nat.le_refl _)
    go_wp2_with fail
    refine (make_any (hM3.below hb4) _ _ _ l1 hn1 hu1 (Reads.of_own ho4)).mono ?_
    rintro e w5 ⟨r5, s5, A5, n5, c5, bs5, ls5, rfl, hs5, hM5, hb5⟩
    have hB5 := hB4.trans hb5
    have Hs5 := Lib.hid hs5
    clear hs5 hM1 hM3 hM5 ho2 ho4 hb1 hb2 hb3 hb4 hb5 hB2 hB3 hB4
    try (have hz3 := Hs3.out; simp at hz3; subst hz3)
    try (have hz5 := Hs5.out; simp at hz5; subst hz5)
    go_wp2_with fail
    refine (awake_ok _).mono ?_
    rintro e w6 ⟨rfl, hb6⟩
    go_wp2
    go_ret
    exact ⟨rfl, below_cut hB5 hb6 (Nat.le_refl _)⟩

theorem ix_over_low {l x : List Int} {p k : Nat} (hp : p ≤ l.length) (h : k < p) : ix (over l p x) k = ix l k := by
  unfold ix over
  simp only [List.getD_eq_getElem?_getD]
  rw [List.append_assoc, List.getElem?_append_left (by rw [List.length_take]; omega), List.getElem?_take_of_lt h]
theorem ix_over_in {l x : List Int} {p k : Nat} (hp : p ≤ l.length) (h : k < x.length) : ix (over l p x) (p + k) = ix x k := by
  unfold ix over
  simp only [List.getD_eq_getElem?_getD]
  rw [List.append_assoc, List.getElem?_append_right (by rw [List.length_take]; omega), List.length_take, Nat.min_eq_left hp, Nat.add_sub_cancel_left, List.getElem?_append_left h]
theorem ix_over_high {l x : List Int} {p k : Nat} (hp : p ≤ l.length) (h : p + x.length ≤ k) : ix (over l p x) k = ix l k := by
  unfold ix over
  simp only [List.getD_eq_getElem?_getD]
  rw [List.append_assoc, List.getElem?_append_right (by rw [List.length_take]; omega), List.length_take, Nat.min_eq_left hp, List.getElem?_append_right (by omega), List.getElem?_drop]
  congr 2
  omega

set_option maxRecDepth 20000 in
set_option maxHeartbeats 4000000 in
theorem keeps_fit (A0 A1 A2 : Option Addr) (n0 n1 n2 c0 c1 c2 : Nat) (l0 l1 l2 : List Int) (p : Nat) (w : World)
    (hn0 : n0 ≤ 35184372087808) (hn1 : n1 ≤ 35184372087808) (hn2 : n2 ≤ 35184372087808) (hu0 : Under 4294967296 l0) (hu1 : Under 4294967296 l1) (hu2 : Under 4294967296 l2) (hr0 : Reads w w.heap.size 1 A0 n0 (Ints .u32 l0)) (hr1 : Reads w w.heap.size 1 A1 n1 (Ints .u32 l1)) (hr2 : Reads w w.heap.size 1 A2 n2 (Ints .u32 l2)) (hp0 : 0 < n0) (hp1 : 0 < n1) (hsum : n0 + n1 ≤ 1048576) (hfit : p + n2 ≤ n0) :
    Calls Try.prog 4 #[.slice A0 n0 c0, .slice A1 n1 c1, .slice A2 n2 c2, .int .i64 p] w fun e w' => e = .returned (.bool true) ∧ Below w.heap.size w w' := by
  have f1 : decide ((0 : Int) ≤ (p : Int)) = true := by simp
  have f2 : decide ((p : Int) ≤ (n0 : Int)) = true := by simp; omega
  have f3 : decide ((n2 : Int) ≤ (n0 : Int) - (p : Int)) = true := by simp; omega
  have z0 : ((n0 : Int) == 0) = false := by rw [beq_eq_false_iff_ne]; omega
  have z1 : ((n1 : Int) == 0) = false := by rw [beq_eq_false_iff_ne]; omega
  have z2 : decide ((1048576 : Int) < (n0 : Int) + (n1 : Int)) = false := by simp; omega
  have e0 := hr0.len
  have e1 := hr1.len
  have e2 := hr2.len
  have E0 := Lib.hid e0
  have E1 := Lib.hid e1
  have E2 := Lib.hid e2
  clear e0 e1 e2
  go_enter Try.func4, Try.ntmps4
  go_wp2_with fail
  refine (mnew_any _).mono ?_
  rintro e w1 ⟨g, rfl, hM1, hb1⟩
  go_wp2_with fail
  refine (copyWords A0 n0 c0 l0 _ hn0 ((hr0.below hb1).more hb1.size)).mono ?_
  rintro e w2 ⟨g2, rfl, ho2, hb2⟩
  have hB2 := below_cut hb1 hb2 (Nat.le_refl _)
  go_wp2_with fail
  refine (make_ok (hM1.below hb2) _ n0 _ l0 hp0 (by rw [total_nil]; omega) hu0 (Reads.of_own ho2)).mono ?_
  rintro e w3 ⟨rfl, A3, c3, b3, hM3, hoff3, hb3, hA3⟩
  have hB3 := hB2.trans ((hM1.below hb2).made_below hoff3)
  go_wp2_with fail
  refine (copyWords A1 n1 c1 l1 _ hn1 ((hr1.below hB3).more hB3.size)).mono ?_
  rintro e w4 ⟨g4, rfl, ho4, hb4⟩
  have hB4 := below_cut hB3 hb4 (Nat.le_refl _)
  have hM4 := hM3.below hb4
  go_wp2_with fail
  refine (make_ok hM4 _ n1 _ l1 hp1 (by rw [List.nil_append, total_one, E0.out]; omega) hu1 (Reads.of_own ho4)).mono ?_
  rintro e w5 ⟨rfl, A5, c5, b5, hM5, hoff5, hb5, hA5⟩
  have hB5 := hB4.trans (hM4.made_below hoff5)
  have hM5' : MemS w5 w.heap.size g A5 2 c5 [b3, b5] [l0, l1] := hM5
  clear hM1 hM3 hM4 hM5 ho2 ho4 hb1 hb2 hb3 hb4 hb5 hB2 hB3 hB4 hoff3 hoff5 hA3 hA5
  go_wp2_with fail
  refine (copyWords A2 n2 c2 l2 _ hn2 ((hr2.below hB5).more hB5.size)).mono ?_
  rintro e w6 ⟨g6, rfl, ho6, hb6⟩
  have hB6 := below_cut hB5 hb6 (Nat.le_refl _)
  have hM6 := hM5'.below hb6
  obtain ⟨L0, hL0⟩ : ∃ L0, L0 = over l0 p l2 := ⟨_, rfl⟩
  go_wp2_with fail
  rw [← E2.out] at ho6 ⊢
  refine (store_ok hM6 0 l0 l2 p _ _ rfl (by rw [E0.out, E2.out]; exact hfit) hu2 (Reads.of_own ho6)).mono ?_
  rintro e w7 ⟨rfl, hM7, hoff7⟩
  rw [E2.out]
  have hB7 := hB6.trans (hM6.off_below hoff7)
  have hM7 : MemS w7 w.heap.size g A5 2 c5 [b3, b5] [L0, l1] := by rw [hL0]; exact hM7
  have HL : Hid (L0.length = n0) := Lib.hid (by rw [hL0, over_length (by rw [E0.out, E2.out]; exact hfit)]; exact E0.out)
  have HX := Lib.hid hL0
  clear hM6 hoff7 hL0 ho6 hb6 hB6 hM5' hB5
  go_wp2_with fail
  refine (load_ok hM7 0 L0 0 n0 rfl (by rw [HL.out]; omega)).mono ?_
  rintro e w8 ⟨A8, c8, rfl, ho8, hb8⟩
  have hB8 := below_cut hB7 hb8 (Nat.le_refl _)
  have hM8 := hM7.below hb8
  rw [List.drop_zero, List.take_of_length_le (by rw [HL.out]; exact Nat.le_refl _)] at ho8
  go_wp2_with fail
  refine (load_ok hM8 1 l1 0 n1 rfl (by rw [E1.out]; omega)).mono ?_
  rintro e w9 ⟨A9, c9, rfl, ho9, hb9⟩
  have hB9 := below_cut hB8 hb9 (Nat.le_refl _)
  rw [List.drop_zero, List.take_of_length_le (by rw [E1.out]; exact Nat.le_refl _)] at ho9
  have ho8' := own_below ho8 hb9
  go_wp2_with fail
  refine (words_same A9 A1 n1 n1 c9 c1 l1 l1 _ (by omega) (Reads.of_own ho9) ((hr1.below hB9).more hB9.size)).mono ?_
  rintro e w10 ⟨rfl, q10, rfl⟩
  rw [sameB_refl]
  have hB10 := below_drewN hB9 q10
  have hx := (Reads.of_own ho8').drewN q10
  have hr0' := hr0.below hB10
  have hr2' := hr2.below hB10
  clear hM7 hM8 hb8 hb9 hB7 hB8 hB9 ho8 ho8' ho9
  go_wp2
  go_loop [20] (fun i => ∃ k : Nat, k ≤ n0 ∧ i = .int .i64 k) (fun i => n0 - (intOf i).toNat)
  case atStart => exact ⟨0, by omega, rfl⟩
  case round =>
    obtain ⟨k, hk, rfl⟩ := hrel
    by_cases hlt : k < n0
    · obtain ⟨ad, rfl, hadb, hc⟩ := hr0'.int_at hlt
      obtain ⟨ad', rfl, hadb', hc'⟩ := hx.int_at hlt
      by_cases q1 : k < p
      · have hq : (ix L0 k != ix l0 k) = false := by rw [HX.out, ix_over_low (by rw [E0.out]; omega) q1]; simp
        have t1 : decide ((p : Int) ≤ (k : Int)) = false := by simp; omega
        go_wp2
        go_round
        case rel => exact ⟨k + 1, by omega, by go_num⟩
        case measure => simp [intOf]; omega
      · by_cases q2 : k < p + n2
        · obtain ⟨j, rfl⟩ := Nat.exists_eq_add_of_le (Nat.le_of_not_lt q1)
          obtain ⟨ad2, rfl, hadb2, hc2⟩ := hr2'.int_at (show j < n2 by omega)
          have hq : (ix L0 (p + j) != ix l2 j) = false := by rw [HX.out, ix_over_in (by rw [E0.out]; omega) (by rw [E2.out]; omega)]; simp
          have t1 : decide ((p : Int) ≤ (p : Int) + (j : Int)) = true := decide_eq_true (by omega)
          have t2 : decide ((p : Int) + (j : Int) < (p : Int) + (n2 : Int)) = true := by simp; omega
          have t3 : (p : Int) + (j : Int) - (p : Int) = (j : Int) := by omega
          go_wp2
          go_round
          case rel => exact ⟨p + j + 1, by omega, by go_num⟩
          case measure => simp [intOf]; omega
        · have hq : (ix L0 k != ix l0 k) = false := by rw [HX.out, ix_over_high (by rw [E0.out]; omega) (by rw [E2.out]; omega)]; simp
          have t1 : decide ((p : Int) ≤ (k : Int)) = true := by simp; omega
          have t2 : decide ((k : Int) < (p : Int) + (n2 : Int)) = false := by simp; omega
          go_wp2
          go_round
          case rel => exact ⟨k + 1, by omega, by go_num⟩
          case measure => simp [intOf]; omega
    · obtain rfl : k = n0 := by omega
      go_wp2_with fail
      refine (awake_ok _).mono ?_
      rintro e w11 ⟨rfl, hb11⟩
      go_wp2
      go_ret
      exact ⟨rfl, below_cut hB10 hb11 (Nat.le_refl _)⟩
set_option maxRecDepth 20000 in
set_option maxHeartbeats 4000000 in
theorem keeps_neg (A0 A1 A2 : Option Addr) (n0 n1 n2 c0 c1 c2 : Nat) (l0 l1 l2 : List Int) (p : Int) (w : World)
    (hn0 : n0 ≤ 35184372087808) (hn1 : n1 ≤ 35184372087808) (hn2 : n2 ≤ 35184372087808) (hu0 : Under 4294967296 l0) (hu1 : Under 4294967296 l1) (hr0 : Reads w w.heap.size 1 A0 n0 (Ints .u32 l0)) (hr1 : Reads w w.heap.size 1 A1 n1 (Ints .u32 l1)) (hr2 : Reads w w.heap.size 1 A2 n2 (Ints .u32 l2)) (hp0 : 0 < n0) (hp1 : 0 < n1) (hsum : n0 + n1 ≤ 1048576) (hpl : -9223372036854775808 ≤ p ∧ p ≤ 9223372036854775807) (hb : p < 0) :
    Calls Try.prog 4 #[.slice A0 n0 c0, .slice A1 n1 c1, .slice A2 n2 c2, .int .i64 p] w fun e w' => e = .returned (.bool true) ∧ Below w.heap.size w w' := by
  have f1 : decide ((0 : Int) ≤ p) = false := by simp; omega
  have z0 : ((n0 : Int) == 0) = false := by rw [beq_eq_false_iff_ne]; omega
  have z1 : ((n1 : Int) == 0) = false := by rw [beq_eq_false_iff_ne]; omega
  have z2 : decide ((1048576 : Int) < (n0 : Int) + (n1 : Int)) = false := by simp; omega
  have e0 := hr0.len
  have e1 := hr1.len
  have e2 := hr2.len
  have E0 := Lib.hid e0
  have E1 := Lib.hid e1
  have E2 := Lib.hid e2
  clear e0 e1 e2
  go_enter Try.func4, Try.ntmps4
  go_wp2_with fail
  refine (mnew_any _).mono ?_
  rintro e w1 ⟨g, rfl, hM1, hb1⟩
  go_wp2_with fail
  refine (copyWords A0 n0 c0 l0 _ hn0 ((hr0.below hb1).more hb1.size)).mono ?_
  rintro e w2 ⟨g2, rfl, ho2, hb2⟩
  have hB2 := below_cut hb1 hb2 (Nat.le_refl _)
  go_wp2_with fail
  refine (make_ok (hM1.below hb2) _ n0 _ l0 hp0 (by rw [total_nil]; omega) hu0 (Reads.of_own ho2)).mono ?_
  rintro e w3 ⟨rfl, A3, c3, b3, hM3, hoff3, hb3, hA3⟩
  have hB3 := hB2.trans ((hM1.below hb2).made_below hoff3)
  go_wp2_with fail
  refine (copyWords A1 n1 c1 l1 _ hn1 ((hr1.below hB3).more hB3.size)).mono ?_
  rintro e w4 ⟨g4, rfl, ho4, hb4⟩
  have hB4 := below_cut hB3 hb4 (Nat.le_refl _)
  have hM4 := hM3.below hb4
  go_wp2_with fail
  refine (make_ok hM4 _ n1 _ l1 hp1 (by rw [List.nil_append, total_one, E0.out]; omega) hu1 (Reads.of_own ho4)).mono ?_
  rintro e w5 ⟨rfl, A5, c5, b5, hM5, hoff5, hb5, hA5⟩
  have hB5 := hB4.trans (hM4.made_below hoff5)
  have hM5' : MemS w5 w.heap.size g A5 2 c5 [b3, b5] [l0, l1] := hM5
  clear hM1 hM3 hM4 hM5 ho2 ho4 hb1 hb2 hb3 hb4 hb5 hB2 hB3 hB4 hoff3 hoff5 hA3 hA5
  go_wp2_with fail
  refine (copyWords A2 n2 c2 l2 _ hn2 ((hr2.below hB5).more hB5.size)).mono ?_
  rintro e w6 ⟨g6, rfl, ho6, hb6⟩
  have hB6 := below_cut hB5 hb6 (Nat.le_refl _)
  have hM6 := hM5'.below hb6
  obtain ⟨L0, hL0⟩ : ∃ L0, L0 = l0 := ⟨_, rfl⟩
  go_wp2_with fail
  refine (store_bad hM6 0 p _ n2 _ (by omega) hpl hn2 (fun ⟨_, _, h, _⟩ => by omega)).mono ?_
  rintro e w7 ⟨rfl, hb7⟩
  have hB7 := below_cut hB6 hb7 (Nat.le_refl _)
  have hM7 : MemS w7 w.heap.size g A5 2 c5 [b3, b5] [L0, l1] := by rw [hL0]; exact hM6.below hb7
  have HL : Hid (L0.length = n0) := Lib.hid (by rw [hL0]; exact E0.out)
  have HX := Lib.hid hL0
  clear hM6 hb7 hL0 ho6 hb6 hB6 hM5' hB5
  go_wp2_with fail
  refine (load_ok hM7 0 L0 0 n0 rfl (by rw [HL.out]; omega)).mono ?_
  rintro e w8 ⟨A8, c8, rfl, ho8, hb8⟩
  have hB8 := below_cut hB7 hb8 (Nat.le_refl _)
  have hM8 := hM7.below hb8
  rw [List.drop_zero, List.take_of_length_le (by rw [HL.out]; exact Nat.le_refl _)] at ho8
  go_wp2_with fail
  refine (load_ok hM8 1 l1 0 n1 rfl (by rw [E1.out]; omega)).mono ?_
  rintro e w9 ⟨A9, c9, rfl, ho9, hb9⟩
  have hB9 := below_cut hB8 hb9 (Nat.le_refl _)
  rw [List.drop_zero, List.take_of_length_le (by rw [E1.out]; exact Nat.le_refl _)] at ho9
  have ho8' := own_below ho8 hb9
  go_wp2_with fail
  refine (words_same A9 A1 n1 n1 c9 c1 l1 l1 _ (by omega) (Reads.of_own ho9) ((hr1.below hB9).more hB9.size)).mono ?_
  rintro e w10 ⟨rfl, q10, rfl⟩
  rw [sameB_refl]
  have hB10 := below_drewN hB9 q10
  have hx := (Reads.of_own ho8').drewN q10
  have hr0' := hr0.below hB10
  clear hM7 hM8 hb8 hb9 hB7 hB8 hB9 ho8 ho8' ho9
  go_wp2
  go_loop [20] (fun i => ∃ k : Nat, k ≤ n0 ∧ i = .int .i64 k) (fun i => n0 - (intOf i).toNat)
  case atStart => exact ⟨0, by omega, rfl⟩
  case round =>
    obtain ⟨k, hk, rfl⟩ := hrel
    by_cases hlt : k < n0
    · obtain ⟨ad, rfl, hadb, hc⟩ := hr0'.int_at hlt
      obtain ⟨ad', rfl, hadb', hc'⟩ := hx.int_at hlt
      have hq : (ix L0 k != ix l0 k) = false := by rw [HX.out]; simp
      go_wp2
      go_round
      case rel => exact ⟨k + 1, by omega, by go_num⟩
      case measure => simp [intOf]; omega
    · obtain rfl : k = n0 := by omega
      go_wp2_with fail
      refine (awake_ok _).mono ?_
      rintro e w11 ⟨rfl, hb11⟩
      go_wp2
      go_ret
      exact ⟨rfl, below_cut hB10 hb11 (Nat.le_refl _)⟩

set_option maxRecDepth 20000 in
set_option maxHeartbeats 4000000 in
theorem keeps_far (A0 A1 A2 : Option Addr) (n0 n1 n2 c0 c1 c2 : Nat) (l0 l1 l2 : List Int) (p : Int) (w : World)
    (hn0 : n0 ≤ 35184372087808) (hn1 : n1 ≤ 35184372087808) (hn2 : n2 ≤ 35184372087808) (hu0 : Under 4294967296 l0) (hu1 : Under 4294967296 l1) (hr0 : Reads w w.heap.size 1 A0 n0 (Ints .u32 l0)) (hr1 : Reads w w.heap.size 1 A1 n1 (Ints .u32 l1)) (hr2 : Reads w w.heap.size 1 A2 n2 (Ints .u32 l2)) (hp0 : 0 < n0) (hp1 : 0 < n1) (hsum : n0 + n1 ≤ 1048576) (hpl : -9223372036854775808 ≤ p ∧ p ≤ 9223372036854775807) (hb : 0 ≤ p) (hb2 : (n0 : Int) < p) :
    Calls Try.prog 4 #[.slice A0 n0 c0, .slice A1 n1 c1, .slice A2 n2 c2, .int .i64 p] w fun e w' => e = .returned (.bool true) ∧ Below w.heap.size w w' := by
  have f1 : decide ((0 : Int) ≤ p) = true := by simpa using hb
  have f2 : decide (p ≤ (n0 : Int)) = false := by simp; omega
  have z0 : ((n0 : Int) == 0) = false := by rw [beq_eq_false_iff_ne]; omega
  have z1 : ((n1 : Int) == 0) = false := by rw [beq_eq_false_iff_ne]; omega
  have z2 : decide ((1048576 : Int) < (n0 : Int) + (n1 : Int)) = false := by simp; omega
  have e0 := hr0.len
  have e1 := hr1.len
  have e2 := hr2.len
  have E0 := Lib.hid e0
  have E1 := Lib.hid e1
  have E2 := Lib.hid e2
  clear e0 e1 e2
  go_enter Try.func4, Try.ntmps4
  go_wp2_with fail
  refine (mnew_any _).mono ?_
  rintro e w1 ⟨g, rfl, hM1, hb1⟩
  go_wp2_with fail
  refine (copyWords A0 n0 c0 l0 _ hn0 ((hr0.below hb1).more hb1.size)).mono ?_
  rintro e w2 ⟨g2, rfl, ho2, hb2⟩
  have hB2 := below_cut hb1 hb2 (Nat.le_refl _)
  go_wp2_with fail
  refine (make_ok (hM1.below hb2) _ n0 _ l0 hp0 (by rw [total_nil]; omega) hu0 (Reads.of_own ho2)).mono ?_
  rintro e w3 ⟨rfl, A3, c3, b3, hM3, hoff3, hb3, hA3⟩
  have hB3 := hB2.trans ((hM1.below hb2).made_below hoff3)
  go_wp2_with fail
  refine (copyWords A1 n1 c1 l1 _ hn1 ((hr1.below hB3).more hB3.size)).mono ?_
  rintro e w4 ⟨g4, rfl, ho4, hb4⟩
  have hB4 := below_cut hB3 hb4 (Nat.le_refl _)
  have hM4 := hM3.below hb4
  go_wp2_with fail
  refine (make_ok hM4 _ n1 _ l1 hp1 (by rw [List.nil_append, total_one, E0.out]; omega) hu1 (Reads.of_own ho4)).mono ?_
  rintro e w5 ⟨rfl, A5, c5, b5, hM5, hoff5, hb5, hA5⟩
  have hB5 := hB4.trans (hM4.made_below hoff5)
  have hM5' : MemS w5 w.heap.size g A5 2 c5 [b3, b5] [l0, l1] := hM5
  clear hM1 hM3 hM4 hM5 ho2 ho4 hb1 hb2 hb3 hb4 hb5 hB2 hB3 hB4 hoff3 hoff5 hA3 hA5
  go_wp2_with fail
  refine (copyWords A2 n2 c2 l2 _ hn2 ((hr2.below hB5).more hB5.size)).mono ?_
  rintro e w6 ⟨g6, rfl, ho6, hb6⟩
  have hB6 := below_cut hB5 hb6 (Nat.le_refl _)
  have hM6 := hM5'.below hb6
  obtain ⟨L0, hL0⟩ : ∃ L0, L0 = l0 := ⟨_, rfl⟩
  go_wp2_with fail
  refine (store_bad hM6 0 p _ n2 _ (by omega) hpl hn2 (fun ⟨_, _, _, _, h⟩ => by simp at h; have := E0.out; omega)).mono ?_
  rintro e w7 ⟨rfl, hb7⟩
  have hB7 := below_cut hB6 hb7 (Nat.le_refl _)
  have hM7 : MemS w7 w.heap.size g A5 2 c5 [b3, b5] [L0, l1] := by rw [hL0]; exact hM6.below hb7
  have HL : Hid (L0.length = n0) := Lib.hid (by rw [hL0]; exact E0.out)
  have HX := Lib.hid hL0
  clear hM6 hb7 hL0 ho6 hb6 hB6 hM5' hB5
  go_wp2_with fail
  refine (load_ok hM7 0 L0 0 n0 rfl (by rw [HL.out]; omega)).mono ?_
  rintro e w8 ⟨A8, c8, rfl, ho8, hb8⟩
  have hB8 := below_cut hB7 hb8 (Nat.le_refl _)
  have hM8 := hM7.below hb8
  rw [List.drop_zero, List.take_of_length_le (by rw [HL.out]; exact Nat.le_refl _)] at ho8
  go_wp2_with fail
  refine (load_ok hM8 1 l1 0 n1 rfl (by rw [E1.out]; omega)).mono ?_
  rintro e w9 ⟨A9, c9, rfl, ho9, hb9⟩
  have hB9 := below_cut hB8 hb9 (Nat.le_refl _)
  rw [List.drop_zero, List.take_of_length_le (by rw [E1.out]; exact Nat.le_refl _)] at ho9
  have ho8' := own_below ho8 hb9
  go_wp2_with fail
  refine (words_same A9 A1 n1 n1 c9 c1 l1 l1 _ (by omega) (Reads.of_own ho9) ((hr1.below hB9).more hB9.size)).mono ?_
  rintro e w10 ⟨rfl, q10, rfl⟩
  rw [sameB_refl]
  have hB10 := below_drewN hB9 q10
  have hx := (Reads.of_own ho8').drewN q10
  have hr0' := hr0.below hB10
  clear hM7 hM8 hb8 hb9 hB7 hB8 hB9 ho8 ho8' ho9
  go_wp2
  go_loop [20] (fun i => ∃ k : Nat, k ≤ n0 ∧ i = .int .i64 k) (fun i => n0 - (intOf i).toNat)
  case atStart => exact ⟨0, by omega, rfl⟩
  case round =>
    obtain ⟨k, hk, rfl⟩ := hrel
    by_cases hlt : k < n0
    · obtain ⟨ad, rfl, hadb, hc⟩ := hr0'.int_at hlt
      obtain ⟨ad', rfl, hadb', hc'⟩ := hx.int_at hlt
      have hq : (ix L0 k != ix l0 k) = false := by rw [HX.out]; simp
      go_wp2
      go_round
      case rel => exact ⟨k + 1, by omega, by go_num⟩
      case measure => simp [intOf]; omega
    · obtain rfl : k = n0 := by omega
      go_wp2_with fail
      refine (awake_ok _).mono ?_
      rintro e w11 ⟨rfl, hb11⟩
      go_wp2
      go_ret
      exact ⟨rfl, below_cut hB10 hb11 (Nat.le_refl _)⟩

set_option maxRecDepth 20000 in
set_option maxHeartbeats 4000000 in
theorem keeps_long (A0 A1 A2 : Option Addr) (n0 n1 n2 c0 c1 c2 : Nat) (l0 l1 l2 : List Int) (p : Int) (w : World)
    (hn0 : n0 ≤ 35184372087808) (hn1 : n1 ≤ 35184372087808) (hn2 : n2 ≤ 35184372087808) (hu0 : Under 4294967296 l0) (hu1 : Under 4294967296 l1) (hr0 : Reads w w.heap.size 1 A0 n0 (Ints .u32 l0)) (hr1 : Reads w w.heap.size 1 A1 n1 (Ints .u32 l1)) (hr2 : Reads w w.heap.size 1 A2 n2 (Ints .u32 l2)) (hp0 : 0 < n0) (hp1 : 0 < n1) (hsum : n0 + n1 ≤ 1048576) (hpl : -9223372036854775808 ≤ p ∧ p ≤ 9223372036854775807) (hb : 0 ≤ p) (hb2 : p ≤ (n0 : Int)) (hb3 : (n0 : Int) - p < (n2 : Int)) :
    Calls Try.prog 4 #[.slice A0 n0 c0, .slice A1 n1 c1, .slice A2 n2 c2, .int .i64 p] w fun e w' => e = .returned (.bool true) ∧ Below w.heap.size w w' := by
  have f1 : decide ((0 : Int) ≤ p) = true := by simpa using hb
  have f2 : decide (p ≤ (n0 : Int)) = true := by simpa using hb2
  have f3 : decide ((n2 : Int) ≤ (n0 : Int) - p) = false := by simp; omega
  have z0 : ((n0 : Int) == 0) = false := by rw [beq_eq_false_iff_ne]; omega
  have z1 : ((n1 : Int) == 0) = false := by rw [beq_eq_false_iff_ne]; omega
  have z2 : decide ((1048576 : Int) < (n0 : Int) + (n1 : Int)) = false := by simp; omega
  have e0 := hr0.len
  have e1 := hr1.len
  have e2 := hr2.len
  have E0 := Lib.hid e0
  have E1 := Lib.hid e1
  have E2 := Lib.hid e2
  clear e0 e1 e2
  go_enter Try.func4, Try.ntmps4
  go_wp2_with fail
  refine (mnew_any _).mono ?_
  rintro e w1 ⟨g, rfl, hM1, hb1⟩
  go_wp2_with fail
  refine (copyWords A0 n0 c0 l0 _ hn0 ((hr0.below hb1).more hb1.size)).mono ?_
  rintro e w2 ⟨g2, rfl, ho2, hb2⟩
  have hB2 := below_cut hb1 hb2 (Nat.le_refl _)
  go_wp2_with fail
  refine (make_ok (hM1.below hb2) _ n0 _ l0 hp0 (by rw [total_nil]; omega) hu0 (Reads.of_own ho2)).mono ?_
  rintro e w3 ⟨rfl, A3, c3, b3, hM3, hoff3, hb3, hA3⟩
  have hB3 := hB2.trans ((hM1.below hb2).made_below hoff3)
  go_wp2_with fail
  refine (copyWords A1 n1 c1 l1 _ hn1 ((hr1.below hB3).more hB3.size)).mono ?_
  rintro e w4 ⟨g4, rfl, ho4, hb4⟩
  have hB4 := below_cut hB3 hb4 (Nat.le_refl _)
  have hM4 := hM3.below hb4
  go_wp2_with fail
  refine (make_ok hM4 _ n1 _ l1 hp1 (by rw [List.nil_append, total_one, E0.out]; omega) hu1 (Reads.of_own ho4)).mono ?_
  rintro e w5 ⟨rfl, A5, c5, b5, hM5, hoff5, hb5, hA5⟩
  have hB5 := hB4.trans (hM4.made_below hoff5)
  have hM5' : MemS w5 w.heap.size g A5 2 c5 [b3, b5] [l0, l1] := hM5
  clear hM1 hM3 hM4 hM5 ho2 ho4 hb1 hb2 hb3 hb4 hb5 hB2 hB3 hB4 hoff3 hoff5 hA3 hA5
  go_wp2_with fail
  refine (copyWords A2 n2 c2 l2 _ hn2 ((hr2.below hB5).more hB5.size)).mono ?_
  rintro e w6 ⟨g6, rfl, ho6, hb6⟩
  have hB6 := below_cut hB5 hb6 (Nat.le_refl _)
  have hM6 := hM5'.below hb6
  obtain ⟨L0, hL0⟩ : ∃ L0, L0 = l0 := ⟨_, rfl⟩
  go_wp2_with fail
  refine (store_bad hM6 0 p _ n2 _ (by omega) hpl hn2 (fun ⟨_, _, _, _, h⟩ => by simp at h; have := E0.out; omega)).mono ?_
  rintro e w7 ⟨rfl, hb7⟩
  have hB7 := below_cut hB6 hb7 (Nat.le_refl _)
  have hM7 : MemS w7 w.heap.size g A5 2 c5 [b3, b5] [L0, l1] := by rw [hL0]; exact hM6.below hb7
  have HL : Hid (L0.length = n0) := Lib.hid (by rw [hL0]; exact E0.out)
  have HX := Lib.hid hL0
  clear hM6 hb7 hL0 ho6 hb6 hB6 hM5' hB5
  go_wp2_with fail
  refine (load_ok hM7 0 L0 0 n0 rfl (by rw [HL.out]; omega)).mono ?_
  rintro e w8 ⟨A8, c8, rfl, ho8, hb8⟩
  have hB8 := below_cut hB7 hb8 (Nat.le_refl _)
  have hM8 := hM7.below hb8
  rw [List.drop_zero, List.take_of_length_le (by rw [HL.out]; exact Nat.le_refl _)] at ho8
  go_wp2_with fail
  refine (load_ok hM8 1 l1 0 n1 rfl (by rw [E1.out]; omega)).mono ?_
  rintro e w9 ⟨A9, c9, rfl, ho9, hb9⟩
  have hB9 := below_cut hB8 hb9 (Nat.le_refl _)
  rw [List.drop_zero, List.take_of_length_le (by rw [E1.out]; exact Nat.le_refl _)] at ho9
  have ho8' := own_below ho8 hb9
  go_wp2_with fail
  refine (words_same A9 A1 n1 n1 c9 c1 l1 l1 _ (by omega) (Reads.of_own ho9) ((hr1.below hB9).more hB9.size)).mono ?_
  rintro e w10 ⟨rfl, q10, rfl⟩
  rw [sameB_refl]
  have hB10 := below_drewN hB9 q10
  have hx := (Reads.of_own ho8').drewN q10
  have hr0' := hr0.below hB10
  clear hM7 hM8 hb8 hb9 hB7 hB8 hB9 ho8 ho8' ho9
  go_wp2
  go_loop [20] (fun i => ∃ k : Nat, k ≤ n0 ∧ i = .int .i64 k) (fun i => n0 - (intOf i).toNat)
  case atStart => exact ⟨0, by omega, rfl⟩
  case round =>
    obtain ⟨k, hk, rfl⟩ := hrel
    by_cases hlt : k < n0
    · obtain ⟨ad, rfl, hadb, hc⟩ := hr0'.int_at hlt
      obtain ⟨ad', rfl, hadb', hc'⟩ := hx.int_at hlt
      have hq : (ix L0 k != ix l0 k) = false := by rw [HX.out]; simp
      go_wp2
      go_round
      case rel => exact ⟨k + 1, by omega, by go_num⟩
      case measure => simp [intOf]; omega
    · obtain rfl : k = n0 := by omega
      go_wp2_with fail
      refine (awake_ok _).mono ?_
      rintro e w11 ⟨rfl, hb11⟩
      go_wp2
      go_ret
      exact ⟨rfl, below_cut hB10 hb11 (Nat.le_refl _)⟩

theorem law_keeps (A0 A1 A2 : Option Addr) (n0 n1 n2 c0 c1 c2 : Nat) (l0 l1 l2 : List Int) (p : Int) (w : World)
    (hn0 : n0 ≤ 35184372087808) (hn1 : n1 ≤ 35184372087808) (hn2 : n2 ≤ 35184372087808) (hu0 : Under 4294967296 l0) (hu1 : Under 4294967296 l1) (hu2 : Under 4294967296 l2) (hr0 : Reads w w.heap.size 1 A0 n0 (Ints .u32 l0)) (hr1 : Reads w w.heap.size 1 A1 n1 (Ints .u32 l1)) (hr2 : Reads w w.heap.size 1 A2 n2 (Ints .u32 l2)) (hpl : -9223372036854775808 ≤ p) (hph : p ≤ 9223372036854775807) :
    Calls Try.prog 4 #[.slice A0 n0 c0, .slice A1 n1 c1, .slice A2 n2 c2, .int .i64 p] w fun e w' => e = .returned (.bool true) ∧ Below w.heap.size w w' := by
  by_cases h : n0 = 0 ∨ n1 = 0 ∨ 1048576 < n0 + n1
  · exact keeps_not A0 A1 A2 n0 n1 n2 c0 c1 c2 l0 l1 p w hn0 hn1 hu0 hu1 hr0 hr1 h
  · by_cases b1 : p < 0
    · exact keeps_neg A0 A1 A2 n0 n1 n2 c0 c1 c2 l0 l1 l2 p w hn0 hn1 hn2 hu0 hu1 hr0 hr1 hr2 (by omega) (by omega) (by omega) ⟨hpl, hph⟩ b1
    · by_cases b2 : (n0 : Int) < p
      · exact keeps_far A0 A1 A2 n0 n1 n2 c0 c1 c2 l0 l1 l2 p w hn0 hn1 hn2 hu0 hu1 hr0 hr1 hr2 (by omega) (by omega) (by omega) ⟨hpl, hph⟩ (by omega) b2
      · by_cases b3 : (n0 : Int) - p < (n2 : Int)
        · exact keeps_long A0 A1 A2 n0 n1 n2 c0 c1 c2 l0 l1 l2 p w hn0 hn1 hn2 hu0 hu1 hr0 hr1 hr2 (by omega) (by omega) (by omega) ⟨hpl, hph⟩ (by omega) (by omega) b3
        · obtain ⟨q, rfl⟩ := Int.eq_ofNat_of_zero_le (show 0 ≤ p by omega)
          exact keeps_fit A0 A1 A2 n0 n1 n2 c0 c1 c2 l0 l1 l2 q w hn0 hn1 hn2 hu0 hu1 hu2 hr0 hr1 hr2 (by omega) (by omega) (by omega) (by omega)
end Go.Proofs.Ytfkeogaagolnoaa
