/- Walks: a row of two words; whether a small memory works. -/
import Derived.Test.YtfkeogaagolnoaaLoad
namespace Go.Proofs.Ytfkeogaagolnoaa
open Go.RowKit

theorem row_any (a b : Int) (w : World) :
    Calls Try.prog 23 #[.int .u32 a, .int .u32 b] w fun e w' => ∃ A', e = .returned (.slice A' 2 2) ∧ w'.ownsRow w.heap.size 36 1 (.slice A' 2 2) 2 (Ints .u32 [a, b]) ∧ Below w.heap.size w w' := by
  go_enter Try.func23, Try.ntmps23
  go_wp2_with (at_make; refine mk_full sl32 rfl _ rfl _ _ rfl w.heap.size 2 rfl rfl rfl rfl (by omega) (by omega) (Nat.le_refl _) ?_; intro w1 hown hgr; rw [← Ints_replicate] at hown; have hb := (Below.refl w.heap.size w).grown hgr (Nat.le_refl _) (fun _ h => by cases h); have p0 := own_int_at hown (k := 0) (by omega); have o1 := own_int_set hown 0 a; have q1 := own_int_at o1 (k := 1) (by omega); have o2 := own_int_set o1 1 b; have f0 := hown.frozenAt 0; have f2 := o1.frozenAt 1)
  go_ret
  exact ⟨_, rfl, o2, (hb.setCell (Nat.le_refl _) _).setCell (Nat.le_refl _) _⟩

theorem MemS.base_le {w : World} {base g n c : Nat} {A : Option Addr} {bs : List (Nat × Nat)} {ls : List (List Int)} (h : MemS w base g A n c bs ls) : base ≤ w.heap.size := Nat.le_of_lt (Nat.lt_of_le_of_lt h.low h.blk.lt)
theorem MemS.off_below {w w' : World} {base g n c : Nat} {A : Option Addr} {bs : List (Nat × Nat)} {ls : List (List Int)} (h : MemS w base g A n c bs ls) (ho : Off (fun k => foot g A bs k) w w') : Below base w w' :=
  ho.to_below _ h.base_le fun _ _ hk => (h.foot_lt hk).1
theorem MemS.made_below {w w' : World} {base g n c : Nat} {A : Option Addr} {bs : List (Nat × Nat)} {ls : List (List Int)} (h : MemS w base g A n c bs ls) (ho : Off (fun k => k = g ∨ some k = A.map (·.block)) w w') : Below base w w' :=
  h.off_below (ho.mono fun k _ hk => by
    rcases hk with hk | hk
    · exact .inl hk
    · rcases A with _ | a
      · cases hk
      · simp at hk; exact .inr (.inl ⟨a, rfl, hk⟩))

set_option maxHeartbeats 1000000 in
theorem awake_ok (w : World) : Calls Try.prog 7 #[] w fun e w' => e = .returned (.bool true) ∧ Below w.heap.size w w' := by
  have hcut : ∀ (A : Option Addr), (2 : Nat) = 2 := fun _ => rfl
  go_enter Try.func7, Try.ntmps7
  go_wp2_with fail
  refine (mnew_any _).mono ?_
  rintro e w1 ⟨g, rfl, hM, hb1⟩
  go_wp2_with fail
  refine (row_any 5 6 _).mono ?_
  rintro e w2 ⟨A2, rfl, ho2, hb2⟩
  have hM2 := hM.below hb2
  have hB2 := hb1.trans (hb2.mono hb1.size)
  go_wp2_with fail
  refine (make_ok hM2 A2 2 2 [5, 6] (by omega) (by simp [total_nil]) (by intro x hx; simp at hx; omega) (Reads.of_own ho2)).mono ?_
  rintro e w3 ⟨rfl, A3, c3, b3, hM3, hoff3, hb3, hA3⟩
  have hB3 := hB2.trans (hM2.made_below hoff3)
  clear hM hM2 ho2 hb1 hb2 hB2 hoff3 hb3 hA3
  go_wp2_with fail
  refine (row_any 7 8 _).mono ?_
  rintro e w4 ⟨A4, rfl, ho4, hb4⟩
  have hM4 := hM3.below hb4
  have hB4 := hB3.trans (hb4.mono (Nat.le_trans hB3.size (Nat.le_refl _)))
  have hr4 := (Reads.of_own ho4).prefix_ (m := 1) (by omega)
  rw [← Ints_take] at hr4
  go_wp2_with fail
  refine (store_ok hM4 0 [5, 6] [7] 1 A4 2 rfl (by simp) (by intro x hx; simp at hx; omega) hr4).mono ?_
  rintro e w5 ⟨rfl, hM5, hoff5⟩
  have hB5 := hB4.trans (hM4.off_below hoff5)
  clear hM3 hM4 ho4 hb4 hB3 hB4 hoff5 hr4
  go_wp2_with fail
  refine (load_ok hM5 0 [5, 7] 0 2 rfl (by simp)).mono ?_
  rintro e w6 ⟨A6, c6, rfl, ho6, hb6⟩
  have hM6 := hM5.below hb6
  have hB6 := hB5.trans (hb6.mono hB5.size)
  go_wp2_with fail
  refine (row_any 5 7 _).mono ?_
  rintro e w7 ⟨A7, rfl, ho7, hb7⟩
  have hM7 := hM6.below hb7
  have hB7 := hB6.trans (hb7.mono hB6.size)
  have ho6' := own_below ho6 hb7
  go_wp2_with fail
  refine (words_same A6 A7 2 2 c6 2 [5, 7] [5, 7] _ (by omega) (Reads.of_own ho6') (Reads.of_own ho7)).mono ?_
  rintro e w8 ⟨rfl, hd8⟩
  rw [sameB_refl]
  obtain ⟨q8, rfl⟩ := hd8
  have hM8 := hM7.drewN q8
  have hB8 := below_drewN hB7 q8
  clear hM5 hM6 hM7 ho6 ho6' ho7 hb6 hb7 hB5 hB6 hB7
  go_wp2_with fail
  refine (mlen_any hM8).mono ?_
  rintro e w9 ⟨rfl, rfl⟩
  go_wp2_with fail
  refine (msize_any hM8).mono ?_
  rintro e w9 ⟨rfl, rfl⟩
  go_wp2
  go_ret
  exact ⟨rfl, hB8⟩
end Go.Proofs.Ytfkeogaagolnoaa
