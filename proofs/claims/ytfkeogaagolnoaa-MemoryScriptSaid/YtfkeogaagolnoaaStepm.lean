/- Walks: the statements' helper step: a call of both. -/
import Derived.Test.YtfkeogaagolnoaaSames
import Derived.Deep.RegionLaw
namespace Go.Proofs.Ytfkeogaagolnoaa
open Go.RowKit

theorem Off.trans_new {S T : Nat → Prop} {a b c : World} (h : Off S a b) (k : Off T b c) (hT : ∀ q, T q → a.heap.size ≤ q) : Off S a c :=
  ⟨k.os.trans h.os, k.tape.trans h.tape, k.output.trans h.output, Nat.le_trans h.size k.size, fun q hq hn => (k.block q (Nat.lt_of_lt_of_le hq h.size) (fun ht => by have := hT q ht; omega)).trans (h.block q hq hn)⟩
/-- both hold the same, apart from one another; what was not theirs has not turned -/
def Both (w : World) (base gm gw : Nat) (Fm Fw : Nat → Prop) (w' : World) : Prop :=
  ∃ ls' Fm' Fw', MA w' base gm Fm' ls' ∧ RA w' base gw Fw' ls' ∧ Off (fun k => Fm k ∨ Fw k) w w' ∧ Grows w Fm Fm' ∧ Grows w Fw Fw' ∧ Apart Fm' Fw'
section
variable {w : World} {base gm gw : Nat} {Fm Fw : Nat → Prop} {ls : List (List Int)}
/-- what lies past all that both have -/
theorem past_m (h : MA w base gm Fm ls) {k : Nat} (hk : w.heap.size ≤ k) : ¬ Fm k := fun hf => by have := (h.lt hf).2; omega
theorem past_r (h : RA w base gw Fw ls) {k : Nat} (hk : w.heap.size ≤ k) : ¬ Fw k := fun hf => by have := (h.lt hf).2; omega
theorem apart_grow {F G G' : Nat → Prop} {w : World} (h : Apart F G) (hF : ∀ k, F k → k < w.heap.size) (hg : Grows w G G') : Apart F G' := fun k hf hg' => by
  rcases hg k hg' with h1 | h1
  · exact h k hf h1
  · have := hF k hf; omega
theorem both_mr {wd w5 w7 : World} {L : List (List Int)} {Fm5 Fw7 : Nat → Prop} (h0 : Off (fun k => Fm k ∨ Fw k) w wd) (hm5 : MA w5 base gm Fm5 L) (ho5 : Off Fm wd w5) (hg5 : Grows wd Fm Fm5) (hr7 : RA w7 base gw Fw7 L) (ho7 : Off Fw w5 w7) (hg7 : Grows w5 Fw Fw7)
    (hap : Apart Fm Fw) (hFw : ∀ k, Fw k → k < w.heap.size) : Both w base gm gw Fm Fw w7 := by
  have s0 := h0.size
  have s5 := ho5.size
  have hap5 : Apart Fm5 Fw := fun k h1 h2 => by
    rcases hg5 k h1 with h3 | h3
    · exact hap k h3 h2
    · have := hFw k h2; omega
  refine ⟨L, Fm5, Fw7, hm5.off ho7 hap5, hr7, (h0.trans (ho5.mono (fun k _ hk => .inl hk))).trans (ho7.mono (fun k _ hk => .inr hk)), hg5.from_ s0, hg7.from_ (by omega), apart_grow hap5 (fun k hk => (hm5.lt hk).2) hg7⟩
theorem both_rm {wd w5 w7 : World} {L : List (List Int)} {Fw5 Fm7 : Nat → Prop} (h0 : Off (fun k => Fm k ∨ Fw k) w wd) (hr5 : RA w5 base gw Fw5 L) (ho5 : Off Fw wd w5) (hg5 : Grows wd Fw Fw5) (hm7 : MA w7 base gm Fm7 L) (ho7 : Off Fm w5 w7) (hg7 : Grows w5 Fm Fm7)
    (hap : Apart Fm Fw) (hFm : ∀ k, Fm k → k < w.heap.size) : Both w base gm gw Fm Fw w7 := by
  have s0 := h0.size
  have s5 := ho5.size
  have hap5 : Apart Fw5 Fm := fun k h1 h2 => by
    rcases hg5 k h1 with h3 | h3
    · exact hap k h2 h3
    · have := hFm k h2; omega
  refine ⟨L, Fm7, Fw5, hm7, hr5.off ho7 hap5, (h0.trans (ho5.mono (fun k _ hk => .inr hk))).trans (ho7.mono (fun k _ hk => .inl hk)), hg7.from_ (by omega), hg5.from_ s0, (apart_grow hap5 (fun k hk => (hr5.lt hk).2) hg7).symm⟩
set_option maxRecDepth 20000 in
set_option maxHeartbeats 2000000 in
theorem step_any (h : MA w base gm Fm ls) (h' : RA w base gw Fw ls) (hap : Apart Fm Fw) (what room at_ N : Int) (A : Option Addr) (n c : Nat) (l : List Int) (hW : 0 ≤ what ∧ what ≤ 3) (hroom : i64 room) (hat : i64 at_) (hN : i64 N)
    (hn : n ≤ 35184372087808) (hu : Under 4294967296 l) (hr : Reads w base 1 A n (Ints .u32 l)) :
    Calls Try.prog 16 #[.pointer (some ⟨gm, 0, none⟩), .pointer (some ⟨gw, 0, none⟩), .agg #[.int .i64 what, .int .i64 room, .int .i64 at_, .int .i64 N, .slice A n c]] w fun e w' => e = .returned (.bool true) ∧ Both w base gm gw Fm Fw w' := by
  have hbase := h.base_le'
  have hb1 := (Below.refl w.heap.size w).alloc (Nat.le_refl _) (.cells #[.int .i64 what, .int .i64 room, .int .i64 at_, .int .i64 N, .slice A n c] 44)
  have kc1 := Blk.new w 44 #[.int .i64 what, .int .i64 room, .int .i64 at_, .int .i64 N, .slice A n c]
  have hr1 := (hr.more hbase).below hb1
  have hll := hr.len
  obtain ⟨p0, p1, p2, p3, p4⟩ : _ ∧ _ ∧ _ ∧ _ ∧ _ := ⟨kc1.cell 0, kc1.cell 1, kc1.cell 2, kc1.cell 3, kc1.cell 4⟩
  simp at p0 p1 p2 p3 p4
  have hc1 := copyWords A n c l (w.alloc (.cells #[.int .i64 what, .int .i64 room, .int .i64 at_, .int .i64 N, .slice A n c] 44)) hn (hr1.more hb1.size)
  have hm1 := h.below hb1
  have hr1' := h'.below hb1
  go_enter Try.func16, Try.ntmps16
  go_wp2_with fail
  have hsz1 : (w.alloc (.cells #[.int .i64 what, .int .i64 room, .int .i64 at_, .int .i64 N, .slice A n c] 44)).heap.size = w.heap.size + 1 := by simp
  generalize w.alloc (.cells #[.int .i64 what, .int .i64 room, .int .i64 at_, .int .i64 N, .slice A n c] 44) = w1 at *
  refine hc1.mono ?_
  rintro e w2 ⟨gq, rfl, hw2, hb2⟩
  have hm2 := hm1.below hb2
  have hq := hw2.lt gq rfl
  have hr2 := hr1'.below hb2
  have kc2 := kc1.below hb2 kc1.lt
  have hB2 := below_cut hb1 hb2 (Nat.le_refl _)
  have hFm : ∀ k, Fm k → k < w.heap.size := fun k hk => (h.lt hk).2
  have hFw : ∀ k, Fw k → k < w.heap.size := fun k hk => (h'.lt hk).2
  have hrl2 : Reads w2 w2.heap.size 1 A n (Ints .u32 l) := ((hr.more hbase).below hB2).more hB2.size
  clear p0 p1 p2 p3 p4 hc1 hm1 hr1' hb1 hr1 kc1
  obtain ⟨p0, p1, p2, p3, p4⟩ : _ ∧ _ ∧ _ ∧ _ ∧ _ := ⟨kc2.cell 0, kc2.cell 1, kc2.cell 2, kc2.cell 3, kc2.cell 4⟩
  simp at p0 p1 p2 p3 p4
  have hs2 := hb2.size
  rcases (by omega : what = 0 ∨ what = 1 ∨ what = 2 ∨ what = 3) with rfl | rfl | rfl | rfl
  · go_wp2_with fail
    refine (hr2.make A n c l hu hrl2).mono ?_
    rintro e w3 ⟨rfl, Fw3, hr3, ho3, hg3⟩
    have hm3 := hm2.off ho3 hap
    have hw3 := own_off hw2 ho3 (fun k hk hf => by cases hk; have : gq < _ := hFw _ hf; omega)
    have hs3 := ho3.size
    go_wp2_with fail
    refine (hm3.make _ n n l hn hu (Reads.of_own hw3)).mono ?_
    rintro e w4 ⟨rfl, Fm4, hm4, ho4, hg4⟩
    have hap3 : Apart Fw3 Fm := (apart_grow hap (fun k hk => by have := hFm k hk; omega) hg3).symm
    have hr4 := hr3.off ho4 hap3
    have hw4 := own_off hw3 ho4 (fun k hk hf => by cases hk; have : gq < _ := hFm _ hf; omega)
    have hs4 := ho4.size
    go_wp2_with fail
    refine (spoil_row _ n n w1.heap.size _ w4 hn hw4).mono ?_
    rintro e w5 ⟨rfl, ho5⟩
    go_wp2_with fail
    go_ret
    have hgq : ∀ k, some k = (Value.slice (some ⟨gq, 0, none⟩) n n).ownBlock → k = gq := fun k hk => by cases hk; rfl
    refine ⟨rfl, _, Fm4, Fw3, hm4.off ho5 (fun k hf hk => ?_), hr4.off ho5 (fun k hf hk => ?_), ?_, hg4.from_ (by omega), hg3.from_ (by omega), ?_⟩
    · have := hgq k hk
      rcases hg4 k hf with h1 | h1
      · have := hFm k h1; omega
      · omega
    · have := hgq k hk
      rcases hg3 k hf with h1 | h1
      · have := hFw k h1; omega
      · omega
    · exact (((Off.of_below _ hB2).trans (ho3.mono (fun k _ hk => .inr hk))).trans (ho4.mono (fun k _ hk => .inl hk))).trans_new ho5 (fun k hk => by have := hgq k hk; omega)
    · exact (apart_grow hap3 (fun k hk => (hr3.lt hk).2) hg4).symm
  · have hld := hr2.load room at_ N hroom hat hN
    have hld2 := fun (w' : World) (hb : Below w2.heap.size w2 w') => (hm2.below hb).load room at_ N hroom hat hN
    go_wp2_with fail
    refine hld.mono ?_
    rintro e w3 ⟨A3, n3, c3, er, x, rfl, hx, hn3, ho3, hb3⟩
    have kc3 := kc2.below hb3 kc2.lt
    clear p0 p1 p2 p3 p4
    obtain ⟨p0, p1, p2, p3, p4⟩ : _ ∧ _ ∧ _ ∧ _ ∧ _ := ⟨kc3.cell 0, kc3.cell 1, kc3.cell 2, kc3.cell 3, kc3.cell 4⟩
    simp at p0 p1 p2 p3 p4
    go_wp2_with fail
    refine (hld2 w3 hb3).mono ?_
    rintro e w4 ⟨A4, n4, c4, er', x', rfl, hx', hn4, ho4, hb4⟩
    obtain ⟨rfl, rfl⟩ := hx.one hx'
    have ho34 := own_below ho3 hb4
    have hB4 := below_cut (below_cut hB2 hb3 (Nat.le_refl _)) hb4 (Nat.le_refl _)
    go_wp2_with fail
    refine (words_same A4 A3 _ _ c4 c3 _ _ w4 (by omega) (Reads.of_own ho4) (Reads.of_own ho34)).mono ?_
    rintro e w5 ⟨rfl, hd5⟩
    rw [sameB_refl]
    have hB5 := below_cut hB4 (hd5.below _) (Nat.le_refl _)
    go_wp2_with fail
    go_ret
    exact ⟨rfl, ls, Fm, Fw, h.below hB5, h'.below hB5, Off.of_below _ hB5, Grows.refl _ _, Grows.refl _ _, hap⟩
  · subst hll
    have hst := hr2.store room at_ A c l hroom hat hn hu ((hr.below ((hB2.mono hbase))))
    go_wp2_with fail
    refine hst.mono ?_
    rintro e w3 ⟨er, ls3, rfl, hx, hr3, ho3⟩
    have hm3 := hm2.off ho3 hap
    have hw3 := own_off hw2 ho3 (fun k hk hf => by cases hk; have : gq < _ := hFw _ hf; omega)
    have hs3 := ho3.size
    have kc3 := kc2.off ho3 (fun hf => by have := hFw _ hf; omega)
    clear p0 p1 p2 p3 p4
    obtain ⟨p0, p1, p2, p3, p4⟩ : _ ∧ _ ∧ _ ∧ _ ∧ _ := ⟨kc3.cell 0, kc3.cell 1, kc3.cell 2, kc3.cell 3, kc3.cell 4⟩
    simp at p0 p1 p2 p3 p4
    go_wp2_with fail
    refine (hm3.store room at_ _ _ l hroom hat hn hu (Reads.of_own hw3)).mono ?_
    rintro e w4 ⟨er', ls4, rfl, hx', hm4, ho4⟩
    obtain ⟨rfl, rfl⟩ := hx.one hx'
    have hr4 := hr3.off ho4 hap.symm
    have hw4 := own_off hw3 ho4 (fun k hk hf => by cases hk; have : gq < _ := hFm _ hf; omega)
    have hs4 := ho4.size
    have kc4 := kc3.off ho4 (fun hf => by have := hFm _ hf; omega)
    have hoB : Off (fun k => Fm k ∨ Fw k) w w4 := ((Off.of_below _ hB2).trans (ho3.mono (fun k _ hk => .inr hk))).trans (ho4.mono (fun k _ hk => .inl hk))
    have hrl4 : Reads w4 base 1 A l.length (Ints .u32 l) := by
      rcases Nat.eq_zero_or_pos l.length with h0 | h0
      · exact ⟨hr.1, fun h1 => absurd h1 (by omega)⟩
      · refine hr.off hoB hbase (fun a ha hf => ?_)
        obtain ⟨a', e', hlt', _⟩ := hr.2 h0
        rw [ha] at e'
        cases e'
        rcases hf with hf | hf
        · have := (h.lt hf).1; omega
        · have := (h'.lt hf).1; omega
    clear p0 p1 p2 p3 p4
    obtain ⟨p0, p1, p2, p3, p4⟩ : _ ∧ _ ∧ _ ∧ _ ∧ _ := ⟨kc4.cell 0, kc4.cell 1, kc4.cell 2, kc4.cell 3, kc4.cell 4⟩
    simp at p0 p1 p2 p3 p4
    go_wp2_with fail
    refine (words_same _ A _ _ _ c l l w4 (by omega) (Reads.of_own hw4) (hrl4.more (by have := hm4.base_le'; omega))).mono ?_
    rintro e w5 ⟨rfl, hd5⟩
    rw [sameB_refl]
    have hw5 := own_below hw4 (hd5.below _)
    have hm5 := hm4.below (hd5.below _)
    have hr5 := hr4.below (hd5.below _)
    have hs5 := (hd5.below w4.heap.size).size
    go_wp2_with fail
    refine (spoil_row _ _ _ w1.heap.size _ w5 hn hw5).mono ?_
    rintro e w6 ⟨rfl, ho6⟩
    have hgq : ∀ k, some k = (Value.slice (some ⟨gq, 0, none⟩) l.length l.length).ownBlock → k = gq := fun k hk => by cases hk; rfl
    go_wp2_with fail
    go_ret
    refine ⟨rfl, _, Fm, Fw, hm5.off ho6 (fun k hf hk => by have := hgq k hk; have := hFm k hf; omega), hr5.off ho6 (fun k hf hk => by have := hgq k hk; have := hFw k hf; omega), ?_, Grows.refl _ _, Grows.refl _ _, hap⟩
    exact (hoB.trans (Off.of_below _ (hd5.below _))).trans_new ho6 (fun k hk => by have := hgq k hk; omega)
  · have hmd := hm2.below (Below.refl w2.heap.size w2).drew
    have hrd := hr2.below (Below.refl w2.heap.size w2).drew
    have kcd := kc2.drew
    have hBd := hB2.drew
    have hof0 : Off (fun k => Fm k ∨ Fw k) w w2.drew := Off.of_below _ hBd
    go_wp2_with fail
    clear p0 p2 p3 p4
    go_region_law (first
      | (go_simp; go_at_call 21; refine (hm6.drop room).mono ?_; rintro e w7 ⟨rfl, Fm7, hm7, ho7, hg7⟩)
      | (go_simp; go_at_call 32; refine (hr5.drop room).mono ?_; rintro e w7 ⟨rfl, Fw7, hr7, ho7, hg7⟩)
      | (go_simp; go_at_call 21; refine (hmd.drop room).mono ?_; rintro e w5 ⟨rfl, Fm5, hm5, ho5, hg5⟩; have hr5 := hrd.off ho5 hap.symm; have kc5 := kcd.off ho5 (fun hf => by have := hFm _ hf; omega); have j1 := kc5.cell 1; simp at j1)
      | (go_simp; go_at_call 32; refine (hrd.drop room).mono ?_; rintro e w6 ⟨rfl, Fw6, hr6, ho6, hg6⟩; have hm6 := hmd.off ho6 hap; have kc6 := kcd.off ho6 (fun hf => by have := hFw _ hf; omega); have j1 := kc6.cell 1; simp at j1))
    all_goals
      have hfin : Both w base gm gw Fm Fw w7 := by first | exact both_mr hof0 hm5 ho5 hg5 hr7 ho7 hg7 hap hFw | exact both_rm hof0 hr6 ho6 hg6 hm7 ho7 hg7 hap hFm
      go_wp2_with fail
      go_ret
      exact ⟨rfl, hfin⟩
end
end Go.Proofs.Ytfkeogaagolnoaa
