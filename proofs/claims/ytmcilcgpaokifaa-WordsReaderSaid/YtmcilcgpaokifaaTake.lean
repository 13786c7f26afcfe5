/- Walks: take, and what stands on it. -/
import Derived.Test.YtmcilcgpaokifaaReader
import Derived.Deep.RegionHeld3
namespace Go.Proofs.Ytmcilcgpaokifaa
open Go.RowKit

/-- so many words were taken: they lie in a row of their own; the reader stands behind them; nothing else has turned -/
def Took (w : World) (base g : Nat) (A : Option Addr) (n c : Nat) (l : List Int) (p m : Nat) (s : ByteArray) (e : Ending) (w' : World) : Prop :=
  ∃ A' c', e = .returned (.tuple #[.slice A' m c', .string s, .int .i64 0]) ∧ w'.ownsRow w.heap.size 28 1 (.slice A' m c') m (Ints .u32 ((l.drop p).take m)) ∧ Rdr w' base g A n c l (p + m) ∧ w.grownBy w' (some g)
/-- nothing was taken -/
def Left (w : World) (k : Int) (e : Ending) (w' : World) : Prop := e = .returned (.tuple #[.slice none 0 0, .string ⟨#[]⟩, .int .i64 k]) ∧ Below w.heap.size w w'

theorem Rdr.lt {w : World} {base g : Nat} {A : Option Addr} {n c : Nat} {l : List Int} {p : Nat} (h : Rdr w base g A n c l p) : g < w.heap.size := h.blk.lt
theorem Rdr.drewN {w : World} {base g : Nat} {A : Option Addr} {n c : Nat} {l : List Int} {p : Nat} (h : Rdr w base g A n c l p) (m : Nat) : Rdr (w.drewN m) base g A n c l p := ⟨h.blk.drewN m, h.row, h.low, h.le⟩
theorem Rdr.below {w w' : World} {base g : Nat} {A : Option Addr} {n c : Nat} {l : List Int} {p : Nat} (h : Rdr w base g A n c l p) (hb : Below w.heap.size w w') : Rdr w' base g A n c l p := ⟨h.blk.below hb h.lt, own_below h.row hb, h.low, h.le⟩
theorem Rdr.grown {w w' : World} {base g g1 : Nat} {A : Option Addr} {n c : Nat} {l : List Int} {p : Nat} (h : Rdr w base g A n c l p) (hg : w.grownBy w' (some g1)) (hlt : g1 < base) : Rdr w' base g A n c l p :=
  ⟨h.blk.grown hg (fun e => by have := h.low; cases e; omega), h.row.kept hg (.inr (own_ne_low h.row hlt)), h.low, h.le⟩
theorem Rdr.grown_ {w w' : World} {base g g1 : Nat} {A : Option Addr} {n c : Nat} {l : List Int} {p : Nat} (h : Rdr w base g A n c l p) (hg : w.grownBy w' (some g1)) (hne : g ≠ g1) (hrow : (Value.slice A n c).ownBlock ≠ some g1) : Rdr w' base g A n c l p :=
  ⟨h.blk.grown hg (fun e => hne (by cases e; rfl)), h.row.kept hg (.inr hrow), h.low, h.le⟩
theorem Rdr.alloc {w : World} {base g : Nat} {A : Option Addr} {n c : Nat} {l : List Int} {p : Nat} (h : Rdr w base g A n c l p) (o : Obj) : Rdr (w.alloc o) base g A n c l p := ⟨h.blk.alloc o, h.row.alloc o, h.low, h.le⟩
/-- behind the append and the store of the place -/
theorem Rdr.moved {w w' : World} {base g : Nat} {A : Option Addr} {n c : Nat} {l : List Int} {p q : Nat} (h : Rdr w base g A n c l p) (hb : Below w.heap.size w w') (hq : q ≤ n) : Rdr (w'.setCell ⟨g, 1, none⟩ (.int .i64 q)) base g A n c l q := by
  have h' := h.below hb
  refine ⟨?_, own_set_other h'.row (own_blk_ne h'.row h'.blk (by decide)) _, h.low, hq⟩
  have := h'.blk.set_ 1 (.int .i64 q)
  simpa using this

set_option maxHeartbeats 1000000 in
theorem take_some (w : World) {base g : Nat} {A : Option Addr} {n c : Nat} {l : List Int} {p : Nat} (m : Nat) (hn : n ≤ 35184372087808) (h : Rdr w base g A n c l p) (hm : p + m ≤ n) :
    Calls Try.prog 36 #[.pointer (some ⟨g, 0, none⟩), .int .i64 2, .int .i64 m] w (Took w base g A n c l p m ⟨#[]⟩) := by
  have hle := own_cap h.row
  go_enter Try.func36, Try.ntmps36
  go_wp2_with fail
  refine (left_any _ hn h).mono ?_
  rintro e w' ⟨rfl, d, rfl⟩
  have h0 := h.blk.cell 0
  have h1 := h.blk.cell 1
  have hf := h.blk.frozen 1
  simp at h0 h1
  go_wp2_with fail
  refine wp_region_tail 15 (by kernel_rfl) (by kernel_rfl) ?_
  simp only [List.take_succ_cons, List.take_zero, List.drop_succ_cons, List.drop_zero]
  repeat (go_big_quiet_step (fail))
  refine wpQuiet_nil ?_
  have hcut := ((Reads.of_own h.row).mid_ hm hle).drewN d
  generalize (if c = p then A else Option.map (fun x => x.add p) A) = A0 at hcut ⊢
  go_wp2_with (at_builtin; refine ap_nil sl32 _ rfl _ rfl w.heap.size w.heap.size _ _ _ _ rfl hcut.drew Ints_oneCell (by omega) (by omega) (Nat.le_refl _) ?_; intro A' c' w1 ho hgr hat; have hb := (below_drewN (Below.refl w.heap.size w) d).drew.grown hgr (Nat.le_refl _) (fun _ hh => by cases hh); have g1 := ((h.below hb).blk.cell 1); have g2 := ((h.below hb).blk.frozen 1); simp at g1)
  go_ret3
  rw [Nat.add_sub_cancel_left] at ho
  exact ⟨A', c', rfl, own_set_other ho (own_ne_low ho h.lt) _, h.moved hb hm, only_setCell (only_of_below hb _) (.inl rfl) _⟩

set_option maxHeartbeats 1000000 in
theorem take_one (w : World) {base g : Nat} {A : Option Addr} {n c : Nat} {l : List Int} {p : Nat} (hn : n ≤ 35184372087808) (h : Rdr w base g A n c l p) (hm : p + 1 ≤ n) :
    Calls Try.prog 36 #[.pointer (some ⟨g, 0, none⟩), .int .i64 0, .int .i64 0] w (Took w base g A n c l p 1 ⟨#[]⟩) := by
  have hle := own_cap h.row
  go_enter Try.func36, Try.ntmps36
  go_wp2_with fail
  refine (left_any _ hn h).mono ?_
  rintro e w' ⟨rfl, d, rfl⟩
  have h0 := h.blk.cell 0
  have h1 := h.blk.cell 1
  have hf := h.blk.frozen 1
  simp at h0 h1
  go_wp2_with fail
  refine wp_region_tail 15 (by kernel_rfl) (by kernel_rfl) ?_
  simp only [List.take_succ_cons, List.take_zero, List.drop_succ_cons, List.drop_zero]
  repeat (go_big_quiet_step (fail))
  refine wpQuiet_nil ?_
  have hcut := ((Reads.of_own h.row).mid_ hm hle).drewN d
  rw [Nat.add_sub_cancel_left, if_neg (by omega)] at hcut
  generalize (Option.map (fun x => x.add p) A) = A0 at hcut ⊢
  go_wp2_with (at_builtin; refine ap_nil sl32 _ rfl _ rfl w.heap.size w.heap.size _ _ _ _ rfl hcut.drew Ints_oneCell (by omega) (by omega) (Nat.le_refl _) ?_; intro A' c' w1 ho hgr hat; have hb := (below_drewN (Below.refl w.heap.size w) d).drew.grown hgr (Nat.le_refl _) (fun _ hh => by cases hh); have g1 := ((h.below hb).blk.cell 1); have g2 := ((h.below hb).blk.frozen 1); simp at g1)
  go_ret3
  exact ⟨A', c', rfl, own_set_other ho (own_ne_low ho h.lt) _, h.moved hb hm, only_setCell (only_of_below hb _) (.inl rfl) _⟩

set_option maxHeartbeats 1000000 in
theorem take_text (w : World) {base g : Nat} {A : Option Addr} {n c : Nat} {l : List Int} {p : Nat} (hn : n ≤ 35184372087808) (h : Rdr w base g A n c l p) (hu : Under 4294967296 l) (m : Nat) (he : textE (l.drop p) = 0) (hN : textN (l.drop p) = m) :
    Calls Try.prog 36 #[.pointer (some ⟨g, 0, none⟩), .int .i64 1, .int .i64 0] w (Took w base g A n c l p m (str (textS (l.drop p)))) := by
  have hle := own_cap h.row
  go_enter Try.func36, Try.ntmps36
  have h0 := h.blk.cell 0
  have h1 := h.blk.cell 1
  have hp := h.le
  simp at h0 h1
  go_wp2_with fail
  obtain ⟨A0, hA0⟩ : ∃ A0, (if c = p then A else Option.map (fun x => x.add p) A) = A0 := ⟨_, rfl⟩
  have hcut := (Reads.of_own h.row).from_ hp hle
  rw [hA0] at hcut
  have hsub : n - p ≤ 35184372087808 := by omega
  go_region_held3 (fun w' => w'.cell? ⟨g, 0, none⟩ = some (.slice A n c) ∧ w'.cell? ⟨g, 1, none⟩ = some (.int .i64 p) ∧ Below w.heap.size w w') (first | exact ⟨h0, h1, (Below.refl _ _).drew⟩ | (go_split_ands; exact ⟨by assumption, by assumption, by assumption⟩) | (go_split_ands; exact ⟨cell_cut (by assumption) (by assumption) hbq (Nat.le_refl _) h.lt, cell_cut (by assumption) (by assumption) hbq (Nat.le_refl _) h.lt, below_cut (by assumption) hbq (Nat.le_refl _)⟩)) ((first | (go_at_call 27; refine (text_any A0 (n - p) (c - p) (l.drop p) _ hsub (hu.drop p) hcut.drew).mono ?_; rintro e w' ⟨rfl, hbq⟩)))
  have hq : w'.cell? ⟨g, 0, none⟩ = some (.slice A n c) ∧ w'.cell? ⟨g, 1, none⟩ = some (.int .i64 p) ∧ Below w.heap.size w w' := by assumption
  obtain ⟨k0, k1, hB⟩ := hq
  have h' := h.below hB
  have hm : p + m ≤ n := by
    have := textN_le (l.drop p)
    rw [hN, List.length_drop, own_len h.row] at this
    omega
  clear hcut hA0 h0 h1 he hN
  go_wp2_with fail
  refine (left_any _ hn h').mono ?_
  rintro e w2 ⟨rfl, d, rfl⟩
  have hcut := ((Reads.of_own h'.row).mid_ hm hle).drewN d
  go_wp2_with fail
  refine wp_region_tail 15 (by kernel_rfl) (by kernel_rfl) ?_
  simp only [List.take_succ_cons, List.take_zero, List.drop_succ_cons, List.drop_zero]
  repeat (go_big_quiet_step (fail))
  refine wpQuiet_nil ?_
  generalize (if c = p then A else Option.map (fun x => x.add p) A) = A1 at hcut ⊢
  go_wp2_with (at_builtin; refine ap_nil sl32 _ rfl _ rfl w.heap.size w'.heap.size _ _ _ _ rfl hcut.drew Ints_oneCell (by omega) (by omega) hB.size ?_; intro A' c' w1 ho hgr hat; have hb := (below_drewN hB d).drew.grown hgr hB.size (fun _ hh => by cases hh); have g1 := ((h.below hb).blk.cell 1); have g2 := ((h.below hb).blk.frozen 1); simp at g1)
  go_ret3
  rw [Nat.add_sub_cancel_left] at ho
  exact ⟨A', c', rfl, own_set_other ho (own_ne_low ho h.lt) _, h.moved hb hm, only_setCell (only_of_below hb _) (.inl rfl) _⟩

/-! What is refused. -/
theorem Left.mk {w w' : World} {k : Int} (h : Below w.heap.size w w') : Left w k (.returned (.tuple #[.slice none 0 0, .string ⟨#[]⟩, .int .i64 k])) w' := ⟨rfl, h⟩

theorem take_neg (w : World) (g : Nat) (m : Int) (hm : m < 0) :
    Calls Try.prog 36 #[.pointer (some ⟨g, 0, none⟩), .int .i64 2, .int .i64 m] w (Left w 2) := by
  go_enter Try.func36, Try.ntmps36
  go_wp2
  go_ret3
  exact Left.mk (Below.refl _ _)
theorem take_far (w : World) {base g : Nat} {A : Option Addr} {n c : Nat} {l : List Int} {p : Nat} (m : Int) (hn : n ≤ 35184372087808) (h : Rdr w base g A n c l p) (hm : 0 ≤ m) (hf : (n : Int) - p < m) :
    Calls Try.prog 36 #[.pointer (some ⟨g, 0, none⟩), .int .i64 2, .int .i64 m] w (Left w 14) := by
  go_enter Try.func36, Try.ntmps36
  go_wp2_with fail
  refine (left_any _ hn h).mono ?_
  rintro e w' ⟨rfl, d, rfl⟩
  go_wp2
  go_ret3
  exact Left.mk (below_drewN (Below.refl _ _) d)
theorem take_end (w : World) {base g : Nat} {A : Option Addr} {n c : Nat} {l : List Int} {p : Nat} (hn : n ≤ 35184372087808) (h : Rdr w base g A n c l p) (hf : n ≤ p) :
    Calls Try.prog 36 #[.pointer (some ⟨g, 0, none⟩), .int .i64 0, .int .i64 0] w (Left w 14) := by
  go_enter Try.func36, Try.ntmps36
  go_wp2_with fail
  refine (left_any _ hn h).mono ?_
  rintro e w' ⟨rfl, d, rfl⟩
  go_wp2
  go_ret3
  exact Left.mk (below_drewN (Below.refl _ _) d)
set_option maxHeartbeats 1000000 in
theorem take_spoilt (w : World) {base g : Nat} {A : Option Addr} {n c : Nat} {l : List Int} {p : Nat} (hn : n ≤ 35184372087808) (h : Rdr w base g A n c l p) (hu : Under 4294967296 l) (he : textE (l.drop p) ≠ 0) :
    Calls Try.prog 36 #[.pointer (some ⟨g, 0, none⟩), .int .i64 1, .int .i64 0] w (Left w (textE (l.drop p))) := by
  have hle := own_cap h.row
  have h0 := h.blk.cell 0
  have h1 := h.blk.cell 1
  have hp := h.le
  have hz1 : (textE (l.drop p) == 0) = false := by simpa using he
  have hz2 : (textE (l.drop p) != 0) = true := by simpa using he
  simp at h0 h1
  go_enter Try.func36, Try.ntmps36
  go_wp2_with fail
  obtain ⟨A0, hA0⟩ : ∃ A0, (if c = p then A else Option.map (fun x => x.add p) A) = A0 := ⟨_, rfl⟩
  have hcut := (Reads.of_own h.row).from_ hp hle
  rw [hA0] at hcut
  have hsub : n - p ≤ 35184372087808 := by omega
  go_region_held3 (fun w' => w'.cell? ⟨g, 0, none⟩ = some (.slice A n c) ∧ w'.cell? ⟨g, 1, none⟩ = some (.int .i64 p) ∧ Below w.heap.size w w') (first | exact ⟨h0, h1, (Below.refl _ _).drew⟩ | (go_split_ands; exact ⟨by assumption, by assumption, by assumption⟩) | (go_split_ands; exact ⟨cell_cut (by assumption) (by assumption) hbq (Nat.le_refl _) h.lt, cell_cut (by assumption) (by assumption) hbq (Nat.le_refl _) h.lt, below_cut (by assumption) hbq (Nat.le_refl _)⟩)) ((first | (go_at_call 27; refine (text_any A0 (n - p) (c - p) (l.drop p) _ hsub (hu.drop p) hcut.drew).mono ?_; rintro e w' ⟨rfl, hbq⟩)))
  have hq : w'.cell? ⟨g, 0, none⟩ = some (.slice A n c) ∧ w'.cell? ⟨g, 1, none⟩ = some (.int .i64 p) ∧ Below w.heap.size w w' := by assumption
  obtain ⟨k0, k1, hB⟩ := hq
  go_wp2
  go_ret3
  exact Left.mk hB
end Go.Proofs.Ytmcilcgpaokifaa
