/- Walks: a reader of words, taken word by word (the parts of Reader, Take and Meth that name no text); SpoilWords. -/
import Derived.Test.YtppkjejdkogfpaaKitB
import Derived.Test.YtppkjejdkogfpaaTail
import Derived.Deep.RegionHeld3
namespace Go.Proofs.Ytppkjejdkogfpaa
open Go.RowKit

/-- a reader at block g: its words l (a row that lies from 'base' on, at the value v), and how many were taken -/
structure Rdr (w : World) (base g : Nat) (A : Option Addr) (n c : Nat) (l : List Int) (p : Nat) : Prop where
  blk : Blk w g 77 #[.slice A n c, .int .i64 p]
  row : w.ownsRow base 23 1 (.slice A n c) n (Ints .u32 l)
  low : base ≤ g
  le : p ≤ n

set_option maxHeartbeats 1000000 in
theorem new_any (A : Option Addr) (n c : Nat) (l : List Int) (w : World) (hn : n ≤ 35184372087808) (hr : Reads w w.heap.size 1 A n (Ints .u32 l)) :
    Calls Try.prog 32 #[.slice A n c] w fun e w' => ∃ g A' c', e = .returned (.pointer (some ⟨g, 0, none⟩)) ∧ Rdr w' w.heap.size g A' n c' l 0 ∧ Below w.heap.size w w' := by
  go_enter Try.func32, Try.ntmps32
  go_wp2_with (at_builtin; refine ap_nil sl32 _ rfl _ rfl w.heap.size w.heap.size A n c _ rfl hr Ints_oneCell (by omega) (by omega) (Nat.le_refl _) ?_; intro A' c' w1 ho hgr hat)
  go_ret
  have hb := (Below.refl w.heap.size w).grown hgr (Nat.le_refl _) (fun _ h => by cases h)
  exact ⟨_, A', c', rfl, ⟨Blk.new _ _ _, ho.alloc _, hb.size, by omega⟩, hb.alloc hb.size _⟩

theorem left_any (w : World) {base g : Nat} {A : Option Addr} {n c : Nat} {l : List Int} {p : Nat} (hn : n ≤ 35184372087808) (h : Rdr w base g A n c l p) :
    Calls Try.prog 43 #[.pointer (some ⟨g, 0, none⟩)] w fun e w' => e = .returned (.int .i64 ((n : Int) - p)) ∧ Drawn w w' := by
  have h0 := h.blk.cell 0
  have h1 := h.blk.cell 1
  have hp := h.le
  simp at h0 h1
  go_enter Try.func43, Try.ntmps43
  go_wp2
  go_quiet (fail)
  go_wp2
  go_ret
  exact ⟨rfl, Drawn.mk _ _⟩

theorem spoil_any (g n : Nat) (c : Nat) (base : Nat) (l : List Int) (w : World) (hn : n ≤ 35184372087808) (ho : w.ownsRow base 23 1 (.slice (some ⟨g, 0, none⟩) n c) n (Ints .u32 l)) :
    Calls Try.prog 15 #[.slice (some ⟨g, 0, none⟩) n c] w fun e w' => e = .returned (.tuple #[]) ∧ w.grownBy w' (some g) := by
  go_enter Try.func15, Try.ntmps15
  go_wp2
  go_loopw [2] (fun i wr => ∃ (k : Nat) (l' : List Int), k ≤ n ∧ i = .int .i64 k ∧ wr.ownsRow base 23 1 (.slice (some ⟨g, 0, none⟩) n c) n (Ints .u32 l') ∧ w.grownBy wr (some g)) (fun i _ => n - (intOf i).toNat)
  case atStart => exact ⟨0, l, by omega, rfl, ho, World.grownBy.refl _ _⟩
  case round =>
    obtain ⟨k, l', hk, rfl, ho', hg⟩ := hrel
    by_cases hlt : k < n
    · have hc := own_int_at ho' hlt
      have hf := ho'.frozenAt k
      go_wp2
      go_roundw
      case rel => exact ⟨k + 1, _, by omega, by go_num, own_int_set ho' k _, only_setCell hg (.inl rfl) _⟩
      case measure => simp [intOf]; omega
    · go_wp2
      go_end0
      exact ⟨rfl, hg⟩
theorem spoil_none (c : Nat) (w : World) (A : Option Addr) :
    Calls Try.prog 15 #[.slice A 0 c] w fun e w' => e = .returned (.tuple #[]) ∧ w = w' := by
  go_enter Try.func15, Try.ntmps15
  go_wp2
  go_loop [2] (fun i => i = .int .i64 0) (fun _ => 0)
  case atStart => rfl
  case round =>
    subst hrel
    go_wp2
    go_end0
    exact ⟨rfl, rfl⟩
/-- so many words were taken: they lie in a row of their own; the reader stands behind them; nothing else has turned -/
def Took (w : World) (base g : Nat) (A : Option Addr) (n c : Nat) (l : List Int) (p m : Nat) (s : ByteArray) (e : Ending) (w' : World) : Prop :=
  ∃ A' c', e = .returned (.tuple #[.slice A' m c', .string s, .int .i64 0]) ∧ w'.ownsRow w.heap.size 23 1 (.slice A' m c') m (Ints .u32 ((l.drop p).take m)) ∧ Rdr w' base g A n c l (p + m) ∧ w.grownBy w' (some g)
/-- nothing was taken -/
def Left (w : World) (k : Int) (e : Ending) (w' : World) : Prop := e = .returned (.tuple #[.slice none 0 0, .string ⟨#[]⟩, .int .i64 k]) ∧ Below w.heap.size w w'

theorem Rdr.lt {w : World} {base g : Nat} {A : Option Addr} {n c : Nat} {l : List Int} {p : Nat} (h : Rdr w base g A n c l p) : g < w.heap.size := h.blk.lt
theorem Rdr.drewN {w : World} {base g : Nat} {A : Option Addr} {n c : Nat} {l : List Int} {p : Nat} (h : Rdr w base g A n c l p) (m : Nat) : Rdr (w.drewN m) base g A n c l p := ⟨h.blk.drewN m, h.row, h.low, h.le⟩
theorem Rdr.below {w w' : World} {base g : Nat} {A : Option Addr} {n c : Nat} {l : List Int} {p : Nat} (h : Rdr w base g A n c l p) (hb : Below w.heap.size w w') : Rdr w' base g A n c l p := ⟨h.blk.below hb h.lt, own_below h.row hb, h.low, h.le⟩
theorem Rdr.grown {w w' : World} {base g g1 : Nat} {A : Option Addr} {n c : Nat} {l : List Int} {p : Nat} (h : Rdr w base g A n c l p) (hg : w.grownBy w' (some g1)) (hlt : g1 < base) : Rdr w' base g A n c l p :=
  ⟨h.blk.grown hg (fun e => by have := h.low; cases e; omega), h.row.kept hg (.inr (own_ne_low h.row hlt)), h.low, h.le⟩
theorem Rdr.grown_ {w w' : World} {base g g1 : Nat} {A : Option Addr} {n c : Nat} {l : List Int} {p : Nat} (h : Rdr w base g A n c l p) (hg : w.grownBy w' (some g1)) (hne : g ≠ g1) (hrow : (Value.slice A n c).ownBlock ≠ some g1) : Rdr w' base g A n c l p :=
  ⟨h.blk.grown hg (fun e => hne (by cases e; rfl)), h.row.kept hg (.inr hrow), h.low, h.le⟩
theorem Rdr.alloc {w : World} {base g : Nat} {A : Option Addr} {n c : Nat} {l : List Int} {p : Nat} (h : Rdr w base g A n c l p) (o : Obj) : Rdr (w.alloc o) base g A n c l p := ⟨h.blk.alloc o, h.row.alloc o, h.low, h.le⟩
/-- behind the append and the store of the place -/
theorem Rdr.moved {w w' : World} {base g : Nat} {A : Option Addr} {n c : Nat} {l : List Int} {p q : Nat} (h : Rdr w base g A n c l p) (hb : Below w.heap.size w w') (hq : q ≤ n) : Rdr (w'.setCell ⟨g, 1, none⟩ (.int .i64 q)) base g A n c l q := by
  have h' := h.below hb
  refine ⟨?_, own_set_other h'.row (own_blk_ne h'.row h'.blk (by decide)) _, h.low, hq⟩
  have := h'.blk.set_ 1 (.int .i64 q)
  simpa using this

set_option maxHeartbeats 1000000 in
theorem take_one (w : World) {base g : Nat} {A : Option Addr} {n c : Nat} {l : List Int} {p : Nat} (hn : n ≤ 35184372087808) (h : Rdr w base g A n c l p) (hm : p + 1 ≤ n) :
    Calls Try.prog 41 #[.pointer (some ⟨g, 0, none⟩), .int .i64 0, .int .i64 0] w (Took w base g A n c l p 1 ⟨#[]⟩) := by
  have hle := own_cap h.row
  go_enter Try.func41, Try.ntmps41
  go_wp2_with fail
  refine (left_any _ hn h).mono ?_
  rintro e w' ⟨rfl, d, rfl⟩
  have h0 := h.blk.cell 0
  have h1 := h.blk.cell 1
  have hf := h.blk.frozen 1
  simp at h0 h1
  go_wp2_with fail
  refine wp_region_tail 15 (by kernel_rfl) (by kernel_rfl) ?_
  simp only [List.take_succ_cons, List.take_zero, List.drop_succ_cons, List.drop_zero]
  repeat (go_big_quiet_step (fail))
  refine wpQuiet_nil ?_
  have hcut := ((Reads.of_own h.row).mid_ hm hle).drewN d
  rw [Nat.add_sub_cancel_left, if_neg (by omega)] at hcut
  generalize (Option.map (fun x => x.add p) A) = A0 at hcut ⊢
  go_wp2_with (at_builtin; refine ap_nil sl32 _ rfl _ rfl w.heap.size w.heap.size _ _ _ _ rfl hcut.drew Ints_oneCell (by omega) (by omega) (Nat.le_refl _) ?_; intro A' c' w1 ho hgr hat; have hb := (below_drewN (Below.refl w.heap.size w) d).drew.grown hgr (Nat.le_refl _) (fun _ hh => by cases hh); have g1 := ((h.below hb).blk.cell 1); have g2 := ((h.below hb).blk.frozen 1); simp at g1)
  go_ret3
  exact ⟨A', c', rfl, own_set_other ho (own_ne_low ho h.lt) _, h.moved hb hm, only_setCell (only_of_below hb _) (.inl rfl) _⟩

/-! What is refused. -/
theorem Left.mk {w w' : World} {k : Int} (h : Below w.heap.size w w') : Left w k (.returned (.tuple #[.slice none 0 0, .string ⟨#[]⟩, .int .i64 k])) w' := ⟨rfl, h⟩

theorem take_end (w : World) {base g : Nat} {A : Option Addr} {n c : Nat} {l : List Int} {p : Nat} (hn : n ≤ 35184372087808) (h : Rdr w base g A n c l p) (hf : n ≤ p) :
    Calls Try.prog 41 #[.pointer (some ⟨g, 0, none⟩), .int .i64 0, .int .i64 0] w (Left w 14) := by
  go_enter Try.func41, Try.ntmps41
  go_wp2_with fail
  refine (left_any _ hn h).mono ?_
  rintro e w' ⟨rfl, d, rfl⟩
  go_wp2
  go_ret3
  exact Left.mk (below_drewN (Below.refl _ _) d)
section
variable (w : World) {base g : Nat} {A : Option Addr} {n c : Nat} {l : List Int} {p : Nat}
/-- what a call that took m words leaves -/
def Moved (w : World) (base g : Nat) (A : Option Addr) (n c : Nat) (l : List Int) (q : Nat) (w' : World) : Prop := Rdr w' base g A n c l q ∧ w.grownBy w' (some g)

theorem word_ok (hn : n ≤ 35184372087808) (h : Rdr w base g A n c l p) (hm : p + 1 ≤ n) :
    Calls Try.prog 38 #[.pointer (some ⟨g, 0, none⟩)] w fun e w' => e = .returned (.tuple #[.int .u32 (ix l p), .int .i64 0]) ∧ Moved w base g A n c l (p + 1) w' := by
  go_enter Try.func38, Try.ntmps38
  go_wp2_with fail
  refine (take_one w hn h hm).mono ?_
  rintro e w' ⟨A', c', rfl, ho, hr, hg⟩
  obtain ⟨g', cap, hv, _⟩ := ho.form (by omega)
  cases hv
  have hc := own_int_at ho (k := 0) (by omega)
  rw [ix_take (by omega), ix_drop, Nat.add_zero] at hc
  go_wp2
  go_ret2
  exact ⟨rfl, hr, hg⟩
theorem word_end (hn : n ≤ 35184372087808) (h : Rdr w base g A n c l p) (hf : n ≤ p) :
    Calls Try.prog 38 #[.pointer (some ⟨g, 0, none⟩)] w fun e w' => e = .returned (.tuple #[.int .u32 0, .int .i64 14]) ∧ Below w.heap.size w w' := by
  go_enter Try.func38, Try.ntmps38
  go_wp2_with fail
  refine (take_end w hn h hf).mono ?_
  rintro e w' ⟨rfl, hb⟩
  go_wp2
  go_ret2
  exact ⟨rfl, hb⟩
end
end Go.Proofs.Ytppkjejdkogfpaa
