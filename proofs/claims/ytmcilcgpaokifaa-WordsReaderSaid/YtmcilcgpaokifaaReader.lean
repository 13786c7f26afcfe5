/- Walks: a reader of words: New, At, Left, take and what stands on it; SpoilWords. -/
import Derived.Test.YtmcilcgpaokifaaText
import Derived.Test.YtmcilcgpaokifaaTail
namespace Go.Proofs.Ytmcilcgpaokifaa
open Go.RowKit

/-- a reader at block g: its words l (a row that lies from 'base' on, at the value v), and how many were taken -/
structure Rdr (w : World) (base g : Nat) (A : Option Addr) (n c : Nat) (l : List Int) (p : Nat) : Prop where
  blk : Blk w g 63 #[.slice A n c, .int .i64 p]
  row : w.ownsRow base 28 1 (.slice A n c) n (Ints .u32 l)
  low : base ≤ g
  le : p ≤ n

set_option maxHeartbeats 1000000 in
theorem new_any (A : Option Addr) (n c : Nat) (l : List Int) (w : World) (hn : n ≤ 35184372087808) (hr : Reads w w.heap.size 1 A n (Ints .u32 l)) :
    Calls Try.prog 33 #[.slice A n c] w fun e w' => ∃ g A' c', e = .returned (.pointer (some ⟨g, 0, none⟩)) ∧ Rdr w' w.heap.size g A' n c' l 0 ∧ Below w.heap.size w w' := by
  go_enter Try.func33, Try.ntmps33
  go_wp2_with (at_builtin; refine ap_nil sl32 _ rfl _ rfl w.heap.size w.heap.size A n c _ rfl hr Ints_oneCell (by omega) (by omega) (Nat.le_refl _) ?_; intro A' c' w1 ho hgr hat)
  go_ret
  have hb := (Below.refl w.heap.size w).grown hgr (Nat.le_refl _) (fun _ h => by cases h)
  exact ⟨_, A', c', rfl, ⟨Blk.new _ _ _, ho.alloc _, hb.size, by omega⟩, hb.alloc hb.size _⟩

theorem at_any (w : World) {base g : Nat} {A : Option Addr} {n c : Nat} {l : List Int} {p : Nat} (h : Rdr w base g A n c l p) :
    Calls Try.prog 31 #[.pointer (some ⟨g, 0, none⟩)] w fun e w' => e = .returned (.int .i64 p) ∧ w = w' := by
  have h1 := h.blk.cell 1
  simp at h1
  go_enter Try.func31, Try.ntmps31
  go_wp2
  go_ret
  exact ⟨rfl, rfl⟩

theorem left_any (w : World) {base g : Nat} {A : Option Addr} {n c : Nat} {l : List Int} {p : Nat} (hn : n ≤ 35184372087808) (h : Rdr w base g A n c l p) :
    Calls Try.prog 32 #[.pointer (some ⟨g, 0, none⟩)] w fun e w' => e = .returned (.int .i64 ((n : Int) - p)) ∧ Drawn w w' := by
  have h0 := h.blk.cell 0
  have h1 := h.blk.cell 1
  have hp := h.le
  simp at h0 h1
  go_enter Try.func32, Try.ntmps32
  go_wp2
  go_quiet (fail)
  go_wp2
  go_ret
  exact ⟨rfl, Drawn.mk _ _⟩

theorem spoil_any (g n : Nat) (c : Nat) (base : Nat) (l : List Int) (w : World) (hn : n ≤ 35184372087808) (ho : w.ownsRow base 28 1 (.slice (some ⟨g, 0, none⟩) n c) n (Ints .u32 l)) :
    Calls Try.prog 34 #[.slice (some ⟨g, 0, none⟩) n c] w fun e w' => e = .returned (.tuple #[]) ∧ w.grownBy w' (some g) := by
  go_enter Try.func34, Try.ntmps34
  go_wp2
  go_loopw [2] (fun i wr => ∃ (k : Nat) (l' : List Int), k ≤ n ∧ i = .int .i64 k ∧ wr.ownsRow base 28 1 (.slice (some ⟨g, 0, none⟩) n c) n (Ints .u32 l') ∧ w.grownBy wr (some g)) (fun i _ => n - (intOf i).toNat)
  case atStart => exact ⟨0, l, by omega, rfl, ho, World.grownBy.refl _ _⟩
  case round =>
    obtain ⟨k, l', hk, rfl, ho', hg⟩ := hrel
    by_cases hlt : k < n
    · have hc := own_int_at ho' hlt
      have hf := ho'.frozenAt k
      go_wp2
      go_roundw
      case rel => exact ⟨k + 1, _, by omega, by go_num, own_int_set ho' k _, only_setCell hg (.inl rfl) _⟩
      case measure => simp [intOf]; omega
    · go_wp2
      go_end0
      exact ⟨rfl, hg⟩
theorem spoil_none (c : Nat) (w : World) (A : Option Addr) :
    Calls Try.prog 34 #[.slice A 0 c] w fun e w' => e = .returned (.tuple #[]) ∧ w = w' := by
  go_enter Try.func34, Try.ntmps34
  go_wp2
  go_loop [2] (fun i => i = .int .i64 0) (fun _ => 0)
  case atStart => rfl
  case round =>
    subst hrel
    go_wp2
    go_end0
    exact ⟨rfl, rfl⟩
end Go.Proofs.Ytmcilcgpaokifaa
