/- Walks: the words of a picture taken, one by one. -/
import Derived.Test.YtfciaefjilobaaaRnew
import Derived.Test.YtfciaefjilobaaaReadLawc
namespace Go.Proofs.Ytfciaefjilobaaa
open Go.RowKit

/-- a reader at block g, p words on -/
structure RdS (w : World) (g : Nat) (A : Option Addr) (n c : Nat) (ws : List Int) (p : Nat) : Prop where
  blk : Blk w g 100 #[.slice A n c, .int .i64 p]
  rd : Reads w w.heap.size 1 A n (Ints .u32 ws)
  ne : ∀ a, A = some a → a.block ≠ g
  le : n ≤ 35184372087808
  u32 : Under 4294967296 ws
  pn : p ≤ n
section
variable {w w' : World} {g n c p : Nat} {A : Option Addr} {ws : List Int} {S : Nat → Prop}
theorem RdS.len (h : RdS w g A n c ws p) : ws.length = n := h.rd.len
theorem RdS.off (h : RdS w g A n c ws p) (ho : Off S w w') (h1 : ¬ S g) (h2 : ∀ a, A = some a → ¬ S a.block) : RdS w' g A n c ws p :=
  ⟨h.blk.off ho h1, (h.rd.off ho (Nat.le_refl _) h2).more ho.size, h.ne, h.le, h.u32, h.pn⟩
theorem RdS.below (h : RdS w g A n c ws p) (hb : Below w.heap.size w w') : RdS w' g A n c ws p := h.off (Off.of_below (fun _ => False) hb) (fun h => h) (fun _ _ h => h)
theorem RdS.drawn (h : RdS w g A n c ws p) (hd : Drawn w w') : RdS w' g A n c ws p := h.below (hd.below _)
theorem RdS.move (h : RdS w g A n c ws p) (q : Nat) (hq : q ≤ n) : RdS (w.setCell ⟨g, 1, none⟩ (.int .i64 q)) g A n c ws q :=
  ⟨by simpa using h.blk.set_ 1 (.int .i64 q), (h.rd.off ((Off.refl (fun k => k = g) w).set_ (p := ⟨g, 1, none⟩) (.inl rfl) _) (Nat.le_refl _) (fun a ha => h.ne a ha)).more (by simp [World.setCell]), h.ne, h.le, h.u32, hq⟩
theorem next_end (h : RdS w g A n c ws p) (hp : p = n) :
    Calls Try.prog 49 #[.pointer (some ⟨g, 0, none⟩)] w fun e w' => e = .returned (.tuple #[.int .u32 0, .bool false]) ∧ Drawn w w' := by
  have k0 := h.blk.cell 0
  have k1 := h.blk.cell 1
  simp at k0 k1
  have ht : ((p : Int) == (n : Int)) = true := by simp; omega
  subst hp
  go_enter Try.func49, Try.ntmps49
  go_wp2
  go_quiet (fail)
  go_wp2
  go_ret2
  exact ⟨rfl, Drawn.mk _ _⟩
theorem next_ok (h : RdS w g A n c ws p) (hp : p < n) :
    Calls Try.prog 49 #[.pointer (some ⟨g, 0, none⟩)] w fun e w' => e = .returned (.tuple #[.int .u32 (ix ws p), .bool true]) ∧ Drawn w w' := by
  have k0 := h.blk.cell 0
  have k1 := h.blk.cell 1
  simp at k0 k1
  have hle := h.le
  obtain ⟨b, off, rfl, _, hc⟩ := h.rd.ints (by omega)
  have hcp := hc p hp
  clear hc
  have ht : ((p : Int) == (n : Int)) = false := by rw [beq_eq_false_iff_ne]; omega
  go_enter Try.func49, Try.ntmps49
  go_wp2
  go_quiet (fail)
  go_wp2
  go_quiet (fail)
  go_wp2
  go_ret2
  exact ⟨rfl, (Drawn.mk _ _).trans (Drawn.mk _ _)⟩
theorem takes_end (h : RdS w g A n c ws p) (hp : p = n) (lo hi : Int) :
    Calls Try.prog 48 #[.pointer (some ⟨g, 0, none⟩), .int .u32 lo, .int .u32 hi] w fun e w' => e = .returned (.tuple #[.int .u32 0, .bool false]) ∧ Drawn w w' := by
  go_enter Try.func48, Try.ntmps48
  go_wp2_with fail
  refine (next_end h hp).mono ?_
  rintro e w1 ⟨rfl, hd⟩
  go_wp2
  go_ret2
  exact ⟨rfl, hd⟩
theorem takes_bad (h : RdS w g A n c ws p) (hp : p < n) (lo hi : Int) (hb : ix ws p < lo ∨ hi < ix ws p) :
    Calls Try.prog 48 #[.pointer (some ⟨g, 0, none⟩), .int .u32 lo, .int .u32 hi] w fun e w' => e = .returned (.tuple #[.int .u32 0, .bool false]) ∧ Drawn w w' := by
  have hc : decide (ix ws p < lo) = true ∨ (decide (ix ws p < lo) = false ∧ decide (hi < ix ws p) = true) := by
    simp only [decide_eq_true_eq, decide_eq_false_iff_not]; omega
  rcases hc with t0 | ⟨t0, t1⟩ <;>
  · go_enter Try.func48, Try.ntmps48
    go_wp2_with fail
    refine (next_ok h hp).mono ?_
    rintro e w1 ⟨rfl, hd⟩
    go_wp2
    go_ret2
    exact ⟨rfl, hd⟩
theorem takes_ok (h : RdS w g A n c ws p) (hp : p < n) (lo hi : Int) (h0 : lo ≤ ix ws p) (h1 : ix ws p ≤ hi) :
    Calls Try.prog 48 #[.pointer (some ⟨g, 0, none⟩), .int .u32 lo, .int .u32 hi] w fun e w' => e = .returned (.tuple #[.int .u32 (ix ws p), .bool true]) ∧ RdS w' g A n c ws (p + 1) ∧ Off (fun k => k = g) w w' := by
  have t0 : decide (ix ws p < lo) = false := by simp; omega
  have t1 : decide (hi < ix ws p) = false := by simp; omega
  have hle := h.le
  go_enter Try.func48, Try.ntmps48
  go_wp2_with fail
  refine (next_ok h hp).mono ?_
  rintro e w1 ⟨rfl, hd⟩
  have h2 := h.drawn hd
  have k1 := h2.blk.cell 1
  have f1 := h2.blk.frozen 1
  simp at k1
  go_wp2
  go_ret2
  have hm := h2.move (p + 1) (by omega)
  rw [Int.natCast_add] at hm
  exact ⟨rfl, hm, (Off.of_below _ (hd.below _)).trans ((Off.refl (fun k => k = g) w1).set_ (p := ⟨g, 1, none⟩) (.inl rfl) _)⟩
end
end Go.Proofs.Ytfciaefjilobaaa
