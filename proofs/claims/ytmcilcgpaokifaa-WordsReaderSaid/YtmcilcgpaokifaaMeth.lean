/- Walks: the reader's three methods. -/
import Derived.Test.YtmcilcgpaokifaaTake
namespace Go.Proofs.Ytmcilcgpaokifaa
open Go.RowKit

section
variable (w : World) {base g : Nat} {A : Option Addr} {n c : Nat} {l : List Int} {p : Nat}
/-- what a call that took m words leaves -/
def Moved (w : World) (base g : Nat) (A : Option Addr) (n c : Nat) (l : List Int) (q : Nat) (w' : World) : Prop := Rdr w' base g A n c l q ∧ w.grownBy w' (some g)

theorem word_ok (hn : n ≤ 35184372087808) (h : Rdr w base g A n c l p) (hm : p + 1 ≤ n) :
    Calls Try.prog 28 #[.pointer (some ⟨g, 0, none⟩)] w fun e w' => e = .returned (.tuple #[.int .u32 (ix l p), .int .i64 0]) ∧ Moved w base g A n c l (p + 1) w' := by
  go_enter Try.func28, Try.ntmps28
  go_wp2_with fail
  refine (take_one w hn h hm).mono ?_
  rintro e w' ⟨A', c', rfl, ho, hr, hg⟩
  obtain ⟨g', cap, hv, _⟩ := ho.form (by omega)
  cases hv
  have hc := own_int_at ho (k := 0) (by omega)
  rw [ix_take (by omega), ix_drop, Nat.add_zero] at hc
  go_wp2
  go_ret2
  exact ⟨rfl, hr, hg⟩
theorem word_end (hn : n ≤ 35184372087808) (h : Rdr w base g A n c l p) (hf : n ≤ p) :
    Calls Try.prog 28 #[.pointer (some ⟨g, 0, none⟩)] w fun e w' => e = .returned (.tuple #[.int .u32 0, .int .i64 14]) ∧ Below w.heap.size w w' := by
  go_enter Try.func28, Try.ntmps28
  go_wp2_with fail
  refine (take_end w hn h hf).mono ?_
  rintro e w' ⟨rfl, hb⟩
  go_wp2
  go_ret2
  exact ⟨rfl, hb⟩
theorem rtext_ok (hn : n ≤ 35184372087808) (h : Rdr w base g A n c l p) (hu : Under 4294967296 l) (m : Nat) (he : textE (l.drop p) = 0) (hN : textN (l.drop p) = m) :
    Calls Try.prog 29 #[.pointer (some ⟨g, 0, none⟩)] w fun e w' => e = .returned (.tuple #[.string (str (textS (l.drop p))), .int .i64 0]) ∧ Moved w base g A n c l (p + m) w' := by
  go_enter Try.func29, Try.ntmps29
  go_wp2_with fail
  refine (take_text w hn h hu m he hN).mono ?_
  rintro e w' ⟨A', c', rfl, ho, hr, hg⟩
  go_wp2
  go_ret2
  exact ⟨rfl, hr, hg⟩
theorem rtext_bad (hn : n ≤ 35184372087808) (h : Rdr w base g A n c l p) (hu : Under 4294967296 l) (he : textE (l.drop p) ≠ 0) :
    Calls Try.prog 29 #[.pointer (some ⟨g, 0, none⟩)] w fun e w' => e = .returned (.tuple #[.string ⟨#[]⟩, .int .i64 (textE (l.drop p))]) ∧ Below w.heap.size w w' := by
  go_enter Try.func29, Try.ntmps29
  go_wp2_with fail
  refine (take_spoilt w hn h hu he).mono ?_
  rintro e w' ⟨rfl, hb⟩
  go_wp2
  go_ret2
  exact ⟨rfl, hb⟩
theorem rtake_ok (m : Nat) (hn : n ≤ 35184372087808) (h : Rdr w base g A n c l p) (hm : p + m ≤ n) :
    Calls Try.prog 30 #[.pointer (some ⟨g, 0, none⟩), .int .i64 m] w fun e w' => ∃ A' c', e = .returned (.tuple #[.slice A' m c', .int .i64 0]) ∧ w'.ownsRow w.heap.size 28 1 (.slice A' m c') m (Ints .u32 ((l.drop p).take m)) ∧ Moved w base g A n c l (p + m) w' := by
  go_enter Try.func30, Try.ntmps30
  go_wp2_with fail
  refine (take_some w m hn h hm).mono ?_
  rintro e w' ⟨A', c', rfl, ho, hr, hg⟩
  go_wp2
  go_ret2
  exact ⟨A', c', rfl, ho, hr, hg⟩
theorem rtake_neg (m : Int) (hm : m < 0) :
    Calls Try.prog 30 #[.pointer (some ⟨g, 0, none⟩), .int .i64 m] w fun e w' => e = .returned (.tuple #[.slice none 0 0, .int .i64 2]) ∧ Below w.heap.size w w' := by
  go_enter Try.func30, Try.ntmps30
  go_wp2_with fail
  refine (take_neg w g m hm).mono ?_
  rintro e w' ⟨rfl, hb⟩
  go_wp2
  go_ret2
  exact ⟨rfl, hb⟩
theorem rtake_far (m : Int) (hn : n ≤ 35184372087808) (h : Rdr w base g A n c l p) (hm : 0 ≤ m) (hf : (n : Int) - p < m) :
    Calls Try.prog 30 #[.pointer (some ⟨g, 0, none⟩), .int .i64 m] w fun e w' => e = .returned (.tuple #[.slice none 0 0, .int .i64 14]) ∧ Below w.heap.size w w' := by
  go_enter Try.func30, Try.ntmps30
  go_wp2_with fail
  refine (take_far w m hn h hm hf).mono ?_
  rintro e w' ⟨rfl, hb⟩
  go_wp2
  go_ret2
  exact ⟨rfl, hb⟩
end
end Go.Proofs.Ytmcilcgpaokifaa
