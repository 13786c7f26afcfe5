/- Calls of a memory as cells: a slice of structs of four numbers and a slice of words. No program is named. -/
import Derived.Test.YtfkeogaagolnoaaStructs
import Derived.Test.YtfkeogaagolnoaaOff
namespace Go.Proofs.Ytfkeogaagolnoaa
open Go.RowKit Go.WideShapes

/-- a call: what, room, place, how many; its words, where they lie, how many might -/
abbrev CI := (Int × Int × Int × Int) × List Int × Option Addr × Nat
def CI.sl (x : CI) : Value := .slice x.2.2.1 x.2.1.length x.2.2.2
def Ccells : List CI → List Value
  | [] => []
  | x :: r => .int .i64 x.1.1 :: .int .i64 x.1.2.1 :: .int .i64 x.1.2.2.1 :: .int .i64 x.1.2.2.2 :: x.sl :: Ccells r
theorem Ccells_length (l : List CI) : (Ccells l).length = l.length * 5 := by
  induction l with
  | nil => rfl
  | cons x r ih => simp only [Ccells, List.length_cons, ih]; omega
def noCI : CI := ((0, 0, 0, 0), [], none, 0)
def ci (l : List CI) (k : Nat) : CI := l.getD k noCI
theorem ci_of {l : List CI} {k : Nat} (h : k < l.length) : ci l k = l[k] := by simp [ci, List.getD, h]
theorem ci_mem {l : List CI} {k : Nat} (h : k < l.length) : ci l k ∈ l := by rw [ci_of h]; exact List.getElem_mem h
theorem Ccells_at : ∀ {l : List CI} {k : Nat}, k < l.length → (Ccells l)[k * 5]? = some (.int .i64 (ci l k).1.1) ∧ (Ccells l)[k * 5 + 1]? = some (.int .i64 (ci l k).1.2.1) ∧ (Ccells l)[k * 5 + 2]? = some (.int .i64 (ci l k).1.2.2.1) ∧ (Ccells l)[k * 5 + 3]? = some (.int .i64 (ci l k).1.2.2.2) ∧ (Ccells l)[k * 5 + 4]? = some (ci l k).sl
  | x :: r, 0, _ => ⟨rfl, rfl, rfl, rfl, rfl⟩
  | x :: r, k + 1, h => by
    have h1 := Ccells_at (l := r) (k := k) (by simpa using h)
    have e : (k + 1) * 5 = k * 5 + 5 := by omega
    rw [e]
    exact h1
def i64b (x : Int) : Prop := -9223372036854775808 ≤ x ∧ x ≤ 9223372036854775807
/-- calls that may be read, all of it below B -/
structure CallsR (w : World) (B : Nat) (A : Option Addr) (l : List CI) : Prop where
  row : Reads w B 5 A l.length (Ccells l)
  ws : ∀ x ∈ l, Reads w B 1 x.2.2.1 x.2.1.length (Ints .u32 x.2.1)
  len : ∀ x ∈ l, x.2.1.length ≤ 35184372087808
  num : ∀ x ∈ l, i64b x.1.1 ∧ i64b x.1.2.1 ∧ i64b x.1.2.2.1 ∧ i64b x.1.2.2.2
  u32 : ∀ x ∈ l, Under 4294967296 x.2.1
theorem CallsR.below {w w' : World} {B : Nat} {A : Option Addr} {l : List CI} (h : CallsR w B A l) (hb : Below B w w') : CallsR w' B A l := ⟨h.row.below hb, fun x hx => (h.ws x hx).below hb, h.len, h.num, h.u32⟩
theorem CallsR.at_ {w : World} {B : Nat} {A : Option Addr} {l : List CI} (h : CallsR w B A l) {k : Nat} (hk : k < l.length) :
    ∃ b off, A = some ⟨b, off, none⟩ ∧ b < B ∧ w.cell? ⟨b, off + k * 5, none⟩ = some (.int .i64 (ci l k).1.1) ∧ w.cell? ⟨b, off + k * 5 + 1, none⟩ = some (.int .i64 (ci l k).1.2.1) ∧ w.cell? ⟨b, off + k * 5 + 2, none⟩ = some (.int .i64 (ci l k).1.2.2.1) ∧ w.cell? ⟨b, off + k * 5 + 3, none⟩ = some (.int .i64 (ci l k).1.2.2.2) ∧
      w.cell? ⟨b, off + k * 5 + 4, none⟩ = some (.slice (ci l k).2.2.1 (ci l k).2.1.length (ci l k).2.2.2) := by
  obtain ⟨ad, e, hb, hc⟩ := h.row.2 (by omega)
  obtain ⟨h0, h1, h2, h3, h4⟩ := Ccells_at hk
  obtain ⟨b, off, spot⟩ := ad
  have hz := hc _ _ (Ccells_at (l := l) (k := 0) (by omega)).1
  have hs : spot = none := by simpa [Addr.add] using World.cell?_spot hz
  subst hs
  have ea := fun j => add_plain b off j
  refine ⟨b, off, e, hb, ?_, ?_, ?_, ?_, ?_⟩
  · rw [← ea]; exact hc _ _ h0
  · rw [Nat.add_assoc, ← ea]; exact hc _ _ h1
  · rw [Nat.add_assoc, ← ea]; exact hc _ _ h2
  · rw [Nat.add_assoc, ← ea]; exact hc _ _ h3
  · rw [Nat.add_assoc, ← ea]; exact hc _ _ h4
end Go.Proofs.Ytfkeogaagolnoaa
