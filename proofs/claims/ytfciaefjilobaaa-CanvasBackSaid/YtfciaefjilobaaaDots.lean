/- Dots as cells: a slice of structs of four cells, as a list; what they do, one after another. No program is named. -/
import Derived.Test.YtfciaefjilobaaaPix
namespace Go.Proofs.Ytfciaefjilobaaa
open Go.RowKit Go.WideShapes Go.ChangeShapes

/-- a dot: x, y, depth, colour -/
abbrev Dot := Int × Int × Int × Int
def Dots : List Dot → List Value
  | [] => []
  | q :: r => .int .i64 q.1 :: .int .i64 q.2.1 :: .int .i32 q.2.2.1 :: .int .u32 q.2.2.2 :: Dots r
def dt (l : List Dot) (k : Nat) : Dot := l.getD k (0, 0, 0, 0)
theorem Dots_length (l : List Dot) : (Dots l).length = l.length * 4 := by
  induction l with
  | nil => rfl
  | cons p r ih => simp only [Dots, List.length_cons, ih]; omega
theorem Dots_at : ∀ {l : List Dot} {k : Nat}, k < l.length → (Dots l)[k * 4]? = some (.int .i64 (dt l k).1) ∧ (Dots l)[k * 4 + 1]? = some (.int .i64 (dt l k).2.1) ∧ (Dots l)[k * 4 + 2]? = some (.int .i32 (dt l k).2.2.1) ∧ (Dots l)[k * 4 + 3]? = some (.int .u32 (dt l k).2.2.2)
  | p :: r, 0, _ => ⟨rfl, rfl, rfl, rfl⟩
  | p :: r, k + 1, h => by
    have h1 := Dots_at (l := r) (k := k) (by simpa using h)
    have e : (k + 1) * 4 = k * 4 + 4 := by omega
    rw [e]
    exact h1
theorem dt_of {l : List Dot} {k : Nat} (h : k < l.length) : dt l k = l[k] := by simp [dt, List.getD, List.getElem?_eq_getElem h]
theorem dt_mem {l : List Dot} {k : Nat} (h : k < l.length) : dt l k ∈ l := by rw [dt_of h]; exact List.getElem_mem h
theorem Reads.dots_len {w : World} {B n : Nat} {A : Option Addr} {l : List Dot} (h : Reads w B 4 A n (Dots l)) : l.length = n := by have := h.1; rw [Dots_length] at this; omega
theorem Reads.dots {w : World} {B n : Nat} {A : Option Addr} {l : List Dot} (h : Reads w B 4 A n (Dots l)) (hn : 0 < n) :
    ∃ b off, A = some ⟨b, off, none⟩ ∧ b < B ∧ ∀ k, k < n → w.cell? ⟨b, off + k * 4, none⟩ = some (.int .i64 (dt l k).1) ∧ w.cell? ⟨b, off + k * 4 + 1, none⟩ = some (.int .i64 (dt l k).2.1) ∧
      w.cell? ⟨b, off + k * 4 + 2, none⟩ = some (.int .i32 (dt l k).2.2.1) ∧ w.cell? ⟨b, off + k * 4 + 3, none⟩ = some (.int .u32 (dt l k).2.2.2) := by
  have hl := h.dots_len
  obtain ⟨ad, rfl, hb, hc⟩ := h.2 hn
  obtain ⟨b, off, spot⟩ := ad
  have h0 := hc 0 _ (Dots_at (l := l) (k := 0) (by omega)).1
  have hs : spot = none := by simpa [Addr.add] using World.cell?_spot h0
  subst hs
  refine ⟨b, off, rfl, hb, fun k hk => ?_⟩
  obtain ⟨h0, h1, h2, h3⟩ := Dots_at (l := l) (k := k) (by omega)
  have e := fun j => add_plain b off j
  refine ⟨?_, ?_, ?_, ?_⟩
  · rw [← e]; exact hc _ _ h0
  · rw [Nat.add_assoc, ← e]; exact hc _ _ h1
  · rw [Nat.add_assoc, ← e]; exact hc _ _ h2
  · rw [Nat.add_assoc, ← e]; exact hc _ _ h3
def okDots (l : List Dot) : Prop := ∀ q ∈ l, okPix (true, q.2.2.1, q.2.2.2)
/-- the dots of l, one after another -/
def runD (W H : Nat) (ps : List Pix) (l : List Dot) : List Pix := l.foldl (fun ps q => plotR W H ps q.1 q.2.1 q.2.2.1 q.2.2.2) ps
theorem runD_nil (W H : Nat) (ps : List Pix) : runD W H ps [] = ps := rfl
theorem runD_take {W H : Nat} {ps : List Pix} {l : List Dot} {k : Nat} (h : k < l.length) :
    runD W H ps (l.take (k + 1)) = plotR W H (runD W H ps (l.take k)) (dt l k).1 (dt l k).2.1 (dt l k).2.2.1 (dt l k).2.2.2 := by
  rw [List.take_succ_eq_append_getElem h, runD, List.foldl_append, dt_of h]
  rfl
end Go.Proofs.Ytfciaefjilobaaa
