/- A slice of points among the arguments, opened to its cells. No program is named. -/
import Derived.Deep.Slices
import Derived.Deep.Fields
import Derived.ChangeSame
import Derived.SizedLaws
import Derived.Lib.SmallJoins
import Derived.Test.YtkmdeaffhneibaaStructs
import Derived.Test.YtkmdeaffhneibaaFanSeen
namespace Go.Proofs.Ytkmdeaffhneibaa
open Go.RowKit Go.ChangeShapes Go.WideShapes Go.Deep Go.Joins

/-- points as cells -/
def ptC (p : Pt3) : List Value := [.int .i32 p.1, .int .i32 p.2.1, .int .i32 p.2.2]
def PtCs (l : List Pt3) : List Value := l.flatMap ptC
theorem PtCs_length : ∀ (l : List Pt3), (PtCs l).length = l.length * 3
  | [] => rfl
  | p :: l => by
    have := PtCs_length l
    simp only [PtCs, List.flatMap_cons, List.length_append, List.length_cons] at this ⊢
    rw [this]
    simp [ptC]
    omega
theorem PtCs_at : ∀ {l : List Pt3} {k : Nat}, k < l.length → (PtCs l)[k * 3]? = some (.int .i32 (rg l k).1) ∧ (PtCs l)[k * 3 + 1]? = some (.int .i32 (rg l k).2.1) ∧ (PtCs l)[k * 3 + 2]? = some (.int .i32 (rg l k).2.2)
  | p :: r, 0, _ => ⟨rfl, rfl, rfl⟩
  | p :: r, k + 1, h => by
    have h1 := PtCs_at (l := r) (k := k) (by simpa using h)
    have e : (k + 1) * 3 = k * 3 + 3 := by omega
    rw [e]
    exact h1
theorem rg_of {l : List Pt3} {k : Nat} (h : k < l.length) : rg l k = l[k] := by simp [rg, List.getD, List.getElem?_eq_getElem h]
theorem PtCs_cell (l : List Pt3) (j : Nat) (u : Value) (h : (PtCs l)[j]? = some u) : ∃ i, ∃ hi : i < l.length, (j = i * 3 ∧ u = .int .i32 (l[i]'hi).1) ∨ (j = i * 3 + 1 ∧ u = .int .i32 (l[i]'hi).2.1) ∨ (j = i * 3 + 2 ∧ u = .int .i32 (l[i]'hi).2.2) := by
  have hj : j < l.length * 3 := by
    have := (List.getElem?_eq_some_iff.1 h).1
    rwa [PtCs_length] at this
  obtain ⟨k, r, hr, rfl⟩ : ∃ k r, r < 3 ∧ j = k * 3 + r := ⟨j / 3, j % 3, Nat.mod_lt _ (by omega), by omega⟩
  have hk : k < l.length := by omega
  obtain ⟨h0, h1, h2⟩ := PtCs_at hk
  rw [rg_of hk] at h0 h1 h2
  refine ⟨k, hk, ?_⟩
  match r, hr with
  | 0, _ => rw [Nat.add_zero, h0] at h; cases h; exact .inl ⟨by omega, rfl⟩
  | 1, _ => rw [h1] at h; cases h; exact .inr (.inl ⟨rfl, rfl⟩)
  | 2, _ => rw [h2] at h; cases h; exact .inr (.inr ⟨rfl, rfl⟩)
/-- the k-th point of a slice -/
theorem Reads.pt {w : World} {B n : Nat} {A : Option Addr} {l : List Pt3} (h : Reads w B 3 A n (PtCs l)) (hn : 0 < n) :
    ∃ b off, A = some ⟨b, off, none⟩ ∧ b < B ∧ ∀ k, k < n → w.cell? ⟨b, off + k * 3, none⟩ = some (.int .i32 (rg l k).1) ∧ w.cell? ⟨b, off + k * 3 + 1, none⟩ = some (.int .i32 (rg l k).2.1) ∧ w.cell? ⟨b, off + k * 3 + 2, none⟩ = some (.int .i32 (rg l k).2.2) := by
  obtain ⟨ad, rfl, hb, hc⟩ := h.2 hn
  have hl : l.length = n := by have := h.1; rw [PtCs_length] at this; omega
  obtain ⟨b, off, spot⟩ := ad
  have h0 := hc _ _ (PtCs_at (l := l) (k := 0) (by omega)).1
  have hs : spot = none := by simpa [Addr.add] using World.cell?_spot h0
  subst hs
  refine ⟨b, off, rfl, hb, fun k hk => ?_⟩
  obtain ⟨k0, k1, k2⟩ := PtCs_at (l := l) (k := k) (by omega)
  have e0 := hc _ _ k0
  have e1 := hc _ _ k1
  have e2 := hc _ _ k2
  rw [add_plain] at e0 e1 e2
  exact ⟨e0, e1, e2⟩
section
variable {H : Type} {enc : TypeId × Value → H} {P : Program} {W : World}
theorem list_of {α : Type} (n : Nat) {R : Nat → α → Prop} (h : ∀ i, i < n → ∃ x, R i x) : ∃ l : List α, l.length = n ∧ ∀ i (hi : i < l.length), R i l[i] := by
  induction n with
  | zero => exact ⟨[], rfl, fun i hi => by simp at hi⟩
  | succ n ih =>
    obtain ⟨l, hl, hr⟩ := ih (fun i hi => h i (by omega))
    obtain ⟨x, hx⟩ := h n (by omega)
    refine ⟨l ++ [x], by simp [hl], fun i hi => ?_⟩
    rcases Nat.lt_or_ge i l.length with h' | h'
    · rw [List.getElem_append_left h']; exact hr i h'
    · have : i = n := by simp at hi; omega
      subst this
      rw [List.getElem_append_right (by omega)]
      simpa [hl] using hx


/-- a slice of points -/
theorem open_points {t e : TypeId} {f0 f1 f2 : Field} {v : Value} {d : DataW H} {p : List MemPlace} {base bytes : Nat} (ht : P.underlying t = some (.slice e)) (he : P.underlying e = some (.struct #[f0, f1, f2]))
    (hf0 : P.underlying f0.type = some (.int .i32)) (hf1 : P.underlying f1.type = some (.int .i32)) (hf2 : P.underlying f2.type = some (.int .i32))
    (hone : oneCellFields P #[f0, f1, f2] = true) (hC : P.cellsOf e = 3) (hby : P.bytesOf e = bytes)
    (hv : Value.okWide P W .any base t v) (h : DataW.Trod enc P W 0 (fun _ => true) true t v d p) (hlt : ∀ x ∈ p, x.block < W.heap.size) (hsz : ∀ elems spare, d = .slice elems spare → (elems.length + spare.length) * P.bytesOf e ≤ reachBytes) :
    ∃ (A : Option Addr) (n c : Nat) (l : List Pt3), v = .slice A n c ∧ n ≤ c ∧ c * bytes ≤ 140737488351232 ∧ Reads W W.heap.size 3 A n (PtCs l) := by
  obtain ⟨A, n, c, rfl⟩ := okWide_slice ht hv
  obtain ⟨fuel, hf⟩ := h
  rcases open_slice_fields ht he hone hC hf with ⟨hcs, hx⟩ | ⟨a, n', m, m', D, Pl, hcs, _, hl, hm, hmm, hx, hi⟩
  · simp [Value.cells] at hcs
    obtain ⟨rfl, rfl, rfl⟩ := hcs
    exact ⟨none, 0, 0, [], rfl, Nat.le_refl _, by omega, by simpa [PtCs] using Reads.none_⟩
  · simp [Value.cells] at hcs
    obtain ⟨rfl, rfl, rfl⟩ := hcs
    simp only [Prod.mk.injEq] at hx
    obtain ⟨rfl, rfl⟩ := hx
    simp only [if_true] at hmm
    subst hmm
    have hcap := hsz _ _ rfl
    simp only [List.length_map, List.length_range, hby, reachBytes] at hcap
    rw [show n + (m' - n) = m' from by omega] at hcap
    obtain ⟨l, hll, hc⟩ := list_of (α := Pt3) n (R := fun i q => W.cell? (a.add (i * 3)) = some (.int .i32 q.1) ∧ W.cell? (a.add (i * 3 + 1)) = some (.int .i32 q.2.1) ∧ W.cell? (a.add (i * 3 + 2)) = some (.int .i32 q.2.2)) (by
      intro i him
      obtain ⟨ys, n', _, _, _, hfl⟩ := hi i (by omega)
      obtain ⟨v0, y0, hc0, _, ht0⟩ := hfl 0 f0 rfl
      obtain ⟨v1, y1, hc1, _, ht1⟩ := hfl 1 f1 rfl
      obtain ⟨v2, y2, hc2, _, ht2⟩ := hfl 2 f2 rfl
      obtain ⟨x0, hx0, _, _⟩ := DataW.trod_int hf0 ht0
      obtain ⟨x1, hx1, _, _⟩ := DataW.trod_int hf1 ht1
      obtain ⟨x2, hx2, _, _⟩ := DataW.trod_int hf2 ht2
      simp only [List.cons.injEq, and_true] at hx0 hx1 hx2
      subst hx0 hx1 hx2
      exact ⟨(x0, x1, x2), by simpa using hc0, by simpa using hc1, by simpa using hc2⟩)
    refine ⟨some a, n, m', l, rfl, hl, hcap, by rw [PtCs_length, hll], fun hn => ⟨a, rfl, ?_, fun j u hu => ?_⟩⟩
    · exact hlt (.cell a.block a.off) (List.mem_append_left _ (MemPlace.mem_row.2 ⟨0, by simp; omega, by simp⟩))
    · obtain ⟨i, hin, hh⟩ := PtCs_cell l j u hu
      obtain ⟨g0, g1, g2⟩ := hc i hin
      rcases hh with ⟨rfl, rfl⟩ | ⟨rfl, rfl⟩ | ⟨rfl, rfl⟩
      · exact g0
      · exact g1
      · exact g2
end
end Go.Proofs.Ytkmdeaffhneibaa
