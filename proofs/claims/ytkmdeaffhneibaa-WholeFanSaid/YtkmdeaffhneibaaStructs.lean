/- A slice of structs among the arguments, opened to its cells. No program is named. -/
import Derived.Deep.Slices
import Derived.Deep.Fields
import Derived.ChangeSame
import Derived.SizedLaws
import Derived.Test.YtkmdeaffhneibaaMem
namespace Go.Proofs.Ytkmdeaffhneibaa
open Go.RowKit Go.ChangeShapes Go.WideShapes Go.Deep
section
variable {H : Type} {enc : TypeId × Value → H} {P : Program} {w : World} {base : Nat} {spare : Nat → Bool} {held : Bool}
theorem open_slice_fields {t e : TypeId} {fs : Array Field} {fuel : Nat} {cs : List Value} {x : DataW H × List MemPlace} (ht : P.underlying t = some (.slice e)) (he : P.underlying e = some (.struct fs))
    (hone : oneCellFields P fs = true) (hC : P.cellsOf e = fs.size) (h : DataW.trod enc P w base spare held fuel t cs = some x) :
    (cs = [.slice none 0 0] ∧ x = (.nil, [])) ∨
    ∃ (a : Addr) (len cap m : Nat) (D : Nat → DataW H) (Pl : Nat → List MemPlace), cs = [.slice (some a) len cap] ∧ base ≤ a.block ∧ len ≤ cap ∧ cap ≤ maxLen ∧ m = (if spare a.block then cap else len) ∧
      x = (.slice ((List.range len).map D) ((List.range (m - len)).map fun j => D (len + j)), MemPlace.row a (m * fs.size) ++ (List.range m).flatMap Pl) ∧
      ∀ i, i < m → ∃ (ys : List (DataW H × List MemPlace)) (n : Nat), D i = .agg (ys.map (·.1)) ∧ Pl i = ys.flatMap (·.2) ∧ ys.length = fs.size ∧
        ∀ (j : Nat) (f : Field), fs[j]? = some f → ∃ (v : Value) (y : DataW H × List MemPlace), w.cell? (a.add (i * fs.size + j)) = some v ∧ ys[j]? = some y ∧ DataW.trod enc P w base spare held n f.type [v] = some y := by
  rcases open_slice ht h with h0 | ⟨a, len, cap, m, n, D, Pl, hcs, hb, hl, hm, hmm, hx, hi⟩
  · exact .inl h0
  · refine .inr ⟨a, len, cap, m, D, Pl, hcs, hb, hl, hm, hmm, by rw [hC] at hx; exact hx, fun i him => ?_⟩
    obtain ⟨cs', hc, ht'⟩ := hi i him
    rw [hC] at hc
    obtain ⟨ys, n', hn', hy, hlen, hyl, hf⟩ := DataW.trod_struct he ht'
    obtain ⟨_, hcl, hat⟩ := World.cells?_some hc
    simp only [Prod.mk.injEq] at hy
    refine ⟨ys, n', hy.1, hy.2, hyl, fun j f hj => ?_⟩
    obtain ⟨ho, hk⟩ := hone_of hone j f hj
    have hjl : j < fs.size := (Array.getElem?_eq_some_iff.1 hj).1
    have hcell := hat j hjl
    have hv : cs'[j]? = some (cs'[j]'(by omega)) := List.getElem?_eq_getElem (by omega)
    have h1 := hf j f hj
    rw [ho, hk] at h1
    have hone' : (cs'.drop j).take 1 = [cs'[j]'(by omega)] := by
      rw [List.drop_eq_getElem_cons (by omega)]
      rfl
    rw [hone'] at h1
    have hys : ys[j]? = some (ys[j]'(by omega)) := List.getElem?_eq_getElem (by omega)
    refine ⟨_, _, ?_, hys, h1.trans hys⟩
    rw [← Go.Deep.add_add, hcell, hv]
end

section
variable {H : Type} {enc : TypeId × Value → H} {P : Program} {W : World}
/-- a slice of structs of two integers, as a list of pairs -/
theorem open_pairs {t e : TypeId} {f0 f1 : Field} {k : IntKind} {v : Value} {d : DataW H} {p : List MemPlace} {base bytes : Nat} (ht : P.underlying t = some (.slice e)) (he : P.underlying e = some (.struct #[f0, f1]))
    (hf0 : P.underlying f0.type = some (.int k)) (hf1 : P.underlying f1.type = some (.int k)) (hone : oneCellFields P #[f0, f1] = true) (hC : P.cellsOf e = 2) (hby : P.bytesOf e = bytes)
    (hv : Value.okWide P W .any base t v) (h : DataW.Trod enc P W 0 (fun _ => true) true t v d p) (hlt : ∀ x ∈ p, x.block < W.heap.size) (hsz : ∀ elems spare, d = .slice elems spare → (elems.length + spare.length) * P.bytesOf e ≤ reachBytes) :
    ∃ (A : Option Addr) (n c : Nat) (cs : List (Int × Int)), v = .slice A n c ∧ n ≤ c ∧ c * bytes ≤ 140737488351232 ∧ (∀ x ∈ cs, (Lit.int k x.1).wf = true ∧ (Lit.int k x.2).wf = true) ∧ Reads W W.heap.size 2 A n (cs.flatMap fun x => [Value.int k x.1, Value.int k x.2]) := by
  obtain ⟨A, n, c, rfl⟩ := okWide_slice ht hv
  obtain ⟨fuel, hf⟩ := h
  rcases open_slice_fields ht he hone hC hf with ⟨hcs, hx⟩ | ⟨a, len, cap, m, D, Pl, hcs, _, hl, hm, hmm, hx, hi⟩
  · simp [Value.cells] at hcs
    obtain ⟨rfl, rfl, rfl⟩ := hcs
    exact ⟨none, 0, 0, [], rfl, Nat.le_refl _, by omega, by simp, by simpa using Reads.none_⟩
  · simp [Value.cells] at hcs
    obtain ⟨rfl, rfl, rfl⟩ := hcs
    simp only [Prod.mk.injEq] at hx
    obtain ⟨rfl, rfl⟩ := hx
    simp only [if_true] at hmm
    subst hmm
    have hcap := hsz _ _ rfl
    simp only [List.length_map, List.length_range, hby, reachBytes] at hcap
    rw [show n + (m - n) = m from by omega] at hcap
    have hel : ∀ i, i < m → ∃ x : Int × Int, W.cell? (a.add (i * 2)) = some (.int k x.1) ∧ W.cell? (a.add (i * 2 + 1)) = some (.int k x.2) ∧ (Lit.int k x.1).wf = true ∧ (Lit.int k x.2).wf = true := by
      intro i him
      obtain ⟨ys, n', _, _, _, hfl⟩ := hi i him
      obtain ⟨v0, y0, hc0, _, ht0⟩ := hfl 0 f0 rfl
      obtain ⟨v1, y1, hc1, _, ht1⟩ := hfl 1 f1 rfl
      obtain ⟨x0, hx0, _, hw0⟩ := DataW.trod_int hf0 ht0
      obtain ⟨x1, hx1, _, hw1⟩ := DataW.trod_int hf1 ht1
      simp only [List.cons.injEq, and_true] at hx0 hx1
      subst hx0
      subst hx1
      refine ⟨(x0, x1), ?_, ?_, hw0, hw1⟩
      · simpa using hc0
      · simpa using hc1
    have hcs : ∃ cs : List (Int × Int), cs.length = n ∧ ∀ i (hin : i < cs.length), W.cell? (a.add (i * 2)) = some (.int k (cs[i]'hin).1) ∧ W.cell? (a.add (i * 2 + 1)) = some (.int k (cs[i]'hin).2) ∧ (Lit.int k (cs[i]'hin).1).wf = true ∧ (Lit.int k (cs[i]'hin).2).wf = true := by
      clear hi hf hv hcap hsz hlt
      induction n with
      | zero => exact ⟨[], rfl, fun i hin => by simp at hin⟩
      | succ n ih =>
        obtain ⟨cs, hlen, hc⟩ := ih (by omega)
        obtain ⟨x, hx⟩ := hel n (by omega)
        refine ⟨cs ++ [x], by simp [hlen], fun i hin => ?_⟩
        rcases Nat.lt_or_ge i cs.length with h | h
        · rw [List.getElem_append_left h]; exact hc i h
        · have : i = n := by simp at hin; omega
          subst this
          rw [List.getElem_append_right (by omega)]
          simpa using hx
    obtain ⟨cs, hlen, hc⟩ := hcs
    have hfl : (cs.flatMap fun x => [Value.int k x.1, Value.int k x.2]).length = n * 2 := by
      rw [← hlen]
      clear hc hlen
      induction cs with
      | nil => rfl
      | cons x r ih => simp only [List.flatMap_cons, List.length_append, List.length_cons, List.length_nil, ih]; omega
    have hat : ∀ (l : List (Int × Int)) j u, (l.flatMap fun x => [Value.int k x.1, Value.int k x.2])[j]? = some u → ∃ i, ∃ hin : i < l.length, (j = i * 2 ∧ u = .int k (l[i]'hin).1) ∨ (j = i * 2 + 1 ∧ u = .int k (l[i]'hin).2) := by
      intro l
      induction l with
      | nil => intro j u hu; simp at hu
      | cons x r ih =>
        intro j u hu
        match j, hu with
        | 0, hu => exact ⟨0, by simp, .inl ⟨rfl, by simpa using hu.symm⟩⟩
        | 1, hu => exact ⟨0, by simp, .inr ⟨rfl, by simpa using hu.symm⟩⟩
        | j + 2, hu =>
          obtain ⟨i, hin, hh⟩ := ih j u (by simpa using hu)
          refine ⟨i + 1, by simpa using hin, ?_⟩
          rcases hh with ⟨e1, e2⟩ | ⟨e1, e2⟩
          · exact .inl ⟨by omega, by simpa using e2⟩
          · exact .inr ⟨by omega, by simpa using e2⟩
    refine ⟨some a, n, m, cs, rfl, hl, hcap, fun x hx => ?_, hfl, fun hn => ⟨a, rfl, ?_, fun j u hu => ?_⟩⟩
    · obtain ⟨i, hin, e⟩ := List.getElem_of_mem hx
      have := hc i hin
      rw [e] at this
      exact this.2.2
    · exact hlt (.cell a.block a.off) (List.mem_append_left _ (MemPlace.mem_row.2 ⟨0, by simp; omega, by simp⟩))
    · obtain ⟨i, hin, hh⟩ := hat cs j u hu
      have := hc i hin
      rcases hh with ⟨rfl, rfl⟩ | ⟨rfl, rfl⟩
      · exact this.1
      · exact this.2.1
end
end Go.Proofs.Ytkmdeaffhneibaa
