/- Calls among the arguments, opened to their cells. No program is named. -/
import Derived.Deep.Slices
import Derived.Deep.Fields
import Derived.ChangeSame
import Derived.SizedLaws
import Derived.Lib.SmallJoins
import Derived.Test.YtfkeogaagolnoaaCallsm
import Derived.Test.YtfkeogaagolnoaaRow
namespace Go.Proofs.Ytfkeogaagolnoaa
open Go.RowKit Go.ChangeShapes Go.WideShapes Go.Deep Go.Joins
section
variable {H : Type} {enc : TypeId × Value → H} {P : Program} {W : World}

theorem list_of {α : Type} (n : Nat) {R : Nat → α → Prop} (h : ∀ i, i < n → ∃ x, R i x) : ∃ l : List α, l.length = n ∧ ∀ i (hi : i < l.length), R i l[i] := by
  induction n with
  | zero => exact ⟨[], rfl, fun i hi => by simp at hi⟩
  | succ n ih =>
    obtain ⟨l, hl, hr⟩ := ih (fun i hi => h i (by omega))
    obtain ⟨x, hx⟩ := h n (by omega)
    refine ⟨l ++ [x], by simp [hl], fun i hi => ?_⟩
    rcases Nat.lt_or_ge i l.length with h' | h'
    · rw [List.getElem_append_left h']; exact hr i h'
    · have : i = n := by simp at hi; omega
      subst this
      rw [List.getElem_append_right (by omega)]
      simpa [hl] using hx
theorem weightsAll_mem {e : TypeId} : ∀ {l : List (DataW H)} {d : DataW H} {n : Nat}, d ∈ l → n ∈ d.weights P e → n ∈ DataW.weightsAll P e l
  | x :: r, d, n, hd, hn => by
    simp only [DataW.weightsAll, List.mem_append]
    rcases List.mem_cons.1 hd with rfl | hd
    · exact .inl hn
    · exact .inr (weightsAll_mem hd hn)
/-- a slice of integers in a cell -/
theorem words_of_trod {t e : TypeId} {k : IntKind} {fuel : Nat} {v : Value} {y : DataW H × List MemPlace} {bytes : Nat} (ht : P.underlying t = some (.slice e)) (he : P.underlying e = some (.int k)) (hc : P.cellsOf e = 1) (hby : P.bytesOf e = bytes)
    (h : DataW.trod enc P W 0 (fun _ => true) true fuel t [v] = some y) (hlt : ∀ x ∈ y.2, x.block < W.heap.size) (hsz : ∀ n ∈ y.1.weights P t, n ≤ reachBytes) :
    ∃ (A : Option Addr) (n c : Nat) (l : List Int), v = .slice A n c ∧ l.length = n ∧ n ≤ c ∧ c * bytes ≤ 140737488351232 ∧ (∀ x ∈ l, (Lit.int k x).wf = true) ∧ Reads W W.heap.size 1 A n (Ints k l) := by
  rcases open_ints ht he hc h with ⟨hcs, hx⟩ | ⟨a, n, c, zs, hcs, _, hl, hm, hz, hx, hcell, hwz⟩
  · simp only [List.cons.injEq, and_true] at hcs
    exact ⟨none, 0, 0, [], hcs, rfl, Nat.le_refl _, by omega, by simp, Reads.none_⟩
  · simp only [List.cons.injEq, and_true] at hcs
    subst hcs
    subst hx
    simp only [if_true] at hz
    have hcap := hsz _ (by simp only [DataW.weights, ht]; exact List.mem_cons_self ..)
    simp only [lits, List.length_map, List.length_take, List.length_drop, reachBytes, hby] at hcap
    rw [show min n zs.length + (zs.length - n) = c from by omega] at hcap
    refine ⟨some a, n, c, zs.take n, rfl, by rw [List.length_take]; omega, hl, hcap, fun x hx => hwz x (List.mem_of_mem_take hx), ?_, fun hn => ⟨a, rfl, ?_, fun j u hu => ?_⟩⟩
    · rw [Ints_length, List.length_take]; omega
    · exact hlt (.cell a.block a.off) (MemPlace.mem_row.2 ⟨0, by omega, by simp⟩)
    · have hj : j < (zs.take n).length := by
        have := (List.getElem?_eq_some_iff.1 hu).1
        rwa [Ints_length] at this
      have hj' : j < n := by rw [List.length_take] at hj; omega
      rw [Ints_at hj, ix_take hj'] at hu
      cases hu
      exact hcell j (by omega)
theorem sized_at {ts : List TypeId} {ds : List (DataW H)} (h : (DataW.weightsEach P ts ds).all (· ≤ reachBytes) = true) {j : Nat} {t : TypeId} {d : DataW H} (ht : ts[j]? = some t) (hd : ds[j]? = some d) : ∀ n ∈ d.weights P t, n ≤ reachBytes := fun n hn => by
  have := List.all_eq_true.1 h n (DataW.weights_mem_each ht hd n hn)
  simpa using this
theorem wf_i64b {x : Int} (h : (Lit.int .i64 x).wf = true) : i64b x := by
  simp [Lit.wf, IntKind.min, IntKind.max, IntKind.signed, IntKind.bits] at h; exact ⟨by omega, by omega⟩
/-- a slice of calls -/
theorem open_calls {t e ew : TypeId} {f0 f1 f2 f3 f4 : Field} {v : Value} {d : DataW H} {p : List MemPlace} {base : Nat} (ht : P.underlying t = some (.slice e)) (he : P.underlying e = some (.struct #[f0, f1, f2, f3, f4]))
    (hf0 : P.underlying f0.type = some (.int .i64)) (hf1 : P.underlying f1.type = some (.int .i64)) (hf2 : P.underlying f2.type = some (.int .i64)) (hf3 : P.underlying f3.type = some (.int .i64)) (hf4 : P.underlying f4.type = some (.slice ew)) (hew : P.underlying ew = some (.int .u32)) (hcw : P.cellsOf ew = 1) (hbw : P.bytesOf ew = 4)
    (hone : oneCellFields P #[f0, f1, f2, f3, f4] = true) (hC : P.cellsOf e = 5) (hby : P.bytesOf e = 56)
    (hv : Value.okWide P W .any base t v) (h : DataW.Trod enc P W 0 (fun _ => true) true t v d p) (hlt : ∀ x ∈ p, x.block < W.heap.size) (hsz : ∀ n ∈ d.weights P t, n ≤ reachBytes) :
    ∃ (A : Option Addr) (n c : Nat) (l : List CI), v = .slice A n c ∧ l.length = n ∧ n ≤ c ∧ c * 56 ≤ 140737488351232 ∧ CallsR W W.heap.size A l := by
  obtain ⟨A, n, c, rfl⟩ := okWide_slice ht hv
  obtain ⟨fuel, hf⟩ := h
  rcases open_slice_fields ht he hone hC hf with ⟨hcs, hx⟩ | ⟨a, len, cap, m, D, Pl, hcs, _, hl, hm, hmm, hx, hi⟩
  · simp [Value.cells] at hcs
    obtain ⟨rfl, rfl, rfl⟩ := hcs
    exact ⟨none, 0, 0, [], rfl, rfl, Nat.le_refl _, by omega, ⟨Reads.none_, by simp, by simp, by simp, by simp⟩⟩
  · simp [Value.cells] at hcs
    obtain ⟨rfl, rfl, rfl⟩ := hcs
    simp only [Prod.mk.injEq] at hx
    obtain ⟨rfl, rfl⟩ := hx
    simp only [if_true] at hmm
    subst hmm
    have hcap := hsz _ (by simp only [DataW.weights, ht]; exact List.mem_cons_self ..)
    simp only [List.length_map, List.length_range, hby, reachBytes] at hcap
    rw [show n + (m - n) = m from by omega] at hcap
    obtain ⟨l, hll, hc⟩ := list_of (α := CI) n (R := fun i x => W.cell? (a.add (i * 5)) = some (.int .i64 x.1.1) ∧ W.cell? (a.add (i * 5 + 1)) = some (.int .i64 x.1.2.1) ∧ W.cell? (a.add (i * 5 + 2)) = some (.int .i64 x.1.2.2.1) ∧ W.cell? (a.add (i * 5 + 3)) = some (.int .i64 x.1.2.2.2) ∧ W.cell? (a.add (i * 5 + 4)) = some x.sl ∧
        (i64b x.1.1 ∧ i64b x.1.2.1 ∧ i64b x.1.2.2.1 ∧ i64b x.1.2.2.2) ∧ Reads W W.heap.size 1 x.2.2.1 x.2.1.length (Ints .u32 x.2.1) ∧ x.2.1.length ≤ 35184372087808 ∧ Under 4294967296 x.2.1) (by
      intro i him
      obtain ⟨ys, n', hD, hPl, hyl, hfl⟩ := hi i (by omega)
      obtain ⟨v0, y0, hc0, hy0, ht0⟩ := hfl 0 f0 rfl
      obtain ⟨v1, y1, hc1, hy1, ht1⟩ := hfl 1 f1 rfl
      obtain ⟨v2, y2, hc2, hy2, ht2⟩ := hfl 2 f2 rfl
      obtain ⟨v3, y3, hc3, hy3, ht3⟩ := hfl 3 f3 rfl
      obtain ⟨v4, y4, hc4, hy4, ht4⟩ := hfl 4 f4 rfl
      obtain ⟨x0, hx0, _, hw0⟩ := DataW.trod_int hf0 ht0
      obtain ⟨x1, hx1, _, hw1⟩ := DataW.trod_int hf1 ht1
      obtain ⟨x2, hx2, _, hw2⟩ := DataW.trod_int hf2 ht2
      obtain ⟨x3, hx3, _, hw3⟩ := DataW.trod_int hf3 ht3
      simp only [List.cons.injEq, and_true] at hx0 hx1 hx2 hx3
      subst hx0 hx1 hx2 hx3
      have hm1 : y4 ∈ ys := List.mem_of_getElem? hy4
      obtain ⟨A', n1, c1, ws, rfl, hwl, hnc, hcb, hwf, hr⟩ := words_of_trod hf4 hew hcw hbw ht4 (fun x hx => hlt x (List.mem_append_right _ (List.mem_flatMap.2 ⟨i, List.mem_range.2 (by omega), by rw [hPl]; exact List.mem_flatMap.2 ⟨y4, hm1, hx⟩⟩)))
        (fun q hq => hsz q (by
          simp only [DataW.weights, ht]
          refine List.mem_cons_of_mem _ (List.mem_append_left _ (weightsAll_mem (d := D i) (List.mem_map_of_mem (List.mem_range.2 him)) ?_))
          rw [hD]
          simp only [DataW.weights, he]
          exact DataW.weights_mem_each (j := 4) (t := f4.type) (d := y4.1) (by simp) (by rw [List.getElem?_map, hy4]; rfl) q hq))
      refine ⟨((x0, x1, x2, x3), ws, A', c1), by simpa using hc0, by simpa using hc1, by simpa using hc2, by simpa using hc3, ?_, ⟨wf_i64b hw0, wf_i64b hw1, wf_i64b hw2, wf_i64b hw3⟩, by rw [hwl]; exact hr, by simp only [hwl]; omega, under_u32 hwf⟩
      show W.cell? (a.add (i * 5 + 4)) = some (.slice A' ws.length c1)
      rw [hwl]
      simpa using hc4)
    have hmem : ∀ x ∈ l, ∃ i, ∃ hin : i < l.length, l[i] = x := fun x hx => by
      obtain ⟨i, hin, e⟩ := List.getElem_of_mem hx
      exact ⟨i, hin, e⟩
    refine ⟨some a, n, m, l, rfl, hll, hl, hcap, ⟨⟨by rw [Ccells_length], fun hn => ⟨a, rfl, ?_, fun j u hu => ?_⟩⟩, fun x hx => ?_, fun x hx => ?_, fun x hx => ?_, fun x hx => ?_⟩⟩
    · exact hlt (.cell a.block a.off) (List.mem_append_left _ (MemPlace.mem_row.2 ⟨0, by simp; omega, by simp⟩))
    · have hj : j < l.length * 5 := by
        have := (List.getElem?_eq_some_iff.1 hu).1
        rwa [Ccells_length] at this
      obtain ⟨k, r, hr, rfl⟩ : ∃ k r, r < 5 ∧ j = k * 5 + r := ⟨j / 5, j % 5, Nat.mod_lt _ (by omega), by omega⟩
      have hk : k < l.length := by omega
      obtain ⟨h0, h1, h2, h3, h4⟩ := Ccells_at hk
      rw [ci_of hk] at h0 h1 h2 h3 h4
      have := hc k hk
      match r, hr with
      | 0, _ => rw [Nat.add_zero] at hu ⊢; rw [h0] at hu; cases hu; exact this.1
      | 1, _ => rw [h1] at hu; cases hu; exact this.2.1
      | 2, _ => rw [h2] at hu; cases hu; exact this.2.2.1
      | 3, _ => rw [h3] at hu; cases hu; exact this.2.2.2.1
      | 4, _ => rw [h4] at hu; cases hu; exact this.2.2.2.2.1
    · obtain ⟨i, hin, rfl⟩ := hmem x hx
      exact (hc i hin).2.2.2.2.2.2.1
    · obtain ⟨i, hin, rfl⟩ := hmem x hx
      exact (hc i hin).2.2.2.2.2.2.2.1
    · obtain ⟨i, hin, rfl⟩ := hmem x hx
      exact (hc i hin).2.2.2.2.2.1
    · obtain ⟨i, hin, rfl⟩ := hmem x hx
      exact (hc i hin).2.2.2.2.2.2.2.2
end
end Go.Proofs.Ytfkeogaagolnoaa
