/- Heads and instructions among the arguments, opened to their cells. No program is named. -/
import Derived.Deep.Slices
import Derived.Deep.Fields
import Derived.ChangeSame
import Derived.SizedLaws
import Derived.Lib.SmallJoins
import Derived.Test.YtppkjejdkogfpaaStructs
import Derived.Test.YtppkjejdkogfpaaRaws
import Derived.Test.YtppkjejdkogfpaaRow
namespace Go.Proofs.Ytppkjejdkogfpaa
open Go.RowKit Go.ChangeShapes Go.WideShapes Go.Deep Go.Joins
section
variable {H : Type} {enc : TypeId × Value → H} {P : Program} {W : World}

theorem list_of {α : Type} (n : Nat) {R : Nat → α → Prop} (h : ∀ i, i < n → ∃ x, R i x) : ∃ l : List α, l.length = n ∧ ∀ i (hi : i < l.length), R i l[i] := by
  induction n with
  | zero => exact ⟨[], rfl, fun i hi => by simp at hi⟩
  | succ n ih =>
    obtain ⟨l, hl, hr⟩ := ih (fun i hi => h i (by omega))
    obtain ⟨x, hx⟩ := h n (by omega)
    refine ⟨l ++ [x], by simp [hl], fun i hi => ?_⟩
    rcases Nat.lt_or_ge i l.length with h' | h'
    · rw [List.getElem_append_left h']; exact hr i h'
    · have : i = n := by simp at hi; omega
      subst this
      rw [List.getElem_append_right (by omega)]
      simpa [hl] using hx
theorem weightsAll_mem {e : TypeId} : ∀ {l : List (DataW H)} {d : DataW H} {n : Nat}, d ∈ l → n ∈ d.weights P e → n ∈ DataW.weightsAll P e l
  | x :: r, d, n, hd, hn => by
    simp only [DataW.weightsAll, List.mem_append]
    rcases List.mem_cons.1 hd with rfl | hd
    · exact .inl hn
    · exact .inr (weightsAll_mem hd hn)
/-- a slice of integers in a cell -/
theorem words_of_trod {t e : TypeId} {k : IntKind} {fuel : Nat} {v : Value} {y : DataW H × List MemPlace} {bytes : Nat} (ht : P.underlying t = some (.slice e)) (he : P.underlying e = some (.int k)) (hc : P.cellsOf e = 1) (hby : P.bytesOf e = bytes)
    (h : DataW.trod enc P W 0 (fun _ => true) true fuel t [v] = some y) (hlt : ∀ x ∈ y.2, x.block < W.heap.size) (hsz : ∀ n ∈ y.1.weights P t, n ≤ reachBytes) :
    ∃ (A : Option Addr) (n c : Nat) (l : List Int), v = .slice A n c ∧ l.length = n ∧ n ≤ c ∧ c * bytes ≤ 140737488351232 ∧ (∀ x ∈ l, (Lit.int k x).wf = true) ∧ Reads W W.heap.size 1 A n (Ints k l) := by
  rcases open_ints ht he hc h with ⟨hcs, hx⟩ | ⟨a, n, c, zs, hcs, _, hl, hm, hz, hx, hcell, hwz⟩
  · simp only [List.cons.injEq, and_true] at hcs
    exact ⟨none, 0, 0, [], hcs, rfl, Nat.le_refl _, by omega, by simp, Reads.none_⟩
  · simp only [List.cons.injEq, and_true] at hcs
    subst hcs
    subst hx
    simp only [if_true] at hz
    have hcap := hsz _ (by simp only [DataW.weights, ht]; exact List.mem_cons_self ..)
    simp only [lits, List.length_map, List.length_take, List.length_drop, reachBytes, hby] at hcap
    rw [show min n zs.length + (zs.length - n) = c from by omega] at hcap
    refine ⟨some a, n, c, zs.take n, rfl, by rw [List.length_take]; omega, hl, hcap, fun x hx => hwz x (List.mem_of_mem_take hx), ?_, fun hn => ⟨a, rfl, ?_, fun j u hu => ?_⟩⟩
    · rw [Ints_length, List.length_take]; omega
    · exact hlt (.cell a.block a.off) (MemPlace.mem_row.2 ⟨0, by omega, by simp⟩)
    · have hj : j < (zs.take n).length := by
        have := (List.getElem?_eq_some_iff.1 hu).1
        rwa [Ints_length] at this
      have hj' : j < n := by rw [List.length_take] at hj; omega
      rw [Ints_at hj, ix_take hj'] at hu
      cases hu
      exact hcell j (by omega)
theorem wf_u16 {x : Int} (h : (Lit.int .u16 x).wf = true) : 0 ≤ x ∧ x < 65536 := by
  simp [Lit.wf, IntKind.min, IntKind.max, IntKind.signed, IntKind.bits] at h; omega
/-- a slice of instructions -/
theorem open_raws {t e ew : TypeId} {f0 f1 : Field} {v : Value} {d : DataW H} {p : List MemPlace} {base : Nat} (ht : P.underlying t = some (.slice e)) (he : P.underlying e = some (.struct #[f0, f1]))
    (hf0 : P.underlying f0.type = some (.int .u16)) (hf1 : P.underlying f1.type = some (.slice ew)) (hew : P.underlying ew = some (.int .u32)) (hcw : P.cellsOf ew = 1) (hbw : P.bytesOf ew = 4)
    (hone : oneCellFields P #[f0, f1] = true) (hC : P.cellsOf e = 2) (hby : P.bytesOf e = 32)
    (hv : Value.okWide P W .any base t v) (h : DataW.Trod enc P W 0 (fun _ => true) true t v d p) (hlt : ∀ x ∈ p, x.block < W.heap.size) (hsz : ∀ n ∈ d.weights P t, n ≤ reachBytes) :
    ∃ (A : Option Addr) (n c : Nat) (l : List RI), v = .slice A n c ∧ l.length = n ∧ n ≤ c ∧ c * 32 ≤ 140737488351232 ∧ RawR W A l ∧ ∀ x ∈ l, Under 4294967296 x.1.2 := by
  obtain ⟨A, n, c, rfl⟩ := okWide_slice ht hv
  obtain ⟨fuel, hf⟩ := h
  rcases open_slice_fields ht he hone hC hf with ⟨hcs, hx⟩ | ⟨a, len, cap, m, D, Pl, hcs, _, hl, hm, hmm, hx, hi⟩
  · simp [Value.cells] at hcs
    obtain ⟨rfl, rfl, rfl⟩ := hcs
    exact ⟨none, 0, 0, [], rfl, rfl, Nat.le_refl _, by omega, ⟨Reads.none_, by simp, by simp, by simp⟩, by simp⟩
  · simp [Value.cells] at hcs
    obtain ⟨rfl, rfl, rfl⟩ := hcs
    simp only [Prod.mk.injEq] at hx
    obtain ⟨rfl, rfl⟩ := hx
    simp only [if_true] at hmm
    subst hmm
    have hcap := hsz _ (by simp only [DataW.weights, ht]; exact List.mem_cons_self ..)
    simp only [List.length_map, List.length_range, hby, reachBytes] at hcap
    rw [show n + (m - n) = m from by omega] at hcap
    obtain ⟨l, hll, hc⟩ := list_of (α := RI) n (R := fun i x => W.cell? (a.add (i * 2)) = some (.int .u16 x.1.1) ∧ W.cell? (a.add (i * 2 + 1)) = some x.sl ∧ (0 ≤ x.1.1 ∧ x.1.1 < 65536) ∧ Reads W W.heap.size 1 x.2.1 x.1.2.length (Ints .u32 x.1.2) ∧ x.1.2.length ≤ 35184372087808 ∧ Under 4294967296 x.1.2) (by
      intro i him
      obtain ⟨ys, n', hD, hPl, hyl, hfl⟩ := hi i (by omega)
      obtain ⟨v0, y0, hc0, hy0, ht0⟩ := hfl 0 f0 rfl
      obtain ⟨v1, y1, hc1, hy1, ht1⟩ := hfl 1 f1 rfl
      obtain ⟨x0, hx0, _, hw0⟩ := DataW.trod_int hf0 ht0
      simp only [List.cons.injEq, and_true] at hx0
      subst hx0
      have hm1 : y1 ∈ ys := List.mem_of_getElem? hy1
      obtain ⟨A', n1, c1, ws, rfl, hwl, hnc, hcb, hwf, hr⟩ := words_of_trod hf1 hew hcw hbw ht1 (fun x hx => hlt x (List.mem_append_right _ (List.mem_flatMap.2 ⟨i, List.mem_range.2 (by omega), by rw [hPl]; exact List.mem_flatMap.2 ⟨y1, hm1, hx⟩⟩)))
        (fun q hq => hsz q (by
          simp only [DataW.weights, ht]
          refine List.mem_cons_of_mem _ (List.mem_append_left _ (weightsAll_mem (d := D i) (List.mem_map_of_mem (List.mem_range.2 him)) ?_))
          rw [hD]
          simp only [DataW.weights, he]
          exact DataW.weights_mem_each (j := 1) (t := f1.type) (d := y1.1) (by simp) (by rw [List.getElem?_map, hy1]; rfl) q hq))
      refine ⟨((x0, ws), A', c1), by simpa using hc0, ?_, wf_u16 hw0, by rw [hwl]; exact hr, by simp only [hwl]; omega, under_u32 hwf⟩
      show W.cell? (a.add (i * 2 + 1)) = some (.slice A' ws.length c1)
      rw [hwl]
      simpa using hc1)
    refine ⟨some a, n, m, l, rfl, hll, hl, hcap, ⟨⟨by rw [Rcells_length], fun hn => ⟨a, rfl, ?_, fun j u hu => ?_⟩⟩, fun x hx => ?_, fun x hx => ?_, fun x hx => ?_⟩, fun x hx => ?_⟩
    · exact hlt (.cell a.block a.off) (List.mem_append_left _ (MemPlace.mem_row.2 ⟨0, by simp; omega, by simp⟩))
    · have hj : j < l.length * 2 := by
        have := (List.getElem?_eq_some_iff.1 hu).1
        rwa [Rcells_length] at this
      obtain ⟨k, r, hr, rfl⟩ : ∃ k r, r < 2 ∧ j = k * 2 + r := ⟨j / 2, j % 2, Nat.mod_lt _ (by omega), by omega⟩
      have hk : k < l.length := by omega
      obtain ⟨h0, h1⟩ := Rcells_at hk
      rw [ri_of hk] at h0 h1
      have := hc k hk
      match r, hr with
      | 0, _ => rw [Nat.add_zero] at hu ⊢; rw [h0] at hu; cases hu; exact this.1
      | 1, _ => rw [h1] at hu; cases hu; exact this.2.1
    · obtain ⟨i, hin, e⟩ := List.getElem_of_mem hx
      have := hc i hin
      rw [e] at this
      exact this.2.2.2.1
    · obtain ⟨i, hin, e⟩ := List.getElem_of_mem hx
      have := hc i hin
      rw [e] at this
      exact this.2.2.2.2.1
    · obtain ⟨i, hin, e⟩ := List.getElem_of_mem hx
      have := hc i hin
      rw [e] at this
      exact this.2.2.1
    · obtain ⟨i, hin, e⟩ := List.getElem_of_mem hx
      have := hc i hin
      rw [e] at this
      exact this.2.2.2.2.2
/-- a head -/
theorem open_head {r : Reach} {b0 : Nat} {base : Nat} {spare : Nat → Bool} {held : Bool} {t : TypeId} {f0 f1 : Field} {v : Value} {d : DataW H} {p : List MemPlace} (hs : P.underlying t = some (.struct #[f0, f1])) (hone : oneCellFields P #[f0, f1] = true) (hC : P.cellsOf t = 2)
    (hf0 : P.underlying f0.type = some (.int .u32)) (hf1 : P.underlying f1.type = some (.int .u32)) (hv : Value.okWide P W r b0 t v) (h : DataW.Trod enc P W base spare held t v d p) :
    ∃ x y, v = .agg #[.int .u32 x, .int .u32 y] ∧ (0 ≤ x ∧ x < 4294967296) ∧ (0 ≤ y ∧ y < 4294967296) := by
  obtain ⟨v0, v1, y0, y1, n, rfl, _, _, h0, h1⟩ := open_agg2 hs hone hC hv h
  obtain ⟨x0, hx0, _, hw0⟩ := DataW.trod_int hf0 h0
  obtain ⟨x1, hx1, _, hw1⟩ := DataW.trod_int hf1 h1
  simp only [List.cons.injEq, and_true] at hx0 hx1
  subst hx0 hx1
  exact ⟨x0, x1, rfl, wf_u32 hw0, wf_u32 hw1⟩
theorem sized_at {ts : List TypeId} {ds : List (DataW H)} (h : (DataW.weightsEach P ts ds).all (· ≤ reachBytes) = true) {j : Nat} {t : TypeId} {d : DataW H} (ht : ts[j]? = some t) (hd : ds[j]? = some d) : ∀ n ∈ d.weights P t, n ≤ reachBytes := fun n hn => by
  have := List.all_eq_true.1 h n (DataW.weights_mem_each ht hd n hn)
  simpa using this
end
end Go.Proofs.Ytppkjejdkogfpaa
