/- Sheets, dots and pictures among the arguments, opened to their cells. No program is named. -/
import Derived.Deep.Slices
import Derived.Deep.Fields
import Derived.ChangeSame
import Derived.SizedLaws
import Derived.Lib.SmallJoins
import Derived.Test.YtfciaefjilobaaaStructs
import Derived.Test.YtfciaefjilobaaaDots
namespace Go.Proofs.Ytfciaefjilobaaa
open Go.RowKit Go.ChangeShapes Go.WideShapes Go.Deep Go.Joins
section
variable {H : Type} {enc : TypeId × Value → H} {P : Program} {W : World}

theorem list_of {α : Type} (n : Nat) {R : Nat → α → Prop} (h : ∀ i, i < n → ∃ x, R i x) : ∃ l : List α, l.length = n ∧ ∀ i (hi : i < l.length), R i l[i] := by
  induction n with
  | zero => exact ⟨[], rfl, fun i hi => by simp at hi⟩
  | succ n ih =>
    obtain ⟨l, hl, hr⟩ := ih (fun i hi => h i (by omega))
    obtain ⟨x, hx⟩ := h n (by omega)
    refine ⟨l ++ [x], by simp [hl], fun i hi => ?_⟩
    rcases Nat.lt_or_ge i l.length with h' | h'
    · rw [List.getElem_append_left h']; exact hr i h'
    · have : i = n := by simp at hi; omega
      subst this
      rw [List.getElem_append_right (by omega)]
      simpa [hl] using hx

/-- what the cells of a list of dots are, told by the place -/
theorem Dots_cell (l : List Dot) (j : Nat) (u : Value) (h : (Dots l)[j]? = some u) : ∃ i, ∃ hi : i < l.length, (j = i * 4 ∧ u = .int .i64 (l[i]'hi).1) ∨ (j = i * 4 + 1 ∧ u = .int .i64 (l[i]'hi).2.1) ∨ (j = i * 4 + 2 ∧ u = .int .i32 (l[i]'hi).2.2.1) ∨ (j = i * 4 + 3 ∧ u = .int .u32 (l[i]'hi).2.2.2) := by
  have hj : j < l.length * 4 := by
    have := (List.getElem?_eq_some_iff.1 h).1
    rwa [Dots_length] at this
  obtain ⟨k, r, hr, rfl⟩ : ∃ k r, r < 4 ∧ j = k * 4 + r := ⟨j / 4, j % 4, Nat.mod_lt _ (by omega), by omega⟩
  have hk : k < l.length := by omega
  obtain ⟨h0, h1, h2, h3⟩ := Dots_at hk
  rw [dt_of hk] at h0 h1 h2 h3
  refine ⟨k, hk, ?_⟩
  match r, hr with
  | 0, _ => rw [Nat.add_zero, h0] at h; cases h; exact .inl ⟨by omega, rfl⟩
  | 1, _ => rw [h1] at h; cases h; exact .inr (.inl ⟨rfl, rfl⟩)
  | 2, _ => rw [h2] at h; cases h; exact .inr (.inr (.inl ⟨rfl, rfl⟩))
  | 3, _ => rw [h3] at h; cases h; exact .inr (.inr (.inr ⟨rfl, rfl⟩))

def wfDot (q : Dot) : Prop := (Lit.int .i64 q.1).wf = true ∧ (Lit.int .i64 q.2.1).wf = true ∧ (Lit.int .i32 q.2.2.1).wf = true ∧ (Lit.int .u32 q.2.2.2).wf = true
theorem okDots_of {l : List Dot} (h : ∀ q ∈ l, wfDot q) : okDots l := fun q hq => by
  obtain ⟨_, _, h2, h3⟩ := h q hq
  simp [Lit.wf, IntKind.min, IntKind.max, IntKind.signed, IntKind.bits] at h2 h3
  exact ⟨by simp; omega, by simp; omega, by simp; omega, by simp; omega⟩

/-- a slice of dots -/
theorem dots_of_trod {t e : TypeId} {f0 f1 f2 f3 : Field} {fuel : Nat} {cs : List Value} {x : DataW H × List MemPlace} {bytes : Nat} (ht : P.underlying t = some (.slice e)) (he : P.underlying e = some (.struct #[f0, f1, f2, f3]))
    (hf0 : P.underlying f0.type = some (.int .i64)) (hf1 : P.underlying f1.type = some (.int .i64)) (hf2 : P.underlying f2.type = some (.int .i32)) (hf3 : P.underlying f3.type = some (.int .u32))
    (hone : oneCellFields P #[f0, f1, f2, f3] = true) (hC : P.cellsOf e = 4) (hby : P.bytesOf e = bytes)
    (h : DataW.trod enc P W 0 (fun _ => true) true fuel t cs = some x) (hlt : ∀ p ∈ x.2, p.block < W.heap.size) (hsz : ∀ elems spare, x.1 = .slice elems spare → (elems.length + spare.length) * P.bytesOf e ≤ reachBytes) :
    ∃ (A : Option Addr) (n c : Nat) (l : List Dot), cs = [.slice A n c] ∧ n ≤ c ∧ c * bytes ≤ 140737488351232 ∧ (∀ q ∈ l, wfDot q) ∧ Reads W W.heap.size 4 A n (Dots l) := by
  rcases open_slice_fields ht he hone hC h with ⟨hcs, hx⟩ | ⟨a, n, m, m', D, Pl, hcs, _, hl, hm, hmm, hx, hi⟩
  · exact ⟨none, 0, 0, [], hcs, Nat.le_refl _, by omega, by simp, by simpa [Dots] using Reads.none_⟩
  · subst hx
    simp only [if_true] at hmm
    subst hmm
    have hcap := hsz _ _ rfl
    simp only [List.length_map, List.length_range, hby, reachBytes] at hcap
    rw [show n + (m' - n) = m' from by omega] at hcap
    obtain ⟨l, hll, hc⟩ := list_of (α := Dot) n (R := fun i q => W.cell? (a.add (i * 4)) = some (.int .i64 q.1) ∧ W.cell? (a.add (i * 4 + 1)) = some (.int .i64 q.2.1) ∧ W.cell? (a.add (i * 4 + 2)) = some (.int .i32 q.2.2.1) ∧ W.cell? (a.add (i * 4 + 3)) = some (.int .u32 q.2.2.2) ∧ wfDot q) (by
      intro i him
      obtain ⟨ys, n', _, _, _, hfl⟩ := hi i (by omega)
      obtain ⟨v0, y0, hc0, _, ht0⟩ := hfl 0 f0 rfl
      obtain ⟨v1, y1, hc1, _, ht1⟩ := hfl 1 f1 rfl
      obtain ⟨v2, y2, hc2, _, ht2⟩ := hfl 2 f2 rfl
      obtain ⟨v3, y3, hc3, _, ht3⟩ := hfl 3 f3 rfl
      obtain ⟨x0, hx0, _, hw0⟩ := DataW.trod_int hf0 ht0
      obtain ⟨x1, hx1, _, hw1⟩ := DataW.trod_int hf1 ht1
      obtain ⟨x2, hx2, _, hw2⟩ := DataW.trod_int hf2 ht2
      obtain ⟨x3, hx3, _, hw3⟩ := DataW.trod_int hf3 ht3
      simp only [List.cons.injEq, and_true] at hx0 hx1 hx2 hx3
      subst hx0 hx1 hx2 hx3
      exact ⟨(x0, x1, x2, x3), by simpa using hc0, by simpa using hc1, by simpa using hc2, by simpa using hc3, hw0, hw1, hw2, hw3⟩)
    refine ⟨some a, n, m', l, hcs, hl, hcap, fun q hq => ?_, by rw [Dots_length, hll], fun hn => ⟨a, rfl, ?_, fun j u hu => ?_⟩⟩
    · obtain ⟨i, hin, e⟩ := List.getElem_of_mem hq
      have := hc i hin
      rw [e] at this
      exact this.2.2.2.2
    · exact hlt (.cell a.block a.off) (List.mem_append_left _ (MemPlace.mem_row.2 ⟨0, by simp; omega, by simp⟩))
    · obtain ⟨i, hin, hh⟩ := Dots_cell l j u hu
      obtain ⟨g0, g1, g2, g3, _⟩ := hc i hin
      rcases hh with ⟨rfl, rfl⟩ | ⟨rfl, rfl⟩ | ⟨rfl, rfl⟩ | ⟨rfl, rfl⟩
      · exact g0
      · exact g1
      · exact g2
      · exact g3
theorem open_dots {t e : TypeId} {f0 f1 f2 f3 : Field} {v : Value} {d : DataW H} {p : List MemPlace} {base bytes : Nat} (ht : P.underlying t = some (.slice e)) (he : P.underlying e = some (.struct #[f0, f1, f2, f3]))
    (hf0 : P.underlying f0.type = some (.int .i64)) (hf1 : P.underlying f1.type = some (.int .i64)) (hf2 : P.underlying f2.type = some (.int .i32)) (hf3 : P.underlying f3.type = some (.int .u32))
    (hone : oneCellFields P #[f0, f1, f2, f3] = true) (hC : P.cellsOf e = 4) (hby : P.bytesOf e = bytes)
    (hv : Value.okWide P W .any base t v) (h : DataW.Trod enc P W 0 (fun _ => true) true t v d p) (hlt : ∀ x ∈ p, x.block < W.heap.size) (hsz : ∀ elems spare, d = .slice elems spare → (elems.length + spare.length) * P.bytesOf e ≤ reachBytes) :
    ∃ (A : Option Addr) (n c : Nat) (l : List Dot), v = .slice A n c ∧ n ≤ c ∧ c * bytes ≤ 140737488351232 ∧ (∀ q ∈ l, wfDot q) ∧ Reads W W.heap.size 4 A n (Dots l) := by
  obtain ⟨A, n, c, rfl⟩ := okWide_slice ht hv
  obtain ⟨fuel, hf⟩ := h
  obtain ⟨A', n', c', l, hcs, h1, h2, h3, h4⟩ := dots_of_trod ht he hf0 hf1 hf2 hf3 hone hC hby hf hlt hsz
  simp [Value.cells] at hcs
  obtain ⟨rfl, rfl, rfl⟩ := hcs
  exact ⟨A, n, c, l, rfl, h1, h2, h3, h4⟩
/-- a sheet -/
theorem open_sheet {r : Reach} {b0 : Nat} {base : Nat} {spare : Nat → Bool} {held : Bool} {t : TypeId} {f0 f1 f2 : Field} {v : Value} {d : DataW H} {p : List MemPlace} (hs : P.underlying t = some (.struct #[f0, f1, f2])) (hone : oneCellFields P #[f0, f1, f2] = true) (hC : P.cellsOf t = 3)
    (hf0 : P.underlying f0.type = some (.int .i64)) (hf1 : P.underlying f1.type = some (.int .i64)) (hf2 : P.underlying f2.type = some (.int .u32)) (hv : Value.okWide P W r b0 t v) (h : DataW.Trod enc P W base spare held t v d p) :
    ∃ x y z, v = .agg #[.int .i64 x, .int .i64 y, .int .u32 z] ∧ (Lit.int .i64 x).wf = true ∧ (Lit.int .i64 y).wf = true ∧ (Lit.int .u32 z).wf = true := by
  obtain ⟨v0, v1, v2, y0, y1, y2, n, rfl, _, _, h0, h1, h2⟩ := open_agg3 hs hone hC hv h
  obtain ⟨x0, hx0, _, hw0⟩ := DataW.trod_int hf0 h0
  obtain ⟨x1, hx1, _, hw1⟩ := DataW.trod_int hf1 h1
  obtain ⟨x2, hx2, _, hw2⟩ := DataW.trod_int hf2 h2
  simp only [List.cons.injEq, and_true] at hx0 hx1 hx2
  subst hx0 hx1 hx2
  exact ⟨x0, x1, x2, rfl, hw0, hw1, hw2⟩
/-- a picture: a sheet and dots -/
theorem open_picture {r : Reach} {b0 : Nat} {t ts td e : TypeId} {F0 F1 f0 f1 f2 g0 g1 g2 g3 : Field} {v : Value} {d : DataW H} {p : List MemPlace} {bytes : Nat} (hs : P.underlying t = some (.struct #[F0, F1])) (hC : P.cellsOf t = 4) (hF0 : F0.type = ts ∧ F0.offset = 0) (hF1 : F1.type = td ∧ F1.offset = 3)
    (hS : P.underlying ts = some (.struct #[f0, f1, f2])) (hone : oneCellFields P #[f0, f1, f2] = true) (hCs : P.cellsOf ts = 3) (hCd : P.cellsOf td = 1)
    (hf0 : P.underlying f0.type = some (.int .i64)) (hf1 : P.underlying f1.type = some (.int .i64)) (hf2 : P.underlying f2.type = some (.int .u32))
    (ht : P.underlying td = some (.slice e)) (he : P.underlying e = some (.struct #[g0, g1, g2, g3]))
    (hg0 : P.underlying g0.type = some (.int .i64)) (hg1 : P.underlying g1.type = some (.int .i64)) (hg2 : P.underlying g2.type = some (.int .i32)) (hg3 : P.underlying g3.type = some (.int .u32))
    (hone' : oneCellFields P #[g0, g1, g2, g3] = true) (hCe : P.cellsOf e = 4) (hby : P.bytesOf e = bytes)
    (hv : Value.okWide P W r b0 t v) (h : DataW.Trod enc P W 0 (fun _ => true) true t v d p) (hlt : ∀ x ∈ p, x.block < W.heap.size)
    (hsz : ∀ a elems spare, d = .agg [a, .slice elems spare] → (elems.length + spare.length) * P.bytesOf e ≤ reachBytes) :
    ∃ x y z A n c l, v = .agg #[.int .i64 x, .int .i64 y, .int .u32 z, .slice A n c] ∧ (Lit.int .i64 x).wf = true ∧ (Lit.int .i64 y).wf = true ∧ (Lit.int .u32 z).wf = true ∧
      n ≤ c ∧ c * bytes ≤ 140737488351232 ∧ (∀ q ∈ l, wfDot q) ∧ Reads W W.heap.size 4 A n (Dots l) := by
  obtain ⟨cs, rfl, hcz⟩ := okWide_struct hs hv
  obtain ⟨cs⟩ := cs
  match cs, hcz.trans hC with
  | [c0, c1, c2, c3], _ =>
  obtain ⟨fuel, hf⟩ := h
  obtain ⟨xs, n, _, hx, _, hlen, hfl⟩ := DataW.trod_struct hs hf
  match xs, hlen with
  | [X0, X1], _ =>
  have hA := hfl 0 F0 rfl
  have hB := hfl 1 F1 rfl
  rw [hF0.1, hF0.2, hCs] at hA
  rw [hF1.1, hF1.2, hCd] at hB
  simp [Value.cells] at hA hB
  simp only [Prod.mk.injEq, List.map_cons, List.map_nil, List.flatMap_cons, List.flatMap_nil, List.append_nil] at hx
  obtain ⟨rfl, rfl⟩ := hx
  obtain ⟨ys, n', _, hy, _, hyl, hg⟩ := DataW.trod_struct hS hA
  obtain ⟨o0, k0⟩ := hone_of hone 0 f0 rfl
  obtain ⟨o1, k1⟩ := hone_of hone 1 f1 rfl
  obtain ⟨o2, k2⟩ := hone_of hone 2 f2 rfl
  match ys, hyl with
  | [y0, y1, y2], _ =>
  have t0 : DataW.trod enc P W 0 (fun _ => true) true n' f0.type [c0] = some y0 := by simpa [o0, k0] using hg 0 f0 rfl
  have t1 : DataW.trod enc P W 0 (fun _ => true) true n' f1.type [c1] = some y1 := by simpa [o1, k1] using hg 1 f1 rfl
  have t2 : DataW.trod enc P W 0 (fun _ => true) true n' f2.type [c2] = some y2 := by simpa [o2, k2] using hg 2 f2 rfl
  obtain ⟨x0, hx0, _, hw0⟩ := DataW.trod_int hf0 t0
  obtain ⟨x1, hx1, _, hw1⟩ := DataW.trod_int hf1 t1
  obtain ⟨x2, hx2, _, hw2⟩ := DataW.trod_int hf2 t2
  simp only [List.cons.injEq, and_true] at hx0 hx1 hx2
  subst hx0 hx1 hx2
  obtain ⟨A, m, c, l, hcs, h1, h2, h3, h4⟩ := dots_of_trod ht he hg0 hg1 hg2 hg3 hone' hCe hby hB (fun q hq => hlt q (List.mem_append_right _ hq)) (fun elems spare e => hsz X0.1 elems spare (by rw [← e]))
  simp only [List.cons.injEq, and_true] at hcs
  subst hcs
  exact ⟨x0, x1, x2, A, m, c, l, rfl, hw0, hw1, hw2, h1, h2, h3, h4⟩
theorem wf_sheet {x y z : Int} (hx : (Lit.int .i64 x).wf = true) (hy : (Lit.int .i64 y).wf = true) (hz : (Lit.int .u32 z).wf = true) : (-9223372036854775808 ≤ x ∧ x ≤ 9223372036854775807) ∧ (-9223372036854775808 ≤ y ∧ y ≤ 9223372036854775807) ∧ 0 ≤ z ∧ z < 4294967296 := by
  simp [Lit.wf, IntKind.min, IntKind.max, IntKind.signed, IntKind.bits] at hx hy hz
  omega
end
/-- the reach of a slice that is the second field of a struct -/
theorem sized_in_pair {H : Type} {P : Program} {ts : List TypeId} {ds : List (DataW H)} (h : (DataW.weightsEach P ts ds).all (· ≤ reachBytes) = true) {j : Nat} {t td e : TypeId} {F0 F1 : Field} {a : DataW H} {elems spare : List (DataW H)} (ht : ts[j]? = some t) (hd : ds[j]? = some (.agg [a, .slice elems spare]))
    (hs : P.underlying t = some (.struct #[F0, F1])) (h1 : F1.type = td) (hu : P.underlying td = some (.slice e)) : (elems.length + spare.length) * P.bytesOf e ≤ reachBytes := by
  have := List.all_eq_true.1 h _ (DataW.weights_mem_each ht hd ((elems.length + spare.length) * P.bytesOf e) (by simp [DataW.weights, DataW.weightsEach, hs, h1, hu]))
  simpa using this
end Go.Proofs.Ytfciaefjilobaaa
