/- Pixels as cells: a slice of structs of three cells, as a list. No program is named. -/
import Derived.Test.YtfciaefjilobaaaOff
import Derived.Test.YtfciaefjilobaaaTail
namespace Go.Proofs.Ytfciaefjilobaaa
open Go.RowKit

/-- a pixel: drawn, depth, colour -/
abbrev Pix := Bool × Int × Int
def pxv (p : Pix) : List Value := [.bool p.1, .int .i32 p.2.1, .int .u32 p.2.2]
def Pixs : List Pix → List Value
  | [] => []
  | p :: r => .bool p.1 :: .int .i32 p.2.1 :: .int .u32 p.2.2 :: Pixs r
def noPix : Pix := (false, 0, 0)
def px (ps : List Pix) (k : Nat) : Pix := ps.getD k noPix
def okPix (p : Pix) : Prop := -2147483648 ≤ p.2.1 ∧ p.2.1 ≤ 2147483647 ∧ 0 ≤ p.2.2 ∧ p.2.2 < 4294967296

theorem Pixs_length (ps : List Pix) : (Pixs ps).length = ps.length * 3 := by
  induction ps with
  | nil => rfl
  | cons p r ih => simp only [Pixs, List.length_cons, ih]; omega
theorem Pixs_append (ps qs : List Pix) : Pixs (ps ++ qs) = Pixs ps ++ Pixs qs := by
  induction ps with
  | nil => rfl
  | cons p r ih => simp only [List.cons_append, Pixs, ih]
theorem Pixs_one (p : Pix) : Pixs [p] = pxv p := rfl
theorem Pixs_oneCell : ∀ {ps : List Pix}, ∀ u ∈ Pixs ps, u.oneCell' = true
  | p :: r, u, h => by
    simp only [Pixs, List.mem_cons] at h
    rcases h with rfl | rfl | rfl | h
    · rfl
    · rfl
    · rfl
    · exact Pixs_oneCell u h
theorem Pixs_at : ∀ {ps : List Pix} {k : Nat}, k < ps.length → (Pixs ps)[k * 3]? = some (.bool (px ps k).1) ∧ (Pixs ps)[k * 3 + 1]? = some (.int .i32 (px ps k).2.1) ∧ (Pixs ps)[k * 3 + 2]? = some (.int .u32 (px ps k).2.2)
  | p :: r, 0, _ => ⟨rfl, rfl, rfl⟩
  | p :: r, k + 1, h => by
    have h1 := Pixs_at (ps := r) (k := k) (by simpa using h)
    have e : (k + 1) * 3 = k * 3 + 3 := by omega
    rw [e]
    exact h1
theorem Pixs_set : ∀ {ps : List Pix} {k : Nat} {p : Pix}, k < ps.length → Pixs (ps.set k p) = (((Pixs ps).set (k * 3) (.bool p.1)).set (k * 3 + 1) (.int .i32 p.2.1)).set (k * 3 + 2) (.int .u32 p.2.2)
  | q :: r, 0, p, _ => rfl
  | q :: r, k + 1, p, h => by
    have h1 := Pixs_set (ps := r) (k := k) (p := p) (by simpa using h)
    have e : (k + 1) * 3 = k * 3 + 3 := by omega
    rw [e, List.set_cons_succ, Pixs, h1]
    rfl
theorem px_replicate {n k : Nat} : px (List.replicate n noPix) k = noPix := by
  rcases Nat.lt_or_ge k n with h | h
  · simp [px, List.getD, h]
  · simp [px, List.getD, h]
theorem Pixs_replicate (n : Nat) : Pixs (List.replicate n noPix) = (madeCells #[.bool false, .int .i32 0, .int .u32 0] (n * 3)).toList := by
  refine List.ext_getElem? fun i => ?_
  rcases Nat.lt_or_ge i (n * 3) with h | h
  · obtain ⟨k, r, hr, rfl⟩ : ∃ k r, r < 3 ∧ i = k * 3 + r := ⟨i / 3, i % 3, Nat.mod_lt _ (by omega), by omega⟩
    have hk : k < (List.replicate n noPix).length := by simp; omega
    obtain ⟨h0, h1, h2⟩ := Pixs_at hk
    have e : px (List.replicate n noPix) k = noPix := px_replicate
    rw [e] at h0 h1 h2
    have h3 : (k * 3 + r) % 3 = r := by omega
    match r, hr with
    | 0, _ => rw [Nat.add_zero] at *; rw [h0]; simp [madeCells, h, noPix]
    | 1, _ => rw [h1]; simp [madeCells, h, h3, noPix]
    | 2, _ => rw [h2]; simp [madeCells, h, h3, noPix]
  · rw [List.getElem?_eq_none (by rw [Pixs_length]; simpa using h), List.getElem?_eq_none (by simpa [madeCells] using h)]
theorem px_of {ps : List Pix} {k : Nat} (h : k < ps.length) : px ps k = ps[k] := by simp [px, List.getD, List.getElem?_eq_getElem h]
theorem px_mem {ps : List Pix} {k : Nat} (h : k < ps.length) : px ps k ∈ ps := by rw [px_of h]; exact List.getElem_mem h
theorem px_set_same {ps : List Pix} {k : Nat} {p : Pix} (h : k < ps.length) : px (ps.set k p) k = p := by simp [px, List.getD, h]
theorem px_set_other {ps : List Pix} {k j : Nat} {p : Pix} (h : k ≠ j) : px (ps.set k p) j = px ps j := by simp [px, List.getD, List.getElem?_set_ne h]
theorem ext_px {ps qs : List Pix} (hl : ps.length = qs.length) (h : ∀ k, k < ps.length → px ps k = px qs k) : ps = qs := by
  refine List.ext_getElem hl fun k h1 h2 => ?_
  have := h k h1
  rwa [px_of h1, px_of h2] at this

section
variable {w : World} {base g n c k : Nat} {e : TypeId} {ps : List Pix}
theorem own_px_len (h : w.ownsRow base e 3 (.slice (some ⟨g, 0, none⟩) n c) n (Pixs ps)) : ps.length = n := by have := h.1; rw [Pixs_length] at this; omega
theorem own_px_at (h : w.ownsRow base e 3 (.slice (some ⟨g, 0, none⟩) n c) n (Pixs ps)) (hk : k < n) :
    w.cell? ⟨g, k * 3, none⟩ = some (.bool (px ps k).1) ∧ w.cell? ⟨g, k * 3 + 1, none⟩ = some (.int .i32 (px ps k).2.1) ∧ w.cell? ⟨g, k * 3 + 2, none⟩ = some (.int .u32 (px ps k).2.2) := by
  have hl := own_px_len h
  obtain ⟨h0, h1, h2⟩ := Pixs_at (ps := ps) (k := k) (by omega)
  exact ⟨(h.cellAt _ (by omega)).trans h0, (h.cellAt _ (by omega)).trans h1, (h.cellAt _ (by omega)).trans h2⟩
theorem own_px_set (h : w.ownsRow base e 3 (.slice (some ⟨g, 0, none⟩) n c) n (Pixs ps)) (hk : k < n) (p : Pix) :
    (((w.setCell ⟨g, k * 3, none⟩ (.bool p.1)).setCell ⟨g, k * 3 + 1, none⟩ (.int .i32 p.2.1)).setCell ⟨g, k * 3 + 2, none⟩ (.int .u32 p.2.2)).ownsRow base e 3 (.slice (some ⟨g, 0, none⟩) n c) n (Pixs (ps.set k p)) := by
  have hl := own_px_len h
  rw [Pixs_set (by omega)]
  exact (((h.stored _ _).1.stored _ _).1.stored _ _).1
end

section
variable {P : Program} {t e : TypeId} {z : Value} {size bytes : Nat}
/-- make([]T, n), T of any number of cells -/
theorem mk_wide (S : SliceOf P t e z size bytes) (w : World) {ops : Array Oper} {rest : List Oper} {o : Oper} {a : Act} {Q : Exit → Act → World → Prop} (hg : o.guard = none)
    (l c : Operand) (hop : o.op = .makeSlice t l c) (base n : Nat) {kl kc : IntKind} {L C : Int} (hl : a.eval l = .int kl L) (hc : a.eval c = .int kc C) (hL : L = n) (hC : C = n)
    (hb : bytes * n ≤ 281474976710656) (h63 : n ≤ 9223372036854775807) (h4 : base ≤ w.heap.size)
    (hK : ∀ w' : World, w'.ownsRow base e size (.slice (some ⟨w.heap.size, 0, none⟩) n n) n (madeCells z.cells (n * size)).toList → w.grownBy w' none →
      wpList P ops Q rest (a.put o.dst (.slice (some ⟨w.heap.size, 0, none⟩) n n)) w') : wpList P ops Q (o :: rest) a w := by
  obtain ⟨i, h1, h2, h3, rfl⟩ := info_parts S.hi
  exact wpList_make_full w hg l c t hop base e i z size S.ht h1 h2 h3 kl kc L C n hl hc hL hC hb (by unfold maxLen; omega) h4 hK
end

section
variable {w : World} {base g n c k : Nat} {e : TypeId} {ps : List Pix}
theorem st_c0 (h : w.ownsRow base e 3 (.slice (some ⟨g, 0, none⟩) n c) n (Pixs ps)) (hk : k < n) : w.cell? ⟨g, k * 3, none⟩ = some (.bool (px ps k).1) := (own_px_at h hk).1
theorem st_f0 (h : w.ownsRow base e 3 (.slice (some ⟨g, 0, none⟩) n c) n (Pixs ps)) (k : Nat) : w.frozen? ⟨g, k * 3, none⟩ = false := h.frozenAt _
theorem st_c1 (h : w.ownsRow base e 3 (.slice (some ⟨g, 0, none⟩) n c) n (Pixs ps)) (hk : k < n) (v : Value) : (w.setCell ⟨g, k * 3, none⟩ v).cell? ⟨g, k * 3 + 1, none⟩ = some (.int .i32 (px ps k).2.1) := by
  rw [(h.stored _ v).1.cellAt _ (by omega), List.getElem?_set_ne (by omega)]
  exact (Pixs_at (by rw [own_px_len h]; exact hk)).2.1
theorem st_f1 (h : w.ownsRow base e 3 (.slice (some ⟨g, 0, none⟩) n c) n (Pixs ps)) (k : Nat) (v : Value) : (w.setCell ⟨g, k * 3, none⟩ v).frozen? ⟨g, k * 3 + 1, none⟩ = false := (h.stored _ v).1.frozenAt _
theorem st_c2 (h : w.ownsRow base e 3 (.slice (some ⟨g, 0, none⟩) n c) n (Pixs ps)) (hk : k < n) (v u : Value) : ((w.setCell ⟨g, k * 3, none⟩ v).setCell ⟨g, k * 3 + 1, none⟩ u).cell? ⟨g, k * 3 + 2, none⟩ = some (.int .u32 (px ps k).2.2) := by
  rw [((h.stored _ v).1.stored _ u).1.cellAt _ (by omega), List.getElem?_set_ne (by omega), List.getElem?_set_ne (by omega)]
  exact (Pixs_at (by rw [own_px_len h]; exact hk)).2.2
theorem st_f2 (h : w.ownsRow base e 3 (.slice (some ⟨g, 0, none⟩) n c) n (Pixs ps)) (k : Nat) (v u : Value) : ((w.setCell ⟨g, k * 3, none⟩ v).setCell ⟨g, k * 3 + 1, none⟩ u).frozen? ⟨g, k * 3 + 2, none⟩ = false := ((h.stored _ v).1.stored _ u).1.frozenAt _
end

/-! a pixel's place, and what a plot does -/
def hasP (W H : Nat) (x y : Int) : Prop := 0 ≤ x ∧ 0 ≤ y ∧ x < W ∧ y < H
instance (W H : Nat) (x y : Int) : Decidable (hasP W H x y) := by unfold hasP; infer_instance
def spot (W : Nat) (x y : Int) : Nat := y.toNat * W + x.toNat
theorem spot_lt {W H : Nat} {x y : Int} (h : hasP W H x y) : spot W x y < W * H := by
  obtain ⟨h0, h1, h2, h3⟩ := h
  have hx : x.toNat < W := by omega
  have hy : y.toNat + 1 ≤ H := by omega
  have := Nat.mul_le_mul_right W hy
  unfold spot
  rw [Nat.add_mul, Nat.one_mul, Nat.mul_comm H W] at this
  omega
theorem spot_parts {W H : Nat} {x y : Int} (h : hasP W H x y) (hW : W ≤ 1024) (hH : H ≤ 1024) : ∃ m : Nat, y * (W : Int) = m ∧ (m : Int) + x = (spot W x y : Nat) ∧ m ≤ 1048576 := by
  obtain ⟨h0, h1, h2, h3⟩ := h
  refine ⟨y.toNat * W, ?_, ?_, ?_⟩
  · have : (y.toNat : Int) = y := Int.toNat_of_nonneg h1
    rw [Int.natCast_mul, this]
  · unfold spot
    omega
  · have h4 : y.toNat ≤ 1024 := by omega
    exact Nat.mul_le_mul h4 hW
theorem area_le {W H : Nat} (hW : W ≤ 1024) (hH : H ≤ 1024) : W * H ≤ 1048576 := Nat.mul_le_mul hW hH
theorem area_pos {W H : Nat} (hW : 1 ≤ W) (hH : 1 ≤ H) : 1 ≤ W * H := Nat.mul_le_mul hW hH
/-- is a dot of depth d drawn over p? -/
def near (p : Pix) (d : Int) : Bool := !(p.1 && decide (p.2.1 ≤ d))
def plotIs (W H : Nat) (ps : List Pix) (x y d : Int) : Bool := decide (hasP W H x y) && near (px ps (spot W x y)) d
def plotE (W H : Nat) (x y : Int) : Int := if hasP W H x y then 0 else 3
def plotR (W H : Nat) (ps : List Pix) (x y d c : Int) : List Pix := if plotIs W H ps x y d then ps.set (spot W x y) (true, d, c) else ps
def okPixs (ps : List Pix) : Prop := ∀ p ∈ ps, okPix p
theorem okPixs.px {ps : List Pix} (h : okPixs ps) (k : Nat) : okPix (px ps k) := by
  rcases Nat.lt_or_ge k ps.length with hk | hk
  · exact h _ (px_mem hk)
  · have : Go.Proofs.Ytfciaefjilobaaa.px ps k = noPix := by simp [Go.Proofs.Ytfciaefjilobaaa.px, List.getD, hk]
    rw [this]; exact ⟨by decide, by decide, by decide, by decide⟩
theorem okPixs.set {ps : List Pix} (h : okPixs ps) (k : Nat) {p : Pix} (hp : okPix p) : okPixs (ps.set k p) := fun q hq => by
  rcases List.mem_or_eq_of_mem_set hq with h' | h'
  · exact h q h'
  · subst h'; exact hp
theorem okPixs.none_ (n : Nat) : okPixs (List.replicate n noPix) := fun p hp => by
  obtain ⟨_, rfl⟩ := List.mem_replicate.1 hp
  exact ⟨by decide, by decide, by decide, by decide⟩
theorem plotR_length {W H : Nat} {ps : List Pix} {x y d c : Int} : (plotR W H ps x y d c).length = ps.length := by unfold plotR; split <;> simp
theorem plotR_ok {W H : Nat} {ps : List Pix} {x y d c : Int} (h : okPixs ps) (hp : okPix (true, d, c)) : okPixs (plotR W H ps x y d c) := by
  unfold plotR; split
  · exact h.set _ hp
  · exact h
end Go.Proofs.Ytfciaefjilobaaa
