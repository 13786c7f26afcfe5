/- Walks: cover.Count. -/
import Derived.Test.YtkmdeaffhneibaaCrows
import Derived.Test.YtkmdeaffhneibaaFanSeen
namespace Go.Proofs.Ytkmdeaffhneibaa
open Go.RowKit Go.BigFrame

def rw_ (l : List RowI) (k : Nat) : RowI := l.getD k (0, 0, 0)
theorem rw_of {l : List RowI} {k : Nat} (h : k < l.length) : l[k]? = some (rw_ l k) := by simp [rw_, List.getD, List.getElem?_eq_getElem h]
theorem RowCs_length : ∀ (l : List RowI), (RowCs l).length = l.length * 3
  | [] => rfl
  | p :: l => by
    have := RowCs_length l
    simp only [RowCs, List.flatMap_cons, List.length_append, List.length_cons] at this ⊢
    rw [this]
    simp [rowC]
    omega
theorem RowCs_at : ∀ {l : List RowI} {k : Nat}, k < l.length → (RowCs l)[k * 3]? = some (.int .i64 (rw_ l k).1) ∧ (RowCs l)[k * 3 + 1]? = some (.int .i64 (rw_ l k).2.1) ∧ (RowCs l)[k * 3 + 2]? = some (.int .i64 (rw_ l k).2.2)
  | p :: r, 0, _ => ⟨rfl, rfl, rfl⟩
  | p :: r, k + 1, h => by
    have h1 := RowCs_at (l := r) (k := k) (by simpa using h)
    have e : (k + 1) * 3 = k * 3 + 3 := by omega
    rw [e]
    exact h1
theorem own_rows {w : World} {base n c : Nat} {A : Option Addr} {l : List RowI} (h : w.ownsRow base 37 3 (.slice A n c) n (RowCs l)) (hn : 0 < n) :
    ∃ g, A = some ⟨g, 0, none⟩ ∧ base ≤ g ∧ g < w.heap.size ∧ ∀ k, k < n → w.cell? ⟨g, k * 3, none⟩ = some (.int .i64 (rw_ l k).1) ∧ w.cell? ⟨g, k * 3 + 1, none⟩ = some (.int .i64 (rw_ l k).2.1) ∧ w.cell? ⟨g, k * 3 + 2, none⟩ = some (.int .i64 (rw_ l k).2.2) := by
  have hl : l.length = n := by have := h.1; rw [RowCs_length] at this; omega
  obtain ⟨g, cap, hv, hg, hlt⟩ := h.form hn
  cases hv
  refine ⟨g, rfl, hg, hlt, fun k hk => ?_⟩
  obtain ⟨h0, h1, h2⟩ := RowCs_at (l := l) (k := k) (by omega)
  have hlen := RowCs_length l
  exact ⟨(h.cellAt _ (by omega)).trans h0, (h.cellAt _ (by omega)).trans h1, (h.cellAt _ (by omega)).trans h2⟩

set_option maxRecDepth 100000 in
set_option maxHeartbeats 2000000 in
theorem count_any (a1 a2 a3 b1 b2 b3 p1 p2 p3 : Int) (x y : Int) (w : World) (hx : 1 ≤ x ∧ x ≤ 1024) (hy : 1 ≤ y ∧ y ≤ 1024) (R : List RowI)
    (hR : R = rowsI (holdP (a1, a2, a3)) (holdP (b1, b2, b3)) (holdP (p1, p2, p3)) x y)
    (ha : 0 < sideI (holdP (a1, a2, a3)) (holdP (b1, b2, b3)) (holdP (p1, p2, p3))) :
    Calls Try.prog 4 #[triV ((a1, a2, a3), (b1, b2, b3), (p1, p2, p3)), .int .i64 x, .int .i64 y] w fun e w' =>
      e = .returned (.tuple #[.int .i64 (cntR R), .int .i64 0]) ∧ Below w.heap.size w w' := by
  have hRow := fun w => rows_any a1 a2 a3 b1 b2 b3 p1 p2 p3 x y w hx hy R hR ha
  have hbd : ∀ r ∈ R, 0 ≤ r.1 ∧ r.1 < y ∧ 0 ≤ r.2.1 ∧ r.2.1 < r.2.2 ∧ r.2.2 ≤ x := by rw [hR]; exact rows_bounds _ _ _ _ _ (by omega) (by omega)
  have hln : (R.length : Int) ≤ y := by rw [hR]; exact rows_length _ _ _ _ _ (by omega) (by omega)
  clear hR ha
  obtain ⟨hx0, hx9⟩ := hx
  obtain ⟨hy0, hy9⟩ := hy
  have HB := Lib.hid hbd
  clear hbd
  unfold triV at *
  simp only at hRow ⊢
  have hb1 : Below w.heap.size w (w.alloc (.cells #[.int .i32 a1, .int .i32 a2, .int .i32 a3, .int .i32 b1, .int .i32 b2, .int .i32 b3, .int .i32 p1, .int .i32 p2, .int .i32 p3] 29)) := (Below.refl _ _).alloc (Nat.le_refl _) _
  go_enter Try.func4, Try.ntmps4
  go_wp2_with fail
  refine (hRow _).mono ?_
  rintro e w2 ⟨A, c, rfl, ho, hb2⟩
  have hb3 := below_cut hb1 hb2 (Nat.le_refl _)
  clear hb1 hb2 hRow
  have hn9 : R.length ≤ 1024 := by omega
  go_wp2_with fail
  go_loopw [10, 22] (fun s i wr => ∃ k : Nat, k ≤ R.length ∧ i = .int .i64 k ∧ s = .int .i64 (cntR (R.take k)) ∧ Below w2.heap.size w2 wr) (fun _ i _ => R.length - (intOf i).toNat)
  case atStart => exact ⟨0, by omega, rfl, rfl, Below.refl _ _⟩
  case round =>
    obtain ⟨k, hk, rfl, rfl, hb4⟩ := hrel
    by_cases hlt : k < R.length
    · obtain ⟨g, rfl, hg, hgl, hc⟩ := own_rows (own_below ho hb4) (by omega)
      obtain ⟨c0, c1, c2⟩ := hc k hlt
      clear hc
      have hmem := HB.out (rw_ R k) (List.mem_of_getElem? (rw_of hlt))
      have htk : R.take (k + 1) = R.take k ++ [rw_ R k] := by rw [List.take_add_one, rw_of hlt]; rfl
      have hcs : cntR (R.take (k + 1)) = cntR (R.take k) + ((rw_ R k).2.2 - (rw_ R k).2.1) := by rw [htk, cntR_append]; simp [cntR]
      have hcb := cntR_bd (l := R.take k) (fun r hr => by have := HB.out r (List.mem_of_mem_take hr); omega)
      have hlk := List.length_take_le k R
      have HC := Lib.hid hcs
      clear hcs htk
      obtain ⟨m1, m2, m3, m4, m5⟩ := hmem
      obtain ⟨v1, v2⟩ := hcb
      generalize cntR (R.take k) = s at *
      generalize (rw_ R k) = r at *
      obtain ⟨r0, r1, r2⟩ := r
      simp only at c0 c1 c2 m1 m2 m3 m4 m5
      have hb5 := hb4.alloc hb4.size (.cells #[.int .i64 r0, .int .i64 r1, .int .i64 r2] 37)
      generalize (List.take k R).length = lk at *
      go_wp2_with fail
      go_roundw
      case rel => exact ⟨k + 1, by omega, by go_num, by rw [HC.out], hb5⟩
      case measure => simp [intOf]; omega
    · obtain rfl : k = R.length := by omega
      go_wp2_with fail
      go_ret2
      exact ⟨by rw [List.take_length]; rfl, below_cut hb3 hb4 (Nat.le_refl _)⟩
end Go.Proofs.Ytkmdeaffhneibaa
