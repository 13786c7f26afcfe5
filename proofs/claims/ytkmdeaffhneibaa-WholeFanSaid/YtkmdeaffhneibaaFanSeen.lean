/- Plain: how often each pixel has been seen, round by round. No program is named. -/
import Derived.Test.YtkmdeaffhneibaaFanRows
namespace Go.Proofs.Ytkmdeaffhneibaa

def xOf (i : Nat) : Int := ((i % 64 : Nat) : Int)
def yOf (i : Nat) : Int := ((i / 64 : Nat) : Int)
/-- behind k triangles -/
def F0 (R : Nat → List RowI) (k : Nat) (i : Nat) : Int := sumTo (fun j => hits (R j) (xOf i) (yOf i)) k
/-- and r rows of the next one -/
def F1 (R : Nat → List RowI) (k r : Nat) (i : Nat) : Int := F0 R k i + hits ((R k).take r) (xOf i) (yOf i)
/-- and the next row's pixels below u -/
def F2 (R : Nat → List RowI) (k r : Nat) (row : RowI) (u : Int) (i : Nat) : Int := F1 R k r i + one (hitB (row.1, row.2.1, u) (xOf i) (yOf i))
def upd (F : Nat → Int) (i : Nat) (v : Int) (j : Nat) : Int := if j = i then v else F j
theorem F0_zero (R : Nat → List RowI) : F0 R 0 = fun _ => 0 := rfl
theorem F1_zero (R : Nat → List RowI) (k : Nat) : F1 R k 0 = F0 R k := by funext i; simp [F1, hits]
theorem F1_end (R : Nat → List RowI) (k : Nat) : F1 R k (R k).length = F0 R (k + 1) := by funext i; simp [F1, F0, sumTo]
theorem F2_start (R : Nat → List RowI) (k r : Nat) (row : RowI) : F2 R k r row row.2.1 = F1 R k r := by
  funext i
  unfold F2 hitB
  rw [show (decide (row.2.1 ≤ xOf i) && decide (xOf i < row.2.1)) = false from by simp]
  simp [one]
theorem F2_end (R : Nat → List RowI) (k r : Nat) (row : RowI) (h : (R k)[r]? = some row) : F2 R k r row row.2.2 = F1 R k (r + 1) := by
  funext i
  unfold F2 F1
  rw [List.take_add_one, h, hits_append]
  obtain ⟨a, b, c⟩ := row
  simp [hits]
  omega
theorem F2_step (R : Nat → List RowI) (k r : Nat) (row : RowI) (u : Int) (i : Nat) (hf : 0 ≤ row.2.1) (hu : row.2.1 ≤ u ∧ u < 64) (hi : (i : Int) = 64 * row.1 + u) :
    F2 R k r row (u + 1) = upd (F2 R k r row u) i (F2 R k r row u i + 1) := by
  funext j
  unfold upd F2
  by_cases e : j = i
  · subst e
    rw [if_pos rfl]
    have hx : xOf j = u := by unfold xOf; omega
    have hyy : yOf j = row.1 := by unfold yOf; omega
    unfold hitB
    rw [hx, hyy]
    have d1 : decide (row.2.1 ≤ u) = true := by simp; omega
    have d2 : decide (u < u + 1) = true := by simp; omega
    have d3 : decide (u < u) = false := by simp
    simp only [d1, d2, d3]
    simp [one]
  · rw [if_neg e]
    have : hitB (row.1, row.2.1, u + 1) (xOf j) (yOf j) = hitB (row.1, row.2.1, u) (xOf j) (yOf j) := by
      unfold hitB
      rw [Bool.eq_iff_iff]
      simp only [Bool.and_eq_true, decide_eq_true_eq]
      unfold xOf yOf
      omega
    rw [this]
theorem one_bd (b : Bool) : 0 ≤ one b ∧ one b ≤ 1 := by cases b <;> simp [one]
theorem hits_bd (l : List RowI) (x y : Int) : 0 ≤ hits l x y ∧ hits l x y ≤ l.length := by
  induction l with
  | nil => simp [hits]
  | cons r l ih => have := one_bd (hitB r x y); simp only [hits, List.length_cons]; omega
theorem F0_bd (R : Nat → List RowI) (hR : ∀ k, (R k).length ≤ 64) (k i : Nat) : 0 ≤ F0 R k i ∧ F0 R k i ≤ 64 * k := by
  unfold F0
  induction k with
  | zero => simp [sumTo]
  | succ k ih =>
    have := hits_bd (R k) (xOf i) (yOf i)
    have := hR k
    simp only [sumTo]
    omega
theorem F2_bd (R : Nat → List RowI) (hR : ∀ k, (R k).length ≤ 64) (k r : Nat) (hk : k ≤ 32) (row : RowI) (u : Int) (i : Nat) : 0 ≤ F2 R k r row u i ∧ F2 R k r row u i ≤ 5000 := by
  have h1 := F0_bd R hR k i
  have h2 := hits_bd ((R k).take r) (xOf i) (yOf i)
  have h3 := one_bd (hitB (row.1, row.2.1, u) (xOf i) (yOf i))
  have h4 := hR k
  have h5 : ((R k).take r).length ≤ (R k).length := List.length_take_le' _ _
  unfold F2 F1
  omega

/-! the ring -/
abbrev Pt3 := Int × Int × Int
def hP (p : Pt3) : Vec := (clampI p.1, clampI p.2.1)
def rg (l : List Pt3) (k : Nat) : Pt3 := l.getD k (0, 0, 0)
/-- the rows of the k-th triangle round the middle of pixel x, y -/
def fanR (l : List Pt3) (n : Nat) (x y : Int) (k : Nat) : List RowI := rowsI (midV x y) (hP (rg l k)) (hP (rg l ((k + 1) % n))) 64 64
theorem fanR_len (l : List Pt3) (n : Nat) (x y : Int) (k : Nat) : (fanR l n x y k).length ≤ 64 := by
  have := rows_length (midV x y) (hP (rg l k)) (hP (rg l ((k + 1) % n))) 64 64 (by omega) (by omega)
  unfold fanR
  omega
theorem fanR_row {l : List Pt3} {n : Nat} {x y : Int} {k r : Nat} {row : RowI} (h : (fanR l n x y k)[r]? = some row) : 0 ≤ row.1 ∧ row.1 < 64 ∧ 0 ≤ row.2.1 ∧ row.2.1 < row.2.2 ∧ row.2.2 ≤ 64 :=
  rows_bounds _ _ _ 64 64 (by omega) (by omega) row (List.mem_of_getElem? h)
/-- how often the ring crosses the point's height -/
def turnB (l : List Pt3) (n : Nat) (y : Int) (k : Nat) : Bool := decide ((hP (rg l k)).2 < 16 * y + 8) != decide ((hP (rg l ((k + 1) % n))).2 < 16 * y + 8)
def turnS (l : List Pt3) (n : Nat) (y : Int) (k : Nat) : Int := sumTo (fun j => one (turnB l n y j)) k
theorem turnS_bd (l : List Pt3) (n : Nat) (y : Int) (k : Nat) : 0 ≤ turnS l n y k ∧ turnS l n y k ≤ k := by
  unfold turnS
  induction k with
  | zero => simp [sumTo]
  | succ k ih => have := one_bd (turnB l n y k); simp only [sumTo]; omega
theorem turnS_yes {l : List Pt3} {n : Nat} {y : Int} {k : Nat} (h : turnB l n y k = true) : turnS l n y k + 1 = turnS l n y (k + 1) := by unfold turnS; simp only [sumTo, h]; rfl
theorem turnS_no {l : List Pt3} {n : Nat} {y : Int} {k : Nat} (h : turnB l n y k = false) : turnS l n y k = turnS l n y (k + 1) := by unfold turnS; simp only [sumTo, h]; simp [one]
theorem fan_seen (l : List Pt3) (n : Nat) (x y : Int) (hx : 0 ≤ x ∧ x < 64) (hy : 0 ≤ y ∧ y < 64) (hn : 0 < n) (hs : ∀ k, k < n → 0 < sideI (hP (rg l k)) (hP (rg l ((k + 1) % n))) (midV x y)) (ht : turnS l n y n = 2) :
    (∀ i, F0 (fanR l n x y) n i ≤ 1) ∧ ∀ i : Nat, (i : Int) = 64 * y + x → F0 (fanR l n x y) n i = 1 := by
  have h := fan_pixels x y hx hy (fun k => hP (rg l k)) n hn hs ht
  refine ⟨fun i => h.1 _ _, fun i hi => ?_⟩
  have e1 : xOf i = x := by unfold xOf; omega
  have e2 : yOf i = y := by unfold yOf; omega
  unfold F0
  rw [e1, e2]
  exact h.2
/-- the triangle goes the right way round -/
theorem fan_area {l : List Pt3} {n : Nat} {x y : Int} {k : Nat} (h : 0 < sideI (hP (rg l k)) (hP (rg l ((k + 1) % n))) (midV x y)) : 0 < sideI (midV x y) (hP (rg l k)) (hP (rg l ((k + 1) % n))) := by
  rw [side_area, ← side_cr]; exact h
theorem clamp_id {a : Int} (h : -32768 ≤ a ∧ a ≤ 32767) : clampI a = a := by
  unfold clampI
  rw [if_neg (show ¬ a < -32768 by omega), if_neg (by omega)]
theorem mid_hP {x y z : Int} (hx : 0 ≤ x ∧ x < 64) (hy : 0 ≤ y ∧ y < 64) : hP (16 * x + 8, 16 * y + 8, z) = midV x y := by
  unfold hP midV
  rw [clamp_id (by simp only; omega), clamp_id (by simp only; omega)]

def cntR : List RowI → Int
  | [] => 0
  | r :: l => (r.2.2 - r.2.1) + cntR l
theorem cntR_append (l l' : List RowI) : cntR (l ++ l') = cntR l + cntR l' := by
  induction l with
  | nil => simp [cntR]
  | cons r l ih => simp only [List.cons_append, cntR, ih]; omega
theorem cntR_bd {l : List RowI} (h : ∀ r ∈ l, 0 ≤ r.2.1 ∧ r.2.1 < r.2.2 ∧ r.2.2 ≤ 1024) : 0 ≤ cntR l ∧ cntR l ≤ 1024 * l.length := by
  induction l with
  | nil => simp [cntR]
  | cons r l ih =>
    have h1 := h r (by simp)
    have h2 := ih (fun r hr => h r (by simp [hr]))
    simp only [cntR, List.length_cons]
    omega
theorem cnt_six : cntR (rowsI (hP (0, 0, 0)) (hP (64, 0, 0)) (hP (0, 64, 0)) 10 10) = 6 := by decide +kernel
theorem area_six : 0 < sideI (hP (0, 0, 0)) (hP (64, 0, 0)) (hP (0, 64, 0)) := by decide +kernel
end Go.Proofs.Ytkmdeaffhneibaa
