/- Plain law: which pixels a triangle of a fan covers, by rows; each pixel of the square is told at most once, the point's own once. No program is named. -/
import Derived.Test.YtkmdeaffhneibaaFanLaw
namespace Go.Proofs.Ytkmdeaffhneibaa

def clampI (x : Int) : Int := if 32767 < (if x < -32768 then -32768 else x) then 32767 else (if x < -32768 then -32768 else x)
theorem clampI_range (x : Int) : -32768 ≤ clampI x ∧ clampI x ≤ 32767 := by unfold clampI; split <;> split at * <;> omega
def heldV (a : Vec) : Vec := (clampI a.1, clampI a.2)

/-- on which side of the line from a to b the point p lies -/
def sideI (a b p : Vec) : Int := (b.1 - a.1) * (p.2 - a.2) - (b.2 - a.2) * (p.1 - a.1)
def topB (a b : Vec) : Bool := decide (b.2 < a.2) || (decide (b.2 = a.2) && decide (a.1 < b.1))
def edgeB (a b m : Vec) : Bool := decide (0 < sideI a b m) || (decide (sideI a b m = 0) && topB a b)
def covB (t0 t1 t2 m : Vec) : Bool := edgeB t0 t1 m && edgeB t1 t2 m && edgeB t2 t0 m
def relV (p a : Vec) : Vec := (a.1 - p.1, a.2 - p.2)

theorem side_cr (p a b : Vec) : sideI a b p = cr (relV p a) (relV p b) := by
  simp only [sideI, cr, relV]; grind
theorem side_area (p a b : Vec) : sideI p a b = cr (relV p a) (relV p b) := rfl
theorem side_back (p b m : Vec) : sideI b p m = cr (relV p m) (relV p b) := by
  simp only [sideI, cr, relV]; grind
theorem top_up (p a : Vec) : topB p a = upB (relV p a) := by
  unfold topB upB upS relV
  simp only
  rw [Bool.eq_iff_iff]
  simp
  omega
theorem top_not (p b : Vec) (h : ¬ ((relV p b).1 = 0 ∧ (relV p b).2 = 0)) : topB b p = !upB (relV p b) := by
  unfold topB upB upS relV at *
  simp only at *
  rw [Bool.eq_iff_iff]
  simp
  omega
theorem cr_ne {a b : Vec} (h : 0 < cr a b) : ¬ (b.1 = 0 ∧ b.2 = 0) := by
  rintro ⟨h1, h2⟩
  simp [cr, h1, h2] at h
theorem cov_sec (p a b m : Vec) (h : 0 < cr (relV p a) (relV p b)) (hc : covB p a b m = true) : secB (relV p a) (relV p b) (relV p m) = true := by
  unfold covB at hc
  simp only [Bool.and_eq_true] at hc
  obtain ⟨⟨h1, _⟩, h3⟩ := hc
  unfold edgeB at h1 h3
  rw [top_up, side_area] at h1
  rw [top_not p b (cr_ne h), side_back] at h3
  unfold secB secS
  rw [h1, h3]
  rfl
theorem cov_own (p a b : Vec) (h : 0 < cr (relV p a) (relV p b)) : covB p a b p = (upB (relV p a) && !upB (relV p b)) := by
  have z : relV p p = (0, 0) := by simp [relV]
  unfold covB edgeB
  rw [top_up, side_cr p a b, side_area p a p, top_not p b (cr_ne h), side_back p b p, z]
  have e1 : cr (relV p a) (0, 0) = 0 := by simp [cr]
  have e2 : cr (0, 0) (relV p b) = 0 := by simp [cr]
  rw [e1, e2]
  simp [h]

/-! rows -/
def edgeRow (a b : Vec) (y : Int) : Int → Bool := fun x => edgeB a b (x, y)
theorem side_step (a b : Vec) (y x x' : Int) : sideI a b (x, y) - sideI a b (x', y) = (b.2 - a.2) * (x' - x) := by
  simp only [sideI]; grind
theorem edge_between (a b : Vec) (y x x' x'' : Int) (h1 : x ≤ x') (h2 : x' ≤ x'') (hx : edgeB a b (x, y) = true) (hx'' : edgeB a b (x'', y) = true) : edgeB a b (x', y) = true := by
  rcases Int.lt_trichotomy (b.2 - a.2) 0 with hd | hd | hd
  · rcases Int.lt_or_eq_of_le h1 with h | rfl
    · have s := side_step a b y x' x
      have hp := Int.mul_pos_of_neg_of_neg hd (by omega : x - x' < 0)
      unfold edgeB at hx ⊢
      simp only [Bool.or_eq_true, Bool.and_eq_true, decide_eq_true_eq] at hx ⊢
      left
      rcases hx with hx | hx <;> omega
    · exact hx
  · have s := side_step a b y x x'
    rw [hd, Int.zero_mul] at s
    unfold edgeB at hx ⊢
    rw [show sideI a b (x', y) = sideI a b (x, y) from by omega]
    exact hx
  · rcases Int.lt_or_eq_of_le h2 with h | rfl
    · have s := side_step a b y x' x''
      have hp := Int.mul_pos hd (by omega : 0 < x'' - x')
      unfold edgeB at hx'' ⊢
      simp only [Bool.or_eq_true, Bool.and_eq_true, decide_eq_true_eq] at hx'' ⊢
      left
      rcases hx'' with hx | hx <;> omega
    · exact hx''
def midV (x y : Int) : Vec := (16 * x + 8, 16 * y + 8)
def covP (t0 t1 t2 : Vec) (x y : Int) : Bool := covB t0 t1 t2 (midV x y)
theorem cov_between (t0 t1 t2 : Vec) (y x x' x'' : Int) (h1 : x ≤ x') (h2 : x' ≤ x'') (hx : covP t0 t1 t2 x y = true) (hx'' : covP t0 t1 t2 x'' y = true) : covP t0 t1 t2 x' y = true := by
  unfold covP covB midV at *
  simp only [Bool.and_eq_true] at *
  exact ⟨⟨edge_between _ _ _ _ _ _ (by omega) (by omega) hx.1.1 hx''.1.1, edge_between _ _ _ _ _ _ (by omega) (by omega) hx.1.2 hx''.1.2⟩, edge_between _ _ _ _ _ _ (by omega) (by omega) hx.2 hx''.2⟩

/-- from f on, n places: the first that is covered -/
def trimF (cov : Int → Bool) : Nat → Int → Int
  | 0, f => f
  | n + 1, f => if cov f then f else trimF cov n (f + 1)
/-- below t, n places: behind the last that is covered -/
def trimT (cov : Int → Bool) : Nat → Int → Int
  | 0, t => t
  | n + 1, t => if cov (t - 1) then t else trimT cov n (t - 1)
theorem trimF_spec (cov : Int → Bool) : ∀ (n : Nat) (f : Int), f ≤ trimF cov n f ∧ trimF cov n f ≤ f + n ∧ (∀ x, f ≤ x → x < trimF cov n f → cov x = false) ∧ (trimF cov n f < f + n → cov (trimF cov n f) = true)
  | 0, f => ⟨Int.le_refl _, by simp [trimF], fun x h1 h2 => by simp [trimF] at h2; omega, fun h => by simp [trimF] at h⟩
  | n + 1, f => by
    unfold trimF
    by_cases hc : cov f = true
    · rw [if_pos hc]
      exact ⟨Int.le_refl _, by omega, fun x h1 h2 => by omega, fun _ => hc⟩
    · rw [if_neg hc]
      obtain ⟨k1, k2, k3, k4⟩ := trimF_spec cov n (f + 1)
      refine ⟨by omega, by omega, fun x h1 h2 => ?_, fun h => k4 (by omega)⟩
      rcases Int.lt_or_eq_of_le h1 with h | rfl
      · exact k3 x (by omega) h2
      · simpa using hc
theorem trimT_spec (cov : Int → Bool) : ∀ (n : Nat) (t : Int), trimT cov n t ≤ t ∧ t - n ≤ trimT cov n t ∧ (∀ x, trimT cov n t ≤ x → x < t → cov x = false) ∧ (t - n < trimT cov n t → cov (trimT cov n t - 1) = true)
  | 0, t => ⟨Int.le_refl _, by simp [trimT], fun x h1 h2 => by simp [trimT] at h1; omega, fun h => by simp [trimT] at h⟩
  | n + 1, t => by
    unfold trimT
    by_cases hc : cov (t - 1) = true
    · rw [if_pos hc]
      exact ⟨Int.le_refl _, by omega, fun x h1 h2 => by omega, fun _ => hc⟩
    · rw [if_neg hc]
      obtain ⟨k1, k2, k3, k4⟩ := trimT_spec cov n (t - 1)
      refine ⟨by omega, by omega, fun x h1 h2 => ?_, fun h => k4 (by omega)⟩
      by_cases hx : x = t - 1
      · subst hx; simpa using hc
      · exact k3 x h1 (by omega)
def rowF (cov : Int → Bool) (f t : Int) : Int := trimF cov (t - f).toNat f
def rowT (cov : Int → Bool) (f t : Int) : Int := trimT cov (t - rowF cov f t).toNat t
theorem row_in (cov : Int → Bool) (hcv : ∀ x x' x'', x ≤ x' → x' ≤ x'' → cov x = true → cov x'' = true → cov x' = true) (f t : Int) (hft : f ≤ t) (x : Int) :
    (decide (rowF cov f t ≤ x) && decide (x < rowT cov f t)) = (decide (f ≤ x) && decide (x < t) && cov x) := by
  obtain ⟨a1, a2, a3, a4⟩ := trimF_spec cov (t - f).toNat f
  obtain ⟨b1, b2, b3, b4⟩ := trimT_spec cov (t - rowF cov f t).toNat t
  have e1 : f + ((t - f).toNat : Int) = t := by omega
  rw [e1] at a2 a4
  change f ≤ rowF cov f t at a1
  change rowF cov f t ≤ t at a2
  change rowF cov f t < t → cov (rowF cov f t) = true at a4
  change ∀ x, f ≤ x → x < rowF cov f t → cov x = false at a3
  have e2 : t - ((t - rowF cov f t).toNat : Int) = rowF cov f t := by omega
  rw [e2] at b2 b4
  change rowT cov f t ≤ t at b1
  change rowF cov f t ≤ rowT cov f t at b2
  change ∀ x, rowT cov f t ≤ x → x < t → cov x = false at b3
  change rowF cov f t < rowT cov f t → cov (rowT cov f t - 1) = true at b4
  rw [Bool.eq_iff_iff]
  simp only [Bool.and_eq_true, decide_eq_true_eq]
  constructor
  · rintro ⟨h1, h2⟩
    exact ⟨⟨by omega, by omega⟩, hcv _ _ _ h1 (by omega : x ≤ rowT cov f t - 1) (a4 (by omega)) (b4 (by omega))⟩
  · rintro ⟨⟨h1, h2⟩, h3⟩
    refine ⟨?_, ?_⟩
    · rcases Int.lt_or_le x (rowF cov f t) with h | h
      · rw [a3 x h1 h] at h3; cases h3
      · exact h
    · rcases Int.lt_or_le x (rowT cov f t) with h | h
      · exact h
      · rw [b3 x h h2] at h3; cases h3
theorem row_bounds (cov : Int → Bool) (f t : Int) (hft : f ≤ t) : f ≤ rowF cov f t ∧ rowF cov f t ≤ rowT cov f t ∧ rowT cov f t ≤ t := by
  obtain ⟨a1, a2, _, _⟩ := trimF_spec cov (t - f).toNat f
  obtain ⟨b1, b2, _, _⟩ := trimT_spec cov (t - rowF cov f t).toNat t
  unfold rowT
  unfold rowF at *
  omega

/-- a row: its line, its first pixel, the one behind its last -/
abbrev RowI := Int × Int × Int
def rowAt (cov : Int → Int → Bool) (f t y : Int) : List RowI := if rowF (fun x => cov x y) f t < rowT (fun x => cov x y) f t then [(y, rowF (fun x => cov x y) f t, rowT (fun x => cov x y) f t)] else []
def rowsUp (cov : Int → Int → Bool) (f t y0 : Int) : Nat → List RowI
  | 0 => []
  | n + 1 => rowsUp cov f t y0 n ++ rowAt cov f t (y0 + n)
def hitB (r : RowI) (x y : Int) : Bool := decide (r.1 = y) && (decide (r.2.1 ≤ x) && decide (x < r.2.2))
def hits : List RowI → Int → Int → Int
  | [], _, _ => 0
  | r :: l, x, y => one (hitB r x y) + hits l x y
theorem hits_append (l l' : List RowI) (x y : Int) : hits (l ++ l') x y = hits l x y + hits l' x y := by
  induction l with
  | nil => simp [hits]
  | cons r l ih => simp only [List.cons_append, hits, ih]; omega
theorem hits_rowAt (cov : Int → Int → Bool) (f t y x y' : Int) : hits (rowAt cov f t y) x y' = one (decide (y = y') && (decide (rowF (fun x => cov x y) f t ≤ x) && decide (x < rowT (fun x => cov x y) f t))) := by
  unfold rowAt
  split
  · simp [hits, hitB]
  · simp only [hits]
    rw [show (decide (rowF (fun x => cov x y) f t ≤ x) && decide (x < rowT (fun x => cov x y) f t)) = false from by simp; omega]
    simp [one]
theorem hits_up (cov : Int → Int → Bool) (hcv : ∀ y x x' x'', x ≤ x' → x' ≤ x'' → cov x y = true → cov x'' y = true → cov x' y = true) (f t y0 : Int) (hft : f ≤ t) (n : Nat) (x y : Int) :
    hits (rowsUp cov f t y0 n) x y = one (decide (y0 ≤ y) && decide (y < y0 + n) && (decide (f ≤ x) && decide (x < t) && cov x y)) := by
  induction n with
  | zero =>
    simp only [rowsUp, hits]
    rw [show (decide (y0 ≤ y) && decide (y < y0 + ((0 : Nat) : Int))) = false from by simp]
    rfl
  | succ n ih =>
    rw [rowsUp, hits_append, ih, hits_rowAt, row_in (fun x => cov x (y0 + n)) (hcv _) f t hft x]
    by_cases h : y0 + (n : Int) = y
    · subst h
      rw [show (decide (y0 ≤ y0 + (n : Int)) && decide (y0 + (n : Int) < y0 + (n : Int))) = false from by simp,
        show (decide (y0 ≤ y0 + (n : Int)) && decide (y0 + (n : Int) < y0 + ((n + 1 : Nat) : Int))) = true from by simp; omega]
      simp [one]
    · rw [show (decide (y0 + (n : Int) = y)) = false from by simpa using h,
        show (decide (y0 ≤ y) && decide (y < y0 + ((n + 1 : Nat) : Int))) = (decide (y0 ≤ y) && decide (y < y0 + (n : Int))) from by rw [Bool.eq_iff_iff]; simp; omega]
      simp [one]
theorem up_bounds (cov : Int → Int → Bool) (f t y0 : Int) (hft : f ≤ t) (n : Nat) : ∀ r ∈ rowsUp cov f t y0 n, y0 ≤ r.1 ∧ r.1 < y0 + n ∧ f ≤ r.2.1 ∧ r.2.1 < r.2.2 ∧ r.2.2 ≤ t := by
  induction n with
  | zero => intro r hr; simp [rowsUp] at hr
  | succ n ih =>
    intro r hr
    rw [rowsUp] at hr
    rcases List.mem_append.1 hr with hr | hr
    · have := ih r hr; omega
    · have hb := row_bounds (fun x => cov x (y0 + n)) f t hft
      unfold rowAt at hr
      split at hr
      · simp at hr; subst hr
        simp only
        omega
      · simp at hr
theorem up_length (cov : Int → Int → Bool) (f t y0 : Int) (n : Nat) : (rowsUp cov f t y0 n).length ≤ n := by
  induction n with
  | zero => simp [rowsUp]
  | succ n ih =>
    rw [rowsUp, List.length_append]
    unfold rowAt
    split <;> simp <;> omega

/-! a triangle's box -/
def min2 (a b : Int) : Int := if b < a then b else a
def max2 (a b : Int) : Int := if a < b then b else a
def lo3 (a b c : Int) : Int := min2 (min2 a b) c
def hi3 (a b c : Int) : Int := max2 (max2 a b) c
def spanF (lo : Int) : Int := max2 ((lo + 7) / 16) 0
def spanT (hi size : Int) : Int := min2 ((hi - 8) / 16 + 1) size
/-- the box: x's and y's; zeroes, if it is empty -/
def boxI (t0 t1 t2 : Vec) (w h : Int) : Int × Int × Int × Int :=
  if spanF (lo3 t0.1 t1.1 t2.1) < spanT (hi3 t0.1 t1.1 t2.1) w ∧ spanF (lo3 t0.2 t1.2 t2.2) < spanT (hi3 t0.2 t1.2 t2.2) h then
    (spanF (lo3 t0.1 t1.1 t2.1), spanT (hi3 t0.1 t1.1 t2.1) w, spanF (lo3 t0.2 t1.2 t2.2), spanT (hi3 t0.2 t1.2 t2.2) h) else (0, 0, 0, 0)
/-- the rows of a triangle in a picture -/
def rowsI (t0 t1 t2 : Vec) (w h : Int) : List RowI :=
  rowsUp (covP t0 t1 t2) (boxI t0 t1 t2 w h).1 (boxI t0 t1 t2 w h).2.1 (boxI t0 t1 t2 w h).2.2.1 ((boxI t0 t1 t2 w h).2.2.2 - (boxI t0 t1 t2 w h).2.2.1).toNat
theorem box_bounds (t0 t1 t2 : Vec) (w h : Int) (hw : 0 ≤ w) (hh : 0 ≤ h) : 0 ≤ (boxI t0 t1 t2 w h).1 ∧ (boxI t0 t1 t2 w h).1 ≤ (boxI t0 t1 t2 w h).2.1 ∧ (boxI t0 t1 t2 w h).2.1 ≤ w ∧
    0 ≤ (boxI t0 t1 t2 w h).2.2.1 ∧ (boxI t0 t1 t2 w h).2.2.1 ≤ (boxI t0 t1 t2 w h).2.2.2 ∧ (boxI t0 t1 t2 w h).2.2.2 ≤ h := by
  have f1 := fun lo => (show 0 ≤ spanF lo by unfold spanF max2; split <;> omega)
  have f2 := fun hi size => (show spanT hi size ≤ size by unfold spanT min2; split <;> omega)
  unfold boxI
  split
  · rename_i hb
    have := f1 (lo3 t0.1 t1.1 t2.1)
    have := f1 (lo3 t0.2 t1.2 t2.2)
    have := f2 (hi3 t0.1 t1.1 t2.1) w
    have := f2 (hi3 t0.2 t1.2 t2.2) h
    simp only
    omega
  · simp only; omega
theorem rows_bounds (t0 t1 t2 : Vec) (w h : Int) (hw : 0 ≤ w) (hh : 0 ≤ h) : ∀ r ∈ rowsI t0 t1 t2 w h, 0 ≤ r.1 ∧ r.1 < h ∧ 0 ≤ r.2.1 ∧ r.2.1 < r.2.2 ∧ r.2.2 ≤ w := by
  intro r hr
  have hb := box_bounds t0 t1 t2 w h hw hh
  have := up_bounds _ _ _ _ hb.2.1 _ r hr
  omega
theorem rows_length (t0 t1 t2 : Vec) (w h : Int) (hw : 0 ≤ w) (hh : 0 ≤ h) : ((rowsI t0 t1 t2 w h).length : Int) ≤ h := by
  have hb := box_bounds t0 t1 t2 w h hw hh
  have h1 := up_length (covP t0 t1 t2) (boxI t0 t1 t2 w h).1 (boxI t0 t1 t2 w h).2.1 (boxI t0 t1 t2 w h).2.2.1 ((boxI t0 t1 t2 w h).2.2.2 - (boxI t0 t1 t2 w h).2.2.1).toNat
  unfold rowsI
  omega
theorem rows_hits (t0 t1 t2 : Vec) (w h : Int) (hw : 0 ≤ w) (hh : 0 ≤ h) (x y : Int) : hits (rowsI t0 t1 t2 w h) x y =
    one (decide ((boxI t0 t1 t2 w h).2.2.1 ≤ y) && decide (y < (boxI t0 t1 t2 w h).2.2.2) && (decide ((boxI t0 t1 t2 w h).1 ≤ x) && decide (x < (boxI t0 t1 t2 w h).2.1) && covP t0 t1 t2 x y)) := by
  have hb := box_bounds t0 t1 t2 w h hw hh
  unfold rowsI
  rw [hits_up _ (fun y x x' x'' h1 h2 h3 h4 => cov_between t0 t1 t2 y x x' x'' h1 h2 h3 h4) _ _ _ hb.2.1]
  rw [show (boxI t0 t1 t2 w h).2.2.1 + (((boxI t0 t1 t2 w h).2.2.2 - (boxI t0 t1 t2 w h).2.2.1).toNat : Int) = (boxI t0 t1 t2 w h).2.2.2 from by omega]
theorem one_le_of {a b : Bool} (h : a = true → b = true) : one a ≤ one b := by cases a <;> cases b <;> simp [one] at *
theorem rows_le (t0 t1 t2 : Vec) (w h : Int) (hw : 0 ≤ w) (hh : 0 ≤ h) (x y : Int) : hits (rowsI t0 t1 t2 w h) x y ≤ one (covP t0 t1 t2 x y) := by
  rw [rows_hits _ _ _ _ _ hw hh]
  exact one_le_of (fun h => by simp only [Bool.and_eq_true] at h; exact h.2.2)
theorem lo3_le (a b c : Int) : lo3 a b c ≤ a := by unfold lo3 min2; split <;> split at * <;> omega
theorem le_hi3 (a b c : Int) : a ≤ hi3 a b c := by unfold hi3 max2; split <;> split at * <;> omega
/-- the point's own pixel lies in the box of each of its triangles -/
theorem rows_own (x y : Int) (t1 t2 : Vec) (hx : 0 ≤ x ∧ x < 64) (hy : 0 ≤ y ∧ y < 64) : hits (rowsI (midV x y) t1 t2 64 64) x y = one (covP (midV x y) t1 t2 x y) := by
  rw [rows_hits _ _ _ _ _ (by omega) (by omega)]
  have l1 := lo3_le (midV x y).1 t1.1 t2.1
  have l2 := lo3_le (midV x y).2 t1.2 t2.2
  have g1 := le_hi3 (midV x y).1 t1.1 t2.1
  have g2 := le_hi3 (midV x y).2 t1.2 t2.2
  have m1 : (midV x y).1 = 16 * x + 8 := rfl
  have m2 : (midV x y).2 = 16 * y + 8 := rfl
  have f1 : spanF (lo3 (midV x y).1 t1.1 t2.1) ≤ x := by unfold spanF max2; split <;> omega
  have f2 : spanF (lo3 (midV x y).2 t1.2 t2.2) ≤ y := by unfold spanF max2; split <;> omega
  have s1 : x < spanT (hi3 (midV x y).1 t1.1 t2.1) 64 := by unfold spanT min2; split <;> omega
  have s2 : y < spanT (hi3 (midV x y).2 t1.2 t2.2) 64 := by unfold spanT min2; split <;> omega
  unfold boxI
  rw [if_pos ⟨by omega, by omega⟩]
  simp [f1, f2, s1, s2]

/-- the fan: no pixel twice, the point's own once. q: the ring's points, held -/
theorem fan_pixels (x y : Int) (hx : 0 ≤ x ∧ x < 64) (hy : 0 ≤ y ∧ y < 64) (q : Nat → Vec) (n : Nat) (hn : 0 < n) (hs : ∀ k, k < n → 0 < sideI (q k) (q ((k + 1) % n)) (midV x y))
    (ht : sumTo (fun k => one (decide ((q k).2 < 16 * y + 8) != decide ((q ((k + 1) % n)).2 < 16 * y + 8))) n = 2) :
    (∀ u v : Int, sumTo (fun k => hits (rowsI (midV x y) (q k) (q ((k + 1) % n)) 64 64) u v) n ≤ 1) ∧
      sumTo (fun k => hits (rowsI (midV x y) (q k) (q ((k + 1) % n)) 64 64) x y) n = 1 := by
  have hlo : ∀ a : Vec, decide (a.2 < 16 * y + 8) = loB (relV (midV x y) a) := by
    intro a
    unfold loB relV midV
    simp only
    rw [Bool.eq_iff_iff]
    simp
    omega
  have hC : ∀ k, k < n → 0 < cr (relV (midV x y) (q k)) (relV (midV x y) (q ((k + 1) % n))) := fun k hk => by
    rw [← side_cr]; exact hs k hk
  obtain ⟨w1, w2⟩ := fan_once (fun k => relV (midV x y) (q k)) n hn hC (by rw [← ht]; exact sumTo_congr (fun k _ => by rw [hlo, hlo]))
  have own : sumTo (fun k => hits (rowsI (midV x y) (q k) (q ((k + 1) % n)) 64 64) x y) n = 1 := by
    rw [← w1]
    exact sumTo_congr (fun k hk => by rw [rows_own x y _ _ hx hy, covP, cov_own _ _ _ (hC k hk)])
  refine ⟨fun u v => ?_, own⟩
  by_cases e : u = x ∧ v = y
  · obtain ⟨rfl, rfl⟩ := e
    omega
  · rw [← w2 (relV (midV x y) (midV u v)) (by simp only [relV, midV]; omega)]
    exact sumTo_le (fun k hk => Int.le_trans (rows_le _ _ _ _ _ (by omega) (by omega) _ _) (one_le_of (fun h => cov_sec _ _ _ _ (hC k hk) h)))
end Go.Proofs.Ytkmdeaffhneibaa
