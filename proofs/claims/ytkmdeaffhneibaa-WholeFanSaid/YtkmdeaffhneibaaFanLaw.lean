/- Plain geometry on whole numbers: round a point the sectors of a fan that turns once part all directions. No program is named. -/
namespace Go.Proofs.Ytkmdeaffhneibaa

abbrev Vec := Int × Int
def cr (a b : Vec) : Int := a.1 * b.2 - a.2 * b.1
def upS (x y : Int) : Bool := decide (y < 0) || (decide (y = 0) && decide (0 < x))
def upB (a : Vec) : Bool := upS a.1 a.2
def loB (a : Vec) : Bool := decide (a.2 < 0)
def one (c : Bool) : Int := if c then 1 else 0
/-- is m within the sector from a to b? A: m by b; B: a by m -/
def secS (ua ub : Bool) (A B : Int) : Bool := (decide (0 < B) || (decide (B = 0) && ua)) && (decide (0 < A) || (decide (A = 0) && !ub))
def secB (a b m : Vec) : Bool := secS (upB a) (upB b) (cr m b) (cr a m)
def gS (um ua : Bool) (c : Int) : Int := if um then one (ua && decide (0 < c)) else one (ua || decide (0 ≤ c))
def gI (m a : Vec) : Int := gS (upB m) (upB a) (cr m a)

/-- may a sum of numbers of these signs have that sign? -/
def fitB (s t r : Int) : Bool := if s = 0 then r == t else if t = 0 then r == s else if s = t then r == s else true
theorem fit_add (x y : Int) : fitB x.sign y.sign (x + y).sign = true := by
  unfold fitB
  rcases Int.lt_trichotomy x 0 with hx | hx | hx <;> rcases Int.lt_trichotomy y 0 with hy | hy | hy
  · rw [Int.sign_eq_neg_one_of_neg hx, Int.sign_eq_neg_one_of_neg hy, Int.sign_eq_neg_one_of_neg (by omega)]; rfl
  · subst hy; simp; omega
  · rw [Int.sign_eq_neg_one_of_neg hx, Int.sign_eq_one_of_pos hy]; rfl
  · subst hx; simp
  · subst hx; simp
  · subst hx; simp
  · rw [Int.sign_eq_one_of_pos hx, Int.sign_eq_neg_one_of_neg hy]; rfl
  · subst hy; simp; omega
  · rw [Int.sign_eq_one_of_pos hx, Int.sign_eq_one_of_pos hy, Int.sign_eq_one_of_pos (by omega)]; rfl

def chkS (a1 a2 b1 b2 m1 m2 A B : Int) : Bool :=
  !(fitB (a1 * b2) (-(a2 * b1)) 1 && fitB (a1 * A) (b1 * B) m1 && fitB (a2 * A) (b2 * B) m2 && !(m1 == 0 && m2 == 0)) ||
  (one (secS (upS a1 a2) (upS b1 b2) A B) == gS (upS m1 m2) (upS b1 b2) A - gS (upS m1 m2) (upS a1 a2) (-B) + one (upS a1 a2 && !upS b1 b2))
def S3 : List Int := [-1, 0, 1]
theorem chk_all : (S3.all fun a1 => S3.all fun a2 => S3.all fun b1 => S3.all fun b2 => S3.all fun m1 => S3.all fun m2 => S3.all fun A => S3.all fun B => chkS a1 a2 b1 b2 m1 m2 A B) = true := by decide +kernel
def chk2 (a1 a2 b1 b2 : Int) : Bool :=
  !(fitB (a1 * b2) (-(a2 * b1)) 1) ||
  (one (upS a1 a2 && !upS b1 b2) == one (decide (a2 < 0) && !decide (b2 < 0)) + one (!decide (a2 < 0) && upS a1 a2) - one (!decide (b2 < 0) && upS b1 b2))
theorem chk2_all : (S3.all fun a1 => S3.all fun a2 => S3.all fun b1 => S3.all fun b2 => chk2 a1 a2 b1 b2) = true := by decide +kernel
theorem sign_S3 (x : Int) : x.sign ∈ S3 := by
  rcases Int.lt_trichotomy x 0 with hx | hx | hx
  · rw [Int.sign_eq_neg_one_of_neg hx]; decide
  · subst hx; decide
  · rw [Int.sign_eq_one_of_pos hx]; decide
theorem chk_at (a1 a2 b1 b2 m1 m2 A B : Int) : chkS a1.sign a2.sign b1.sign b2.sign m1.sign m2.sign A.sign B.sign = true := by
  have h := chk_all
  simp only [List.all_eq_true] at h
  exact h _ (sign_S3 _) _ (sign_S3 _) _ (sign_S3 _) _ (sign_S3 _) _ (sign_S3 _) _ (sign_S3 _) _ (sign_S3 _) _ (sign_S3 _)
theorem chk2_at (a1 a2 b1 b2 : Int) : chk2 a1.sign a2.sign b1.sign b2.sign = true := by
  have h := chk2_all
  simp only [List.all_eq_true] at h
  exact h _ (sign_S3 _) _ (sign_S3 _) _ (sign_S3 _) _ (sign_S3 _)
theorem sgn_neg (x : Int) : decide (x.sign < 0) = decide (x < 0) := by simp
theorem sgn_pos (x : Int) : decide (0 < x.sign) = decide (0 < x) := by simp
theorem sgn_zero (x : Int) : decide (x.sign = 0) = decide (x = 0) := by simp
theorem sgn_nn (x : Int) : decide (0 ≤ x.sign) = decide (0 ≤ x) := by
  rcases Int.lt_trichotomy x 0 with hx | hx | hx
  · rw [Int.sign_eq_neg_one_of_neg hx]; simp; omega
  · subst hx; simp
  · rw [Int.sign_eq_one_of_pos hx]; simp; omega
theorem upS_sign (x y : Int) : upS x.sign y.sign = upS x y := by unfold upS; rw [sgn_neg, sgn_zero, sgn_pos]
theorem secS_sign (ua ub : Bool) (A B : Int) : secS ua ub A.sign B.sign = secS ua ub A B := by unfold secS; rw [sgn_pos, sgn_zero, sgn_pos, sgn_zero]
theorem gS_sign (um ua : Bool) (c : Int) : gS um ua c.sign = gS um ua c := by unfold gS; rw [sgn_pos, sgn_nn]

theorem turn_one (a b m : Vec) (hC : 0 < cr a b) (hm : ¬ (m.1 = 0 ∧ m.2 = 0)) : one (secB a b m) = gI m b - gI m a + one (upB a && !upB b) := by
  obtain ⟨a1, a2⟩ := a
  obtain ⟨b1, b2⟩ := b
  obtain ⟨m1, m2⟩ := m
  simp only [cr] at hC hm
  have i1 : m1 * (a1 * b2 - a2 * b1) = a1 * (m1 * b2 - m2 * b1) + b1 * (a1 * m2 - a2 * m1) := by grind
  have i2 : m2 * (a1 * b2 - a2 * b1) = a2 * (m1 * b2 - m2 * b1) + b2 * (a1 * m2 - a2 * m1) := by grind
  have i3 : m1 * a2 - m2 * a1 = -(a1 * m2 - a2 * m1) := by grind
  have f0 := fit_add (a1 * b2) (-(a2 * b1))
  rw [← Int.sub_eq_add_neg, Int.sign_eq_one_of_pos hC, Int.sign_neg, Int.sign_mul, Int.sign_mul] at f0
  have f1 := fit_add (a1 * (m1 * b2 - m2 * b1)) (b1 * (a1 * m2 - a2 * m1))
  rw [← i1, Int.sign_mul, Int.sign_mul, Int.sign_mul m1, Int.sign_eq_one_of_pos hC, Int.mul_one] at f1
  have f2 := fit_add (a2 * (m1 * b2 - m2 * b1)) (b2 * (a1 * m2 - a2 * m1))
  rw [← i2, Int.sign_mul, Int.sign_mul, Int.sign_mul m2, Int.sign_eq_one_of_pos hC, Int.mul_one] at f2
  have f3 : (m1.sign == 0 && m2.sign == 0) = false := by
    rw [Bool.eq_false_iff]
    intro e
    simp at e
    exact hm e
  have h := chk_at a1 a2 b1 b2 m1 m2 (m1 * b2 - m2 * b1) (a1 * m2 - a2 * m1)
  unfold chkS at h
  rw [f0, f1, f2, f3, ← Int.sign_neg, gS_sign, gS_sign, secS_sign, upS_sign, upS_sign, upS_sign] at h
  simp only [Bool.not_false, Bool.and_self, Bool.not_true, Bool.false_or, beq_iff_eq] at h
  simp only [secB, gI, cr, upB, i3]
  exact h
/-- how a vector that lies just on the half line tells the two halves apart -/
def zI (a : Vec) : Int := one (!loB a && upB a)
theorem up_lo (a b : Vec) (hC : 0 < cr a b) : one (upB a && !upB b) = one (loB a && !loB b) + zI a - zI b := by
  obtain ⟨a1, a2⟩ := a
  obtain ⟨b1, b2⟩ := b
  simp only [cr] at hC
  have f0 := fit_add (a1 * b2) (-(a2 * b1))
  rw [← Int.sub_eq_add_neg, Int.sign_eq_one_of_pos hC, Int.sign_neg, Int.sign_mul, Int.sign_mul] at f0
  have h := chk2_at a1 a2 b1 b2
  unfold chk2 at h
  rw [f0, upS_sign, upS_sign, sgn_neg, sgn_neg] at h
  simp only [Bool.not_true, Bool.false_or, beq_iff_eq] at h
  simp only [zI, upB, loB]
  exact h
theorem lo_ne (a b : Bool) : one (a != b) = 2 * one (a && !b) - one a + one b := by cases a <;> cases b <;> rfl

/-! sums -/
def sumTo (f : Nat → Int) : Nat → Int
  | 0 => 0
  | n + 1 => sumTo f n + f n
theorem sumTo_congr {f g : Nat → Int} : ∀ {n : Nat}, (∀ k, k < n → f k = g k) → sumTo f n = sumTo g n
  | 0, _ => rfl
  | n + 1, h => by
    simp only [sumTo]
    rw [sumTo_congr (fun k hk => h k (by omega)), h n (by omega)]
theorem sumTo_lin (f g h : Nat → Int) (n : Nat) : sumTo (fun k => f k - g k + h k) n = sumTo f n - sumTo g n + sumTo h n := by
  induction n with
  | zero => rfl
  | succ n ih => simp only [sumTo, ih]; omega
theorem sumTo_le {f g : Nat → Int} : ∀ {n : Nat}, (∀ k, k < n → f k ≤ g k) → sumTo f n ≤ sumTo g n
  | 0, _ => Int.le_refl _
  | n + 1, h => by
    have h1 := sumTo_le (fun k hk => h k (by omega : k < n + 1) : ∀ k, k < n → f k ≤ g k)
    have h2 := h n (by omega)
    simp only [sumTo]
    omega
theorem sumTo_shift (f : Nat → Int) (m : Nat) : sumTo (fun k => f (k + 1)) m + f 0 = sumTo f (m + 1) := by
  induction m with
  | zero => simp [sumTo]
  | succ m ih =>
    rw [sumTo, sumTo, ← ih]
    omega
theorem sumTo_cyc (f : Nat → Int) (n : Nat) (hn : 0 < n) : sumTo (fun k => f ((k + 1) % n)) n = sumTo f n := by
  obtain ⟨m, rfl⟩ : ∃ m, n = m + 1 := ⟨n - 1, by omega⟩
  rw [← sumTo_shift f m, sumTo, Nat.mod_self]
  congr 1
  exact sumTo_congr (fun k hk => by rw [Nat.mod_eq_of_lt (by omega)])

/-- the ring turns once: each direction is in one sector, and the halves change once -/
theorem fan_once (q : Nat → Vec) (n : Nat) (hn : 0 < n) (hC : ∀ k, k < n → 0 < cr (q k) (q ((k + 1) % n)))
    (ht : sumTo (fun k => one (loB (q k) != loB (q ((k + 1) % n)))) n = 2) :
    sumTo (fun k => one (upB (q k) && !upB (q ((k + 1) % n)))) n = 1 ∧
      ∀ m : Vec, ¬ (m.1 = 0 ∧ m.2 = 0) → sumTo (fun k => one (secB (q k) (q ((k + 1) % n)) m)) n = 1 := by
  have h1 : sumTo (fun k => one (upB (q k) && !upB (q ((k + 1) % n)))) n = 1 := by
    have e1 : sumTo (fun k => one (loB (q k) != loB (q ((k + 1) % n)))) n = sumTo (fun k => 2 * one (loB (q k) && !loB (q ((k + 1) % n))) - one (loB (q k)) + one (loB (q ((k + 1) % n)))) n :=
      sumTo_congr (fun k _ => lo_ne _ _)
    rw [sumTo_lin, sumTo_cyc (fun k => one (loB (q k))) n hn] at e1
    have e2 : sumTo (fun k => one (upB (q k) && !upB (q ((k + 1) % n)))) n = sumTo (fun k => one (loB (q k) && !loB (q ((k + 1) % n))) - zI (q ((k + 1) % n)) + zI (q k)) n :=
      sumTo_congr (fun k hk => by rw [up_lo _ _ (hC k hk)]; omega)
    rw [sumTo_lin, sumTo_cyc (fun k => zI (q k)) n hn] at e2
    have e3 : ∀ j, sumTo (fun k => 2 * one (loB (q k) && !loB (q ((k + 1) % n)))) j = 2 * sumTo (fun k => one (loB (q k) && !loB (q ((k + 1) % n)))) j := by
      intro j
      induction j with
      | zero => rfl
      | succ j ih => simp only [sumTo, ih]; omega
    rw [e3] at e1
    omega
  refine ⟨h1, fun m hm => ?_⟩
  have e : sumTo (fun k => one (secB (q k) (q ((k + 1) % n)) m)) n = sumTo (fun k => gI m (q ((k + 1) % n)) - gI m (q k) + one (upB (q k) && !upB (q ((k + 1) % n)))) n :=
    sumTo_congr (fun k hk => turn_one _ _ _ (hC k hk) hm)
  rw [e, sumTo_lin, sumTo_cyc (fun k => gI m (q k)) n hn, h1]
  omega
end Go.Proofs.Ytkmdeaffhneibaa
