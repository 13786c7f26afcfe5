/- Plain: the leaves of a type. No program is named. -/
import Derived.Test.YtgdmbeamemdaiaaGreatDoorTyChainLaw
import Derived.Test.YtgdmbeamemdaiaaGreatDoorTySimple
namespace Go.Proofs.YtgdmbeamemdaiaaGreatDoor

/-- what stands in the first so many parts, one behind the other -/
def catP (f : Int → List Int) (x : TyI) : Nat → List Int
  | 0 => []
  | k + 1 => catP f x k ++ f (partN x k)
/-- the leaves of a type, in order -/
def leafL (T : Int → TyI) : Nat → Int → List Int
  | 0, _ => []
  | q + 1, ty => if cntT (T ty) = 0 then [ty] else catP (leafL T q) (T ty) (cntT (T ty)).toNat
theorem leafL_one {T : Int → TyI} {q : Nat} {ty : Int} (h : cntT (T ty) = 0) : leafL T (q + 1) ty = [ty] := if_pos h
theorem leafL_more {T : Int → TyI} {q : Nat} {ty : Int} (h : cntT (T ty) ≠ 0) : leafL T (q + 1) ty = catP (leafL T q) (T ty) (cntT (T ty)).toNat := if_neg h
theorem catP_split (f : Int → List Int) (x : TyI) : ∀ (n k : Nat), k < n → ∃ rest, catP f x n = catP f x k ++ (f (partN x k) ++ rest)
  | 0, k, h => absurd h (Nat.not_lt_zero k)
  | n + 1, k, h => by
    show ∃ rest, catP f x n ++ f (partN x n) = _
    rcases Nat.lt_succ_iff_lt_or_eq.1 h with h1 | rfl
    · obtain ⟨r, hr⟩ := catP_split f x n k h1
      exact ⟨r ++ f (partN x n), by rw [hr, List.append_assoc, List.append_assoc]⟩
    · exact ⟨[], by rw [List.append_nil]⟩
theorem catP_len {T : Int → TyI} {f : Int → List Int} {x : TyI} : ∀ k : Nat, (∀ j, j < k → ((f (partN x j)).length : Int) = (T (partN x j)).size) → ((catP f x k).length : Int) = sumP T x k
  | 0, _ => rfl
  | k + 1, h => by
    have ih := catP_len k (fun j hj => h j (by omega))
    have := h k (by omega)
    show ((catP f x k ++ f (partN x k)).length : Int) = sumP T x k + _
    rw [List.length_append]
    omega
theorem plain_bare {T : Int → TyI} (hT : Typed T) {ty : Int} (hs : 0 < (T ty).size) (hc : cntT (T ty) = 0) : (T ty).size = 1 ∧ ((T ty).kind = 2 ∨ (T ty).kind = 3) := by
  rcases hT.ok ty with h | ⟨b, h⟩
  · rw [h] at hs; exact absurd hs (by decide)
  · generalize T ty = x at *
    unfold cntT at hc
    cases h with
    | void => exact absurd hs (by decide)
    | bool => exact ⟨rfl, .inl rfl⟩
    | int s => exact ⟨rfl, .inr rfl⟩
    | vec p n h1 h2 h3 h4 => exfalso; dsimp only at hc; simp [ty0] at hc; omega
    | arr p n h1 h2 h3 h4 h5 h6 => exfalso; dsimp only at hc; simp [ty0] at hc; omega
    | str l s d h1 h2 h3 h4 h5 h6 => exfalso; dsimp only at hc; simp [ty0] at hc; subst hc; simp at h3
    | ptr c p h1 h2 h3 => exact absurd hs (by show ¬ (0 : Int) < 0; decide)
    | fn l h1 h2 h3 h4 => exact absurd hs (by show ¬ (0 : Int) < 0; decide)
theorem plain_sum {T : Int → TyI} (hT : Typed T) {ty : Int} (hs : 0 < (T ty).size) (hc : cntT (T ty) ≠ 0) : (T ty).size = sumP T (T ty) (cntT (T ty)).toNat ∧ ∀ j : Nat, (j : Int) < cntT (T ty) → 0 < (T (partN (T ty) j)).size := by
  rcases hT.ok ty with h | ⟨b, h⟩
  · rw [h] at hs; exact absurd hs (by decide)
  · have hk := (hT.size ty).2.1.1 hs
    have h0 : 0 ≤ cntT (T ty) := by
      generalize T ty = x at *
      unfold cntT
      cases h <;> simp [ty0] <;> omega
    exact ⟨(h.sizes hT).whole (by omega) (by omega) (by omega), fun j hj => h.part_plain hT hs hj⟩
/-- a type's leaves are as many as its words -/
theorem leafL_len {T : Int → TyI} (hT : Typed T) : ∀ (q : Nat) (ty : Int), 0 < (T ty).size → rankT (T ty) < (q : Int) → ((leafL T q ty).length : Int) = (T ty).size
  | 0, ty, _, hq => absurd hq (by have := (rankT_bd hT ty).1; omega)
  | q + 1, ty, hs, hq => by
    by_cases hc : cntT (T ty) = 0
    · rw [leafL_one hc, (plain_bare hT hs hc).1]
      rfl
    · obtain ⟨h1, h2⟩ := plain_sum hT hs hc
      rw [leafL_more hc, catP_len (T := T) _ (fun j hj => ?_), h1]
      have hj2 : (j : Int) < cntT (T ty) := by omega
      have hr := part_rank hT hj2
      exact leafL_len hT q _ (h2 j hj2) (by show rankT (T (partT (T ty) j).1) < _; omega)
/-- are words a value of a type? -/
def fitsV (T : Int → TyI) (ty : Int) (ws : List Int) : Bool :=
  decide (0 < (T ty).size) && (decide ((ws.length : Int) = (T ty).size) && (List.range ws.length).all fun k => !(decide ((T (ix (leafL T 19 ty) k)).kind = 2) && decide (1 < ix ws k)))
end Go.Proofs.YtgdmbeamemdaiaaGreatDoor
