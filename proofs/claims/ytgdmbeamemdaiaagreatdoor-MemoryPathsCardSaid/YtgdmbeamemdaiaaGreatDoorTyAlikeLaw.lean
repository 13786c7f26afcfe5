/- Plain: alike is an equivalence of the plain types, and keeps sizes. No program is named. -/
import Derived.Test.YtgdmbeamemdaiaaGreatDoorTyAlike
import Derived.Test.YtgdmbeamemdaiaaGreatDoorTN
namespace Go.Proofs.YtgdmbeamemdaiaaGreatDoor

theorem allN_true {f : Int → Int → Bool} {l m : List Int} : ∀ {k : Nat}, allN f l m k = true ↔ ∀ j, j < k → f (ix l j) (ix m j) = true
  | 0 => ⟨fun _ j hj => absurd hj (Nat.not_lt_zero j), fun _ => rfl⟩
  | k + 1 => by
    show (allN f l m k && f (ix l k) (ix m k)) = true ↔ _
    rw [Bool.and_eq_true, allN_true]
    constructor
    · rintro ⟨h1, h2⟩ j hj
      rcases Nat.lt_succ_iff_lt_or_eq.1 hj with h | rfl
      · exact h1 j h
      · exact h2
    · exact fun h => ⟨fun j hj => h j (by omega), h k (Nat.lt_succ_self k)⟩
theorem alikeT_iff {T : Int → TyI} {q : Nat} {a b : Int} : alikeT T (q + 1) a b = true ↔
    ((T a).size ≠ 0 ∧ (T a).kind = (T b).kind ∧ (T a).size = (T b).size ∧ (T a).times = (T b).times ∧ (T a).parts.length = (T b).parts.length) ∧
      (((T a).kind = 4 ∨ (T a).kind = 5) → alikeT T q (T a).part (T b).part = true) ∧ (¬ ((T a).kind = 4 ∨ (T a).kind = 5) → ∀ j, j < (T a).parts.length → alikeT T q (ix (T a).parts j) (ix (T b).parts j) = true) := by
  have e : alikeT T (q + 1) a b = if (T a).size = 0 ∨ (T a).kind ≠ (T b).kind ∨ (T a).size ≠ (T b).size ∨ (T a).times ≠ (T b).times ∨ (T a).parts.length ≠ (T b).parts.length then false
    else if (T a).kind = 4 ∨ (T a).kind = 5 then alikeT T q (T a).part (T b).part
    else allN (alikeT T q) (T a).parts (T b).parts (T a).parts.length := rfl
  rw [e]
  by_cases h : (T a).size = 0 ∨ (T a).kind ≠ (T b).kind ∨ (T a).size ≠ (T b).size ∨ (T a).times ≠ (T b).times ∨ (T a).parts.length ≠ (T b).parts.length
  · rw [if_pos h]
    constructor
    · intro h'; cases h'
    · rintro ⟨⟨h1, h2, h3, h4, h5⟩, -⟩
      rcases h with h | h | h | h | h
      · exact absurd h h1
      · exact absurd h2 h
      · exact absurd h3 h
      · exact absurd h4 h
      · exact absurd h5 h
  · rw [if_neg h]
    simp only [not_or, Decidable.not_not, ne_eq] at h
    obtain ⟨h1, h2, h3, h4, h5⟩ := h
    by_cases h6 : (T a).kind = 4 ∨ (T a).kind = 5
    · rw [if_pos h6]
      exact ⟨fun h' => ⟨⟨h1, h2, h3, h4, h5⟩, fun _ => h', fun hn => absurd h6 hn⟩, fun h' => h'.2.1 h6⟩
    · rw [if_neg h6, allN_true]
      exact ⟨fun h' => ⟨⟨h1, h2, h3, h4, h5⟩, fun hn => absurd hn h6, fun _ => h'⟩, fun h' => h'.2.2 h6⟩
theorem alike_sym {T : Int → TyI} : ∀ {q : Nat} {a b : Int}, alikeT T q a b = true → alikeT T q b a = true
  | 0, _, _, h => by cases h
  | q + 1, a, b, h => by
    rw [alikeT_iff] at h ⊢
    obtain ⟨⟨h1, h2, h3, h4, h5⟩, h6, h7⟩ := h
    refine ⟨⟨by rw [← h3]; exact h1, h2.symm, h3.symm, h4.symm, h5.symm⟩, fun hk => alike_sym (h6 (by rw [h2]; exact hk)), fun hk j hj => alike_sym (h7 (by rw [h2]; exact hk) j (by omega))⟩
theorem alike_symm (T : Int → TyI) (q : Nat) (a b : Int) : alikeT T q a b = alikeT T q b a := by
  rw [Bool.eq_iff_iff]
  exact ⟨alike_sym, alike_sym⟩
theorem alike_trans {T : Int → TyI} : ∀ {q : Nat} {a b c : Int}, alikeT T q a b = true → alikeT T q b c = true → alikeT T q a c = true
  | 0, _, _, _, h, _ => by cases h
  | q + 1, a, b, c, h, h' => by
    rw [alikeT_iff] at h h' ⊢
    obtain ⟨⟨h1, h2, h3, h4, h5⟩, h6, h7⟩ := h
    obtain ⟨⟨g1, g2, g3, g4, g5⟩, g6, g7⟩ := h'
    refine ⟨⟨h1, h2.trans g2, h3.trans g3, h4.trans g4, h5.trans g5⟩, fun hk => alike_trans (h6 hk) (g6 (by rw [← h2]; exact hk)), fun hk j hj => alike_trans (h7 hk j hj) (g7 (by rw [← h2]; exact hk) j (by omega))⟩
theorem Typed.deepT {T : Int → TyI} (h : Typed T) : DeepT T where
  one a hs hk := by
    have h1 := h.size a
    have hp : 0 < (T a).size := by omega
    have h2 := rankT_part h (id := a) hk
    rw [rankT_plain h hp] at h2
    rcases h.ok a with h3 | ⟨b, h3⟩
    · rw [h3] at hk; simp [ty0] at hk
    · generalize hx : T a = x at *
      cases h3 <;> simp at hk
      · rename_i p n g1 g2 g3 g4
        have := h.leaf p g2
        show (T p).depth < (T p).depth + 1
        omega
      · rename_i p n g1 g2 g3 g4 g5 g6
        show (T p).depth < (T p).depth + 1
        omega
  all a hs p hp := by
    rcases h.ok a with h3 | ⟨b, h3⟩
    · rw [h3] at hs; exact absurd rfl hs
    · generalize hx : T a = x at *
      cases h3 <;> simp [ty0] at hp hs
      rename_i l s d g1 g2 g3 g4 g5 g6
      have := (memR_max g1).2 p hp
      show (T p).depth < d + 1
      omega
/-- a plain type is like itself -/
theorem alike_refl {T : Int → TyI} (h : Typed T) : ∀ {q : Nat} {a : Int}, (T a).depth < (q : Int) → (T a).size ≠ 0 → alikeT T q a a = true
  | 0, a, hq, _ => absurd hq (by have := (h.deep a).1; omega)
  | q + 1, a, hq, hs => by
    rw [alikeT_iff]
    have hD := h.deepT
    refine ⟨⟨hs, rfl, rfl, rfl, rfl⟩, fun hk => ?_, fun hk j hj => ?_⟩
    · have h1 := hD.one a hs hk
      refine alike_refl h (by omega) ?_
      rcases h.ok a with h3 | ⟨b, h3⟩
      · rw [h3] at hk; simp [ty0] at hk
      · generalize hx : T a = x at *
        cases h3 <;> simp at hk
        · rename_i p n g1 g2 g3 g4
          have := (h.leaf p g2).2
          show (T p).size ≠ 0
          omega
        · rename_i p n g1 g2 g3 g4 g5 g6
          show (T p).size ≠ 0
          omega
    · have hmem : ix (T a).parts j ∈ (T a).parts := by rw [ix_of hj]; exact List.getElem_mem _
      have h1 := hD.all a hs _ hmem
      refine alike_refl h (by omega) ?_
      rcases h.ok a with h3 | ⟨b, h3⟩
      · rw [h3] at hs; exact absurd rfl hs
      · generalize hx : T a = x at *
        cases h3 <;> simp [ty0] at hmem hs
        rename_i l s d g1 g2 g3 g4 g5 g6
        have := memR_in g1 _ hmem
        show (T (ix l j)).size ≠ 0
        omega
theorem alike_self {T : Int → TyI} (h : Typed T) (q : Nat) (a : Int) (hq : (T a).depth < (q : Int)) : alikeT T q a a = decide (0 < (T a).size) := by
  have h1 := (h.size a).1
  by_cases h0 : (T a).size = 0
  · rw [decide_eq_false (by omega)]
    cases q with
    | zero => rfl
    | succ q =>
      rw [Bool.eq_false_iff]
      intro hc
      exact (alikeT_iff.1 hc).1.1 h0
  · rw [decide_eq_true (by omega)]
    exact alike_refl h hq h0
end Go.Proofs.YtgdmbeamemdaiaaGreatDoor
