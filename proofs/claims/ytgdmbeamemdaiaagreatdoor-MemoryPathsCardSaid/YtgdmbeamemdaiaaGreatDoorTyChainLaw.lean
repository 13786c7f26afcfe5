/- Plain: where a path of indices leads. No program is named. -/
import Derived.Test.YtgdmbeamemdaiaaGreatDoorTySizeLaw
import Derived.Test.YtgdmbeamemdaiaaGreatDoorTySame
namespace Go.Proofs.YtgdmbeamemdaiaaGreatDoor

/-- where a chain leads: at which word, to which type, or an error -/
def chW (T : Int → TyI) : Int → Int → List Int → Int × Int × Int
  | at_, ty, [] => (at_, ty, 0)
  | at_, ty, k :: r => if cntT (T ty) = 0 then (0, 0, 121) else chW T (at_ + (offT T (T ty) (min k (cntT (T ty) - 1))).1) (partT (T ty) (min k (cntT (T ty) - 1))).1 r
def chM (T : Int → TyI) (ty : Int) (path : List Int) : Int × Int × Int := if 0 < (T ty).size then chW T 0 ty path else (0, 0, 100)
/-- indices that are none of a part are the last one's -/
def clK (n k : Int) : Int := if 0 < n ∧ n ≤ k then n - 1 else k
def clW (T : Int → TyI) : Int → List Int → List Int
  | _, [] => []
  | ty, k :: r => clK (cntT (T ty)) k :: clW T (partT (T ty) (clK (cntT (T ty)) k)).1 r
theorem clW_len (T : Int → TyI) : ∀ (l : List Int) (ty : Int), (clW T ty l).length = l.length
  | [], _ => rfl
  | k :: r, ty => by
    unfold clW
    rw [List.length_cons, List.length_cons, clW_len T r]
/-- where a path leads: nowhere is (0, 0) -/
def wkW (T : Int → TyI) : Int → Int → List Int → Int × Int
  | at_, ty, [] => (at_, ty)
  | at_, ty, k :: r => if cntT (T ty) ≤ k then (0, 0) else wkW T (at_ + (offT T (T ty) k).1) (partT (T ty) k).1 r
theorem chW_cl {T : Int → TyI} : ∀ {l : List Int} {a ty : Int}, (∀ k ∈ l, 0 ≤ k) → chW T a ty (clW T ty l) = chW T a ty l
  | [], _, _, _ => rfl
  | k :: r, a, ty, h => by
    have hk := h k List.mem_cons_self
    unfold clW chW
    by_cases h0 : cntT (T ty) = 0
    · rw [if_pos h0, if_pos h0]
    · rw [if_neg h0, if_neg h0]
      by_cases h1 : 0 < cntT (T ty)
      · have e : min (clK (cntT (T ty)) k) (cntT (T ty) - 1) = min k (cntT (T ty) - 1) := by unfold clK; split <;> omega
        have e2 : clK (cntT (T ty)) k = min k (cntT (T ty) - 1) := by unfold clK; split <;> omega
        rw [e, e2]
        exact chW_cl (fun j hj => h j (List.mem_cons_of_mem _ hj))
      · have e2 : clK (cntT (T ty)) k = k := by unfold clK; rw [if_neg (by omega)]
        have hneg : cntT (T ty) - 1 < 0 := by omega
        rw [e2]
        have e3 : (partT (T ty) k).1 = 0 := by unfold partT; rw [if_pos (.inr (by omega))]
        have e4 : (partT (T ty) (min k (cntT (T ty) - 1))).1 = 0 := by unfold partT; rw [if_pos (.inl (by omega))]
        rw [e3, e4]
        exact chW_cl (fun j hj => h j (List.mem_cons_of_mem _ hj))
/-- a chain and a walk on clamped indices -/
theorem wkW_cl {T : Int → TyI} : ∀ {l : List Int} {a ty : Int}, (∀ k ∈ l, 0 ≤ k) → (∀ id, 0 ≤ cntT (T id)) → wkW T a ty (clW T ty l) = ((chW T a ty l).1, (chW T a ty l).2.1)
  | [], _, _, _, _ => rfl
  | k :: r, a, ty, h, hc => by
    have hk := h k List.mem_cons_self
    have h1 := hc ty
    unfold clW chW wkW
    by_cases h0 : cntT (T ty) = 0
    · have e : clK (cntT (T ty)) k = k := by unfold clK; rw [if_neg (by omega)]
      rw [e, if_pos (by omega), if_pos h0]
    · have e2 : clK (cntT (T ty)) k = min k (cntT (T ty) - 1) := by unfold clK; split <;> omega
      rw [if_neg h0, e2, if_neg (by omega)]
      exact wkW_cl (fun j hj => h j (List.mem_cons_of_mem _ hj)) hc
theorem chW_err {T : Int → TyI} : ∀ {l : List Int} {a ty : Int}, (chW T a ty l).2.2 = 0 ∨ chW T a ty l = (0, 0, 121)
  | [], _, _ => .inl rfl
  | k :: r, a, ty => by
    unfold chW
    split
    · exact .inr rfl
    · exact chW_err
/-! A part lies within its whole. -/
theorem sumP_mono {T : Int → TyI} (hT : ∀ id, 0 ≤ (T id).size) (x : TyI) : ∀ (n k : Nat), sumP T x k ≤ sumP T x (k + n)
  | 0, k => Int.le_refl _
  | n + 1, k => by
    have ih := sumP_mono hT x n k
    have := hT (partN x (k + n))
    show _ ≤ sumP T x (k + n) + (T (partN x (k + n))).size
    omega
theorem sumP_pos {T : Int → TyI} (hT : ∀ id, 0 ≤ (T id).size) (x : TyI) (k : Nat) : 0 ≤ sumP T x k := by
  have := sumP_mono hT x k 0
  rw [Nat.zero_add] at this
  exact this
theorem TyOk.part_plain {T : Int → TyI} {b : List Int} {x : TyI} (h : TyOk T b x) (hT : Typed T) (hs : 0 < x.size) {j : Nat} (hj : (j : Int) < cntT x) : 0 < (T (partN x j)).size := by
  unfold partN partT
  rw [if_neg (by omega)]
  cases h with
  | void => exact absurd hs (by decide)
  | bool => exact absurd hj (by show ¬ (j : Int) < 0 + 0; omega)
  | int s => exact absurd hj (by show ¬ (j : Int) < 0 + 0; omega)
  | vec p n h1 h2 h3 h4 =>
    have := (hT.leaf p h2).2
    dsimp only
    rw [if_pos (by omega)]
    dsimp only
    omega
  | arr p n h1 h2 h3 h4 h5 h6 =>
    dsimp only
    rw [if_pos (by omega)]
    exact h2
  | str l s d h1 h2 h3 h4 h5 h6 =>
    have ec : cntT ({ ty0 with kind := 6, parts := l, size := s, depth := d + 1 } : TyI) = l.length := by unfold cntT; simp [ty0]
    rw [ec] at hj
    dsimp only
    rw [if_neg (by show ¬ (0 : Int) < 0; decide)]
    have e : ((j : Nat) : Int).toNat = j := rfl
    dsimp only
    rw [e, ix_of (by omega)]
    exact memR_in h1 _ (List.getElem_mem _)
  | ptr c p h1 h2 h3 => exact absurd hs (by show ¬ (0 : Int) < 0; decide)
  | fn l h1 h2 h3 h4 => exact absurd hs (by show ¬ (0 : Int) < 0; decide)
/-- a part of a plain type: it is plain, and lies within -/
theorem part_in {T : Int → TyI} (hT : Typed T) {ty : Int} (hs : 0 < (T ty).size) {k : Int} (h0 : 0 ≤ k) (hk : k < cntT (T ty)) :
    0 < (T (partT (T ty) k).1).size ∧ 0 ≤ (offT T (T ty) k).1 ∧ (offT T (T ty) k).1 + (T (partT (T ty) k).1).size ≤ (T ty).size := by
  obtain ⟨j, rfl⟩ : ∃ j : Nat, k = j := ⟨k.toNat, by omega⟩
  have hsz : ∀ id, 0 ≤ (T id).size := fun id => (hT.size id).1
  rcases hT.ok ty with h | ⟨b, h⟩
  · rw [h] at hs; exact absurd hs (by decide)
  · have hS := h.sizes hT
    have hp := h.part_plain hT hs hk
    have hkd := (hT.size ty).2.1.1 hs
    have hcp : 0 < cntT (T ty) := by omega
    have hw := hS.whole hcp (by omega) (by omega)
    have hn : ¬ ((T ty).kind = 2 ∨ (T ty).kind = 3) := fun hc => by
      have hm : cntT (T ty) = 0 := by
        generalize T ty = x at *
        cases h with
        | bool => rfl
        | int s => rfl
        | void => rfl
        | vec p n => rcases hc with hc | hc <;> cases hc
        | arr p n => rcases hc with hc | hc <;> cases hc
        | str l s d => rcases hc with hc | hc <;> cases hc
        | ptr c p => rcases hc with hc | hc <;> cases hc
        | fn l => rcases hc with hc | hc <;> cases hc
      omega
    have ho := (hS.off j hk).2 (by omega)
    refine ⟨hp, by rw [ho]; exact sumP_pos hsz _ j, ?_⟩
    rw [ho, hw]
    have hm := sumP_mono hsz (T ty) ((cntT (T ty)).toNat - (j + 1)) (j + 1)
    rw [show j + 1 + ((cntT (T ty)).toNat - (j + 1)) = (cntT (T ty)).toNat by omega] at hm
    exact hm
theorem chW_in {T : Int → TyI} (hT : Typed T) : ∀ {l : List Int} {a ty : Int}, (∀ k ∈ l, 0 ≤ k) → 0 < (T ty).size → (chW T a ty l).2.2 = 0 →
    0 < (T (chW T a ty l).2.1).size ∧ a ≤ (chW T a ty l).1 ∧ (chW T a ty l).1 + (T (chW T a ty l).2.1).size ≤ a + (T ty).size
  | [], a, ty, _, hs, _ => ⟨hs, Int.le_refl _, Int.le_refl _⟩
  | k :: r, a, ty, h, hs, he => by
    have hk := h k List.mem_cons_self
    have hc : 0 ≤ cntT (T ty) := by
      unfold cntT
      rcases hT.ok ty with h | ⟨b, h⟩
      · rw [h]; decide
      · generalize T ty = x at *
        cases h <;> simp [ty0] <;> omega
    unfold chW at he ⊢
    by_cases h0 : cntT (T ty) = 0
    · rw [if_pos h0] at he; cases he
    · rw [if_neg h0] at he ⊢
      obtain ⟨p1, p2, p3⟩ := part_in hT hs (k := min k (cntT (T ty) - 1)) (by omega) (by omega)
      obtain ⟨q1, q2, q3⟩ := chW_in hT (fun j hj => h j (List.mem_cons_of_mem _ hj)) p1 he
      exact ⟨q1, by omega, by omega⟩
end Go.Proofs.YtgdmbeamemdaiaaGreatDoor
