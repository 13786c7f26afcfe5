/- Plain: sizes are offsets and sizes of parts. No program is named. -/
import Derived.Test.YtgdmbeamemdaiaaGreatDoorTO
import Derived.Test.YtgdmbeamemdaiaaGreatDoorTN
namespace Go.Proofs.YtgdmbeamemdaiaaGreatDoor

/-- a type's part, by its number -/
def partN (x : TyI) (j : Nat) : Int := (partT x j).1
/-- the sizes of the first parts, one by one -/
def sumP (T : Int → TyI) (x : TyI) : Nat → Int
  | 0 => 0
  | k + 1 => sumP T x k + (T (partN x k)).size
theorem sumP_times {T : Int → TyI} {x : TyI} (h : x.parts = []) (h1 : 1 ≤ x.times) : ∀ k : Nat, (k : Int) ≤ x.times → sumP T x k = k * (T x.part).size
  | 0, _ => by simp [sumP]
  | k + 1, hk => by
    have ih := sumP_times (T := T) h h1 k (by omega)
    have hp : partN x k = x.part := by
      unfold partN partT cntT
      rw [h, if_neg (by simp; omega), if_pos (by omega)]
    show sumP T x k + (T (partN x k)).size = _
    rw [ih, hp]
    have : ((k + 1 : Nat) : Int) = (k : Int) + 1 := by omega
    rw [this, Int.add_mul, Int.one_mul]
theorem sumP_parts {T : Int → TyI} {x : TyI} (h : x.times = 0) : ∀ k : Nat, k ≤ x.parts.length → sumP T x k = sumN T x.parts k
  | 0, _ => by simp [sumP, sumN]
  | k + 1, hk => by
    have ih := sumP_parts (T := T) h k (by omega)
    have hp : partN x k = ix x.parts k := by
      unfold partN partT cntT
      rw [h, if_neg (by omega), if_neg (by omega)]
      rfl
    show sumP T x k + (T (partN x k)).size = _
    rw [ih, hp, sumN_step (by omega)]
theorem sumN_all {T : Int → TyI} (l : List Int) : sumN T l l.length = (l.map fun p => (T p).size).sum := by
  unfold sumN
  rw [List.take_length]
/-- what TypesSizes asks of a type that is made of those in a list -/
structure SizesOk (T : Int → TyI) (b : List Int) (x : TyI) : Prop where
  has : ∀ j : Nat, (j : Int) < cntT x → (partT x j).2 = true ∧ (partT x j).1 ∈ b
  off : ∀ j : Nat, (j : Int) < cntT x → (offT T x j).2 = decide (x.kind = 4 ∨ x.kind = 5 ∨ x.kind = 6) ∧ ((x.kind = 4 ∨ x.kind = 5 ∨ x.kind = 6) → (offT T x j).1 = sumP T x j)
  whole : 0 < cntT x → x.kind ≠ 7 → x.kind ≠ 8 → x.size = sumP T x (cntT x).toNat
  most : x.size ≤ 4096
theorem part_has {x : TyI} {j : Nat} (hj : (j : Int) < cntT x) : (partT x j).2 = true := by
  unfold partT
  rw [if_neg (by omega)]
  split <;> rfl
theorem TyOk.sizes {T : Int → TyI} {b : List Int} {x : TyI} (h : TyOk T b x) (hT : Typed T) : SizesOk T b x := by
  have hm := h.size.2.2
  cases h with
  | void => exact ⟨fun j hj => absurd hj (by show ¬ (j : Int) < 0 + 0; omega), fun j hj => absurd hj (by show ¬ (j : Int) < 0 + 0; omega), fun h => absurd h (by decide), hm⟩
  | bool => exact ⟨fun j hj => absurd hj (by show ¬ (j : Int) < 0 + 0; omega), fun j hj => absurd hj (by show ¬ (j : Int) < 0 + 0; omega), fun h => absurd h (by show ¬ (0 : Int) < 0 + 0; decide), hm⟩
  | int s => exact ⟨fun j hj => absurd hj (by show ¬ (j : Int) < 0 + 0; omega), fun j hj => absurd hj (by show ¬ (j : Int) < 0 + 0; omega), fun h => absurd h (by show ¬ (0 : Int) < 0 + 0; decide), hm⟩
  | vec p n h1 h2 h3 h4 =>
    generalize hx : ({ ty0 with kind := 4, part := p, times := n, size := n, depth := (T p).depth + 1 } : TyI) = x at *
    have e1 : x.parts = [] := by rw [← hx]; rfl
    have e2 : x.times = n := by rw [← hx]
    have e3 : x.part = p := by rw [← hx]
    have e4 : x.size = n := by rw [← hx]
    have e5 : x.kind = 4 := by rw [← hx]
    have ec : cntT x = n := by unfold cntT; rw [e1, e2]; simp
    have hs := (hT.leaf p h2).2
    refine ⟨fun j hj => ⟨part_has (by omega), ?_⟩, fun j hj => ?_, fun _ _ _ => ?_, hm⟩
    · unfold partT
      rw [if_neg (by omega), if_pos (by omega), e3]
      exact h1
    · unfold offT
      rw [part_has (by omega), if_neg (by rintro (h | h); cases h; omega), if_pos (by omega)]
      refine ⟨by rw [e5]; rfl, fun _ => ?_⟩
      rw [sumP_times e1 (by omega) j (by omega)]
    · rw [ec, sumP_times e1 (by omega) n.toNat (by omega), e3, hs, e4]
      omega
  | arr p n h1 h2 h3 h4 h5 h6 =>
    generalize hx : ({ ty0 with kind := 5, part := p, times := n, size := n * (T p).size, depth := (T p).depth + 1 } : TyI) = x at *
    have e1 : x.parts = [] := by rw [← hx]; rfl
    have e2 : x.times = n := by rw [← hx]
    have e3 : x.part = p := by rw [← hx]
    have e4 : x.size = n * (T p).size := by rw [← hx]
    have e5 : x.kind = 5 := by rw [← hx]
    have ec : cntT x = n := by unfold cntT; rw [e1, e2]; simp
    have hp := Int.mul_pos (show 0 < n by omega) h2
    refine ⟨fun j hj => ⟨part_has (by omega), ?_⟩, fun j hj => ?_, fun _ _ _ => ?_, hm⟩
    · unfold partT
      rw [if_neg (by omega), if_pos (by omega), e3]
      exact h1
    · unfold offT
      rw [part_has (by omega), if_neg (by rintro (h | h); cases h; omega), if_pos (by omega)]
      refine ⟨by rw [e5]; rfl, fun _ => ?_⟩
      rw [sumP_times e1 (by omega) j (by omega)]
    · rw [ec, sumP_times e1 (by omega) n.toNat (by omega), e3, e4, Int.toNat_of_nonneg (by omega)]
  | str l s d h1 h2 h3 h4 h5 h6 =>
    have hs := (memR_sum h1).1
    have hpos := (TyOk.str (b := b) l s d h1 h2 h3 h4 h5 h6).size.2.1.2 ⟨(by show (2 : Int) ≤ 6; decide), (by show (6 : Int) ≤ 6; decide)⟩
    generalize hx : ({ ty0 with kind := 6, parts := l, size := s, depth := d + 1 } : TyI) = x at *
    have e1 : x.parts = l := by rw [← hx]
    have e2 : x.times = 0 := by rw [← hx]; rfl
    have e4 : x.size = s := by rw [← hx]
    have e5 : x.kind = 6 := by rw [← hx]
    have ec : cntT x = l.length := by unfold cntT; rw [e1, e2]; simp
    refine ⟨fun j hj => ⟨part_has (by omega), ?_⟩, fun j hj => ?_, fun _ _ _ => ?_, hm⟩
    · unfold partT
      rw [if_neg (by omega), if_neg (by omega), e1]
      have e : ((j : Nat) : Int).toNat = j := rfl
      rw [e]
      refine h2 _ ?_
      show ix l j ∈ l
      rw [ix_of (by omega)]
      exact List.getElem_mem _
    · unfold offT
      rw [part_has (by omega), if_neg (by rintro (h | h); cases h; omega), if_neg (by omega)]
      refine ⟨by rw [e5]; rfl, fun _ => ?_⟩
      have e : ((j : Nat) : Int).toNat = j := rfl
      rw [e, sumP_parts e2 j (by rw [e1]; omega)]
    · have e : ((l.length : Nat) : Int).toNat = l.length := rfl
      rw [ec, e, sumP_parts e2 _ (by rw [e1]; omega), e1, sumN_all, e4, hs, Int.zero_add]
  | ptr c p h1 h2 h3 =>
    refine ⟨fun j hj => ⟨part_has hj, ?_⟩, fun j hj => ?_, fun _ h => absurd rfl h, hm⟩
    · have hj1 : (j : Int) < 0 + 1 := hj
      obtain rfl : j = 0 := by omega
      exact h1
    · unfold offT
      rw [if_pos (.inr rfl)]
      exact ⟨rfl, fun h => absurd h (by show ¬ ((7 : Int) = 4 ∨ (7 : Int) = 5 ∨ (7 : Int) = 6); decide)⟩
  | fn l h1 h2 h3 h4 =>
    have ec : cntT ({ ty0 with kind := 8, parts := l } : TyI) = l.length := by unfold cntT; simp [ty0]
    refine ⟨fun j hj => ⟨part_has hj, ?_⟩, fun j hj => ?_, fun _ _ h => absurd rfl h, hm⟩
    · unfold partT
      rw [if_neg (by omega), if_neg (by show ¬ (0 : Int) < 0; decide)]
      have e : ((j : Nat) : Int).toNat = j := rfl
      rw [e]
      refine h2 _ ?_
      show ix l j ∈ l
      rw [ix_of (by omega)]
      exact List.getElem_mem _
    · unfold offT
      rw [if_pos (.inr rfl)]
      exact ⟨rfl, fun h => absurd h (by show ¬ ((8 : Int) = 4 ∨ (8 : Int) = 5 ∨ (8 : Int) = 6); decide)⟩
end Go.Proofs.YtgdmbeamemdaiaaGreatDoor
