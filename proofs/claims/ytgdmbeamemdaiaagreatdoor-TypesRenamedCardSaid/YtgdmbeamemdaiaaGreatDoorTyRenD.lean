/- Plain: ids numbered as they are made. No program is named. -/
import Derived.Test.YtgdmbeamemdaiaaGreatDoorTyRenC
namespace Go.Proofs.YtgdmbeamemdaiaaGreatDoor

def resAt (l : List InstI) (k : Nat) : Int := match l[k]? with
  | none => 0
  | some i => i.2.2.1
theorem resAt_at {l : List InstI} {k : Nat} {i : InstI} (h : l[k]? = some i) : resAt l k = i.2.2.1 := by unfold resAt; rw [h]
/-- how many ids have a number, and which -/
def cntN (l : List InstI) : Nat → Nat
  | 0 => 1
  | k + 1 => if resAt l k ≠ 0 then cntN l k + 1 else cntN l k
def setO (f : Int → Option Int) (x v : Int) : Int → Option Int := fun y => if y = x then some v else f y
def toN (l : List InstI) : Nat → Int → Option Int
  | 0 => fun x => if x = 0 then some 0 else none
  | k + 1 => if resAt l k ≠ 0 then setO (toN l k) (resAt l k) (cntN l k : Int) else toN l k
/-- what holds of them -/
structure ToOk (l : List InstI) (k : Nat) : Prop where
  zero : toN l k 0 = some 0
  bd : ∀ x v, x ≠ 0 → toN l k x = some v → 1 ≤ v ∧ v < (cntN l k : Int) ∧ ∃ j, j < k ∧ resAt l j = x
  has : ∀ j, j < k → resAt l j ≠ 0 → ∃ v, toN l k (resAt l j) = some v
  inj : ∀ x y v, toN l k x = some v → toN l k y = some v → x = y
  pos : 1 ≤ cntN l k
theorem once_res {l : List InstI} (ho : Once l) {j k : Nat} (hj : j < k) (h0 : resAt l k ≠ 0) : resAt l j ≠ resAt l k := by
  unfold resAt at *
  cases hk : l[k]? with
  | none => rw [hk] at h0; exact absurd rfl h0
  | some i =>
    rw [hk] at h0
    have hjl : j < l.length := by
      have := (List.getElem?_eq_some_iff.1 hk).1
      omega
    rw [List.getElem?_eq_getElem hjl]
    exact ho j k l[j] i (List.getElem?_eq_getElem hjl) hk hj h0
theorem toN_none {l : List InstI} (ho : Once l) {k : Nat} (h : ToOk l k) (h0 : resAt l k ≠ 0) : toN l k (resAt l k) = none := by
  cases hx : toN l k (resAt l k) with
  | none => rfl
  | some v =>
    obtain ⟨-, -, j, hj, e⟩ := h.bd _ v h0 hx
    exact absurd e (once_res ho hj h0)
theorem toN_ok {l : List InstI} (ho : Once l) : ∀ k, ToOk l k
  | 0 => by
    refine ⟨rfl, fun x v hx h => ?_, fun j hj => absurd hj (Nat.not_lt_zero j), fun x y v h1 h2 => ?_, Nat.le_refl 1⟩
    · unfold toN at h
      rw [if_neg hx] at h
      cases h
    · unfold toN at h1 h2
      split at h1
      · split at h2
        · omega
        · cases h2
      · cases h1
  | k + 1 => by
    have ih := toN_ok ho k
    by_cases h0 : resAt l k ≠ 0
    · have e1 : toN l (k + 1) = setO (toN l k) (resAt l k) (cntN l k : Int) := by show (if resAt l k ≠ 0 then _ else _) = _; rw [if_pos h0]
      have e2 : cntN l (k + 1) = cntN l k + 1 := by show (if resAt l k ≠ 0 then _ else _) = _; rw [if_pos h0]
      have hn := toN_none ho ih h0
      have hp := ih.pos
      have hval : ∀ x v, toN l k x = some v → v ≠ (cntN l k : Int) := fun x v h => by
        by_cases hx : x = 0
        · rw [hx, ih.zero] at h
          injection h with h
          omega
        · have := ih.bd x v hx h
          omega
      rw [show ToOk l (k + 1) = ToOk l (k + 1) from rfl]
      refine ⟨?_, fun x v hx h => ?_, fun j hj hr => ?_, fun x y v h1 h2 => ?_, by rw [e2]; omega⟩
      · rw [e1]
        unfold setO
        rw [if_neg (fun e => h0 e.symm)]
        exact ih.zero
      · rw [e1] at h
        rw [e2]
        unfold setO at h
        by_cases hx2 : x = resAt l k
        · rw [if_pos hx2] at h
          injection h with h
          exact ⟨by omega, by omega, k, by omega, hx2.symm⟩
        · rw [if_neg hx2] at h
          obtain ⟨a1, a2, j, hj, e⟩ := ih.bd x v hx h
          exact ⟨a1, by omega, j, by omega, e⟩
      · rw [e1]
        unfold setO
        by_cases hx2 : resAt l j = resAt l k
        · rw [if_pos hx2]; exact ⟨_, rfl⟩
        · rw [if_neg hx2]
          exact ih.has j (by rcases Nat.lt_succ_iff_lt_or_eq.1 hj with h | rfl; exact h; exact absurd rfl hx2) hr
      · rw [e1] at h1 h2
        unfold setO at h1 h2
        by_cases hx : x = resAt l k
        · rw [if_pos hx] at h1
          injection h1 with h1
          by_cases hy : y = resAt l k
          · omega
          · rw [if_neg hy] at h2
            exact absurd h1.symm (hval y v h2)
        · rw [if_neg hx] at h1
          by_cases hy : y = resAt l k
          · rw [if_pos hy] at h2
            injection h2 with h2
            exact absurd h2.symm (hval x v h1)
          · rw [if_neg hy] at h2
            exact ih.inj x y v h1 h2
    · have e1 : toN l (k + 1) = toN l k := by show (if resAt l k ≠ 0 then _ else _) = _; rw [if_neg h0]
      have e2 : cntN l (k + 1) = cntN l k := by show (if resAt l k ≠ 0 then _ else _) = _; rw [if_neg h0]
      refine ⟨by rw [e1]; exact ih.zero, fun x v hx h => ?_, fun j hj hr => ?_, by rw [e1]; exact ih.inj, by rw [e2]; exact ih.pos⟩
      · rw [e1] at h
        rw [e2]
        obtain ⟨a1, a2, j, hj, e⟩ := ih.bd x v hx h
        exact ⟨a1, a2, j, by omega, e⟩
      · rw [e1]
        exact ih.has j (by rcases Nat.lt_succ_iff_lt_or_eq.1 hj with h | rfl; exact h; exact absurd hr h0) hr
/-! No more ids than a bound. -/
def cb (p : Nat → Bool) : Nat → Nat
  | 0 => 0
  | n + 1 => cb p n + (if p n = true then 1 else 0)
theorem cb_le (p : Nat → Bool) : ∀ n, cb p n ≤ n
  | 0 => Nat.le_refl 0
  | n + 1 => by
    have := cb_le p n
    unfold cb
    split <;> omega
theorem cb_same {p q : Nat → Bool} : ∀ n, (∀ j, j < n → p j = q j) → cb p n = cb q n
  | 0, _ => rfl
  | n + 1, h => by
    unfold cb
    rw [cb_same n (fun j hj => h j (by omega)), h n (by omega)]
theorem cb_more {p q : Nat → Bool} {r : Nat} (hr : p r = false) (hq : q r = true) (hs : ∀ j, j ≠ r → q j = p j) : ∀ n, r < n → cb q n = cb p n + 1
  | 0, h => absurd h (Nat.not_lt_zero r)
  | n + 1, h => by
    unfold cb
    by_cases e : r = n
    · subst e
      rw [cb_same r (fun j hj => hs j (by omega)), hr, hq]
      simp
    · rw [cb_more hr hq hs n (by omega), hs n (by omega)]
      omega
theorem cntN_le {l : List InstI} {N : Nat} (ho : Once l) (hN : 1 ≤ N) (hb : ∀ i ∈ l, 0 ≤ i.2.2.1 ∧ i.2.2.1 < (N : Int)) : ∀ k, cb (fun j => (toN l k (j : Int)).isSome) N = cntN l k
  | 0 => by
    have h1 : ∀ n, 1 ≤ n → cb (fun j => (toN l 0 (j : Int)).isSome) n = 1 := fun n => by
      induction n with
      | zero => intro h; omega
      | succ n ih =>
        intro _
        unfold cb
        by_cases hn : n = 0
        · subst hn; rfl
        · rw [ih (by omega)]
          have : (toN l 0 (n : Int)).isSome = false := by
            unfold toN
            rw [if_neg (by omega)]
            rfl
          rw [this]
          rfl
    exact h1 N hN
  | k + 1 => by
    have ih := cntN_le ho hN hb k
    by_cases h0 : resAt l k ≠ 0
    · have e1 : toN l (k + 1) = setO (toN l k) (resAt l k) (cntN l k : Int) := by show (if resAt l k ≠ 0 then _ else _) = _; rw [if_pos h0]
      have e2 : cntN l (k + 1) = cntN l k + 1 := by show (if resAt l k ≠ 0 then _ else _) = _; rw [if_pos h0]
      have hn := toN_none ho (toN_ok ho k) h0
      have hr : 0 ≤ resAt l k ∧ resAt l k < (N : Int) := by
        unfold resAt at h0 ⊢
        cases hk : l[k]? with
        | none => rw [hk] at h0; exact absurd rfl h0
        | some i => exact hb i (List.mem_of_getElem? hk)
      rw [e2, ← ih, e1]
      refine cb_more (r := (resAt l k).toNat) ?_ ?_ (fun j hj => ?_) N (by omega)
      · rw [Int.toNat_of_nonneg hr.1, hn]; rfl
      · unfold setO
        rw [Int.toNat_of_nonneg hr.1, if_pos rfl]; rfl
      · unfold setO
        rw [if_neg (by omega)]
    · have e1 : toN l (k + 1) = toN l k := by show (if resAt l k ≠ 0 then _ else _) = _; rw [if_neg h0]
      have e2 : cntN l (k + 1) = cntN l k := by show (if resAt l k ≠ 0 then _ else _) = _; rw [if_neg h0]
      rw [e1, e2, ih]
theorem madeR_res : ∀ {l : List InstI} {k m : Nat} {x : Int}, madeR l k x = some m → x ≠ 0 ∧ ∃ j, j < l.length ∧ m = k + j ∧ resAt l j = x
  | [], _, _, _, h => by cases h
  | i :: r, k, m, x, h => by
    unfold madeR at h
    split at h
    · rename_i hc
      injection h with h
      exact ⟨by rw [← hc.2]; exact hc.1, 0, by simp, by omega, hc.2⟩
    · obtain ⟨h0, j, hj, h1, h2⟩ := madeR_res h
      exact ⟨h0, j + 1, by simpa using hj, by omega, h2⟩
/-- to which number an id is turned -/
def toF (l : List InstI) (x : Int) : Int := (toN l l.length x).getD 0
theorem toF_ok {l : List InstI} (ho : Once l) : RenOk (toF l) (fun x => x = 0 ∨ (madeR l 0 x).isSome = true) (cntN l l.length : Int) := by
  have h := toN_ok ho l.length
  have hU : ∀ x, (x = 0 ∨ (madeR l 0 x).isSome = true) → ∃ v, toN l l.length x = some v := fun x hx => by
    rcases hx with rfl | hx
    · exact ⟨0, h.zero⟩
    · obtain ⟨m, hm⟩ := Option.isSome_iff_exists.1 hx
      obtain ⟨h0, j, hj, -, e⟩ := madeR_res hm
      rw [← e]
      exact h.has j hj (by rw [e]; exact h0)
  refine ⟨by unfold toF; rw [h.zero]; rfl, .inl rfl, fun x y hx hy e => ?_, fun x hx h0 => ?_⟩
  · obtain ⟨v, hv⟩ := hU x hx
    obtain ⟨u, hu⟩ := hU y hy
    unfold toF at e
    rw [hv, hu] at e
    have e : v = u := e
    subst e
    exact h.inj x y v hv hu
  · obtain ⟨v, hv⟩ := hU x hx
    unfold toF
    rw [hv]
    have := h.bd x v h0 hv
    exact ⟨this.1, this.2.1⟩
/-- New of a module whose ids are numbered anew -/
theorem renumber_new {bound : Int} {l : List InstI} {s : StN} {at_ : Int} (hop : ∀ i ∈ l, 0 ≤ i.1) (hres : ∀ i ∈ l, 0 ≤ i.2.2.1) (hp : ∀ i ∈ l, ∀ x ∈ nums i.2.2.2, 0 ≤ x) (hn : newM bound l = (0, at_, s)) :
    (cntN l l.length ≤ 65536) ∧ ∃ s', newM (cntN l l.length : Int) (l.map (renI (toF l))) = (0, at_, s') ∧ RelS (toF l) (fun x => x = 0 ∨ (madeR l 0 x).isSome = true) l s s' := by
  have hi : (idsM bound l).1 = 0 := by
    unfold newM at hn
    by_cases hi : (idsM bound l).1 = 0
    · exact hi
    · exfalso
      rw [if_pos hi] at hn
      exact hi (congrArg Prod.fst hn)
  have ho := ids_once hi
  have hb : bound ≠ 0 ∧ bound ≤ 65536 := by
    have h1 : (shapeM bound l).1 = 0 := by
      unfold idsM layM at hi
      by_cases hs : (shapeM bound l).1 = 0
      · exact hs
      · rw [if_pos hs, if_pos hs] at hi
        exact hi
    unfold shapeM at h1
    split at h1
    · cases h1
    · omega
  have hle : cntN l l.length ≤ 65536 := by
    have h1 := cntN_le (N := 65536) ho (by decide) (fun i hil => ?_) l.length
    · have h2 := cb_le (fun j => (toN l l.length (j : Int)).isSome) 65536
      omega
    · refine ⟨hres i hil, ?_⟩
      obtain ⟨f, wi⟩ := rawR_ok (ids_shape hi i hil)
      by_cases h0 : i.2.2.1 = 0
      · rw [h0]; decide
      · have := wi.resb (by rw [wi.res]; simpa using h0)
        show _ < (65536 : Int)
        omega
  have hpos := (toN_ok ho l.length).pos
  exact ⟨hle, newM_ren (toF_ok ho) (by omega) (by omega) hop hp hn⟩
end Go.Proofs.YtgdmbeamemdaiaaGreatDoor
