/- Plain: of two types of a table that are no arrays and no structs no two are alike in all. No program is named. -/
import Derived.Test.YtgdmbeamemdaiaaGreatDoorTN
namespace Go.Proofs.YtgdmbeamemdaiaaGreatDoor

/-- the operation and the numbers that make a type that is no array and no struct -/
def keyF (x : TyI) : Int × List Int :=
  if x.kind = 1 then (19, []) else if x.kind = 2 then (20, []) else if x.kind = 3 then (21, [32, if x.signed = true then 1 else 0])
  else if x.kind = 4 then (23, [x.part, x.times]) else if x.kind = 7 then (32, x.cls :: x.parts) else (33, x.parts)
def keyT (x : TyI) : ByteArray := ⟨(keyL (keyF x).1 (keyF x).2).toArray⟩
structure OnceF (s : StN) : Prop where
  pos : ∀ k, 0 ≤ s.R k
  seen : ∀ a ∈ s.ord, (s.T a).kind ≠ 5 → (s.T a).kind ≠ 6 → 0 < s.R (keyT (s.T a))
  one : ∀ a ∈ s.ord, ∀ b ∈ s.ord, (s.T a).kind ≠ 5 → (s.T a).kind ≠ 6 → s.T a = s.T b → a = b
theorem OnceF.st0 : OnceF st0 := ⟨fun _ => Int.le_refl _, fun a h => (by cases h), fun a h => (by cases h)⟩
theorem key_forms : ([(19, 0), (20, 0), (21, 2), (23, 2), (32, 2)].all fun (x : Int × Nat) => match formOf x.1 with | some f => decide (f.fixed.length = x.2) && decide (f.rest.length = 0) | none => false) = true := by decide +kernel
theorem key_len {i : InstI} {bound : Int} {f : FormI} {n : Nat} (h : InstW i bound f) (hm : ((i.1, n) : Int × Nat) ∈ [((19 : Int), (0 : Nat)), (20, 0), (21, 2), (23, 2), (32, 2)]) : (nums i.2.2.2).length = n := by
  have h1 := key_forms
  rw [List.all_eq_true] at h1
  have h2 := h1 _ hm
  dsimp only at h2
  rw [h.form] at h2
  simp only [Bool.and_eq_true, decide_eq_true_eq] at h2
  have := h.len_eq h2.2
  unfold nums
  rw [List.length_map]
  omega
theorem two_of {l : List Int} (h : l.length = 2) : l = [ixn l 0, ixn l 1] := by
  match l, h with
  | [a, b], _ => rfl
theorem nil_of {l : List Int} (h : l.length = 0) : l = [] := List.eq_nil_of_length_eq_zero h
theorem oneT_key {T : Int → TyI} {M : Int → InstI} {i : InstI} {f : FormI} {bound : Int} (hi : InstW i bound f) (hu : ∀ x ∈ nums i.2.2.2, 0 ≤ x) (h : (oneT T M i).2.1 = true) (h0 : (oneT T M i).2.2 = 0)
    (h5 : (oneT T M i).1.kind ≠ 5) (h6 : (oneT T M i).1.kind ≠ 6) : keyF (oneT T M i).1 = (i.1, nums i.2.2.2) ∧ ¬ (i.1 = 28 ∨ i.1 = 30) := by
  unfold oneT at *
  dsimp only at *
  by_cases h1 : i.1 = 19
  · rw [if_pos h1]
    have e := nil_of (key_len (n := 0) hi (by rw [h1]; decide))
    rw [e, h1]
    exact ⟨rfl, by decide⟩
  rw [if_neg h1] at h h0 h5 h6 ⊢
  by_cases h1 : i.1 = 20
  · rw [if_pos h1]
    have e := nil_of (key_len (n := 0) hi (by rw [h1]; decide))
    rw [e, h1]
    exact ⟨rfl, by decide⟩
  rw [if_neg h1] at h h0 h5 h6 ⊢
  by_cases h1 : i.1 = 21
  · rw [if_pos h1] at h0 ⊢
    have hl := key_len (n := 2) hi (by rw [h1]; decide)
    have e := two_of hl
    generalize nums i.2.2.2 = l at *
    dsimp only at h0
    by_cases h2 : ixn l 0 ≠ 32 ∨ 1 < ixn l 1
    · rw [if_pos h2] at h0; cases h0
    · have h3 : 0 ≤ ixn l 1 := hu _ (by rw [e]; exact List.mem_cons_of_mem _ List.mem_cons_self)
      refine ⟨?_, by rw [h1]; decide⟩
      rw [h1]
      have e0 : ixn l 0 = 32 := by omega
      rcases (show ixn l 1 = 0 ∨ ixn l 1 = 1 by omega) with e1 | e1
      · rw [e, e0, e1]; rfl
      · rw [e, e0, e1]; rfl
  rw [if_neg h1] at h h0 h5 h6 ⊢
  by_cases h1 : i.1 = 23
  · rw [if_pos h1] at h0 ⊢
    have hl := key_len (n := 2) hi (by rw [h1]; decide)
    have e := two_of hl
    refine ⟨?_, by rw [h1]; decide⟩
    generalize nums i.2.2.2 = l at *
    dsimp only at h0 ⊢
    unfold vectorT at *
    by_cases h2 : (T (ixn l 0)).kind ≠ 2 ∧ (T (ixn l 0)).kind ≠ 3
    · rw [if_pos h2] at h0; cases h0
    rw [if_neg h2] at h0 ⊢
    by_cases h3 : ixn l 1 < 2 ∨ 4 < ixn l 1
    · rw [if_pos h3] at h0; cases h0
    rw [if_neg h3] at h0 ⊢
    rw [(wholeT_ok h0).1, h1]
    show ((23 : Int), [ixn l 0, ixn l 1]) = (23, l)
    rw [← e]
  rw [if_neg h1] at h h0 h5 h6 ⊢
  by_cases h1 : i.1 = 28
  · exfalso
    rw [if_pos h1] at h0 h5
    dsimp only at h0 h5
    unfold arrayT arrayC at *
    by_cases h2 : (T (ixn (nums i.2.2.2) 0)).size = 0
    · rw [if_pos h2] at h0; cases h0
    rw [if_neg h2] at h0 h5
    by_cases h3 : (M (ixn (nums i.2.2.2) 1)).1 ≠ 43 ∨ (T (M (ixn (nums i.2.2.2) 1)).2.1).kind ≠ 3 ∨ firstN (M (ixn (nums i.2.2.2) 1)) < 1 ∨ 4096 < firstN (M (ixn (nums i.2.2.2) 1))
    · rw [if_pos h3] at h0; cases h0
    rw [if_neg h3] at h0 h5
    rw [(wholeT_ok h0).1] at h5
    exact h5 rfl
  rw [if_neg h1] at h h0 h5 h6 ⊢
  have h28 := h1
  by_cases h1 : i.1 = 30
  · exfalso
    rw [if_pos h1] at h0 h6
    dsimp only at h0 h6
    unfold membersT at *
    by_cases h2 : (nums i.2.2.2).length < 1 ∨ 256 < (nums i.2.2.2).length
    · rw [if_pos h2] at h0; cases h0
    rw [if_neg h2] at h0 h6
    cases hm : memR T (nums i.2.2.2) 0 0 with
    | none => rw [hm] at h0; cases h0
    | some q =>
      obtain ⟨s, d⟩ := q
      rw [hm] at h0 h6
      dsimp only at h0 h6
      rw [(wholeT_ok h0).1] at h6
      exact h6 rfl
  rw [if_neg h1] at h h0 h5 h6 ⊢
  have h30 := h1
  by_cases h1 : i.1 = 32
  · rw [if_pos h1] at h0 ⊢
    have hl := key_len (n := 2) hi (by rw [h1]; decide)
    refine ⟨?_, by rw [h1]; decide⟩
    have e := two_of hl
    have e3 := nums_two hl
    generalize nums i.2.2.2 = l at *
    dsimp only
    rw [h1, e3]
    show ((32 : Int), [ixn l 0, ixn l 1]) = (32, l)
    rw [← e]
  rw [if_neg h1] at h h0 h5 h6 ⊢
  by_cases h1 : i.1 = 33
  · rw [if_pos h1] at h0 ⊢
    dsimp only at h0 ⊢
    unfold functionT at *
    refine ⟨?_, by rw [h1]; decide⟩
    by_cases h2 : funR T (nums i.2.2.2) 0 = true
    · rw [if_pos h2, h1]; rfl
    · rw [if_neg h2] at h0; cases h0
  · rw [if_neg h1] at h; cases h
theorem bump_le (R : ByteArray → Int) (s k : ByteArray) : R k ≤ bump R s k := by
  unfold bump
  split <;> omega
theorem nextN_once {s : StN} {i : InstI} {f : FormI} {bound : Int} (h : OnceF s) (hi : InstW i bound f) (hu : ∀ x ∈ nums i.2.2.2, 0 ≤ x) (hE : errN s i = 0) (hn : (oneT s.T s.M i).2.1 = true → i.2.2.1 ∉ s.ord) : OnceF (nextN s i) := by
  by_cases hb : (oneT s.T s.M i).2.1 = true
  · have hn := hn hb
    unfold errN at hE
    dsimp only at hE
    by_cases hc : (oneT s.T s.M i).2.1 = true ∧ (oneT s.T s.M i).2.2 = 0 ∧ (againR s.R i).1 = true
    · rw [if_pos hc] at hE; cases hE
    rw [if_neg hc] at hE
    have hag : (againR s.R i).1 = false := by
      cases hx : (againR s.R i).1 with
      | false => rfl
      | true => exact absurd ⟨hb, hE, hx⟩ hc
    have eT : (nextN s i).T = updT s.T i.2.2.1 (oneT s.T s.M i).1 := by unfold nextN; dsimp only; rw [if_pos hb]; rfl
    have eR : (nextN s i).R = (againR s.R i).2 := by unfold nextN; dsimp only; rw [if_pos ⟨hb, hE⟩]
    have eO : (nextN s i).ord = s.ord ++ [i.2.2.1] := by unfold nextN; dsimp only; rw [if_pos hb]
    have F1 : (oneT s.T s.M i).1.kind ≠ 5 → (oneT s.T s.M i).1.kind ≠ 6 → keyT (oneT s.T s.M i).1 = keyB i ∧ ¬ 0 < s.R (keyB i) ∧ (againR s.R i).2 = bump s.R (keyB i) := fun h5 h6 => by
      obtain ⟨e1, e2⟩ := oneT_key hi hu hb hE h5 h6
      refine ⟨by unfold keyT keyB; rw [e1], ?_, by unfold againR; rw [if_neg e2]⟩
      unfold againR at hag
      rw [if_neg e2] at hag
      simpa using hag
    have F2 : ∀ k, s.R k ≤ (againR s.R i).2 k := fun k => by
      unfold againR
      split
      · exact Int.le_refl _
      · exact bump_le _ _ _
    clear hc hag
    generalize (oneT s.T s.M i).1 = x at *
    have hne : ∀ a ∈ s.ord, updT s.T i.2.2.1 x a = s.T a := fun a ha => updT_ne _ _ (fun e => hn (e ▸ ha))
    refine ⟨fun k => ?_, fun a ha h5 h6 => ?_, fun a ha b hb' h5 h6 he => ?_⟩
    · rw [eR]
      have := F2 k
      have := h.pos k
      omega
    · rw [eO, List.mem_append, List.mem_singleton] at ha
      rw [eT] at h5 h6 ⊢
      rw [eR]
      rcases ha with ha | rfl
      · rw [hne a ha] at h5 h6 ⊢
        have := h.seen a ha h5 h6
        have := F2 (keyT (s.T a))
        omega
      · rw [updT_at] at h5 h6 ⊢
        obtain ⟨e1, -, e3⟩ := F1 h5 h6
        have hp := h.pos (keyB i)
        rw [e1, e3]
        show 0 < if keyB i = keyB i then s.R (keyB i) + 1 else s.R (keyB i)
        rw [if_pos rfl]
        omega
    · rw [eO, List.mem_append, List.mem_singleton] at ha hb'
      rw [eT] at h5 h6 he
      rcases ha with ha | rfl
      · rw [hne a ha] at h5 h6 he
        rcases hb' with hb' | rfl
        · rw [hne b hb'] at he
          exact h.one a ha b hb' h5 h6 he
        · rw [updT_at] at he
          rw [he] at h5 h6
          obtain ⟨e1, e2, -⟩ := F1 h5 h6
          have := h.seen a ha (by rw [he]; exact h5) (by rw [he]; exact h6)
          rw [he, e1] at this
          exact absurd this e2
      · rw [updT_at] at h5 h6 he
        rcases hb' with hb' | rfl
        · rw [hne b hb'] at he
          obtain ⟨e1, e2, -⟩ := F1 h5 h6
          have := h.seen b hb' (by rw [← he]; exact h5) (by rw [← he]; exact h6)
          rw [← he, e1] at this
          exact absurd this e2
        · rfl
  · have hb : (oneT s.T s.M i).2.1 = false := by simpa using hb
    have e1 : (nextN s i).T = s.T := by unfold nextN; dsimp only; rw [if_neg (by rw [hb]; decide)]
    have e2 : (nextN s i).ord = s.ord := by unfold nextN; dsimp only; rw [if_neg (by rw [hb]; decide)]
    have e3 : (nextN s i).R = s.R := by unfold nextN; dsimp only; rw [if_neg (by rw [hb]; rintro ⟨h, -⟩; cases h)]
    exact ⟨by rw [e3]; exact h.pos, by rw [e1, e2, e3]; exact h.seen, by rw [e1, e2]; exact h.one⟩
theorem newL_once {l : List InstI} {bound : Int} (hs : ∀ i ∈ l, (rawR i bound).1 = 0) (hu : Once l) (hp : ∀ i ∈ l, ∀ x ∈ nums i.2.2.2, 0 ≤ x) :
    ∀ (n k : Nat) (s s' : StN) (at_ : Int), l.length - k = n → k ≤ l.length → OnceF s → (∀ id ∈ s.ord, ∃ j i, j < k ∧ l[j]? = some i ∧ i.2.2.1 = id) → newL s (l.drop k) k = (0, at_, s') → OnceF s'
  | 0, k, s, s', at_, h1, h2, hw, ho, h => by
    obtain rfl : k = l.length := by omega
    rw [List.drop_length] at h
    have h3 : ((0 : Int), (0 : Int), s) = (0, at_, s') := h
    cases h3
    exact hw
  | n + 1, k, s, s', at_, h1, h2, hw, ho, h => by
    have hk : k < l.length := by omega
    have hgi : l[k]? = some l[k] := List.getElem?_eq_getElem hk
    rw [newL_step hgi] at h
    obtain ⟨f, hi⟩ := rawR_ok (hs l[k] (List.getElem_mem hk))
    have hpi := hp l[k] (List.getElem_mem hk)
    generalize l[k] = i at *
    by_cases hE : errN s i ≠ 0
    · rw [if_pos hE] at h
      injection h with h3 _
      exact absurd h3 hE
    · rw [if_neg hE] at h
      have hE := Decidable.not_not.1 hE
      have hnin : (oneT s.T s.M i).2.1 = true → i.2.2.1 ∉ s.ord := fun hb hin => by
        have hn : i.2.2.1 ≠ 0 := hi.res_ne (oneT_op hb)
        obtain ⟨j, i', hj, hji, he⟩ := ho _ hin
        exact hu j k i' i hji hgi hj hn he
      refine newL_once hs hu hp n (k + 1) _ _ _ (by omega) (by omega) (nextN_once hw hi hpi hE hnin) ?_ h
      intro id hid
      unfold nextN at hid
      dsimp only at hid
      by_cases hb : (oneT s.T s.M i).2.1 = true
      · rw [if_pos hb, List.mem_append, List.mem_singleton] at hid
        rcases hid with hid | rfl
        · obtain ⟨j, i', hj, hr⟩ := ho id hid
          exact ⟨j, i', by omega, hr⟩
        · exact ⟨k, i, by omega, hgi, rfl⟩
      · rw [if_neg hb] at hid
        obtain ⟨j, i', hj, hr⟩ := ho id hid
        exact ⟨j, i', by omega, hr⟩
/-- the table of a module that New takes -/
theorem newM_once {bound : Int} {l : List InstI} {at_ : Int} {s : StN} (hp : ∀ i ∈ l, ∀ x ∈ nums i.2.2.2, 0 ≤ x) (h : newM bound l = (0, at_, s)) : OnceF s := by
  unfold newM at h
  split at h
  · rename_i hc
    injection h with h1 _
    exact absurd h1 hc
  · rename_i hc
    have hc := Decidable.not_not.1 hc
    exact newL_once (ids_shape hc) (ids_once hc) hp (l.length) 0 st0 s at_ (by omega) (Nat.zero_le _) OnceF.st0 (fun id hid => by cases hid) h
end Go.Proofs.YtgdmbeamemdaiaaGreatDoor
