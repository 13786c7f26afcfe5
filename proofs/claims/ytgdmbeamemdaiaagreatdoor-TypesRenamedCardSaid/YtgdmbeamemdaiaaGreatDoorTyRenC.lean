/- Plain: New of a module with other ids. No program is named. -/
import Derived.Test.YtgdmbeamemdaiaaGreatDoorTyRenB
namespace Go.Proofs.YtgdmbeamemdaiaaGreatDoor

theorem list_ixn {l m : List Int} (hl : l.length = m.length) (h : ∀ k, k < l.length → ixn l k = ixn m k) : l = m := by
  refine List.ext_getElem hl fun k h1 h2 => ?_
  have := h k h1
  unfold ixn at this
  rw [List.getD_eq_getElem?_getD, List.getD_eq_getElem?_getD, List.getElem?_eq_getElem h1, List.getElem?_eq_getElem h2] at this
  exact this
theorem nums_ren_iff {to : Int → Int} {U : Int → Prop} {b bound : Int} (h : RenOk to U b) {i j : InstI} {f g : FormI} (hi : InstW i bound f) (hj : InstW j bound g) (ho : i.1 = j.1) (ui : Used U i) (uj : Used U j) :
    nums (renI to i).2.2.2 = nums (renI to j).2.2.2 ↔ nums i.2.2.2 = nums j.2.2.2 := by
  show nums (i.2.2.2.map (renA to)) = nums (j.2.2.2.map (renA to)) ↔ _
  have hpt : i.2.2.2.length = j.2.2.2.length → ∀ k, k < i.2.2.2.length → (ixn (nums (i.2.2.2.map (renA to))) k = ixn (nums (j.2.2.2.map (renA to))) k ↔ ixn (nums i.2.2.2) k = ixn (nums j.2.2.2) k) := fun he k hk => by
    rw [nums_at hk, nums_at (by omega), hi.kind_at hk, hj.kind_at (by omega), ho]
    by_cases hc : kindT (letterOf j.1 k) = 1
    · rw [if_pos hc, if_pos hc]
      have h1 : U (ixn (nums i.2.2.2) k) := by rw [nums_getD hk]; exact ui.args _ (ag_mem hk) (by rw [hi.kind_at hk, ho, hc])
      have h2 : U (ixn (nums j.2.2.2) k) := by rw [nums_getD (by omega)]; exact uj.args _ (ag_mem (by omega)) (by rw [hj.kind_at (by omega), hc])
      exact ⟨h.inj _ _ h1 h2, fun e => by rw [e]⟩
    · rw [if_neg hc, if_neg hc]
  constructor
  · intro e
    have hl := congrArg List.length e
    rw [nums_len, nums_len, List.length_map, List.length_map] at hl
    refine list_ixn (by rw [nums_len, nums_len]; exact hl) fun k hk => ?_
    rw [nums_len] at hk
    exact (hpt hl k hk).1 (by rw [e])
  · intro e
    have hl := congrArg List.length e
    rw [nums_len, nums_len] at hl
    refine list_ixn (by rw [nums_len, nums_len, List.length_map, List.length_map]; exact hl) fun k hk => ?_
    rw [nums_len, List.length_map] at hk
    exact (hpt hl k hk).2 (by rw [e])
theorem nums_ren_pos {to : Int → Int} {U : Int → Prop} {b : Int} (h : RenOk to U b) {i : InstI} (ui : Used U i) (hp : ∀ x ∈ nums i.2.2.2, 0 ≤ x) : ∀ x ∈ nums (renI to i).2.2.2, 0 ≤ x := fun x hx => by
  have hx : x ∈ nums (i.2.2.2.map (renA to)) := hx
  unfold nums at hx
  rw [List.map_map] at hx
  obtain ⟨a, ha, rfl⟩ := List.mem_map.1 hx
  show 0 ≤ (renA to a).2.1
  by_cases h1 : a.1 = 1
  · rw [renA_id h1]
    by_cases h0 : a.2.1 = 0
    · rw [h0, h.zero]; exact Int.le_refl _
    · have := h.bd _ (ui.args a ha h1) h0; omega
  · rw [renA_other h1]
    exact hp _ (List.mem_map.2 ⟨a, ha, rfl⟩)
/-- what is held of the module: its shape, its ids, its numbers -/
structure ModW (U : Int → Prop) (bound : Int) (l : List InstI) : Prop where
  raw : ∀ i ∈ l, (rawR i bound).1 = 0
  used : ∀ i ∈ l, Used U i
  op : ∀ i ∈ l, 0 ≤ i.1
  pos : ∀ i ∈ l, ∀ x ∈ nums i.2.2.2, 0 ≤ x
theorem ModW.key {to : Int → Int} {U : Int → Prop} {b bound : Int} {l : List InstI} (hW : ModW U bound l) (h : RenOk to U b) {i j : InstI} (hi : i ∈ l) (hj : j ∈ l) : keyB (renI to i) = keyB (renI to j) ↔ keyB i = keyB j := by
  obtain ⟨f, wi⟩ := rawR_ok (hW.raw i hi)
  obtain ⟨g, wj⟩ := rawR_ok (hW.raw j hj)
  have ui := hW.used i hi
  have uj := hW.used j hj
  rw [keyB_iff (hW.op i hi) (hW.op j hj) (hW.pos i hi) (hW.pos j hj), keyB_iff (i := renI to i) (j := renI to j) (hW.op i hi) (hW.op j hj) (nums_ren_pos h ui (hW.pos i hi)) (nums_ren_pos h uj (hW.pos j hj))]
  show i.1 = j.1 ∧ _ ↔ _
  constructor
  · rintro ⟨e1, e2⟩
    exact ⟨e1, (nums_ren_iff h wi wj e1 ui uj).1 e2⟩
  · rintro ⟨e1, e2⟩
    exact ⟨e1, (nums_ren_iff h wi wj e1 ui uj).2 e2⟩
/-- two tables alike but for the ids -/
structure RelS (to : Int → Int) (U : Int → Prop) (l : List InstI) (s s' : StN) : Prop where
  T : ∀ x, U x → s'.T (to x) = renT to (s.T x)
  M : ∀ x, U x → s'.M (to x) = renI to (s.M x)
  R : ∀ j ∈ l, s'.R (keyB (renI to j)) = s.R (keyB j)
  ord : s'.ord = s.ord.map to
  ordU : ∀ x ∈ s.ord, U x
  mty : ∀ x, U x → U (s.M x).2.1
  min : ∀ x, (s.M x).1 = 43 → 0 < (s.M x).2.2.2.length ∧ (ag (s.M x).2.2.2 0).1 = 2
theorem RelS.st0 {to : Int → Int} {U : Int → Prop} {b : Int} (h : RenOk to U b) (l : List InstI) : RelS to U l st0 st0 :=
  ⟨fun x _ => (renT_zero h.zero).symm, fun x _ => by show ((0, 0, 0, []) : InstI) = (0, to 0, to 0, []); rw [h.zero], fun _ _ => rfl, rfl, fun x hx => (by cases hx), fun x _ => h.u0, fun x hx => (by cases hx)⟩
section
variable {to : Int → Int} {U : Int → Prop} {b bound : Int} {l : List InstI} {s s' : StN}
theorem RelS.one (hR : RelS to U l s s') (h : RenOk to U b) (hW : ModW U bound l) {i : InstI} (hi : i ∈ l) : oneT s'.T s'.M (renI to i) = (renT to (oneT s.T s.M i).1, (oneT s.T s.M i).2.1, (oneT s.T s.M i).2.2) := by
  obtain ⟨f, wi⟩ := rawR_ok (hW.raw i hi)
  exact oneT_ren h hR.T hR.M hR.mty hR.min wi (hW.used i hi)
theorem RelS.again (hR : RelS to U l s s') (h : RenOk to U b) (hW : ModW U bound l) {i : InstI} (hi : i ∈ l) : (againR s'.R (renI to i)).1 = (againR s.R i).1 ∧ ∀ j ∈ l, (againR s'.R (renI to i)).2 (keyB (renI to j)) = (againR s.R i).2 (keyB j) := by
  have eo : (renI to i).1 = i.1 := rfl
  unfold againR
  rw [eo, hR.R i hi]
  by_cases hc : i.1 = 28 ∨ i.1 = 30
  · rw [if_pos hc, if_pos hc]
    exact ⟨rfl, hR.R⟩
  · rw [if_neg hc, if_neg hc]
    refine ⟨rfl, fun j hj => ?_⟩
    unfold bump
    dsimp only
    rw [hR.R j hj]
    by_cases e : keyB j = keyB i
    · rw [if_pos e, if_pos ((hW.key h hj hi).2 e)]
    · rw [if_neg e, if_neg (fun hh => e ((hW.key h hj hi).1 hh))]
theorem RelS.err (hR : RelS to U l s s') (h : RenOk to U b) (hW : ModW U bound l) {i : InstI} (hi : i ∈ l) : errN s' (renI to i) = errN s i := by
  unfold errN
  dsimp only
  rw [hR.one h hW hi, (hR.again h hW hi).1]
theorem RelS.next (hR : RelS to U l s s') (h : RenOk to U b) (hW : ModW U bound l) {i : InstI} (hi : i ∈ l) : RelS to U l (nextN s i) (nextN s' (renI to i)) := by
  have h1 := hR.one h hW hi
  obtain ⟨-, h2⟩ := hR.again h hW hi
  have hu := hW.used i hi
  have er : (renI to i).2.2.1 = to i.2.2.1 := rfl
  have heq : ∀ x, U x → (to x = to i.2.2.1 ↔ x = i.2.2.1) := fun x hx => ⟨h.inj _ _ hx hu.res, fun e => by rw [e]⟩
  unfold nextN
  dsimp only
  rw [h1, er]
  dsimp only
  refine ⟨fun x hx => ?_, fun x hx => ?_, fun j hj => ?_, ?_, fun x hx => ?_, fun x hx => ?_, fun x hx => ?_⟩
  · dsimp only
    by_cases hb : (oneT s.T s.M i).2.1 = true
    · rw [if_pos hb, if_pos hb]
      by_cases e : x = i.2.2.1
      · rw [if_pos ((heq x hx).2 e), if_pos e]
      · rw [if_neg (fun hh => e ((heq x hx).1 hh)), if_neg e]
        exact hR.T x hx
    · rw [if_neg hb, if_neg hb]
      exact hR.T x hx
  · dsimp only
    by_cases e : x = i.2.2.1
    · rw [if_pos ((heq x hx).2 e), if_pos e]
    · rw [if_neg (fun hh => e ((heq x hx).1 hh)), if_neg e]
      exact hR.M x hx
  · dsimp only
    by_cases hb : (oneT s.T s.M i).2.1 = true ∧ (oneT s.T s.M i).2.2 = 0
    · rw [if_pos hb, if_pos hb]
      exact h2 j hj
    · rw [if_neg hb, if_neg hb]
      exact hR.R j hj
  · dsimp only
    by_cases hb : (oneT s.T s.M i).2.1 = true
    · rw [if_pos hb, if_pos hb, hR.ord, List.map_append]
      rfl
    · rw [if_neg hb, if_neg hb]
      exact hR.ord
  · dsimp only at hx
    by_cases hb : (oneT s.T s.M i).2.1 = true
    · rw [if_pos hb] at hx
      rcases List.mem_append.1 hx with hx | hx
      · exact hR.ordU x hx
      · rw [List.mem_singleton.1 hx]; exact hu.res
    · rw [if_neg hb] at hx
      exact hR.ordU x hx
  · dsimp only
    by_cases e : x = i.2.2.1
    · rw [if_pos e]; exact hu.ty
    · rw [if_neg e]; exact hR.mty x hx
  · dsimp only at hx ⊢
    by_cases e : x = i.2.2.1
    · rw [if_pos e] at hx ⊢
      obtain ⟨f, wi⟩ := rawR_ok (hW.raw i hi)
      have hl := args_one (hW.raw i hi) hx
      refine ⟨hl, ?_⟩
      rw [wi.kind_at hl, hx]
      exact two_kinds.2.2.2.2.2.2
    · rw [if_neg e] at hx ⊢
      exact hR.min x hx
end
theorem newL_ren {to : Int → Int} {U : Int → Prop} {b bound : Int} {l : List InstI} (h : RenOk to U b) (hW : ModW U bound l) : ∀ {r : List InstI} {k : Nat} {s s' z : StN} {at_ : Int}, (∀ i ∈ r, i ∈ l) → RelS to U l s s' → newL s r k = (0, at_, z) →
    ∃ z', newL s' (r.map (renI to)) k = (0, at_, z') ∧ RelS to U l z z'
  | [], k, s, s', z, at_, _, hR, hn => by
    have h3 : ((0 : Int), (0 : Int), s) = (0, at_, z) := hn
    cases h3
    exact ⟨s', rfl, hR⟩
  | i :: r, k, s, s', z, at_, hm, hR, hn => by
    have hi := hm i List.mem_cons_self
    unfold newL at hn
    rw [List.map_cons]
    unfold newL
    rw [hR.err h hW hi]
    by_cases hE : errN s i ≠ 0
    · rw [if_pos hE] at hn
      injection hn with h3 _
      exact absurd h3 hE
    · rw [if_neg hE] at hn ⊢
      exact newL_ren h hW (fun j hj => hm j (List.mem_cons_of_mem _ hj)) (hR.next h hW hi) hn
theorem newM_ren {to : Int → Int} {b bound : Int} {l : List InstI} {s : StN} {at_ : Int} (h : RenOk to (fun x => x = 0 ∨ (madeR l 0 x).isSome = true) b) (hb : b ≠ 0) (hb2 : b ≤ 65536) (hop : ∀ i ∈ l, 0 ≤ i.1) (hp : ∀ i ∈ l, ∀ x ∈ nums i.2.2.2, 0 ≤ x)
    (hn : newM bound l = (0, at_, s)) : ∃ s', newM b (l.map (renI to)) = (0, at_, s') ∧ RelS to (fun x => x = 0 ∨ (madeR l 0 x).isSome = true) l s s' := by
  unfold newM at hn ⊢
  by_cases hi : (idsM bound l).1 = 0
  · rw [if_neg (fun hc => hc hi)] at hn
    have hu := ids_used hi
    rw [if_neg (fun hc => hc (idsM_ren h hb hb2 hu hi))]
    exact newL_ren h ⟨ids_shape hi, hu, hop, hp⟩ (fun i hi => hi) (RelS.st0 h l) hn
  · rw [if_pos hi] at hn
    injection hn with h1 _
    exact absurd h1 hi
/-! Texts. -/
theorem RelS.inside {to : Int → Int} {U : Int → Prop} {l : List InstI} {s s' : StN} (hR : RelS to U l s s') (hw : WellS s) (h0 : U 0) (x : Int) : U (s.T x).part ∧ ∀ p ∈ (s.T x).parts, U p := by
  rcases hw.ok x with e | ⟨k, hk, -, ht⟩
  · rw [e]
    exact ⟨h0, fun p hp => by cases hp⟩
  · have hin : ∀ p ∈ s.ord.take k, U p := fun p hp => hR.ordU p (List.mem_of_mem_take hp)
    generalize s.T x = y at *
    cases ht with
    | void => exact ⟨h0, fun p hp => by cases hp⟩
    | bool => exact ⟨h0, fun p hp => by cases hp⟩
    | int s => exact ⟨h0, fun p hp => by cases hp⟩
    | vec p n h1 => exact ⟨hin _ h1, fun p hp => by cases hp⟩
    | arr p n h1 => exact ⟨hin _ h1, fun p hp => by cases hp⟩
    | str l s d h1 h2 => exact ⟨h0, fun p hp => hin _ (h2 p hp)⟩
    | ptr c p h1 => exact ⟨h0, fun q hq => by rw [List.mem_singleton.1 hq]; exact hin _ h1⟩
    | fn l h1 h2 => exact ⟨h0, fun p hp => hin _ (h2 p hp)⟩
theorem text_ren {to : Int → Int} {U : Int → Prop} {l : List InstI} {s s' : StN} (hR : RelS to U l s s') (hw : WellS s) (h0 : U 0) : ∀ (q : Nat) (x : Int), U x → textT s'.T q (to x) = textT s.T q x
  | 0, _, _ => rfl
  | q + 1, x, hx => by
    obtain ⟨h1, h2⟩ := hR.inside hw h0 x
    have e1 : textT s'.T q (to (s.T x).part) = textT s.T q (s.T x).part := text_ren hR hw h0 q _ h1
    have e2 : ((s.T x).parts.map to).map (textT s'.T q) = (s.T x).parts.map (textT s.T q) := by
      rw [List.map_map]
      exact List.map_congr_left fun p hp => text_ren hR hw h0 q p (h2 p hp)
    unfold textT
    rw [hR.T x hx]
    unfold renT
    dsimp only
    rw [e1, e2]
end Go.Proofs.YtgdmbeamemdaiaaGreatDoor
