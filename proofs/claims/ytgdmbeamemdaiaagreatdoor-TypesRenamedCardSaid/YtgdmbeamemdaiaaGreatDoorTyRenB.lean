/- Plain: the types of a module with other ids. No program is named. -/
import Derived.Test.YtgdmbeamemdaiaaGreatDoorTyRenA
import Derived.Test.YtgdmbeamemdaiaaGreatDoorTySame
namespace Go.Proofs.YtgdmbeamemdaiaaGreatDoor

/-! The key by which a type is known tells its operation and its numbers. -/
def NoSp (l : List UInt8) : Prop := ∀ c ∈ l, c ≠ 32
theorem nosp_digit {u : Nat} (h : u < 10) : UInt8.ofNat (48 + u) ≠ 32 := by
  have e : (UInt8.ofNat (48 + u)).toNat = 48 + u := by rw [UInt8.toNat_ofNat']; omega
  intro hc
  rw [hc] at e
  have e2 : (32 : UInt8).toNat = 32 := rfl
  omega
theorem nosp_dec (u : Nat) : NoSp (Lib.decDigits u) := by
  induction u using Nat.strongRecOn with
  | _ u ih =>
    rw [Lib.decDigits]
    split
    · rename_i h
      intro c hc
      obtain rfl := List.mem_singleton.1 hc
      exact nosp_digit h
    · rename_i h
      intro c hc
      rcases List.mem_append.1 hc with hc | hc
      · exact ih (u / 10) (by omega) c hc
      · obtain rfl := List.mem_singleton.1 hc
        exact nosp_digit (by omega)
theorem nosp_itoa {n : Int} (hn : 0 ≤ n) : NoSp (Lib.itoa n) := by
  obtain ⟨a, rfl⟩ : ∃ a : Nat, n = a := ⟨n.toNat, by omega⟩
  rw [Lib.itoa_nonneg]
  exact nosp_dec a
/-- empty, or a space stands first -/
def SpAhead : List UInt8 → Prop
  | [] => True
  | c :: _ => c = 32
theorem sp_inj : ∀ {a b x y : List UInt8}, NoSp a → NoSp b → SpAhead x → SpAhead y → a ++ x = b ++ y → a = b ∧ x = y
  | [], [], x, y, _, _, _, _, h => ⟨rfl, h⟩
  | [], d :: b, x, y, _, hb, hx, _, h => by
    exfalso
    rw [List.nil_append, List.cons_append] at h
    rw [h] at hx
    exact hb d List.mem_cons_self hx
  | c :: a, [], x, y, ha, _, _, hy, h => by
    exfalso
    rw [List.nil_append, List.cons_append] at h
    rw [← h] at hy
    exact ha c List.mem_cons_self hy
  | c :: a, d :: b, x, y, ha, hb, hx, hy, h => by
    rw [List.cons_append, List.cons_append] at h
    injection h with h1 h2
    obtain ⟨e1, e2⟩ := sp_inj (fun z hz => ha z (List.mem_cons_of_mem _ hz)) (fun z hz => hb z (List.mem_cons_of_mem _ hz)) hx hy h2
    exact ⟨by rw [h1, e1], e2⟩
def tailL (l : List Int) : List UInt8 := (l.map fun n => 32 :: Lib.itoa n).flatten
theorem tailL_sp : ∀ l : List Int, SpAhead (tailL l)
  | [] => trivial
  | _ :: _ => rfl
theorem tailL_cons (n : Int) (l : List Int) : tailL (n :: l) = 32 :: (Lib.itoa n ++ tailL l) := by
  unfold tailL
  simp
theorem tailL_inj : ∀ {l m : List Int}, (∀ x ∈ l, 0 ≤ x) → (∀ x ∈ m, 0 ≤ x) → tailL l = tailL m → l = m
  | [], [], _, _, _ => rfl
  | [], y :: m, _, _, h => by rw [tailL_cons] at h; cases h
  | x :: l, [], _, _, h => by rw [tailL_cons] at h; cases h
  | x :: l, y :: m, hl, hm, h => by
    rw [tailL_cons, tailL_cons] at h
    injection h with _ h
    have hx := hl x List.mem_cons_self
    have hy := hm y List.mem_cons_self
    obtain ⟨e1, e2⟩ := sp_inj (nosp_itoa hx) (nosp_itoa hy) (tailL_sp l) (tailL_sp m) h
    rw [itoa_inj hx hy e1, tailL_inj (fun z hz => hl z (List.mem_cons_of_mem _ hz)) (fun z hz => hm z (List.mem_cons_of_mem _ hz)) e2]
theorem keyL_inj {op op' : Int} {l m : List Int} (h0 : 0 ≤ op) (h1 : 0 ≤ op') (hl : ∀ x ∈ l, 0 ≤ x) (hm : ∀ x ∈ m, 0 ≤ x) (h : keyL op l = keyL op' m) : op = op' ∧ l = m := by
  obtain ⟨e1, e2⟩ := sp_inj (nosp_itoa h0) (nosp_itoa h1) (tailL_sp l) (tailL_sp m) h
  exact ⟨itoa_inj h0 h1 e1, tailL_inj hl hm e2⟩
theorem keyB_iff {i j : InstI} (h0 : 0 ≤ i.1) (h1 : 0 ≤ j.1) (hi : ∀ x ∈ nums i.2.2.2, 0 ≤ x) (hj : ∀ x ∈ nums j.2.2.2, 0 ≤ x) : keyB i = keyB j ↔ i.1 = j.1 ∧ nums i.2.2.2 = nums j.2.2.2 := by
  constructor
  · intro h
    unfold keyB at h
    injection h with h
    have h2 := congrArg Array.toList h
    rw [List.toList_toArray, List.toList_toArray] at h2
    exact keyL_inj h0 h1 hi hj h2
  · rintro ⟨e1, e2⟩
    unfold keyB
    rw [e1, e2]
/-! The kinds of the arguments of the operations that make types. -/
theorem letter_in {op : Int} {f : FormI} (hf : formOf op = some f) (k : Nat) : letterOf op k = 0 ∨ ∃ c ∈ f.fixed ++ f.rest, letterOf op k = (c.toNat : Int) := by
  unfold letterOf
  rw [hf]
  show letterB (bs f.fixed) (bs f.rest) f.most k = 0 ∨ ∃ c ∈ f.fixed ++ f.rest, letterB (bs f.fixed) (bs f.rest) f.most k = (c.toNat : Int)
  have hm : ∀ (l : List UInt8) (j : Nat) (h : j < (bs l).size), (bs l)[j] ∈ l := fun l j h => by
    have h2 : (bs l)[j] ∈ (bs l).data.toList := by rw [Array.mem_toList_iff]; exact Array.getElem_mem _
    exact h2
  unfold letterB
  split
  · unfold restB
    split
    · exact .inl rfl
    · split
      · exact .inr ⟨_, List.mem_append_right _ (hm _ _ _), rfl⟩
      · exact .inl rfl
  · unfold fixedB
    split
    · exact .inr ⟨_, List.mem_append_left _ (hm _ _ _), rfl⟩
    · rename_i h1 h2
      exact absurd (dif_neg h2) h1
theorem ids_forms : ([28, 30, 33].all fun op => match formOf op with | some f => (f.fixed ++ f.rest).all (fun c => decide (kindT (c.toNat : Int) = 1)) | none => false) = true := by decide +kernel
theorem InstW.all_ids {i : InstI} {bound : Int} {f : FormI} (h : InstW i bound f) (ho : i.1 ∈ [(28 : Int), 30, 33]) : ∀ a ∈ i.2.2.2, a.1 = 1 := by
  intro a ha
  obtain ⟨k, hk, rfl⟩ := List.getElem_of_mem ha
  have h1 := argE_ok (h.args k hk)
  rw [ag_of hk] at h1
  have h2 := ids_forms
  rw [List.all_eq_true] at h2
  have h3 := h2 _ ho
  rw [h.form] at h3
  dsimp only at h3
  rw [List.all_eq_true] at h3
  rcases letter_in h.form k with h4 | ⟨c, hc, h4⟩
  · exact absurd h4 h1.1
  · have h5 := h3 c hc
    rw [decide_eq_true_eq] at h5
    rw [h1.2.1, h4, h5]
theorem two_kinds : kindT (letterOf 21 0) = 2 ∧ kindT (letterOf 21 1) = 2 ∧ kindT (letterOf 23 0) = 1 ∧ kindT (letterOf 23 1) = 2 ∧ kindT (letterOf 32 0) = 4 ∧ kindT (letterOf 32 1) = 1 ∧ kindT (letterOf 43 0) = 2 := by decide +kernel
theorem InstW.kind_at {i : InstI} {bound : Int} {f : FormI} (h : InstW i bound f) {k : Nat} (hk : k < i.2.2.2.length) : (ag i.2.2.2 k).1 = kindT (letterOf i.1 k) := (argE_ok (h.args k hk)).2.1
theorem nums_ids {to : Int → Int} {l : List ArgI} (h : ∀ a ∈ l, a.1 = 1) : nums (l.map (renA to)) = (nums l).map to := by
  unfold nums
  rw [List.map_map, List.map_map]
  exact List.map_congr_left fun a ha => renA_id (h a ha)
theorem nums_at {to : Int → Int} {l : List ArgI} {k : Nat} (hk : k < l.length) : ixn (nums (l.map (renA to))) k = if (ag l k).1 = 1 then to (ixn (nums l) k) else ixn (nums l) k := by
  rw [nums_getD (by rw [List.length_map]; exact hk), nums_getD hk, ag_ren hk]
  unfold renA
  split <;> rfl
theorem nums_len (l : List ArgI) : (nums l).length = l.length := List.length_map ..
/-! A type with other ids. -/
def renT (to : Int → Int) (x : TyI) : TyI := { x with part := to x.part, parts := x.parts.map to }
theorem renT_zero {to : Int → Int} (hz : to 0 = 0) : renT to ty0 = ty0 := by unfold renT ty0; rw [hz]; rfl
theorem wholeT_ren {to : Int → Int} (hz : to 0 = 0) (x : TyI) (s d : Int) : wholeT (renT to x) s d = (renT to (wholeT x s d).1, (wholeT x s d).2) := by
  unfold wholeT
  split
  · rw [renT_zero hz]
  · split
    · rw [renT_zero hz]
    · rfl
section
variable {to : Int → Int} {U : Int → Prop} {b : Int} {T T' : Int → TyI}
theorem vectorT_ren (hz : to 0 = 0) (hT : ∀ x, U x → T' (to x) = renT to (T x)) {p : Int} (hp : U p) (n : Int) : vectorT T' (to p) n = (renT to (vectorT T p n).1, (vectorT T p n).2) := by
  unfold vectorT
  rw [hT p hp]
  show (if (T p).kind ≠ 2 ∧ (T p).kind ≠ 3 then (ty0, 100) else if n < 2 ∨ 4 < n then (ty0, 102) else wholeT { ty0 with kind := 4, part := to p, times := n } n (T p).depth) = _
  split
  · rw [renT_zero hz]
  · split
    · rw [renT_zero hz]
    · exact wholeT_ren hz { ty0 with kind := 4, part := p, times := n } n (T p).depth
theorem memR_ren (hT : ∀ x, U x → T' (to x) = renT to (T x)) : ∀ {l : List Int} {s d : Int}, (∀ p ∈ l, U p) → memR T' (l.map to) s d = memR T l s d
  | [], _, _, _ => rfl
  | p :: r, s, d, h => by
    rw [List.map_cons]
    unfold memR
    rw [hT p (h p List.mem_cons_self), memR_ren hT (fun q hq => h q (List.mem_cons_of_mem _ hq))]
    rfl
theorem funR_ren (hT : ∀ x, U x → T' (to x) = renT to (T x)) : ∀ {l : List Int} {k : Nat}, (∀ p ∈ l, U p) → funR T' (l.map to) k = funR T l k
  | [], _, _ => rfl
  | p :: r, k, h => by
    rw [List.map_cons]
    unfold funR
    rw [hT p (h p List.mem_cons_self), funR_ren hT (fun q hq => h q (List.mem_cons_of_mem _ hq))]
    rfl
theorem membersT_ren (hz : to 0 = 0) (hT : ∀ x, U x → T' (to x) = renT to (T x)) {l : List Int} (h : ∀ p ∈ l, U p) : membersT T' (l.map to) = (renT to (membersT T l).1, (membersT T l).2) := by
  unfold membersT
  rw [List.length_map, memR_ren hT h]
  split
  · rw [renT_zero hz]
  · cases memR T l 0 0 with
    | none => dsimp only; rw [renT_zero hz]
    | some q =>
      obtain ⟨s, d⟩ := q
      dsimp only
      have := wholeT_ren hz { ty0 with kind := 6, parts := l } s d
      rw [← this]
      unfold renT
      dsimp only
      rw [show to ty0.part = ty0.part from hz]
theorem functionT_ren (hz : to 0 = 0) (hT : ∀ x, U x → T' (to x) = renT to (T x)) {l : List Int} (h : ∀ p ∈ l, U p) : functionT T' (l.map to) = (renT to (functionT T l).1, (functionT T l).2) := by
  unfold functionT
  rw [funR_ren hT h]
  split
  · unfold renT
    dsimp only
    rw [show to ty0.part = ty0.part from hz]
  · rw [renT_zero hz]
theorem arrayT_ren {M M' : Int → InstI} (hz : to 0 = 0) (hT : ∀ x, U x → T' (to x) = renT to (T x)) (hM : ∀ x, U x → M' (to x) = renI to (M x)) (hU : ∀ x, U x → U (M x).2.1)
    (hN : ∀ x, (M x).1 = 43 → 0 < (M x).2.2.2.length ∧ (ag (M x).2.2.2 0).1 = 2) {p n : Int} (hp : U p) (hn : U n) : arrayT T' M' (to p) (to n) = (renT to (arrayT T M p n).1, (arrayT T M p n).2) := by
  unfold arrayT arrayC
  rw [hT p hp, hM n hn]
  show (if (T p).size = 0 then (ty0, 100) else if (M n).1 ≠ 43 ∨ (T' (to (M n).2.1)).kind ≠ 3 ∨ firstN (renI to (M n)) < 1 ∨ 4096 < firstN (renI to (M n)) then (ty0, 102)
    else wholeT { ty0 with kind := 5, part := to p, times := firstN (renI to (M n)) } (firstN (renI to (M n)) * (T p).size) (T p).depth) = _
  rw [hT _ (hU n hn)]
  show (if (T p).size = 0 then (ty0, 100) else if (M n).1 ≠ 43 ∨ (T (M n).2.1).kind ≠ 3 ∨ firstN (renI to (M n)) < 1 ∨ 4096 < firstN (renI to (M n)) then (ty0, 102)
    else wholeT { ty0 with kind := 5, part := to p, times := firstN (renI to (M n)) } (firstN (renI to (M n)) * (T p).size) (T p).depth) = _
  split
  · rw [renT_zero hz]
  · by_cases h43 : (M n).1 = 43
    · obtain ⟨h1, h2⟩ := hN n h43
      have e : firstN (renI to (M n)) = firstN (M n) := by
        unfold firstN
        show (ag ((M n).2.2.2.map (renA to)) 0).2.1 = _
        rw [ag_ren h1, renA_other (by omega)]
      rw [e]
      split
      · rw [renT_zero hz]
      · exact wholeT_ren hz { ty0 with kind := 5, part := p, times := firstN (M n) } (firstN (M n) * (T p).size) (T p).depth
    · rw [if_pos (.inl h43), if_pos (.inl h43), renT_zero hz]
end
theorem args_two_of {i : InstI} {bound : Int} {f : FormI} (h : InstW i bound f) (ho : i.1 = 28) : 2 ≤ i.2.2.2.length := by
  have h1 := h.len
  have h2 := two_args
  rw [List.all_eq_true] at h2
  have h3 := h2 28 (by decide)
  rw [← ho, h.form] at h3
  simp only [decide_eq_true_eq] at h3
  omega
theorem ixn_mem {l : List Int} {k : Nat} (h : k < l.length) : ixn l k ∈ l := by
  unfold ixn
  rw [List.getD_eq_getElem?_getD, List.getElem?_eq_getElem h]
  exact List.getElem_mem h
theorem oneT_ren {to : Int → Int} {U : Int → Prop} {b bound : Int} {T T' : Int → TyI} {M M' : Int → InstI} (h : RenOk to U b) (hT : ∀ x, U x → T' (to x) = renT to (T x)) (hM : ∀ x, U x → M' (to x) = renI to (M x)) (hU : ∀ x, U x → U (M x).2.1)
    (hN : ∀ x, (M x).1 = 43 → 0 < (M x).2.2.2.length ∧ (ag (M x).2.2.2 0).1 = 2) {i : InstI} {f : FormI} (hi : InstW i bound f) (hu : Used U i) : oneT T' M' (renI to i) = (renT to (oneT T M i).1, (oneT T M i).2.1, (oneT T M i).2.2) := by
  have hz := h.zero
  obtain ⟨k1, k2, k3, k4, k5, k6, -⟩ := two_kinds
  have hids : (∀ a ∈ i.2.2.2, a.1 = 1) → ∀ p ∈ nums i.2.2.2, U p := fun ha p hp => by
    unfold nums at hp
    obtain ⟨a, hal, rfl⟩ := List.mem_map.1 hp
    exact hu.args a hal (ha a hal)
  have hpU : ∀ k, k < i.2.2.2.length → (ag i.2.2.2 k).1 = 1 → U (ixn (nums i.2.2.2) k) := fun k hk h1 => by
    rw [nums_getD hk]
    exact hu.args _ (ag_mem hk) h1
  have eo : (renI to i).1 = i.1 := rfl
  unfold oneT
  dsimp only
  rw [eo]
  by_cases h1 : i.1 = 19
  · rw [if_pos h1, if_pos h1]
    unfold renT
    dsimp only
    rw [show to ty0.part = ty0.part from hz]
    rfl
  rw [if_neg h1, if_neg h1]
  by_cases h1 : i.1 = 20
  · rw [if_pos h1, if_pos h1]
    unfold renT
    dsimp only
    rw [show to ty0.part = ty0.part from hz]
    rfl
  rw [if_neg h1, if_neg h1]
  by_cases h1 : i.1 = 21
  · rw [if_pos h1, if_pos h1]
    have hl := key_len (n := 2) hi (by rw [h1]; decide)
    rw [nums_len] at hl
    have e0 : ixn (nums (renI to i).2.2.2) 0 = ixn (nums i.2.2.2) 0 := by
      show ixn (nums (i.2.2.2.map (renA to))) 0 = _
      rw [nums_at (by omega), if_neg (by rw [hi.kind_at (by omega), h1, k1]; decide)]
    have e1 : ixn (nums (renI to i).2.2.2) 1 = ixn (nums i.2.2.2) 1 := by
      show ixn (nums (i.2.2.2.map (renA to))) 1 = _
      rw [nums_at (by omega), if_neg (by rw [hi.kind_at (by omega), h1, k2]; decide)]
    rw [e0, e1]
    unfold renT
    dsimp only
    rw [show to ty0.part = ty0.part from hz]
    rfl
  rw [if_neg h1, if_neg h1]
  by_cases h1 : i.1 = 23
  · rw [if_pos h1, if_pos h1]
    have hl := key_len (n := 2) hi (by rw [h1]; decide)
    rw [nums_len] at hl
    have hk0 : (ag i.2.2.2 0).1 = 1 := by rw [hi.kind_at (by omega), h1, k3]
    have e0 : ixn (nums (renI to i).2.2.2) 0 = to (ixn (nums i.2.2.2) 0) := by
      show ixn (nums (i.2.2.2.map (renA to))) 0 = _
      rw [nums_at (by omega), if_pos hk0]
    have e1 : ixn (nums (renI to i).2.2.2) 1 = ixn (nums i.2.2.2) 1 := by
      show ixn (nums (i.2.2.2.map (renA to))) 1 = _
      rw [nums_at (by omega), if_neg (by rw [hi.kind_at (by omega), h1, k4]; decide)]
    rw [e0, e1, vectorT_ren hz hT (hpU 0 (by omega) hk0)]
  rw [if_neg h1, if_neg h1]
  by_cases h1 : i.1 = 28
  · rw [if_pos h1, if_pos h1]
    have ha := hi.all_ids (by rw [h1]; decide)
    have hl := args_two_of hi h1
    have hk0 : (ag i.2.2.2 0).1 = 1 := ha _ (ag_mem (by omega))
    have hk1 : (ag i.2.2.2 1).1 = 1 := ha _ (ag_mem (by omega))
    have e0 : ixn (nums (renI to i).2.2.2) 0 = to (ixn (nums i.2.2.2) 0) := by
      show ixn (nums (i.2.2.2.map (renA to))) 0 = _
      rw [nums_at (by omega), if_pos hk0]
    have e1 : ixn (nums (renI to i).2.2.2) 1 = to (ixn (nums i.2.2.2) 1) := by
      show ixn (nums (i.2.2.2.map (renA to))) 1 = _
      rw [nums_at (by omega), if_pos hk1]
    rw [e0, e1, arrayT_ren hz hT hM hU hN (hpU 0 (by omega) hk0) (hpU 1 (by omega) hk1)]
  rw [if_neg h1, if_neg h1]
  by_cases h1 : i.1 = 30
  · rw [if_pos h1, if_pos h1]
    have ha := hi.all_ids (by rw [h1]; decide)
    have e0 : nums (renI to i).2.2.2 = (nums i.2.2.2).map to := nums_ids ha
    rw [e0, membersT_ren hz hT (hids ha)]
  rw [if_neg h1, if_neg h1]
  by_cases h1 : i.1 = 32
  · rw [if_pos h1, if_pos h1]
    have hl := key_len (n := 2) hi (by rw [h1]; decide)
    have hl2 := hl
    rw [nums_len] at hl2
    have hk1 : (ag i.2.2.2 1).1 = 1 := by rw [hi.kind_at (by omega), h1, k6]
    have e0 : ixn (nums (renI to i).2.2.2) 0 = ixn (nums i.2.2.2) 0 := by
      show ixn (nums (i.2.2.2.map (renA to))) 0 = _
      rw [nums_at (by omega), if_neg (by rw [hi.kind_at (by omega), h1, k5]; decide)]
    have e1 : ixn (nums (renI to i).2.2.2) 1 = to (ixn (nums i.2.2.2) 1) := by
      show ixn (nums (i.2.2.2.map (renA to))) 1 = _
      rw [nums_at (by omega), if_pos hk1]
    have hl' : (nums (renI to i).2.2.2).length = 2 := by
      rw [nums_len]
      show (i.2.2.2.map (renA to)).length = 2
      rw [List.length_map]
      exact hl2
    rw [nums_two hl', nums_two hl, e0, e1, hT _ (hpU 1 (by omega) hk1)]
    unfold renT
    dsimp only
    rw [show to ty0.part = ty0.part from hz]
    rfl
  rw [if_neg h1, if_neg h1]
  by_cases h1 : i.1 = 33
  · rw [if_pos h1, if_pos h1]
    have ha := hi.all_ids (by rw [h1]; decide)
    have e0 : nums (renI to i).2.2.2 = (nums i.2.2.2).map to := nums_ids ha
    rw [e0, functionT_ren hz hT (hids ha)]
  rw [if_neg h1, if_neg h1, renT_zero hz]
end Go.Proofs.YtgdmbeamemdaiaaGreatDoor
