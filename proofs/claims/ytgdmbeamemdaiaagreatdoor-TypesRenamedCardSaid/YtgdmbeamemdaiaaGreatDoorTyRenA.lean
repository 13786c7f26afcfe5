/- Plain: a module with other ids: its shape, how it stands, its ids. No program is named. -/
import Derived.Test.YtgdmbeamemdaiaaGreatDoorTN
namespace Go.Proofs.YtgdmbeamemdaiaaGreatDoor

/-! Other ids. -/
def renA (to : Int → Int) (a : ArgI) : ArgI := if a.1 = 1 then (1, to a.2.1, a.2.2) else a
def renI (to : Int → Int) (i : InstI) : InstI := (i.1, to i.2.1, to i.2.2.1, i.2.2.2.map (renA to))
theorem renA_kind (to : Int → Int) (a : ArgI) : (renA to a).1 = a.1 := by
  unfold renA
  split
  · rename_i h; exact h.symm
  · rfl
theorem renA_id {to : Int → Int} {a : ArgI} (h : a.1 = 1) : (renA to a).2.1 = to a.2.1 := by unfold renA; rw [if_pos h]
theorem renA_other {to : Int → Int} {a : ArgI} (h : a.1 ≠ 1) : renA to a = a := if_neg h
theorem kinds_ren (to : Int → Int) (l : List ArgI) : kinds (l.map (renA to)) = kinds l := by
  unfold kinds
  rw [List.map_map]
  exact List.map_congr_left fun a _ => renA_kind to a
theorem ag_ren {to : Int → Int} {l : List ArgI} {k : Nat} (h : k < l.length) : ag (l.map (renA to)) k = renA to (ag l k) := by
  rw [ag_of (by rw [List.length_map]; exact h), ag_of h, List.getElem_map]
/-- other ids for those that are used, below a bound -/
structure RenOk (to : Int → Int) (U : Int → Prop) (b : Int) : Prop where
  zero : to 0 = 0
  u0 : U 0
  inj : ∀ x y, U x → U y → to x = to y → x = y
  bd : ∀ x, U x → x ≠ 0 → 1 ≤ to x ∧ to x < b
structure Used (U : Int → Prop) (i : InstI) : Prop where
  ty : U i.2.1
  res : U i.2.2.1
  args : ∀ a ∈ i.2.2.2, a.1 = 1 → U a.2.1
theorem RenOk.ne {to : Int → Int} {U : Int → Prop} {b : Int} (h : RenOk to U b) {x : Int} (hx : U x) : (to x != 0) = (x != 0) := by
  by_cases e : x = 0
  · rw [e, h.zero]
  · have h1 := h.bd x hx e
    have e1 : (to x != 0) = true := by simpa using (show to x ≠ 0 by omega)
    have e2 : (x != 0) = true := by simpa using e
    rw [e1, e2]
theorem argBad_id (op : Int) (k : Nat) (n m : Int) (s : ByteArray) : argBad op k 1 n s = argBad op k 1 m s := by
  unfold argBad
  simp
theorem argE_ren {to : Int → Int} {U : Int → Prop} {b op bound : Int} {k : Nat} (h : RenOk to U b) {a : ArgI} (ha : a.1 = 1 → U a.2.1) (he : argE op bound k a.1 a.2.1 a.2.2 = 0) :
    argE op b k (renA to a).1 (renA to a).2.1 (renA to a).2.2 = 0 ∧ (argW op k (renA to a).1 (renA to a).2.1 (renA to a).2.2).length = (argW op k a.1 a.2.1 a.2.2).length ∧
      argR op k (renA to a).1 (renA to a).2.1 (renA to a).2.2 = argR op k a.1 a.2.1 a.2.2 := by
  obtain ⟨-, -, -, hid, -, -⟩ := argE_ok he
  by_cases h1 : a.1 = 1
  · have hU := ha h1
    obtain ⟨n0, nb⟩ := hid h1
    unfold renA
    rw [if_pos h1]
    obtain ⟨kd, n, s⟩ := a
    have h1 : kd = 1 := h1
    subst h1
    dsimp only at *
    have hbd := h.bd n hU n0
    have hb : argBad op k 1 n s = false := by
      cases hc : argBad op k 1 n s with
      | false => rfl
      | true =>
        unfold argE at he
        rw [hc] at he
        cases he
    have hb' : argBad op k 1 (to n) s = false := by rw [argBad_id op k (to n) n s]; exact hb
    unfold argE argW argR
    rw [hb, hb']
    refine ⟨?_, rfl, rfl⟩
    have e3 : ((1 : Int) == 3) = false := rfl
    have e1 : ((1 : Int) == 1) = true := rfl
    rw [e3, e1]
    simp only [Bool.false_eq_true, if_false, if_true]
    unfold idE
    rw [if_neg (by omega)]
  · rw [renA_other h1]
    refine ⟨?_, rfl, rfl⟩
    have e1 : (a.1 == 1) = false := by simpa using h1
    unfold argE at he ⊢
    rw [e1] at he ⊢
    simpa using he
theorem loopR_ren {to : Int → Int} {U : Int → Prop} {b op bound : Int} (h : RenOk to U b) {l : List ArgI} (hu : ∀ a ∈ l, a.1 = 1 → U a.2.1) {st st' : RSt} (h1 : st'.1 = 0) (h2 : st'.2.1.length = st.2.1.length) (h3 : st'.2.2 = st.2.2) :
    ∀ k, k ≤ l.length → (loopR op bound l st k).1 = 0 → (loopR op b (l.map (renA to)) st' k).1 = 0 ∧ (loopR op b (l.map (renA to)) st' k).2.1.length = (loopR op bound l st k).2.1.length ∧ (loopR op b (l.map (renA to)) st' k).2.2 = (loopR op bound l st k).2.2
  | 0, _, _ => ⟨h1, h2, h3⟩
  | k + 1, hk, h0 => by
    unfold loopR stepR at h0 ⊢
    by_cases hc : (loopR op bound l st k).1 = 0
    · obtain ⟨a1, a2, a3⟩ := loopR_ren h hu h1 h2 h3 k (by omega) hc
      rw [if_pos hc] at h0 ⊢
      rw [if_pos a1, ag_ren (by omega)]
      obtain ⟨b1, b2, b3⟩ := argE_ren h (hu _ (ag_mem (by omega))) h0
      refine ⟨b1, ?_, ?_⟩
      · show List.length (_ ++ _) = List.length (_ ++ _)
        rw [List.length_append, List.length_append, a2, b2]
      · show _ + _ = _ + _
        rw [a3, b3]
    · rw [if_neg hc] at h0
      exact absurd h0 hc
theorem headE_ren {to : Int → Int} {U : Int → Prop} {b : Int} (h : RenOk to U b) {must : Bool} {n lacks bound : Int} (hl : lacks ≠ 0) (hn : U n) (he : headE must n lacks bound = 0) :
    headE must (to n) lacks b = 0 ∧ (headW must (to n)).length = (headW must n).length := by
  obtain ⟨h1, h2⟩ := headE_ok hl he
  have e := h.ne hn
  unfold headE headW
  rw [e, ← h1]
  cases must with
  | false => simp
  | true =>
    have hz : n ≠ 0 := by simpa using h1.symm
    have hbd := h.bd n hn hz
    simp only [if_true]
    refine ⟨?_, rfl⟩
    unfold idE
    rw [if_neg (by omega)]
theorem rawR_ren {to : Int → Int} {U : Int → Prop} {b : Int} (h : RenOk to U b) {i : InstI} {bound : Int} (hu : Used U i) (hr : (rawR i bound).1 = 0) :
    (rawR (renI to i) b).1 = 0 ∧ (rawR (renI to i) b).2.length = (rawR i bound).2.length := by
  have eo : (renI to i).1 = i.1 := rfl
  have ea : (renI to i).2.2.2 = i.2.2.2.map (renA to) := rfl
  have et : (renI to i).2.1 = to i.2.1 := rfl
  have er : (renI to i).2.2.1 = to i.2.2.1 := rfl
  unfold rawR at hr ⊢
  rw [eo, ea]
  cases hf : formOf i.1 with
  | none => rw [hf] at hr; cases hr
  | some f =>
    rw [hf] at hr
    dsimp only at hr ⊢
    obtain ⟨s, hs⟩ : ∃ s, s = loopR i.1 bound i.2.2.2 (headsR f i bound) i.2.2.2.length := ⟨_, rfl⟩
    rw [← hs] at hr ⊢
    have hw' : wholeE i.1 (i.2.2.2.map (renA to)) = wholeE i.1 i.2.2.2 := by unfold wholeE; rw [kinds_ren]
    rw [hw']
    by_cases h0 : s.1 = 0
    · by_cases hw : wholeE i.1 i.2.2.2 = 0
      · by_cases h65 : 65535 ≤ s.2.2
        · simp [h0, hw, h65] at hr
        · have hh : (headsR f i bound).1 = 0 := (loopR_ok (by rw [← hs]; exact h0)).1
          have hheads : (headsR f (renI to i) b).1 = 0 ∧ (headsR f (renI to i) b).2.1.length = (headsR f i bound).2.1.length ∧ (headsR f (renI to i) b).2.2 = (headsR f i bound).2.2 := by
            unfold headsR at hh ⊢
            rw [et, er]
            by_cases hc : headE f.ty i.2.1 40 bound = 0
            · rw [if_pos hc] at hh ⊢
              obtain ⟨a1, a2⟩ := headE_ren h (by decide) hu.ty hc
              obtain ⟨b1, b2⟩ := headE_ren h (by decide) hu.res hh
              rw [if_pos a1]
              refine ⟨b1, ?_, ?_⟩
              · show List.length (_ ++ _) = List.length (_ ++ _)
                rw [List.length_append, List.length_append, a2, b2]
              · show _ + _ = _ + _
                rw [a2, b2]
            · rw [if_neg hc] at hh
              exact absurd hh hc
          obtain ⟨c1, c2, c3⟩ := hheads
          have hl := loopR_ren (op := i.1) (bound := bound) h hu.args c1 c2 c3 i.2.2.2.length (Nat.le_refl _) (by rw [← hs]; exact h0)
          rw [← hs, show i.2.2.2.length = (i.2.2.2.map (renA to)).length by rw [List.length_map]] at hl
          generalize loopR i.1 b (i.2.2.2.map (renA to)) (headsR f (renI to i) b) (i.2.2.2.map (renA to)).length = s' at *
          obtain ⟨d1, d2, d3⟩ := hl
          simp [h0, hw, h65, d1, d2, d3]
      · simp [h0, hw] at hr
    · simp [h0] at hr
theorem shapeR_ren {to : Int → Int} {U : Int → Prop} {b bound : Int} (h : RenOk to U b) : ∀ {l : List InstI} {k : Nat} {left : Int}, (∀ i ∈ l, Used U i) → (shapeR bound l k left).1 = 0 → (shapeR b (l.map (renI to)) k left).1 = 0
  | [], _, _, _, h0 => h0
  | i :: r, k, left, hu, h0 => by
    rw [List.map_cons]
    unfold shapeR at h0 ⊢
    by_cases h1 : (rawR i bound).1 ≠ 0
    · rw [if_pos h1] at h0; exact absurd h0 h1
    · rw [if_neg h1] at h0
      obtain ⟨a1, a2⟩ := rawR_ren h (hu i List.mem_cons_self) (Decidable.not_not.1 h1)
      rw [if_neg (by rw [a1]; exact fun hc => hc rfl), a2]
      by_cases h2 : left - (1 + (rawR i bound).2.length) < 0
      · rw [if_pos h2] at h0; cases h0
      · rw [if_neg h2] at h0 ⊢
        exact shapeR_ren h (fun j hj => hu j (List.mem_cons_of_mem _ hj)) h0
/-! How a module stands. -/
theorem var_form : kindT (letterOf 59 0) = 4 := by decide +kernel
theorem kindI_ren {to : Int → Int} {i : InstI} {bound : Int} (hr : (rawR i bound).1 = 0) : partI (renI to i) = partI i ∧ kindI (renI to i) = kindI i := by
  have hv : variableB (renI to i) = variableB i := by
    unfold variableB
    show (i.1 == 59 && (decide (0 < (i.2.2.2.map (renA to)).length) && (ag (i.2.2.2.map (renA to)) 0).2.1 == 7)) = _
    rw [List.length_map]
    by_cases h1 : i.1 = 59
    · by_cases h2 : 0 < i.2.2.2.length
      · rw [ag_ren h2]
        obtain ⟨f, hi⟩ := rawR_ok hr
        have h3 := (argE_ok (hi.args 0 h2)).2.1
        rw [h1, var_form] at h3
        rw [renA_other (by omega)]
      · have e : decide (0 < i.2.2.2.length) = false := by rw [decide_eq_false_iff_not]; exact h2
        rw [e, Bool.false_and, Bool.false_and]
    · have e : (i.1 == 59) = false := by simpa using h1
      rw [e, Bool.false_and, Bool.false_and]
  have hp : partI (renI to i) = partI i := by
    unfold partI
    rw [hv]
    rfl
  refine ⟨hp, ?_⟩
  unfold kindI
  rw [hp]
  rfl
/-- modules whose instructions stand alike -/
structure SameL (l' l : List InstI) : Prop where
  len : l'.length = l.length
  nx : ∀ k, nx l' k = nx l k
  op : ∀ k, opAt l' k = opAt l k
  part : ∀ k, partAt l' k = partAt l k
theorem SameL.ren {to : Int → Int} {l : List InstI} {bound : Int} (hr : ∀ i ∈ l, (rawR i bound).1 = 0) : SameL (l.map (renI to)) l := by
  refine ⟨List.length_map .., fun k => ?_, fun k => ?_, fun k => ?_⟩
  · unfold Go.Proofs.YtgdmbeamemdaiaaGreatDoor.nx
    rw [List.getElem?_map]
    cases hk : l[k]? with
    | none => rfl
    | some i => exact (kindI_ren (hr i (List.mem_of_getElem? hk))).2
  · unfold opAt
    rw [List.getElem?_map]
    cases hk : l[k]? with
    | none => rfl
    | some i => rfl
  · unfold partAt
    rw [List.getElem?_map]
    cases hk : l[k]? with
    | none => rfl
    | some i => exact (kindI_ren (hr i (List.mem_of_getElem? hk))).1
theorem SameL.rowTo {l' l : List InstI} (h : SameL l' l) (kd : Int) : ∀ q k, Go.Proofs.YtgdmbeamemdaiaaGreatDoor.rowTo l' kd q k = Go.Proofs.YtgdmbeamemdaiaaGreatDoor.rowTo l kd q k
  | 0, k => rfl
  | q + 1, k => by
    unfold Go.Proofs.YtgdmbeamemdaiaaGreatDoor.rowTo
    rw [h.nx k, h.rowTo kd q (k + 1)]
theorem SameL.rowEnd {l' l : List InstI} (h : SameL l' l) (kd : Int) (k : Nat) : Go.Proofs.YtgdmbeamemdaiaaGreatDoor.rowEnd l' kd k = Go.Proofs.YtgdmbeamemdaiaaGreatDoor.rowEnd l kd k := by
  unfold Go.Proofs.YtgdmbeamemdaiaaGreatDoor.rowEnd
  rw [h.len, h.rowTo]
theorem SameL.topTo {l' l : List InstI} (h : SameL l' l) (p : Int) : ∀ q k, Go.Proofs.YtgdmbeamemdaiaaGreatDoor.topTo l' p q k = Go.Proofs.YtgdmbeamemdaiaaGreatDoor.topTo l p q k
  | 0, k => rfl
  | q + 1, k => by
    unfold Go.Proofs.YtgdmbeamemdaiaaGreatDoor.topTo
    rw [h.nx k, h.part k, h.topTo p q (k + 1)]
theorem SameL.topEnd {l' l : List InstI} (h : SameL l' l) (p : Int) (k : Nat) : Go.Proofs.YtgdmbeamemdaiaaGreatDoor.topEnd l' p k = Go.Proofs.YtgdmbeamemdaiaaGreatDoor.topEnd l p k := by
  unfold Go.Proofs.YtgdmbeamemdaiaaGreatDoor.topEnd
  rw [h.len, h.topTo]
theorem SameL.topR {l' l : List InstI} (h : SameL l' l) : ∀ r p k f, Go.Proofs.YtgdmbeamemdaiaaGreatDoor.topR l' r p k f = Go.Proofs.YtgdmbeamemdaiaaGreatDoor.topR l r p k f
  | 0, _, _, _ => rfl
  | r + 1, p, k, f => by
    unfold Go.Proofs.YtgdmbeamemdaiaaGreatDoor.topR
    rw [h.topEnd, h.topR]
theorem SameL.blockR {l' l : List InstI} (h : SameL l' l) (first : Bool) (k : Nat) : Go.Proofs.YtgdmbeamemdaiaaGreatDoor.blockR l' first k = Go.Proofs.YtgdmbeamemdaiaaGreatDoor.blockR l first k := by
  unfold Go.Proofs.YtgdmbeamemdaiaaGreatDoor.blockR
  simp only [h.rowEnd, h.nx, h.op]
theorem SameL.blocksR {l' l : List InstI} (h : SameL l' l) : ∀ q first k, Go.Proofs.YtgdmbeamemdaiaaGreatDoor.blocksR l' q first k = Go.Proofs.YtgdmbeamemdaiaaGreatDoor.blocksR l q first k
  | 0, _, _ => rfl
  | q + 1, first, k => by
    unfold Go.Proofs.YtgdmbeamemdaiaaGreatDoor.blocksR
    rw [h.nx, h.blockR, h.blocksR q]
theorem SameL.funcsR {l' l : List InstI} (h : SameL l' l) : ∀ q k, Go.Proofs.YtgdmbeamemdaiaaGreatDoor.funcsR l' q k = Go.Proofs.YtgdmbeamemdaiaaGreatDoor.funcsR l q k
  | 0, _ => rfl
  | q + 1, k => by
    unfold Go.Proofs.YtgdmbeamemdaiaaGreatDoor.funcsR
    simp only [h.nx, h.rowEnd, h.blocksR, h.len, h.funcsR q]
theorem SameL.cutR {l' l : List InstI} (h : SameL l' l) : Go.Proofs.YtgdmbeamemdaiaaGreatDoor.cutR l' = Go.Proofs.YtgdmbeamemdaiaaGreatDoor.cutR l := by
  unfold Go.Proofs.YtgdmbeamemdaiaaGreatDoor.cutR
  simp only [h.topR, h.funcsR, h.len]
/-! The ids. -/
theorem idsF_ren (to : Int → Int) : ∀ l : List ArgI, idsF (l.map (renA to)) = (idsF l).map to
  | [] => rfl
  | a :: r => by
    have ih := idsF_ren to r
    unfold idsF at ih ⊢
    rw [List.map_cons]
    by_cases h : a.1 = 1
    · rw [List.filter_cons_of_pos (by rw [renA_kind]; simpa using h), List.filter_cons_of_pos (by simpa using h), List.map_cons, List.map_cons, List.map_cons, ih, renA_id h]
    · rw [List.filter_cons_of_neg (by rw [renA_kind]; simpa using h), List.filter_cons_of_neg (by simpa using h), ih]
theorem idsOf_ren {to : Int → Int} {U : Int → Prop} {b : Int} (h : RenOk to U b) {i : InstI} (hu : Used U i) : idsOf (renI to i) = (idsOf i).map to := by
  unfold idsOf
  show (if to i.2.1 = 0 then [] else [to i.2.1]) ++ idsF (i.2.2.2.map (renA to)) = _
  rw [idsF_ren, List.map_append]
  congr 1
  by_cases e : i.2.1 = 0
  · rw [e, h.zero]; rfl
  · have := h.bd _ hu.ty e
    rw [if_neg (by omega), if_neg e]
    rfl
theorem madeR_ren {to : Int → Int} {U : Int → Prop} {b : Int} (h : RenOk to U b) {id : Int} (hid : U id) : ∀ {l : List InstI} {k : Nat}, (∀ i ∈ l, Used U i) → madeR (l.map (renI to)) k (to id) = madeR l k id
  | [], _, _ => rfl
  | i :: r, k, hu => by
    have hi := hu i List.mem_cons_self
    rw [List.map_cons]
    unfold madeR
    show (if to i.2.2.1 ≠ 0 ∧ to i.2.2.1 = to id then some k else _) = _
    rw [madeR_ren h hid (fun j hj => hu j (List.mem_cons_of_mem _ hj))]
    by_cases e : i.2.2.1 ≠ 0 ∧ i.2.2.1 = id
    · rw [if_pos e, if_pos ⟨by have := h.bd _ hi.res e.1; omega, by rw [e.2]⟩]
    · rw [if_neg e, if_neg]
      rintro ⟨h1, h2⟩
      exact e ⟨fun hz => h1 (by rw [hz, h.zero]), h.inj _ _ hi.res hid h2⟩
theorem lostB_ren {to : Int → Int} {made made' : Int → Option Nat} : ∀ {l : List Int}, (∀ x ∈ l, made' (to x) = made x) → lostB made' (l.map to) = lostB made l
  | [], _ => rfl
  | x :: r, h => by
    have ih := lostB_ren (fun y hy => h y (List.mem_cons_of_mem _ hy))
    unfold lostB at ih ⊢
    rw [List.map_cons, List.any_cons, List.any_cons, ih, h x List.mem_cons_self]
theorem aheadB_ren {to : Int → Int} {made made' : Int → Option Nat} {k : Nat} : ∀ {l : List Int}, (∀ x ∈ l, made' (to x) = made x) → aheadB made' (l.map to) k = aheadB made l k
  | [], _ => rfl
  | x :: r, h => by
    have ih := aheadB_ren (k := k) (fun y hy => h y (List.mem_cons_of_mem _ hy))
    unfold aheadB at ih ⊢
    rw [List.map_cons, List.any_cons, List.any_cons, ih, h x List.mem_cons_self]
theorem idsF_mem {l : List ArgI} {x : Int} (h : x ∈ idsF l) : ∃ a ∈ l, a.1 = 1 ∧ a.2.1 = x := by
  unfold idsF at h
  obtain ⟨a, ha, rfl⟩ := List.mem_map.1 h
  obtain ⟨h1, h2⟩ := List.mem_filter.1 ha
  exact ⟨a, h1, by simpa using h2, rfl⟩
theorem idsOf_mem {i : InstI} {x : Int} (h : x ∈ idsOf i) : x = i.2.1 ∨ ∃ a ∈ i.2.2.2, a.1 = 1 ∧ a.2.1 = x := by
  unfold idsOf at h
  rcases List.mem_append.1 h with h | h
  · split at h
    · cases h
    · exact .inl (List.mem_singleton.1 h)
  · exact .inr (idsF_mem h)
theorem Used.ids {U : Int → Prop} {i : InstI} (h : Used U i) : ∀ x ∈ idsOf i, U x := fun x hx => by
  rcases idsOf_mem hx with rfl | ⟨a, ha, h1, rfl⟩
  · exact h.ty
  · exact h.args a ha h1
theorem idE1_ren {to : Int → Int} {U : Int → Prop} {b : Int} (h : RenOk to U b) {made made' : Int → Option Nat} (hm : ∀ x, U x → made' (to x) = made x) {i : InstI} (hu : Used U i) (p : Nat → Int) (k : Nat) :
    idE1 made' p k (renI to i) = idE1 made p k i := by
  unfold idE1
  rw [idsOf_ren h hu, lostB_ren (fun x hx => hm x (hu.ids x hx)), aheadB_ren (fun x hx => hm x (hu.ids x hx))]
  show (if to i.2.2.1 ≠ 0 ∧ (made' (to i.2.2.1)).getD 0 < k then _ else _) = _
  rw [hm _ hu.res]
  have c : (to i.2.2.1 ≠ 0 ∧ (made i.2.2.1).getD 0 < k) ↔ (i.2.2.1 ≠ 0 ∧ (made i.2.2.1).getD 0 < k) := by
    refine and_congr_left fun _ => ⟨fun h1 h2 => h1 (by rw [h2, h.zero]), fun h1 h2 => ?_⟩
    have := h.bd _ hu.res h1
    omega
  by_cases hz : i.2.2.1 ≠ 0 ∧ (made i.2.2.1).getD 0 < k
  · have hz2 := c.2 hz
    rw [if_pos hz, if_pos hz2]
  · have hz2 := fun hh => hz (c.1 hh)
    rw [if_neg hz, if_neg hz2]
theorem idsR_ren {to : Int → Int} {U : Int → Prop} {b : Int} (h : RenOk to U b) {made made' : Int → Option Nat} (hm : ∀ x, U x → made' (to x) = made x) (p : Nat → Int) :
    ∀ {l : List InstI} {k : Nat}, (∀ i ∈ l, Used U i) → idsR made' p (l.map (renI to)) k = idsR made p l k
  | [], _, _ => rfl
  | i :: r, k, hu => by
    rw [List.map_cons]
    unfold idsR
    rw [idE1_ren h hm (hu i List.mem_cons_self), idsR_ren h hm p (fun j hj => hu j (List.mem_cons_of_mem _ hj))]
theorem idsM_ren {to : Int → Int} {U : Int → Prop} {b bound : Int} (h : RenOk to U b) (hb : b ≠ 0) (hb2 : b ≤ 65536) {l : List InstI} (hu : ∀ i ∈ l, Used U i) (hi : (idsM bound l).1 = 0) : (idsM b (l.map (renI to))).1 = 0 := by
  have hraw := ids_shape hi
  have hS := SameL.ren (to := to) hraw
  unfold idsM at hi ⊢
  have hL : (layM bound l).1 = 0 := by
    by_cases hc : (layM bound l).1 = 0
    · exact hc
    · rw [if_pos hc] at hi; exact hi
  rw [if_neg (fun hc => hc hL)] at hi
  have hshape : (shapeM bound l).1 = 0 := by
    unfold layM at hL
    by_cases hc : (shapeM bound l).1 = 0
    · exact hc
    · rw [if_pos hc] at hL; exact hL
  have hshape' : (shapeM b (l.map (renI to))).1 = 0 := by
    unfold shapeM at hshape ⊢
    rw [if_neg (by omega)]
    split at hshape
    · cases hshape
    · exact shapeR_ren h hu hshape
  have hL' : (layM b (l.map (renI to))).1 = 0 := by
    unfold layM at hL ⊢
    rw [if_neg (fun hc => hc hshape)] at hL
    rw [if_neg (fun hc => hc hshape'), hS.cutR]
    by_cases hc : (cutR l).1 = true
    · rw [if_pos hc]
    · rw [if_neg hc] at hL
      split at hL <;> cases hL
  rw [if_neg (fun hc => hc hL'), hS.cutR, idsR_ren h (fun x hx => madeR_ren h hx hu) _ hu]
  exact hi
/-- of a module whose ids are well each id is made -/
theorem ids_used {bound : Int} {l : List InstI} (hi : (idsM bound l).1 = 0) : ∀ i ∈ l, Used (fun x => x = 0 ∨ (madeR l 0 x).isSome = true) i := by
  intro i hil
  obtain ⟨j, hj⟩ := List.getElem?_of_mem hil
  unfold idsM at hi
  by_cases hc : (layM bound l).1 = 0
  · rw [if_neg (fun h => h hc)] at hi
    have h1 := idsR_at hi j i hj
    have hl : lostB (madeR l 0) (idsOf i) = false := by
      cases hx : lostB (madeR l 0) (idsOf i) with
      | false => rfl
      | true =>
        exfalso
        unfold idE1 at h1
        rw [hx] at h1
        by_cases h2 : i.2.2.1 ≠ 0 ∧ ((madeR l 0 i.2.2.1).getD 0 < 0 + j)
        · rw [if_pos h2] at h1; cases h1
        · rw [if_neg h2, if_pos rfl] at h1; cases h1
    unfold lostB at hl
    rw [List.any_eq_false] at hl
    have hm : ∀ x ∈ idsOf i, (madeR l 0 x).isSome = true := fun x hx => by
      have := hl x hx
      cases hy : madeR l 0 x with
      | none => rw [hy] at this; exact absurd rfl this
      | some m => rfl
    refine ⟨?_, ?_, fun a ha h1 => ?_⟩
    · by_cases e : i.2.1 = 0
      · exact .inl e
      · refine .inr (hm _ ?_)
        unfold idsOf
        rw [if_neg e]
        exact List.mem_append_left _ List.mem_cons_self
    · by_cases e : i.2.2.1 = 0
      · exact .inl e
      · obtain ⟨m, hm, -⟩ := madeR_at l 0 j i hj e
        exact .inr (by rw [hm]; rfl)
    · refine .inr (hm _ ?_)
      unfold idsOf
      refine List.mem_append_right _ ?_
      unfold idsF
      exact List.mem_map.2 ⟨a, List.mem_filter.2 ⟨ha, by simpa using h1⟩, rfl⟩
  · rw [if_pos hc] at hi
    exact absurd hi hc
end Go.Proofs.YtgdmbeamemdaiaaGreatDoor
