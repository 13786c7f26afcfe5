/- Plain: a value's parts, as Get and Put answer them: what was put is got, and nothing else has changed; by a path in two steps. -/
import Derived.Test.YtgfnnfljefjegaaGreatDoorCVH
namespace Go.Proofs.YtgfnnfljefjegaaGreatDoor
open Go.RowKit

/-- what Get answers: the type, the words, what is wrong -/
def getV (T : Int → TyI) (ty : Int) (ws l : List Int) : Int × List Int × Int :=
  if gvE T ty ws ≠ 0 then (0, [], gvE T ty ws) else if (wkW T 0 ty l).2 = 0 then (0, [], 121) else ((wkW T 0 ty l).2, segV' ws (wkW T 0 ty l).1 (T (wkW T 0 ty l).2).size, 0)
/-- what Put answers -/
def putG (T : Int → TyI) (ty : Int) (ws l part : List Int) : List Int × Int := if putE T ty ws l part = 0 then (putV ws (wkW T 0 ty l).1 part, 0) else ([], putE T ty ws l part)
theorem getV_ok {T : Int → TyI} {ty : Int} {ws : List Int} (l : List Int) (h : gvE T ty ws = 0) : getV T ty ws l = if (wkW T 0 ty l).2 = 0 then (0, [], 121) else ((wkW T 0 ty l).2, segV' ws (wkW T 0 ty l).1 (T (wkW T 0 ty l).2).size, 0) := by
  unfold getV
  rw [if_neg (by rw [h]; decide)]
abbrev U32 (ws : List Int) : Prop := ∀ x ∈ ws, 0 ≤ x ∧ x < 4294967296
theorem U32.at {ws : List Int} (h : U32 ws) : ∀ k, k < ws.length → 0 ≤ ix ws k ∧ ix ws k < 4294967296 := fun _ hk => h _ (ix_in hk)
theorem get_err {T : Int → TyI} {ty p ee : Int} {ws l old : List Int} (h : getV T ty ws l = (p, old, ee)) (he : ee ≠ 0) : p = 0 ∧ old = [] := by
  unfold getV at h
  split at h
  · injection h with h1 h; injection h with h2 h3; exact ⟨h1.symm, h2.symm⟩
  · split at h
    · injection h with h1 h; injection h with h2 h3; exact ⟨h1.symm, h2.symm⟩
    · injection h with h1 h; injection h with h2 h3; exact absurd h3.symm he
theorem gv_ok {T : Int → TyI} {ty : Int} {ws : List Int} (hu : U32 ws) (h : gvE T ty ws = 0) : 0 < (T ty).size ∧ okV T 19 ty ws := by
  obtain ⟨h1, h2, h3⟩ := gvE_zero h
  exact (fitsV_ok hu.at).1 h2
/-- where a path leads that leads somewhere -/
structure PathOk (T : Int → TyI) (ty : Int) (ws l : List Int) (p a : Int) (old : List Int) : Prop where
  plain : 0 < (T ty).size
  ok : okV T 19 ty ws
  gv : gvE T ty ws = 0
  found : Found T ty l
  part : p = (wkW T 0 ty l).2
  at_ : a = (wkW T 0 ty l).1
  old_ : old = segV' ws a (T p).size
  pplain : 0 < (T p).size
  low : 0 ≤ a
  high : a + (T p).size ≤ (T ty).size
  leaf : ∀ i : Nat, (i : Int) < (T p).size → ix (leafL T 19 ty) (a.toNat + i) = ix (leafL T 19 p) i
theorem get_ok {T : Int → TyI} (hT : Typed T) {ty p : Int} {ws l old : List Int} (hu : U32 ws) (hl : U32 l) (h : getV T ty ws l = (p, old, 0)) : PathOk T ty ws l p (wkW T 0 ty l).1 old := by
  unfold getV at h
  split at h
  · rename_i h0; injection h with h1 h; injection h with h2 h3; exact absurd h3 h0
  · rename_i h0
    have h0 : gvE T ty ws = 0 := by simpa using h0
    split at h
    · injection h with h1 h; injection h with h2 h3; cases h3
    · rename_i h1
      injection h with h2 h; injection h with h3 h
      obtain ⟨hp, hok⟩ := gv_ok hu h0
      obtain ⟨a1, a2, a3, a4⟩ := wk_at hT l ty (fun k hk => (hl k hk).1) hp h1
      subst h2
      exact ⟨hp, hok, h0, h1, rfl, rfl, h3.symm, a1, a2, a3, a4⟩
section
variable {T : Int → TyI} {ty p a : Int} {ws l old : List Int}
theorem PathOk.pok (h : PathOk T ty ws l p a old) : okV T 19 p old := by rw [h.old_]; exact ok_seg h.ok h.low h.pplain h.high h.leaf
theorem PathOk.few (h : PathOk T ty ws l p a old) (hT : Typed T) : ws.length ≤ 4096 ∧ old.length ≤ 4096 ∧ (old.length : Int) = (T p).size ∧ (ws.length : Int) = (T ty).size := by
  have h1 := h.ok.1
  have h2 := h.pok.1
  have h3 := (hT.size ty).2.2
  have h4 := (hT.size p).2.2
  exact ⟨by omega, by omega, h2, h1⟩
theorem PathOk.fits (h : PathOk T ty ws l p a old) : fitsV T p old = true ∧ gvE T p old = 0 := ⟨(okV_fits h.pplain h.pok).2.1, (okV_fits h.pplain h.pok).2.2⟩
/-- what was there put back -/
theorem PathOk.back (h : PathOk T ty ws l p a old) : putG T ty ws l old = (ws, 0) := by
  have hf : (wkW T 0 ty l).2 ≠ 0 := h.found
  have e0 : putE T ty ws l old = 0 := by
    unfold putE
    rw [h.gv, if_neg (by decide), if_neg hf, ← h.part, if_pos h.fits.1]
  unfold putG
  rw [if_pos e0, ← h.at_, h.old_, put_back h.low (by have := h.pplain; omega) (by have := h.ok.1; have := h.high; omega)]
/-- by a path in two steps -/
theorem wk_two {T : Int → TyI} (hT : Typed T) : ∀ (l m : List Int) (ty : Int), (∀ k ∈ l, 0 ≤ k) → 0 < (T ty).size → Found T ty l → (wkW T 0 ty (l ++ m)).2 = (wkW T 0 (wkW T 0 ty l).2 m).2 ∧ (Found T ty (l ++ m) → (wkW T 0 ty (l ++ m)).1 = (wkW T 0 ty l).1 + (wkW T 0 (wkW T 0 ty l).2 m).1)
  | [], m, ty, _, hs => fun _ => ⟨rfl, fun _ => (Int.zero_add _).symm⟩
  | k :: r, m, ty, h, hs => by
    have hk := h k List.mem_cons_self
    unfold Found
    rw [List.cons_append]
    by_cases h1 : cntT (T ty) ≤ k
    · rw [wk_none h1]
      exact fun h => absurd rfl h
    · have hlt : k < cntT (T ty) := by omega
      obtain ⟨e2, e1⟩ := wk_cons (r := r) hlt
      obtain ⟨f2, f1⟩ := wk_cons (r := r ++ m) hlt
      obtain ⟨p1, -⟩ := part_at hT hs hk hlt
      have a2 := wk_two hT r m _ (fun j hj => h j (List.mem_cons_of_mem _ hj)) p1
      unfold Found at a2
      rw [e2, f2]
      intro hf
      obtain ⟨b1, b2⟩ := a2 hf
      refine ⟨b1, fun hf2 => ?_⟩
      rw [f1 hf2, b2 hf2, e1 hf]
      omega
theorem PathOk.two (h : PathOk T ty ws l p a old) (hT : Typed T) (hl : U32 l) {m : List Int} (hm : U32 m) : getV T p old m = getV T ty ws (l ++ m) := by
  obtain ⟨b1, b2⟩ := wk_two hT l m ty (fun k hk => (hl k hk).1) h.plain h.found
  rw [← h.part] at b1 b2
  rw [getV_ok _ h.gv, getV_ok _ h.fits.2, b1]
  by_cases h0 : (wkW T 0 p m).2 = 0
  · rw [if_pos h0, if_pos h0]
  · have hf2 : Found T ty (l ++ m) := by unfold Found; rw [b1]; exact h0
    obtain ⟨c1, c2, c3, -⟩ := wk_at hT m p (fun k hk => (hm k hk).1) h.pplain h0
    rw [if_neg h0, if_neg h0, b2 hf2, ← h.at_, h.old_, seg_seg h.low c2 (by omega) c3]
/-- Put refuses -/
theorem PathOk.refuse (h : PathOk T ty ws l p a old) {part x : List Int} {i : Int} (hg : putG T ty ws l part = (x, i)) (hi : i ≠ 0) : i = 2 ∧ fitsV T p part = false ∧ x = [] := by
  have hf : (wkW T 0 ty l).2 ≠ 0 := h.found
  have e0 : putE T ty ws l part = if fitsV T p part = true then 0 else 2 := by
    unfold putE
    rw [h.gv, if_neg (by decide), if_neg hf, ← h.part]
  unfold putG at hg
  rw [e0] at hg
  cases hfp : fitsV T p part with
  | true => rw [hfp, if_pos rfl, if_pos rfl] at hg; injection hg with _ h2; exact absurd h2.symm hi
  | false => rw [hfp, if_neg (by decide), if_neg (by decide)] at hg; injection hg with h1 h2; exact ⟨h2.symm, rfl, h1.symm⟩
/-- what was put is got -/
theorem PathOk.put (h : PathOk T ty ws l p a old) {part x : List Int} (hu : U32 part) (hg : putG T ty ws l part = (x, 0)) :
    x.length = ws.length ∧ fitsV T ty x = true ∧ getV T ty x l = (p, part, 0) ∧ x = putV ws a part ∧ (part.length : Int) = (T p).size ∧ U32 x ∧ gvE T ty x = 0 := by
  have hf : (wkW T 0 ty l).2 ≠ 0 := h.found
  have e0 : putE T ty ws l part = if fitsV T p part = true then 0 else 2 := by
    unfold putE
    rw [h.gv, if_neg (by decide), if_neg hf, ← h.part]
  unfold putG at hg
  rw [e0] at hg
  cases hfp : fitsV T p part with
  | false => rw [hfp, if_neg (by decide), if_neg (by decide)] at hg; injection hg with _ h2; cases h2
  | true =>
    rw [hfp, if_pos rfl, if_pos rfl, ← h.at_] at hg
    injection hg with hx _
    subst hx
    obtain ⟨-, hpk⟩ := (fitsV_ok hu.at).1 hfp
    have hpl := hpk.1
    have hin : a + part.length ≤ ws.length := by have := h.ok.1; have := h.high; omega
    have hlen := put_len h.low hin
    have hok := put_ok h.ok hpk h.low h.high h.leaf
    obtain ⟨u1, u2, u3⟩ := okV_fits h.plain hok
    refine ⟨hlen, u2, ?_, rfl, hpl, fun y hy => ?_, u3⟩
    · rw [getV_ok _ u3, if_neg hf, ← h.part, ← h.at_, ← hpl, put_get h.low hin]
    · obtain ⟨k, hk, rfl⟩ := List.getElem_of_mem hy
      have := u1 k hk
      rwa [ix_of hk] at this
/-- nothing else has changed -/
theorem PathOk.other (h : PathOk T ty ws l p a old) (hT : Typed T) (hl : U32 l) {m part x : List Int} (hm : U32 m) (hu : U32 part) (hg : putG T ty ws l part = (x, 0)) (hp : parB l m = true) : getV T ty ws m = getV T ty x m := by
  obtain ⟨h1, h2, h3, hx, h5, h6, h7⟩ := h.put hu hg
  rw [getV_ok _ h.gv, getV_ok _ h7]
  by_cases h0 : (wkW T 0 ty m).2 = 0
  · rw [if_pos h0, if_pos h0]
  · obtain ⟨c1, c2, c3, -⟩ := wk_at hT m ty (fun k hk => (hm k hk).1) h.plain h0
    have hap := parted_apart hT l m ty (fun k hk => (hl k hk).1) (fun k hk => (hm k hk).1) h.plain h.found h0 hp
    rw [← h.part, ← h.at_] at hap
    have hlw := h.ok.1
    have hhi := h.high
    rw [if_neg h0, if_neg h0, hx, put_other h.low (by omega) c2 (by omega) (by omega) (by rcases hap with hap | hap; exact .inl hap; exact .inr (by omega))]
end
/-- a path that leads somewhere is short -/
theorem found_len {T : Int → TyI} (hT : Typed T) : ∀ (l : List Int) (ty : Int), (∀ k ∈ l, 0 ≤ k) → 0 < (T ty).size → Found T ty l → (l.length : Int) ≤ rankT (T ty)
  | [], ty, _, _, _ => (rankT_bd hT ty).1
  | k :: r, ty, h, hs, hf => by
    have hk := h k List.mem_cons_self
    unfold Found at hf
    by_cases h1 : cntT (T ty) ≤ k
    · rw [wk_none h1] at hf; exact absurd rfl hf
    · have hlt : k < cntT (T ty) := by omega
      obtain ⟨e2, -⟩ := wk_cons (r := r) hlt
      rw [e2] at hf
      obtain ⟨p1, -⟩ := part_at hT hs hk hlt
      have ih := found_len hT r _ (fun j hj => h j (List.mem_cons_of_mem _ hj)) p1 hf
      obtain ⟨j, rfl⟩ : ∃ j : Nat, k = j := ⟨k.toNat, by omega⟩
      have hlow := (parts_ok hT hs (by omega)).low j (by omega)
      rw [List.length_cons]
      have e : (T (partT (T ty) (j : Int)).1) = T (partN (T ty) j) := rfl
      rw [e] at ih
      omega
end Go.Proofs.YtgfnnfljefjegaaGreatDoor
