/- Plain: what TypesTexts asks of a table. No program is named. -/
import Derived.Test.YtgdmbeamemdaiaaGreatDoorTySame
import Derived.Test.YtgdmbeamemdaiaaGreatDoorTR
namespace Go.Proofs.YtgdmbeamemdaiaaGreatDoor

theorem WellS.kind_in {s : StN} (hw : WellS s) {a : Int} (ha : a ∈ s.ord) : 1 ≤ (s.T a).kind ∧ (s.T a).kind ≤ 8 := by
  obtain ⟨k, hk, rfl⟩ := List.getElem_of_mem ha
  exact (hw.made k hk).kind
theorem kindB_in {k : Int} (h : 1 ≤ k ∧ k ≤ 8) : kindB k = true := by unfold kindB; rw [decide_eq_true_eq]; exact h
theorem ix_in {l : List Int} {k : Nat} (h : k < l.length) : ix l k ∈ l := by rw [ix_of h]; exact List.getElem_mem _
theorem bs_toList (l : List UInt8) : (bs l).toList = l := by rw [ByteArray.toList_eq]; rfl
theorem bs_ne {l m : List UInt8} (h : l ≠ m) : ((bs l).toList == (bs m).toList) = false := by
  rw [bs_toList, bs_toList, beq_eq_false_iff_ne]
  exact h
theorem bs_eq {l m : List UInt8} (h : l = m) : ((bs l).toList == (bs m).toList) = true := by
  rw [h]
  simp
theorem text_ne {s : StN} (hw : WellS s) {a : Int} (ha : a ∈ s.ord) (q : Nat) : textT s.T (q + 1) a ≠ [] := fun hc => by
  have h1 := hw.typed.head q a
  rw [hc] at h1
  have h2 := (hw.kind_in ha).1
  have h3 : headK [] = 0 := rfl
  omega
theorem texts_ok {s : StN} (hw : WellS s) (ho : OnceF s) {k j : Nat} (hk : k < s.ord.length) (hj : j < k) (he : textT s.T 19 (ix s.ord k) = textT s.T 19 (ix s.ord j)) :
    simpleT s.T 19 (ix s.ord k) = false ∧ simpleT s.T 19 (ix s.ord j) = false ∧ (s.T (ix s.ord k)).kind = (s.T (ix s.ord j)).kind ∧ (s.T (ix s.ord k)).size = (s.T (ix s.ord j)).size ∧ cntT (s.T (ix s.ord k)) = cntT (s.T (ix s.ord j)) ∧
      textT s.T 19 (partT (s.T (ix s.ord k)) 0).1 = textT s.T 19 (partT (s.T (ix s.ord j)) 0).1 := by
  have hY := hw.typed
  have hkj : ix s.ord k ≠ ix s.ord j := fun hc => by
    rw [ix_of hk, ix_of (show j < s.ord.length by omega)] at hc
    have := (List.getElem_inj hw.nodup).1 hc
    omega
  have ha := ix_in hk
  have hb := ix_in (show j < s.ord.length by omega)
  have hS := text_same hY he
  have r1 := (rankT_bd hY (ix s.ord k)).2
  have r2 := (rankT_bd hY (ix s.ord j)).2
  refine ⟨?_, ?_, hS.kind, size_same hY (by omega) he, cnt_same hS, first_same hY (by omega) (by omega) he⟩
  · rw [Bool.eq_false_iff]
    exact fun hc => hkj (simple_same hw ho he hc ha hb)
  · rw [Bool.eq_false_iff]
    exact fun hc => hkj (simple_same hw ho he.symm hc hb ha).symm
end Go.Proofs.YtgdmbeamemdaiaaGreatDoor
