/- What is read is written as it was. No program is named. -/
import Derived.Test.YtppkjejdkogfpaaModLaw
import Derived.Test.YtppkjejdkogfpaaReadf
namespace Go.Proofs.Ytppkjejdkogfpaa
open Go.RowKit

theorem enc_insAt {ws : List Int} {p : Nat} (hu : Under 4294967296 ws) (h : can ws p) : encI (insAt ws p) = (ws.drop p).take (cntW (ix ws p)) := by
  have hx := hu.ix (by decide) p
  have hc := cnt_conv hx.1 hx.2
  have hl := insAt_length h
  obtain ⟨h1, h2, h3⟩ := h
  have hd : ws.drop p = ix ws p :: ws.drop (p + 1) := by rw [List.drop_eq_getElem_cons h1, ix_of h1]
  have hn : cntW (ix ws p) = (cntW (ix ws p) - 1) + 1 := by omega
  rw [hd, hn, List.take_succ_cons]
  unfold encI
  rw [hl, ← hc.1]
  refine List.cons_eq_cons.2 ⟨?_, rfl⟩
  show ix ws p / 65536 * 65536 + ix ws p % 65536 = ix ws p
  omega
theorem goes_words {ws : List Int} (hu : Under 4294967296 ws) {p E : Nat} {L : List (Nat × Ins)} (h : Goes ws p L E) (hp : p ≤ ws.length) : encL (L.map (·.2)) = (ws.drop p).take (E - p) := by
  induction h with
  | stop _ => simp [encL]
  | @step p e l hc hg ih =>
    have h3 := hc.2.2
    have h4 := hg.le.1
    have h5 := hc.2.1
    have e1 : encL (((p, insAt ws p) :: l).map (·.2)) = encI (insAt ws p) ++ encL (l.map (·.2)) := by simp [encL]
    rw [e1, enc_insAt hu hc, ih (by omega)]
    have e2 : ws.drop (p + cntW (ix ws p)) = (ws.drop p).drop (cntW (ix ws p)) := by rw [List.drop_drop]
    rw [e2, show e - p = cntW (ix ws p) + (e - (p + cntW (ix ws p))) from by omega, List.take_add]
theorem mod_back {ws : List Int} (hu : Under 4294967296 ws) (hl : ws.length ≤ 1048576) (hh : HeadTo ws 5) {L : List (Nat × Ins)} {E : Nat} (hg : Goes ws 5 L E) (hE : ¬ E < ws.length) :
    modW (ix ws 2) (ix ws 3) (L.map (·.2)) = ws ∧ E = ws.length ∧ ¬ (ix ws 3 = 0 ∨ 65536 < ix ws 3) ∧ FaultTo (L.map (·.2)) (L.map (·.2)).length ∧ 5 ≤ ws.length := by
  have h5 : 5 ≤ ws.length := by have := (hh 4 (by omega)).1; omega
  have hEe : E = ws.length := by have := hg.le.2 h5; omega
  have hw := goes_words hu hg h5
  have w0 := (hh 0 (by omega)).2
  have w1 := (hh 1 (by omega)).2
  have w3 := (hh 3 (by omega)).2
  have w4 := (hh 4 (by omega)).2
  have v0 : ix ws 0 = 119734787 := by
    simp only [wrongW, if_true] at w0
    split at w0
    · omega
    · split at w0
      · omega
      · rename_i h; simpa using h
  have v1 : ix ws 1 = 65536 := by
    simp [wrongW] at w1
    exact w1
  have v4 : ix ws 4 = 0 := by
    simp [wrongW] at w4
    exact w4
  have v3 : ¬ (ix ws 3 = 0 ∨ 65536 < ix ws 3) := fun h => by
    unfold wrongW at w3
    rw [if_neg (by decide), if_neg (by decide), if_pos rfl, if_pos h] at w3
    omega
  have ht : ws.take 5 = headW (ix ws 2) (ix ws 3) := by
    apply List.ext_getElem
    · simp [headW]; omega
    · intro i h1 h2
      have hi : i < 5 := by simpa [headW] using h2
      have e : (ws.take 5)[i] = ix ws i := by rw [List.getElem_take, ix_of (by omega)]
      rw [e]
      have hi' : i = 0 ∨ i = 1 ∨ i = 2 ∨ i = 3 ∨ i = 4 := by omega
      rcases hi' with rfl | rfl | rfl | rfl | rfl <;> simp [headW, v0, v1, v4]
  have hm : modW (ix ws 2) (ix ws 3) (L.map (·.2)) = ws := by
    unfold modW
    rw [← ht, hw, hEe, List.take_of_length_le (l := ws.drop 5) (by rw [List.length_drop]; omega), List.take_append_drop]
  have hsz : 5 + sz (L.map (·.2)) = ws.length := by rw [← modW_length (ix ws 2) (ix ws 3), hm]
  refine ⟨hm, hEe, v3, fun j hj => ⟨?_, ?_⟩, h5⟩
  · rw [insK_of hj]
    have hj' : j < L.length := by simpa using hj
    obtain ⟨k, hk, hc⟩ := hg.mem (List.getElem_mem hj')
    have := (can_bounds hu hc).1
    rw [List.getElem_map, hk]
    exact Nat.lt_of_le_of_lt this (by decide)
  · have := sz_take_le (L.map (·.2)) (j + 1)
    omega
end Go.Proofs.Ytppkjejdkogfpaa
