/- Plain: what was written as words is read, whatever stands behind. No program. -/
import Derived.Test.YtmcilcgpaokifaaOfLaw
namespace Go.Proofs.Ytmcilcgpaokifaa

theorem str_bl (s : ByteArray) : str (bl s) = s := by
  have h : toU8 (bl s) = s.data.toList := by
    unfold toU8 bl
    rw [List.map_map]
    conv => rhs; rw [← List.map_id s.data.toList]
    refine List.map_congr_left fun b _ => ?_
    simp
  unfold str
  rw [h]

theorem wbyte_part {l r : List Int} (h : Under 256 l) {k : Nat} (hk : k < 4 * roomOf l) : wbyte (part l l.length ++ r) k = if k < l.length then ix l k else 0 := by
  unfold wbyte
  rw [ix_append_left (by rw [part_length]; omega)]
  unfold part
  rw [glue_ix (by omega), byt_word (mid_under h _ _) _ _ (by omega), show 4 * (k / 4) + k % 4 = k from by omega]
  split
  · rename_i hlt
    exact mid_ix_lt hlt (by omega)
  · rename_i hlt
    exact mid_ix_ge (by omega) (by omega)

theorem shr_zero {x : Int} {r : Nat} (hx : 0 ≤ x ∧ x < 4294967296) (h : ∀ j, r ≤ j → j < 4 → byt x j = 0) : shr x r = 0 := by
  rcases Nat.lt_or_ge r 4 with hr | hr
  · have e0 : ∀ j, byt x j = shr x j % 256 := fun _ => rfl
    have e4 : shr x 4 = 0 := by simp only [shr]; omega
    have b : ∀ j, 0 ≤ shr x j := fun j => (shr_bd hx j).1
    match r, hr with
    | 3, _ =>
      have h3 := h 3 (by omega) (by omega); rw [e0] at h3
      simp only [shr] at e4 h3 ⊢; omega
    | 2, _ =>
      have h3 := h 3 (by omega) (by omega); rw [e0] at h3
      have h2 := h 2 (by omega) (by omega); rw [e0] at h2
      simp only [shr] at e4 h3 h2 ⊢; omega
    | 1, _ =>
      have h3 := h 3 (by omega) (by omega); rw [e0] at h3
      have h2 := h 2 (by omega) (by omega); rw [e0] at h2
      have h1 := h 1 (by omega) (by omega); rw [e0] at h1
      simp only [shr] at e4 h3 h2 h1 ⊢; omega
    | 0, _ =>
      have h3 := h 3 (by omega) (by omega); rw [e0] at h3
      have h2 := h 2 (by omega) (by omega); rw [e0] at h2
      have h1 := h 1 (by omega) (by omega); rw [e0] at h1
      have h0 := h 0 (by omega) (by omega); rw [e0] at h0
      simp only [shr] at e4 h3 h2 h1 h0 ⊢; omega
  · obtain ⟨d, rfl⟩ : ∃ d, r = 4 + d := ⟨r - 4, by omega⟩
    clear h hr
    induction d with
    | zero => simp only [shr]; omega
    | succ d ih => rw [show 4 + (d + 1) = (4 + d) + 1 from by omega, shr, ih]; rfl

theorem read_back {l r : List Int} (h : Under 256 l) (hr : Under 4294967296 r) (hf : Full l l.length) :
    stop (part l l.length ++ r) = l.length ∧ textE (part l l.length ++ r) = 0 ∧ textN (part l l.length ++ r) = (roomOf l : Nat) ∧ textS (part l l.length ++ r) = l := by
  have hroom : l.length < 4 * roomOf l := by unfold roomOf; omega
  have hlen : (part l l.length ++ r).length = roomOf l + r.length := by rw [List.length_append, part_length]
  have hp : l.length < 4 * (part l l.length ++ r).length := by rw [hlen]; omega
  have hu : Under 4294967296 (part l l.length ++ r) := (part_under h _).append hr
  have hnz : ∀ k, k < l.length → wbyte (part l l.length ++ r) k ≠ 0 := fun k hk => by
    rw [wbyte_part h (by omega), if_pos hk]; exact hf k hk
  have hz : wbyte (part l l.length ++ r) l.length = 0 := by rw [wbyte_part h hroom, if_neg (by omega)]
  have hx : shr (ix (part l l.length ++ r) (l.length / 4)) (l.length % 4) = 0 := by
    refine shr_zero (hu.ix (by decide) _) fun j hj hj4 => ?_
    have hk : 4 * (l.length / 4) + j < 4 * roomOf l := by unfold roomOf; omega
    have := wbyte_part (r := r) h hk
    rw [wbyte_at _ hj4, if_neg (by omega)] at this
    exact this
  obtain ⟨e1, e2, e3⟩ := text_ok hp hnz hz hx
  refine ⟨stop_eq (by omega) hnz (.inr hz), e1, by rw [e2]; rfl, ?_⟩
  rw [e3]
  refine ext_ix (by rw [List.length_take, joined_length]; omega) fun k hk => ?_
  rw [List.length_take, joined_length] at hk
  rw [ix_take (by omega), joined_ix _ _ (by omega), wbyte_part h (by omega), if_pos (by omega)]
/-- whether there is a zero among the first k -/
def nulB (l : List Int) : Nat → Bool
  | 0 => false
  | k + 1 => nulB l k || ix l k == 0
theorem nulB_yes {l : List Int} {k : Nat} (h : nulB l k = true) : ∃ j, j < k ∧ ix l j = 0 := by
  induction k with
  | zero => cases h
  | succ k ih =>
    simp only [nulB, Bool.or_eq_true, beq_iff_eq] at h
    rcases h with h | h
    · obtain ⟨j, hj, e⟩ := ih h
      exact ⟨j, by omega, e⟩
    · exact ⟨k, by omega, h⟩
theorem nulB_no {l : List Int} {k : Nat} (h : nulB l k = false) : Full l k := by
  induction k with
  | zero => exact Full.zero _
  | succ k ih =>
    simp only [nulB, Bool.or_eq_false_iff, beq_eq_false_iff_ne] at h
    exact (ih h.1).succ h.2
theorem next_fits {need old : Nat} (h : old < need) (ho : old ≤ 65535) (hn : need ≤ 35184372153343) : Builtin.nextslicecap need old * 4 ≤ 281474976710656 := by
  by_cases h2 : need > 2 * old
  · unfold Builtin.nextslicecap
    rw [if_pos h2]
    omega
  · have := nextslicecap_le h
    omega
end Go.Proofs.Ytmcilcgpaokifaa
