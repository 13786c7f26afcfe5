/- Plain: a text as words. No program. -/
import Derived.Test.YtmcilcgpaokifaaBackLaw
import Derived.Test.YtmcilcgpaokifaaTextLaw
namespace Go.Proofs.Ytmcilcgpaokifaa

/-- a text's bytes -/
def bl (s : ByteArray) : List Int := s.data.toList.map fun b => (b.toNat : Int)
theorem bl_length (s : ByteArray) : (bl s).length = s.size := by simp [bl]
theorem bl_ix (s : ByteArray) {k : Nat} (h : k < s.size) : ix (bl s) k = (s[k].toNat : Int) := by
  rw [ix_of (by rw [bl_length]; exact h)]
  simp [bl]
  rfl
theorem bl_under (s : ByteArray) : Under 256 (bl s) := fun x hx => by
  obtain ⟨b, _, rfl⟩ := List.mem_map.1 hx
  have := b.toNat_lt
  omega
/-- none of the first k is zero -/
def Full (l : List Int) (k : Nat) : Prop := ∀ j, j < k → ix l j ≠ 0
theorem Full.zero (l : List Int) : Full l 0 := fun j hj => by omega
theorem Full.succ {l : List Int} {k : Nat} (h : Full l k) (hk : ix l k ≠ 0) : Full l (k + 1) := fun j hj => by
  rcases Nat.lt_or_ge j k with hj' | hj'
  · exact h j hj'
  · obtain rfl : j = k := by omega
    exact hk

def roomOf (l : List Int) : Nat := l.length / 4 + 1
def ofE (l : List Int) : Int := if (0 : Int) ∈ l then 13 else if 65535 < roomOf l then 4 else 0
/-- the words that the first k bytes come to -/
def part (l : List Int) (k : Nat) : List Int := glue (mid l (4 * roomOf l) k) (roomOf l)
def ofW (l : List Int) : List Int := if ofE l = 0 then part l l.length else []
theorem of_nul {l : List Int} {k : Nat} (h : k < l.length) (h0 : ix l k = 0) : ofE l = 13 ∧ ofW l = [] := by
  have hm : (0 : Int) ∈ l := by rw [← h0]; exact ix_mem h
  have e : ofE l = 13 := by simp [ofE, hm]
  exact ⟨e, by simp [ofW, e]⟩
theorem full_mem {l : List Int} (h : Full l l.length) : ¬ (0 : Int) ∈ l := fun hm => by
  obtain ⟨k, hk, e⟩ := List.getElem_of_mem hm
  exact h k hk (by rw [ix_of hk]; exact e)
theorem of_large {l : List Int} (h : Full l l.length) (hr : 65535 < roomOf l) : ofE l = 4 ∧ ofW l = [] := by
  have e : ofE l = 4 := by simp [ofE, full_mem h, hr]
  exact ⟨e, by simp [ofW, e]⟩
theorem of_ok {l : List Int} (h : Full l l.length) (hr : ¬ 65535 < roomOf l) : ofE l = 0 ∧ ofW l = part l l.length := by
  have e : ofE l = 0 := by simp [ofE, full_mem h, hr]
  exact ⟨e, by simp [ofW, e]⟩
theorem mid_length {l : List Int} {n k : Nat} (hk : k ≤ n) (hk' : k ≤ l.length) : (mid l n k).length = n := by
  simp only [mid, List.length_append, List.length_take, List.length_replicate]; omega
theorem mid_under {l : List Int} (h : Under 256 l) (n k : Nat) : Under 256 (mid l n k) :=
  (h.take k).append fun x hx => by rw [(List.mem_replicate.1 hx).2]; omega
theorem mid_ix_lt {l : List Int} {n k j : Nat} (hj : j < k) (hk : k ≤ l.length) : ix (mid l n k) j = ix l j := by
  unfold mid
  rw [ix_append_left (by rw [List.length_take]; omega), ix_take hj]
theorem mid_ix_ge {l : List Int} {n k j : Nat} (hj : k ≤ j) (hk : k ≤ l.length) : ix (mid l n k) j = 0 := by
  unfold mid
  have hl : (l.take k).length = k := by rw [List.length_take]; omega
  rw [ix_append_right (by omega), hl]
  rcases Nat.lt_or_ge (j - k) (n - k) with h | h
  · exact ix_replicate h
  · exact ix_out (by simpa using h)
theorem part_length (l : List Int) (k : Nat) : (part l k).length = roomOf l := glue_length _ _
theorem part_under {l : List Int} (h : Under 256 l) (k : Nat) : Under 4294967296 (part l k) := glue_under (mid_under h _ _) _

theorem u32_join' (i : Nat) (x y : Int) (hx0 : 0 ≤ x) (hx : x % 2 ^ i = 0) (hx1 : x < 4294967296) (hy0 : 0 ≤ y) (hy : y < 2 ^ i) (hy1 : y < 4294967296) : bits .or .u32 y x = x + y := by
  rw [← u32_join i x y hx0 hx hx1 hy0 hy hy1]
  simp only [bits]
  rw [BitVec.or_comm]
/-- one byte more -/
theorem word_or {l : List Int} (h : Under 256 l) {n q r : Nat} (hr : r < 4) (hk : 4 * q + r < l.length) :
    bits .or .u32 (word (mid l n (4 * q + r)) (4 * q)) (ix l (4 * q + r) * 256 ^ r) = word (mid l n (4 * q + r + 1)) (4 * q) := by
  have b := h.ix (by decide) (4 * q + r)
  have c0 := h.ix (by decide) (4 * q); have c1 := h.ix (by decide) (4 * q + 1); have c2 := h.ix (by decide) (4 * q + 2)
  rw [word_eq, word_eq]
  match r, hr with
  | 0, _ =>
    simp only [Nat.add_zero] at *
    rw [mid_ix_ge (k := 4 * q) (j := 4 * q) (by omega) (by omega), mid_ix_ge (k := 4 * q) (j := 4 * q + 1) (by omega) (by omega), mid_ix_ge (k := 4 * q) (j := 4 * q + 2) (by omega) (by omega), mid_ix_ge (k := 4 * q) (j := 4 * q + 3) (by omega) (by omega),
      mid_ix_lt (k := 4 * q + 1) (j := 4 * q) (by omega) (by omega), mid_ix_ge (k := 4 * q + 1) (j := 4 * q + 1) (by omega) (by omega), mid_ix_ge (k := 4 * q + 1) (j := 4 * q + 2) (by omega) (by omega), mid_ix_ge (k := 4 * q + 1) (j := 4 * q + 3) (by omega) (by omega)]
    rw [u32_join' 0 _ _ (by omega) (by omega) (by omega) (by omega) (by omega) (by omega)]
    omega
  | 1, _ =>
    rw [mid_ix_lt (k := 4 * q + 1) (j := 4 * q) (by omega) (by omega), mid_ix_ge (k := 4 * q + 1) (j := 4 * q + 1) (by omega) (by omega), mid_ix_ge (k := 4 * q + 1) (j := 4 * q + 2) (by omega) (by omega), mid_ix_ge (k := 4 * q + 1) (j := 4 * q + 3) (by omega) (by omega),
      mid_ix_lt (k := 4 * q + 1 + 1) (j := 4 * q) (by omega) (by omega), mid_ix_lt (k := 4 * q + 1 + 1) (j := 4 * q + 1) (by omega) (by omega), mid_ix_ge (k := 4 * q + 1 + 1) (j := 4 * q + 2) (by omega) (by omega), mid_ix_ge (k := 4 * q + 1 + 1) (j := 4 * q + 3) (by omega) (by omega)]
    rw [u32_join' 8 _ _ (by omega) (by omega) (by omega) (by omega) (by omega) (by omega)]
    omega
  | 2, _ =>
    rw [mid_ix_lt (k := 4 * q + 2) (j := 4 * q) (by omega) (by omega), mid_ix_lt (k := 4 * q + 2) (j := 4 * q + 1) (by omega) (by omega), mid_ix_ge (k := 4 * q + 2) (j := 4 * q + 2) (by omega) (by omega), mid_ix_ge (k := 4 * q + 2) (j := 4 * q + 3) (by omega) (by omega),
      mid_ix_lt (k := 4 * q + 2 + 1) (j := 4 * q) (by omega) (by omega), mid_ix_lt (k := 4 * q + 2 + 1) (j := 4 * q + 1) (by omega) (by omega), mid_ix_lt (k := 4 * q + 2 + 1) (j := 4 * q + 2) (by omega) (by omega), mid_ix_ge (k := 4 * q + 2 + 1) (j := 4 * q + 3) (by omega) (by omega)]
    rw [u32_join' 16 _ _ (by omega) (by omega) (by omega) (by omega) (by omega) (by omega)]
    omega
  | 3, _ =>
    rw [mid_ix_lt (k := 4 * q + 3) (j := 4 * q) (by omega) (by omega), mid_ix_lt (k := 4 * q + 3) (j := 4 * q + 1) (by omega) (by omega), mid_ix_lt (k := 4 * q + 3) (j := 4 * q + 2) (by omega) (by omega), mid_ix_ge (k := 4 * q + 3) (j := 4 * q + 3) (by omega) (by omega),
      mid_ix_lt (k := 4 * q + 3 + 1) (j := 4 * q) (by omega) (by omega), mid_ix_lt (k := 4 * q + 3 + 1) (j := 4 * q + 1) (by omega) (by omega), mid_ix_lt (k := 4 * q + 3 + 1) (j := 4 * q + 2) (by omega) (by omega), mid_ix_lt (k := 4 * q + 3 + 1) (j := 4 * q + 3) (by omega) (by omega)]
    rw [u32_join' 24 _ _ (by omega) (by omega) (by omega) (by omega) (by omega) (by omega)]
    omega
theorem part_step {l : List Int} (h : Under 256 l) {q r : Nat} (hr : r < 4) (hk : 4 * q + r < l.length) :
    (part l (4 * q + r)).set q (bits .or .u32 (ix (part l (4 * q + r)) q) (ix l (4 * q + r) * 256 ^ r)) = part l (4 * q + r + 1) := by
  have hq : q < roomOf l := by unfold roomOf; omega
  refine ext_ix (by rw [List.length_set, part_length, part_length]) fun j hj => ?_
  rw [List.length_set, part_length] at hj
  have e1 : ix (part l (4 * q + r)) q = word (mid l (4 * roomOf l) (4 * q + r)) (4 * q) := glue_ix hq
  by_cases hjq : q = j
  · subst hjq
    rw [ix_set_same (by rw [part_length]; exact hq), e1, word_or h hr hk]
    exact (glue_ix hq).symm
  · rw [ix_set_other hjq]
    unfold part
    rw [glue_ix hj, glue_ix hj, word_eq, word_eq]
    have e : ∀ t, t < 4 → ix (mid l (4 * roomOf l) (4 * q + r)) (4 * j + t) = ix (mid l (4 * roomOf l) (4 * q + r + 1)) (4 * j + t) := fun t ht => by
      rcases Nat.lt_or_ge (4 * j + t) (4 * q + r) with h' | h'
      · rw [mid_ix_lt h' (by omega), mid_ix_lt (by omega) (by omega)]
      · rw [mid_ix_ge h' (by omega), mid_ix_ge (by omega) (by omega)]
    have e0 := e 0 (by omega)
    rw [Nat.add_zero] at e0
    rw [e0, e 1 (by omega), e 2 (by omega), e 3 (by omega)]
theorem part_zero (l : List Int) : part l 0 = List.replicate (roomOf l) 0 := by
  refine ext_ix (by rw [part_length, List.length_replicate]) fun j hj => ?_
  rw [part_length] at hj
  unfold part
  rw [glue_ix hj, word_eq, ix_replicate hj, mid_ix_ge (by omega) (by omega), mid_ix_ge (by omega) (by omega), mid_ix_ge (by omega) (by omega), mid_ix_ge (by omega) (by omega)]
  rfl
theorem shift_eq {x : Int} (h0 : 0 ≤ x) (h1 : x < 256) {r : Nat} (hr : r < 4) : x % 4294967296 * 2 ^ (8 * r) % 4294967296 = x * 256 ^ r := by
  match r, hr with
  | 0, _ => simp; omega
  | 1, _ => simp; omega
  | 2, _ => simp; omega
  | 3, _ => simp; omega
theorem part_step' {l : List Int} (h : Under 256 l) {k : Nat} (hk : k < l.length) :
    (part l k).set (k / 4) (bits .or .u32 (ix (part l k) (k / 4)) (ix l k % 4294967296 * 2 ^ (8 * (k % 4)) % 4294967296)) = part l (k + 1) := by
  have hx := h.ix (by decide) k
  have e : 4 * (k / 4) + k % 4 = k := by omega
  have hs := part_step h (q := k / 4) (r := k % 4) (by omega) (by rw [e]; exact hk)
  rw [e] at hs
  rw [shift_eq hx.1 hx.2 (by omega)]
  exact hs
theorem ofW_under {l : List Int} (h : Under 256 l) : Under 4294967296 (ofW l) := by
  unfold ofW
  split
  · exact part_under h _
  · exact Under.nil
theorem mid_full {l : List Int} {n : Nat} : mid l n l.length = l ++ List.replicate (n - l.length) 0 := by simp [mid]
theorem mid_set' {l : List Int} {n k : Nat} (hk : k < l.length) (hn : k < n) : (mid l n k).set k (ix l k) = mid l n (k + 1) := by
  refine ext_ix (by rw [List.length_set, mid_length (by omega) (by omega), mid_length (by omega) (by omega)]) fun j hj => ?_
  rw [List.length_set, mid_length (by omega) (by omega)] at hj
  by_cases e : k = j
  · subst e
    rw [ix_set_same (by rw [mid_length (by omega) (by omega)]; exact hn), mid_ix_lt (by omega) (by omega)]
  · rw [ix_set_other e]
    rcases Nat.lt_or_ge j k with h | h
    · rw [mid_ix_lt h (by omega), mid_ix_lt (by omega) (by omega)]
    · rw [mid_ix_ge h (by omega), mid_ix_ge (by omega) (by omega)]
theorem ofW_length (l : List Int) : (ofW l).length ≤ l.length + 1 := by
  unfold ofW
  split
  · rw [part_length]; unfold roomOf; omega
  · simp
end Go.Proofs.Ytmcilcgpaokifaa
