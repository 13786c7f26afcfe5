/- Plain: bytes parted into words. No program. -/
import Derived.Test.YtfciaefjilobaaaBitsLaw
namespace Go.Proofs.Ytfciaefjilobaaa

/-- what the top m bytes of the word at byte i come to -/
def top (l : List Int) (i : Nat) : Nat → Int
  | 0 => 0
  | m + 1 => top l i m * 256 + ix l (i + (3 - m))
def word (l : List Int) (i : Nat) : Int := top l i 4
/-- the first m words -/
def glue (l : List Int) : Nat → List Int
  | 0 => []
  | m + 1 => glue l m ++ [word l (4 * m)]
def splitE (l : List Int) : Int := if 4194304 < l.length then 4 else if l.length % 4 ≠ 0 then 10 else 0
def splitW (l : List Int) : List Int := if splitE l = 0 then glue l (l.length / 4) else []

theorem glue_length (l : List Int) (m : Nat) : (glue l m).length = m := by induction m with
  | zero => rfl
  | succ m ih => simp [glue, ih]
theorem glue_ix {l : List Int} {m j : Nat} (h : j < m) : ix (glue l m) j = word l (4 * j) := by
  induction m with
  | zero => omega
  | succ m ih =>
    rw [glue]
    rcases Nat.lt_or_ge j m with hj | hj
    · rw [ix_append_left (by rw [glue_length]; exact hj), ih hj]
    · obtain rfl : j = m := by omega
      rw [ix_append_right (by rw [glue_length]; omega), glue_length, Nat.sub_self]
      simp [ix]
theorem top_bd {l : List Int} (h : Under 256 l) (i m : Nat) (hm : m < 4) : 0 ≤ top l i m ∧ top l i m < 16777216 := by
  have b := fun j => h.ix (by decide) (i + j)
  have b3 := b (3 - 0); have b2 := b (3 - 1); have b1 := b (3 - 2)
  match m, hm with
  | 0, _ => simp [top]
  | 1, _ => simp only [top]; omega
  | 2, _ => simp only [top]; omega
  | 3, _ => simp only [top]; omega
theorem word_eq (l : List Int) (i : Nat) : word l i = ix l i + 256 * ix l (i + 1) + 65536 * ix l (i + 2) + 16777216 * ix l (i + 3) := by
  simp only [word, top]
  have e0 : i + (3 - 3) = i := by omega
  have e1 : i + (3 - 2) = i + 1 := by omega
  have e2 : i + (3 - 1) = i + 2 := by omega
  have e3 : i + (3 - 0) = i + 3 := by omega
  rw [e0, e1, e2, e3]
  omega
theorem word_bd {l : List Int} (h : Under 256 l) (i : Nat) : 0 ≤ word l i ∧ word l i < 4294967296 := by
  have b := fun j => h.ix (by decide) (i + j)
  have b3 := b 3; have b2 := b 2; have b1 := b 1; have b0 := h.ix (by decide) i
  rw [word_eq]
  omega
theorem glue_under {l : List Int} (h : Under 256 l) (m : Nat) : Under 4294967296 (glue l m) := by
  induction m with
  | zero => exact Under.nil
  | succ m ih => exact ih.append (Under.one (word_bd h _).1 (word_bd h _).2)
theorem splitW_under {l : List Int} (h : Under 256 l) : Under 4294967296 (splitW l) := by
  unfold splitW
  split
  · exact glue_under h _
  · exact Under.nil
theorem split_large {l : List Int} (h : 4194304 < l.length) : splitE l = 4 ∧ splitW l = [] := by
  have e : splitE l = 4 := by simp [splitE, h]
  exact ⟨e, by simp [splitW, e]⟩
theorem split_odd {l : List Int} (h : ¬ 4194304 < l.length) (h' : l.length % 4 ≠ 0) : splitE l = 10 ∧ splitW l = [] := by
  have e : splitE l = 10 := by simp [splitE, h, h']
  exact ⟨e, by simp [splitW, e]⟩
theorem split_whole {l : List Int} (h : ¬ 4194304 < l.length) (h' : l.length % 4 = 0) : splitE l = 0 ∧ splitW l = glue l (l.length / 4) := by
  have e : splitE l = 0 := by simp [splitE, h, h']
  exact ⟨e, by simp [splitW, e]⟩
theorem top_step {l : List Int} (h : Under 256 l) (i m : Nat) (hm : m < 4) : bits .or .u32 (top l i m * 256) (ix l (i + (3 - m))) = top l i (m + 1) := by
  have b := top_bd h i m hm
  have b' := h.ix (by decide) (i + (3 - m))
  rw [u32_join 8 _ _ (by omega) (by omega) (by omega) (by omega) (by omega) (by omega)]
  simp only [top]
theorem splitW_length (l : List Int) : (splitW l).length ≤ l.length := by
  unfold splitW
  split
  · rw [glue_length]; omega
  · simp
end Go.Proofs.Ytfciaefjilobaaa
