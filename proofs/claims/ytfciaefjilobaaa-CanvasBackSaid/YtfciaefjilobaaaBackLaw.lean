/- Plain: bytes to words and back. No program. -/
import Derived.Test.YtfciaefjilobaaaSplitLaw
namespace Go.Proofs.Ytfciaefjilobaaa

theorem byt_word {l : List Int} (h : Under 256 l) (i j : Nat) (hj : j < 4) : byt (word l i) j = ix l (i + j) := by
  have b := fun j => h.ix (by decide) (i + j)
  obtain ⟨e0, e1, e2, e3⟩ := byt_of _ _ _ _ (b 3) (b 2) (b 1) (b 0)
  have e : word l i = ix l (i + 3) * 16777216 + ix l (i + 2) * 65536 + ix l (i + 1) * 256 + ix l (i + 0) := by rw [word_eq]; simp only [Nat.add_zero]; omega
  rw [e]
  match j, hj with
  | 0, _ => exact e0
  | 1, _ => exact e1
  | 2, _ => exact e2
  | 3, _ => exact e3
theorem joined_glue {l : List Int} (h : Under 256 l) {m : Nat} (hm : l.length = 4 * m) : joined (glue l m) = l := by
  refine ext_ix (by rw [joined_length, glue_length]; omega) fun k hk => ?_
  rw [joined_length, glue_length] at hk
  rw [joined_ix _ _ (by rw [glue_length]; exact hk)]
  unfold wbyte
  rw [glue_ix (by omega), byt_word h _ _ (by omega)]
  congr 1
  omega
theorem word_joined {l : List Int} (h : Under 4294967296 l) {j : Nat} (hj : j < l.length) : word (joined l) (4 * j) = ix l j := by
  have hx := h.ix (by decide) j
  have e : ∀ q, q < 4 → ix (joined l) (4 * j + q) = byt (ix l j) q := fun q hq => by
    rw [joined_ix _ _ (by omega)]
    unfold wbyte
    rw [show (4 * j + q) / 4 = j from by omega, show (4 * j + q) % 4 = q from by omega]
  have e0 := e 0 (by omega)
  rw [Nat.add_zero] at e0
  rw [word_eq, e0, e 1 (by omega), e 2 (by omega), e 3 (by omega)]
  simp only [byt, shr]
  omega
theorem glue_joined {l : List Int} (h : Under 4294967296 l) : glue (joined l) l.length = l := by
  refine ext_ix (glue_length _ _) fun k hk => ?_
  rw [glue_length] at hk
  rw [glue_ix hk, word_joined h hk]
theorem split_joined {l : List Int} (h : Under 4294967296 l) (hl : l.length ≤ 1048576) : splitE (joined l) = 0 ∧ splitW (joined l) = l := by
  have hs := split_whole (l := joined l) (by rw [joined_length]; omega) (by rw [joined_length]; omega)
  refine ⟨hs.1, ?_⟩
  rw [hs.2, joined_length, show 4 * l.length / 4 = l.length from by omega, glue_joined h]
end Go.Proofs.Ytfciaefjilobaaa
