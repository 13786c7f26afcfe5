/- Plain: and, or of words as arithmetic. No program. -/
import Derived.Test.YtfciaefjilobaaaWlaw
import Derived.Laws.BitsAllLaws
import Derived.Laws.BitsLemmas
namespace Go.Proofs.Ytfciaefjilobaaa

theorem nat_mask (y a b : Nat) : y &&& ((2 ^ a - 1) <<< b) = (y / 2 ^ b % 2 ^ a) * 2 ^ b := by
  rw [← Nat.shiftLeft_eq, ← Nat.shiftRight_eq_div_pow]
  apply Nat.eq_of_testBit_eq
  intro i
  simp only [Nat.testBit_and, Nat.testBit_shiftLeft, Nat.testBit_two_pow_sub_one, Nat.testBit_mod_two_pow, Nat.testBit_shiftRight]
  by_cases h : b ≤ i
  · simp only [ge_iff_le, h, decide_true, Bool.true_and]
    rw [show b + (i - b) = i from by omega, Bool.and_comm]
  · simp [h]

theorem u32_mask (y : Int) (a b : Nat) (M : Int) (h0 : 0 ≤ y) (h1 : y < 4294967296) (hM : M = (((2 ^ a - 1) <<< b : Nat) : Int)) (hM' : M < 4294967296) :
    bits .and .u32 y M = (y / 2 ^ b % 2 ^ a) * 2 ^ b := by
  obtain ⟨n, rfl⟩ := Int.eq_ofNat_of_zero_le h0
  subst hM
  rw [u32_and_nat _ _ (by omega) (by omega), nat_mask]
  simp

theorem wraps_u32 (n : Int) (h0 : 0 ≤ n) (h1 : n < 2 ^ 32) : IntKind.u32.wrap n = n := by
  rw [IntKind.wrap_u32]; omega

theorem u32_join (i : Nat) (x y : Int) (hx0 : 0 ≤ x) (hx : x % 2 ^ i = 0) (hx1 : x < 4294967296) (hy0 : 0 ≤ y) (hy : y < 2 ^ i) (hy1 : y < 4294967296) : bits .or .u32 x y = x + y :=
  bits_join .u32 32 (by decide) wraps_u32 i x y hx0 hx (by omega) hy0 hy (by omega)

/-- a word with its bytes the other way round -/
def turn (x : Int) : Int := byt x 0 * 16777216 + byt x 1 * 65536 + byt x 2 * 256 + byt x 3

theorem turn_bits (x : Int) (h0 : 0 ≤ x) (h1 : x < 4294967296) :
    bits .or .u32 (bits .or .u32 (bits .or .u32 (x * 16777216 % 4294967296) (bits .and .u32 (x * 256 % 4294967296) 16711680)) (bits .and .u32 (x / 256) 65280)) (x / 16777216) = turn x := by
  rw [u32_mask (x * 256 % 4294967296) 8 16 16711680 (by omega) (by omega) (by decide) (by decide), u32_mask (x / 256) 8 8 65280 (by omega) (by omega) (by decide) (by decide)]
  simp only [show ((2 : Int) ^ 16) = 65536 from rfl, show ((2 : Int) ^ 8) = 256 from rfl]
  rw [u32_join 24 (x * 16777216 % 4294967296) _ (by omega) (by omega) (by omega) (by omega) (by omega) (by omega)]
  rw [u32_join 16 _ (x / 256 / 256 % 256 * 256) (by omega) (by omega) (by omega) (by omega) (by omega) (by omega)]
  rw [u32_join 8 _ (x / 16777216) (by omega) (by omega) (by omega) (by omega) (by omega) (by omega)]
  simp only [turn, byt, shr]
  omega
/-- what the document's loop has after m bytes -/
def tacc (x : Int) : Nat → Int
  | 0 => 0
  | m + 1 => 256 * tacc x m + byt x m
theorem tacc_four (x : Int) : tacc x 4 = turn x := by
  simp only [tacc, turn]; omega
theorem tacc_bd (x : Int) (m : Nat) (hm : m < 4) : 0 ≤ tacc x m ∧ tacc x m < 16777216 := by
  have b0 := byt_bd x 0; have b1 := byt_bd x 1; have b2 := byt_bd x 2
  match m, hm with
  | 0, _ => simp [tacc]
  | 1, _ => simp only [tacc]; omega
  | 2, _ => simp only [tacc]; omega
  | 3, _ => simp only [tacc]; omega
theorem turn_bd (x : Int) : 0 ≤ turn x ∧ turn x < 4294967296 := by
  have b0 := byt_bd x 0; have b1 := byt_bd x 1; have b2 := byt_bd x 2; have b3 := byt_bd x 3
  unfold turn; omega
theorem byt_of (a b c d : Int) (ha : 0 ≤ a ∧ a < 256) (hb : 0 ≤ b ∧ b < 256) (hc : 0 ≤ c ∧ c < 256) (hd : 0 ≤ d ∧ d < 256) :
    byt (a * 16777216 + b * 65536 + c * 256 + d) 0 = d ∧ byt (a * 16777216 + b * 65536 + c * 256 + d) 1 = c ∧ byt (a * 16777216 + b * 65536 + c * 256 + d) 2 = b ∧ byt (a * 16777216 + b * 65536 + c * 256 + d) 3 = a := by
  have e1 : (a * 16777216 + b * 65536 + c * 256 + d) / 256 = a * 65536 + b * 256 + c := by omega
  have e2 : (a * 65536 + b * 256 + c) / 256 = a * 256 + b := by omega
  have e3 : (a * 256 + b) / 256 = a := by omega
  simp only [byt, shr, e1, e2, e3]
  omega
theorem turn_turn (x : Int) (h0 : 0 ≤ x) (h1 : x < 4294967296) : turn (turn x) = x := by
  obtain ⟨e0, e1, e2, e3⟩ := byt_of _ _ _ _ (byt_bd x 0) (byt_bd x 1) (byt_bd x 2) (byt_bd x 3)
  have e : turn (turn x) = byt x 3 * 16777216 + byt x 2 * 65536 + byt x 1 * 256 + byt x 0 := by
    show byt (turn x) 0 * 16777216 + byt (turn x) 1 * 65536 + byt (turn x) 2 * 256 + byt (turn x) 3 = _
    unfold turn
    rw [e0, e1, e2, e3]
  rw [e]
  simp only [byt, shr]
  omega
theorem byt_turn (x : Int) : byt (turn x) 0 = byt x 3 ∧ byt (turn x) 1 = byt x 2 ∧ byt (turn x) 2 = byt x 1 ∧ byt (turn x) 3 = byt x 0 := by
  unfold turn
  exact byt_of _ _ _ _ (byt_bd x 0) (byt_bd x 1) (byt_bd x 2) (byt_bd x 3)
theorem turn_magic : turn 119734787 = 50471687 := by decide
end Go.Proofs.Ytfciaefjilobaaa
