/- Plain: words and their bytes. No program. Plain: and, or of words as arithmetic. No program. Plain: bytes parted into words. No program. Plain: bytes to words and back. No program. Plain: the text at the front of words. No program. Plain: a text as words. No program. -/
import Derived.Test.YtgdmbeamemdaiaaGreatDoorTB
import Derived.Laws.BitsAllLaws
import Derived.Laws.BitsLemmas
import Derived.Laws.IdiomStrings
namespace Go.Proofs.YtgdmbeamemdaiaaGreatDoor

/-- x without its last j bytes -/
def shr (x : Int) : Nat → Int
  | 0 => x
  | j + 1 => shr x j / 256
/-- the j-th byte of a word -/
def byt (x : Int) (j : Nat) : Int := shr x j % 256
/-- the first m bytes of a word -/
def byts (x : Int) : Nat → List Int
  | 0 => []
  | m + 1 => byts x m ++ [byt x m]
/-- the bytes of words -/
def joined (l : List Int) : List Int := l.flatMap fun x => byts x 4

theorem byts_length (x : Int) (m : Nat) : (byts x m).length = m := by induction m with
  | zero => rfl
  | succ m ih => simp [byts, ih]
theorem joined_length (l : List Int) : (joined l).length = 4 * l.length := by
  induction l with
  | nil => rfl
  | cons x r ih => simp only [joined, List.flatMap_cons, List.length_append, byts_length, List.length_cons] at ih ⊢; omega
theorem joined_nil : joined [] = [] := rfl
theorem joined_snoc (l : List Int) (x : Int) : joined (l ++ [x]) = joined l ++ byts x 4 := by simp [joined]
theorem joined_take_succ {l : List Int} {k : Nat} (h : k < l.length) : joined (l.take (k + 1)) = joined (l.take k) ++ byts (ix l k) 4 := by
  rw [take_snoc_ix h, joined_snoc]
theorem shr_bd {x : Int} (h : 0 ≤ x ∧ x < 4294967296) (j : Nat) : 0 ≤ shr x j ∧ shr x j < 4294967296 := by
  induction j with
  | zero => exact h
  | succ j ih => simp only [shr]; omega
theorem byt_bd (x : Int) (j : Nat) : 0 ≤ byt x j ∧ byt x j < 256 := by unfold byt; omega
theorem byts_under (x : Int) (m : Nat) : Under 256 (byts x m) := by
  induction m with
  | zero => exact Under.nil
  | succ m ih => exact ih.append (Under.one (byt_bd x m).1 (byt_bd x m).2)
theorem joined_under (l : List Int) : Under 256 (joined l) := fun y hy => by
  obtain ⟨x, _, hx⟩ := List.mem_flatMap.1 hy
  exact byts_under x 4 y hx
/-- the k-th byte of words -/
def wbyte (l : List Int) (k : Nat) : Int := byt (ix l (k / 4)) (k % 4)
theorem wbyte_bd (l : List Int) (k : Nat) : 0 ≤ wbyte l k ∧ wbyte l k < 256 := byt_bd _ _
theorem byts_ix {x : Int} {m j : Nat} (h : j < m) : ix (byts x m) j = byt x j := by
  induction m with
  | zero => omega
  | succ m ih =>
    rw [byts]
    rcases Nat.lt_or_ge j m with hj | hj
    · rw [ix_append_left (by rw [byts_length]; exact hj), ih hj]
    · obtain rfl : j = m := by omega
      rw [ix_append_right (by rw [byts_length]; omega), byts_length, Nat.sub_self]
      simp [ix]
theorem joined_ix (l : List Int) : ∀ k, k < 4 * l.length → ix (joined l) k = wbyte l k := by
  induction l with
  | nil => intro k hk; simp at hk
  | cons x r ih =>
    intro k hk
    have e : joined (x :: r) = byts x 4 ++ joined r := by simp [joined]
    rw [e]
    rcases Nat.lt_or_ge k 4 with h4 | h4
    · rw [ix_append_left (by rw [byts_length]; exact h4), byts_ix h4]
      unfold wbyte
      rw [show k / 4 = 0 from by omega, show k % 4 = k from by omega]
      rfl
    · rw [ix_append_right (by rw [byts_length]; exact h4), byts_length, ih (k - 4) (by simp only [List.length_cons] at hk; omega)]
      unfold wbyte
      rw [show (k - 4) % 4 = k % 4 from by omega, show k / 4 = (k - 4) / 4 + 1 from by omega]
      simp [ix]
theorem wbyte_one {x : Int} {m : Nat} (h : m < 4) : wbyte [x] m = byt x m := by
  unfold wbyte
  rw [show m / 4 = 0 from by omega, show m % 4 = m from by omega]
  rfl
end Go.Proofs.YtgdmbeamemdaiaaGreatDoor

namespace Go.Proofs.YtgdmbeamemdaiaaGreatDoor

theorem nat_mask (y a b : Nat) : y &&& ((2 ^ a - 1) <<< b) = (y / 2 ^ b % 2 ^ a) * 2 ^ b := by
  rw [← Nat.shiftLeft_eq, ← Nat.shiftRight_eq_div_pow]
  apply Nat.eq_of_testBit_eq
  intro i
  simp only [Nat.testBit_and, Nat.testBit_shiftLeft, Nat.testBit_two_pow_sub_one, Nat.testBit_mod_two_pow, Nat.testBit_shiftRight]
  by_cases h : b ≤ i
  · simp only [ge_iff_le, h, decide_true, Bool.true_and]
    rw [show b + (i - b) = i from by omega, Bool.and_comm]
  · simp [h]

theorem u32_mask (y : Int) (a b : Nat) (M : Int) (h0 : 0 ≤ y) (h1 : y < 4294967296) (hM : M = (((2 ^ a - 1) <<< b : Nat) : Int)) (hM' : M < 4294967296) :
    bits .and .u32 y M = (y / 2 ^ b % 2 ^ a) * 2 ^ b := by
  obtain ⟨n, rfl⟩ := Int.eq_ofNat_of_zero_le h0
  subst hM
  rw [u32_and_nat _ _ (by omega) (by omega), nat_mask]
  simp

theorem wraps_u32 (n : Int) (h0 : 0 ≤ n) (h1 : n < 2 ^ 32) : IntKind.u32.wrap n = n := by
  rw [IntKind.wrap_u32]; omega

theorem u32_join (i : Nat) (x y : Int) (hx0 : 0 ≤ x) (hx : x % 2 ^ i = 0) (hx1 : x < 4294967296) (hy0 : 0 ≤ y) (hy : y < 2 ^ i) (hy1 : y < 4294967296) : bits .or .u32 x y = x + y :=
  bits_join .u32 32 (by decide) wraps_u32 i x y hx0 hx (by omega) hy0 hy (by omega)

/-- a word with its bytes the other way round -/
def turn (x : Int) : Int := byt x 0 * 16777216 + byt x 1 * 65536 + byt x 2 * 256 + byt x 3

theorem turn_bits (x : Int) (h0 : 0 ≤ x) (h1 : x < 4294967296) :
    bits .or .u32 (bits .or .u32 (bits .or .u32 (x * 16777216 % 4294967296) (bits .and .u32 (x * 256 % 4294967296) 16711680)) (bits .and .u32 (x / 256) 65280)) (x / 16777216) = turn x := by
  rw [u32_mask (x * 256 % 4294967296) 8 16 16711680 (by omega) (by omega) (by decide) (by decide), u32_mask (x / 256) 8 8 65280 (by omega) (by omega) (by decide) (by decide)]
  simp only [show ((2 : Int) ^ 16) = 65536 from rfl, show ((2 : Int) ^ 8) = 256 from rfl]
  rw [u32_join 24 (x * 16777216 % 4294967296) _ (by omega) (by omega) (by omega) (by omega) (by omega) (by omega)]
  rw [u32_join 16 _ (x / 256 / 256 % 256 * 256) (by omega) (by omega) (by omega) (by omega) (by omega) (by omega)]
  rw [u32_join 8 _ (x / 16777216) (by omega) (by omega) (by omega) (by omega) (by omega) (by omega)]
  simp only [turn, byt, shr]
  omega
/-- what the document's loop has after m bytes -/
def tacc (x : Int) : Nat → Int
  | 0 => 0
  | m + 1 => 256 * tacc x m + byt x m
theorem tacc_four (x : Int) : tacc x 4 = turn x := by
  simp only [tacc, turn]; omega
theorem tacc_bd (x : Int) (m : Nat) (hm : m < 4) : 0 ≤ tacc x m ∧ tacc x m < 16777216 := by
  have b0 := byt_bd x 0; have b1 := byt_bd x 1; have b2 := byt_bd x 2
  match m, hm with
  | 0, _ => simp [tacc]
  | 1, _ => simp only [tacc]; omega
  | 2, _ => simp only [tacc]; omega
  | 3, _ => simp only [tacc]; omega
theorem turn_bd (x : Int) : 0 ≤ turn x ∧ turn x < 4294967296 := by
  have b0 := byt_bd x 0; have b1 := byt_bd x 1; have b2 := byt_bd x 2; have b3 := byt_bd x 3
  unfold turn; omega
theorem byt_of (a b c d : Int) (ha : 0 ≤ a ∧ a < 256) (hb : 0 ≤ b ∧ b < 256) (hc : 0 ≤ c ∧ c < 256) (hd : 0 ≤ d ∧ d < 256) :
    byt (a * 16777216 + b * 65536 + c * 256 + d) 0 = d ∧ byt (a * 16777216 + b * 65536 + c * 256 + d) 1 = c ∧ byt (a * 16777216 + b * 65536 + c * 256 + d) 2 = b ∧ byt (a * 16777216 + b * 65536 + c * 256 + d) 3 = a := by
  have e1 : (a * 16777216 + b * 65536 + c * 256 + d) / 256 = a * 65536 + b * 256 + c := by omega
  have e2 : (a * 65536 + b * 256 + c) / 256 = a * 256 + b := by omega
  have e3 : (a * 256 + b) / 256 = a := by omega
  simp only [byt, shr, e1, e2, e3]
  omega
theorem turn_turn (x : Int) (h0 : 0 ≤ x) (h1 : x < 4294967296) : turn (turn x) = x := by
  obtain ⟨e0, e1, e2, e3⟩ := byt_of _ _ _ _ (byt_bd x 0) (byt_bd x 1) (byt_bd x 2) (byt_bd x 3)
  have e : turn (turn x) = byt x 3 * 16777216 + byt x 2 * 65536 + byt x 1 * 256 + byt x 0 := by
    show byt (turn x) 0 * 16777216 + byt (turn x) 1 * 65536 + byt (turn x) 2 * 256 + byt (turn x) 3 = _
    unfold turn
    rw [e0, e1, e2, e3]
  rw [e]
  simp only [byt, shr]
  omega
theorem byt_turn (x : Int) : byt (turn x) 0 = byt x 3 ∧ byt (turn x) 1 = byt x 2 ∧ byt (turn x) 2 = byt x 1 ∧ byt (turn x) 3 = byt x 0 := by
  unfold turn
  exact byt_of _ _ _ _ (byt_bd x 0) (byt_bd x 1) (byt_bd x 2) (byt_bd x 3)
theorem turn_magic : turn 119734787 = 50471687 := by decide
end Go.Proofs.YtgdmbeamemdaiaaGreatDoor

namespace Go.Proofs.YtgdmbeamemdaiaaGreatDoor

/-- what the top m bytes of the word at byte i come to -/
def top (l : List Int) (i : Nat) : Nat → Int
  | 0 => 0
  | m + 1 => top l i m * 256 + ix l (i + (3 - m))
def word (l : List Int) (i : Nat) : Int := top l i 4
/-- the first m words -/
def glue (l : List Int) : Nat → List Int
  | 0 => []
  | m + 1 => glue l m ++ [word l (4 * m)]
def splitE (l : List Int) : Int := if 4194304 < l.length then 4 else if l.length % 4 ≠ 0 then 10 else 0
def splitW (l : List Int) : List Int := if splitE l = 0 then glue l (l.length / 4) else []

theorem glue_length (l : List Int) (m : Nat) : (glue l m).length = m := by induction m with
  | zero => rfl
  | succ m ih => simp [glue, ih]
theorem glue_ix {l : List Int} {m j : Nat} (h : j < m) : ix (glue l m) j = word l (4 * j) := by
  induction m with
  | zero => omega
  | succ m ih =>
    rw [glue]
    rcases Nat.lt_or_ge j m with hj | hj
    · rw [ix_append_left (by rw [glue_length]; exact hj), ih hj]
    · obtain rfl : j = m := by omega
      rw [ix_append_right (by rw [glue_length]; omega), glue_length, Nat.sub_self]
      simp [ix]
theorem top_bd {l : List Int} (h : Under 256 l) (i m : Nat) (hm : m < 4) : 0 ≤ top l i m ∧ top l i m < 16777216 := by
  have b := fun j => h.ix (by decide) (i + j)
  have b3 := b (3 - 0); have b2 := b (3 - 1); have b1 := b (3 - 2)
  match m, hm with
  | 0, _ => simp [top]
  | 1, _ => simp only [top]; omega
  | 2, _ => simp only [top]; omega
  | 3, _ => simp only [top]; omega
theorem word_eq (l : List Int) (i : Nat) : word l i = ix l i + 256 * ix l (i + 1) + 65536 * ix l (i + 2) + 16777216 * ix l (i + 3) := by
  simp only [word, top]
  have e0 : i + (3 - 3) = i := by omega
  have e1 : i + (3 - 2) = i + 1 := by omega
  have e2 : i + (3 - 1) = i + 2 := by omega
  have e3 : i + (3 - 0) = i + 3 := by omega
  rw [e0, e1, e2, e3]
  omega
theorem word_bd {l : List Int} (h : Under 256 l) (i : Nat) : 0 ≤ word l i ∧ word l i < 4294967296 := by
  have b := fun j => h.ix (by decide) (i + j)
  have b3 := b 3; have b2 := b 2; have b1 := b 1; have b0 := h.ix (by decide) i
  rw [word_eq]
  omega
theorem glue_under {l : List Int} (h : Under 256 l) (m : Nat) : Under 4294967296 (glue l m) := by
  induction m with
  | zero => exact Under.nil
  | succ m ih => exact ih.append (Under.one (word_bd h _).1 (word_bd h _).2)
theorem splitW_under {l : List Int} (h : Under 256 l) : Under 4294967296 (splitW l) := by
  unfold splitW
  split
  · exact glue_under h _
  · exact Under.nil
theorem split_large {l : List Int} (h : 4194304 < l.length) : splitE l = 4 ∧ splitW l = [] := by
  have e : splitE l = 4 := by simp [splitE, h]
  exact ⟨e, by simp [splitW, e]⟩
theorem split_odd {l : List Int} (h : ¬ 4194304 < l.length) (h' : l.length % 4 ≠ 0) : splitE l = 10 ∧ splitW l = [] := by
  have e : splitE l = 10 := by simp [splitE, h, h']
  exact ⟨e, by simp [splitW, e]⟩
theorem split_whole {l : List Int} (h : ¬ 4194304 < l.length) (h' : l.length % 4 = 0) : splitE l = 0 ∧ splitW l = glue l (l.length / 4) := by
  have e : splitE l = 0 := by simp [splitE, h, h']
  exact ⟨e, by simp [splitW, e]⟩
theorem top_step {l : List Int} (h : Under 256 l) (i m : Nat) (hm : m < 4) : bits .or .u32 (top l i m * 256) (ix l (i + (3 - m))) = top l i (m + 1) := by
  have b := top_bd h i m hm
  have b' := h.ix (by decide) (i + (3 - m))
  rw [u32_join 8 _ _ (by omega) (by omega) (by omega) (by omega) (by omega) (by omega)]
  simp only [top]
theorem splitW_length (l : List Int) : (splitW l).length ≤ l.length := by
  unfold splitW
  split
  · rw [glue_length]; omega
  · simp
end Go.Proofs.YtgdmbeamemdaiaaGreatDoor

namespace Go.Proofs.YtgdmbeamemdaiaaGreatDoor

theorem byt_word {l : List Int} (h : Under 256 l) (i j : Nat) (hj : j < 4) : byt (word l i) j = ix l (i + j) := by
  have b := fun j => h.ix (by decide) (i + j)
  obtain ⟨e0, e1, e2, e3⟩ := byt_of _ _ _ _ (b 3) (b 2) (b 1) (b 0)
  have e : word l i = ix l (i + 3) * 16777216 + ix l (i + 2) * 65536 + ix l (i + 1) * 256 + ix l (i + 0) := by rw [word_eq]; simp only [Nat.add_zero]; omega
  rw [e]
  match j, hj with
  | 0, _ => exact e0
  | 1, _ => exact e1
  | 2, _ => exact e2
  | 3, _ => exact e3
theorem joined_glue {l : List Int} (h : Under 256 l) {m : Nat} (hm : l.length = 4 * m) : joined (glue l m) = l := by
  refine ext_ix (by rw [joined_length, glue_length]; omega) fun k hk => ?_
  rw [joined_length, glue_length] at hk
  rw [joined_ix _ _ (by rw [glue_length]; exact hk)]
  unfold wbyte
  rw [glue_ix (by omega), byt_word h _ _ (by omega)]
  congr 1
  omega
theorem word_joined {l : List Int} (h : Under 4294967296 l) {j : Nat} (hj : j < l.length) : word (joined l) (4 * j) = ix l j := by
  have hx := h.ix (by decide) j
  have e : ∀ q, q < 4 → ix (joined l) (4 * j + q) = byt (ix l j) q := fun q hq => by
    rw [joined_ix _ _ (by omega)]
    unfold wbyte
    rw [show (4 * j + q) / 4 = j from by omega, show (4 * j + q) % 4 = q from by omega]
  have e0 := e 0 (by omega)
  rw [Nat.add_zero] at e0
  rw [word_eq, e0, e 1 (by omega), e 2 (by omega), e 3 (by omega)]
  simp only [byt, shr]
  omega
theorem glue_joined {l : List Int} (h : Under 4294967296 l) : glue (joined l) l.length = l := by
  refine ext_ix (glue_length _ _) fun k hk => ?_
  rw [glue_length] at hk
  rw [glue_ix hk, word_joined h hk]
theorem split_joined {l : List Int} (h : Under 4294967296 l) (hl : l.length ≤ 1048576) : splitE (joined l) = 0 ∧ splitW (joined l) = l := by
  have hs := split_whole (l := joined l) (by rw [joined_length]; omega) (by rw [joined_length]; omega)
  refine ⟨hs.1, ?_⟩
  rw [hs.2, joined_length, show 4 * l.length / 4 = l.length from by omega, glue_joined h]
end Go.Proofs.YtgdmbeamemdaiaaGreatDoor

namespace Go.Proofs.YtgdmbeamemdaiaaGreatDoor
open Go.RowKit Go.WideShapes

def toU8 (l : List Int) : List UInt8 := l.map fun x => UInt8.ofNat x.toNat
/-- bytes as a text -/
def str (l : List Int) : ByteArray := ⟨(toU8 l).toArray⟩
theorem str_nil : str [] = ⟨#[]⟩ := rfl
theorem toU8_length (l : List Int) : (toU8 l).length = l.length := by simp [toU8]

theorem conv_text {P : Program} {w : World} {src dst e : TypeId} {base n c : Nat} {A : Option Addr} {l : List Int} (hs : P.underlying src = some (.slice e)) (he : P.underlying e = some (.int .u8)) (hd : P.underlying dst = some .string)
    (ho : w.ownsRow base e 1 (.slice A n c) n (Ints .u8 l)) (hu : Under 256 l) : (convert src dst (.slice A n c)).run P w = .ok (.string (str l)) w := by
  have hl := own_len ho
  rcases Nat.eq_zero_or_pos n with h0 | h0
  · subst h0
    have h : l = [] := List.eq_nil_of_length_eq_zero hl
    subst h
    rcases A with _ | a
    · rw [run_convert_bytes_string w src dst e none 0 c hs he hd]
      rfl
    · exact run_convert_bytes_back w src dst e a c [] hs he hd (fun j hj => by simp at hj)
  · obtain ⟨g, cap, hv, _⟩ := ho.form h0
    cases hv
    have hb := run_convert_bytes_back (P := P) w src dst e ⟨g, 0, none⟩ c (toU8 l) hs he hd (fun j hj => by
      have hj' : j < l.length := by rwa [toU8_length] at hj
      have hx := hu.ix (by decide) j
      rw [add_plain, Nat.zero_add, own_int_at ho (by omega)]
      congr 2
      simp only [toU8, List.getElem_map]
      rw [← ix_of hj', UInt8.toNat_ofNat']
      omega)
    rw [toU8_length, hl] at hb
    exact hb

/-- where the first zero byte stands -/
def stop (l : List Int) : Nat := ((joined l).takeWhile (· != 0)).length
def textE (l : List Int) : Int := if stop l = 4 * l.length then 11 else if shr (ix l (stop l / 4)) (stop l % 4) ≠ 0 then 12 else 0
def textN (l : List Int) : Int := if textE l = 0 then (stop l / 4 + 1 : Nat) else 0
def textS (l : List Int) : List Int := if textE l = 0 then (joined l).take (stop l) else []

theorem takeWhile_stop (J : List Int) (p : Nat) (hp : p ≤ J.length) (h : ∀ k, k < p → ix J k ≠ 0) (he : p = J.length ∨ ix J p = 0) : (J.takeWhile (· != 0)).length = p := by
  induction J generalizing p with
  | nil => simp at hp; subst hp; rfl
  | cons x r ih =>
    rcases p with _ | p
    · rcases he with he | he
      · simp at he
      · simp [ix] at he
        subst he
        simp
    · have hx : x ≠ 0 := by have := h 0 (by omega); simpa [ix] using this
      rw [List.takeWhile_cons_of_pos (by simpa using hx), List.length_cons, ih p (by simpa using hp) (fun k hk => by have := h (k + 1) (by omega); simpa [ix] using this)
        (by rcases he with he | he
            · left; simpa using he
            · right; simpa [ix] using he)]
theorem stop_eq {l : List Int} {p : Nat} (hp : p ≤ 4 * l.length) (h : ∀ k, k < p → wbyte l k ≠ 0) (he : p = 4 * l.length ∨ wbyte l p = 0) : stop l = p := by
  refine takeWhile_stop _ p (by rw [joined_length]; exact hp) (fun k hk => by rw [joined_ix l k (by omega)]; exact h k hk) ?_
  rcases he with he | he
  · left; rw [joined_length]; exact he
  · rcases Nat.lt_or_ge p (4 * l.length) with h' | h'
    · right; rw [joined_ix l p h']; exact he
    · left; rw [joined_length]; omega

/-- what a text answers -/
def Texts (l : List Int) (w : World) (e : Ending) (w' : World) : Prop :=
  e = .returned (.tuple #[.string (str (textS l)), .int .i64 (textN l), .int .i64 (textE l)]) ∧ Below w.heap.size w w'

theorem text_none {l : List Int} (h : ∀ k, k < 4 * l.length → wbyte l k ≠ 0) : textE l = 11 ∧ textN l = 0 ∧ textS l = [] := by
  have hs : stop l = 4 * l.length := stop_eq (Nat.le_refl _) h (.inl rfl)
  have e : textE l = 11 := by simp [textE, hs]
  exact ⟨e, by simp [textN, e], by simp [textS, e]⟩
theorem text_pad {l : List Int} {p : Nat} (hp : p < 4 * l.length) (h : ∀ k, k < p → wbyte l k ≠ 0) (he : wbyte l p = 0) (hx : shr (ix l (p / 4)) (p % 4) ≠ 0) : textE l = 12 ∧ textN l = 0 ∧ textS l = [] := by
  have hs : stop l = p := stop_eq (by omega) h (.inr he)
  have e : textE l = 12 := by unfold textE; rw [hs, if_neg (by omega), if_pos hx]
  exact ⟨e, by simp [textN, e], by simp [textS, e]⟩
theorem text_ok {l : List Int} {p : Nat} (hp : p < 4 * l.length) (h : ∀ k, k < p → wbyte l k ≠ 0) (he : wbyte l p = 0) (hx : shr (ix l (p / 4)) (p % 4) = 0) : textE l = 0 ∧ textN l = (p / 4 + 1 : Nat) ∧ textS l = (joined l).take p := by
  have hs : stop l = p := stop_eq (by omega) h (.inr he)
  have e : textE l = 0 := by unfold textE; rw [hs, if_neg (by omega), if_neg (by simpa using hx)]
  exact ⟨e, by simp [textN, e, hs], by simp [textS, e, hs]⟩
theorem Texts.mk {l : List Int} {w w' : World} {s : List Int} {n e : Int} (h : textE l = e ∧ textN l = n ∧ textS l = s) (hb : Below w.heap.size w w') : Texts l w (.returned (.tuple #[.string (str s), .int .i64 n, .int .i64 e])) w' := by
  refine ⟨?_, hb⟩
  rw [h.1, h.2.1, h.2.2]
/-- none of the first p bytes is zero -/
def NoZero (l : List Int) (p : Nat) : Prop := ∀ k, k < p → wbyte l k ≠ 0
theorem NoZero.zero (l : List Int) : NoZero l 0 := fun k hk => by omega
theorem NoZero.succ {l : List Int} {p : Nat} (h : NoZero l p) (hp : wbyte l p ≠ 0) : NoZero l (p + 1) := fun k hk => by
  rcases Nat.lt_or_ge k p with hk' | hk'
  · exact h k hk'
  · obtain rfl : k = p := by omega
    exact hp
theorem wbyte_at (l : List Int) {k m : Nat} (hm : m < 4) : wbyte l (4 * k + m) = byt (ix l k) m := by
  unfold wbyte
  rw [show (4 * k + m) / 4 = k from by omega, show (4 * k + m) % 4 = m from by omega]
theorem byts_take (x : Int) {m q : Nat} (h : m ≤ q) : (byts x q).take m = byts x m := by
  refine ext_ix (by rw [List.length_take, byts_length, byts_length]; omega) fun j hj => ?_
  rw [List.length_take, byts_length] at hj
  rw [ix_take (by omega), byts_ix (by omega), byts_ix (by omega)]
theorem joined_take (l : List Int) {k m : Nat} (hk : k < l.length) (hm : m ≤ 4) : (joined l).take (4 * k + m) = joined (l.take k) ++ byts (ix l k) m := by
  refine ext_ix ?_ fun j hj => ?_
  · rw [List.length_take, joined_length, List.length_append, joined_length, byts_length, List.length_take]; omega
  · rw [List.length_take, joined_length] at hj
    have hl : (joined (l.take k)).length = 4 * k := by rw [joined_length, List.length_take]; omega
    rw [ix_take (by omega), joined_ix l j (by omega)]
    rcases Nat.lt_or_ge j (4 * k) with h | h
    · rw [ix_append_left (by omega), joined_ix _ _ (by rw [List.length_take]; omega)]
      unfold wbyte
      rw [ix_take (by omega)]
    · rw [ix_append_right (by omega), hl, byts_ix (by omega)]
      have := wbyte_at l (k := k) (m := j - 4 * k) (by omega)
      rw [show 4 * k + (j - 4 * k) = j from by omega] at this
      exact this
/-- the bytes between r and q are zero: so x is done at r just when it is done at q -/
def Pads (x : Int) (r q : Nat) : Prop := shr x r = 0 ↔ shr x q = 0
theorem Pads.step {x : Int} {r q : Nat} (h : Pads x r q) (hz : byt x q = 0) : Pads x r (q + 1) := by
  unfold Pads at *
  unfold byt at hz
  rw [h]
  simp only [shr]
  omega
theorem Pads.start {x : Int} {r : Nat} (hz : byt x r = 0) : Pads x r (r + 1) := Pads.step (Iff.rfl : Pads x r r) hz
theorem Pads.bad {x : Int} {r q : Nat} (h : Pads x r q) (hz : byt x q ≠ 0) : shr x r ≠ 0 := fun e => by
  have := h.1 e
  unfold byt at hz
  rw [this] at hz
  exact hz rfl
theorem Pads.fine {x : Int} {r : Nat} (h : Pads x r 4) (hx : 0 ≤ x ∧ x < 4294967296) : shr x r = 0 := by
  refine h.2 ?_
  simp only [shr]
  omega
theorem takeWhile_at (J : List Int) (h : (J.takeWhile (· != 0)).length < J.length) : ix J (J.takeWhile (· != 0)).length = 0 := by
  induction J with
  | nil => simp at h
  | cons x r ih =>
    by_cases hx : x = 0
    · subst hx; simp [ix]
    · rw [List.takeWhile_cons_of_pos (by simpa using hx)] at h ⊢
      simp only [List.length_cons] at h ⊢
      have := ih (by omega)
      simpa [ix] using this
theorem stop_le (l : List Int) : stop l ≤ 4 * l.length := by
  unfold stop
  rw [← joined_length]
  exact (List.takeWhile_sublist _).length_le
theorem NoZero.le_stop {l : List Int} {p : Nat} (h : NoZero l p) (hp : p ≤ 4 * l.length) : p ≤ stop l := by
  rcases Nat.lt_or_ge (stop l) p with hlt | hge
  · have hs : stop l < 4 * l.length := by omega
    have := takeWhile_at (joined l) (by rw [joined_length]; exact hs)
    rw [show (joined l |>.takeWhile (· != 0)).length = stop l from rfl, joined_ix l _ hs] at this
    exact absurd this (h _ hlt)
  · exact hge
theorem textN_le (l : List Int) : textN l ≤ (l.length : Int) := by
  unfold textN
  split
  · rename_i h
    have hs := stop_le l
    have hne : stop l ≠ 4 * l.length := fun e => by
      unfold textE at h
      rw [if_pos e] at h
      cases h
    omega
  · omega
theorem textN_nn (l : List Int) : 0 ≤ textN l := by
  unfold textN
  split <;> omega
end Go.Proofs.YtgdmbeamemdaiaaGreatDoor

namespace Go.Proofs.YtgdmbeamemdaiaaGreatDoor

/-- a text's bytes -/
def bl (s : ByteArray) : List Int := s.data.toList.map fun b => (b.toNat : Int)
theorem bl_length (s : ByteArray) : (bl s).length = s.size := by simp [bl]
theorem bl_ix (s : ByteArray) {k : Nat} (h : k < s.size) : ix (bl s) k = (s[k].toNat : Int) := by
  rw [ix_of (by rw [bl_length]; exact h)]
  simp [bl]
  rfl
theorem bl_under (s : ByteArray) : Under 256 (bl s) := fun x hx => by
  obtain ⟨b, _, rfl⟩ := List.mem_map.1 hx
  have := b.toNat_lt
  omega
/-- none of the first k is zero -/
def Full (l : List Int) (k : Nat) : Prop := ∀ j, j < k → ix l j ≠ 0
theorem Full.zero (l : List Int) : Full l 0 := fun j hj => by omega
theorem Full.succ {l : List Int} {k : Nat} (h : Full l k) (hk : ix l k ≠ 0) : Full l (k + 1) := fun j hj => by
  rcases Nat.lt_or_ge j k with hj' | hj'
  · exact h j hj'
  · obtain rfl : j = k := by omega
    exact hk

def roomOf (l : List Int) : Nat := l.length / 4 + 1
def ofE (l : List Int) : Int := if (0 : Int) ∈ l then 13 else if 65535 < roomOf l then 4 else 0
/-- the words that the first k bytes come to -/
def part (l : List Int) (k : Nat) : List Int := glue (mid l (4 * roomOf l) k) (roomOf l)
def ofW (l : List Int) : List Int := if ofE l = 0 then part l l.length else []
theorem of_nul {l : List Int} {k : Nat} (h : k < l.length) (h0 : ix l k = 0) : ofE l = 13 ∧ ofW l = [] := by
  have hm : (0 : Int) ∈ l := by rw [← h0]; exact ix_mem h
  have e : ofE l = 13 := by simp [ofE, hm]
  exact ⟨e, by simp [ofW, e]⟩
theorem full_mem {l : List Int} (h : Full l l.length) : ¬ (0 : Int) ∈ l := fun hm => by
  obtain ⟨k, hk, e⟩ := List.getElem_of_mem hm
  exact h k hk (by rw [ix_of hk]; exact e)
theorem of_large {l : List Int} (h : Full l l.length) (hr : 65535 < roomOf l) : ofE l = 4 ∧ ofW l = [] := by
  have e : ofE l = 4 := by simp [ofE, full_mem h, hr]
  exact ⟨e, by simp [ofW, e]⟩
theorem of_ok {l : List Int} (h : Full l l.length) (hr : ¬ 65535 < roomOf l) : ofE l = 0 ∧ ofW l = part l l.length := by
  have e : ofE l = 0 := by simp [ofE, full_mem h, hr]
  exact ⟨e, by simp [ofW, e]⟩
theorem mid_length {l : List Int} {n k : Nat} (hk : k ≤ n) (hk' : k ≤ l.length) : (mid l n k).length = n := by
  simp only [mid, List.length_append, List.length_take, List.length_replicate]; omega
theorem mid_under {l : List Int} (h : Under 256 l) (n k : Nat) : Under 256 (mid l n k) :=
  (h.take k).append fun x hx => by rw [(List.mem_replicate.1 hx).2]; omega
theorem mid_ix_lt {l : List Int} {n k j : Nat} (hj : j < k) (hk : k ≤ l.length) : ix (mid l n k) j = ix l j := by
  unfold mid
  rw [ix_append_left (by rw [List.length_take]; omega), ix_take hj]
theorem mid_ix_ge {l : List Int} {n k j : Nat} (hj : k ≤ j) (hk : k ≤ l.length) : ix (mid l n k) j = 0 := by
  unfold mid
  have hl : (l.take k).length = k := by rw [List.length_take]; omega
  rw [ix_append_right (by omega), hl]
  rcases Nat.lt_or_ge (j - k) (n - k) with h | h
  · exact ix_replicate h
  · exact ix_out (by simpa using h)
theorem part_length (l : List Int) (k : Nat) : (part l k).length = roomOf l := glue_length _ _
theorem part_under {l : List Int} (h : Under 256 l) (k : Nat) : Under 4294967296 (part l k) := glue_under (mid_under h _ _) _

theorem u32_join' (i : Nat) (x y : Int) (hx0 : 0 ≤ x) (hx : x % 2 ^ i = 0) (hx1 : x < 4294967296) (hy0 : 0 ≤ y) (hy : y < 2 ^ i) (hy1 : y < 4294967296) : bits .or .u32 y x = x + y := by
  rw [← u32_join i x y hx0 hx hx1 hy0 hy hy1]
  simp only [bits]
  rw [BitVec.or_comm]
/-- one byte more -/
theorem word_or {l : List Int} (h : Under 256 l) {n q r : Nat} (hr : r < 4) (hk : 4 * q + r < l.length) :
    bits .or .u32 (word (mid l n (4 * q + r)) (4 * q)) (ix l (4 * q + r) * 256 ^ r) = word (mid l n (4 * q + r + 1)) (4 * q) := by
  have b := h.ix (by decide) (4 * q + r)
  have c0 := h.ix (by decide) (4 * q); have c1 := h.ix (by decide) (4 * q + 1); have c2 := h.ix (by decide) (4 * q + 2)
  rw [word_eq, word_eq]
  match r, hr with
  | 0, _ =>
    simp only [Nat.add_zero] at *
    rw [mid_ix_ge (k := 4 * q) (j := 4 * q) (by omega) (by omega), mid_ix_ge (k := 4 * q) (j := 4 * q + 1) (by omega) (by omega), mid_ix_ge (k := 4 * q) (j := 4 * q + 2) (by omega) (by omega), mid_ix_ge (k := 4 * q) (j := 4 * q + 3) (by omega) (by omega),
      mid_ix_lt (k := 4 * q + 1) (j := 4 * q) (by omega) (by omega), mid_ix_ge (k := 4 * q + 1) (j := 4 * q + 1) (by omega) (by omega), mid_ix_ge (k := 4 * q + 1) (j := 4 * q + 2) (by omega) (by omega), mid_ix_ge (k := 4 * q + 1) (j := 4 * q + 3) (by omega) (by omega)]
    rw [u32_join' 0 _ _ (by omega) (by omega) (by omega) (by omega) (by omega) (by omega)]
    omega
  | 1, _ =>
    rw [mid_ix_lt (k := 4 * q + 1) (j := 4 * q) (by omega) (by omega), mid_ix_ge (k := 4 * q + 1) (j := 4 * q + 1) (by omega) (by omega), mid_ix_ge (k := 4 * q + 1) (j := 4 * q + 2) (by omega) (by omega), mid_ix_ge (k := 4 * q + 1) (j := 4 * q + 3) (by omega) (by omega),
      mid_ix_lt (k := 4 * q + 1 + 1) (j := 4 * q) (by omega) (by omega), mid_ix_lt (k := 4 * q + 1 + 1) (j := 4 * q + 1) (by omega) (by omega), mid_ix_ge (k := 4 * q + 1 + 1) (j := 4 * q + 2) (by omega) (by omega), mid_ix_ge (k := 4 * q + 1 + 1) (j := 4 * q + 3) (by omega) (by omega)]
    rw [u32_join' 8 _ _ (by omega) (by omega) (by omega) (by omega) (by omega) (by omega)]
    omega
  | 2, _ =>
    rw [mid_ix_lt (k := 4 * q + 2) (j := 4 * q) (by omega) (by omega), mid_ix_lt (k := 4 * q + 2) (j := 4 * q + 1) (by omega) (by omega), mid_ix_ge (k := 4 * q + 2) (j := 4 * q + 2) (by omega) (by omega), mid_ix_ge (k := 4 * q + 2) (j := 4 * q + 3) (by omega) (by omega),
      mid_ix_lt (k := 4 * q + 2 + 1) (j := 4 * q) (by omega) (by omega), mid_ix_lt (k := 4 * q + 2 + 1) (j := 4 * q + 1) (by omega) (by omega), mid_ix_lt (k := 4 * q + 2 + 1) (j := 4 * q + 2) (by omega) (by omega), mid_ix_ge (k := 4 * q + 2 + 1) (j := 4 * q + 3) (by omega) (by omega)]
    rw [u32_join' 16 _ _ (by omega) (by omega) (by omega) (by omega) (by omega) (by omega)]
    omega
  | 3, _ =>
    rw [mid_ix_lt (k := 4 * q + 3) (j := 4 * q) (by omega) (by omega), mid_ix_lt (k := 4 * q + 3) (j := 4 * q + 1) (by omega) (by omega), mid_ix_lt (k := 4 * q + 3) (j := 4 * q + 2) (by omega) (by omega), mid_ix_ge (k := 4 * q + 3) (j := 4 * q + 3) (by omega) (by omega),
      mid_ix_lt (k := 4 * q + 3 + 1) (j := 4 * q) (by omega) (by omega), mid_ix_lt (k := 4 * q + 3 + 1) (j := 4 * q + 1) (by omega) (by omega), mid_ix_lt (k := 4 * q + 3 + 1) (j := 4 * q + 2) (by omega) (by omega), mid_ix_lt (k := 4 * q + 3 + 1) (j := 4 * q + 3) (by omega) (by omega)]
    rw [u32_join' 24 _ _ (by omega) (by omega) (by omega) (by omega) (by omega) (by omega)]
    omega
theorem part_step {l : List Int} (h : Under 256 l) {q r : Nat} (hr : r < 4) (hk : 4 * q + r < l.length) :
    (part l (4 * q + r)).set q (bits .or .u32 (ix (part l (4 * q + r)) q) (ix l (4 * q + r) * 256 ^ r)) = part l (4 * q + r + 1) := by
  have hq : q < roomOf l := by unfold roomOf; omega
  refine ext_ix (by rw [List.length_set, part_length, part_length]) fun j hj => ?_
  rw [List.length_set, part_length] at hj
  have e1 : ix (part l (4 * q + r)) q = word (mid l (4 * roomOf l) (4 * q + r)) (4 * q) := glue_ix hq
  by_cases hjq : q = j
  · subst hjq
    rw [ix_set_same (by rw [part_length]; exact hq), e1, word_or h hr hk]
    exact (glue_ix hq).symm
  · rw [ix_set_other hjq]
    unfold part
    rw [glue_ix hj, glue_ix hj, word_eq, word_eq]
    have e : ∀ t, t < 4 → ix (mid l (4 * roomOf l) (4 * q + r)) (4 * j + t) = ix (mid l (4 * roomOf l) (4 * q + r + 1)) (4 * j + t) := fun t ht => by
      rcases Nat.lt_or_ge (4 * j + t) (4 * q + r) with h' | h'
      · rw [mid_ix_lt h' (by omega), mid_ix_lt (by omega) (by omega)]
      · rw [mid_ix_ge h' (by omega), mid_ix_ge (by omega) (by omega)]
    have e0 := e 0 (by omega)
    rw [Nat.add_zero] at e0
    rw [e0, e 1 (by omega), e 2 (by omega), e 3 (by omega)]
theorem part_zero (l : List Int) : part l 0 = List.replicate (roomOf l) 0 := by
  refine ext_ix (by rw [part_length, List.length_replicate]) fun j hj => ?_
  rw [part_length] at hj
  unfold part
  rw [glue_ix hj, word_eq, ix_replicate hj, mid_ix_ge (by omega) (by omega), mid_ix_ge (by omega) (by omega), mid_ix_ge (by omega) (by omega), mid_ix_ge (by omega) (by omega)]
  rfl
theorem shift_eq {x : Int} (h0 : 0 ≤ x) (h1 : x < 256) {r : Nat} (hr : r < 4) : x % 4294967296 * 2 ^ (8 * r) % 4294967296 = x * 256 ^ r := by
  match r, hr with
  | 0, _ => simp; omega
  | 1, _ => simp; omega
  | 2, _ => simp; omega
  | 3, _ => simp; omega
theorem part_step' {l : List Int} (h : Under 256 l) {k : Nat} (hk : k < l.length) :
    (part l k).set (k / 4) (bits .or .u32 (ix (part l k) (k / 4)) (ix l k % 4294967296 * 2 ^ (8 * (k % 4)) % 4294967296)) = part l (k + 1) := by
  have hx := h.ix (by decide) k
  have e : 4 * (k / 4) + k % 4 = k := by omega
  have hs := part_step h (q := k / 4) (r := k % 4) (by omega) (by rw [e]; exact hk)
  rw [e] at hs
  rw [shift_eq hx.1 hx.2 (by omega)]
  exact hs
theorem ofW_under {l : List Int} (h : Under 256 l) : Under 4294967296 (ofW l) := by
  unfold ofW
  split
  · exact part_under h _
  · exact Under.nil
theorem mid_full {l : List Int} {n : Nat} : mid l n l.length = l ++ List.replicate (n - l.length) 0 := by simp [mid]
theorem mid_set' {l : List Int} {n k : Nat} (hk : k < l.length) (hn : k < n) : (mid l n k).set k (ix l k) = mid l n (k + 1) := by
  refine ext_ix (by rw [List.length_set, mid_length (by omega) (by omega), mid_length (by omega) (by omega)]) fun j hj => ?_
  rw [List.length_set, mid_length (by omega) (by omega)] at hj
  by_cases e : k = j
  · subst e
    rw [ix_set_same (by rw [mid_length (by omega) (by omega)]; exact hn), mid_ix_lt (by omega) (by omega)]
  · rw [ix_set_other e]
    rcases Nat.lt_or_ge j k with h | h
    · rw [mid_ix_lt h (by omega), mid_ix_lt (by omega) (by omega)]
    · rw [mid_ix_ge h (by omega), mid_ix_ge (by omega) (by omega)]
theorem ofW_length (l : List Int) : (ofW l).length ≤ l.length + 1 := by
  unfold ofW
  split
  · rw [part_length]; unfold roomOf; omega
  · simp
end Go.Proofs.YtgdmbeamemdaiaaGreatDoor
