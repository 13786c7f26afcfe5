/- Plain: the text at the front of words. No program. -/
import Derived.Test.YtmcilcgpaokifaaSplitLaw
import Derived.Laws.IdiomStrings
namespace Go.Proofs.Ytmcilcgpaokifaa
open Go.RowKit Go.WideShapes

def toU8 (l : List Int) : List UInt8 := l.map fun x => UInt8.ofNat x.toNat
/-- bytes as a text -/
def str (l : List Int) : ByteArray := ⟨(toU8 l).toArray⟩
theorem str_nil : str [] = ⟨#[]⟩ := rfl
theorem toU8_length (l : List Int) : (toU8 l).length = l.length := by simp [toU8]

theorem conv_text {P : Program} {w : World} {src dst e : TypeId} {base n c : Nat} {A : Option Addr} {l : List Int} (hs : P.underlying src = some (.slice e)) (he : P.underlying e = some (.int .u8)) (hd : P.underlying dst = some .string)
    (ho : w.ownsRow base e 1 (.slice A n c) n (Ints .u8 l)) (hu : Under 256 l) : (convert src dst (.slice A n c)).run P w = .ok (.string (str l)) w := by
  have hl := own_len ho
  rcases Nat.eq_zero_or_pos n with h0 | h0
  · subst h0
    have h : l = [] := List.eq_nil_of_length_eq_zero hl
    subst h
    rcases A with _ | a
    · rw [run_convert_bytes_string w src dst e none 0 c hs he hd]
      rfl
    · exact run_convert_bytes_back w src dst e a c [] hs he hd (fun j hj => by simp at hj)
  · obtain ⟨g, cap, hv, _⟩ := ho.form h0
    cases hv
    have hb := run_convert_bytes_back (P := P) w src dst e ⟨g, 0, none⟩ c (toU8 l) hs he hd (fun j hj => by
      have hj' : j < l.length := by rwa [toU8_length] at hj
      have hx := hu.ix (by decide) j
      rw [add_plain, Nat.zero_add, own_int_at ho (by omega)]
      congr 2
      simp only [toU8, List.getElem_map]
      rw [← ix_of hj', UInt8.toNat_ofNat']
      omega)
    rw [toU8_length, hl] at hb
    exact hb

/-- where the first zero byte stands -/
def stop (l : List Int) : Nat := ((joined l).takeWhile (· != 0)).length
def textE (l : List Int) : Int := if stop l = 4 * l.length then 11 else if shr (ix l (stop l / 4)) (stop l % 4) ≠ 0 then 12 else 0
def textN (l : List Int) : Int := if textE l = 0 then (stop l / 4 + 1 : Nat) else 0
def textS (l : List Int) : List Int := if textE l = 0 then (joined l).take (stop l) else []

theorem takeWhile_stop (J : List Int) (p : Nat) (hp : p ≤ J.length) (h : ∀ k, k < p → ix J k ≠ 0) (he : p = J.length ∨ ix J p = 0) : (J.takeWhile (· != 0)).length = p := by
  induction J generalizing p with
  | nil => simp at hp; subst hp; rfl
  | cons x r ih =>
    rcases p with _ | p
    · rcases he with he | he
      · simp at he
      · simp [ix] at he
        subst he
        simp
    · have hx : x ≠ 0 := by have := h 0 (by omega); simpa [ix] using this
      rw [List.takeWhile_cons_of_pos (by simpa using hx), List.length_cons, ih p (by simpa using hp) (fun k hk => by have := h (k + 1) (by omega); simpa [ix] using this)
        (by rcases he with he | he
            · left; simpa using he
            · right; simpa [ix] using he)]
theorem stop_eq {l : List Int} {p : Nat} (hp : p ≤ 4 * l.length) (h : ∀ k, k < p → wbyte l k ≠ 0) (he : p = 4 * l.length ∨ wbyte l p = 0) : stop l = p := by
  refine takeWhile_stop _ p (by rw [joined_length]; exact hp) (fun k hk => by rw [joined_ix l k (by omega)]; exact h k hk) ?_
  rcases he with he | he
  · left; rw [joined_length]; exact he
  · rcases Nat.lt_or_ge p (4 * l.length) with h' | h'
    · right; rw [joined_ix l p h']; exact he
    · left; rw [joined_length]; omega

/-- what a text answers -/
def Texts (l : List Int) (w : World) (e : Ending) (w' : World) : Prop :=
  e = .returned (.tuple #[.string (str (textS l)), .int .i64 (textN l), .int .i64 (textE l)]) ∧ Below w.heap.size w w'

theorem text_none {l : List Int} (h : ∀ k, k < 4 * l.length → wbyte l k ≠ 0) : textE l = 11 ∧ textN l = 0 ∧ textS l = [] := by
  have hs : stop l = 4 * l.length := stop_eq (Nat.le_refl _) h (.inl rfl)
  have e : textE l = 11 := by simp [textE, hs]
  exact ⟨e, by simp [textN, e], by simp [textS, e]⟩
theorem text_pad {l : List Int} {p : Nat} (hp : p < 4 * l.length) (h : ∀ k, k < p → wbyte l k ≠ 0) (he : wbyte l p = 0) (hx : shr (ix l (p / 4)) (p % 4) ≠ 0) : textE l = 12 ∧ textN l = 0 ∧ textS l = [] := by
  have hs : stop l = p := stop_eq (by omega) h (.inr he)
  have e : textE l = 12 := by unfold textE; rw [hs, if_neg (by omega), if_pos hx]
  exact ⟨e, by simp [textN, e], by simp [textS, e]⟩
theorem text_ok {l : List Int} {p : Nat} (hp : p < 4 * l.length) (h : ∀ k, k < p → wbyte l k ≠ 0) (he : wbyte l p = 0) (hx : shr (ix l (p / 4)) (p % 4) = 0) : textE l = 0 ∧ textN l = (p / 4 + 1 : Nat) ∧ textS l = (joined l).take p := by
  have hs : stop l = p := stop_eq (by omega) h (.inr he)
  have e : textE l = 0 := by unfold textE; rw [hs, if_neg (by omega), if_neg (by simpa using hx)]
  exact ⟨e, by simp [textN, e, hs], by simp [textS, e, hs]⟩
theorem Texts.mk {l : List Int} {w w' : World} {s : List Int} {n e : Int} (h : textE l = e ∧ textN l = n ∧ textS l = s) (hb : Below w.heap.size w w') : Texts l w (.returned (.tuple #[.string (str s), .int .i64 n, .int .i64 e])) w' := by
  refine ⟨?_, hb⟩
  rw [h.1, h.2.1, h.2.2]
/-- none of the first p bytes is zero -/
def NoZero (l : List Int) (p : Nat) : Prop := ∀ k, k < p → wbyte l k ≠ 0
theorem NoZero.zero (l : List Int) : NoZero l 0 := fun k hk => by omega
theorem NoZero.succ {l : List Int} {p : Nat} (h : NoZero l p) (hp : wbyte l p ≠ 0) : NoZero l (p + 1) := fun k hk => by
  rcases Nat.lt_or_ge k p with hk' | hk'
  · exact h k hk'
  · obtain rfl : k = p := by omega
    exact hp
theorem wbyte_at (l : List Int) {k m : Nat} (hm : m < 4) : wbyte l (4 * k + m) = byt (ix l k) m := by
  unfold wbyte
  rw [show (4 * k + m) / 4 = k from by omega, show (4 * k + m) % 4 = m from by omega]
theorem byts_take (x : Int) {m q : Nat} (h : m ≤ q) : (byts x q).take m = byts x m := by
  refine ext_ix (by rw [List.length_take, byts_length, byts_length]; omega) fun j hj => ?_
  rw [List.length_take, byts_length] at hj
  rw [ix_take (by omega), byts_ix (by omega), byts_ix (by omega)]
theorem joined_take (l : List Int) {k m : Nat} (hk : k < l.length) (hm : m ≤ 4) : (joined l).take (4 * k + m) = joined (l.take k) ++ byts (ix l k) m := by
  refine ext_ix ?_ fun j hj => ?_
  · rw [List.length_take, joined_length, List.length_append, joined_length, byts_length, List.length_take]; omega
  · rw [List.length_take, joined_length] at hj
    have hl : (joined (l.take k)).length = 4 * k := by rw [joined_length, List.length_take]; omega
    rw [ix_take (by omega), joined_ix l j (by omega)]
    rcases Nat.lt_or_ge j (4 * k) with h | h
    · rw [ix_append_left (by omega), joined_ix _ _ (by rw [List.length_take]; omega)]
      unfold wbyte
      rw [ix_take (by omega)]
    · rw [ix_append_right (by omega), hl, byts_ix (by omega)]
      have := wbyte_at l (k := k) (m := j - 4 * k) (by omega)
      rw [show 4 * k + (j - 4 * k) = j from by omega] at this
      exact this
/-- the bytes between r and q are zero: so x is done at r just when it is done at q -/
def Pads (x : Int) (r q : Nat) : Prop := shr x r = 0 ↔ shr x q = 0
theorem Pads.step {x : Int} {r q : Nat} (h : Pads x r q) (hz : byt x q = 0) : Pads x r (q + 1) := by
  unfold Pads at *
  unfold byt at hz
  rw [h]
  simp only [shr]
  omega
theorem Pads.start {x : Int} {r : Nat} (hz : byt x r = 0) : Pads x r (r + 1) := Pads.step (Iff.rfl : Pads x r r) hz
theorem Pads.bad {x : Int} {r q : Nat} (h : Pads x r q) (hz : byt x q ≠ 0) : shr x r ≠ 0 := fun e => by
  have := h.1 e
  unfold byt at hz
  rw [this] at hz
  exact hz rfl
theorem Pads.fine {x : Int} {r : Nat} (h : Pads x r 4) (hx : 0 ≤ x ∧ x < 4294967296) : shr x r = 0 := by
  refine h.2 ?_
  simp only [shr]
  omega
theorem takeWhile_at (J : List Int) (h : (J.takeWhile (· != 0)).length < J.length) : ix J (J.takeWhile (· != 0)).length = 0 := by
  induction J with
  | nil => simp at h
  | cons x r ih =>
    by_cases hx : x = 0
    · subst hx; simp [ix]
    · rw [List.takeWhile_cons_of_pos (by simpa using hx)] at h ⊢
      simp only [List.length_cons] at h ⊢
      have := ih (by omega)
      simpa [ix] using this
theorem stop_le (l : List Int) : stop l ≤ 4 * l.length := by
  unfold stop
  rw [← joined_length]
  exact (List.takeWhile_sublist _).length_le
theorem NoZero.le_stop {l : List Int} {p : Nat} (h : NoZero l p) (hp : p ≤ 4 * l.length) : p ≤ stop l := by
  rcases Nat.lt_or_ge (stop l) p with hlt | hge
  · have hs : stop l < 4 * l.length := by omega
    have := takeWhile_at (joined l) (by rw [joined_length]; exact hs)
    rw [show (joined l |>.takeWhile (· != 0)).length = stop l from rfl, joined_ix l _ hs] at this
    exact absurd this (h _ hlt)
  · exact hge
theorem textN_le (l : List Int) : textN l ≤ (l.length : Int) := by
  unfold textN
  split
  · rename_i h
    have hs := stop_le l
    have hne : stop l ≠ 4 * l.length := fun e => by
      unfold textE at h
      rw [if_pos e] at h
      cases h
    omega
  · omega
theorem textN_nn (l : List Int) : 0 ≤ textN l := by
  unfold textN
  split <;> omega
end Go.Proofs.Ytmcilcgpaokifaa
