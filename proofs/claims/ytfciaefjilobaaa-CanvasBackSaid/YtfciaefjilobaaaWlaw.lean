/- Plain: words and their bytes. No program. -/
import Derived.Test.YtfciaefjilobaaaMem
namespace Go.Proofs.Ytfciaefjilobaaa

/-- x without its last j bytes -/
def shr (x : Int) : Nat → Int
  | 0 => x
  | j + 1 => shr x j / 256
/-- the j-th byte of a word -/
def byt (x : Int) (j : Nat) : Int := shr x j % 256
/-- the first m bytes of a word -/
def byts (x : Int) : Nat → List Int
  | 0 => []
  | m + 1 => byts x m ++ [byt x m]
/-- the bytes of words -/
def joined (l : List Int) : List Int := l.flatMap fun x => byts x 4

theorem byts_length (x : Int) (m : Nat) : (byts x m).length = m := by induction m with
  | zero => rfl
  | succ m ih => simp [byts, ih]
theorem joined_length (l : List Int) : (joined l).length = 4 * l.length := by
  induction l with
  | nil => rfl
  | cons x r ih => simp only [joined, List.flatMap_cons, List.length_append, byts_length, List.length_cons] at ih ⊢; omega
theorem joined_nil : joined [] = [] := rfl
theorem joined_snoc (l : List Int) (x : Int) : joined (l ++ [x]) = joined l ++ byts x 4 := by simp [joined]
theorem joined_take_succ {l : List Int} {k : Nat} (h : k < l.length) : joined (l.take (k + 1)) = joined (l.take k) ++ byts (ix l k) 4 := by
  rw [take_snoc_ix h, joined_snoc]
theorem shr_bd {x : Int} (h : 0 ≤ x ∧ x < 4294967296) (j : Nat) : 0 ≤ shr x j ∧ shr x j < 4294967296 := by
  induction j with
  | zero => exact h
  | succ j ih => simp only [shr]; omega
theorem byt_bd (x : Int) (j : Nat) : 0 ≤ byt x j ∧ byt x j < 256 := by unfold byt; omega
theorem byts_under (x : Int) (m : Nat) : Under 256 (byts x m) := by
  induction m with
  | zero => exact Under.nil
  | succ m ih => exact ih.append (Under.one (byt_bd x m).1 (byt_bd x m).2)
theorem joined_under (l : List Int) : Under 256 (joined l) := fun y hy => by
  obtain ⟨x, _, hx⟩ := List.mem_flatMap.1 hy
  exact byts_under x 4 y hx
/-- the k-th byte of words -/
def wbyte (l : List Int) (k : Nat) : Int := byt (ix l (k / 4)) (k % 4)
theorem wbyte_bd (l : List Int) (k : Nat) : 0 ≤ wbyte l k ∧ wbyte l k < 256 := byt_bd _ _
theorem byts_ix {x : Int} {m j : Nat} (h : j < m) : ix (byts x m) j = byt x j := by
  induction m with
  | zero => omega
  | succ m ih =>
    rw [byts]
    rcases Nat.lt_or_ge j m with hj | hj
    · rw [ix_append_left (by rw [byts_length]; exact hj), ih hj]
    · obtain rfl : j = m := by omega
      rw [ix_append_right (by rw [byts_length]; omega), byts_length, Nat.sub_self]
      simp [ix]
theorem joined_ix (l : List Int) : ∀ k, k < 4 * l.length → ix (joined l) k = wbyte l k := by
  induction l with
  | nil => intro k hk; simp at hk
  | cons x r ih =>
    intro k hk
    have e : joined (x :: r) = byts x 4 ++ joined r := by simp [joined]
    rw [e]
    rcases Nat.lt_or_ge k 4 with h4 | h4
    · rw [ix_append_left (by rw [byts_length]; exact h4), byts_ix h4]
      unfold wbyte
      rw [show k / 4 = 0 from by omega, show k % 4 = k from by omega]
      rfl
    · rw [ix_append_right (by rw [byts_length]; exact h4), byts_length, ih (k - 4) (by simp only [List.length_cons] at hk; omega)]
      unfold wbyte
      rw [show (k - 4) % 4 = k % 4 from by omega, show k / 4 = (k - 4) / 4 + 1 from by omega]
      simp [ix]
theorem wbyte_one {x : Int} {m : Nat} (h : m < 4) : wbyte [x] m = byt x m := by
  unfold wbyte
  rw [show m / 4 = 0 from by omega, show m % 4 = m from by omega]
  rfl
end Go.Proofs.Ytfciaefjilobaaa
