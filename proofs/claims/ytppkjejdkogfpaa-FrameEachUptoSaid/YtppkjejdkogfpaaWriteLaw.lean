/- How instructions are written, and what may not be. No program is named. -/
import Derived.Test.YtppkjejdkogfpaaFrameLaw
namespace Go.Proofs.Ytppkjejdkogfpaa
open Go.RowKit

/-- how many words instructions take -/
def sz : List Ins → Nat
  | [] => 0
  | x :: r => 1 + x.2.length + sz r
def insK (l : List Ins) (k : Nat) : Ins := l.getD k (0, [])
theorem insK_of {l : List Ins} {k : Nat} (h : k < l.length) : insK l k = l[k] := by simp [insK, List.getD, h]
theorem sz_append (l r : List Ins) : sz (l ++ r) = sz l + sz r := by
  induction l with
  | nil => simp [sz]
  | cons x t ih => simp only [List.cons_append, sz, ih]; omega
theorem take_succ_ {l : List Ins} {k : Nat} (h : k < l.length) : l.take (k + 1) = l.take k ++ [insK l k] := by
  rw [insK_of h, List.take_succ_eq_append_getElem h]
theorem sz_take {l : List Ins} {k : Nat} (h : k < l.length) : sz (l.take (k + 1)) = sz (l.take k) + (1 + (insK l k).2.length) := by
  rw [take_succ_ h, sz_append]
  simp [sz]
theorem sz_take_le (l : List Ins) (k : Nat) : sz (l.take k) ≤ sz l := by
  have h := sz_append (l.take k) (l.drop k)
  rw [List.take_append_drop] at h
  omega
theorem sz_len (l : List Ins) : l.length ≤ sz l := by
  induction l with
  | nil => simp
  | cons x t ih => simp only [List.length_cons, sz]; omega
/-- up to k nothing is too much -/
def FaultTo (l : List Ins) (k : Nat) : Prop := ∀ j, j < k → (insK l j).2.length < 65535 ∧ 5 + sz (l.take (j + 1)) ≤ 1048576
/-- at i there is too much -/
def FaultAt (l : List Ins) (i : Nat) (e : Int) : Prop := i < l.length ∧ FaultTo l i ∧ ((65535 ≤ (insK l i).2.length ∧ e = 25) ∨ ((insK l i).2.length < 65535 ∧ 1048576 < 5 + sz (l.take (i + 1)) ∧ e = 4))
theorem FaultTo.zero (l : List Ins) : FaultTo l 0 := fun j hj => by omega
theorem FaultTo.succ {l : List Ins} {k : Nat} (h : FaultTo l k) (h1 : (insK l k).2.length < 65535) (h2 : 5 + sz (l.take (k + 1)) ≤ 1048576) : FaultTo l (k + 1) := fun j hj => by
  rcases Nat.lt_or_ge j k with h' | h'
  · exact h j h'
  · obtain rfl : j = k := by omega
    exact ⟨h1, h2⟩
theorem FaultTo.le {l : List Ins} {k : Nat} (h : FaultTo l k) (hk : k ≤ l.length) : 5 + sz (l.take k) ≤ 1048576 := by
  rcases Nat.eq_zero_or_pos k with rfl | h0
  · simp [sz]
  · have := (h (k - 1) (by omega)).2
    rwa [show k - 1 + 1 = k from by omega] at this
theorem FaultTo.at_ {l : List Ins} (h : FaultTo l l.length) : ∀ x ∈ l, x.2.length < 65535 := fun x hx => by
  obtain ⟨i, hi, e⟩ := List.getElem_of_mem hx
  have := (h i hi).1
  rwa [insK_of hi, e] at this
theorem FaultTo.all {l : List Ins} (h : FaultTo l l.length) : 5 + sz l ≤ 1048576 := by
  have := h.le (Nat.le_refl _)
  rwa [List.take_length] at this
theorem faultAt_not {l : List Ins} {i : Nat} {e : Int} (h : FaultAt l i e) (k : Nat) (hk : i < k) : ¬ FaultTo l k := fun hf => by
  have := hf i hk
  rcases h.2.2 with h' | h'
  · omega
  · omega
theorem faultAt_one {l : List Ins} {i i' : Nat} {e e' : Int} (h : FaultAt l i e) (h' : FaultAt l i' e') : i = i' ∧ e = e' := by
  have e1 : i = i' := by
    rcases Nat.lt_trichotomy i i' with hlt | heq | hgt
    · exact absurd h'.2.1 (faultAt_not h i' hlt)
    · exact heq
    · exact absurd h.2.1 (faultAt_not h' i hgt)
  subst e1
  refine ⟨rfl, ?_⟩
  rcases h.2.2 with ⟨h1, rfl⟩ | ⟨h1, _, rfl⟩ <;> rcases h'.2.2 with ⟨h2, rfl⟩ | ⟨h2, _, rfl⟩
  · rfl
  · omega
  · omega
  · rfl
theorem fault_any (l : List Ins) : FaultTo l l.length ∨ ∃ i e, FaultAt l i e := by
  have step : ∀ m k, k + m = l.length → FaultTo l k → FaultTo l l.length ∨ ∃ i e, FaultAt l i e := by
    intro m
    induction m with
    | zero => intro k hk h; rw [show k = l.length from by omega] at h; exact .inl h
    | succ m ih =>
      intro k hk h
      rcases Nat.lt_or_ge (insK l k).2.length 65535 with h1 | h1
      · rcases Nat.lt_or_ge 1048576 (5 + sz (l.take (k + 1))) with h2 | h2
        · exact .inr ⟨k, 4, by omega, h, .inr ⟨h1, h2, rfl⟩⟩
        · exact ih (k + 1) (by omega) (h.succ h1 h2)
      · exact .inr ⟨k, 25, by omega, h, .inl ⟨h1, rfl⟩⟩
  exact step l.length 0 (by omega) (FaultTo.zero l)
/-- an instruction's words, and those of many -/
def encI (x : Ins) : List Int := (((x.2.length + 1 : Nat) : Int) * 65536 + x.1) :: x.2
def encL (l : List Ins) : List Int := l.flatMap encI
theorem encL_snoc (l : List Ins) (x : Ins) : encL (l ++ [x]) = encL l ++ encI x := by simp [encL]
theorem encL_length : ∀ l : List Ins, (encL l).length = sz l
  | [] => rfl
  | x :: r => by
    have h := encL_length r
    simp only [encL, List.flatMap_cons, List.length_append, sz, encI, List.length_cons] at h ⊢
    omega
def headW (g b : Int) : List Int := [119734787, 65536, g, b, 0]
/-- a module's words -/
def modW (g b : Int) (l : List Ins) : List Int := headW g b ++ encL l
theorem modW_length (g b : Int) (l : List Ins) : (modW g b l).length = 5 + sz l := by simp [modW, headW, encL_length]; omega
end Go.Proofs.Ytppkjejdkogfpaa
