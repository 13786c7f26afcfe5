/- Modules as plain lists: instructions behind a head; what is wrong with a head; how instructions are written. No program is named. -/
import Derived.Test.YtppkjejdkogfpaaOff
namespace Go.Proofs.Ytppkjejdkogfpaa
open Go.RowKit

/-- an instruction: its operation and its words -/
abbrev Ins := Int × List Int
/-- how many words the instruction says that it has -/
def cntW (x : Int) : Nat := (x / 65536).toNat
/-- there is an instruction at a place -/
def can (ws : List Int) (p : Nat) : Prop := p < ws.length ∧ cntW (ix ws p) ≠ 0 ∧ cntW (ix ws p) ≤ ws.length - p
/-- the instruction at a place -/
def insAt (ws : List Int) (p : Nat) : Ins := (ix ws p % 65536, (ws.drop (p + 1)).take (cntW (ix ws p) - 1))
/-- from p on stand these instructions; there they end -/
inductive Goes (ws : List Int) : Nat → List (Nat × Ins) → Nat → Prop
  | stop {p : Nat} : ¬ can ws p → Goes ws p [] p
  | step {p e : Nat} {l : List (Nat × Ins)} : can ws p → Goes ws (p + cntW (ix ws p)) l e → Goes ws p ((p, insAt ws p) :: l) e
theorem Goes.exists_ (ws : List Int) : ∀ (m p : Nat), ws.length - p ≤ m → ∃ l e, Goes ws p l e
  | 0, p, h => ⟨[], p, .stop (fun hc => by have := hc.1; omega)⟩
  | m + 1, p, h => by
    by_cases hc : can ws p
    · obtain ⟨l, e, hg⟩ := Goes.exists_ ws m (p + cntW (ix ws p)) (by have h1 := hc.1; have h2 := hc.2.1; omega)
      exact ⟨_, e, .step hc hg⟩
    · exact ⟨[], p, .stop hc⟩
theorem Goes.any (ws : List Int) (p : Nat) : ∃ l e, Goes ws p l e := Goes.exists_ ws _ p (Nat.le_refl _)
theorem insAt_length {ws : List Int} {p : Nat} (h : can ws p) : (insAt ws p).2.length + 1 = cntW (ix ws p) := by
  obtain ⟨h1, h2, h3⟩ := h
  simp only [insAt, List.length_take, List.length_drop]
  omega
theorem Goes.len {ws : List Int} {p e : Nat} {l : List (Nat × Ins)} (h : Goes ws p l e) : l.length ≤ ws.length - p := by
  induction h with
  | stop _ => simp
  | step hc _ ih => have h1 := hc.1; have h2 := hc.2.1; simp only [List.length_cons]; omega
theorem Goes.le {ws : List Int} {p e : Nat} {l : List (Nat × Ins)} (h : Goes ws p l e) : p ≤ e ∧ (p ≤ ws.length → e ≤ ws.length) := by
  induction h with
  | stop _ => exact ⟨Nat.le_refl _, id⟩
  | step hc _ ih => have h1 := hc.1; have h2 := hc.2.1; have h3 := hc.2.2; refine ⟨by omega, fun _ => ih.2 (by omega)⟩
theorem Goes.nil_of_le {ws : List Int} {p : Nat} (h : ws.length ≤ p) : Goes ws p [] p := .stop (fun hc => by have := hc.1; omega)

/-- what is wrong with a word of the head, by its place -/
def wrongW (k : Nat) (x : Int) : Int :=
  if k = 0 then (if x = 50471687 then 21 else if x ≠ 119734787 then 20 else 0)
  else if k = 1 then (if x ≠ 65536 then 22 else 0)
  else if k = 3 then (if x = 0 ∨ 65536 < x then 24 else 0)
  else if k = 4 then (if x ≠ 0 then 23 else 0)
  else 0
/-- up to k the head is well -/
def HeadTo (ws : List Int) (k : Nat) : Prop := ∀ j, j < k → j < ws.length ∧ wrongW j (ix ws j) = 0
/-- at k the head is wrong -/
def HeadBad (ws : List Int) (k : Nat) (e : Int) : Prop := k < 5 ∧ HeadTo ws k ∧ ((ws.length ≤ k ∧ e = 14) ∨ (k < ws.length ∧ e = wrongW k (ix ws k) ∧ e ≠ 0))
theorem HeadTo.zero (ws : List Int) : HeadTo ws 0 := fun j hj => by omega
theorem HeadTo.succ {ws : List Int} {k : Nat} (h : HeadTo ws k) (h1 : k < ws.length) (h2 : wrongW k (ix ws k) = 0) : HeadTo ws (k + 1) := fun j hj => by
  rcases Nat.lt_or_ge j k with h' | h'
  · exact h j h'
  · obtain rfl : j = k := by omega
    exact ⟨h1, h2⟩
theorem head_any (ws : List Int) : HeadTo ws 5 ∨ ∃ k e, HeadBad ws k e := by
  have step : ∀ m k, k + m = 5 → HeadTo ws k → HeadTo ws 5 ∨ ∃ k e, HeadBad ws k e := by
    intro m
    induction m with
    | zero => intro k hk h; rw [show k = 5 from by omega] at h; exact .inl h
    | succ m ih =>
      intro k hk h
      rcases Nat.lt_or_ge k ws.length with hl | hl
      · by_cases hw : wrongW k (ix ws k) = 0
        · exact ih (k + 1) (by omega) (h.succ hl hw)
        · exact .inr ⟨k, _, by omega, h, .inr ⟨hl, rfl, hw⟩⟩
      · exact .inr ⟨k, 14, by omega, h, .inl ⟨hl, rfl⟩⟩
  exact step 5 0 rfl (HeadTo.zero ws)
/-- what a module's words are read as: the head's two, the instructions, what is wrong and where -/
inductive ReadTo (ws : List Int) : Int → Int → List Ins → Int → Nat → Prop
  | large : 1048576 < ws.length → ReadTo ws 0 0 [] 4 1048576
  | head {k : Nat} {e : Int} : ws.length ≤ 1048576 → HeadBad ws k e → ReadTo ws 0 0 [] e k
  | count {l : List (Nat × Ins)} {p : Nat} : ws.length ≤ 1048576 → HeadTo ws 5 → Goes ws 5 l p → p < ws.length → ReadTo ws 0 0 [] 25 p
  | ok {l : List (Nat × Ins)} {p : Nat} : ws.length ≤ 1048576 → HeadTo ws 5 → Goes ws 5 l p → ¬ p < ws.length → ReadTo ws (ix ws 2) (ix ws 3) (l.map (·.2)) 0 0
theorem ReadTo.any (ws : List Int) : ∃ g b l e p, ReadTo ws g b l e p := by
  rcases Nat.lt_or_ge 1048576 ws.length with h | h
  · exact ⟨_, _, _, _, _, .large h⟩
  rcases head_any ws with hh | ⟨k, e, hh⟩
  · obtain ⟨l, p, hg⟩ := Goes.any ws 5
    by_cases hp : p < ws.length
    · exact ⟨_, _, _, _, _, .count h hh hg hp⟩
    · exact ⟨_, _, _, _, _, .ok h hh hg hp⟩
  · exact ⟨_, _, _, _, _, .head h hh⟩
end Go.Proofs.Ytppkjejdkogfpaa
