/- What a module's words are read as is one thing. No program is named. -/
import Derived.Test.YtppkjejdkogfpaaFrameLaw
import Derived.Test.YtppkjejdkogfpaaWriteLaw
namespace Go.Proofs.Ytppkjejdkogfpaa
open Go.RowKit

theorem Goes.one {ws : List Int} {p e e' : Nat} {l l' : List (Nat × Ins)} (h : Goes ws p l e) (h' : Goes ws p l' e') : l = l' ∧ e = e' := by
  induction h generalizing l' e' with
  | stop hn =>
    cases h' with
    | stop _ => exact ⟨rfl, rfl⟩
    | step hc _ => exact absurd hc hn
  | step hc _ ih =>
    cases h' with
    | stop hn => exact absurd hc hn
    | step _ hg => obtain ⟨rfl, rfl⟩ := ih hg; exact ⟨rfl, rfl⟩
theorem headBad_not {ws : List Int} {k : Nat} {e : Int} (h : HeadBad ws k e) (m : Nat) (hm : k < m) : ¬ HeadTo ws m := fun ht => by
  obtain ⟨h1, h2⟩ := ht k hm
  rcases h.2.2 with ⟨h3, _⟩ | ⟨_, h4, h5⟩
  · omega
  · exact h5 (h4.trans h2)
theorem HeadBad.one {ws : List Int} {k k' : Nat} {e e' : Int} (h : HeadBad ws k e) (h' : HeadBad ws k' e') : k = k' ∧ e = e' := by
  have e1 : k = k' := by
    rcases Nat.lt_trichotomy k k' with hlt | heq | hgt
    · exact absurd h'.2.1 (headBad_not h k' hlt)
    · exact heq
    · exact absurd h.2.1 (headBad_not h' k hgt)
  subst e1
  refine ⟨rfl, ?_⟩
  rcases h.2.2 with ⟨a1, rfl⟩ | ⟨a1, rfl, _⟩ <;> rcases h'.2.2 with ⟨b1, rfl⟩ | ⟨b1, rfl, _⟩
  · rfl
  · omega
  · omega
  · rfl
theorem ReadTo.one {ws : List Int} {g b g' b' er er' : Int} {l l' : List Ins} {p p' : Nat} (h : ReadTo ws g b l er p) (h' : ReadTo ws g' b' l' er' p') : g = g' ∧ b = b' ∧ l = l' ∧ er = er' ∧ p = p' := by
  cases h with
  | large h1 =>
    cases h' with
    | large _ => exact ⟨rfl, rfl, rfl, rfl, rfl⟩
    | head h2 _ => omega
    | count h2 _ _ _ => omega
    | ok h2 _ _ _ => omega
  | head h1 hb =>
    cases h' with
    | large h2 => omega
    | head _ hb' => obtain ⟨rfl, rfl⟩ := hb.one hb'; exact ⟨rfl, rfl, rfl, rfl, rfl⟩
    | count _ ht _ _ => exact absurd ht (headBad_not hb 5 hb.1)
    | ok _ ht _ _ => exact absurd ht (headBad_not hb 5 hb.1)
  | count h1 ht hg hp =>
    cases h' with
    | large h2 => omega
    | head _ hb => exact absurd ht (headBad_not hb 5 hb.1)
    | count _ _ hg' _ => obtain ⟨_, rfl⟩ := hg.one hg'; exact ⟨rfl, rfl, rfl, rfl, rfl⟩
    | ok _ _ hg' hp' => obtain ⟨_, rfl⟩ := hg.one hg'; exact absurd hp hp'
  | ok h1 ht hg hp =>
    cases h' with
    | large h2 => omega
    | head _ hb => exact absurd ht (headBad_not hb 5 hb.1)
    | count _ _ hg' hp' => obtain ⟨_, rfl⟩ := hg.one hg'; exact absurd hp' hp
    | ok _ _ hg' _ => obtain ⟨rfl, rfl⟩ := hg.one hg'; exact ⟨rfl, rfl, rfl, rfl, rfl⟩

/-- a head alone -/
theorem readTo_head {b : Int} (h0 : b ≠ 0) (h1 : b ≤ 65536) : ReadTo (headW 0 b) 0 b [] 0 0 := by
  have hh : HeadTo (headW 0 b) 5 := fun j hj => by
    refine ⟨by simpa [headW] using hj, ?_⟩
    have hj' : j = 0 ∨ j = 1 ∨ j = 2 ∨ j = 3 ∨ j = 4 := by omega
    rcases hj' with rfl | rfl | rfl | rfl | rfl <;> simp [headW, wrongW, ix]
    omega
  have hg : Goes (headW 0 b) 5 [] 5 := Goes.nil_of_le (by simp [headW])
  have h := ReadTo.ok (ws := headW 0 b) (by simp [headW]) hh hg (by simp [headW])
  simpa [headW, ix] using h
end Go.Proofs.Ytppkjejdkogfpaa
