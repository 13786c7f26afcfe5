/- Plain: what a picture's words tell, or where they go wrong. No program. -/
import Derived.Test.YtfciaefjilobaaaPix
namespace Go.Proofs.Ytfciaefjilobaaa
open Go.RowKit (wrap32)

theorem wrap32_bd (x : Int) : -2147483648 ≤ wrap32 x ∧ wrap32 x ≤ 2147483647 := by unfold wrap32; omega
/-- may x be the k-th word of a picture? (k < 4) -/
def okHead (k : Nat) (x : Int) : Bool := if k = 0 then decide (x = 826758217) else if k = 3 then true else decide (1 ≤ x ∧ x ≤ 1024)
/-- the next run: where it goes wrong, or: where the next one begins, how many, which -/
def stepW (ws : List Int) (N at_ dn : Nat) (lastp : Pix) : Except Nat (Nat × Nat × Pix) :=
  if ws.length ≤ at_ then .error at_
  else if (ix ws at_ / 2).toNat < 1 ∨ N - dn < (ix ws at_ / 2).toNat then .error at_
  else if ix ws at_ % 2 = 0 then (if 0 < dn ∧ lastp.1 = false then .error at_ else .ok (at_ + 1, (ix ws at_ / 2).toNat, noPix))
  else if ws.length < at_ + 3 then .error ws.length
  else if 0 < dn ∧ lastp = (true, wrap32 (ix ws (at_ + 2)), ix ws (at_ + 1)) then .error (at_ + 2)
  else .ok (at_ + 3, (ix ws at_ / 2).toNat, (true, wrap32 (ix ws (at_ + 2)), ix ws (at_ + 1)))
/-- all runs from at on, of which pre has come -/
def runW (ws : List Int) (N : Nat) : Nat → Nat → List Pix → Except Nat (List Pix)
  | 0, at_, _ => .error at_
  | f + 1, at_, pre =>
    if N ≤ pre.length then (if at_ < ws.length then .error at_ else .ok pre)
    else match stepW ws N at_ pre.length (px pre (pre.length - 1)) with
      | .error e => .error e
      | .ok (a, m, p) => runW ws N f a (pre ++ List.replicate m p)
/-- does the k-th word go wrong? -/
def headBad (ws : List Int) (k : Nat) : Bool := decide (ws.length ≤ k) || !okHead k (ix ws k)
/-- the first word of the head that goes wrong, from k on -/
def headAt (ws : List Int) : Nat → Nat → Option Nat
  | 0, _ => none
  | m + 1, k => if headBad ws k then some k else headAt ws m (k + 1)
abbrev Pict := Nat × Nat × Int × List Pix
/-- a picture's words: where they go wrong, or the picture -/
def readW (ws : List Int) : Except Nat Pict :=
  match headAt ws 4 0 with
  | some k => .error k
  | none => match runW ws ((ix ws 1).toNat * (ix ws 2).toNat) ((ix ws 1).toNat * (ix ws 2).toNat + 1) 4 [] with
    | .error e => .error e
    | .ok ps => .ok ((ix ws 1).toNat, (ix ws 2).toNat, ix ws 3, ps)
theorem headAt_some {ws : List Int} : ∀ {m k j : Nat}, headAt ws m k = some j → k ≤ j ∧ j < k + m ∧ headBad ws j = true ∧ ∀ i, k ≤ i → i < j → headBad ws i = false
  | 0, _, _, h => by simp [headAt] at h
  | m + 1, k, j, h => by
    unfold headAt at h
    split at h
    · rename_i hb
      cases h
      exact ⟨by omega, by omega, hb, fun i h1 h2 => by omega⟩
    · rename_i hb
      obtain ⟨h1, h2, h3, h4⟩ := headAt_some h
      refine ⟨by omega, by omega, h3, fun i h5 h6 => ?_⟩
      rcases Nat.lt_or_ge k i with h7 | h7
      · exact h4 i h7 h6
      · obtain rfl : i = k := by omega
        simpa using hb
theorem headAt_none {ws : List Int} : ∀ {m k : Nat}, headAt ws m k = none → ∀ i, k ≤ i → i < k + m → headBad ws i = false
  | 0, _, _, i, h1, h2 => by omega
  | m + 1, k, h, i, h1, h2 => by
    unfold headAt at h
    split at h
    · cases h
    · rename_i hb
      rcases Nat.lt_or_ge k i with h7 | h7
      · exact headAt_none h i h7 (by omega)
      · obtain rfl : i = k := by omega
        simpa using hb
/-- up to k none goes wrong -/
def HeadTo (ws : List Int) (k : Nat) : Prop := ∀ i, i < k → headBad ws i = false
theorem HeadTo.at_ {ws : List Int} {k : Nat} (h : HeadTo ws k) (hk : k < 4) (hb : headBad ws k = true) : readW ws = .error k := by
  have : headAt ws 4 0 = some k := by
    rcases e : headAt ws 4 0 with _ | j
    · have := headAt_none e k (by omega) (by omega)
      rw [hb] at this; cases this
    · obtain ⟨_, h2, h3, h4⟩ := headAt_some e
      rcases Nat.lt_trichotomy j k with h5 | h5 | h5
      · rw [h j h5] at h3; cases h3
      · rw [h5]
      · rw [h4 k (by omega) h5] at hb; cases hb
  unfold readW
  rw [this]
theorem HeadTo.four {ws : List Int} (h : HeadTo ws 4) : headAt ws 4 0 = none := by
  rcases e : headAt ws 4 0 with _ | j
  · rfl
  · obtain ⟨_, h2, h3, _⟩ := headAt_some e
    rw [h j (by omega)] at h3; cases h3
/-- the first pixels of n -/
def padP (pre : List Pix) (n : Nat) : List Pix := pre ++ List.replicate (n - pre.length) noPix
theorem padP_length {pre : List Pix} {n : Nat} (h : pre.length ≤ n) : (padP pre n).length = n := by simp [padP]; omega
theorem padP_nil (n : Nat) : padP [] n = List.replicate n noPix := by simp [padP]
theorem padP_full {pre : List Pix} {n : Nat} (h : pre.length = n) : padP pre n = pre := by simp [padP, h]
theorem padP_px {pre : List Pix} {n k : Nat} (h : k < pre.length) : px (padP pre n) k = px pre k := by simp [px, padP, List.getD, List.getElem?_append_left h]
theorem padP_set {pre : List Pix} {n : Nat} {p : Pix} (h : pre.length < n) : (padP pre n).set pre.length p = padP (pre ++ [p]) n := by
  unfold padP
  rw [List.set_append_right _ _ (Nat.le_refl _), Nat.sub_self]
  obtain ⟨m, hm⟩ : ∃ m, n - pre.length = m + 1 := ⟨n - pre.length - 1, by omega⟩
  have hm' : n - (pre ++ [p]).length = m := by simp; omega
  rw [hm, hm', List.replicate_succ, List.set_cons_zero, List.append_assoc]
  rfl
end Go.Proofs.Ytfciaefjilobaaa
