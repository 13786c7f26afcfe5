/- Plain: a picture's runs, and the words that tell them. No program. -/
import Derived.Test.YtfciaefjilobaaaPix
namespace Go.Proofs.Ytfciaefjilobaaa

abbrev Run := Pix × Nat
/-- the runs that are over when the boundaries 1 .. k have been seen, and where the last one began -/
def cutst (ps : List Pix) : Nat → List Run × Nat
  | 0 => ([], 0)
  | k + 1 => if px ps (k + 1) = px ps (cutst ps k).2 then cutst ps k else ((cutst ps k).1 ++ [(px ps (cutst ps k).2, k + 1 - (cutst ps k).2)], k + 1)
/-- all runs of n pixels -/
def runsOf (ps : List Pix) (n : Nat) : List Run := (cutst ps (n - 1)).1 ++ [(px ps (cutst ps (n - 1)).2, n - (cutst ps (n - 1)).2)]
theorem cutst_le (ps : List Pix) : ∀ k, (cutst ps k).2 ≤ k
  | 0 => Nat.le_refl _
  | k + 1 => by have := cutst_le ps k; simp only [cutst]; split <;> simp <;> omega
theorem cutst_same {ps : List Pix} {k : Nat} (h : px ps (k + 1) = px ps (cutst ps k).2) : cutst ps (k + 1) = cutst ps k := by rw [cutst, if_pos h]
theorem cutst_cut {ps : List Pix} {k : Nat} (h : px ps (k + 1) ≠ px ps (cutst ps k).2) : cutst ps (k + 1) = ((cutst ps k).1 ++ [(px ps (cutst ps k).2, k + 1 - (cutst ps k).2)], k + 1) := by rw [cutst, if_neg h]
def runSum : List Run → Nat
  | [] => 0
  | r :: l => r.2 + runSum l
theorem runSum_append (l r : List Run) : runSum (l ++ r) = runSum l + runSum r := by
  induction l with
  | nil => simp [runSum]
  | cons x l ih => simp only [List.cons_append, runSum, ih]; omega
theorem cutst_sum (ps : List Pix) : ∀ k, runSum (cutst ps k).1 = (cutst ps k).2
  | 0 => rfl
  | k + 1 => by
    have h := cutst_sum ps k
    have h' := cutst_le ps k
    simp only [cutst]
    split
    · exact h
    · simp [runSum_append, runSum, h]; omega
theorem cutst_pos (ps : List Pix) : ∀ k, ∀ r ∈ (cutst ps k).1, 1 ≤ r.2
  | 0, r, h => by simp [cutst] at h
  | k + 1, r, h => by
    have h' := cutst_le ps k
    simp only [cutst] at h
    split at h
    · exact cutst_pos ps k r h
    · rcases List.mem_append.1 h with h | h
      · exact cutst_pos ps k r h
      · simp at h; subst h; simp; omega
theorem runSum_ge : ∀ {l : List Run}, (∀ r ∈ l, 1 ≤ r.2) → l.length ≤ runSum l
  | [], _ => Nat.le_refl _
  | x :: l, h => by
    have h1 := h x (by simp)
    have h2 := runSum_ge (l := l) (fun r hr => h r (by simp [hr]))
    simp only [List.length_cons, runSum]; omega
theorem runsOf_sum (ps : List Pix) {n : Nat} (hn : 1 ≤ n) : runSum (runsOf ps n) = n := by
  have h1 := cutst_sum ps (n - 1)
  have h2 := cutst_le ps (n - 1)
  simp only [runsOf, runSum_append, runSum, h1]
  omega
theorem runsOf_pos (ps : List Pix) {n : Nat} (hn : 1 ≤ n) : ∀ r ∈ runsOf ps n, 1 ≤ r.2 := fun r h => by
  have h2 := cutst_le ps (n - 1)
  rcases List.mem_append.1 h with h | h
  · exact cutst_pos ps _ r h
  · simp at h; subst h; simp; omega
theorem runsOf_length (ps : List Pix) {n : Nat} (hn : 1 ≤ n) : (runsOf ps n).length ≤ n := by
  have := runSum_ge (runsOf_pos ps hn)
  rwa [runsOf_sum ps hn] at this
theorem runSum_mem : ∀ {l : List Run} {r : Run}, r ∈ l → r.2 ≤ runSum l
  | x :: l, r, h => by
    simp only [runSum]
    rcases List.mem_cons.1 h with rfl | h
    · omega
    · have := runSum_mem h; omega

/-- the words of a run -/
def encRun (r : Run) : List Int := if r.1.1 then [(2 * r.2 + 1 : Nat), r.1.2.2, r.1.2.1 % 4294967296] else [(2 * r.2 : Nat)]
def encRuns (l : List Run) : List Int := l.flatMap encRun
theorem encRuns_nil : encRuns [] = [] := rfl
theorem encRuns_snoc (l : List Run) (r : Run) : encRuns (l ++ [r]) = encRuns l ++ encRun r := by simp [encRuns]
theorem encRun_length (r : Run) : (encRun r).length ≤ 3 ∧ 1 ≤ (encRun r).length := by unfold encRun; split <;> simp
theorem encRuns_length : ∀ (l : List Run), (encRuns l).length ≤ 3 * l.length
  | [] => by simp [encRuns]
  | r :: l => by
    have h1 := encRuns_length l
    have h2 := (encRun_length r).1
    simp only [encRuns, List.flatMap_cons, List.length_append, List.length_cons] at h1 ⊢
    omega
def picWords (W H : Nat) (back : Int) (ps : List Pix) : List Int := [826758217, (W : Int), (H : Int), back] ++ encRuns (runsOf ps (W * H))
theorem okPixs_cut {ps : List Pix} (h : okPixs ps) : ∀ k, ∀ r ∈ (cutst ps k).1, okPix r.1
  | 0, r, hr => by simp [cutst] at hr
  | k + 1, r, hr => by
    simp only [cutst] at hr
    split at hr
    · exact okPixs_cut h k r hr
    · rcases List.mem_append.1 hr with hr | hr
      · exact okPixs_cut h k r hr
      · simp at hr; subst hr; exact h.px _
theorem okPixs_runs {ps : List Pix} (h : okPixs ps) (n : Nat) : ∀ r ∈ runsOf ps n, okPix r.1 := fun r hr => by
  rcases List.mem_append.1 hr with hr | hr
  · exact okPixs_cut h _ r hr
  · simp at hr; subst hr; exact h.px _
theorem encRun_under {r : Run} (h : okPix r.1) (hn : r.2 ≤ 1048576) : Under 4294967296 (encRun r) := fun x hx => by
  obtain ⟨⟨b, d, c⟩, n⟩ := r
  obtain ⟨h1, h2, h3, h4⟩ := h
  simp only at h1 h2 h3 h4 hn
  unfold encRun at hx
  split at hx
  · simp at hx
    rcases hx with rfl | rfl | rfl
    · omega
    · exact ⟨h3, h4⟩
    · exact ⟨Int.emod_nonneg _ (by decide), Int.emod_lt_of_pos _ (by decide)⟩
  · simp at hx; subst hx; omega
theorem picWords_under {W H : Nat} {back : Int} {ps : List Pix} (hW : W ≤ 1024) (hH : H ≤ 1024) (h1 : 1 ≤ W * H) (hb : 0 ≤ back ∧ back < 4294967296) (h : okPixs ps) : Under 4294967296 (picWords W H back ps) := by
  have hle := area_le hW hH
  refine Under.append (fun x hx => ?_) fun x hx => ?_
  · simp at hx; rcases hx with rfl | rfl | rfl | rfl <;> omega
  · obtain ⟨r, hr, hx⟩ := List.mem_flatMap.1 hx
    have := runSum_mem hr
    rw [runsOf_sum ps h1] at this
    exact encRun_under (okPixs_runs h _ r hr) (by omega) x hx
theorem picWords_length {W H : Nat} {back : Int} {ps : List Pix} (hW : W ≤ 1024) (hH : H ≤ 1024) (h1 : 1 ≤ W * H) : (picWords W H back ps).length ≤ 3145732 := by
  have hle := area_le hW hH
  have h2 := encRuns_length (runsOf ps (W * H))
  have h3 := runsOf_length ps h1
  simp only [picWords, List.length_append, List.length_cons, List.length_nil]
  omega
end Go.Proofs.Ytfciaefjilobaaa
