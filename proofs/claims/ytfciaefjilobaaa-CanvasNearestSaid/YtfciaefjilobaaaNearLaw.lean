/- Plain: dots of unlike depths may be plotted in any order. No program. -/
import Derived.Test.YtfciaefjilobaaaDots
namespace Go.Proofs.Ytfciaefjilobaaa

theorem plot_out {W H : Nat} {ps : List Pix} {x y d c : Int} (h : ¬ hasP W H x y) : plotR W H ps x y d c = ps := by
  unfold plotR plotIs; rw [decide_eq_false h]; rfl
theorem plot_in {W H : Nat} {ps : List Pix} {x y d c : Int} (h : hasP W H x y) : plotR W H ps x y d c = if near (px ps (spot W x y)) d then ps.set (spot W x y) (true, d, c) else ps := by
  unfold plotR plotIs; rw [decide_eq_true h, Bool.true_and]
theorem near_new {d c d' : Int} : near (true, d, c) d' = !decide (d ≤ d') := rfl
theorem near_iff {p : Pix} {d : Int} : near p d = true ↔ (p.1 = false ∨ d < p.2.1) := by
  unfold near
  rcases h : p.1 with _ | _ <;> simp
theorem plot_same (ps : List Pix) {s : Nat} (hs : s < ps.length) {d1 d2 : Int} (c1 c2 : Int) (hd : d1 < d2) :
    (if near (px (if near (px ps s) d1 then ps.set s (true, d1, c1) else ps) s) d2 then (if near (px ps s) d1 then ps.set s (true, d1, c1) else ps).set s (true, d2, c2) else (if near (px ps s) d1 then ps.set s (true, d1, c1) else ps)) =
    (if near (px (if near (px ps s) d2 then ps.set s (true, d2, c2) else ps) s) d1 then (if near (px ps s) d2 then ps.set s (true, d2, c2) else ps).set s (true, d1, c1) else (if near (px ps s) d2 then ps.set s (true, d2, c2) else ps)) := by
  have n12 : near (true, d1, c1) d2 = false := by rw [near_new]; simp; omega
  have n21 : near (true, d2, c2) d1 = true := by rw [near_new]; simp; omega
  rcases h1 : near (px ps s) d1 with _ | _
  · have h2 : near (px ps s) d2 = false := by
      rcases h2 : near (px ps s) d2 with _ | _
      · rfl
      · rw [near_iff] at h2
        have : near (px ps s) d1 = true := near_iff.2 (h2.imp id (fun h => by omega))
        rw [h1] at this; cases this
    simp [h1, h2]
  · rcases h2 : near (px ps s) d2 with _ | _
    · simp [h1, px_set_same hs, n12]
    · simp [px_set_same hs, n12, n21]
theorem plot_comm {W H : Nat} {ps : List Pix} (hl : ps.length = W * H) {x1 y1 d1 c1 x2 y2 d2 c2 : Int} (hd : d1 ≠ d2) :
    plotR W H (plotR W H ps x1 y1 d1 c1) x2 y2 d2 c2 = plotR W H (plotR W H ps x2 y2 d2 c2) x1 y1 d1 c1 := by
  by_cases h1 : hasP W H x1 y1
  · by_cases h2 : hasP W H x2 y2
    · have s1 := spot_lt h1
      have s2 := spot_lt h2
      rw [plot_in h1, plot_in h2, plot_in h2, plot_in h1]
      generalize spot W x1 y1 = a at *
      generalize spot W x2 y2 = b at *
      by_cases hab : a = b
      · subst hab
        rcases Int.lt_or_gt_of_ne hd with h | h
        · exact plot_same ps (by omega) c1 c2 h
        · exact (plot_same ps (by omega) c2 c1 h).symm
      · rcases n1 : near (px ps a) d1 with _ | _ <;> rcases n2 : near (px ps b) d2 with _ | _
        · simp [n1, n2]
        · simp [n1, n2, px_set_other (Ne.symm hab)]
        · simp [n1, n2, px_set_other hab]
        · simp [n1, n2, px_set_other hab, px_set_other (Ne.symm hab), List.set_comm _ _ hab]
    · rw [plot_out h2, plot_out h2]
  · rw [plot_out h1, plot_out h1]
theorem runD_cons (W H : Nat) (ps : List Pix) (q : Dot) (l : List Dot) : runD W H ps (q :: l) = runD W H (plotR W H ps q.1 q.2.1 q.2.2.1 q.2.2.2) l := rfl
theorem runD_snoc (W H : Nat) (ps : List Pix) (q : Dot) (l : List Dot) : runD W H ps (l ++ [q]) = plotR W H (runD W H ps l) q.1 q.2.1 q.2.2.1 q.2.2.2 := by
  unfold runD; rw [List.foldl_append]; rfl
theorem runD_length {W H : Nat} : ∀ {l : List Dot} {ps : List Pix}, (runD W H ps l).length = ps.length
  | [], _ => rfl
  | q :: l, ps => by rw [runD_cons, runD_length, plotR_length]
theorem runD_move {W H : Nat} (q : Dot) : ∀ {l : List Dot} {ps : List Pix}, ps.length = W * H → (∀ r ∈ l, q.2.2.1 ≠ r.2.2.1) → runD W H (plotR W H ps q.1 q.2.1 q.2.2.1 q.2.2.2) l = plotR W H (runD W H ps l) q.1 q.2.1 q.2.2.1 q.2.2.2
  | [], _, _, _ => rfl
  | r :: l, ps, hl, h => by
    rw [runD_cons, runD_cons, plot_comm hl (h r (by simp)), runD_move q (by rw [plotR_length]; exact hl) (fun r' hr' => h r' (by simp [hr']))]
theorem runD_reverse {W H : Nat} : ∀ {l : List Dot} {ps : List Pix}, ps.length = W * H → l.Pairwise (fun q r => q.2.2.1 ≠ r.2.2.1) → runD W H ps l.reverse = runD W H ps l
  | [], _, _, _ => rfl
  | q :: l, ps, hl, h => by
    rw [List.pairwise_cons] at h
    rw [List.reverse_cons, runD_snoc, runD_reverse hl h.2, runD_cons, runD_move q hl h.1]
/-- the first k depths differ -/
def Dist (l : List Dot) (k : Nat) : Prop := ∀ a b, a < b → b < k → (dt l a).2.2.1 ≠ (dt l b).2.2.1
theorem Dist.pairwise {l : List Dot} (h : Dist l l.length) : l.Pairwise (fun q r => q.2.2.1 ≠ r.2.2.1) := by
  rw [List.pairwise_iff_getElem]
  intro i j hi hj hij
  have := h i j hij hj
  rwa [dt_of hi, dt_of hj] at this
theorem dt_reverse {l : List Dot} {k : Nat} (h : k < l.length) : dt l.reverse k = dt l (l.length - 1 - k) := by
  rw [dt_of (by simpa using h), dt_of (by omega), List.getElem_reverse]
end Go.Proofs.Ytfciaefjilobaaa
