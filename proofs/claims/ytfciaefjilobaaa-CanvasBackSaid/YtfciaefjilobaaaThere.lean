/- Plain: a picture's words tell the picture. No program. -/
import Derived.Test.YtfciaefjilobaaaRunsLaw
import Derived.Test.YtfciaefjilobaaaReaderc
import Derived.Test.YtfciaefjilobaaaDots
import Derived.Test.YtfciaefjilobaaaSplitLaw
import Derived.Test.YtfciaefjilobaaaWlaw
namespace Go.Proofs.Ytfciaefjilobaaa
open Go.RowKit (wrap32)

/-- what is not drawn is nothing -/
def Plain (ps : List Pix) : Prop := ∀ k, (px ps k).1 = false → px ps k = noPix
theorem plain_none (n : Nat) : Plain (List.replicate n noPix) := fun _ _ => px_replicate
theorem plain_plot {W H : Nat} {ps : List Pix} {x y d c : Int} (h : Plain ps) : Plain (plotR W H ps x y d c) := by
  unfold plotR
  split
  · intro k hk
    by_cases he : spot W x y = k
    · subst he
      by_cases hl : spot W x y < ps.length
      · rw [px_set_same hl] at hk; cases hk
      · rw [List.set_eq_of_length_le (by omega)] at hk ⊢
        exact h _ hk
    · rw [px_set_other he] at hk ⊢
      exact h k hk
  · exact h
theorem plain_run {W H : Nat} : ∀ {l : List Dot} {ps : List Pix}, Plain ps → Plain (runD W H ps l)
  | [], _, h => h
  | q :: l, ps, h => by
    show Plain (runD W H (plotR W H ps q.1 q.2.1 q.2.2.1 q.2.2.2) l)
    exact plain_run (plain_plot h)
/-- the pixels of runs -/
def expand (rs : List Run) : List Pix := rs.flatMap fun r => List.replicate r.2 r.1
theorem expand_snoc (l : List Run) (r : Run) : expand (l ++ [r]) = expand l ++ List.replicate r.2 r.1 := by simp [expand]
theorem expand_cons (r : Run) (l : List Run) : expand (r :: l) = List.replicate r.2 r.1 ++ expand l := by simp [expand]
/-- each run is another one than the one ahead, and none is empty -/
def Alt : Option Pix → List Run → Prop
  | _, [] => True
  | q, r :: l => q ≠ some r.1 ∧ 1 ≤ r.2 ∧ Alt (some r.1) l
def endR : Option Pix → List Run → Option Pix
  | q, [] => q
  | _, r :: l => endR (some r.1) l
theorem alt_snoc {r : Run} : ∀ {l : List Run} {q : Option Pix}, Alt q l → endR q l ≠ some r.1 → 1 ≤ r.2 → Alt q (l ++ [r])
  | [], _, _, h, h1 => ⟨h, h1, trivial⟩
  | _ :: _, _, ⟨h1, h2, h3⟩, h, h4 => ⟨h1, h2, alt_snoc h3 h h4⟩
theorem endR_snoc {r : Run} : ∀ {l : List Run} {q : Option Pix}, endR q (l ++ [r]) = some r.1
  | [], _ => rfl
  | _ :: l, _ => endR_snoc (l := l)
theorem cutst_alt (ps : List Pix) : ∀ k, Alt none (cutst ps k).1 ∧ endR none (cutst ps k).1 ≠ some (px ps (cutst ps k).2)
  | 0 => ⟨trivial, by simp [cutst, endR]⟩
  | k + 1 => by
    obtain ⟨h1, h2⟩ := cutst_alt ps k
    have h3 := cutst_le ps k
    by_cases h : px ps (k + 1) = px ps (cutst ps k).2
    · rw [cutst_same h]; exact ⟨h1, h2⟩
    · rw [cutst_cut h]
      refine ⟨alt_snoc h1 h2 (by omega), ?_⟩
      rw [endR_snoc]
      exact fun e => h (Option.some.inj e).symm
theorem runsOf_alt (ps : List Pix) {n : Nat} (hn : 1 ≤ n) : Alt none (runsOf ps n) := by
  obtain ⟨h1, h2⟩ := cutst_alt ps (n - 1)
  have := cutst_le ps (n - 1)
  exact alt_snoc h1 h2 (by simp; omega)
theorem cutst_flat (ps : List Pix) : ∀ k j, (cutst ps k).2 ≤ j → j ≤ k → px ps j = px ps (cutst ps k).2
  | 0, j, h1, h2 => by obtain rfl : j = 0 := by omega
                       rfl
  | k + 1, j, h1, h2 => by
    by_cases h : px ps (k + 1) = px ps (cutst ps k).2
    · rw [cutst_same h] at h1 ⊢
      by_cases e : j = k + 1
      · rw [e]; exact h
      · exact cutst_flat ps k j h1 (by omega)
    · rw [cutst_cut h] at h1 ⊢
      obtain rfl : j = k + 1 := by simp at h1; omega
      rfl
theorem px_take {ps : List Pix} {k j : Nat} (h : j < k) : px (ps.take k) j = px ps j := by simp [px, List.getD, h]
theorem rep_flat {ps : List Pix} {a b : Nat} (hab : a ≤ b) (hb : b ≤ ps.length) {p : Pix} (h : ∀ j, a ≤ j → j < b → px ps j = p) : ps.take a ++ List.replicate (b - a) p = ps.take b := by
  refine ext_px (by simp; omega) fun k hk => ?_
  simp at hk
  rw [px_take (by omega)]
  by_cases hka : k < a
  · rw [show px (ps.take a ++ List.replicate (b - a) p) k = px (ps.take a) k from by simp [px, List.getD, List.getElem?_append_left (show k < (ps.take a).length by simp; omega)], px_take hka]
  · rw [h k (by omega) (by omega)]
    have hl : (ps.take a).length = a := by simp; omega
    simp [px, List.getD, List.getElem?_append_right (show (ps.take a).length ≤ k by omega), hl]
    rw [List.getElem?_replicate, if_pos (by omega)]
    rfl
theorem cutst_expand (ps : List Pix) : ∀ k, k < ps.length → expand (cutst ps k).1 = ps.take (cutst ps k).2
  | 0, _ => by simp [cutst, expand]
  | k + 1, hk => by
    have ih := cutst_expand ps k (by omega)
    have h3 := cutst_le ps k
    by_cases h : px ps (k + 1) = px ps (cutst ps k).2
    · rw [cutst_same h]; exact ih
    · rw [cutst_cut h, expand_snoc, ih]
      exact rep_flat (by omega) (by omega) fun j h1 h2 => cutst_flat ps k j h1 (by omega)
theorem runsOf_expand {ps : List Pix} {n : Nat} (hl : ps.length = n) (hn : 1 ≤ n) : expand (runsOf ps n) = ps := by
  have h1 := cutst_expand ps (n - 1) (by omega)
  have h2 := cutst_le ps (n - 1)
  rw [runsOf, expand_snoc, h1]
  rw [rep_flat (by omega) (by omega) fun j h1 h2 => cutst_flat ps (n - 1) j h1 (by omega), List.take_of_length_le (by omega)]
theorem wrap_back {d : Int} (h : -2147483648 ≤ d ∧ d ≤ 2147483647) : wrap32 (d % 4294967296) = d := by unfold wrap32; omega
theorem ix_mid {l r : List Int} {k j : Nat} (h : l.length = k) : ix (l ++ r) (k + j) = ix r j := by rw [ix_append_right (by omega)]; congr 1; omega
theorem runSum_cons (r : Run) (l : List Run) : runSum (r :: l) = r.2 + runSum l := rfl
/-- runs that are told are read -/
theorem runW_back {N : Nat} : ∀ {rs : List Run} {front : List Int} {pre : List Pix} {f : Nat} {q : Option Pix}, Alt q rs → (∀ r ∈ rs, okPix r.1 ∧ (r.1.1 = false → r.1 = noPix)) →
    pre.length + runSum rs = N → N ≤ 1048576 → (0 < pre.length → q = some (px pre (pre.length - 1)) ∧ ((px pre (pre.length - 1)).1 = false → px pre (pre.length - 1) = noPix)) → rs.length < f →
    runW (front ++ encRuns rs) N f front.length pre = .ok (pre ++ expand rs)
  | [], front, pre, f, q, _, _, hs, hN, _, hf => by
    obtain ⟨f, rfl⟩ : ∃ f', f = f' + 1 := ⟨f - 1, by simp at hf; omega⟩
    simp only [runSum] at hs
    rw [runW_done (by omega) (by simp [encRuns])]
    simp [expand]
  | r :: rs, front, pre, f, q, ⟨h1, h2, h3⟩, hok, hs, hN, hq, hf => by
    obtain ⟨f, rfl⟩ : ∃ f', f = f' + 1 := ⟨f - 1, by simp at hf; omega⟩
    rw [runSum_cons] at hs
    obtain ⟨hokr, hnr⟩ := hok r (by simp)
    have hlast : ∀ x, 0 < pre.length → px pre (pre.length - 1) = x → x ≠ r.1 := fun x h0 hx e => by
      have := (hq h0).1
      rw [this, hx, e] at h1
      exact h1 rfl
    have hrest := fun front' => runW_back (rs := rs) (front := front') (pre := pre ++ List.replicate r.2 r.1) (f := f) (q := some r.1) h3 (fun x hx => hok x (by simp [hx])) (by simp; omega) hN
      (fun _ => by rw [px_last h2]; exact ⟨rfl, hnr⟩) (by simp at hf; omega)
    have hstep : stepW (front ++ encRuns (r :: rs)) N front.length pre.length (px pre (pre.length - 1)) = .ok (front.length + (encRun r).length, r.2, r.1) := by
      obtain ⟨⟨b, d, c⟩, m⟩ := r
      obtain ⟨o1, o2, o3, o4⟩ := hokr
      simp only at h2 hs hnr o1 o2 o3 o4
      have he : encRuns (((b, d, c), m) :: rs) = encRun ((b, d, c), m) ++ encRuns rs := by simp [encRuns]
      rcases b with _ | _
      · obtain ⟨rfl, rfl⟩ : d = 0 ∧ c = 0 := by have := hnr rfl; unfold noPix at this; simpa using this
        have hx : ix (front ++ encRuns (((false, 0, 0), m) :: rs)) front.length = ((2 * m : Nat) : Int) := by
          have := ix_mid (l := front) (r := encRuns (((false, 0, 0), m) :: rs)) (j := 0) rfl
          rw [Nat.add_zero] at this
          rw [this, he]
          rfl
        have hl : front.length < (front ++ encRuns (((false, 0, 0), m) :: rs)).length := by rw [he]; simp [encRun]
        have hm : (ix (front ++ encRuns (((false, 0, 0), m) :: rs)) front.length / 2).toNat = m := by rw [hx]; omega
        rw [stepW_even hl (by rw [hm]; omega) (by rw [hx]; omega) ?_, hm]
        · rfl
        · rintro ⟨h0, hf0⟩
          exact hlast _ h0 rfl ((hq h0).2 hf0)
      · have hx : ix (front ++ encRuns (((true, d, c), m) :: rs)) front.length = ((2 * m + 1 : Nat) : Int) := by
          have := ix_mid (l := front) (r := encRuns (((true, d, c), m) :: rs)) (j := 0) rfl
          rw [Nat.add_zero] at this
          rw [this, he]
          rfl
        have hx1 : ix (front ++ encRuns (((true, d, c), m) :: rs)) (front.length + 1) = c := by
          rw [ix_mid rfl, he]; rfl
        have hx2 : ix (front ++ encRuns (((true, d, c), m) :: rs)) (front.length + 2) = d % 4294967296 := by
          rw [ix_mid rfl, he]; rfl
        have hl : front.length + 3 ≤ (front ++ encRuns (((true, d, c), m) :: rs)).length := by rw [he]; simp [encRun]
        have hm : (ix (front ++ encRuns (((true, d, c), m) :: rs)) front.length / 2).toNat = m := by rw [hx]; omega
        have hw : wrap32 (d % 4294967296) = d := wrap_back ⟨o1, o2⟩
        rw [stepW_odd hl (by rw [hm]; omega) (by rw [hx]; omega) ?_, hm, hx1, hx2, hw]
        · rfl
        · rintro ⟨h0, hf0⟩
          rw [hx1, hx2, hw] at hf0
          exact hlast _ h0 rfl hf0
    rw [runW_ok (by omega) hstep]
    have hr := hrest (front ++ encRun r)
    rw [List.length_append, List.append_assoc, show encRun r ++ encRuns rs = encRuns (r :: rs) from by simp [encRuns]] at hr
    rw [hr, expand_cons, List.append_assoc]
/-- there and back -/
theorem readW_back {W H : Nat} {back : Int} {ps : List Pix} (hW : 1 ≤ W ∧ W ≤ 1024) (hH : 1 ≤ H ∧ H ≤ 1024) (hl : ps.length = W * H) (hok : okPixs ps) (hp : Plain ps) : readW (picWords W H back ps) = .ok (W, H, back, ps) := by
  have hpos : 1 ≤ W * H := area_pos hW.1 hH.1
  have hle := area_le hW.2 hH.2
  have w0 : ix (picWords W H back ps) 0 = 826758217 := rfl
  have w1 : ix (picWords W H back ps) 1 = (W : Int) := rfl
  have w2 : ix (picWords W H back ps) 2 = (H : Int) := rfl
  have w3 : ix (picWords W H back ps) 3 = back := rfl
  have hlen : 4 ≤ (picWords W H back ps).length := by simp [picWords]
  have hto : HeadTo (picWords W H back ps) 4 := fun i hi => by
    have h1 : decide ((picWords W H back ps).length ≤ i) = false := decide_eq_false (by omega)
    unfold headBad
    rw [h1, Bool.false_or]
    rcases (by omega : i = 0 ∨ i = 1 ∨ i = 2 ∨ i = 3) with rfl | rfl | rfl | rfl
    · rw [w0]; rfl
    · rw [w1]; unfold okHead; simp; omega
    · rw [w2]; unfold okHead; simp; omega
    · rfl
  have hpx : ∀ r ∈ runsOf ps (W * H), r.1.1 = false → r.1 = noPix := by
    have hc : ∀ k, ∀ r ∈ (cutst ps k).1, ∃ j, r.1 = px ps j := fun k => by
      induction k with
      | zero => intro r hr; simp [cutst] at hr
      | succ k ih =>
        intro r hr
        simp only [cutst] at hr
        split at hr
        · exact ih r hr
        · rcases List.mem_append.1 hr with hr | hr
          · exact ih r hr
          · simp at hr; subst hr; exact ⟨_, rfl⟩
    intro r hr hf
    rcases List.mem_append.1 hr with hr | hr
    · obtain ⟨j, e⟩ := hc _ r hr
      rw [e] at hf ⊢
      exact hp j hf
    · simp at hr
      subst hr
      exact hp _ hf
  have hrun := runW_back (N := W * H) (rs := runsOf ps (W * H)) (front := [826758217, (W : Int), (H : Int), back]) (pre := []) (f := W * H + 1) (q := none) (runsOf_alt ps hpos) (fun r hr => ⟨okPixs_runs hok _ r hr, hpx r hr⟩)
    (by rw [runsOf_sum ps hpos]; simp) hle (fun h => absurd h (by simp)) (by have := runsOf_length ps hpos; omega)
  have hrun2 : runW (picWords W H back ps) (W * H) (W * H + 1) 4 [] = .ok ps := by
    refine hrun.trans ?_
    rw [List.nil_append, runsOf_expand hl hpos]
  have hW1 : (ix (picWords W H back ps) 1).toNat = W := by rw [w1]; exact Int.toNat_natCast W
  have hH1 : (ix (picWords W H back ps) 2).toNat = H := by rw [w2]; exact Int.toNat_natCast H
  rw [readW_ok hto.four (by rw [hW1, hH1]; exact hrun2), hW1, hH1, w3]
end Go.Proofs.Ytfciaefjilobaaa
