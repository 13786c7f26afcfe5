/- Walks: a dot plotted, in a canvas and in the document's. -/
import Derived.Test.YtfciaefjilobaaaCan
namespace Go.Proofs.Ytfciaefjilobaaa
open Go.RowKit

theorem not_has {W H : Nat} {x y : Int} (h : ¬ hasP W H x y) :
    (decide (x < 0) = true) ∨ (decide (x < 0) = false ∧ decide (y < 0) = true) ∨ (decide (x < 0) = false ∧ decide (y < 0) = false ∧ decide ((W : Int) ≤ x) = true) ∨ (decide (x < 0) = false ∧ decide (y < 0) = false ∧ decide ((W : Int) ≤ x) = false ∧ decide ((H : Int) ≤ y) = true) := by
  unfold hasP at h
  simp only [decide_eq_true_eq, decide_eq_false_iff_not]
  omega
theorem not_has2 {W H : Nat} {x y : Int} (h : ¬ hasP W H x y) :
    (decide (0 ≤ x) = false) ∨ (decide (0 ≤ x) = true ∧ decide (0 ≤ y) = false) ∨ (decide (0 ≤ x) = true ∧ decide (0 ≤ y) = true ∧ decide (x < (W : Int)) = false) ∨ (decide (0 ≤ x) = true ∧ decide (0 ≤ y) = true ∧ decide (x < (W : Int)) = true ∧ decide (y < (H : Int)) = false) := by
  unfold hasP at h
  simp only [decide_eq_true_eq, decide_eq_false_iff_not]
  omega

section
variable {w : World} {base g gp n c W H : Nat} {back : Int} {ps : List Pix}
theorem find_out (h : CanS w base g gp n c W H back ps) (x y : Int) (hh : ¬ hasP W H x y) :
    Calls Try.prog 33 #[.pointer (some ⟨g, 0, none⟩), .int .i64 x, .int .i64 y] w fun e w' => e = .returned (.tuple #[.int .i64 0, .int .i64 3]) ∧ w = w' := by
  have p0 := h.blk.cell 0
  have p1 := h.blk.cell 1
  simp at p0 p1
  rcases not_has hh with h0 | ⟨h0, h1⟩ | ⟨h0, h1, h2⟩ | ⟨h0, h1, h2, h3⟩ <;>
  · go_enter Try.func33, Try.ntmps33
    go_wp2
    go_ret2
    exact ⟨rfl, rfl⟩
theorem find_in (h : CanS w base g gp n c W H back ps) (x y : Int) (hh : hasP W H x y) :
    Calls Try.prog 33 #[.pointer (some ⟨g, 0, none⟩), .int .i64 x, .int .i64 y] w fun e w' => e = .returned (.tuple #[.int .i64 (spot W x y : Nat), .int .i64 0]) ∧ w = w' := by
  have p0 := h.blk.cell 0
  have p1 := h.blk.cell 1
  simp at p0 p1
  obtain ⟨m, hm, hk, hle⟩ := spot_parts hh h.sz.w2 h.sz.h2
  generalize spot W x y = k at hk ⊢
  have hW := h.sz.w2
  obtain ⟨q0, q1, q2, q3⟩ := hh
  have h0 : decide (x < 0) = false := by simp; omega
  have h1 : decide (y < 0) = false := by simp; omega
  have h2 : decide ((W : Int) ≤ x) = false := by simp; omega
  have h3 : decide ((H : Int) ≤ y) = false := by simp; omega
  go_enter Try.func33, Try.ntmps33
  go_wp2
  go_ret2
  exact ⟨rfl, rfl⟩

/-- what a plot leaves -/
def Plotted (w : World) (base g gp n c W H : Nat) (back : Int) (ps : List Pix) (x y d cc : Int) (e : Ending) (w' : World) : Prop :=
  e = .returned (.tuple #[.bool (plotIs W H ps x y d), .int .i64 (plotE W H x y)]) ∧ CanS w' base g gp n c W H back (plotR W H ps x y d cc) ∧ Off (fun k => k = gp) w w'

set_option maxHeartbeats 1000000 in
theorem plot_any (h : CanS w base g gp n c W H back ps) (x y d cc : Int) (hp : okPix (true, d, cc)) :
    Calls Try.prog 15 #[.pointer (some ⟨g, 0, none⟩), .int .i64 x, .int .i64 y, .int .i32 d, .int .u32 cc] w (Plotted w base g gp n c W H back ps x y d cc) := by
  by_cases hh : hasP W H x y
  · have hk := h.sz.spot hh
    have hsz := h.sz.plot x y hp
    have e1 : plotE W H x y = 0 := by simp [plotE, hh]
    have e2 : plotIs W H ps x y d = near (px ps (spot W x y)) d := by simp [plotIs, hh]
    have e3 : plotR W H ps x y d cc = if near (px ps (spot W x y)) d then ps.set (spot W x y) (true, d, cc) else ps := by unfold plotR; rw [e2]
    unfold Plotted
    rw [e1, e2]
    rw [e3] at hsz ⊢
    have hf := find_in h x y hh
    generalize spot W x y = k at hk hf hsz ⊢
    clear e1 e2 e3
    obtain ⟨r0, r1, r2⟩ := own_px_at h.row hk
    have p3 := h.blk.cell 3
    simp at p3
    have hle := h.sz.le
    have p4 := fun o => (h.blk.alloc o).cell 3
    simp at p4
    have c0 := fun o => st_c0 (h.row.alloc o) hk
    have c1 := fun o => st_c1 (h.row.alloc o) hk
    have c2 := fun o => st_c2 (h.row.alloc o) hk
    have f0 := fun o => st_f0 (h.row.alloc o) k
    have f1 := fun o => st_f1 (h.row.alloc o) k
    have f2 := fun o => st_f2 (h.row.alloc o) k
    rcases hq : px ps k with ⟨b, dp, cl⟩
    rw [hq] at r0 r1 r2 hsz
    simp only [hq] at r0 r1 r2 c0 c1 c2
    rcases b with _ | _
    · have en : near (false, dp, cl) d = true := rfl
      rw [en] at hsz ⊢
      simp only [if_true] at hsz ⊢
      go_enter Try.func15, Try.ntmps15
      go_wp2_with fail
      refine hf.mono ?_
      rintro e w1 ⟨rfl, rfl⟩
      go_wp2
      go_ret2
      have hb := (Below.refl w.heap.size w).alloc (Nat.le_refl _) (.cells #[.bool false, .int .i32 dp, .int .u32 cl] 82)
      exact ⟨rfl, (h.below hb).set3 (p := (true, d, cc)) hk hsz, (Off.of_below _ hb).trans (off_set3 _ gp k _ _ _)⟩
    · rcases hd : decide (dp ≤ d) with _ | _
      · have en : near (true, dp, cl) d = true := by simp [near, hd]
        rw [en] at hsz ⊢
        simp only [if_true] at hsz ⊢
        go_enter Try.func15, Try.ntmps15
        go_wp2_with fail
        refine hf.mono ?_
        rintro e w1 ⟨rfl, rfl⟩
        go_wp2
        go_ret2
        have hb := (Below.refl w.heap.size w).alloc (Nat.le_refl _) (.cells #[.bool true, .int .i32 dp, .int .u32 cl] 82)
        exact ⟨rfl, (h.below hb).set3 (p := (true, d, cc)) hk hsz, (Off.of_below _ hb).trans (off_set3 _ gp k _ _ _)⟩
      · have en : near (true, dp, cl) d = false := by simp [near, hd]
        rw [en] at hsz ⊢
        simp only [Bool.false_eq_true, if_false] at hsz ⊢
        go_enter Try.func15, Try.ntmps15
        go_wp2_with fail
        refine hf.mono ?_
        rintro e w1 ⟨rfl, rfl⟩
        go_wp2
        go_ret2
        have hb := (Below.refl w.heap.size w).alloc (Nat.le_refl _) (.cells #[.bool true, .int .i32 dp, .int .u32 cl] 82)
        refine ⟨rfl, h.below hb, Off.of_below _ hb⟩
  · have e1 : plotE W H x y = 3 := by simp [plotE, hh]
    have e2 : plotIs W H ps x y d = false := by simp [plotIs, hh]
    have e3 : plotR W H ps x y d cc = ps := by unfold plotR; rw [e2]; simp
    unfold Plotted
    rw [e1, e2, e3]
    go_enter Try.func15, Try.ntmps15
    go_wp2_with fail
    refine (find_out h x y hh).mono ?_
    rintro e w1 ⟨rfl, rfl⟩
    go_wp2
    go_ret2
    exact ⟨rfl, h, Off.refl _ _⟩
end

section
variable {w : World} {base g n c W H : Nat} {back : Int} {ps : List Pix}
theorem has_any (g n c W H : Nat) (back x y : Int) (w : World) :
    Calls Try.prog 45 #[refV g n c W H back, .int .i64 x, .int .i64 y] w fun e w' => e = .returned (.bool (decide (hasP W H x y))) ∧ Below w.heap.size w w' := by
  have hb := (Below.refl w.heap.size w).alloc (Nat.le_refl _) (.cells #[.int .i64 W, .int .i64 H, .int .u32 back, .slice (some ⟨g, 0, none⟩) n c] 31)
  unfold refV
  by_cases hh : hasP W H x y
  · rw [decide_eq_true hh]
    obtain ⟨q0, q1, q2, q3⟩ := hh
    have h0 : decide (0 ≤ x) = true := by simpa using q0
    have h1 : decide (0 ≤ y) = true := by simpa using q1
    have h2 : decide (x < (W : Int)) = true := by simpa using q2
    have h3 : decide (y < (H : Int)) = true := by simpa using q3
    go_enter Try.func45, Try.ntmps45
    go_wp2
    go_ret
    exact ⟨rfl, hb⟩
  · rw [decide_eq_false hh]
    rcases not_has2 hh with h0 | ⟨h0, h1⟩ | ⟨h0, h1, h2⟩ | ⟨h0, h1, h2, h3⟩ <;>
    · go_enter Try.func45, Try.ntmps45
      go_wp2
      go_ret
      exact ⟨rfl, hb⟩

/-- what a plot leaves in the document's -/
def Rplotted (w : World) (base g n c W H : Nat) (back : Int) (ps : List Pix) (x y d cc : Int) (e : Ending) (w' : World) : Prop :=
  e = .returned (.tuple #[.bool (plotIs W H ps x y d), .int .i64 (plotE W H x y)]) ∧ RefS w' base g n c W H back (plotR W H ps x y d cc) ∧ Off (fun k => k = g) w w'

set_option maxHeartbeats 1000000 in
theorem rplot_any (h : RefS w base g n c W H back ps) (x y d cc : Int) (hp : okPix (true, d, cc)) :
    Calls Try.prog 29 #[refV g n c W H back, .int .i64 x, .int .i64 y, .int .i32 d, .int .u32 cc] w (Rplotted w base g n c W H back ps x y d cc) := by
  have hbx := (Below.refl w.heap.size w).alloc (Nat.le_refl _) (.cells #[.int .i64 W, .int .i64 H, .int .u32 back, .slice (some ⟨g, 0, none⟩) n c] 31)
  have hsee := has_any g n c W H back x y (w.alloc (.cells #[.int .i64 W, .int .i64 H, .int .u32 back, .slice (some ⟨g, 0, none⟩) n c] 31))
  have hblk := Blk.new w 31 #[.int .i64 W, .int .i64 H, .int .u32 back, .slice (some ⟨g, 0, none⟩) n c]
  unfold refV at *
  by_cases hh : hasP W H x y
  · rw [decide_eq_true hh] at hsee
    have hk := h.sz.spot hh
    have hsz := h.sz.plot x y hp
    have e1 : plotE W H x y = 0 := by simp [plotE, hh]
    have e2 : plotIs W H ps x y d = near (px ps (spot W x y)) d := by simp [plotIs, hh]
    have e3 : plotR W H ps x y d cc = if near (px ps (spot W x y)) d then ps.set (spot W x y) (true, d, cc) else ps := by unfold plotR; rw [e2]
    unfold Rplotted
    rw [e1, e2]
    rw [e3] at hsz ⊢
    obtain ⟨m, hm, hkk, hle⟩ := spot_parts hh h.sz.w2 h.sz.h2
    generalize spot W x y = k at hk hkk hsz ⊢
    clear e1 e2 e3
    have hnle := h.sz.le
    have q0 := hh.1
    rcases hq : px ps k with ⟨b, dp, cl⟩
    rw [hq] at hsz
    have hbase : near (b, dp, cl) d = true ∨ (b = true ∧ decide (dp ≤ d) = true ∧ near (b, dp, cl) d = false) := by
      rcases b with _ | _
      · exact .inl rfl
      · rcases hd : decide (dp ≤ d) with _ | _
        · left; simp [near, hd]
        · right; simp [near, hd]
    rcases hbase with hn | ⟨rfl, hd, hn⟩
    · rw [hn] at hsz ⊢
      simp only [if_true] at hsz ⊢
      have hd : b = false ∨ (b = true ∧ decide (dp ≤ d) = false) := by
        rcases b with _ | _
        · exact .inl rfl
        · right; simpa [near] using hn
      clear hn
      rcases hd with rfl | ⟨rfl, hd⟩
      · go_enter Try.func29, Try.ntmps29
        go_wp2_with fail
        refine hsee.mono ?_
        rintro e w1 ⟨rfl, hb1⟩
        have hb := below_cut hbx hb1 (Nat.le_refl _)
        have hr := h.below hb
        have kb := hblk.below hb1 hblk.lt
        have p0 := kb.cell 0
        have p3 := kb.cell 3
        simp at p0 p3
        have c0 := st_c0 hr.row hk
        have d1 := (own_px_at hr.row hk).2.1
        have c1 := st_c1 hr.row hk
        have c2 := st_c2 hr.row hk
        have f0 := st_f0 hr.row k
        have f1 := st_f1 hr.row k
        have f2 := st_f2 hr.row k
        simp only [hq] at c0 c1 c2 d1
        clear hblk hsee hbx kb
        go_wp2
        go_ret2
        exact ⟨rfl, hr.set3 (p := (true, d, cc)) hk hsz, (Off.of_below _ hb).trans (off_set3 _ g k _ _ _)⟩
      · go_enter Try.func29, Try.ntmps29
        go_wp2_with fail
        refine hsee.mono ?_
        rintro e w1 ⟨rfl, hb1⟩
        have hb := below_cut hbx hb1 (Nat.le_refl _)
        have hr := h.below hb
        have kb := hblk.below hb1 hblk.lt
        have p0 := kb.cell 0
        have p3 := kb.cell 3
        simp at p0 p3
        have c0 := st_c0 hr.row hk
        have d1 := (own_px_at hr.row hk).2.1
        have c1 := st_c1 hr.row hk
        have c2 := st_c2 hr.row hk
        have f0 := st_f0 hr.row k
        have f1 := st_f1 hr.row k
        have f2 := st_f2 hr.row k
        simp only [hq] at c0 c1 c2 d1
        clear hblk hsee hbx kb
        go_wp2
        go_ret2
        exact ⟨rfl, hr.set3 (p := (true, d, cc)) hk hsz, (Off.of_below _ hb).trans (off_set3 _ g k _ _ _)⟩
    · rw [hn] at hsz ⊢
      simp only [Bool.false_eq_true, if_false] at hsz ⊢
      go_enter Try.func29, Try.ntmps29
      go_wp2_with fail
      refine hsee.mono ?_
      rintro e w1 ⟨rfl, hb1⟩
      have hb := below_cut hbx hb1 (Nat.le_refl _)
      have hr := h.below hb
      have kb := hblk.below hb1 hblk.lt
      have p0 := kb.cell 0
      have p3 := kb.cell 3
      simp at p0 p3
      have c0 := st_c0 hr.row hk
      have d1 := (own_px_at hr.row hk).2.1
      simp only [hq] at c0 d1
      clear hblk hsee hbx kb
      go_wp2
      go_ret2
      exact ⟨rfl, hr, Off.of_below _ hb⟩
  · rw [decide_eq_false hh] at hsee
    have e1 : plotE W H x y = 3 := by simp [plotE, hh]
    have e2 : plotIs W H ps x y d = false := by simp [plotIs, hh]
    have e3 : plotR W H ps x y d cc = ps := by unfold plotR; rw [e2]; simp
    unfold Rplotted
    rw [e1, e2, e3]
    go_enter Try.func29, Try.ntmps29
    go_wp2_with fail
    refine hsee.mono ?_
    rintro e w1 ⟨rfl, hb1⟩
    have hb := below_cut hbx hb1 (Nat.le_refl _)
    go_wp2
    go_ret2
    exact ⟨rfl, h.below hb, Off.of_below _ hb⟩
end
end Go.Proofs.Ytfciaefjilobaaa
