/- Walks: a pixel looked at, in a canvas and in the document's; whether they are the same. -/
import Derived.Test.YtfciaefjilobaaaPlot
import Derived.Deep.RegionHeld3
namespace Go.Proofs.Ytfciaefjilobaaa
open Go.RowKit

/-- the colour that is seen -/
def seenC (ps : List Pix) (back : Int) (k : Nat) : Int := if (px ps k).1 then (px ps k).2.2 else back

section
variable {w : World} {base g gp n c W H : Nat} {back : Int} {ps : List Pix}
theorem seen_any (h : CanS w base g gp n c W H back ps) (k : Nat) (hk : k < n) :
    Calls Try.prog 39 #[.pointer (some ⟨g, 0, none⟩), .int .i64 k] w fun e w' => e = .returned (.int .u32 (seenC ps back k)) ∧ w' = w := by
  have p3 := h.blk.cell 3
  have p2 := h.blk.cell 2
  simp at p2 p3
  obtain ⟨c0, _, c2⟩ := own_px_at h.row hk
  have hle := h.sz.le
  unfold seenC
  rcases hq : (px ps k).1 with _ | _
  · rw [hq] at c0
    simp only [Bool.false_eq_true, if_false]
    go_enter Try.func39, Try.ntmps39
    go_wp2
    go_ret
    exact ⟨rfl, rfl⟩
  · rw [hq] at c0
    simp only [if_true]
    go_enter Try.func39, Try.ntmps39
    go_wp2
    go_ret
    exact ⟨rfl, rfl⟩
/-- what At answers -/
def atC (W H : Nat) (ps : List Pix) (back x y : Int) : Int := if hasP W H x y then seenC ps back (spot W x y) else 0
def atD (W H : Nat) (ps : List Pix) (x y : Int) : Int := if hasP W H x y then (px ps (spot W x y)).2.1 else 0
def atB (W H : Nat) (ps : List Pix) (x y : Int) : Bool := decide (hasP W H x y) && (px ps (spot W x y)).1

set_option maxHeartbeats 1000000 in
theorem at_any (h : CanS w base g gp n c W H back ps) (x y : Int) :
    Calls Try.prog 20 #[.pointer (some ⟨g, 0, none⟩), .int .i64 x, .int .i64 y] w fun e w' =>
      e = .returned (.tuple #[.int .u32 (atC W H ps back x y), .int .i32 (atD W H ps x y), .bool (atB W H ps x y), .int .i64 (plotE W H x y)]) ∧ Drawn w w' := by
  by_cases hh : hasP W H x y
  · have e1 : plotE W H x y = 0 := by simp [plotE, hh]
    have e2 : atC W H ps back x y = seenC ps back (spot W x y) := by simp [atC, hh]
    have e3 : atD W H ps x y = (px ps (spot W x y)).2.1 := by simp [atD, hh]
    have e4 : atB W H ps x y = (px ps (spot W x y)).1 := by simp [atB, hh]
    rw [e1, e2, e3, e4]
    have hk := h.sz.spot hh
    have hf := find_in h x y hh
    generalize spot W x y = k at hk hf ⊢
    have p3 := h.blk.cell 3
    simp at p3
    obtain ⟨c0, c1, _⟩ := own_px_at h.row hk
    have hle := h.sz.le
    go_enter Try.func20, Try.ntmps20
    go_wp2_with fail
    refine hf.mono ?_
    rintro e w1 ⟨rfl, rfl⟩
    go_wp2_with fail
    go_quiet ((go_at_call 39; exact Calls.quiet_of_same (seen_any (h.below (below_drewN (Below.refl _ _) _)) k hk)))
    go_wp2
    (try simp only [Exit.inBlock, Exit.then]); refine bodyPost_ret (results_tmp4 rfl _ _ _) rfl ?_
    exact ⟨rfl, Drawn.mk _ _⟩
  · have e1 : plotE W H x y = 3 := by simp [plotE, hh]
    have e2 : atC W H ps back x y = 0 := by simp [atC, hh]
    have e3 : atD W H ps x y = 0 := by simp [atD, hh]
    have e4 : atB W H ps x y = false := by simp [atB, hh]
    rw [e1, e2, e3, e4]
    go_enter Try.func20, Try.ntmps20
    go_wp2_with fail
    refine (find_out h x y hh).mono ?_
    rintro e w1 ⟨rfl, rfl⟩
    go_wp2
    (try simp only [Exit.inBlock, Exit.then]); refine bodyPost_ret (results_tmp4 rfl _ _ _) rfl ?_
    exact ⟨rfl, Drawn.refl _⟩
end

section
variable {w : World} {base g n c W H : Nat} {back : Int} {ps : List Pix}
theorem rseen_any (h : RefS w base g n c W H back ps) (k : Nat) (hk : k < n) :
    Calls Try.prog 40 #[refV g n c W H back, .int .i64 k] w fun e w' => e = .returned (.int .u32 (seenC ps back k)) ∧ Below w.heap.size w w' := by
  have hb := (Below.refl w.heap.size w).alloc (Nat.le_refl _) (.cells #[.int .i64 W, .int .i64 H, .int .u32 back, .slice (some ⟨g, 0, none⟩) n c] 31)
  obtain ⟨c0, _, c2⟩ := own_px_at (h.below hb).row hk
  have hle := h.sz.le
  unfold seenC refV
  rcases hq : (px ps k).1 with _ | _
  · rw [hq] at c0
    simp only [Bool.false_eq_true, if_false]
    go_enter Try.func40, Try.ntmps40
    go_wp2
    go_ret
    exact ⟨rfl, hb⟩
  · rw [hq] at c0
    simp only [if_true]
    go_enter Try.func40, Try.ntmps40
    go_wp2
    go_ret
    exact ⟨rfl, hb⟩

set_option maxHeartbeats 1000000 in
theorem rat_any (h : RefS w base g n c W H back ps) (x y : Int) :
    Calls Try.prog 30 #[refV g n c W H back, .int .i64 x, .int .i64 y] w fun e w' =>
      e = .returned (.tuple #[.int .u32 (atC W H ps back x y), .int .i32 (atD W H ps x y), .bool (atB W H ps x y), .int .i64 (plotE W H x y)]) ∧ Below w.heap.size w w' := by
  have hbx := (Below.refl w.heap.size w).alloc (Nat.le_refl _) (.cells #[.int .i64 W, .int .i64 H, .int .u32 back, .slice (some ⟨g, 0, none⟩) n c] 31)
  have hsee := has_any g n c W H back x y (w.alloc (.cells #[.int .i64 W, .int .i64 H, .int .u32 back, .slice (some ⟨g, 0, none⟩) n c] 31))
  have hblk := Blk.new w 31 #[.int .i64 W, .int .i64 H, .int .u32 back, .slice (some ⟨g, 0, none⟩) n c]
  have hsn := fun w' (h' : RefS w' base g n c W H back ps) k hk => rseen_any h' k hk
  unfold refV at *
  by_cases hh : hasP W H x y
  · rw [decide_eq_true hh] at hsee
    have e1 : plotE W H x y = 0 := by simp [plotE, hh]
    have e2 : atC W H ps back x y = seenC ps back (spot W x y) := by simp [atC, hh]
    have e3 : atD W H ps x y = (px ps (spot W x y)).2.1 := by simp [atD, hh]
    have e4 : atB W H ps x y = (px ps (spot W x y)).1 := by simp [atB, hh]
    rw [e1, e2, e3, e4]
    have hk := h.sz.spot hh
    obtain ⟨m, hm, hkk, hle⟩ := spot_parts hh h.sz.w2 h.sz.h2
    generalize spot W x y = k at hk hkk ⊢
    have hnle := h.sz.le
    have q0 := hh.1
    clear e1 e2 e3 e4
    go_enter Try.func30, Try.ntmps30
    go_wp2_with fail
    refine hsee.mono ?_
    rintro e w1 ⟨rfl, hb1⟩
    have hb := below_cut hbx hb1 (Nat.le_refl _)
    have hr := h.below hb
    have kb := hblk.below hb1 hblk.lt
    have hglt := kb.lt
    have hgq := hr.lt.2
    have p0 := kb.cell 0
    have p1 := kb.cell 1
    have p2 := kb.cell 2
    have p3 := kb.cell 3
    simp at p0 p1 p2 p3
    obtain ⟨c0, c1, _⟩ := own_px_at hr.row hk
    clear hblk hsee hbx kb
    go_wp2_with fail
    have hb0 := (Below.refl w1.heap.size w1).drew
    have hs1 := hsn _ (hr.below hb0) k hk
    go_region_held3 (fun w' => w'.cell? ⟨w.heap.size, 0, none⟩ = some (.int .i64 W) ∧ w'.cell? ⟨w.heap.size, 1, none⟩ = some (.int .i64 H) ∧ w'.cell? ⟨w.heap.size, 2, none⟩ = some (.int .u32 back) ∧ w'.cell? ⟨w.heap.size, 3, none⟩ = some (.slice (some ⟨g, 0, none⟩) n c) ∧ w'.cell? ⟨g, k * 3, none⟩ = some (.bool (px ps k).1) ∧ w'.cell? ⟨g, k * 3 + 1, none⟩ = some (.int .i32 (px ps k).2.1) ∧ Below w1.heap.size w1 w') (first | exact ⟨p0, p1, p2, p3, c0, c1, hb0⟩ | (go_split_ands; exact ⟨by assumption, by assumption, by assumption, by assumption, by assumption, by assumption, by assumption⟩) | (have hz := below_cut hb0 hbq (Nat.le_refl _); exact ⟨(hz.cell hglt).trans p0, (hz.cell hglt).trans p1, (hz.cell hglt).trans p2, (hz.cell hglt).trans p3, (hz.cell hgq).trans c0, (hz.cell hgq).trans c1, hz⟩)) ((first | (go_at_call 40; refine hs1.mono ?_; rintro e w' ⟨rfl, hbq⟩)))
    have hz : Below w1.heap.size w1 w' := by go_split_ands; assumption
    go_wp2
    (try simp only [Exit.inBlock, Exit.then]); refine bodyPost_ret (results_tmp4 rfl _ _ _) rfl ?_
    exact ⟨rfl, below_cut hb hz (Nat.le_refl _)⟩
  · rw [decide_eq_false hh] at hsee
    have e1 : plotE W H x y = 3 := by simp [plotE, hh]
    have e2 : atC W H ps back x y = 0 := by simp [atC, hh]
    have e3 : atD W H ps x y = 0 := by simp [atD, hh]
    have e4 : atB W H ps x y = false := by simp [atB, hh]
    rw [e1, e2, e3, e4]
    go_enter Try.func30, Try.ntmps30
    go_wp2_with fail
    refine hsee.mono ?_
    rintro e w1 ⟨rfl, hb1⟩
    have hb := below_cut hbx hb1 (Nat.le_refl _)
    go_wp2
    (try simp only [Exit.inBlock, Exit.then]); refine bodyPost_ret (results_tmp4 rfl _ _ _) rfl ?_
    exact ⟨rfl, hb⟩
end
end Go.Proofs.Ytfciaefjilobaaa
