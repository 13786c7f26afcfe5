/- Walks: edge.Clamp, held, line.side, line.top, Side, Area. -/
import Derived.Test.YtkmdeaffhneibaaRows
import Derived.Test.YtkmdeaffhneibaaMem
import Derived.Test.YtkmdeaffhneibaaTail
import Derived.Test.YtkmdeaffhneibaaFanRows
import Derived.Deep.RegionHeld3
namespace Go.Proofs.Ytkmdeaffhneibaa
open Go.RowKit

theorem clamp_any (x : Int) (w : World) :
    Calls Try.prog 6 #[.int .i32 x] w fun e w' => e = .returned (.int .i32 (clampI x)) ∧ w = w' := by
  go_enter Try.func6, Try.ntmps6
  go_wp2
  all_goals
    go_ret
    exact ⟨ret_int (by unfold clampI; repeat' (split at *) <;> omega), rfl⟩

def ptV (p : Int × Int × Int) : Value := .agg #[.int .i32 p.1, .int .i32 p.2.1, .int .i32 p.2.2]
def holdP (p : Int × Int × Int) : Vec := (clampI p.1, clampI p.2.1)
def placeV (p : Vec) : Value := .agg #[.int .i64 p.1, .int .i64 p.2]
def lineV (a b : Vec) : Value := .agg #[.int .i64 a.1, .int .i64 a.2, .int .i64 b.1, .int .i64 b.2]
/-- within sixteen bits -/
def Vec16 (p : Vec) : Prop := (-32768 ≤ p.1 ∧ p.1 ≤ 32767) ∧ -32768 ≤ p.2 ∧ p.2 ≤ 32767
theorem holdP_16 (p : Int × Int × Int) : Vec16 (holdP p) := ⟨clampI_range _, clampI_range _⟩

theorem mul_bd {x y : Int} (hx : -65535 ≤ x ∧ x ≤ 65535) (hy : -65535 ≤ y ∧ y ≤ 65535) : -4294836225 ≤ x * y ∧ x * y ≤ 4294836225 := by
  have h1 : (65535 - x) * (65535 - y) ≥ 0 := Int.mul_nonneg (by omega) (by omega)
  have h2 : (65535 + x) * (65535 + y) ≥ 0 := Int.mul_nonneg (by omega) (by omega)
  have h3 : (65535 - x) * (65535 + y) ≥ 0 := Int.mul_nonneg (by omega) (by omega)
  have h4 : (65535 + x) * (65535 - y) ≥ 0 := Int.mul_nonneg (by omega) (by omega)
  constructor <;> grind

set_option maxHeartbeats 1000000 in
theorem held_any (x y z : Int) (w : World) :
    Calls Try.prog 8 #[.agg #[.int .i32 x, .int .i32 y, .int .i32 z]] w fun e w' => e = .returned (.agg #[.int .i64 (clampI x), .int .i64 (clampI y)]) ∧ Below w.heap.size w w' := by
  have hx := clampI_range x
  have hy := clampI_range y
  go_enter Try.func8, Try.ntmps8
  go_wp2
  refine wp_region_tail 9 (by kernel_rfl) (by kernel_rfl) ?_
  simp only [List.take_succ_cons, List.take_zero, List.drop_succ_cons, List.drop_zero]
  repeat (go_big_quiet_step (fail))
  refine wpQuiet_step fun K hK => ?_
  go_simp
  refine ⟨_, (clamp_any _ _).mono (fun _ _ h => ⟨h.1, h.2.symm⟩), hK _ ?_⟩
  clear hK K
  repeat (go_big_quiet_step (fail))
  refine wpQuiet_step fun K hK => ?_
  go_simp
  refine ⟨_, (clamp_any _ _).mono (fun _ _ h => ⟨h.1, h.2.symm⟩), hK _ ?_⟩
  clear hK K
  repeat (go_big_quiet_step (fail))
  refine wpQuiet_nil ?_
  go_wp2
  exact bodyPost_ret (v := .agg #[.int .i64 (clampI x), .int .i64 (clampI y)]) (by simp [results, Try.results8, go_sem]) rfl ⟨rfl, (((Below.refl _ _).alloc (Nat.le_refl _) _).alloc (by simp) _).drew⟩

set_option maxHeartbeats 1000000 in
theorem side_any (a b p : Vec) (w : World) (ha : Vec16 a) (hb : Vec16 b) (hp : Vec16 p) :
    Calls Try.prog 9 #[lineV a b, placeV p] w fun e w' => e = .returned (.int .i64 (sideI a b p)) ∧ Below w.heap.size w w' := by
  obtain ⟨a1, a2⟩ := a
  obtain ⟨b1, b2⟩ := b
  obtain ⟨p1, p2⟩ := p
  obtain ⟨ha1, ha2⟩ := ha
  obtain ⟨hb1, hb2⟩ := hb
  obtain ⟨hp1, hp2⟩ := hp
  simp only at ha1 ha2 hb1 hb2 hp1 hp2
  have hm1 := mul_bd (x := b1 - a1) (y := p2 - a2) (by omega) (by omega)
  have hm2 := mul_bd (x := b2 - a2) (y := p1 - a1) (by omega) (by omega)
  unfold lineV placeV
  simp only
  go_enter Try.func9, Try.ntmps9
  go_wp2
  go_ret
  exact ⟨rfl, ((Below.refl _ _).alloc (Nat.le_refl _) _).alloc (by simp) _⟩

theorem four {w : World} {g : Nat} {x y z u : Value} (h : ∀ i, w.cell? ⟨g, i, none⟩ = #[x, y, z, u][i]?) : w.cell? ⟨g, 0, none⟩ = some x ∧ w.cell? ⟨g, 1, none⟩ = some y ∧ w.cell? ⟨g, 2, none⟩ = some z ∧ w.cell? ⟨g, 3, none⟩ = some u := ⟨h 0, h 1, h 2, h 3⟩
theorem cell_new {W : World} {a : Addr} {v : Value} (o : Obj) (h : W.cell? a = some v) : (W.alloc o).cell? a = some v := by
  have hl : a.block < W.heap.size := by
    rcases Nat.lt_or_ge a.block W.heap.size with h' | h'
    · exact h'
    · unfold World.cell? at h; rw [Array.getElem?_eq_none h'] at h; cases h
  exact (World.cell?_alloc_lt W o a hl).trans h
theorem three {w : World} {g : Nat} {x y z : Value} (h : ∀ i, w.cell? ⟨g, i, none⟩ = #[x, y, z][i]?) : w.cell? ⟨g, 0, none⟩ = some x ∧ w.cell? ⟨g, 1, none⟩ = some y ∧ w.cell? ⟨g, 2, none⟩ = some z := ⟨h 0, h 1, h 2⟩
set_option maxHeartbeats 1000000 in
theorem top_any (a b : Vec) (w : World) :
    Calls Try.prog 20 #[lineV a b] w fun e w' => e = .returned (.bool (topB a b)) ∧ Below w.heap.size w w' := by
  obtain ⟨a1, a2⟩ := a
  obtain ⟨b1, b2⟩ := b
  unfold lineV topB
  simp only
  by_cases h1 : b2 < a2
  · have d1 := decide_eq_true h1
    go_enter Try.func20, Try.ntmps20
    go_wp2
    go_ret
    exact ⟨ret_bool (by simp [h1]), (Below.refl _ _).alloc (Nat.le_refl _) _⟩
  · have d1 := decide_eq_false h1
    by_cases h2 : b2 = a2
    · subst h2
      go_enter Try.func20, Try.ntmps20
      go_wp2
      go_ret
      exact ⟨ret_bool (by simp), (Below.refl _ _).alloc (Nat.le_refl _) _⟩
    · have d2 : (b2 == a2) = false := by simpa using h2
      go_enter Try.func20, Try.ntmps20
      go_wp2
      go_ret
      exact ⟨ret_bool (by simp), (Below.refl _ _).alloc (Nat.le_refl _) _⟩

set_option maxHeartbeats 2000000 in
theorem Side_any (a b p : Int × Int × Int) (w : World) :
    Calls Try.prog 5 #[ptV a, ptV b, ptV p] w fun e w' => e = .returned (.int .i64 (sideI (holdP a) (holdP b) (holdP p))) ∧ Below w.heap.size w w' := by
  obtain ⟨a1, a2, a3⟩ := a
  obtain ⟨b1, b2, b3⟩ := b
  obtain ⟨p1, p2, p3⟩ := p
  unfold ptV
  simp only
  go_enter Try.func5, Try.ntmps5
  go_wp2
  have hb1 : Below w.heap.size w (((w.alloc (.cells #[.int .i32 a1, .int .i32 a2, .int .i32 a3] 27)).alloc (.cells #[.int .i32 b1, .int .i32 b2, .int .i32 b3] 27)).alloc (.cells #[.int .i32 p1, .int .i32 p2, .int .i32 p3] 27)) := (((Below.refl _ _).alloc (Nat.le_refl _) _).alloc (by simp) _).alloc (by simp; omega) _
  have k0 := (((Blk.new w 27 #[.int .i32 a1, .int .i32 a2, .int .i32 a3]).alloc (.cells #[.int .i32 b1, .int .i32 b2, .int .i32 b3] 27)).alloc (.cells #[.int .i32 p1, .int .i32 p2, .int .i32 p3] 27)).cell
  have k1 := ((Blk.new (w.alloc (.cells #[.int .i32 a1, .int .i32 a2, .int .i32 a3] 27)) 27 #[.int .i32 b1, .int .i32 b2, .int .i32 b3]).alloc (.cells #[.int .i32 p1, .int .i32 p2, .int .i32 p3] 27)).cell
  have k2 := (Blk.new ((w.alloc (.cells #[.int .i32 a1, .int .i32 a2, .int .i32 a3] 27)).alloc (.cells #[.int .i32 b1, .int .i32 b2, .int .i32 b3] 27)) 27 #[.int .i32 p1, .int .i32 p2, .int .i32 p3]).cell
  obtain ⟨q0, q1, q2⟩ := three k0
  obtain ⟨q3, q4, q5⟩ := three k1
  obtain ⟨q6, q7, q8⟩ := three k2
  simp only [World.size_alloc] at q3 q4 q5 q6 q7 q8
  clear k0 k1 k2
  have hl : w.heap.size + 3 ≤ (((w.alloc (.cells #[.int .i32 a1, .int .i32 a2, .int .i32 a3] 27)).alloc (.cells #[.int .i32 b1, .int .i32 b2, .int .i32 b3] 27)).alloc (.cells #[.int .i32 p1, .int .i32 p2, .int .i32 p3] 27)).heap.size := by simp
  have hn : w.heap.size ≤ (((w.alloc (.cells #[.int .i32 a1, .int .i32 a2, .int .i32 a3] 27)).alloc (.cells #[.int .i32 b1, .int .i32 b2, .int .i32 b3] 27)).alloc (.cells #[.int .i32 p1, .int .i32 p2, .int .i32 p3] 27)).heap.size := by simp; omega
  generalize ((w.alloc (.cells #[.int .i32 a1, .int .i32 a2, .int .i32 a3] 27)).alloc (.cells #[.int .i32 b1, .int .i32 b2, .int .i32 b3] 27)).alloc (.cells #[.int .i32 p1, .int .i32 p2, .int .i32 p3] 27) = w1 at *
  go_region_held3 (fun w' => w'.cell? ⟨w.heap.size, 0, none⟩ = some (.int .i32 a1) ∧ w'.cell? ⟨w.heap.size, 1, none⟩ = some (.int .i32 a2) ∧ w'.cell? ⟨w.heap.size, 2, none⟩ = some (.int .i32 a3) ∧ w'.cell? ⟨w.heap.size + 1, 0, none⟩ = some (.int .i32 b1) ∧ w'.cell? ⟨w.heap.size + 1, 1, none⟩ = some (.int .i32 b2) ∧ w'.cell? ⟨w.heap.size + 1, 2, none⟩ = some (.int .i32 b3) ∧ w'.cell? ⟨w.heap.size + 2, 0, none⟩ = some (.int .i32 p1) ∧ w'.cell? ⟨w.heap.size + 2, 1, none⟩ = some (.int .i32 p2) ∧ w'.cell? ⟨w.heap.size + 2, 2, none⟩ = some (.int .i32 p3) ∧ Below w1.heap.size w1 w') (first | exact ⟨q0, q1, q2, q3, q4, q5, q6, q7, q8, (Below.refl _ _).drew⟩ | (go_split_ands; exact ⟨by assumption, by assumption, by assumption, by assumption, by assumption, by assumption, by assumption, by assumption, by assumption, by assumption⟩) | (go_split_ands; have hz : Below w1.heap.size w1 _ := below_cut (by assumption) hbq (Nat.le_refl _); exact ⟨(hz.cell (by simp; omega)).trans q0, (hz.cell (by simp; omega)).trans q1, (hz.cell (by simp; omega)).trans q2, (hz.cell (by simp; omega)).trans q3, (hz.cell (by simp; omega)).trans q4, (hz.cell (by simp; omega)).trans q5, (hz.cell (by simp; omega)).trans q6, (hz.cell (by simp; omega)).trans q7, (hz.cell (by simp; omega)).trans q8, hz⟩)) ((first | (go_at_call 8; refine (held_any _ _ _ _).mono ?_; rintro e w' ⟨rfl, hbq⟩) | (go_at_call 9; refine (side_any (clampI a1, clampI a2) (clampI b1, clampI b2) (clampI p1, clampI p2) _ ⟨clampI_range _, clampI_range _⟩ ⟨clampI_range _, clampI_range _⟩ ⟨clampI_range _, clampI_range _⟩).mono ?_; rintro e w' ⟨rfl, hbq⟩)))
  all_goals
    go_split_ands
    have hz : Below w1.heap.size w1 w' := by assumption
    go_wp2
    go_ret
    exact ⟨rfl, hb1.trans (hz.mono hn)⟩

def triV (t : (Int × Int × Int) × (Int × Int × Int) × (Int × Int × Int)) : Value :=
  .agg #[.int .i32 t.1.1, .int .i32 t.1.2.1, .int .i32 t.1.2.2, .int .i32 t.2.1.1, .int .i32 t.2.1.2.1, .int .i32 t.2.1.2.2, .int .i32 t.2.2.1, .int .i32 t.2.2.2.1, .int .i32 t.2.2.2.2]
theorem area_any (t : (Int × Int × Int) × (Int × Int × Int) × (Int × Int × Int)) (w : World) :
    Calls Try.prog 17 #[triV t] w fun e w' => e = .returned (.int .i64 (sideI (holdP t.1) (holdP t.2.1) (holdP t.2.2))) ∧ Below w.heap.size w w' := by
  obtain ⟨⟨a1, a2, a3⟩, ⟨b1, b2, b3⟩, p1, p2, p3⟩ := t
  unfold triV
  simp only
  go_enter Try.func17, Try.ntmps17
  go_wp2_with fail
  refine (Side_any (a1, a2, a3) (b1, b2, b3) (p1, p2, p3) _).mono ?_
  rintro e w' ⟨rfl, hb⟩
  go_wp2
  go_ret
  exact ⟨rfl, ((Below.refl _ _).alloc (Nat.le_refl _) _).trans (hb.mono (by simp))⟩

set_option maxHeartbeats 1000000 in
theorem covers1_any (a b m : Vec) (g : Nat) (w : World) (ha : Vec16 a) (hb : Vec16 b) (hm : Vec16 m) (c0 : w.cell? ⟨g, 0, none⟩ = some (.int .i64 m.1)) (c1 : w.cell? ⟨g, 1, none⟩ = some (.int .i64 m.2)) :
    Calls Try.prog 19 #[lineV a b, .pointer (some ⟨g, 0, none⟩)] w fun e w' => e = .returned (.bool (edgeB a b m)) ∧ Below w.heap.size w w' := by
  have d0 := fun o => cell_new o c0
  have d1 := fun o => cell_new o c1
  have hb1 : Below w.heap.size w (w.alloc (.cells #[.int .i64 a.1, .int .i64 a.2, .int .i64 b.1, .int .i64 b.2] 43)) := (Below.refl _ _).alloc (Nat.le_refl _) _
  have k := (Blk.new w 43 #[.int .i64 a.1, .int .i64 a.2, .int .i64 b.1, .int .i64 b.2])
  have hS := side_any a b m (w.alloc (.cells #[.int .i64 a.1, .int .i64 a.2, .int .i64 b.1, .int .i64 b.2] 43)) ha hb hm
  unfold lineV placeV at *
  go_enter Try.func19, Try.ntmps19
  go_wp2_with fail
  refine hS.mono ?_
  rintro e w' ⟨rfl, hb2⟩
  obtain ⟨k0, k1, k2, k3⟩ := four (k.below hb2 (by simp)).cell
  clear hS d0 d1 c0 c1 k
  have hb3 := below_cut hb1 hb2 (Nat.le_refl _)
  generalize hs : sideI a b m = s at *
  have Hs := Lib.hid hs; clear hs
  by_cases h1 : 0 < s
  · go_wp2_with fail
    go_ret
    exact ⟨ret_bool (by unfold edgeB; rw [Hs.out]; simp [h1]), hb3⟩
  · by_cases h2 : s = 0
    · subst h2
      go_wp2_with fail
      refine (top_any a b _).mono ?_
      rintro e w2 ⟨rfl, hb4⟩
      go_wp2_with fail
      go_ret
      exact ⟨ret_bool (by unfold edgeB; rw [Hs.out]; simp), below_cut hb3 hb4 (Nat.le_refl _)⟩
    · have e2 : (s == 0) = false := by simpa using h2
      go_wp2_with fail
      go_ret
      exact ⟨ret_bool (by unfold edgeB; rw [Hs.out]; simp [h2]), hb3⟩
end Go.Proofs.Ytkmdeaffhneibaa
