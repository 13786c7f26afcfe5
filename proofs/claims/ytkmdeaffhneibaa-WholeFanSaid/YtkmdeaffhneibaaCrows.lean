/- Walks: cover.Rows, Count. -/
import Derived.Test.YtkmdeaffhneibaaCrow
import Derived.Maps.AppendAt
namespace Go.Proofs.Ytkmdeaffhneibaa
open Go.RowKit Go.BigFrame

theorem slRow : SliceOf Try.prog 33 37 (.agg #[.int .i64 0, .int .i64 0, .int .i64 0]) 3 24 := ⟨Try.underlying33, by kernel_rfl, rfl, by decide⟩
def rowC (r : RowI) : List Value := [.int .i64 r.1, .int .i64 r.2.1, .int .i64 r.2.2]
def RowCs (l : List RowI) : List Value := l.flatMap rowC
theorem RowCs_append (l l' : List RowI) : RowCs (l ++ l') = RowCs l ++ RowCs l' := by simp [RowCs]
theorem rows_lit (w : World) (r : RowI) : Reads (w.alloc (.cells #[.int .i64 r.1, .int .i64 r.2.1, .int .i64 r.2.2] 37)) (w.heap.size + 1) 3 (some ⟨w.heap.size, 0, none⟩) 1 (rowC r) := by
  have k := Blk.new w 37 #[.int .i64 r.1, .int .i64 r.2.1, .int .i64 r.2.2]
  refine ⟨rfl, fun _ => ⟨_, rfl, by simp, fun j u hu => ?_⟩⟩
  have h := k.cell j
  rw [← h] at *
  simp only [rowC] at hu
  have : (⟨w.heap.size, 0, none⟩ : Addr).add j = ⟨w.heap.size, j, none⟩ := by
    unfold Addr.add
    split
    · rename_i h0; rw [h0]
    · simp
  rw [this, h]
  simpa using hu

theorem box_is (a1 a2 a3 b1 b2 b3 p1 p2 p3 : Int) (x y : Int) (w : World) (hx : 1 ≤ x ∧ x ≤ 1024) (hy : 1 ≤ y ∧ y ≤ 1024) :
    Calls Try.prog 11 #[triV ((a1, a2, a3), (b1, b2, b3), (p1, p2, p3)), .int .i64 x, .int .i64 y] w fun e w' =>
      ∃ b : Bool, e = .returned (.tuple #[.agg #[.int .i64 (boxI (holdP (a1, a2, a3)) (holdP (b1, b2, b3)) (holdP (p1, p2, p3)) x y).1, .int .i64 (boxI (holdP (a1, a2, a3)) (holdP (b1, b2, b3)) (holdP (p1, p2, p3)) x y).2.1],
        .agg #[.int .i64 (boxI (holdP (a1, a2, a3)) (holdP (b1, b2, b3)) (holdP (p1, p2, p3)) x y).2.2.1, .int .i64 (boxI (holdP (a1, a2, a3)) (holdP (b1, b2, b3)) (holdP (p1, p2, p3)) x y).2.2.2], .bool b]) ∧ Below w.heap.size w w' := by
  refine (box_any a1 a2 a3 b1 b2 b3 p1 p2 p3 x y w hx hy (spanF (lo3 (holdP (a1, a2, a3)).1 (holdP (b1, b2, b3)).1 (holdP (p1, p2, p3)).1)) (spanT (hi3 (holdP (a1, a2, a3)).1 (holdP (b1, b2, b3)).1 (holdP (p1, p2, p3)).1) x) (spanF (lo3 (holdP (a1, a2, a3)).2 (holdP (b1, b2, b3)).2 (holdP (p1, p2, p3)).2)) (spanT (hi3 (holdP (a1, a2, a3)).2 (holdP (b1, b2, b3)).2 (holdP (p1, p2, p3)).2) y) rfl rfl rfl rfl).mono ?_
  rintro e w' ⟨rfl, hb⟩
  apply Exists.intro
  refine ⟨?_, hb⟩
  unfold boxI
  split
  · rfl
  · rfl

/-- what lies in the variables of Rows -/
structure RwsS (w : World) (a1 a2 a3 b1 b2 b3 p1 p2 p3 : Int) (g : Nat) (X1 X2 Y1 Y2 : Int) (W : World) : Prop where
  kt : Blk W w.heap.size 29 #[.int .i32 a1, .int .i32 a2, .int .i32 a3, .int .i32 b1, .int .i32 b2, .int .i32 b3, .int .i32 p1, .int .i32 p2, .int .i32 p3]
  kx : Blk W g 47 #[.int .i64 X1, .int .i64 X2]
  ky : Blk W (g + 1) 47 #[.int .i64 Y1, .int .i64 Y2]
  below : Below w.heap.size w W
section
variable {w W W' : World} {a1 a2 a3 b1 b2 b3 p1 p2 p3 : Int} {g : Nat} {X1 X2 Y1 Y2 : Int}
theorem RwsS.step (h : RwsS w a1 a2 a3 b1 b2 b3 p1 p2 p3 g X1 X2 Y1 Y2 W) (hb : Below W.heap.size W W') : RwsS w a1 a2 a3 b1 b2 b3 p1 p2 p3 g X1 X2 Y1 Y2 W' :=
  ⟨h.kt.step hb, h.kx.step hb, h.ky.step hb, below_cut h.below hb (Nat.le_refl _)⟩
theorem RwsS.alloc (h : RwsS w a1 a2 a3 b1 b2 b3 p1 p2 p3 g X1 X2 Y1 Y2 W) (o : Obj) : RwsS w a1 a2 a3 b1 b2 b3 p1 p2 p3 g X1 X2 Y1 Y2 (W.alloc o) := h.step ((Below.refl _ _).alloc (Nat.le_refl _) _)
theorem RwsS.grown {n : Nat} {v : Value} {xs : List Value} (h : RwsS w a1 a2 a3 b1 b2 b3 p1 p2 p3 g X1 X2 Y1 Y2 W) (ho : W.ownsRow w.heap.size 37 3 v n xs) (hg : W.grownBy W' v.ownBlock) : RwsS w a1 a2 a3 b1 b2 b3 p1 p2 p3 g X1 X2 Y1 Y2 W' :=
  ⟨h.kt.grown hg (fun e => own_blk_ne ho h.kt (by decide) e.symm), h.kx.grown hg (fun e => own_blk_ne ho h.kx (by decide) e.symm), h.ky.grown hg (fun e => own_blk_ne ho h.ky (by decide) e.symm), h.below.grown hg h.below.size (fun k e => (ho.lt k e).1)⟩
end

set_option maxRecDepth 100000 in
set_option maxHeartbeats 2000000 in
theorem rows_any (a1 a2 a3 b1 b2 b3 p1 p2 p3 : Int) (x y : Int) (w : World) (hx : 1 ≤ x ∧ x ≤ 1024) (hy : 1 ≤ y ∧ y ≤ 1024) (R : List RowI)
    (hR : R = rowsI (holdP (a1, a2, a3)) (holdP (b1, b2, b3)) (holdP (p1, p2, p3)) x y)
    (ha : 0 < sideI (holdP (a1, a2, a3)) (holdP (b1, b2, b3)) (holdP (p1, p2, p3))) :
    Calls Try.prog 7 #[triV ((a1, a2, a3), (b1, b2, b3), (p1, p2, p3)), .int .i64 x, .int .i64 y] w fun e w' =>
      ∃ A c, e = .returned (.tuple #[.slice A R.length c, .int .i64 0]) ∧ w'.ownsRow w.heap.size 37 3 (.slice A R.length c) R.length (RowCs R) ∧ Below w.heap.size w w' := by
  have hbb := box_bounds (holdP (a1, a2, a3)) (holdP (b1, b2, b3)) (holdP (p1, p2, p3)) x y (by omega) (by omega)
  have hBx := fun w => box_is a1 a2 a3 b1 b2 b3 p1 p2 p3 x y w hx hy
  unfold rowsI at hR
  generalize (boxI (holdP (a1, a2, a3)) (holdP (b1, b2, b3)) (holdP (p1, p2, p3)) x y) = B at *
  obtain ⟨X1, X2, Y1, Y2⟩ := B
  simp only at hbb hBx hR
  obtain ⟨x1, x2, x3, y1, y2, y3⟩ := hbb
  obtain ⟨cv, hcv⟩ : ∃ cv, cv = covP (holdP (a1, a2, a3)) (holdP (b1, b2, b3)) (holdP (p1, p2, p3)) := ⟨_, rfl⟩
  rw [← hcv] at hR
  have hRow := fun (yy : Int) (h : 0 ≤ yy ∧ yy < 1024) w => row_any a1 a2 a3 b1 b2 b3 p1 p2 p3 X1 X2 yy w ⟨x1, x2⟩ (by omega) h (fun u => cv u yy) (fun u => by rw [hcv]) ha
  obtain ⟨hx0, hx9⟩ := hx
  obtain ⟨hy0, hy9⟩ := hy
  have HR := Lib.hid hR
  clear hR hcv ha
  unfold triV at *
  simp only at hBx hRow ⊢
  have kt := Blk.new w 29 #[.int .i32 a1, .int .i32 a2, .int .i32 a3, .int .i32 b1, .int .i32 b2, .int .i32 b3, .int .i32 p1, .int .i32 p2, .int .i32 p3]
  have hb1 : Below w.heap.size w (w.alloc (.cells #[.int .i32 a1, .int .i32 a2, .int .i32 a3, .int .i32 b1, .int .i32 b2, .int .i32 b3, .int .i32 p1, .int .i32 p2, .int .i32 p3] 29)) := (Below.refl _ _).alloc (Nat.le_refl _) _
  go_enter Try.func7, Try.ntmps7
  go_wp2_with fail
  generalize w.alloc (.cells #[.int .i32 a1, .int .i32 a2, .int .i32 a3, .int .i32 b1, .int .i32 b2, .int .i32 b3, .int .i32 p1, .int .i32 p2, .int .i32 p3] 29) = w1 at *
  refine (picture_any x y _ ⟨hx0, hx9⟩ ⟨hy0, hy9⟩).mono ?_
  rintro e w' ⟨rfl, rfl⟩
  obtain ⟨q0, q1, q2, q3, q4, q5, q6, q7, q8⟩ := nine kt.cell
  go_wp2_with fail
  refine (hBx _).mono ?_
  rintro e w2 ⟨bb, rfl, hb2⟩
  clear q0 q1 q2 q3 q4 q5 q6 q7 q8 hBx
  have h0 : RwsS w a1 a2 a3 b1 b2 b3 p1 p2 p3 w2.heap.size X1 X2 Y1 Y2 ((w2.alloc (.cells #[.int .i64 X1, .int .i64 X2] 47)).alloc (.cells #[.int .i64 Y1, .int .i64 Y2] 47)) := by
    have ky := Blk.new (w2.alloc (.cells #[.int .i64 X1, .int .i64 X2] 47)) 47 #[.int .i64 Y1, .int .i64 Y2]
    rw [World.size_alloc] at ky
    exact ⟨((kt.step hb2).alloc _).alloc _, (Blk.new w2 _ _).alloc _, ky, ((below_cut hb1 hb2 (Nat.le_refl _)).alloc (below_cut hb1 hb2 (Nat.le_refl _)).size _).alloc (by have := (below_cut hb1 hb2 (Nat.le_refl _)).size; simp; omega) _⟩
  go_wp2_with fail
  generalize (w2.alloc (.cells #[.int .i64 X1, .int .i64 X2] 47)).alloc (.cells #[.int .i64 Y1, .int .i64 Y2] 47) = w3 at *
  generalize w2.heap.size = g at *
  clear hb2 hb1 kt
  go_loopw [8, 12] (fun v i wr => ∃ (k : Nat) (A : Option Addr) (c : Nat), k ≤ (Y2 - Y1).toNat ∧ i = .int .i64 (Y1 + k) ∧ v = .slice A (rowsUp cv X1 X2 Y1 k).length c ∧ wr.ownsRow w.heap.size 37 3 v (rowsUp cv X1 X2 Y1 k).length (RowCs (rowsUp cv X1 X2 Y1 k)) ∧ RwsS w a1 a2 a3 b1 b2 b3 p1 p2 p3 g X1 X2 Y1 Y2 wr) (fun _ i _ => (Y2 - intOf i).toNat)
  case atStart => exact ⟨0, none, 0, by omega, by simp, rfl, World.ownsRow_nil _ _ _ _, h0⟩
  case round =>
    obtain ⟨k, A, c, hk, rfl, rfl, ho, hS⟩ := hrel
    obtain ⟨q0, q1, q2, q3, q4, q5, q6, q7, q8⟩ := nine hS.kt.cell
    obtain ⟨r0, r1⟩ := two hS.kx.cell
    obtain ⟨s0, s1⟩ := two hS.ky.cell
    have hle := up_length cv X1 X2 Y1 k
    by_cases hlt : Y1 + (k : Int) < Y2
    · have d1 : decide (Y1 + (k : Int) < Y2) = true := by simpa using hlt
      go_wp2_with fail
      refine (hRow (Y1 + k) (by omega) _).mono ?_
      rintro e w4 ⟨rfl, hb4⟩
      have ho4 := own_below ho hb4
      have hS4 := hS.step hb4
      have hup : rowsUp cv X1 X2 Y1 (k + 1) = rowsUp cv X1 X2 Y1 k ++ rowAt cv X1 X2 (Y1 + k) := rfl
      unfold rowAt at hup
      have rb := row_bounds (fun u => cv u (Y1 + (k : Int))) X1 X2 x2
      clear q0 q1 q2 q3 q4 q5 q6 q7 q8 r0 r1 s0 s1 ho hS
      generalize rowF (fun u => cv u (Y1 + (k : Int))) X1 X2 = f at *
      generalize rowT (fun u => cv u (Y1 + (k : Int))) X1 X2 = t at *
      by_cases hft : f < t
      · have d2 : decide (f < t) = true := by simpa using hft
        rw [if_pos hft] at hup
        have HU := Lib.hid hup
        clear hup
        have ho5 := ho4.alloc (.cells #[.int .i64 (Y1 + (k : Int)), .int .i64 f, .int .i64 t] 37)
        have hS5 := hS4.alloc (.cells #[.int .i64 (Y1 + (k : Int)), .int .i64 f, .int .i64 t] 37)
        generalize hL : rowsUp cv X1 X2 Y1 k = L at *
        clear hL
        have hrl := rows_lit (w4.alloc (.cells #[.int .i64 (Y1 + (k : Int)), .int .i64 f, .int .i64 t] 37)) (Y1 + (k : Int), f, t)
        simp only [World.size_alloc] at hrl
        have hsz5 := hS5.below.size
        go_wp2_with (at_builtin; refine ap_any slRow _ rfl _ _ rfl w.heap.size _ L.length (RowCs L) rfl (ho5.alloc _) _ _ 1 1 (rowC (Y1 + (k : Int), f, t)) rfl hrl (by simp [rowC, Value.oneCell']) (by omega) (by omega) (by rw [World.size_alloc]; omega) ?_; intro A6 c6 w6 ho6 hg6 hat6)
        have hS6 := (hS5.alloc (.cells #[.int .i64 (Y1 + (k : Int)), .int .i64 f, .int .i64 t] 37)).grown (ho5.alloc _) hg6
        go_roundw
        case rel => exact ⟨k + 1, A6, c6, by omega, by go_num, by rw [HU.out, List.length_append]; rfl, by rw [HU.out, List.length_append, RowCs_append]; exact ho6, hS6⟩
        case measure => simp [intOf]; omega
      · have d2 : decide (f < t) = false := by simpa using hft
        rw [if_neg hft, List.append_nil] at hup
        have HU := Lib.hid hup
        clear hup
        have hS5 := hS4.alloc (.cells #[.int .i64 (Y1 + (k : Int)), .int .i64 f, .int .i64 t] 37)
        have ho5 := ho4.alloc (.cells #[.int .i64 (Y1 + (k : Int)), .int .i64 f, .int .i64 t] 37)
        go_wp2_with fail
        go_roundw
        case rel => exact ⟨k + 1, A, c, by omega, by go_num, by rw [HU.out], by rw [HU.out]; exact ho5, hS5⟩
        case measure => simp [intOf]; omega
    · have d1 : decide (Y1 + (k : Int) < Y2) = false := by simpa using hlt
      obtain rfl : k = (Y2 - Y1).toNat := by omega
      have hR := HR.out
      go_wp2_with fail
      go_ret2
      rw [← hR] at ho ⊢
      exact ⟨_, _, rfl, ho, hS.below⟩
end Go.Proofs.Ytkmdeaffhneibaa
