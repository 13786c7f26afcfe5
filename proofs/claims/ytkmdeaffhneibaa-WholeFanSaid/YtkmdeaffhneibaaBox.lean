/- Walks: cover.Box. -/
import Derived.Test.YtkmdeaffhneibaaCover
namespace Go.Proofs.Ytkmdeaffhneibaa
open Go.RowKit Go.BigFrame

theorem results_ccs {fn : Func} {p q r : Tmp} {ty ty' : TypeId} (h : fn.results = #[.cell p ty, .cell q ty', .tmp r]) (tmps : Array Value) (P : Program) (w : World) :
    (results fn tmps).run P w = ((asAddr (tmps.getD p undef)).run P w).andThen fun ad w₁ => ((loadVar ty ad).run P w₁).andThen fun v w₂ => ((asAddr (tmps.getD q undef)).run P w₂).andThen fun ad' w₃ => ((loadVar ty' ad').run P w₃).andThen fun v' w₄ => .ok (.tuple #[v, v', tmps.getD r undef]) w₄ := by
  simp only [results, h]
  simp [Sem.run_bind, Result.andThen]

/-- two spans' cells -/
abbrev S4 (g1 g2 : Nat) (F1 T1 F2 T2 : Int) (w : World) : Prop := w.cell? ⟨g1, 0, none⟩ = some (.int .i64 F1) ∧ w.cell? ⟨g1, 1, none⟩ = some (.int .i64 T1) ∧ w.cell? ⟨g2, 0, none⟩ = some (.int .i64 F2) ∧ w.cell? ⟨g2, 1, none⟩ = some (.int .i64 T2)
theorem S4.drew_ {g1 g2 : Nat} {F1 T1 F2 T2 : Int} {w : World} (h : S4 g1 g2 F1 T1 F2 T2 w) : S4 g1 g2 F1 T1 F2 T2 w.drew := h
theorem cell_put2 {w : World} {g g' i : Nat} (hne : g ≠ g') (x y : Value) : ((w.setCell ⟨g', 0, none⟩ x).setCell ⟨g', 1, none⟩ y).cell? ⟨g, i, none⟩ = w.cell? ⟨g, i, none⟩ := by
  rw [World.cell?_setCell_other, World.cell?_setCell_other] <;> (intro e; injection e; omega)
theorem S4.put2_ {g1 g2 g : Nat} {F1 T1 F2 T2 : Int} {w : World} (h1 : g1 ≠ g) (h2 : g2 ≠ g) (h : S4 g1 g2 F1 T1 F2 T2 w) {x y : Value} : S4 g1 g2 F1 T1 F2 T2 ((w.setCell ⟨g, 0, none⟩ x).setCell ⟨g, 1, none⟩ y) := by
  obtain ⟨k1, k2, k3, k4⟩ := h
  exact ⟨(cell_put2 h1 x y).trans k1, (cell_put2 h1 x y).trans k2, (cell_put2 h2 x y).trans k3, (cell_put2 h2 x y).trans k4⟩
theorem box_put {w' : World} {g6 g7 : Nat} {ty : TypeId} {a b c d : Value} (k6 : Blk w' g6 ty #[a, b]) (k7 : Blk w' g7 ty #[c, d]) (hne : g6 ≠ g7) (x y z u : Int) :
    Blk ((((w'.setCell ⟨g6, 0, none⟩ (.int .i64 x)).setCell ⟨g6, 1, none⟩ (.int .i64 y)).setCell ⟨g7, 0, none⟩ (.int .i64 z)).setCell ⟨g7, 1, none⟩ (.int .i64 u)) g6 ty #[.int .i64 x, .int .i64 y] ∧
    Blk ((((w'.setCell ⟨g6, 0, none⟩ (.int .i64 x)).setCell ⟨g6, 1, none⟩ (.int .i64 y)).setCell ⟨g7, 0, none⟩ (.int .i64 z)).setCell ⟨g7, 1, none⟩ (.int .i64 u)) g7 ty #[.int .i64 z, .int .i64 u] ∧
    ∀ {B : Nat} {w : World}, Below B w w' → B ≤ g6 → B ≤ g7 → Below B w ((((w'.setCell ⟨g6, 0, none⟩ (.int .i64 x)).setCell ⟨g6, 1, none⟩ (.int .i64 y)).setCell ⟨g7, 0, none⟩ (.int .i64 z)).setCell ⟨g7, 1, none⟩ (.int .i64 u)) := by
  refine ⟨?_, ?_, fun h h1 h2 => (((h.setCell (p := ⟨g6, 0, none⟩) h1 _).setCell (p := ⟨g6, 1, none⟩) h1 _).setCell (p := ⟨g7, 0, none⟩) h2 _).setCell (p := ⟨g7, 1, none⟩) h2 _⟩
  · have h := (((k6.set_ 0 (.int .i64 x)).set_ 1 (.int .i64 y)).far (p := ⟨g7, 0, none⟩) hne (.int .i64 z)).far (p := ⟨g7, 1, none⟩) hne (.int .i64 u)
    simpa using h
  · have h := (((k7.far (p := ⟨g6, 0, none⟩) (Ne.symm hne) (.int .i64 x)).far (p := ⟨g6, 1, none⟩) (Ne.symm hne) (.int .i64 y)).set_ 0 (.int .i64 z)).set_ 1 (.int .i64 u)
    simpa using h

set_option maxRecDepth 100000 in
set_option maxHeartbeats 2000000 in
theorem box_any (a1 a2 a3 b1 b2 b3 p1 p2 p3 : Int) (x y : Int) (w : World) (hx : 1 ≤ x ∧ x ≤ 1024) (hy : 1 ≤ y ∧ y ≤ 1024) (F1 T1 F2 T2 : Int)
    (e1 : F1 = spanF (lo3 (clampI a1) (clampI b1) (clampI p1))) (e2 : T1 = spanT (hi3 (clampI a1) (clampI b1) (clampI p1)) x) (e3 : F2 = spanF (lo3 (clampI a2) (clampI b2) (clampI p2))) (e4 : T2 = spanT (hi3 (clampI a2) (clampI b2) (clampI p2)) y) :
    Calls Try.prog 11 #[triV ((a1, a2, a3), (b1, b2, b3), (p1, p2, p3)), .int .i64 x, .int .i64 y] w fun e w' =>
      e = .returned (.tuple #[.agg #[.int .i64 (if F1 < T1 ∧ F2 < T2 then F1 else 0), .int .i64 (if F1 < T1 ∧ F2 < T2 then T1 else 0)], .agg #[.int .i64 (if F1 < T1 ∧ F2 < T2 then F2 else 0), .int .i64 (if F1 < T1 ∧ F2 < T2 then T2 else 0)], .bool (decide (F1 < T1 ∧ F2 < T2))]) ∧ Below w.heap.size w w' := by
  have hA := side1_any a1 a2 a3 b1 b2 b3 p1 p2 p3 x
  have hB := side2_any a1 a2 a3 b1 b2 b3 p1 p2 p3 y
  rw [← e1, ← e2] at hA
  rw [← e3, ← e4] at hB
  clear e1 e2 e3 e4
  unfold triV at *
  simp only at hA hB ⊢
  have kt := ((Blk.new w 29 #[.int .i32 a1, .int .i32 a2, .int .i32 a3, .int .i32 b1, .int .i32 b2, .int .i32 b3, .int .i32 p1, .int .i32 p2, .int .i32 p3]).alloc (.cells #[.int .i64 0, .int .i64 0] 47)).alloc (.cells #[.int .i64 0, .int .i64 0] 47)
  have k6 := (Blk.new (w.alloc (.cells #[.int .i32 a1, .int .i32 a2, .int .i32 a3, .int .i32 b1, .int .i32 b2, .int .i32 b3, .int .i32 p1, .int .i32 p2, .int .i32 p3] 29)) 47 #[.int .i64 0, .int .i64 0]).alloc (.cells #[.int .i64 0, .int .i64 0] 47)
  have k7 := Blk.new ((w.alloc (.cells #[.int .i32 a1, .int .i32 a2, .int .i32 a3, .int .i32 b1, .int .i32 b2, .int .i32 b3, .int .i32 p1, .int .i32 p2, .int .i32 p3] 29)).alloc (.cells #[.int .i64 0, .int .i64 0] 47)) 47 #[.int .i64 0, .int .i64 0]
  have hb1 : Below w.heap.size w (((w.alloc (.cells #[.int .i32 a1, .int .i32 a2, .int .i32 a3, .int .i32 b1, .int .i32 b2, .int .i32 b3, .int .i32 p1, .int .i32 p2, .int .i32 p3] 29)).alloc (.cells #[.int .i64 0, .int .i64 0] 47)).alloc (.cells #[.int .i64 0, .int .i64 0] 47)) := (((Below.refl _ _).alloc (Nat.le_refl _) _).alloc (by simp) _).alloc (by simp; omega) _
  simp only [World.size_alloc] at k6 k7
  go_enter Try.func11, Try.ntmps11
  go_wp2_with fail
  generalize ((w.alloc (.cells #[.int .i32 a1, .int .i32 a2, .int .i32 a3, .int .i32 b1, .int .i32 b2, .int .i32 b3, .int .i32 p1, .int .i32 p2, .int .i32 p3] 29)).alloc (.cells #[.int .i64 0, .int .i64 0] 47)).alloc (.cells #[.int .i64 0, .int .i64 0] 47) = w1 at *
  refine (picture_any x y _ hx hy).mono ?_
  rintro e w' ⟨rfl, rfl⟩
  obtain ⟨q0, q1, q2, q3, q4, q5, q6, q7, q8⟩ := nine kt.cell
  go_wp2_with fail
  refine (hA _).mono ?_
  rintro e w2 ⟨rfl, hb2⟩
  clear q0 q1 q2 q3 q4 q5 q6 q7 q8 hA
  have kt2 := kt.step hb2
  have k62 := k6.step hb2
  have k72 := k7.step hb2
  have hb3 := below_cut hb1 hb2 (Nat.le_refl _)
  clear kt k6 k7 hb1 hb2
  have q := fun o => nine (kt2.alloc o).cell
  have q0 := fun o => (q o).1
  have q1 := fun o => (q o).2.1
  have q2 := fun o => (q o).2.2.1
  have q3 := fun o => (q o).2.2.2.1
  have q4 := fun o => (q o).2.2.2.2.1
  have q5 := fun o => (q o).2.2.2.2.2.1
  have q6 := fun o => (q o).2.2.2.2.2.2.1
  have q7 := fun o => (q o).2.2.2.2.2.2.2.1
  have q8 := fun o => (q o).2.2.2.2.2.2.2.2
  clear q
  have k9 := Blk.new w2 47 #[.int .i64 F1, .int .i64 T1]
  have hb4 := hb3.alloc hb3.size (.cells #[.int .i64 F1, .int .i64 T1] 47)
  have k63 := k62.alloc (.cells #[.int .i64 F1, .int .i64 T1] 47)
  have k73 := k72.alloc (.cells #[.int .i64 F1, .int .i64 T1] 47)
  have n26 := k72.lt
  clear hb3 k62 k72 kt2
  go_wp2_with fail
  refine (hB _).mono ?_
  rintro e w3 ⟨rfl, hb5⟩
  have n36 := hb5.size
  simp only [World.size_alloc] at n36
  clear hB q0 q1 q2 q3 q4 q5 q6 q7 q8
  have hb6 := below_cut hb4 hb5 (Nat.le_refl _)
  have k94 := k9.step hb5
  have k64 := k63.step hb5
  have k74 := k73.step hb5
  clear k9 k63 k73 hb4 hb5
  have kA := Blk.new w3 47 #[.int .i64 F2, .int .i64 T2]
  have hb7 := hb6.alloc hb6.size (.cells #[.int .i64 F2, .int .i64 T2] 47)
  have k95 := k94.alloc (.cells #[.int .i64 F2, .int .i64 T2] 47)
  have k65 := k64.alloc (.cells #[.int .i64 F2, .int .i64 T2] 47)
  have k75 := k74.alloc (.cells #[.int .i64 F2, .int .i64 T2] 47)
  obtain ⟨r0, r1⟩ := two k95.cell
  obtain ⟨r2, r3⟩ := two kA.cell
  obtain ⟨s0, s1⟩ := two k65.cell
  obtain ⟨s2, s3⟩ := two k75.cell
  have f6 := k65.frozen
  have f7 := k75.frozen
  clear k94 k64 k74 hb6
  by_cases h1 : F1 < T1
  · have d1 : decide (T1 ≤ F1) = false := by simp; omega
    by_cases h2 : F2 < T2
    · have d2 : decide (T2 ≤ F2) = false := by simp; omega
      have hC : F1 < T1 ∧ F2 < T2 := ⟨h1, h2⟩
      have HC := Lib.hid hC
      clear hC h1 h2
      have hS0 : S4 w2.heap.size w3.heap.size F1 T1 F2 T2 (w3.alloc (.cells #[.int .i64 F2, .int .i64 T2] 47)) := ⟨r0, r1, r2, r3⟩
      clear r0 r1 r2 r3
      go_wp2_with fail
      generalize w3.alloc (.cells #[.int .i64 F2, .int .i64 T2] 47) = w4 at *
      go_region_held3 (S4 w2.heap.size w3.heap.size F1 T1 F2 T2) (first | with_reducible exact hS0.drew_ | with_reducible assumption | with_reducible exact (S4.put2_ (by omega) (by omega) hS0).drew_ | with_reducible exact (S4.put2_ (by omega) (by omega) (S4.put2_ (by omega) (by omega) hS0)).drew_ | fail) (fail)
      all_goals
        go_wp2_with fail
        have kz := box_put (w' := w4) k65 k75 (by omega) F1 T1 F2 T2
        refine bodyPost_ret (v := .tuple #[.agg #[.int .i64 F1, .int .i64 T1], .agg #[.int .i64 F2, .int .i64 T2], .bool true]) (by rw [results_ccs rfl]; simp [go_sem, two kz.1.cell, two kz.2.1.cell]) rfl ⟨rfl, (kz.2.2 hb7 (by omega) (by omega)).drew⟩
    · have hC : ¬ (F1 < T1 ∧ F2 < T2) := fun h => h2 h.2
      have HC := Lib.hid hC
      have d2 : decide (T2 ≤ F2) = true := by simp; omega
      clear hC h1 h2
      go_wp2_with fail
      have kz := box_put (w' := w3.alloc (.cells #[.int .i64 F2, .int .i64 T2] 47)) k65 k75 (by omega) 0 0 0 0
      refine bodyPost_ret (v := .tuple #[.agg #[.int .i64 0, .int .i64 0], .agg #[.int .i64 0, .int .i64 0], .bool false]) (by rw [results_ccs rfl]; simp [go_sem, two kz.1.cell, two kz.2.1.cell]) rfl ⟨rfl, kz.2.2 hb7 (by omega) (by omega)⟩
  · have hC : ¬ (F1 < T1 ∧ F2 < T2) := fun h => h1 h.1
    have HC := Lib.hid hC
    have d1 : decide (T1 ≤ F1) = true := by simp; omega
    clear hC h1
    go_wp2_with fail
    have kz := box_put (w' := w3.alloc (.cells #[.int .i64 F2, .int .i64 T2] 47)) k65 k75 (by omega) 0 0 0 0
    refine bodyPost_ret (v := .tuple #[.agg #[.int .i64 0, .int .i64 0], .agg #[.int .i64 0, .int .i64 0], .bool false]) (by rw [results_ccs rfl]; simp [go_sem, two kz.1.cell, two kz.2.1.cell]) rfl ⟨rfl, kz.2.2 hb7 (by omega) (by omega)⟩
end Go.Proofs.Ytkmdeaffhneibaa
