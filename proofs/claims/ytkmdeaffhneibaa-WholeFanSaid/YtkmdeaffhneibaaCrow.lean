/- Walks: cover.row, Rows, Count. -/
import Derived.Test.YtkmdeaffhneibaaBox
import Derived.Deep.LoopGhost
namespace Go.Proofs.Ytkmdeaffhneibaa
open Go.RowKit Go.BigFrame

/-- what lies in row's variables -/
structure RowS (w : World) (a1 a2 a3 b1 b2 b3 p1 p2 p3 : Int) (y F T : Int) (W : World) : Prop where
  kt : Blk W w.heap.size 29 #[.int .i32 a1, .int .i32 a2, .int .i32 a3, .int .i32 b1, .int .i32 b2, .int .i32 b3, .int .i32 p1, .int .i32 p2, .int .i32 p3]
  k6 : Blk W (w.heap.size + 1 + 1) 37 #[.int .i64 0, .int .i64 0, .int .i64 0]
  k8 : Blk W (w.heap.size + 1 + 1 + 1) 37 #[.int .i64 y, .int .i64 F, .int .i64 T]
  below : Below w.heap.size w W
  size : w.heap.size + 4 ≤ W.heap.size
section
variable {w W W' : World} {a1 a2 a3 b1 b2 b3 p1 p2 p3 : Int} {y F T : Int}
theorem RowS.step (h : RowS w a1 a2 a3 b1 b2 b3 p1 p2 p3 y F T W) (hb : Below W.heap.size W W') : RowS w a1 a2 a3 b1 b2 b3 p1 p2 p3 y F T W' :=
  ⟨h.kt.step hb, h.k6.step hb, h.k8.step hb, below_cut h.below hb (Nat.le_refl _), Nat.le_trans h.size hb.size⟩
theorem RowS.putF (h : RowS w a1 a2 a3 b1 b2 b3 p1 p2 p3 y F T W) (F' : Int) : RowS w a1 a2 a3 b1 b2 b3 p1 p2 p3 y F' T (W.setCell ⟨w.heap.size + 1 + 1 + 1, 1, none⟩ (.int .i64 F')) := by
  obtain ⟨h1, h2, h3, h4, h5⟩ := h
  refine ⟨h1.far (p := ⟨w.heap.size + 1 + 1 + 1, 1, none⟩) (show w.heap.size ≠ w.heap.size + 1 + 1 + 1 by omega) _, h2.far (p := ⟨w.heap.size + 1 + 1 + 1, 1, none⟩) (show w.heap.size + 1 + 1 ≠ w.heap.size + 1 + 1 + 1 by omega) _, ?_, h4.setCell (p := ⟨w.heap.size + 1 + 1 + 1, 1, none⟩) (show w.heap.size ≤ w.heap.size + 1 + 1 + 1 by omega) _, by simp; omega⟩
  simpa using h3.set_ 1 (.int .i64 F')
theorem RowS.putT (h : RowS w a1 a2 a3 b1 b2 b3 p1 p2 p3 y F T W) (T' : Int) : RowS w a1 a2 a3 b1 b2 b3 p1 p2 p3 y F T' (W.setCell ⟨w.heap.size + 1 + 1 + 1, 2, none⟩ (.int .i64 T')) := by
  obtain ⟨h1, h2, h3, h4, h5⟩ := h
  refine ⟨h1.far (p := ⟨w.heap.size + 1 + 1 + 1, 2, none⟩) (show w.heap.size ≠ w.heap.size + 1 + 1 + 1 by omega) _, h2.far (p := ⟨w.heap.size + 1 + 1 + 1, 2, none⟩) (show w.heap.size + 1 + 1 ≠ w.heap.size + 1 + 1 + 1 by omega) _, ?_, h4.setCell (p := ⟨w.heap.size + 1 + 1 + 1, 2, none⟩) (show w.heap.size ≤ w.heap.size + 1 + 1 + 1 by omega) _, by simp; omega⟩
  simpa using h3.set_ 2 (.int .i64 T')
theorem RowS.put6 (h : RowS w a1 a2 a3 b1 b2 b3 p1 p2 p3 y F T W) (x z u : Int) :
    Blk (((W.setCell ⟨w.heap.size + 1 + 1, 0, none⟩ (.int .i64 x)).setCell ⟨w.heap.size + 1 + 1, 1, none⟩ (.int .i64 z)).setCell ⟨w.heap.size + 1 + 1, 2, none⟩ (.int .i64 u)).drew (w.heap.size + 1 + 1) 37 #[.int .i64 x, .int .i64 z, .int .i64 u] ∧
    Below w.heap.size w (((W.setCell ⟨w.heap.size + 1 + 1, 0, none⟩ (.int .i64 x)).setCell ⟨w.heap.size + 1 + 1, 1, none⟩ (.int .i64 z)).setCell ⟨w.heap.size + 1 + 1, 2, none⟩ (.int .i64 u)).drew := by
  obtain ⟨_, h2, _, h4, _⟩ := h
  have hle : w.heap.size ≤ w.heap.size + 1 + 1 := by omega
  refine ⟨?_, (((h4.setCell (p := ⟨w.heap.size + 1 + 1, 0, none⟩) hle _).setCell (p := ⟨w.heap.size + 1 + 1, 1, none⟩) hle _).setCell (p := ⟨w.heap.size + 1 + 1, 2, none⟩) hle _).drew⟩
  have h := (((h2.set_ 0 (.int .i64 x)).set_ 1 (.int .i64 z)).set_ 2 (.int .i64 u)).drew
  simpa using h
end

theorem results_cs {fn : Func} {p r : Tmp} {ty : TypeId} (h : fn.results = #[.cell p ty, .tmp r]) (tmps : Array Value) (P : Program) (w : World) :
    (results fn tmps).run P w = ((asAddr (tmps.getD p undef)).run P w).andThen fun ad w₁ => ((loadVar ty ad).run P w₁).andThen fun v w₂ => .ok (.tuple #[v, tmps.getD r undef]) w₂ := by
  simp only [results, h]
  simp [Sem.run_bind, Result.andThen]
/-- a row's cells -/
abbrev C3 (g : Nat) (y F T : Int) (w : World) : Prop := w.cell? ⟨g, 0, none⟩ = some (.int .i64 y) ∧ w.cell? ⟨g, 1, none⟩ = some (.int .i64 F) ∧ w.cell? ⟨g, 2, none⟩ = some (.int .i64 T)
theorem c3_mk {g : Nat} {y F T : Int} {w : World} (h0 : w.cell? ⟨g, 0, none⟩ = some (.int .i64 y)) (h1 : w.cell? ⟨g, 1, none⟩ = some (.int .i64 F)) (h2 : w.cell? ⟨g, 2, none⟩ = some (.int .i64 T)) : C3 g y F T w := ⟨h0, h1, h2⟩
theorem C3.drew_ {g : Nat} {y F T : Int} {w : World} (h : C3 g y F T w) : C3 g y F T w.drew := h
theorem cell_put3 {w : World} {g g' i : Nat} (hne : g ≠ g') (x y z : Value) : (((w.setCell ⟨g', 0, none⟩ x).setCell ⟨g', 1, none⟩ y).setCell ⟨g', 2, none⟩ z).cell? ⟨g, i, none⟩ = w.cell? ⟨g, i, none⟩ := by
  rw [World.cell?_setCell_other, World.cell?_setCell_other, World.cell?_setCell_other] <;> (intro e; injection e; omega)
theorem C3.put3_ {g g' : Nat} {y F T : Int} {w : World} (h1 : g ≠ g') (h : C3 g y F T w) {x z u : Value} : C3 g y F T (((w.setCell ⟨g', 0, none⟩ x).setCell ⟨g', 1, none⟩ z).setCell ⟨g', 2, none⟩ u) := by
  obtain ⟨k1, k2, k3⟩ := h
  exact ⟨(cell_put3 h1 x z u).trans k1, (cell_put3 h1 x z u).trans k2, (cell_put3 h1 x z u).trans k3⟩
theorem rowT_start (cov : Int → Bool) (f t : Int) : trimT cov (t - rowF cov f t).toNat t = rowT cov f t := rfl
theorem trimF_no {cov : Int → Bool} {q : Nat} {F R : Int} (h : cov F = false) (e : trimF cov (q + 1) F = R) : trimF cov q (F + 1) = R := by rw [trimF, h] at e; simpa using e
theorem trimF_yes {cov : Int → Bool} {q : Nat} {F R : Int} (h : cov F = true) (e : trimF cov (q + 1) F = R) : F = R := by rw [trimF, h] at e; simpa using e
theorem trimT_no {cov : Int → Bool} {q : Nat} {T R : Int} (h : cov (T - 1) = false) (e : trimT cov (q + 1) T = R) : trimT cov q (T - 1) = R := by rw [trimT, h] at e; simpa using e
theorem trimT_yes {cov : Int → Bool} {q : Nat} {T R : Int} (h : cov (T - 1) = true) (e : trimT cov (q + 1) T = R) : T = R := by rw [trimT, h] at e; simpa using e
theorem rowF_start (cov : Int → Bool) (f t : Int) : trimF cov (t - f).toNat f = rowF cov f t := rfl

set_option maxRecDepth 100000 in
set_option maxHeartbeats 2000000 in
theorem row_any (a1 a2 a3 b1 b2 b3 p1 p2 p3 : Int) (f t y : Int) (w : World) (hf : 0 ≤ f ∧ f ≤ t) (ht : t ≤ 1024) (hy : 0 ≤ y ∧ y < 1024) (cov : Int → Bool) (hcov : ∀ x, cov x = covP (holdP (a1, a2, a3)) (holdP (b1, b2, b3)) (holdP (p1, p2, p3)) x y)
    (ha : 0 < sideI (holdP (a1, a2, a3)) (holdP (b1, b2, b3)) (holdP (p1, p2, p3))) :
    Calls Try.prog 12 #[triV ((a1, a2, a3), (b1, b2, b3), (p1, p2, p3)), .agg #[.int .i64 f, .int .i64 t], .int .i64 y] w fun e w' =>
      e = .returned (.tuple #[.agg #[.int .i64 y, .int .i64 (rowF cov f t), .int .i64 (rowT cov f t)], .bool (decide (rowF cov f t < rowT cov f t))]) ∧ Below w.heap.size w w' := by
  have hC := fun x hx => covers_any ((a1, a2, a3), (b1, b2, b3), (p1, p2, p3)) x y (hx := hx) (hy := hy) (ha := ha)
  simp only [← hcov] at hC
  unfold triV at *
  simp only at hC ⊢
  obtain ⟨hf0, hft⟩ := hf
  have kt := (((Blk.new w 29 #[.int .i32 a1, .int .i32 a2, .int .i32 a3, .int .i32 b1, .int .i32 b2, .int .i32 b3, .int .i32 p1, .int .i32 p2, .int .i32 p3]).alloc (.cells #[.int .i64 f, .int .i64 t] 47)).alloc (.cells #[.int .i64 0, .int .i64 0, .int .i64 0] 37)).alloc (.cells #[.int .i64 y, .int .i64 f, .int .i64 t] 37)
  have k6 := (Blk.new ((w.alloc (.cells #[.int .i32 a1, .int .i32 a2, .int .i32 a3, .int .i32 b1, .int .i32 b2, .int .i32 b3, .int .i32 p1, .int .i32 p2, .int .i32 p3] 29)).alloc (.cells #[.int .i64 f, .int .i64 t] 47)) 37 #[.int .i64 0, .int .i64 0, .int .i64 0]).alloc (.cells #[.int .i64 y, .int .i64 f, .int .i64 t] 37)
  have k8 := Blk.new (((w.alloc (.cells #[.int .i32 a1, .int .i32 a2, .int .i32 a3, .int .i32 b1, .int .i32 b2, .int .i32 b3, .int .i32 p1, .int .i32 p2, .int .i32 p3] 29)).alloc (.cells #[.int .i64 f, .int .i64 t] 47)).alloc (.cells #[.int .i64 0, .int .i64 0, .int .i64 0] 37)) 37 #[.int .i64 y, .int .i64 f, .int .i64 t]
  have hb1 : Below w.heap.size w ((((w.alloc (.cells #[.int .i32 a1, .int .i32 a2, .int .i32 a3, .int .i32 b1, .int .i32 b2, .int .i32 b3, .int .i32 p1, .int .i32 p2, .int .i32 p3] 29)).alloc (.cells #[.int .i64 f, .int .i64 t] 47)).alloc (.cells #[.int .i64 0, .int .i64 0, .int .i64 0] 37)).alloc (.cells #[.int .i64 y, .int .i64 f, .int .i64 t] 37)) := ((((Below.refl _ _).alloc (Nat.le_refl _) _).alloc (by simp) _).alloc (by simp; omega) _).alloc (by simp; omega) _
  simp only [World.size_alloc] at k6 k8
  go_enter Try.func12, Try.ntmps12
  go_wp2_with fail
  go_step3
  go_wp2_with fail
  have hsz1 : ((((w.alloc (.cells #[.int .i32 a1, .int .i32 a2, .int .i32 a3, .int .i32 b1, .int .i32 b2, .int .i32 b3, .int .i32 p1, .int .i32 p2, .int .i32 p3] 29)).alloc (.cells #[.int .i64 f, .int .i64 t] 47)).alloc (.cells #[.int .i64 0, .int .i64 0, .int .i64 0] 37)).alloc (.cells #[.int .i64 y, .int .i64 f, .int .i64 t] 37)).heap.size = w.heap.size + 4 := by simp
  generalize ((((w.alloc (.cells #[.int .i32 a1, .int .i32 a2, .int .i32 a3, .int .i32 b1, .int .i32 b2, .int .i32 b3, .int .i32 p1, .int .i32 p2, .int .i32 p3] 29)).alloc (.cells #[.int .i64 f, .int .i64 t] 47)).alloc (.cells #[.int .i64 0, .int .i64 0, .int .i64 0] 37)).alloc (.cells #[.int .i64 y, .int .i64 f, .int .i64 t] 37)) = w1 at *
  have h0 : RowS w a1 a2 a3 b1 b2 b3 p1 p2 p3 y f t w1 := ⟨kt, k6, k8, hb1, by omega⟩
  clear kt k6 k8 hb1 hsz1
  have hx1 := rowF_start cov f t
  have hrb := row_bounds cov f t hft
  go_step3
  go_wp2_with fail
  go_loopg [] (t - f).toNat (fun q wr => ∃ F : Int, f ≤ F ∧ F + (q : Int) = t ∧ RowS w a1 a2 a3 b1 b2 b3 p1 p2 p3 y F t wr ∧ Hid (trimF cov q F = rowF cov f t))
  case atStart => exact ⟨f, by omega, by omega, h0, Lib.hid hx1⟩
  case round =>
    obtain ⟨F, hF1, hF2, hS, HF⟩ := hrel
    obtain ⟨q0, q1, q2, q3, q4, q5, q6, q7, q8⟩ := nine hS.kt.cell
    obtain ⟨r0, r1, r2⟩ := three hS.k8.cell
    have f8 := hS.k8.frozen
    by_cases hlt : F < t
    · have d1 : decide (F < t) = true := by simpa using hlt
      go_wp2_with fail
      refine (hC F (by omega) _).mono ?_
      rintro e w2 ⟨rfl, hb2⟩
      have hS2 := hS.step hb2
      clear q0 q1 q2 q3 q4 q5 q6 q7 q8 r0 r1 r2 f8 hS
      obtain ⟨r0, r1, r2⟩ := three hS2.k8.cell
      have f8 := hS2.k8.frozen
      obtain ⟨q, rfl⟩ : ∃ q, gk = q + 1 := ⟨gk - 1, by omega⟩
      rcases hcv : cov F with _ | _
      · have HF2 := Lib.hid (trimF_no hcv HF.out)
        clear hcv
        go_wp2_with fail
        go_roundg q
        case measure => omega
        case rel => exact ⟨F + 1, by omega, by omega, hS2.putF _, HF2⟩
      · have hF3 := trimF_yes hcv HF.out
        have hS := hS2
        rw [hF3] at hS
        clear hcv hF3 HF hS2 r0 r1 r2 f8 d1
        go_wp2_with fail
        go_step3
        go_wp2_with fail
        obtain ⟨F, hFe⟩ : ∃ F, F = rowF cov f t := ⟨_, rfl⟩
        rw [← hFe] at hS hrb
        have hx2 := rowT_start cov f t
        rw [← hFe] at hx2
        have HFe := Lib.hid hFe
        have Hx2 := Lib.hid hx2
        clear hFe hx2
        go_loopg [] (t - F).toNat (fun q wr => ∃ T : Int, T ≤ t ∧ F + (q : Int) = T ∧ RowS w a1 a2 a3 b1 b2 b3 p1 p2 p3 y F T wr ∧ Hid (trimT cov q T = rowT cov f t))
        case atStart => exact ⟨t, by omega, by omega, hS, Hx2⟩
        case round =>
          obtain ⟨T, hT1, hT2, hS, HT⟩ := hrel
          obtain ⟨q0, q1, q2, q3, q4, q5, q6, q7, q8⟩ := nine hS.kt.cell
          obtain ⟨r0, r1, r2⟩ := three hS.k8.cell
          have f8 := hS.k8.frozen
          by_cases hlt : F < T
          · have d1 : decide (F < T) = true := by simpa using hlt
            go_wp2_with fail
            refine (hC (T - 1) (by omega) _).mono ?_
            rintro e w2 ⟨rfl, hb3⟩
            have hS2 := hS.step hb3
            clear q0 q1 q2 q3 q4 q5 q6 q7 q8 r0 r1 r2 f8
            obtain ⟨r0, r1, r2⟩ := three hS2.k8.cell
            have f8 := hS2.k8.frozen
            obtain ⟨q, rfl⟩ : ∃ q, gk = q + 1 := ⟨gk - 1, by omega⟩
            rcases hcv : cov (T - 1) with _ | _
            · have HT2 := Lib.hid (trimT_no hcv HT.out)
              clear hcv
              go_wp2_with fail
              go_roundg q
              case measure => omega
              case rel => exact ⟨T - 1, by omega, by omega, hS2.putT _, HT2⟩
            · have HT2 := Lib.hid (trimT_yes hcv HT.out)
              clear hcv
              go_wp2_with fail
              clear r0 r1 r2 f8
              obtain ⟨z0, z1, z2⟩ := three hS2.k6.cell
              obtain ⟨r0, r1, r2⟩ := three hS2.k8.cell
              have f6 := hS2.k6.frozen
              have hC0 := c3_mk r0 r1 r2
              clear r0 r1 r2
              go_region_held3 (C3 (w.heap.size + 1 + 1 + 1) y F T) (first | with_reducible exact hC0.drew_ | with_reducible assumption | with_reducible exact (C3.put3_ (by omega) hC0).drew_ | fail) (fail)
              all_goals
                go_wp2_with fail
                rw [Exit.noGoto_ret]
                have hR := hS2.put6 y F T
                refine bodyPost_ret (v := .tuple #[.agg #[.int .i64 y, .int .i64 F, .int .i64 T], .bool true]) (by rw [results_cs rfl]; simp [go_sem, three hR.1.cell]) rfl ⟨?_, hR.2⟩
                have d2 := d1
                rw [HFe.out, HT2.out] at d2 ⊢
                rw [d2]
          · have d1 : decide (F < T) = false := by simpa using hlt
            obtain rfl : gk = 0 := by omega
            have hS2 := hS
            have HT2 := Lib.hid (show T = rowT cov f t from HT.out)
            go_wp2_with fail
            clear q0 q1 q2 q3 q4 q5 q6 q7 q8 r0 r1 r2 f8
            obtain ⟨z0, z1, z2⟩ := three hS2.k6.cell
            obtain ⟨r0, r1, r2⟩ := three hS2.k8.cell
            have f6 := hS2.k6.frozen
            have hC0 := c3_mk r0 r1 r2
            clear r0 r1 r2
            go_region_held3 (C3 (w.heap.size + 1 + 1 + 1) y F T) (first | with_reducible exact hC0.drew_ | with_reducible assumption | with_reducible exact (C3.put3_ (by omega) hC0).drew_ | fail) (fail)
            all_goals
              go_wp2_with fail
              rw [Exit.noGoto_ret]
              have hR := hS2.put6 y F T
              refine bodyPost_ret (v := .tuple #[.agg #[.int .i64 y, .int .i64 F, .int .i64 T], .bool false]) (by rw [results_cs rfl]; simp [go_sem, three hR.1.cell]) rfl ⟨?_, hR.2⟩
              have d2 := d1
              rw [HFe.out, HT2.out] at d2 ⊢
              rw [d2]
    · have d1 : decide (F < t) = false := by simpa using hlt
      obtain rfl : gk = 0 := by omega
      have hF3 : F = rowF cov f t := HF.out
      go_wp2_with fail
      rw [hF3] at hS
      clear hF3 HF q0 q1 q2 q3 q4 q5 q6 q7 q8 r0 r1 r2 f8 d1
      go_step3
      go_wp2_with fail
      obtain ⟨F, hFe⟩ : ∃ F, F = rowF cov f t := ⟨_, rfl⟩
      rw [← hFe] at hS hrb
      have hx2 := rowT_start cov f t
      rw [← hFe] at hx2
      have HFe := Lib.hid hFe
      have Hx2 := Lib.hid hx2
      clear hFe hx2
      go_loopg [] (t - F).toNat (fun q wr => ∃ T : Int, T ≤ t ∧ F + (q : Int) = T ∧ RowS w a1 a2 a3 b1 b2 b3 p1 p2 p3 y F T wr ∧ Hid (trimT cov q T = rowT cov f t))
      case atStart => exact ⟨t, by omega, by omega, hS, Hx2⟩
      case round =>
        obtain ⟨T, hT1, hT2, hS, HT⟩ := hrel
        obtain ⟨q0, q1, q2, q3, q4, q5, q6, q7, q8⟩ := nine hS.kt.cell
        obtain ⟨r0, r1, r2⟩ := three hS.k8.cell
        have f8 := hS.k8.frozen
        by_cases hlt : F < T
        · have d1 : decide (F < T) = true := by simpa using hlt
          go_wp2_with fail
          refine (hC (T - 1) (by omega) _).mono ?_
          rintro e w2 ⟨rfl, hb3⟩
          have hS2 := hS.step hb3
          clear q0 q1 q2 q3 q4 q5 q6 q7 q8 r0 r1 r2 f8
          obtain ⟨r0, r1, r2⟩ := three hS2.k8.cell
          have f8 := hS2.k8.frozen
          obtain ⟨q, rfl⟩ : ∃ q, gk = q + 1 := ⟨gk - 1, by omega⟩
          rcases hcv : cov (T - 1) with _ | _
          · have HT2 := Lib.hid (trimT_no hcv HT.out)
            clear hcv
            go_wp2_with fail
            go_roundg q
            case measure => omega
            case rel => exact ⟨T - 1, by omega, by omega, hS2.putT _, HT2⟩
          · have HT2 := Lib.hid (trimT_yes hcv HT.out)
            clear hcv
            go_wp2_with fail
            clear r0 r1 r2 f8
            obtain ⟨z0, z1, z2⟩ := three hS2.k6.cell
            obtain ⟨r0, r1, r2⟩ := three hS2.k8.cell
            have f6 := hS2.k6.frozen
            have hC0 := c3_mk r0 r1 r2
            clear r0 r1 r2
            go_region_held3 (C3 (w.heap.size + 1 + 1 + 1) y F T) (first | with_reducible exact hC0.drew_ | with_reducible assumption | with_reducible exact (C3.put3_ (by omega) hC0).drew_ | fail) (fail)
            all_goals
              go_wp2_with fail
              rw [Exit.noGoto_ret]
              have hR := hS2.put6 y F T
              refine bodyPost_ret (v := .tuple #[.agg #[.int .i64 y, .int .i64 F, .int .i64 T], .bool true]) (by rw [results_cs rfl]; simp [go_sem, three hR.1.cell]) rfl ⟨?_, hR.2⟩
              have d2 := d1
              rw [HFe.out, HT2.out] at d2 ⊢
              rw [d2]
        · have d1 : decide (F < T) = false := by simpa using hlt
          obtain rfl : gk = 0 := by omega
          have hS2 := hS
          have HT2 := Lib.hid (show T = rowT cov f t from HT.out)
          go_wp2_with fail
          clear q0 q1 q2 q3 q4 q5 q6 q7 q8 r0 r1 r2 f8
          obtain ⟨z0, z1, z2⟩ := three hS2.k6.cell
          obtain ⟨r0, r1, r2⟩ := three hS2.k8.cell
          have f6 := hS2.k6.frozen
          have hC0 := c3_mk r0 r1 r2
          clear r0 r1 r2
          go_region_held3 (C3 (w.heap.size + 1 + 1 + 1) y F T) (first | with_reducible exact hC0.drew_ | with_reducible assumption | with_reducible exact (C3.put3_ (by omega) hC0).drew_ | fail) (fail)
          all_goals
            go_wp2_with fail
            rw [Exit.noGoto_ret]
            have hR := hS2.put6 y F T
            refine bodyPost_ret (v := .tuple #[.agg #[.int .i64 y, .int .i64 F, .int .i64 T], .bool false]) (by rw [results_cs rfl]; simp [go_sem, three hR.1.cell]) rfl ⟨?_, hR.2⟩
            have d2 := d1
            rw [HFe.out, HT2.out] at d2 ⊢
            rw [d2]
end Go.Proofs.Ytkmdeaffhneibaa
