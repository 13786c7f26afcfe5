/- Walks: edge.Covers, of a triangle that goes round the right way. -/
import Derived.Laws.Cover2
import Derived.DeepKeys
import Derived.Test.YtkmdeaffhneibaaEdges
namespace Go.Proofs.Ytkmdeaffhneibaa
open Go.RowKit Go.BigFrame

/-- a region, cut off from what comes behind it -/
theorem region_cut {P : Program} {c : Code} {K : Act → World → Prop} {Q : Exit → Act → World → Prop} {a : Act} {w : World} (X : Act → Act → World → Prop) (h : ∀ K1 : Act → World → Prop, Hid (∀ a' w', X a a' w' → K1 a' w') → c.wp P (Exit.then K1 Q) a w) (k : ∀ a' w', X a a' w' → K a' w') : c.wp P (Exit.then K Q) a w :=
  wp_mono (h (fun a' w' => X a a' w') (Lib.hid fun _ _ hx => hx)) fun e a' w' hx => by
    cases e <;> first | exact k _ _ hx | exact hx

theorem wf16 {x : Int} (h : -32768 ≤ x ∧ x ≤ 32767) : (Lit.int .i64 x).wf = true := WalkArith.wf_i64 (by omega)
theorem line_lits (a b : Vec) (ha : Vec16 a) (hb : Vec16 b) : Try.prog.keyLits 3 43 [.int .i64 a.1, .int .i64 a.2, .int .i64 b.1, .int .i64 b.2] = some [.int .i64 a.1, .int .i64 a.2, .int .i64 b.1, .int .i64 b.2] := by
  have h1 := wf16 ha.1
  have h2 := wf16 ha.2
  have h3 := wf16 hb.1
  have h4 := wf16 hb.2
  have u0 := Try.underlying43
  have u1 := Try.underlying40
  have u2 := Try.underlying2
  have s0 : Try.prog.cellsOf 43 = 4 := by kernel_rfl
  have s1 : Try.prog.cellsOf 40 = 2 := by kernel_rfl
  have s2 : Try.prog.cellsOf 2 = 1 := by kernel_rfl
  simp [Program.keyLits, u0, u1, u2, s0, s1, s2, h1, h2, h3, h4, List.range_succ]
theorem line_eq (a b c d : Vec) (ha : Vec16 a) (hb : Vec16 b) (hc : Vec16 c) (hd : Vec16 d) (hne : ¬ (a = c ∧ b = d)) (w : World) :
    (Op.equalIn 10000 43 (.agg #[.int .i64 a.1, .int .i64 a.2, .int .i64 b.1, .int .i64 b.2]) (.agg #[.int .i64 c.1, .int .i64 c.2, .int .i64 d.1, .int .i64 d.2])).run Try.prog w = .ok false w := by
  have hk : Try.prog.keyTypeAt 8 43 = true := by kernel_rfl
  obtain ⟨r, hr, hiff⟩ := run_equalIn_deep (P := Try.prog) 9992 8 _ hk w 3 3 (.agg #[.int .i64 a.1, .int .i64 a.2, .int .i64 b.1, .int .i64 b.2]) (.agg #[.int .i64 c.1, .int .i64 c.2, .int .i64 d.1, .int .i64 d.2]) _ _ (by kernel_rfl) (by kernel_rfl) (line_lits a b ha hb) (line_lits c d hc hd)
  rw [show (10000 : Nat) = 9992 + 8 from rfl, hr]
  cases r
  · rfl
  · exfalso
    have h := hiff.1 rfl
    simp at h
    obtain ⟨h1, h2, h3, h4⟩ := h
    exact hne ⟨Prod.ext h1 h2, Prod.ext h3 h4⟩

theorem below_new {w w' : World} {o : Obj} (h : Below w.heap.size w w') : Below w.heap.size w (w'.alloc o) := h.alloc h.size o
theorem below_chain {w1 a b c : World} (h1 : Below w1.drew.heap.size w1.drew a) (h2 : Below a.heap.size a b) (h3 : Below b.heap.size b c) : Below w1.heap.size w1 c := below_cut (below_cut (below_cut (Below.refl _ _).drew h1 (Nat.le_refl _)) h2 (Nat.le_refl _)) h3 (Nat.le_refl _)
theorem drew_size (w : World) : w.drew.heap.size = w.heap.size := rfl
theorem Blk.step {w w' : World} {g : Nat} {t : TypeId} {cs : Array Value} (h : Blk w g t cs) (hb : Below w.heap.size w w') : Blk w' g t cs := h.below hb h.lt
theorem two {w : World} {g : Nat} {x0 x1 : Value} (h : ∀ i, w.cell? ⟨g, i, none⟩ = #[x0, x1][i]?) : w.cell? ⟨g, 0, none⟩ = some x0 ∧ w.cell? ⟨g, 1, none⟩ = some x1 := ⟨h 0, h 1⟩
theorem six {w : World} {g : Nat} {x0 x1 x2 x3 x4 x5 : Value} (h : ∀ i, w.cell? ⟨g, i, none⟩ = #[x0, x1, x2, x3, x4, x5][i]?) : w.cell? ⟨g, 0, none⟩ = some x0 ∧ w.cell? ⟨g, 1, none⟩ = some x1 ∧ w.cell? ⟨g, 2, none⟩ = some x2 ∧ w.cell? ⟨g, 3, none⟩ = some x3 ∧ w.cell? ⟨g, 4, none⟩ = some x4 ∧ w.cell? ⟨g, 5, none⟩ = some x5 :=
  ⟨h 0, h 1, h 2, h 3, h 4, h 5⟩
abbrev put6 (w : World) (g : Nat) (y0 y1 y2 y3 y4 y5 : Value) : World := (((((w.setCell ⟨g, 0, none⟩ y0).setCell ⟨g, 1, none⟩ y1).setCell ⟨g, 2, none⟩ y2).setCell ⟨g, 3, none⟩ y3).setCell ⟨g, 4, none⟩ y4).setCell ⟨g, 5, none⟩ y5
theorem Blk.put6_ {w : World} {g : Nat} {ty : TypeId} {x0 x1 x2 x3 x4 x5 : Value} (h : Blk w g ty #[x0, x1, x2, x3, x4, x5]) (y0 y1 y2 y3 y4 y5 : Value) : Blk (put6 w g y0 y1 y2 y3 y4 y5) g ty #[y0, y1, y2, y3, y4, y5] := by
  have h1 := (((((h.set_ 0 y0).set_ 1 y1).set_ 2 y2).set_ 3 y3).set_ 4 y4).set_ 5 y5
  simpa using h1
theorem put6_below {w1 w : World} {g : Nat} (h : Below w1.heap.size w1 w) (hg : w1.heap.size ≤ g) (y0 y1 y2 y3 y4 y5 : Value) : Below w1.heap.size w1 (put6 w g y0 y1 y2 y3 y4 y5) :=
  (((((h.setCell (p := ⟨g, 0, none⟩) hg y0).setCell (p := ⟨g, 1, none⟩) hg y1).setCell (p := ⟨g, 2, none⟩) hg y2).setCell (p := ⟨g, 3, none⟩) hg y3).setCell (p := ⟨g, 4, none⟩) hg y4).setCell (p := ⟨g, 5, none⟩) hg y5
/-- the triangle's nine cells, and nothing else turned -/
abbrev S9 (w1 : World) (b : Nat) (x0 x1 x2 x3 x4 x5 x6 x7 x8 : Int) (w' : World) : Prop :=
  w'.cell? ⟨b, 0, none⟩ = some (.int .i32 x0) ∧ w'.cell? ⟨b, 1, none⟩ = some (.int .i32 x1) ∧ w'.cell? ⟨b, 2, none⟩ = some (.int .i32 x2) ∧ w'.cell? ⟨b, 3, none⟩ = some (.int .i32 x3) ∧ w'.cell? ⟨b, 4, none⟩ = some (.int .i32 x4) ∧
  w'.cell? ⟨b, 5, none⟩ = some (.int .i32 x5) ∧ w'.cell? ⟨b, 6, none⟩ = some (.int .i32 x6) ∧ w'.cell? ⟨b, 7, none⟩ = some (.int .i32 x7) ∧ w'.cell? ⟨b, 8, none⟩ = some (.int .i32 x8) ∧ Below w1.heap.size w1 w'
section
variable {w1 w2 : World} {b : Nat} {x0 x1 x2 x3 x4 x5 x6 x7 x8 : Int}
theorem S9.drew_ (h : S9 w1 b x0 x1 x2 x3 x4 x5 x6 x7 x8 w2) : S9 w1 b x0 x1 x2 x3 x4 x5 x6 x7 x8 w2.drew := by
  obtain ⟨h0, h1, h2, h3, h4, h5, h6, h7, h8, h9⟩ := h
  exact ⟨h0, h1, h2, h3, h4, h5, h6, h7, h8, h9.drew⟩
theorem S9.new (h : S9 w1 b x0 x1 x2 x3 x4 x5 x6 x7 x8 w2) {o : Obj} : S9 w1 b x0 x1 x2 x3 x4 x5 x6 x7 x8 (w2.alloc o) := by
  obtain ⟨h0, h1, h2, h3, h4, h5, h6, h7, h8, h9⟩ := h
  exact ⟨cell_new _ h0, cell_new _ h1, cell_new _ h2, cell_new _ h3, cell_new _ h4, cell_new _ h5, cell_new _ h6, cell_new _ h7, cell_new _ h8, below_new h9⟩
theorem S9.call (hb : b < w1.heap.size) (h : S9 w1 b x0 x1 x2 x3 x4 x5 x6 x7 x8 w2) {w3 : World} (hq : Below w2.heap.size w2 w3) : S9 w1 b x0 x1 x2 x3 x4 x5 x6 x7 x8 w3 := by
  obtain ⟨h0, h1, h2, h3, h4, h5, h6, h7, h8, h9⟩ := h
  have hl : b < w2.heap.size := Nat.lt_of_lt_of_le hb h9.size
  exact ⟨(hq.cell (p := ⟨b, 0, none⟩) hl).trans h0, (hq.cell (p := ⟨b, 1, none⟩) hl).trans h1, (hq.cell (p := ⟨b, 2, none⟩) hl).trans h2, (hq.cell (p := ⟨b, 3, none⟩) hl).trans h3, (hq.cell (p := ⟨b, 4, none⟩) hl).trans h4, (hq.cell (p := ⟨b, 5, none⟩) hl).trans h5, (hq.cell (p := ⟨b, 6, none⟩) hl).trans h6, (hq.cell (p := ⟨b, 7, none⟩) hl).trans h7, (hq.cell (p := ⟨b, 8, none⟩) hl).trans h8, below_cut h9 hq (Nat.le_refl _)⟩
theorem S9.size (h : Hid (S9 w1 b x0 x1 x2 x3 x4 x5 x6 x7 x8 w2)) : w1.heap.size ≤ w2.heap.size := h.out.2.2.2.2.2.2.2.2.2.size
theorem S9.is (h : S9 w1 b x0 x1 x2 x3 x4 x5 x6 x7 x8 w2) : Below w1.heap.size w1 w2 := h.2.2.2.2.2.2.2.2.2
theorem S9.at6 {w' : World} {t : TypeId} {cs : Array Value} (_ : Blk w' w2.heap.size t cs) (h : Hid (S9 w1 b x0 x1 x2 x3 x4 x5 x6 x7 x8 w2)) : Hid (w1.heap.size ≤ w2.heap.size) := Lib.hid (S9.size h)
theorem S9.put6_ (hb : b < w1.heap.size) (h : S9 w1 b x0 x1 x2 x3 x4 x5 x6 x7 x8 w2) {g : Nat} (hg : w1.heap.size ≤ g) {y0 y1 y2 y3 y4 y5 : Value} : S9 w1 b x0 x1 x2 x3 x4 x5 x6 x7 x8 (put6 w2 g y0 y1 y2 y3 y4 y5) := by
  have hk := fun i => (show (put6 w2 g y0 y1 y2 y3 y4 y5).cell? ⟨b, i, none⟩ = w2.cell? ⟨b, i, none⟩ from by
    rw [World.cell?_setCell_other, World.cell?_setCell_other, World.cell?_setCell_other, World.cell?_setCell_other, World.cell?_setCell_other, World.cell?_setCell_other] <;> (intro e; injection e; omega))
  obtain ⟨h0, h1, h2, h3, h4, h5, h6, h7, h8, h9⟩ := h
  exact ⟨(hk 0).trans h0, (hk 1).trans h1, (hk 2).trans h2, (hk 3).trans h3, (hk 4).trans h4, (hk 5).trans h5, (hk 6).trans h6, (hk 7).trans h7, (hk 8).trans h8, put6_below h9 hg _ _ _ _ _ _⟩
end
theorem nine {w : World} {g : Nat} {x0 x1 x2 x3 x4 x5 x6 x7 x8 : Value} (h : ∀ i, w.cell? ⟨g, i, none⟩ = #[x0, x1, x2, x3, x4, x5, x6, x7, x8][i]?) : w.cell? ⟨g, 0, none⟩ = some x0 ∧ w.cell? ⟨g, 1, none⟩ = some x1 ∧ w.cell? ⟨g, 2, none⟩ = some x2 ∧ w.cell? ⟨g, 3, none⟩ = some x3 ∧ w.cell? ⟨g, 4, none⟩ = some x4 ∧ w.cell? ⟨g, 5, none⟩ = some x5 ∧ w.cell? ⟨g, 6, none⟩ = some x6 ∧ w.cell? ⟨g, 7, none⟩ = some x7 ∧ w.cell? ⟨g, 8, none⟩ = some x8 :=
  ⟨h 0, h 1, h 2, h 3, h 4, h 5, h 6, h 7, h 8⟩
set_option maxRecDepth 100000 in
set_option maxHeartbeats 2000000 in
theorem covers_any (t : (Int × Int × Int) × (Int × Int × Int) × (Int × Int × Int)) (x y : Int) (w : World) (hx : 0 ≤ x ∧ x < 1024) (hy : 0 ≤ y ∧ y < 1024) (ha : 0 < sideI (holdP t.1) (holdP t.2.1) (holdP t.2.2)) :
    Calls Try.prog 16 #[triV t, .int .i64 x, .int .i64 y] w fun e w' => e = .returned (.bool (covP (holdP t.1) (holdP t.2.1) (holdP t.2.2) x y)) ∧ Below w.heap.size w w' := by
  obtain ⟨⟨a1, a2, a3⟩, ⟨b1, b2, b3⟩, p1, p2, p3⟩ := t
  have hx0 := hx.1
  have hx1 := hx.2
  have hy0 := hy.1
  have hy1 := hy.2
  have n1 := decide_eq_false (show ¬ x < 0 by omega)
  have n2 := decide_eq_false (show ¬ y < 0 by omega)
  have n3 := decide_eq_false (show ¬ 1024 ≤ x by omega)
  have n4 := decide_eq_false (show ¬ 1024 ≤ y by omega)
  obtain ⟨s, hs⟩ : ∃ s, s = sideI (holdP (a1, a2, a3)) (holdP (b1, b2, b3)) (holdP (p1, p2, p3)) := ⟨_, rfl⟩
  have hAr := area_any ((a1, a2, a3), (b1, b2, b3), (p1, p2, p3))
  unfold triV at *
  simp only at ha hAr ⊢
  rw [← hs] at ha hAr
  have s1 : (s == 0) = false := by rw [beq_eq_false_iff_ne]; omega
  have s2 := decide_eq_false (show ¬ s < 0 by omega)
  have hne : ¬ (holdP (a1, a2, a3) = holdP (b1, b2, b3) ∧ holdP (b1, b2, b3) = holdP (a1, a2, a3)) := by
    rintro ⟨h, _⟩
    rw [h] at hs
    have : s = 0 := by rw [hs]; simp [sideI]
    omega
  have heq := line_eq _ _ _ _ (holdP_16 (a1, a2, a3)) (holdP_16 (b1, b2, b3)) (holdP_16 (b1, b2, b3)) (holdP_16 (a1, a2, a3)) hne
  have hgd := fun (x y : Operand) (xs ys : Array Value) (w : World) => run_eqGuard_agg (P := Try.prog) w .eql 43 x y xs ys (by kernel_rfl)
  have Hs := Lib.hid hs
  clear hne hs
  dsimp only [holdP] at heq
  have hb1 : Below w.heap.size w (w.alloc (.cells #[.int .i32 a1, .int .i32 a2, .int .i32 a3, .int .i32 b1, .int .i32 b2, .int .i32 b3, .int .i32 p1, .int .i32 p2, .int .i32 p3] 29)) := (Below.refl _ _).alloc (Nat.le_refl _) _
  have kt := Blk.new w 29 #[.int .i32 a1, .int .i32 a2, .int .i32 a3, .int .i32 b1, .int .i32 b2, .int .i32 b3, .int .i32 p1, .int .i32 p2, .int .i32 p3]
  have hsz1 : (w.alloc (.cells #[.int .i32 a1, .int .i32 a2, .int .i32 a3, .int .i32 b1, .int .i32 b2, .int .i32 b3, .int .i32 p1, .int .i32 p2, .int .i32 p3] 29)).heap.size = w.heap.size + 1 := by simp
  go_enter Try.func16, Try.ntmps16
  go_wp2_with fail
  generalize w.alloc (.cells #[.int .i32 a1, .int .i32 a2, .int .i32 a3, .int .i32 b1, .int .i32 b2, .int .i32 b3, .int .i32 p1, .int .i32 p2, .int .i32 p3] 29) = w1 at *
  obtain ⟨q0, q1, q2, q3, q4, q5, q6, q7, q8⟩ := nine kt.cell
  refine region_cut (fun a a' w' => ∃ b7, a' = (((((((((((a.put (some 24) (.pointer (some ⟨w.heap.size, 0, none⟩))).put (some 25) (.agg #[.int .i32 a1, .int .i32 a2, .int .i32 a3])).put (some 26) (.agg #[.int .i64 (clampI a1), .int .i64 (clampI a2)])).put (some 27) (.pointer (some ⟨w.heap.size, 3, none⟩))).put (some 28) (.agg #[.int .i32 b1, .int .i32 b2, .int .i32 b3])).put (some 29) (.agg #[.int .i64 (clampI b1), .int .i64 (clampI b2)])).put (some 30) (.pointer (some ⟨w.heap.size, 6, none⟩))).put (some 31) (.agg #[.int .i32 p1, .int .i32 p2, .int .i32 p3])).put (some 32) (.agg #[.int .i64 (clampI p1), .int .i64 (clampI p2)])).put (some 33) (.agg #[.int .i64 (clampI a1), .int .i64 (clampI a2), .int .i64 (clampI b1), .int .i64 (clampI b2), .int .i64 (clampI p1), .int .i64 (clampI p2)])).put (some 7) (.pointer (some ⟨b7, 0, none⟩))) ∧ w1.heap.size ≤ b7 ∧ Blk w' b7 56 #[.int .i64 (clampI a1), .int .i64 (clampI a2), .int .i64 (clampI b1), .int .i64 (clampI b2), .int .i64 (clampI p1), .int .i64 (clampI p2)] ∧ Below w1.heap.size w1 w') ?_ ?_
  · intro K1 hK1
    clear hAr heq hgd
    have hS0 : S9 w1 w.heap.size a1 a2 a3 b1 b2 b3 p1 p2 p3 w1 := ⟨q0, q1, q2, q3, q4, q5, q6, q7, q8, Below.refl _ _⟩
    have hlt : w.heap.size < w1.heap.size := by omega
    have hS00 := Lib.hid hS0.drew_
    have hS01 := Lib.hid hS0
    clear q0 q1 q2 q3 q4 q5 q6 q7 q8 hsz1 kt hb1 Hs ha s1 s2
    go_region_held3 (S9 w1 w.heap.size a1 a2 a3 b1 b2 b3 p1 p2 p3) (first | with_reducible exact hS0.drew_ | with_reducible exact S9.put6_ hlt (by assumption) (Hid.out (by assumption)) | with_reducible exact S9.new (by assumption) | with_reducible exact S9.new (Hid.out (by assumption)) | with_reducible exact (S9.new hS0).drew_ | with_reducible exact S9.call hlt (by assumption) hbq | fail) ((first | (go_at_call 8; refine (held_any _ _ _ _).mono ?_; rintro e w' ⟨rfl, hbq⟩; have hS6 := Lib.hid (S9.call hlt (by assumption) hbq); (first | (have hk6 : Blk w' _ 56 #[_, _, _, _, _, _] := (Blk.new _ _ _).below hbq (by simp); have hg6 := S9.at6 hk6 (by assumption); (try simp only [drew_size] at hk6 hg6); have hf6 := hk6.frozen; obtain ⟨z0, z1, z2, z3, z4, z5⟩ := six hk6.cell) | (have hk6 : Blk w' _ 56 #[_, _, _, _, _, _] := (Blk.new _ _ _).drew.below hbq (by simp); have hg6 := S9.at6 hk6 (by assumption); have hf6 := hk6.frozen; obtain ⟨z0, z1, z2, z3, z4, z5⟩ := six hk6.cell) | (have hk6 := Blk.step (t := 56) (by assumption) hbq; have hf6 := hk6.frozen; obtain ⟨z0, z1, z2, z3, z4, z5⟩ := six hk6.cell) | skip))))
    all_goals
      refine hK1.out _ _ ?_
      apply Exists.intro
      refine ⟨?_, ?_, ?_, ?_⟩
      rotate_left 2
      · first | with_reducible exact Blk.new _ _ _ | with_reducible exact Blk.put6_ (by assumption) _ _ _ _ _ _
      · with_reducible exact S9.is (by assumption)
      · kernel_rfl
      · first | with_reducible exact S9.size (by assumption) | with_reducible exact Hid.out (by assumption)
  · rintro a' w2 ⟨b7, rfl, hb7, k7, hb2⟩
    have hb3 := hb1.trans (hb2.mono (by omega))
    obtain ⟨y0, y1, y2, y3, y4, y5⟩ := six k7.cell
    obtain ⟨q0, q1, q2, q3, q4, q5, q6, q7, q8⟩ := nine (kt.below hb2 (by omega)).cell
    clear kt
    go_wp2_with fail
    refine (hAr _).mono ?_
    rintro e w3 ⟨rfl, hb4⟩
    have hb5 := below_cut hb3 hb4 (Nat.le_refl _)
    have k8 := k7.step hb4
    obtain ⟨y0, y1, y2, y3, y4, y5⟩ := six k8.cell
    clear hAr q0 q1 q2 q3 q4 q5 q6 q7 q8 k7
    have e0 := fun o => cell_new o y0
    have e1 := fun o => cell_new o y1
    have e2 := fun o => cell_new o y2
    have e3 := fun o => cell_new o y3
    have e4 := fun o => cell_new o y4
    have e5 := fun o => cell_new o y5
    go_wp2_with fail
    have k9 := k8.alloc (.cells #[.int .i64 (16 * x + 8), .int .i64 (16 * y + 8)] 40)
    have hb6 := hb5.alloc hb5.size (.cells #[.int .i64 (16 * x + 8), .int .i64 (16 * y + 8)] 40)
    have km := Blk.new w3 40 #[.int .i64 (16 * x + 8), .int .i64 (16 * y + 8)]
    obtain ⟨m0, m1⟩ := two km.cell
    refine (all_any (holdP (a1, a2, a3), holdP (b1, b2, b3), holdP (p1, p2, p3)) w3.heap.size (16 * x + 8, 16 * y + 8) _ ⟨holdP_16 _, holdP_16 _, holdP_16 _⟩ ⟨by simp only; omega, by simp only; omega⟩ (by simp) m0 m1).mono ?_
    rintro e w4 ⟨rfl, hb7'⟩
    go_wp2_with fail
    go_ret
    exact ⟨rfl, below_cut hb6 hb7' (Nat.le_refl _)⟩
end Go.Proofs.Ytkmdeaffhneibaa
