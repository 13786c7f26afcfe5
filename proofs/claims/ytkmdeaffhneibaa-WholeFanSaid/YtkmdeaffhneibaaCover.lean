/- Walks: cover.picture, side, Box. -/
import Derived.Lib.MinMax
import Derived.Test.YtkmdeaffhneibaaCovers
namespace Go.Proofs.Ytkmdeaffhneibaa
open Go.RowKit Go.BigFrame

theorem picture_any (x y : Int) (w : World) (hx : 1 ≤ x ∧ x ≤ 1024) (hy : 1 ≤ y ∧ y ≤ 1024) :
    Calls Try.prog 10 #[.int .i64 x, .int .i64 y] w fun e w' => e = .returned (.bool true) ∧ w = w' := by
  obtain ⟨h1, h2⟩ := hx
  obtain ⟨h3, h4⟩ := hy
  have d1 : decide (1 ≤ x) = true := by simpa using h1
  have d2 : decide (x ≤ 1024) = true := by simpa using h2
  have d3 : decide (1 ≤ y) = true := by simpa using h3
  have d4 : decide (y ≤ 1024) = true := by simpa using h4
  go_enter Try.func10, Try.ntmps10
  go_wp2
  go_ret
  exact ⟨rfl, rfl⟩
theorem box1_any (x y z : Int) (w : World) : Calls Try.prog 14 #[.agg #[.int .i32 x, .int .i32 y, .int .i32 z]] w fun e w' => e = .returned (.int .i32 (clampI x)) ∧ Below w.heap.size w w' := by
  go_enter Try.func14, Try.ntmps14
  go_wp2_with fail
  refine (clamp_any _ _).mono ?_
  rintro e w' ⟨rfl, rfl⟩
  go_wp2
  go_ret
  exact ⟨rfl, (Below.refl _ _).alloc (Nat.le_refl _) _⟩
theorem box2_any (x y z : Int) (w : World) : Calls Try.prog 15 #[.agg #[.int .i32 x, .int .i32 y, .int .i32 z]] w fun e w' => e = .returned (.int .i32 (clampI y)) ∧ Below w.heap.size w w' := by
  go_enter Try.func15, Try.ntmps15
  go_wp2_with fail
  refine (clamp_any _ _).mono ?_
  rintro e w' ⟨rfl, rfl⟩
  go_wp2
  go_ret
  exact ⟨rfl, (Below.refl _ _).alloc (Nat.le_refl _) _⟩
theorem min2_eq (a b : Int) : min2 a b = min b a := by unfold min2; rw [Int.min_def]; split <;> split <;> omega
theorem max2_eq (a b : Int) : max2 a b = max b a := by unfold max2; rw [Int.max_def]; split <;> split <;> omega

/-- a point's three cells, and nothing else turned -/
abbrev P3 (w1 : World) (b o : Nat) (x0 x1 x2 : Int) (w' : World) : Prop :=
  w'.cell? ⟨b, o, none⟩ = some (.int .i32 x0) ∧ w'.cell? ⟨b, o + 1, none⟩ = some (.int .i32 x1) ∧ w'.cell? ⟨b, o + 2, none⟩ = some (.int .i32 x2) ∧ Below w1.heap.size w1 w'
section
variable {w1 w2 : World} {b o : Nat} {x0 x1 x2 : Int}
theorem P3.drew_ (h : P3 w1 b o x0 x1 x2 w2) : P3 w1 b o x0 x1 x2 w2.drew := by
  obtain ⟨h0, h1, h2, h9⟩ := h
  exact ⟨h0, h1, h2, h9.drew⟩
theorem P3.call (hb : b < w1.heap.size) (h : P3 w1 b o x0 x1 x2 w2) {w3 : World} (hq : Below w2.heap.size w2 w3) : P3 w1 b o x0 x1 x2 w3 := by
  obtain ⟨h0, h1, h2, h9⟩ := h
  have hl : b < w2.heap.size := Nat.lt_of_lt_of_le hb h9.size
  exact ⟨(hq.cell (p := ⟨b, o, none⟩) hl).trans h0, (hq.cell (p := ⟨b, o + 1, none⟩) hl).trans h1, (hq.cell (p := ⟨b, o + 2, none⟩) hl).trans h2, below_cut h9 hq (Nat.le_refl _)⟩
theorem P3.is (h : P3 w1 b o x0 x1 x2 w2) : Below w1.heap.size w1 w2 := h.2.2.2
end

/-- the least, the greatest so far -/
def loK (a b p : Int) (k : Nat) : Int := if k = 0 then a else if k = 1 then min a b else min (min a b) p
def hiK (a b p : Int) (k : Nat) : Int := if k = 0 then a else if k = 1 then max a b else max (max a b) p
theorem loK_1 (a b p : Int) : loK a b p 1 = min (loK a b p 0) b := rfl
theorem loK_2 (a b p : Int) : loK a b p 2 = min (loK a b p 1) p := rfl
theorem hiK_1 (a b p : Int) : hiK a b p 1 = max (hiK a b p 0) b := rfl
theorem hiK_2 (a b p : Int) : hiK a b p 2 = max (hiK a b p 1) p := rfl

theorem loK_lo3 (a b p : Int) : loK a b p 2 = lo3 a b p := by rw [loK_2, loK_1]; unfold lo3; rw [min2_eq, min2_eq]; show min (min a b) p = _; rw [Int.min_comm a b, Int.min_comm (min b a) p]
theorem hiK_hi3 (a b p : Int) : hiK a b p 2 = hi3 a b p := by rw [hiK_2, hiK_1]; unfold hi3; rw [max2_eq, max2_eq]; show max (max a b) p = _; rw [Int.max_comm a b, Int.max_comm (max b a) p]
theorem loK_range {a b p : Int} (ha : -32768 ≤ a ∧ a ≤ 32767) (hb : -32768 ≤ b ∧ b ≤ 32767) (hp : -32768 ≤ p ∧ p ≤ 32767) : -32768 ≤ loK a b p 2 ∧ loK a b p 2 ≤ 32767 := by
  rw [loK_lo3]; unfold lo3 min2; split <;> split at * <;> omega
theorem hiK_range {a b p : Int} (ha : -32768 ≤ a ∧ a ≤ 32767) (hb : -32768 ≤ b ∧ b ≤ 32767) (hp : -32768 ≤ p ∧ p ≤ 32767) : -32768 ≤ hiK a b p 2 ∧ hiK a b p 2 ≤ 32767 := by
  rw [hiK_hi3]; unfold hi3 max2; split <;> split at * <;> omega

set_option maxRecDepth 100000 in
set_option maxHeartbeats 2000000 in
theorem side1_any (a1 a2 a3 b1 b2 b3 p1 p2 p3 : Int) (s : Int) (w : World) :
    Calls Try.prog 13 #[triV ((a1, a2, a3), (b1, b2, b3), (p1, p2, p3)), .int .i64 s, .func (.func 14) #[] #[]] w fun e w' =>
      e = .returned (.agg #[.int .i64 (spanF (lo3 (clampI a1) (clampI b1) (clampI p1))), .int .i64 (spanT (hi3 (clampI a1) (clampI b1) (clampI p1)) s)]) ∧ Below w.heap.size w w' := by
  have ra := clampI_range a1
  have rb := clampI_range b1
  have rp := clampI_range p1
  have wa : IntKind.i64.wrap (clampI a1) = clampI a1 := IntWalk.i64_in _ (by omega)
  have wb : IntKind.i64.wrap (clampI b1) = clampI b1 := IntWalk.i64_in _ (by omega)
  have wp : IntKind.i64.wrap (clampI p1) = clampI p1 := IntWalk.i64_in _ (by omega)
  unfold triV
  simp only
  have k' := (Blk.new w 29 #[.int .i32 a1, .int .i32 a2, .int .i32 a3, .int .i32 b1, .int .i32 b2, .int .i32 b3, .int .i32 p1, .int .i32 p2, .int .i32 p3]).alloc (.cells #[.int .i64 0, .int .i64 0] 47)
  have kr := Blk.new (w.alloc (.cells #[.int .i32 a1, .int .i32 a2, .int .i32 a3, .int .i32 b1, .int .i32 b2, .int .i32 b3, .int .i32 p1, .int .i32 p2, .int .i32 p3] 29)) 47 #[.int .i64 0, .int .i64 0]
  have hb1 : Below w.heap.size w ((w.alloc (.cells #[.int .i32 a1, .int .i32 a2, .int .i32 a3, .int .i32 b1, .int .i32 b2, .int .i32 b3, .int .i32 p1, .int .i32 p2, .int .i32 p3] 29)).alloc (.cells #[.int .i64 0, .int .i64 0] 47)) := ((Below.refl _ _).alloc (Nat.le_refl _) _).alloc (by simp) _
  rw [World.size_alloc] at kr
  go_enter Try.func13, Try.ntmps13
  go_wp2_with fail
  generalize (w.alloc (.cells #[.int .i32 a1, .int .i32 a2, .int .i32 a3, .int .i32 b1, .int .i32 b2, .int .i32 b3, .int .i32 p1, .int .i32 p2, .int .i32 p3] 29)).alloc (.cells #[.int .i64 0, .int .i64 0] 47) = w1 at *
  obtain ⟨q0, q1, q2, q3, q4, q5, q6, q7, q8⟩ := nine k'.cell
  have hlt := k'.lt
  have hS0 : P3 w1 w.heap.size 0 a1 a2 a3 w1 := ⟨q0, q1, q2, Below.refl _ _⟩
  clear q0 q1 q2 q3 q4 q5 q6 q7 q8
  go_region_held3 (P3 w1 w.heap.size 0 a1 a2 a3) (first | with_reducible exact hS0.drew_ | with_reducible exact P3.call hlt (by assumption) hbq | fail) ((first | (go_at_call 14; refine (box1_any _ _ _ _).mono ?_; rintro e w' ⟨rfl, hbq⟩)))
  have hb2 : Below w1.heap.size w1 w' := P3.is (by assumption)
  clear hS0
  obtain ⟨wz, hwz⟩ : ∃ wz, wz = w' := ⟨_, rfl⟩
  rw [← hwz] at hb2 ⊢
  clear hwz
  go_wp2_with fail
  go_loopw [7, 8, 25] (fun l h i wr => ∃ (k : Nat) (lo hi : Int), k ≤ 2 ∧ i = .int .i64 k ∧ l = .int .i64 lo ∧ h = .int .i64 hi ∧ lo = loK (clampI a1) (clampI b1) (clampI p1) k ∧ hi = hiK (clampI a1) (clampI b1) (clampI p1) k ∧ Below w1.heap.size w1 wr) (fun _ _ i _ => 2 - (intOf i).toNat)
  case atStart => exact ⟨0, _, _, by omega, rfl, rfl, rfl, rfl, rfl, hb2⟩
  case round =>
    obtain ⟨k, lo, hi, hk, rfl, rfl, rfl, hlo, hhi, hb2⟩ := hrel
    obtain ⟨-, -, -, c0, c1, c2, d0, d1, d2⟩ := nine (k'.below hb2 hlt).cell
    have hcase : k = 0 ∨ k = 1 ∨ k = 2 := by omega
    rcases hcase with rfl | rfl | rfl
    · obtain ⟨rfl, rfl⟩ : lo = loK (clampI a1) (clampI b1) (clampI p1) 0 ∧ hi = hiK (clampI a1) (clampI b1) (clampI p1) 0 := ⟨hlo, hhi⟩
      go_wp2_with fail
      have hb3 := (Below.refl wr.heap.size wr).alloc (Nat.le_refl _) (.cells #[.int .i32 b1, .int .i32 b2, .int .i32 b3] 27)
      have kp := Blk.new wr 27 #[.int .i32 b1, .int .i32 b2, .int .i32 b3]
      obtain ⟨z0, z1, z2⟩ := three kp.cell
      have hlp := kp.lt
      generalize wr.alloc (.cells #[.int .i32 b1, .int .i32 b2, .int .i32 b3] 27) = w2 at *
      have hP0 : P3 w2 wr.heap.size 0 b1 b2 b3 w2 := ⟨z0, z1, z2, Below.refl _ _⟩
      clear z0 z1 z2 c0 c1 c2
      go_region_held3 (P3 w2 wr.heap.size 0 b1 b2 b3) (first | with_reducible assumption | with_reducible exact hP0.drew_ | with_reducible exact P3.call hlp (by assumption) hbq | fail) ((first | (go_at_call 14; refine (box1_any _ _ _ _).mono ?_; rintro e w' ⟨rfl, hbq⟩)))
      all_goals
        have hz : Below w2.heap.size w2 w' := P3.is (by assumption)
        have hz2 := below_cut hb2 (hb3.trans (hz.mono hb3.size)) (Nat.le_refl _)
        go_wp2_with fail
        go_roundw
        case rel => exact ⟨1, _, _, by omega, by go_num, rfl, rfl, rfl, rfl, hz2⟩
        case measure => simp [intOf]
    · obtain ⟨rfl, rfl⟩ : lo = loK (clampI a1) (clampI b1) (clampI p1) 1 ∧ hi = hiK (clampI a1) (clampI b1) (clampI p1) 1 := ⟨hlo, hhi⟩
      go_wp2_with fail
      have hb3 := (Below.refl wr.heap.size wr).alloc (Nat.le_refl _) (.cells #[.int .i32 p1, .int .i32 p2, .int .i32 p3] 27)
      have kp := Blk.new wr 27 #[.int .i32 p1, .int .i32 p2, .int .i32 p3]
      obtain ⟨z0, z1, z2⟩ := three kp.cell
      have hlp := kp.lt
      generalize wr.alloc (.cells #[.int .i32 p1, .int .i32 p2, .int .i32 p3] 27) = w2 at *
      have hP0 : P3 w2 wr.heap.size 0 p1 p2 p3 w2 := ⟨z0, z1, z2, Below.refl _ _⟩
      clear z0 z1 z2 c0 c1 c2
      go_region_held3 (P3 w2 wr.heap.size 0 p1 p2 p3) (first | with_reducible assumption | with_reducible exact hP0.drew_ | with_reducible exact P3.call hlp (by assumption) hbq | fail) ((first | (go_at_call 14; refine (box1_any _ _ _ _).mono ?_; rintro e w' ⟨rfl, hbq⟩)))
      all_goals
        have hz : Below w2.heap.size w2 w' := P3.is (by assumption)
        have hz2 := below_cut hb2 (hb3.trans (hz.mono hb3.size)) (Nat.le_refl _)
        go_wp2_with fail
        go_roundw
        case rel => exact ⟨2, _, _, by omega, by go_num, rfl, rfl, rfl, rfl, hz2⟩
        case measure => simp [intOf]
    · have hbL := loK_range ra rb rp
      have hbH := hiK_range ra rb rp
      have kr2 := kr.below hb2 kr.lt
      obtain ⟨z0, z1⟩ := two kr2.cell
      have f0 := kr2.frozen
      clear c0 c1 c2 d0 d1 d2
      have hEL := Lib.hid (loK_lo3 (clampI a1) (clampI b1) (clampI p1))
      have hEH := Lib.hid (hiK_hi3 (clampI a1) (clampI b1) (clampI p1))
      generalize loK (clampI a1) (clampI b1) (clampI p1) 2 = L at *
      generalize hiK (clampI a1) (clampI b1) (clampI p1) 2 = H at *
      obtain ⟨l1, l2⟩ := hbL
      obtain ⟨h1, h2⟩ := hbH
      go_wp2_with fail
      have kr3 := (kr2.set_ 0 (.int .i64 (max ((L - 8 + 16 - 1) / 16) 0))).set_ 1 (.int .i64 (min ((H - 8) / 16 + 1) s))
      refine bodyPost_ret (v := .agg #[.int .i64 (max ((L - 8 + 16 - 1) / 16) 0), .int .i64 (min ((H - 8) / 16 + 1) s)]) (by simp [results, Try.results13, go_sem, two kr3.cell]) rfl ?_
      refine ⟨?_, ?_⟩
      · rw [← hEL.out, ← hEH.out]
        unfold spanF spanT
        rw [max2_eq, min2_eq]
        have e : L - 8 + 16 - 1 = L + 7 := by omega
        rw [e, Int.max_comm, Int.min_comm]
      · exact hb1.trans ((((hb2.mono hb1.size).setCell (p := ⟨w.heap.size + 1, 0, none⟩) (by simp) _).setCell (p := ⟨w.heap.size + 1, 1, none⟩) (by simp) _))
set_option maxHeartbeats 2000000 in
theorem side2_any (a1 a2 a3 b1 b2 b3 p1 p2 p3 : Int) (s : Int) (w : World) :
    Calls Try.prog 13 #[triV ((a1, a2, a3), (b1, b2, b3), (p1, p2, p3)), .int .i64 s, .func (.func 15) #[] #[]] w fun e w' =>
      e = .returned (.agg #[.int .i64 (spanF (lo3 (clampI a2) (clampI b2) (clampI p2))), .int .i64 (spanT (hi3 (clampI a2) (clampI b2) (clampI p2)) s)]) ∧ Below w.heap.size w w' := by
  have ra := clampI_range a2
  have rb := clampI_range b2
  have rp := clampI_range p2
  have wa : IntKind.i64.wrap (clampI a2) = clampI a2 := IntWalk.i64_in _ (by omega)
  have wb : IntKind.i64.wrap (clampI b2) = clampI b2 := IntWalk.i64_in _ (by omega)
  have wp : IntKind.i64.wrap (clampI p2) = clampI p2 := IntWalk.i64_in _ (by omega)
  unfold triV
  simp only
  have k' := (Blk.new w 29 #[.int .i32 a1, .int .i32 a2, .int .i32 a3, .int .i32 b1, .int .i32 b2, .int .i32 b3, .int .i32 p1, .int .i32 p2, .int .i32 p3]).alloc (.cells #[.int .i64 0, .int .i64 0] 47)
  have kr := Blk.new (w.alloc (.cells #[.int .i32 a1, .int .i32 a2, .int .i32 a3, .int .i32 b1, .int .i32 b2, .int .i32 b3, .int .i32 p1, .int .i32 p2, .int .i32 p3] 29)) 47 #[.int .i64 0, .int .i64 0]
  have hb1 : Below w.heap.size w ((w.alloc (.cells #[.int .i32 a1, .int .i32 a2, .int .i32 a3, .int .i32 b1, .int .i32 b2, .int .i32 b3, .int .i32 p1, .int .i32 p2, .int .i32 p3] 29)).alloc (.cells #[.int .i64 0, .int .i64 0] 47)) := ((Below.refl _ _).alloc (Nat.le_refl _) _).alloc (by simp) _
  rw [World.size_alloc] at kr
  go_enter Try.func13, Try.ntmps13
  go_wp2_with fail
  generalize (w.alloc (.cells #[.int .i32 a1, .int .i32 a2, .int .i32 a3, .int .i32 b1, .int .i32 b2, .int .i32 b3, .int .i32 p1, .int .i32 p2, .int .i32 p3] 29)).alloc (.cells #[.int .i64 0, .int .i64 0] 47) = w1 at *
  obtain ⟨q0, q1, q2, q3, q4, q5, q6, q7, q8⟩ := nine k'.cell
  have hlt := k'.lt
  have hS0 : P3 w1 w.heap.size 0 a1 a2 a3 w1 := ⟨q0, q1, q2, Below.refl _ _⟩
  clear q0 q1 q2 q3 q4 q5 q6 q7 q8
  go_region_held3 (P3 w1 w.heap.size 0 a1 a2 a3) (first | with_reducible exact hS0.drew_ | with_reducible exact P3.call hlt (by assumption) hbq | fail) ((first | (go_at_call 15; refine (box2_any _ _ _ _).mono ?_; rintro e w' ⟨rfl, hbq⟩)))
  have hb2 : Below w1.heap.size w1 w' := P3.is (by assumption)
  clear hS0
  obtain ⟨wz, hwz⟩ : ∃ wz, wz = w' := ⟨_, rfl⟩
  rw [← hwz] at hb2 ⊢
  clear hwz
  go_wp2_with fail
  go_loopw [7, 8, 25] (fun l h i wr => ∃ (k : Nat) (lo hi : Int), k ≤ 2 ∧ i = .int .i64 k ∧ l = .int .i64 lo ∧ h = .int .i64 hi ∧ lo = loK (clampI a2) (clampI b2) (clampI p2) k ∧ hi = hiK (clampI a2) (clampI b2) (clampI p2) k ∧ Below w1.heap.size w1 wr) (fun _ _ i _ => 2 - (intOf i).toNat)
  case atStart => exact ⟨0, _, _, by omega, rfl, rfl, rfl, rfl, rfl, hb2⟩
  case round =>
    obtain ⟨k, lo, hi, hk, rfl, rfl, rfl, hlo, hhi, hb2⟩ := hrel
    obtain ⟨-, -, -, c0, c1, c2, d0, d1, d2⟩ := nine (k'.below hb2 hlt).cell
    have hcase : k = 0 ∨ k = 1 ∨ k = 2 := by omega
    rcases hcase with rfl | rfl | rfl
    · obtain ⟨rfl, rfl⟩ : lo = loK (clampI a2) (clampI b2) (clampI p2) 0 ∧ hi = hiK (clampI a2) (clampI b2) (clampI p2) 0 := ⟨hlo, hhi⟩
      go_wp2_with fail
      have hb3 := (Below.refl wr.heap.size wr).alloc (Nat.le_refl _) (.cells #[.int .i32 b1, .int .i32 b2, .int .i32 b3] 27)
      have kp := Blk.new wr 27 #[.int .i32 b1, .int .i32 b2, .int .i32 b3]
      obtain ⟨z0, z1, z2⟩ := three kp.cell
      have hlp := kp.lt
      generalize wr.alloc (.cells #[.int .i32 b1, .int .i32 b2, .int .i32 b3] 27) = w2 at *
      have hP0 : P3 w2 wr.heap.size 0 b1 b2 b3 w2 := ⟨z0, z1, z2, Below.refl _ _⟩
      clear z0 z1 z2 c0 c1 c2
      go_region_held3 (P3 w2 wr.heap.size 0 b1 b2 b3) (first | with_reducible assumption | with_reducible exact hP0.drew_ | with_reducible exact P3.call hlp (by assumption) hbq | fail) ((first | (go_at_call 15; refine (box2_any _ _ _ _).mono ?_; rintro e w' ⟨rfl, hbq⟩)))
      all_goals
        have hz : Below w2.heap.size w2 w' := P3.is (by assumption)
        have hz2 := below_cut hb2 (hb3.trans (hz.mono hb3.size)) (Nat.le_refl _)
        go_wp2_with fail
        go_roundw
        case rel => exact ⟨1, _, _, by omega, by go_num, rfl, rfl, rfl, rfl, hz2⟩
        case measure => simp [intOf]
    · obtain ⟨rfl, rfl⟩ : lo = loK (clampI a2) (clampI b2) (clampI p2) 1 ∧ hi = hiK (clampI a2) (clampI b2) (clampI p2) 1 := ⟨hlo, hhi⟩
      go_wp2_with fail
      have hb3 := (Below.refl wr.heap.size wr).alloc (Nat.le_refl _) (.cells #[.int .i32 p1, .int .i32 p2, .int .i32 p3] 27)
      have kp := Blk.new wr 27 #[.int .i32 p1, .int .i32 p2, .int .i32 p3]
      obtain ⟨z0, z1, z2⟩ := three kp.cell
      have hlp := kp.lt
      generalize wr.alloc (.cells #[.int .i32 p1, .int .i32 p2, .int .i32 p3] 27) = w2 at *
      have hP0 : P3 w2 wr.heap.size 0 p1 p2 p3 w2 := ⟨z0, z1, z2, Below.refl _ _⟩
      clear z0 z1 z2 c0 c1 c2
      go_region_held3 (P3 w2 wr.heap.size 0 p1 p2 p3) (first | with_reducible assumption | with_reducible exact hP0.drew_ | with_reducible exact P3.call hlp (by assumption) hbq | fail) ((first | (go_at_call 15; refine (box2_any _ _ _ _).mono ?_; rintro e w' ⟨rfl, hbq⟩)))
      all_goals
        have hz : Below w2.heap.size w2 w' := P3.is (by assumption)
        have hz2 := below_cut hb2 (hb3.trans (hz.mono hb3.size)) (Nat.le_refl _)
        go_wp2_with fail
        go_roundw
        case rel => exact ⟨2, _, _, by omega, by go_num, rfl, rfl, rfl, rfl, hz2⟩
        case measure => simp [intOf]
    · have hbL := loK_range ra rb rp
      have hbH := hiK_range ra rb rp
      have kr2 := kr.below hb2 kr.lt
      obtain ⟨z0, z1⟩ := two kr2.cell
      have f0 := kr2.frozen
      clear c0 c1 c2 d0 d1 d2
      have hEL := Lib.hid (loK_lo3 (clampI a2) (clampI b2) (clampI p2))
      have hEH := Lib.hid (hiK_hi3 (clampI a2) (clampI b2) (clampI p2))
      generalize loK (clampI a2) (clampI b2) (clampI p2) 2 = L at *
      generalize hiK (clampI a2) (clampI b2) (clampI p2) 2 = H at *
      obtain ⟨l1, l2⟩ := hbL
      obtain ⟨h1, h2⟩ := hbH
      go_wp2_with fail
      have kr3 := (kr2.set_ 0 (.int .i64 (max ((L - 8 + 16 - 1) / 16) 0))).set_ 1 (.int .i64 (min ((H - 8) / 16 + 1) s))
      refine bodyPost_ret (v := .agg #[.int .i64 (max ((L - 8 + 16 - 1) / 16) 0), .int .i64 (min ((H - 8) / 16 + 1) s)]) (by simp [results, Try.results13, go_sem, two kr3.cell]) rfl ?_
      refine ⟨?_, ?_⟩
      · rw [← hEL.out, ← hEH.out]
        unfold spanF spanT
        rw [max2_eq, min2_eq]
        have e : L - 8 + 16 - 1 = L + 7 := by omega
        rw [e, Int.max_comm, Int.min_comm]
      · exact hb1.trans ((((hb2.mono hb1.size).setCell (p := ⟨w.heap.size + 1, 0, none⟩) (by simp) _).setCell (p := ⟨w.heap.size + 1, 1, none⟩) (by simp) _))
end Go.Proofs.Ytkmdeaffhneibaa
