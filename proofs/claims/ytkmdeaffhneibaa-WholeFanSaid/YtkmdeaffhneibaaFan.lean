/- The walk of WholeFan. -/
import Derived.Test.YtkmdeaffhneibaaFanOut
namespace Go.Proofs.Ytkmdeaffhneibaa
open Go.RowKit Go.BigFrame

theorem zero_arr (w : World) : (zeroValue 32).run Try.prog w = .ok (.agg (Array.replicate 4096 (.int .i64 0))) w := by kernel_rfl
theorem zero_any : ∃ Z : Array Value, (∀ w, (zeroValue 32).run Try.prog w = .ok (.agg Z) w) ∧ ∀ i, i < 4096 → Z[i]? = some (.int .i64 0) :=
  ⟨_, zero_arr, fun i hi => by simp [hi]⟩
/-- the point -/
structure FanS (w : World) (g : Nat) (x y : Int) (W : World) : Prop where
  kp : Blk W g 27 #[.int .i32 (16 * x + 8), .int .i32 (16 * y + 8), .int .i32 0]
  below : Below w.heap.size w W
theorem FanS.step {w W W' : World} {g : Nat} {x y : Int} (h : FanS w g x y W) (hb : Below W.heap.size W W') : FanS w g x y W' := ⟨h.kp.step hb, below_cut h.below hb (Nat.le_refl _)⟩
theorem FanS.alloc2 {w W : World} {g : Nat} {x y : Int} (h : FanS w g x y W) (o o' : Obj) : FanS w g x y ((W.alloc o).alloc o') := h.step (((Below.refl _ _).alloc (Nat.le_refl _) _).alloc (by simp) _)

/-- how often each pixel has been seen -/
structure SeenAt (gs : Nat) (F : Nat → Int) (W : World) : Prop where
  cell : ∀ i, i < 4096 → W.cell? ⟨gs, i, none⟩ = some (.int .i64 (F i))
  free : ∀ i, W.frozen? ⟨gs, i, none⟩ = false
  lt : gs < W.heap.size
theorem SeenAt.step {gs : Nat} {F : Nat → Int} {W W' : World} (h : SeenAt gs F W) (hb : Below W.heap.size W W') : SeenAt gs F W' :=
  ⟨fun i hi => (hb.cell (p := ⟨gs, i, none⟩) h.lt).trans (h.cell i hi), fun i => (hb.frozen (p := ⟨gs, i, none⟩) h.lt).trans (h.free i), Nat.lt_of_lt_of_le h.lt hb.size⟩
theorem SeenAt.put {gs : Nat} {F : Nat → Int} {W : World} (h : SeenAt gs F W) {i : Nat} (hi : i < 4096) (v : Int) : SeenAt gs (upd F i v) (W.setCell ⟨gs, i, none⟩ (.int .i64 v)) := by
  refine ⟨fun j hj => ?_, fun j => ?_, by simpa using h.lt⟩
  · unfold upd
    by_cases e : j = i
    · subst e
      rw [if_pos rfl]
      exact World.cell?_setCell_same _ _ _ (h.cell j hj)
    · rw [if_neg e, World.cell?_setCell_other _ _ _ _ (by intro e'; injection e'; omega)]
      exact h.cell j hj
  · rw [World.frozen?_setCell]
    exact h.free j
/-- three points' cells, and nothing else turned -/
abbrev T9 (w1 : World) (g b o1 o2 : Nat) (X Y P0 P1 P2 M0 M1 M2 : Int) (w' : World) : Prop :=
  w'.cell? ⟨g, 0, none⟩ = some (.int .i32 X) ∧ w'.cell? ⟨g, 1, none⟩ = some (.int .i32 Y) ∧ w'.cell? ⟨g, 2, none⟩ = some (.int .i32 0) ∧
  w'.cell? ⟨b, o1, none⟩ = some (.int .i32 P0) ∧ w'.cell? ⟨b, o1 + 1, none⟩ = some (.int .i32 P1) ∧ w'.cell? ⟨b, o1 + 2, none⟩ = some (.int .i32 P2) ∧
  w'.cell? ⟨b, o2, none⟩ = some (.int .i32 M0) ∧ w'.cell? ⟨b, o2 + 1, none⟩ = some (.int .i32 M1) ∧ w'.cell? ⟨b, o2 + 2, none⟩ = some (.int .i32 M2) ∧ Below w1.heap.size w1 w'
section
variable {w1 w2 : World} {g b o1 o2 : Nat} {X Y P0 P1 P2 M0 M1 M2 : Int}
theorem T9.drew_ (h : T9 w1 g b o1 o2 X Y P0 P1 P2 M0 M1 M2 w2) : T9 w1 g b o1 o2 X Y P0 P1 P2 M0 M1 M2 w2.drew := by
  obtain ⟨h0, h1, h2, h3, h4, h5, h6, h7, h8, h9⟩ := h
  exact ⟨h0, h1, h2, h3, h4, h5, h6, h7, h8, h9.drew⟩
theorem T9.call (hg : g < w1.heap.size) (hb : b < w1.heap.size) (h : T9 w1 g b o1 o2 X Y P0 P1 P2 M0 M1 M2 w2) {w3 : World} (hq : Below w2.heap.size w2 w3) : T9 w1 g b o1 o2 X Y P0 P1 P2 M0 M1 M2 w3 := by
  obtain ⟨h0, h1, h2, h3, h4, h5, h6, h7, h8, h9⟩ := h
  have hl : b < w2.heap.size := Nat.lt_of_lt_of_le hb h9.size
  have hl2 : g < w2.heap.size := Nat.lt_of_lt_of_le hg h9.size
  exact ⟨(hq.cell (p := ⟨g, 0, none⟩) hl2).trans h0, (hq.cell (p := ⟨g, 1, none⟩) hl2).trans h1, (hq.cell (p := ⟨g, 2, none⟩) hl2).trans h2, (hq.cell (p := ⟨b, o1, none⟩) hl).trans h3, (hq.cell (p := ⟨b, o1 + 1, none⟩) hl).trans h4, (hq.cell (p := ⟨b, o1 + 2, none⟩) hl).trans h5, (hq.cell (p := ⟨b, o2, none⟩) hl).trans h6, (hq.cell (p := ⟨b, o2 + 1, none⟩) hl).trans h7, (hq.cell (p := ⟨b, o2 + 2, none⟩) hl).trans h8, below_cut h9 hq (Nat.le_refl _)⟩
theorem T9.is (h : T9 w1 g b o1 o2 X Y P0 P1 P2 M0 M1 M2 w2) : Below w1.heap.size w1 w2 := h.2.2.2.2.2.2.2.2.2
end
/-- the rows of a triangle, in a block that is not gs -/
def RowsAt (A : Option Addr) (R : List RowI) (N gs : Nat) (W : World) : Prop :=
  ∀ r, r < N → ∃ gr, A = some ⟨gr, 0, none⟩ ∧ (gs < gr ∧ gr < W.heap.size) ∧ W.cell? ⟨gr, r * 3, none⟩ = some (.int .i64 (rw_ R r).1) ∧ W.cell? ⟨gr, r * 3 + 1, none⟩ = some (.int .i64 (rw_ R r).2.1) ∧ W.cell? ⟨gr, r * 3 + 2, none⟩ = some (.int .i64 (rw_ R r).2.2)
theorem RowsAt.step {A : Option Addr} {R : List RowI} {N gs : Nat} {W W' : World} (h : RowsAt A R N gs W) (hb : Below W.heap.size W W') : RowsAt A R N gs W' := fun r hr => by
  obtain ⟨gr, e, ⟨h1, h2⟩, k0, k1, k2⟩ := h r hr
  exact ⟨gr, e, ⟨h1, Nat.lt_of_lt_of_le h2 hb.size⟩, (hb.cell (p := ⟨gr, r * 3, none⟩) h2).trans k0, (hb.cell (p := ⟨gr, r * 3 + 1, none⟩) h2).trans k1, (hb.cell (p := ⟨gr, r * 3 + 2, none⟩) h2).trans k2⟩
theorem RowsAt.put {A : Option Addr} {R : List RowI} {N gs : Nat} {W : World} (h : RowsAt A R N gs W) (i : Nat) (v : Value) : RowsAt A R N gs (W.setCell ⟨gs, i, none⟩ v) := fun r hr => by
  obtain ⟨gr, e, ⟨h1, h2⟩, k0, k1, k2⟩ := h r hr
  refine ⟨gr, e, ⟨h1, by simpa using h2⟩, ?_, ?_, ?_⟩ <;> rw [World.cell?_setCell_other _ _ _ _ (by intro e'; injection e'; omega)] <;> assumption
theorem rows_at {W : World} {base c gs : Nat} {A : Option Addr} {R : List RowI} {N : Nat} (h : W.ownsRow base 37 3 (.slice A N c) N (RowCs R)) (hb : gs < base) : RowsAt A R N gs W := fun r hr => by
  obtain ⟨g, e, h1, h2, hc⟩ := own_rows h (by omega)
  exact ⟨g, e, ⟨by omega, h2⟩, hc r hr⟩
theorem FanS.put {w W : World} {g gs : Nat} {x y : Int} (h : FanS w g x y W) (hg : g < gs) (hw : w.heap.size ≤ gs) (i : Nat) (v : Value) : FanS w g x y (W.setCell ⟨gs, i, none⟩ v) :=
  ⟨h.kp.far (p := ⟨gs, i, none⟩) (show g ≠ gs by omega) _, h.below.setCell (p := ⟨gs, i, none⟩) hw _⟩
theorem seen_new {W : World} {Z : Array Value} {t : TypeId} {R : Nat → List RowI} (h : ∀ i, i < 4096 → Z[i]? = some (.int .i64 0)) : SeenAt W.heap.size (F0 R 0) (W.alloc (.cells Z t)) := by
  have k := Blk.new W t Z
  exact ⟨fun i hi => (k.cell i).trans (h i hi), k.frozen, k.lt⟩

set_option maxRecDepth 100000 in
set_option maxHeartbeats 2000000 in
theorem fan_in (x y : Int) (b off n c : Nat) (l : List Pt3) (w : World) (hx0 : 0 ≤ x) (hx1 : x < 64) (hy0 : 0 ≤ y) (hy1 : y < 64) (hn0 : 3 ≤ n) (hn1 : n ≤ 32) (hb : b < w.heap.size)
    (hc : ∀ k, k < n → w.cell? ⟨b, off + k * 3, none⟩ = some (.int .i32 (rg l k).1) ∧ w.cell? ⟨b, off + k * 3 + 1, none⟩ = some (.int .i32 (rg l k).2.1) ∧ w.cell? ⟨b, off + k * 3 + 2, none⟩ = some (.int .i32 (rg l k).2.2)) :
    Calls Try.prog 3 #[.int .i64 x, .int .i64 y, .slice (some ⟨b, off, none⟩) n c] w fun e w' => e = .returned (.bool true) ∧ Below w.heap.size w w' := by
  have d0 : decide (x < 0) = false := by simp; omega
  have d1 : decide (y < 0) = false := by simp; omega
  have d2 : decide (64 ≤ x) = false := by simp; omega
  have d3 : decide (64 ≤ y) = false := by simp; omega
  have d4 : decide ((n : Int) < 3) = false := by simp; omega
  have d5 : decide (32 < (n : Int)) = false := by simp; omega
  have wx : IntKind.i32.wrap (16 * x + 8) = 16 * x + 8 := by simp [IntKind.wrap, IntKind.signed, IntKind.bits]; omega
  have wy : IntKind.i32.wrap (16 * y + 8) = 16 * y + 8 := by simp [IntKind.wrap, IntKind.signed, IntKind.bits]; omega
  go_enter Try.func3, Try.ntmps3
  go_wp2_with fail
  refine (count_six _).mono ?_
  rintro e w1 ⟨rfl, hb1⟩
  go_wp2_with fail
  have h0 : FanS w w1.heap.size x y (w1.alloc (.cells #[.int .i32 (16 * x + 8), .int .i32 (16 * y + 8), .int .i32 0] 27)) := ⟨Blk.new _ _ _, hb1.alloc hb1.size _⟩
  have hg1 := hb1.size
  generalize w1.alloc (.cells #[.int .i32 (16 * x + 8), .int .i32 (16 * y + 8), .int .i32 0] 27) = w2 at *
  generalize w1.heap.size = g at *
  clear hb1
  have HC := Lib.hid hc
  clear hc
  go_loopw [10, 11] (fun s i wr => ∃ k : Nat, k ≤ n ∧ i = .int .i64 k ∧ s = .int .i64 (turnS l n y k) ∧ Hid (∀ j, j < k → 0 < sideI (hP (rg l j)) (hP (rg l ((j + 1) % n))) (midV x y)) ∧ FanS w g x y wr) (fun _ i _ => n - (intOf i).toNat)
  case atStart => exact ⟨0, by omega, rfl, rfl, Lib.hid (fun j hj => by omega), h0⟩
  case round =>
    obtain ⟨k, hk, rfl, rfl, HS, hF⟩ := hrel
    have htb := turnS_bd l n y k
    obtain ⟨tb0, tb1⟩ := htb
    have hlk : decide ((k : Int) < (n : Int)) = decide (k < n) := by simp
    by_cases hlt : k < n
    · obtain ⟨m, hm⟩ : ∃ m, m = (k + 1) % n := ⟨_, rfl⟩
      have hmn : m < n := by rw [hm]; exact Nat.mod_lt _ (by omega)
      have em : ((k : Int) + 1) % (n : Int) = (m : Int) := by rw [hm]; simp
      obtain ⟨c0, c1, c2⟩ := HC.out k hlt
      have c0 := (hF.below.cell (p := ⟨b, off + k * 3, none⟩) hb).trans c0
      have c1 := (hF.below.cell (p := ⟨b, off + k * 3 + 1, none⟩) hb).trans c1
      have c2 := (hF.below.cell (p := ⟨b, off + k * 3 + 2, none⟩) hb).trans c2
      obtain ⟨e0, e1, e2⟩ := HC.out m hmn
      have e0 := fun o => cell_new o ((hF.below.cell (p := ⟨b, off + m * 3, none⟩) hb).trans e0)
      have e1 := fun o => cell_new o ((hF.below.cell (p := ⟨b, off + m * 3 + 1, none⟩) hb).trans e1)
      have e2 := fun o => cell_new o ((hF.below.cell (p := ⟨b, off + m * 3 + 2, none⟩) hb).trans e2)
      have f0 := fun o o' => cell_new o' (cell_new o (three hF.kp.cell).1)
      have f1 := fun o o' => cell_new o' (cell_new o (three hF.kp.cell).2.1)
      have f2 := fun o o' => cell_new o' (cell_new o (three hF.kp.cell).2.2)
      have hSd := Side_any (rg l k) (rg l m) (16 * x + 8, 16 * y + 8, 0)
      have hsp : sideI (holdP (rg l k)) (holdP (rg l m)) (holdP (16 * x + 8, 16 * y + 8, 0)) = sideI (hP (rg l k)) (hP (rg l m)) (midV x y) := by
        rw [show holdP (16 * x + 8, 16 * y + 8, 0) = midV x y from mid_hP ⟨hx0, hx1⟩ ⟨hy0, hy1⟩]; rfl
      rw [hsp] at hSd
      obtain ⟨s, hs⟩ : ∃ s, s = sideI (hP (rg l k)) (hP (rg l m)) (midV x y) := ⟨_, rfl⟩
      rw [← hs] at hSd
      have hte : turnB l n y k = (decide (clampI (rg l k).2.1 < 16 * y + 8) != decide (clampI (rg l m).2.1 < 16 * y + 8)) := by rw [hm]; rfl
      obtain ⟨p1, hp1⟩ : ∃ p1, decide (clampI (rg l k).2.1 < 16 * y + 8) = p1 := ⟨_, rfl⟩
      obtain ⟨p2, hp2⟩ : ∃ p2, decide (clampI (rg l m).2.1 < 16 * y + 8) = p2 := ⟨_, rfl⟩
      rw [hp1, hp2] at hte
      have HTE := Lib.hid hte
      rw [hm] at hs
      have HSS := Lib.hid (show ¬ s ≤ 0 → ∀ j, j < k + 1 → 0 < sideI (hP (rg l j)) (hP (rg l ((j + 1) % n))) (midV x y) from fun h0 j hj => by
        rcases Nat.lt_or_ge j k with h | h
        · exact HS.out j h
        · obtain rfl : j = k := by omega
          rw [← hs]; omega)
      have HM := Lib.hid hm
      have hF3 := fun (o o' : Obj) (w3 : World) (h3 : Below ((wr.alloc o).alloc o').heap.size ((wr.alloc o).alloc o') w3) => (hF.alloc2 o o').step h3
      have Hp1 := Lib.hid hp1
      have Hp2 := Lib.hid hp2
      clear hte hs hm hsp hp1 hp2 hF
      unfold ptV at hSd
      simp only at hSd
      generalize rg l k = P at *
      generalize rg l m = M at *
      obtain ⟨P0, P1, P2⟩ := P
      obtain ⟨M0, M1, M2⟩ := M
      simp only at c0 c1 c2 e0 e1 e2 hSd Hp1 Hp2
      go_wp2_with fail
      refine (hSd _).mono ?_
      rintro e w3 ⟨rfl, hb3⟩
      have hF4 := hF3 _ _ _ hb3
      have kA := ((Blk.new wr 27 #[.int .i32 P0, .int .i32 P1, .int .i32 P2]).alloc (.cells #[.int .i32 M0, .int .i32 M1, .int .i32 M2] 27)).step hb3
      have kB := (Blk.new (wr.alloc (.cells #[.int .i32 P0, .int .i32 P1, .int .i32 P2] 27)) 27 #[.int .i32 M0, .int .i32 M1, .int .i32 M2]).step hb3
      rw [World.size_alloc] at kB
      clear hSd hF3 hb3 c0 c1 c2 e0 e1 e2 f0 f1 f2
      by_cases hs0 : s ≤ 0
      · have ds : decide (s ≤ 0) = true := by simpa using hs0
        go_wp2_with fail
        go_ret
        exact ⟨rfl, hF4.below⟩
      · have ds : decide (s ≤ 0) = false := by simpa using hs0
        have HS2 := Lib.hid (HSS.out (by omega))
        clear HS HSS hs0
        have a1 := (three kA.cell).2.1
        have b1 := (three kB.cell).2.1
        have z1 := (three hF4.kp.cell).2.1
        go_wp2_with fail
        rcases p1 with _ | _ <;> rcases p2 with _ | _
        · have hT := Lib.hid (turnS_no (HTE.out.trans rfl))
          have hp1 := Hp1.out
          have hp2 := Hp2.out
          clear HTE Hp1 Hp2
          go_quiet ((go_at_call 6; exact Calls.quiet_of_same ((clamp_any _ _).mono (fun _ _ h => ⟨h.1, h.2.symm⟩))))
          have hF5 := hF4.step (below_drewN (Below.refl _ _) nq)
          clear hp1 hp2 a1 b1 z1
          go_wp2_with fail
          go_roundw
          case rel => exact ⟨k + 1, by omega, by go_num, by rw [hT.out], HS2, hF5⟩
          case measure => simp [intOf]; omega
        · have hT := Lib.hid (turnS_yes (HTE.out.trans rfl))
          have hp1 := Hp1.out
          have hp2 := Hp2.out
          clear HTE Hp1 Hp2
          go_quiet ((go_at_call 6; exact Calls.quiet_of_same ((clamp_any _ _).mono (fun _ _ h => ⟨h.1, h.2.symm⟩))))
          have hF5 := hF4.step (below_drewN (Below.refl _ _) nq)
          clear hp1 hp2 a1 b1 z1
          go_wp2_with fail
          go_roundw
          case rel => exact ⟨k + 1, by omega, by go_num, by rw [← hT.out], HS2, hF5⟩
          case measure => simp [intOf]; omega
        · have hT := Lib.hid (turnS_yes (HTE.out.trans rfl))
          have hp1 := Hp1.out
          have hp2 := Hp2.out
          clear HTE Hp1 Hp2
          go_quiet ((go_at_call 6; exact Calls.quiet_of_same ((clamp_any _ _).mono (fun _ _ h => ⟨h.1, h.2.symm⟩))))
          have hF5 := hF4.step (below_drewN (Below.refl _ _) nq)
          clear hp1 hp2 a1 b1 z1
          go_wp2_with fail
          go_roundw
          case rel => exact ⟨k + 1, by omega, by go_num, by rw [← hT.out], HS2, hF5⟩
          case measure => simp [intOf]; omega
        · have hT := Lib.hid (turnS_no (HTE.out.trans rfl))
          have hp1 := Hp1.out
          have hp2 := Hp2.out
          clear HTE Hp1 Hp2
          go_quiet ((go_at_call 6; exact Calls.quiet_of_same ((clamp_any _ _).mono (fun _ _ h => ⟨h.1, h.2.symm⟩))))
          have hF5 := hF4.step (below_drewN (Below.refl _ _) nq)
          clear hp1 hp2 a1 b1 z1
          go_wp2_with fail
          go_roundw
          case rel => exact ⟨k + 1, by omega, by go_num, by rw [hT.out], HS2, hF5⟩
          case measure => simp [intOf]; omega
    · obtain rfl : k = n := by omega
      clear hlk
      obtain ⟨tn, htn⟩ : ∃ tn, tn = turnS l k y k := ⟨_, rfl⟩
      rw [← htn] at tb0 tb1 ⊢
      have HT := Lib.hid htn
      clear htn
      by_cases h2 : tn = 2
      · subst h2
        have hseen := fan_seen l k x y ⟨hx0, hx1⟩ ⟨hy0, hy1⟩ (by omega) HS.out HT.out.symm
        have HSeen := Lib.hid hseen
        clear hseen HT tb0 tb1
        obtain ⟨Z, hZ, hz⟩ := zero_any
        have HZ := Lib.hid hz
        clear hz
        go_wp2_with fail
        have hSn : SeenAt wr.heap.size (F0 (fanR l k x y) 0) (wr.alloc (.cells Z 32)) := seen_new HZ.out
        have hF1 := hF.step ((Below.refl _ _).alloc (Nat.le_refl _) (.cells Z 32))
        have hgs := hF.kp.lt
        have hgsw := hF.below.size
        generalize wr.alloc (.cells Z 32) = w5 at *
        generalize wr.heap.size = gs at *
        clear hZ HZ hF
        go_loopw [15] (fun i wr => ∃ j : Nat, j ≤ k ∧ i = .int .i64 j ∧ SeenAt gs (F0 (fanR l k x y) j) wr ∧ FanS w g x y wr) (fun i _ => k - (intOf i).toNat)
        case atStart => exact ⟨0, by omega, rfl, hSn, hF1⟩
        case round =>
          obtain ⟨j, hj, rfl, hSn, hF⟩ := hrel
          have hlk : decide ((j : Int) < (k : Int)) = decide (j < k) := by simp
          by_cases hlt : j < k
          · obtain ⟨m, hm⟩ : ∃ m, m = (j + 1) % k := ⟨_, rfl⟩
            have hmk : m < k := by rw [hm]; exact Nat.mod_lt _ (by omega)
            have em : ((j : Int) + 1) % (k : Int) = (m : Int) := by rw [hm]; simp
            obtain ⟨c0, c1, c2⟩ := HC.out j hlt
            have c0 := (hF.below.cell (p := ⟨b, off + j * 3, none⟩) hb).trans c0
            have c1 := (hF.below.cell (p := ⟨b, off + j * 3 + 1, none⟩) hb).trans c1
            have c2 := (hF.below.cell (p := ⟨b, off + j * 3 + 2, none⟩) hb).trans c2
            obtain ⟨e0, e1, e2⟩ := HC.out m hmk
            have e0 := (hF.below.cell (p := ⟨b, off + m * 3, none⟩) hb).trans e0
            have e1 := (hF.below.cell (p := ⟨b, off + m * 3 + 1, none⟩) hb).trans e1
            have e2 := (hF.below.cell (p := ⟨b, off + m * 3 + 2, none⟩) hb).trans e2
            obtain ⟨f0, f1, f2⟩ := three hF.kp.cell
            have hRw := fun w => rows_any (16 * x + 8) (16 * y + 8) 0 (rg l j).1 (rg l j).2.1 (rg l j).2.2 (rg l m).1 (rg l m).2.1 (rg l m).2.2 64 64 w (by omega) (by omega) (fanR l k x y j) (by
              rw [show holdP (16 * x + 8, 16 * y + 8, 0) = midV x y from mid_hP ⟨hx0, hx1⟩ ⟨hy0, hy1⟩, hm]; rfl) (by
              rw [show holdP (16 * x + 8, 16 * y + 8, 0) = midV x y from mid_hP ⟨hx0, hx1⟩ ⟨hy0, hy1⟩, hm]; exact fan_area (HS.out j hlt))
            have hbd := fun r row (h : (fanR l k x y j)[r]? = some row) => fanR_row h
            have hln := fanR_len l k x y j
            have hst := F1_zero (fanR l k x y) j
            have hen := F1_end (fanR l k x y) j
            rw [← hst] at hSn
            have HBd := Lib.hid hbd
            have hrw := fun r (h : r < (fanR l k x y j).length) => rw_of h
            have HRw := Lib.hid hrw
            clear hbd hst hrw hm
            generalize hN : (fanR l k x y j).length = N at *
            have HEn := Lib.hid hen
            have HN := Lib.hid hN
            clear hen hN
            generalize rg l j = P at *
            generalize rg l m = M at *
            obtain ⟨P0, P1, P2⟩ := P
            obtain ⟨M0, M1, M2⟩ := M
            simp only at c0 c1 c2 e0 e1 e2 hRw
            unfold triV at hRw
            simp only at hRw
            go_wp2_with fail
            have hbl : b < wr.heap.size := Nat.lt_of_lt_of_le hb hF.below.size
            have hS0 : T9 wr g b (off + j * 3) (off + m * 3) (16 * x + 8) (16 * y + 8) P0 P1 P2 M0 M1 M2 wr := ⟨f0, f1, f2, c0, c1, c2, e0, e1, e2, Below.refl _ _⟩
            have hgl := hF.kp.lt
            have hw1 : IntKind.i64.wrap ((j : Int) + 1) = (j : Int) + 1 := IntWalk.i64_in _ (by omega)
            have hw2 : IntKind.i64.wrap (m : Int) = (m : Int) := IntWalk.i64_in _ (by omega)
            have hw3 : ((j : Int) + 1).tmod (k : Int) = (m : Int) := by rw [Int.tmod_eq_emod_of_nonneg (by omega)]; exact em
            have hk0 : k ≠ 0 := by omega
            clear f0 f1 f2 c0 c1 c2 e0 e1 e2
            go_region_held3 (T9 wr g b (off + j * 3) (off + m * 3) (16 * x + 8) (16 * y + 8) P0 P1 P2 M0 M1 M2) (first | with_reducible exact hS0.drew_ | with_reducible assumption | with_reducible exact T9.call hgl hbl (by assumption) hbq | fail) ((first | (go_at_call 7; refine (hRw _).mono ?_; rintro e w' ⟨Ar, cr, rfl, hor, hbq⟩)))
            rename_i hHeld9
            have hb6 : Below wr.heap.size wr w' := T9.is hHeld9
            clear hHeld9
            have ho6 := own_base hor (show wr.heap.size ≤ wr.drew.heap.size from Nat.le_refl _)
            have hSn6 := hSn.step hb6
            have hF6 := hF.step hb6
            have hRA : RowsAt Ar (fanR l k x y j) N gs w' := rows_at ho6 (by have := hSn.lt; omega)
            clear hS0 hRw hor hSn hF hbq hw1 hw2 hw3 hk0 em ho6 hb6
            go_wp2_with fail
            go_loopw [18] (fun i wr => ∃ r : Nat, r ≤ N ∧ i = .int .i64 r ∧ SeenAt gs (F1 (fanR l k x y) j r) wr ∧ FanS w g x y wr ∧ RowsAt Ar (fanR l k x y j) N gs wr) (fun i _ => N - (intOf i).toNat)
            case atStart => exact ⟨0, by omega, rfl, hSn6, hF6, hRA⟩
            case round =>
              clear hSn6 hF6 hRA
              obtain ⟨r, hr, rfl, hSn, hF, hRA⟩ := hrel
              by_cases hlr : r < N
              · obtain ⟨gr, rfl, hgr, c0, c1, c2⟩ := hRA r hlr
                have hrow := HRw.out r hlr
                have hbr := HBd.out r _ hrow
                have hst2 := F2_start (fanR l k x y) j r (rw_ (fanR l k x y j) r)
                have hen2 := F2_end (fanR l k x y) j r (rw_ (fanR l k x y j) r) hrow
                rw [← hst2] at hSn
                clear hst2 hrow
                obtain ⟨row, hrw2⟩ : ∃ row, rw_ (fanR l k x y j) r = row := ⟨_, rfl⟩
                rw [hrw2] at hbr c0 c1 c2 hSn hen2
                obtain ⟨Y, Fr, To⟩ := row
                have HRw2 := Lib.hid hrw2
                clear hrw2
                simp only at hbr c0 c1 c2 hSn hen2
                have HEn2 := Lib.hid hen2
                clear hen2
                obtain ⟨v1, v2, v3, v4, v5⟩ := hbr
                have g1 : decide (Y < 0) = false := by simp; omega
                have g2 : decide (64 ≤ Y) = false := by simp; omega
                have g3 : decide (Fr < 0) = false := by simp; omega
                have g4 : decide (To ≤ Fr) = false := by simp; omega
                have g5 : decide (64 < To) = false := by simp; omega
                have hdr := decide_eq_true (show (r : Int) < (N : Int) by omega)
                go_wp2_with fail
                go_quiet (fail)
                have hSn := hSn.step (below_drewN (Below.refl _ _) nq)
                have hF := hF.step (below_drewN (Below.refl _ _) nq)
                have hRA := hRA.step (below_drewN (Below.refl _ _) nq)
                go_wp2_with fail
                obtain ⟨wo, hwo⟩ : ∃ wo, wo = wr.drewN nq := ⟨_, rfl⟩
                rw [← hwo] at hSn hF hRA ⊢
                clear hwo c0 c1 c2 g1 g2 g3 g4 g5 hdr
                go_loopw [19] (fun u wr => ∃ q : Int, Fr ≤ q ∧ q ≤ To ∧ u = .int .i64 q ∧ SeenAt gs (F2 (fanR l k x y) j r (Y, Fr, To) q) wr ∧ FanS w g x y wr ∧ RowsAt (some ⟨gr, 0, none⟩) (fanR l k x y j) N gs wr) (fun u _ => (To - intOf u).toNat)
                case atStart => exact ⟨Fr, by omega, by omega, rfl, hSn, hF, hRA⟩
                case round =>
                  clear hSn hF hRA
                  obtain ⟨q, hq1, hq2, rfl, hSn, hF, hRA⟩ := hrel
                  obtain ⟨gr', he', hgr', c0, c1, c2⟩ := hRA r hlr
                  injection he' with he'
                  injection he' with he'
                  subst he'
                  rw [HRw2.out] at c0 c1 c2
                  simp only at c0 c1 c2
                  by_cases hqt : q < To
                  · have g1 := decide_eq_true hqt
                    obtain ⟨i, hi⟩ : ∃ i : Nat, (i : Int) = 64 * Y + q := ⟨(64 * Y + q).toNat, by omega⟩
                    have hi9 : i < 4096 := by omega
                    have hstp := F2_step (fanR l k x y) j r (Y, Fr, To) q i v3 ⟨hq1, by omega⟩ hi
                    have hbd2 := F2_bd (fanR l k x y) (fanR_len l k x y) j r (by omega) (Y, Fr, To) q i
                    have s0 := hSn.cell i hi9
                    have sf := hSn.free i
                    have hput := hSn.put hi9 (F2 (fanR l k x y) j r (Y, Fr, To) q i + 1)
                    rw [← hstp] at hput
                    have hF2 := hF.put hgs hgsw i (.int .i64 (F2 (fanR l k x y) j r (Y, Fr, To) q i + 1))
                    have hR2 := hRA.put i (.int .i64 (F2 (fanR l k x y) j r (Y, Fr, To) q i + 1))
                    clear hstp hSn hF hRA
                    obtain ⟨bd1, bd2⟩ := hbd2
                    generalize F2 (fanR l k x y) j r (Y, Fr, To) q i = fv at *
                    have hi2 := hi.symm
                    clear hi
                    go_wp2_with fail
                    go_roundw
                    case rel => exact ⟨q + 1, by omega, by omega, rfl, hput, hF2, hR2⟩
                    case measure => simp [intOf]; omega
                  · have g1 := decide_eq_false hqt
                    obtain rfl : q = To := by omega
                    rw [HEn2.out] at hSn
                    go_wp2_with fail
                    go_roundw
                    case rel => exact ⟨r + 1, by omega, by go_num, hSn, hF, hRA⟩
                    case measure => simp [intOf]; omega
              · obtain rfl : r = N := by omega
                have hdr := decide_eq_false (show ¬ (r : Int) < (r : Int) by omega)
                rw [HEn.out] at hSn
                go_wp2_with fail
                go_roundw
                case rel => exact ⟨j + 1, by omega, by go_num, hSn, hF⟩
                case measure => simp [intOf]; omega
          · obtain rfl : j = k := by omega
            have hlj := decide_eq_false (show ¬ (j : Int) < (j : Int) by omega)
            clear hlk
            go_wp2_with fail
            go_loop [20] (fun i => ∃ q : Nat, q ≤ 4096 ∧ i = .int .i64 q) (fun i => 4096 - (intOf i).toNat)
            case atStart => exact ⟨0, by omega, rfl⟩
            case round =>
              obtain ⟨q, hq, rfl⟩ := hrel
              by_cases hlt : q < 4096
              · have s0 := hSn.cell q hlt
                have s1 := decide_eq_false (show ¬ 1 < F0 (fanR l j x y) j q by have := HSeen.out.1 q; omega)
                have s2 := decide_eq_true (show (q : Int) < 4096 by omega)
                generalize F0 (fanR l j x y) j q = fv at *
                go_wp2_with fail
                go_round
                case rel => exact ⟨q + 1, by omega, by go_num⟩
                case measure => simp [intOf]; omega
              · obtain rfl : q = 4096 := by omega
                obtain ⟨i, hi⟩ : ∃ i : Nat, (i : Int) = 64 * y + x := ⟨(64 * y + x).toNat, by omega⟩
                have s0 := hSn.cell i (by omega)
                rw [HSeen.out.2 i hi] at s0
                have hi2 := hi.symm
                have hi9 : i < 4096 := by omega
                clear hi
                go_wp2_with fail
                go_ret
                exact ⟨rfl, hF.below⟩
      · have e2 : (tn != 2) = true := by simpa using h2
        clear h2
        go_wp2_with fail
        go_ret
        exact ⟨rfl, hF.below⟩
theorem law_fan (x y : Int) (A : Option Addr) (n c : Nat) (l : List Pt3) (w : World) (hn : n ≤ 9223372036854775807) (hr : Reads w w.heap.size 3 A n (PtCs l)) :
    Calls Try.prog 3 #[.int .i64 x, .int .i64 y, .slice A n c] w fun e w' => e = .returned (.bool true) ∧ Below w.heap.size w w' := by
  by_cases h : 0 ≤ x ∧ x < 64 ∧ 0 ≤ y ∧ y < 64 ∧ 3 ≤ n ∧ n ≤ 32
  · obtain ⟨h1, h2, h3, h4, h5, h6⟩ := h
    obtain ⟨b, off, rfl, hb, hc⟩ := hr.pt (by omega)
    exact fan_in x y b off n c l w h1 h2 h3 h4 h5 h6 hb hc
  · exact fan_out x y A n c w hn h
end Go.Proofs.Ytkmdeaffhneibaa
