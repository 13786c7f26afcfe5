/- Walks: the document's canvas read from bytes. -/
import Derived.Test.YtfciaefjilobaaaRword
namespace Go.Proofs.Ytfciaefjilobaaa
open Go.RowKit Go.BigFrame

/-- what the loop over the runs holds -/
structure RSr (w wr : World) (ws : List Int) (m N W H : Nat) (back : Int) (gq b7 p f : Nat) (pre : List Pix) : Prop where
  r0 : RR0 w wr
  can : RefS wr w.heap.size gq N N W H back (padP pre N)
  k7 : Blk wr b7 31 #[.int .i64 W, .int .i64 H, .int .u32 back, .slice (some ⟨gq, 0, none⟩) N N]
  low7 : w.heap.size + 1 < b7
  lowq : w.heap.size + 1 < gq
  ne : b7 ≠ gq
  pm : p ≤ m
  lenN : pre.length ≤ N
  fuel : N < f + pre.length
  run : runW ws N f p pre = runW ws N (N + 1) 4 []
theorem RSr.keep {w wr wr' : World} {ws : List Int} {m N W H : Nat} {back : Int} {gq b7 p f : Nat} {pre : List Pix} (h : RSr w wr ws m N W H back gq b7 p f pre) (hb : Below wr.heap.size wr wr') : RSr w wr' ws m N W H back gq b7 p f pre :=
  ⟨h.r0.below hb, h.can.below hb, h.k7.below hb h.k7.lt, h.low7, h.lowq, h.ne, h.pm, h.lenN, h.fuel, h.run⟩
set_option maxRecDepth 20000 in
set_option maxHeartbeats 2000000 in
theorem rread_any (A : Option Addr) (n c : Nat) (l : List Int) (w : World) (hn : n ≤ 140737488351232) (hu : Under 256 l) (hr : Reads w w.heap.size 1 A n (Ints .u8 l)) :
    Calls Try.prog 25 #[.slice A n c] w (RreadR l w) := by
  have hL := hr.len
  have hb0 := ((Below.refl w.heap.size w).alloc (Nat.le_refl _) (.cells #[.int .i64 0, .int .i64 0, .int .u32 0, .slice none 0 0] 31)).alloc (by rw [World.size_alloc]; omega) (.cells #[.int .i64 0, .int .i64 0] 67)
  have h0 : RR0 w ((w.alloc (.cells #[.int .i64 0, .int .i64 0, .int .u32 0, .slice none 0 0] 31)).alloc (.cells #[.int .i64 0, .int .i64 0] 67)) := ⟨(Blk.new w _ _).alloc _, by
      have := Blk.new (w.alloc (.cells #[.int .i64 0, .int .i64 0, .int .u32 0, .slice none 0 0] 31)) 67 #[.int .i64 0, .int .i64 0]
      rwa [World.size_alloc] at this, hb0⟩
  clear hb0
  by_cases h2 : l.length % 4 = 0
  · have h4 := h2
    rw [hL] at h2
    obtain ⟨m, rfl⟩ : ∃ m, n = 4 * m := ⟨n / 4, by omega⟩
    have hz : (((4 * m : Nat) : Int) % 4 != 0) = false := by simp only [bne_eq_false_iff_eq]; omega
    have hd : ((4 * m : Nat) : Int) / 4 = m := by omega
    have hlm : l.length / 4 = m := by omega
    have hgl := glue_length l m
    go_enter Try.func25, Try.ntmps25
    go_wp2_with fail
    generalize (w.alloc (.cells #[.int .i64 0, .int .i64 0, .int .u32 0, .slice none 0 0] 31)).alloc (.cells #[.int .i64 0, .int .i64 0] 67) = wa at *
    obtain ⟨ws, hwsd⟩ : ∃ ws, glue l m = ws := ⟨_, rfl⟩
    have hws : ∀ k, k < m → word l (4 * k) = ix ws k := fun k hk => by rw [← hwsd, glue_ix hk]
    rw [hwsd] at hgl
    have huw : Under 4294967296 ws := by rw [← hwsd]; exact glue_under hu m
    go_loopw [5] (fun i wr => ∃ k : Nat, k ≤ 4 ∧ k ≤ m ∧ i = .int .i64 k ∧ HeadTo ws k ∧ RR0 w wr) (fun i _ => 4 - (intOf i).toNat)
    case atStart => exact ⟨0, by omega, by omega, rfl, fun i hi => by omega, h0⟩
    case round =>
      obtain ⟨k, hk, hkm0, rfl, hto, h0r⟩ := hrel
      rcases (by omega : k = 0 ∨ k = 1 ∨ k = 2 ∨ k = 3 ∨ k = 4) with rfl | rfl | rfl | rfl | rfl
      · by_cases hkm : 0 = m
        · have hkI : ((0 : Int) == (m : Int)) = true := by subst hkm; rfl
          have hRR := hto.at_ (by omega) (headBad_end (by omega))
          clear hkm
          go_wp2_with fail
          refine (wrong_any 0 _).mono ?_
          rintro e wz ⟨rfl, hbz⟩
          have hz0 := h0r.below hbz
          have hgz := hz0.err h4 (by rw [hlm, hwsd]; exact hRR) (.int .i64 0) (.int .i64 0) (.int .u32 0) (.slice none 0 0) (.int .i64 290) (.int .i64 0)
          obtain ⟨⟨p0, q0, p1, q1, p2, q2, p3, q3⟩, p4, q4, p5, q5, y2, y3⟩ := two_store hz0.b2 hz0.b3 (by omega) (.int .i64 0) (.int .i64 0) (.int .u32 0) (.slice none 0 0) (.int .i64 290) (.int .i64 0)
          obtain ⟨z0, z1, z2, z3⟩ := y2.read4
          obtain ⟨z4, z5⟩ : _ ∧ _ := And.intro (y3.cell 0) (y3.cell 1)
          simp at z4 z5
          unfold set6 at z0 z1 z2 z3 z4 z5
          clear hz0 y2 y3
          go_wp2_with fail
          (try simp only [Exit.inBlock, Exit.then])
          refine bodyPost_ret (v := .tuple #[noCan, .agg #[.int .i64 290, .int .i64 0]]) (by unfold noCan; rw [results_cc rfl]; go_simp) rfl ?_
          exact hgz
        · have hkI : ((0 : Int) == (m : Int)) = false := by rw [beq_eq_false_iff_ne]; omega
          have hwd := rword_any A (4 * m) c 0 l wr hn (by omega) hu (hr.below h0r.bel |>.more h0r.bel.size)
          rw [hws 0 (by omega)] at hwd
          go_wp2_with fail
          refine hwd.mono ?_
          clear hwd
          rintro e w1 ⟨rfl, hd1⟩
          have h1r := h0r.drawn hd1
          by_cases hx : ix ws 0 = 826758217
          · have hxb : (ix ws 0 != 826758217) = false := by rw [bne_eq_false_iff_eq]; exact hx
            have hx' := Lib.hid hx
            clear hx
            go_wp2_with fail
            go_roundw
            case rel => exact ⟨0 + 1, by omega, by omega, by go_num, hto.more (by omega) (by unfold okHead; simp [hx'.out]), h1r⟩
            case measure => simp [intOf]
          · have hxb : (ix ws 0 != 826758217) = true := by rw [bne_iff_ne]; exact hx
            have hRR := hto.at_ (by omega) (headBad_out (by unfold okHead; simp; omega))
            go_wp2_with fail
            refine (wrong_any 0 _).mono ?_
            rintro e wz ⟨rfl, hbz⟩
            have hz0 := h1r.below hbz
            have hgz := hz0.err h4 (by rw [hlm, hwsd]; exact hRR) (.int .i64 0) (.int .i64 0) (.int .u32 0) (.slice none 0 0) (.int .i64 290) (.int .i64 0)
            obtain ⟨⟨p0, q0, p1, q1, p2, q2, p3, q3⟩, p4, q4, p5, q5, y2, y3⟩ := two_store hz0.b2 hz0.b3 (by omega) (.int .i64 0) (.int .i64 0) (.int .u32 0) (.slice none 0 0) (.int .i64 290) (.int .i64 0)
            obtain ⟨z0, z1, z2, z3⟩ := y2.read4
            obtain ⟨z4, z5⟩ : _ ∧ _ := And.intro (y3.cell 0) (y3.cell 1)
            simp at z4 z5
            unfold set6 at z0 z1 z2 z3 z4 z5
            clear hz0 y2 y3
            go_wp2_with fail
            (try simp only [Exit.inBlock, Exit.then])
            refine bodyPost_ret (v := .tuple #[noCan, .agg #[.int .i64 290, .int .i64 0]]) (by unfold noCan; rw [results_cc rfl]; go_simp) rfl ?_
            exact hgz
      · by_cases hkm : 1 = m
        · have hkI : ((1 : Int) == (m : Int)) = true := by subst hkm; rfl
          have hRR := hto.at_ (by omega) (headBad_end (by omega))
          clear hkm
          go_wp2_with fail
          refine (wrong_any 1 _).mono ?_
          rintro e wz ⟨rfl, hbz⟩
          have hz0 := h0r.below hbz
          have hgz := hz0.err h4 (by rw [hlm, hwsd]; exact hRR) (.int .i64 0) (.int .i64 0) (.int .u32 0) (.slice none 0 0) (.int .i64 290) (.int .i64 1)
          obtain ⟨⟨p0, q0, p1, q1, p2, q2, p3, q3⟩, p4, q4, p5, q5, y2, y3⟩ := two_store hz0.b2 hz0.b3 (by omega) (.int .i64 0) (.int .i64 0) (.int .u32 0) (.slice none 0 0) (.int .i64 290) (.int .i64 1)
          obtain ⟨z0, z1, z2, z3⟩ := y2.read4
          obtain ⟨z4, z5⟩ : _ ∧ _ := And.intro (y3.cell 0) (y3.cell 1)
          simp at z4 z5
          unfold set6 at z0 z1 z2 z3 z4 z5
          clear hz0 y2 y3
          go_wp2_with fail
          (try simp only [Exit.inBlock, Exit.then])
          refine bodyPost_ret (v := .tuple #[noCan, .agg #[.int .i64 290, .int .i64 1]]) (by unfold noCan; rw [results_cc rfl]; go_simp) rfl ?_
          exact hgz
        · have hkI : ((1 : Int) == (m : Int)) = false := by rw [beq_eq_false_iff_ne]; omega
          have hwd := rword_any A (4 * m) c 1 l wr hn (by omega) hu (hr.below h0r.bel |>.more h0r.bel.size)
          rw [hws 1 (by omega)] at hwd
          go_wp2_with fail
          refine hwd.mono ?_
          clear hwd
          rintro e w1 ⟨rfl, hd1⟩
          have h1r := h0r.drawn hd1
          by_cases hx : ix ws 1 < 1
          · have hxb : decide (ix ws 1 < 1) = true := decide_eq_true hx
            have hRR := hto.at_ (by omega) (headBad_out (by unfold okHead; simp; omega))
            go_wp2_with fail
            refine (wrong_any 1 _).mono ?_
            rintro e wz ⟨rfl, hbz⟩
            have hz0 := h1r.below hbz
            have hgz := hz0.err h4 (by rw [hlm, hwsd]; exact hRR) (.int .i64 0) (.int .i64 0) (.int .u32 0) (.slice none 0 0) (.int .i64 290) (.int .i64 1)
            obtain ⟨⟨p0, q0, p1, q1, p2, q2, p3, q3⟩, p4, q4, p5, q5, y2, y3⟩ := two_store hz0.b2 hz0.b3 (by omega) (.int .i64 0) (.int .i64 0) (.int .u32 0) (.slice none 0 0) (.int .i64 290) (.int .i64 1)
            obtain ⟨z0, z1, z2, z3⟩ := y2.read4
            obtain ⟨z4, z5⟩ : _ ∧ _ := And.intro (y3.cell 0) (y3.cell 1)
            simp at z4 z5
            unfold set6 at z0 z1 z2 z3 z4 z5
            clear hz0 y2 y3
            go_wp2_with fail
            (try simp only [Exit.inBlock, Exit.then])
            refine bodyPost_ret (v := .tuple #[noCan, .agg #[.int .i64 290, .int .i64 1]]) (by unfold noCan; rw [results_cc rfl]; go_simp) rfl ?_
            exact hgz
          · have hxb : decide (ix ws 1 < 1) = false := decide_eq_false hx
            by_cases hy : 1024 < ix ws 1
            · have hyb : decide (1024 < ix ws 1) = true := decide_eq_true hy
              have hRR := hto.at_ (by omega) (headBad_out (by unfold okHead; simp; omega))
              go_wp2_with fail
              refine (wrong_any 1 _).mono ?_
              rintro e wz ⟨rfl, hbz⟩
              have hz0 := h1r.below hbz
              have hgz := hz0.err h4 (by rw [hlm, hwsd]; exact hRR) (.int .i64 0) (.int .i64 0) (.int .u32 0) (.slice none 0 0) (.int .i64 290) (.int .i64 1)
              obtain ⟨⟨p0, q0, p1, q1, p2, q2, p3, q3⟩, p4, q4, p5, q5, y2, y3⟩ := two_store hz0.b2 hz0.b3 (by omega) (.int .i64 0) (.int .i64 0) (.int .u32 0) (.slice none 0 0) (.int .i64 290) (.int .i64 1)
              obtain ⟨z0, z1, z2, z3⟩ := y2.read4
              obtain ⟨z4, z5⟩ : _ ∧ _ := And.intro (y3.cell 0) (y3.cell 1)
              simp at z4 z5
              unfold set6 at z0 z1 z2 z3 z4 z5
              clear hz0 y2 y3
              go_wp2_with fail
              (try simp only [Exit.inBlock, Exit.then])
              refine bodyPost_ret (v := .tuple #[noCan, .agg #[.int .i64 290, .int .i64 1]]) (by unfold noCan; rw [results_cc rfl]; go_simp) rfl ?_
              exact hgz
            · have hyb : decide (1024 < ix ws 1) = false := decide_eq_false hy
              go_wp2_with fail
              go_roundw
              case rel => exact ⟨1 + 1, by omega, by omega, by go_num, hto.more (by omega) (by unfold okHead; simp; omega), h1r⟩
              case measure => simp [intOf]
      · by_cases hkm : 2 = m
        · have hkI : ((2 : Int) == (m : Int)) = true := by subst hkm; rfl
          have hRR := hto.at_ (by omega) (headBad_end (by omega))
          clear hkm
          go_wp2_with fail
          refine (wrong_any 2 _).mono ?_
          rintro e wz ⟨rfl, hbz⟩
          have hz0 := h0r.below hbz
          have hgz := hz0.err h4 (by rw [hlm, hwsd]; exact hRR) (.int .i64 0) (.int .i64 0) (.int .u32 0) (.slice none 0 0) (.int .i64 290) (.int .i64 2)
          obtain ⟨⟨p0, q0, p1, q1, p2, q2, p3, q3⟩, p4, q4, p5, q5, y2, y3⟩ := two_store hz0.b2 hz0.b3 (by omega) (.int .i64 0) (.int .i64 0) (.int .u32 0) (.slice none 0 0) (.int .i64 290) (.int .i64 2)
          obtain ⟨z0, z1, z2, z3⟩ := y2.read4
          obtain ⟨z4, z5⟩ : _ ∧ _ := And.intro (y3.cell 0) (y3.cell 1)
          simp at z4 z5
          unfold set6 at z0 z1 z2 z3 z4 z5
          clear hz0 y2 y3
          go_wp2_with fail
          (try simp only [Exit.inBlock, Exit.then])
          refine bodyPost_ret (v := .tuple #[noCan, .agg #[.int .i64 290, .int .i64 2]]) (by unfold noCan; rw [results_cc rfl]; go_simp) rfl ?_
          exact hgz
        · have hkI : ((2 : Int) == (m : Int)) = false := by rw [beq_eq_false_iff_ne]; omega
          have hwd := rword_any A (4 * m) c 2 l wr hn (by omega) hu (hr.below h0r.bel |>.more h0r.bel.size)
          rw [hws 2 (by omega)] at hwd
          go_wp2_with fail
          refine hwd.mono ?_
          clear hwd
          rintro e w1 ⟨rfl, hd1⟩
          have h1r := h0r.drawn hd1
          by_cases hx : ix ws 2 < 1
          · have hxb : decide (ix ws 2 < 1) = true := decide_eq_true hx
            have hRR := hto.at_ (by omega) (headBad_out (by unfold okHead; simp; omega))
            go_wp2_with fail
            refine (wrong_any 2 _).mono ?_
            rintro e wz ⟨rfl, hbz⟩
            have hz0 := h1r.below hbz
            have hgz := hz0.err h4 (by rw [hlm, hwsd]; exact hRR) (.int .i64 0) (.int .i64 0) (.int .u32 0) (.slice none 0 0) (.int .i64 290) (.int .i64 2)
            obtain ⟨⟨p0, q0, p1, q1, p2, q2, p3, q3⟩, p4, q4, p5, q5, y2, y3⟩ := two_store hz0.b2 hz0.b3 (by omega) (.int .i64 0) (.int .i64 0) (.int .u32 0) (.slice none 0 0) (.int .i64 290) (.int .i64 2)
            obtain ⟨z0, z1, z2, z3⟩ := y2.read4
            obtain ⟨z4, z5⟩ : _ ∧ _ := And.intro (y3.cell 0) (y3.cell 1)
            simp at z4 z5
            unfold set6 at z0 z1 z2 z3 z4 z5
            clear hz0 y2 y3
            go_wp2_with fail
            (try simp only [Exit.inBlock, Exit.then])
            refine bodyPost_ret (v := .tuple #[noCan, .agg #[.int .i64 290, .int .i64 2]]) (by unfold noCan; rw [results_cc rfl]; go_simp) rfl ?_
            exact hgz
          · have hxb : decide (ix ws 2 < 1) = false := decide_eq_false hx
            by_cases hy : 1024 < ix ws 2
            · have hyb : decide (1024 < ix ws 2) = true := decide_eq_true hy
              have hRR := hto.at_ (by omega) (headBad_out (by unfold okHead; simp; omega))
              go_wp2_with fail
              refine (wrong_any 2 _).mono ?_
              rintro e wz ⟨rfl, hbz⟩
              have hz0 := h1r.below hbz
              have hgz := hz0.err h4 (by rw [hlm, hwsd]; exact hRR) (.int .i64 0) (.int .i64 0) (.int .u32 0) (.slice none 0 0) (.int .i64 290) (.int .i64 2)
              obtain ⟨⟨p0, q0, p1, q1, p2, q2, p3, q3⟩, p4, q4, p5, q5, y2, y3⟩ := two_store hz0.b2 hz0.b3 (by omega) (.int .i64 0) (.int .i64 0) (.int .u32 0) (.slice none 0 0) (.int .i64 290) (.int .i64 2)
              obtain ⟨z0, z1, z2, z3⟩ := y2.read4
              obtain ⟨z4, z5⟩ : _ ∧ _ := And.intro (y3.cell 0) (y3.cell 1)
              simp at z4 z5
              unfold set6 at z0 z1 z2 z3 z4 z5
              clear hz0 y2 y3
              go_wp2_with fail
              (try simp only [Exit.inBlock, Exit.then])
              refine bodyPost_ret (v := .tuple #[noCan, .agg #[.int .i64 290, .int .i64 2]]) (by unfold noCan; rw [results_cc rfl]; go_simp) rfl ?_
              exact hgz
            · have hyb : decide (1024 < ix ws 2) = false := decide_eq_false hy
              go_wp2_with fail
              go_roundw
              case rel => exact ⟨2 + 1, by omega, by omega, by go_num, hto.more (by omega) (by unfold okHead; simp; omega), h1r⟩
              case measure => simp [intOf]
      · by_cases hkm : 3 = m
        · have hkI : ((3 : Int) == (m : Int)) = true := by subst hkm; rfl
          have hRR := hto.at_ (by omega) (headBad_end (by omega))
          clear hkm
          go_wp2_with fail
          refine (wrong_any 3 _).mono ?_
          rintro e wz ⟨rfl, hbz⟩
          have hz0 := h0r.below hbz
          have hgz := hz0.err h4 (by rw [hlm, hwsd]; exact hRR) (.int .i64 0) (.int .i64 0) (.int .u32 0) (.slice none 0 0) (.int .i64 290) (.int .i64 3)
          obtain ⟨⟨p0, q0, p1, q1, p2, q2, p3, q3⟩, p4, q4, p5, q5, y2, y3⟩ := two_store hz0.b2 hz0.b3 (by omega) (.int .i64 0) (.int .i64 0) (.int .u32 0) (.slice none 0 0) (.int .i64 290) (.int .i64 3)
          obtain ⟨z0, z1, z2, z3⟩ := y2.read4
          obtain ⟨z4, z5⟩ : _ ∧ _ := And.intro (y3.cell 0) (y3.cell 1)
          simp at z4 z5
          unfold set6 at z0 z1 z2 z3 z4 z5
          clear hz0 y2 y3
          go_wp2_with fail
          (try simp only [Exit.inBlock, Exit.then])
          refine bodyPost_ret (v := .tuple #[noCan, .agg #[.int .i64 290, .int .i64 3]]) (by unfold noCan; rw [results_cc rfl]; go_simp) rfl ?_
          exact hgz
        · have hkI : ((3 : Int) == (m : Int)) = false := by rw [beq_eq_false_iff_ne]; omega
          have hwd := rword_any A (4 * m) c 3 l wr hn (by omega) hu (hr.below h0r.bel |>.more h0r.bel.size)
          rw [hws 3 (by omega)] at hwd
          go_wp2_with fail
          refine hwd.mono ?_
          clear hwd
          rintro e w1 ⟨rfl, hd1⟩
          have h1r := h0r.drawn hd1
          go_wp2_with fail
          go_roundw
          case rel => exact ⟨3 + 1, by omega, by omega, by go_num, hto.more (by omega) (by unfold okHead; simp), h1r⟩
          case measure => simp [intOf]
      · have hx1 := hto 1 (by omega)
        have hx2 := hto 2 (by omega)
        have g1 : 1 ≤ ix ws 1 ∧ ix ws 1 ≤ 1024 := by
          unfold headBad okHead at hx1
          simp at hx1
          exact hx1.2
        have g2 : 1 ≤ ix ws 2 ∧ ix ws 2 ≤ 1024 := by
          unfold headBad okHead at hx2
          simp at hx2
          exact hx2.2
        clear hx1 hx2
        have hh := hto.four
        have hx3 := huw.ix (by decide) 3
        obtain ⟨N, hN⟩ : ∃ N, (ix ws 1).toNat * (ix ws 2).toNat = N := ⟨_, rfl⟩
        obtain ⟨W, hWd⟩ : ∃ W, (ix ws 1).toNat = W := ⟨_, rfl⟩
        obtain ⟨H, hHd⟩ : ∃ H, (ix ws 2).toNat = H := ⟨_, rfl⟩
        obtain ⟨back, hback⟩ : ∃ back, ix ws 3 = back := ⟨_, rfl⟩
        have hw1 := rword_any A (4 * m) c 1 l wr hn (by omega) hu ((hr.below h0r.bel).more h0r.bel.size)
        rw [hws 1 (by omega)] at hw1
        go_wp2_with fail
        refine hw1.mono ?_
        clear hw1
        rintro e w1 ⟨rfl, hd1⟩
        have h1r := h0r.drawn hd1
        have hw1 := rword_any A (4 * m) c 2 l w1 hn (by omega) hu ((hr.below h1r.bel).more h1r.bel.size)
        rw [hws 2 (by omega)] at hw1
        go_wp2_with fail
        refine hw1.mono ?_
        clear hw1
        rintro e w2 ⟨rfl, hd2⟩
        have h2r := h1r.drawn hd2
        have hw1 := rword_any A (4 * m) c 3 l w2 hn (by omega) hu ((hr.below h2r.bel).more h2r.bel.size)
        rw [hws 3 (by omega), hback] at hw1
        go_wp2_with fail
        refine hw1.mono ?_
        clear hw1
        rintro e w3 ⟨rfl, hd3⟩
        have h3r := h2r.drawn hd3
        have e1 : ix ws 1 = (W : Int) := by omega
        have e2 : ix ws 2 = (H : Int) := by omega
        have hnw := rnew_ok W H back (by omega) (by omega) (by omega) w3
        unfold refV at hnw
        go_wp2_with fail
        refine hnw.mono ?_
        clear hnw
        rintro e w4 ⟨gq, rfl, hcan, hb4⟩
        have hN2 : W * H = N := by rw [← hN, hWd, hHd]
        rw [hN2] at hcan
        rw [hN2]
        have h4r := h3r.below hb4
        have hq := hcan.lt
        have hbel7 := (Below.refl w4.heap.size w4).alloc (Nat.le_refl _) (.cells #[.int .i64 (W : Int), .int .i64 (H : Int), .int .u32 back, .slice (some ⟨gq, 0, none⟩) N N] 31)
        have hb7 := Blk.new w4 31 #[.int .i64 (W : Int), .int .i64 (H : Int), .int .u32 back, .slice (some ⟨gq, 0, none⟩) N N]
        have hS : RSr w (w4.alloc (.cells #[.int .i64 (W : Int), .int .i64 (H : Int), .int .u32 back, .slice (some ⟨gq, 0, none⟩) N N] 31)) ws m N W H back gq w4.heap.size 4 (N + 1) [] := by
          have hlt3 := h3r.b3.lt
          have hs3 := h3r.bel.size
          exact ⟨h4r.below hbel7, by rw [padP_nil]; exact (hcan.below hbel7).base_le hs3, hb7, by have := h4r.b3.lt; omega, by omega, by omega, hkm0, Nat.zero_le _, by simp, rfl⟩
        clear hbel7 hd1 hd2 hd3 h1r h2r h3r h4r h0r hb4 hcan hq hto
        obtain ⟨g7, hg7⟩ : ∃ g7, w4.heap.size = g7 := ⟨_, rfl⟩
        rw [hg7] at hS
        go_wp2_with fail
        generalize w4.alloc (.cells #[.int .i64 (W : Int), .int .i64 (H : Int), .int .u32 back, .slice (some ⟨gq, 0, none⟩) N N] 31) = w5 at hS ⊢
        go_loopw [9, 10] (fun d a wr => ∃ (p f : Nat) (pre : List Pix), d = .int .i64 pre.length ∧ a = .int .i64 p ∧ RSr w wr ws m N W H back gq g7 p f pre) (fun d _ _ => N - (intOf d).toNat)
        case atStart => exact ⟨4, N + 1, [], rfl, rfl, hS⟩
        case round =>
          obtain ⟨p, f, pre, rfl, rfl, S⟩ := hrel
          clear hS
          have hle := S.can.sz.le
          obtain ⟨f, rfl⟩ : ∃ f', f = f' + 1 := ⟨f - 1, by have := S.fuel; have := S.lenN; omega⟩
          obtain ⟨k0, k1, k2, k3⟩ := S.k7.read4
          by_cases hlt : pre.length < N
          · have hltI : decide ((pre.length : Int) < (N : Int)) = true := by simp; omega
            have hx := huw.ix (by decide) p
            by_cases hpm : p = m
            · have hpI : ((p : Int) == (m : Int)) = true := by subst hpm; simp
              have hRR := readW_err hh (by rw [hN, ← S.run]; exact runW_err hlt (stepW_end (by omega)))
              clear hpm
              go_wp2_with fail
              refine (wrong_any p _).mono ?_
              rintro e wz ⟨rfl, hbz⟩
              have hz0 := S.r0.below hbz
              have hgz := hz0.err h4 (by rw [hlm, hwsd]; exact hRR) (.int .i64 0) (.int .i64 0) (.int .u32 0) (.slice none 0 0) (.int .i64 290) (.int .i64 p)
              obtain ⟨⟨p0, q0, p1, q1, p2, q2, p3, q3⟩, p4, q4, p5, q5, y2, y3⟩ := two_store hz0.b2 hz0.b3 (by omega) (.int .i64 0) (.int .i64 0) (.int .u32 0) (.slice none 0 0) (.int .i64 290) (.int .i64 p)
              obtain ⟨z0, z1, z2, z3⟩ := y2.read4
              obtain ⟨z4, z5⟩ : _ ∧ _ := And.intro (y3.cell 0) (y3.cell 1)
              simp at z4 z5
              unfold set6 at z0 z1 z2 z3 z4 z5
              clear hz0 y2 y3
              go_wp2_with fail
              (try simp only [Exit.inBlock, Exit.then])
              refine bodyPost_ret (v := .tuple #[noCan, .agg #[.int .i64 290, .int .i64 p]]) (by unfold noCan; rw [results_cc rfl]; go_simp) rfl ?_
              exact hgz
            · have hpm' : p < m := by have := S.pm; omega
              have hpI : ((p : Int) == (m : Int)) = false := by rw [beq_eq_false_iff_ne]; omega
              have hwd := rword_any A (4 * m) c p l wr hn (by omega) hu ((hr.below S.r0.bel).more S.r0.bel.size)
              rw [hws p hpm'] at hwd
              go_wp2_with fail
              refine hwd.mono ?_
              clear hwd
              rintro e w1 ⟨rfl, hd1⟩
              replace S := S.keep (hd1.below _)
              clear hd1 k0 k1 k2 k3
              have hbel := (Below.refl w1.heap.size w1).alloc (Nat.le_refl _) (.cells #[.bool false, .int .i32 0, .int .u32 0] 39)
              have hnb := Blk.new w1 39 #[.bool false, .int .i32 0, .int .u32 0]
              have hnlt : g7 < w1.heap.size ∧ gq < w1.heap.size ∧ w.heap.size + 1 < w1.heap.size := ⟨S.k7.lt, S.can.lt.2, S.r0.b3.lt⟩
              replace S := S.keep hbel
              clear hbel
              obtain ⟨k0, k1, k2, k3⟩ := S.k7.read4
              obtain ⟨nb, hnbe⟩ : ∃ nb, w1.heap.size = nb := ⟨_, rfl⟩
              rw [hnbe] at hnb hnlt
              obtain ⟨M, hM⟩ : ∃ M, (ix ws p / 2).toNat = M := ⟨_, rfl⟩
              have hMI : ix ws p / 2 = (M : Int) := by omega
              by_cases hb : (ix ws p / 2).toNat < 1 ∨ N - pre.length < (ix ws p / 2).toNat
              · have hRR := readW_err hh (by rw [hN, ← S.run]; exact runW_err hlt (stepW_many (by omega) hb))
                have hcc : decide ((M : Int) < 1) = true ∨ (decide ((M : Int) < 1) = false ∧ decide ((N : Int) - (pre.length : Int) < (M : Int)) = true) := by
                  simp only [decide_eq_true_eq, decide_eq_false_iff_not]; have := S.lenN; omega
                clear hb
                rcases hcc with c0 | ⟨c0, c1⟩ <;>
                · go_wp2_with fail
                  refine (wrong_any p _).mono ?_
                  rintro e wz ⟨rfl, hbz⟩
                  have hz0 := S.r0.below hbz
                  have hgz := hz0.err h4 (by rw [hlm, hwsd]; exact hRR) (.int .i64 0) (.int .i64 0) (.int .u32 0) (.slice none 0 0) (.int .i64 290) (.int .i64 p)
                  obtain ⟨⟨p0, q0, p1, q1, p2, q2, p3, q3⟩, p4, q4, p5, q5, y2, y3⟩ := two_store hz0.b2 hz0.b3 (by omega) (.int .i64 0) (.int .i64 0) (.int .u32 0) (.slice none 0 0) (.int .i64 290) (.int .i64 p)
                  obtain ⟨z0, z1, z2, z3⟩ := y2.read4
                  obtain ⟨z4, z5⟩ : _ ∧ _ := And.intro (y3.cell 0) (y3.cell 1)
                  simp at z4 z5
                  unfold set6 at z0 z1 z2 z3 z4 z5
                  clear hz0 y2 y3
                  go_wp2_with fail
                  (try simp only [Exit.inBlock, Exit.then])
                  refine bodyPost_ret (v := .tuple #[noCan, .agg #[.int .i64 290, .int .i64 p]]) (by unfold noCan; rw [results_cc rfl]; go_simp) rfl ?_
                  exact hgz
              · have hc0 : decide ((M : Int) < 1) = false := by simp only [decide_eq_false_iff_not]; omega
                have hc1 : decide ((N : Int) - (pre.length : Int) < (M : Int)) = false := by simp only [decide_eq_false_iff_not]; have := S.lenN; omega
                have hMb : 1 ≤ M ∧ pre.length + M ≤ N := by have := S.lenN; omega
                rcases hlp : px pre (pre.length - 1) with ⟨lb, ld, lc⟩
                by_cases he : ix ws p % 2 = 0
                · have hE : (ix ws p % 2 == 0) = true := by rw [he]; rfl
                  have hgt1 : decide ((0 : Int) < (pre.length : Int)) = decide (0 < pre.length) := by simp
                  have hlast : 0 < pre.length → (w1.alloc (.cells #[.bool false, .int .i32 0, .int .u32 0] 39)).cell? ⟨gq, (pre.length - 1) * 3, none⟩ = some (.bool lb) := fun h0 => by
                    have h1 := st_c0 S.can.row (k := pre.length - 1) (by omega)
                    rw [padP_px (by omega), hlp] at h1
                    exact h1
                  by_cases hs : 0 < pre.length ∧ lb = false
                  · obtain ⟨hs1, rfl⟩ := hs
                    have hRR := readW_err hh (by rw [hN, ← S.run]; exact runW_err hlt (stepW_even_same (by omega) hb he ⟨hs1, by rw [hlp]⟩))
                    have e1 : (pre.length : Int) - 1 = ((pre.length - 1 : Nat) : Int) := by omega
                    have hl0 := hlast hs1
                    have hgt : decide (0 < pre.length) = true := decide_eq_true hs1
                    rw [hgt] at hgt1
                    clear hlast
                    go_wp2_with fail
                    refine (wrong_any p _).mono ?_
                    rintro e wz ⟨rfl, hbz⟩
                    have hz0 := S.r0.below hbz
                    have hgz := hz0.err h4 (by rw [hlm, hwsd]; exact hRR) (.int .i64 0) (.int .i64 0) (.int .u32 0) (.slice none 0 0) (.int .i64 290) (.int .i64 p)
                    obtain ⟨⟨p0, q0, p1, q1, p2, q2, p3, q3⟩, p4, q4, p5, q5, y2, y3⟩ := two_store hz0.b2 hz0.b3 (by omega) (.int .i64 0) (.int .i64 0) (.int .u32 0) (.slice none 0 0) (.int .i64 290) (.int .i64 p)
                    obtain ⟨z0, z1, z2, z3⟩ := y2.read4
                    obtain ⟨z4, z5⟩ : _ ∧ _ := And.intro (y3.cell 0) (y3.cell 1)
                    simp at z4 z5
                    unfold set6 at z0 z1 z2 z3 z4 z5
                    clear hz0 y2 y3
                    go_wp2_with fail
                    (try simp only [Exit.inBlock, Exit.then])
                    refine bodyPost_ret (v := .tuple #[noCan, .agg #[.int .i64 290, .int .i64 p]]) (by unfold noCan; rw [results_cc rfl]; go_simp) rfl ?_
                    exact hgz
                  · have hR := runW_ok (f := f) hlt (stepW_even (by omega) hb he (by rw [hlp]; exact hs))
                    rw [hM] at hR
                    have hszs : ∀ t, t ≤ M → Sized N W H back (padP (pre ++ List.replicate t noPix) N) := fun t ht => sized_pad S.can.sz (by omega) (by unfold okPix noPix; decide)
                    have hcase : decide (0 < pre.length) = false ∨ (decide (0 < pre.length) = true ∧ 0 < pre.length ∧ lb = true) := by
                      by_cases h0 : 0 < pre.length
                      · exact .inr ⟨decide_eq_true h0, h0, by cases lb <;> simp_all⟩
                      · exact .inl (decide_eq_false h0)
                    rcases hcase with hgt | ⟨hgt, h0, rfl⟩
                    · rw [hgt] at hgt1
                      clear hlast
                      go_wp2_with fail
                      have hS7 := S.low7
                      have hSq := S.lowq
                      have hSn := S.ne
                      have hSrun := S.run
                      have hSfuel := S.fuel
                      generalize w1.alloc (.cells #[.bool false, .int .i32 0, .int .u32 0] 39) = w6 at *
                      have hinit : RefS w6 w.heap.size gq N N W H back (padP (pre ++ List.replicate 0 noPix) N) := by rw [List.replicate_zero, List.append_nil]; exact S.can
                      go_loopw [9, 14] (fun dd jj wq => ∃ t : Nat, t ≤ M ∧ dd = .int .i64 ((pre.length + t : Nat) : Int) ∧ jj = .int .i64 t ∧ RefS wq w.heap.size gq N N W H back (padP (pre ++ List.replicate t noPix) N) ∧ RR0 w wq ∧ Blk wq g7 31 #[.int .i64 W, .int .i64 H, .int .u32 back, .slice (some ⟨gq, 0, none⟩) N N] ∧ Blk wq nb 39 #[.bool false, .int .i32 (0), .int .u32 (0)]) (fun _ jj _ => M - (intOf jj).toNat)
                      case atStart => exact ⟨0, by omega, rfl, rfl, hinit, S.r0, S.k7, hnb⟩
                      case round =>
                        obtain ⟨t, ht, rfl, rfl, canr, r0r, k7r, nbr⟩ := hrel
                        by_cases htl : t < M
                        · have hk : pre.length + t < N := by omega
                          have htI : decide ((t : Int) < (M : Int)) = true := by simp; omega
                          obtain ⟨a0, a1, a2, a3⟩ := k7r.read4
                          obtain ⟨b0, b1, b2⟩ := nbr.read3
                          have s0 := st_c0 canr.row hk
                          have s1 := st_c1 canr.row hk
                          have s2 := st_c2 canr.row hk
                          have sf0 := st_f0 canr.row (pre.length + t)
                          have sf1 := st_f1 canr.row (pre.length + t)
                          have sf2 := st_f2 canr.row (pre.length + t)
                          have hnext := padP_next (x := noPix) hk
                          go_wp2_with fail
                          go_roundw
                          case rel =>
                            have hoff3 := off_set3 wr gq (pre.length + t) (.bool false) (.int .i32 (0)) (.int .u32 (0))
                            have hcan := canr.set3 (p := (false, 0, 0)) hk (by rw [show ((false, 0, 0) : Pix) = noPix from rfl, hnext]; exact hszs (t + 1) (by omega))
                            rw [show ((false, 0, 0) : Pix) = noPix from rfl, hnext] at hcan
                            exact ⟨t + 1, by omega, by go_num, by go_num, hcan, ⟨r0r.b2.off hoff3 (by omega), r0r.b3.off hoff3 (by omega), r0r.bel.trans (hoff3.to_below w.heap.size r0r.bel.size (by intro q _ hq; omega))⟩, k7r.off hoff3 (by omega), nbr.off hoff3 (by omega)⟩
                          case measure => simp [intOf]; omega
                        · obtain rfl : t = M := by omega
                          have htI : decide ((t : Int) < (t : Int)) = false := by simp
                          go_wp2_with fail
                          go_roundw
                          case rel => exact ⟨p + 1, f, pre ++ List.replicate t noPix, by rw [List.length_append, List.length_replicate], by go_num, r0r, canr, k7r, hS7, hSq, hSn, by omega, by simp; omega, by simp; omega, by rw [← hR, hSrun]⟩
                          case measure => simp [intOf]; omega
                    · rw [hgt] at hgt1
                      have e1 : (pre.length : Int) - 1 = ((pre.length - 1 : Nat) : Int) := by omega
                      have hl0 := hlast h0
                      clear hlast
                      go_wp2_with fail
                      have hS7 := S.low7
                      have hSq := S.lowq
                      have hSn := S.ne
                      have hSrun := S.run
                      have hSfuel := S.fuel
                      generalize w1.alloc (.cells #[.bool false, .int .i32 0, .int .u32 0] 39) = w6 at *
                      have hinit : RefS w6 w.heap.size gq N N W H back (padP (pre ++ List.replicate 0 noPix) N) := by rw [List.replicate_zero, List.append_nil]; exact S.can
                      go_loopw [9, 14] (fun dd jj wq => ∃ t : Nat, t ≤ M ∧ dd = .int .i64 ((pre.length + t : Nat) : Int) ∧ jj = .int .i64 t ∧ RefS wq w.heap.size gq N N W H back (padP (pre ++ List.replicate t noPix) N) ∧ RR0 w wq ∧ Blk wq g7 31 #[.int .i64 W, .int .i64 H, .int .u32 back, .slice (some ⟨gq, 0, none⟩) N N] ∧ Blk wq nb 39 #[.bool false, .int .i32 (0), .int .u32 (0)]) (fun _ jj _ => M - (intOf jj).toNat)
                      case atStart => exact ⟨0, by omega, rfl, rfl, hinit, S.r0, S.k7, hnb⟩
                      case round =>
                        obtain ⟨t, ht, rfl, rfl, canr, r0r, k7r, nbr⟩ := hrel
                        by_cases htl : t < M
                        · have hk : pre.length + t < N := by omega
                          have htI : decide ((t : Int) < (M : Int)) = true := by simp; omega
                          obtain ⟨a0, a1, a2, a3⟩ := k7r.read4
                          obtain ⟨b0, b1, b2⟩ := nbr.read3
                          have s0 := st_c0 canr.row hk
                          have s1 := st_c1 canr.row hk
                          have s2 := st_c2 canr.row hk
                          have sf0 := st_f0 canr.row (pre.length + t)
                          have sf1 := st_f1 canr.row (pre.length + t)
                          have sf2 := st_f2 canr.row (pre.length + t)
                          have hnext := padP_next (x := noPix) hk
                          go_wp2_with fail
                          go_roundw
                          case rel =>
                            have hoff3 := off_set3 wr gq (pre.length + t) (.bool false) (.int .i32 (0)) (.int .u32 (0))
                            have hcan := canr.set3 (p := (false, 0, 0)) hk (by rw [show ((false, 0, 0) : Pix) = noPix from rfl, hnext]; exact hszs (t + 1) (by omega))
                            rw [show ((false, 0, 0) : Pix) = noPix from rfl, hnext] at hcan
                            exact ⟨t + 1, by omega, by go_num, by go_num, hcan, ⟨r0r.b2.off hoff3 (by omega), r0r.b3.off hoff3 (by omega), r0r.bel.trans (hoff3.to_below w.heap.size r0r.bel.size (by intro q _ hq; omega))⟩, k7r.off hoff3 (by omega), nbr.off hoff3 (by omega)⟩
                          case measure => simp [intOf]; omega
                        · obtain rfl : t = M := by omega
                          have htI : decide ((t : Int) < (t : Int)) = false := by simp
                          go_wp2_with fail
                          go_roundw
                          case rel => exact ⟨p + 1, f, pre ++ List.replicate t noPix, by rw [List.length_append, List.length_replicate], by go_num, r0r, canr, k7r, hS7, hSq, hSn, by omega, by simp; omega, by simp; omega, by rw [← hR, hSrun]⟩
                          case measure => simp [intOf]; omega
                · have hE : (ix ws p % 2 == 0) = false := by rw [beq_eq_false_iff_ne]; exact he
                  have hgt1 : decide ((0 : Int) < (pre.length : Int)) = decide (0 < pre.length) := by simp
                  by_cases hsh : m < p + 3
                  · have hRR := readW_err hh (by rw [hN, ← S.run]; exact runW_err hlt (stepW_short (by omega) hb he (by omega)))
                    rw [hgl] at hRR
                    have hshI : decide ((m : Int) < (p : Int) + 3) = true := by simp; omega
                    clear hsh
                    go_wp2_with fail
                    refine (wrong_any m _).mono ?_
                    rintro e wz ⟨rfl, hbz⟩
                    have hz0 := S.r0.below hbz
                    have hgz := hz0.err h4 (by rw [hlm, hwsd]; exact hRR) (.int .i64 0) (.int .i64 0) (.int .u32 0) (.slice none 0 0) (.int .i64 290) (.int .i64 m)
                    obtain ⟨⟨p0, q0, p1, q1, p2, q2, p3, q3⟩, p4, q4, p5, q5, y2, y3⟩ := two_store hz0.b2 hz0.b3 (by omega) (.int .i64 0) (.int .i64 0) (.int .u32 0) (.slice none 0 0) (.int .i64 290) (.int .i64 m)
                    obtain ⟨z0, z1, z2, z3⟩ := y2.read4
                    obtain ⟨z4, z5⟩ : _ ∧ _ := And.intro (y3.cell 0) (y3.cell 1)
                    simp at z4 z5
                    unfold set6 at z0 z1 z2 z3 z4 z5
                    clear hz0 y2 y3
                    go_wp2_with fail
                    (try simp only [Exit.inBlock, Exit.then])
                    refine bodyPost_ret (v := .tuple #[noCan, .agg #[.int .i64 290, .int .i64 m]]) (by unfold noCan; rw [results_cc rfl]; go_simp) rfl ?_
                    exact hgz
                  · have hshI : decide ((m : Int) < (p : Int) + 3) = false := by simp; omega
                    have hx1 := huw.ix (by decide) (p + 1)
                    have hx2 := huw.ix (by decide) (p + 2)
                    have hwd := rword_any A (4 * m) c (p + 2) l (w1.alloc (.cells #[.bool false, .int .i32 0, .int .u32 0] 39)) hn (by omega) hu ((hr.below S.r0.bel).more S.r0.bel.size)
                    rw [hws (p + 2) (by omega), show ((p + 2 : Nat) : Int) = (p : Int) + 2 from by omega] at hwd
                    go_wp2_with fail
                    refine hwd.mono ?_
                    clear hwd
                    rintro e w2 ⟨rfl, hd2⟩
                    replace S := S.keep (hd2.below _)
                    replace hnb := hnb.below (hd2.below _) hnb.lt
                    clear hd2 k0 k1 k2 k3
                    have hwd := rword_any A (4 * m) c (p + 1) l w2 hn (by omega) hu ((hr.below S.r0.bel).more S.r0.bel.size)
                    rw [hws (p + 1) (by omega), show ((p + 1 : Nat) : Int) = (p : Int) + 1 from by omega] at hwd
                    go_wp2_with fail
                    refine hwd.mono ?_
                    clear hwd
                    rintro e w3 ⟨rfl, hd3⟩
                    replace S := S.keep (hd3.below _)
                    replace hnb := hnb.below (hd3.below _) hnb.lt
                    clear hd3
                    obtain ⟨s0, sf0, s1, sf1, s2, sf2, hnb2⟩ := hnb.store3 (.bool true) (.int .i32 (wrap32 (ix ws (p + 2)))) (.int .u32 (ix ws (p + 1)))
                    have hop := off_put3 w3 nb (.bool true) (.int .i32 (wrap32 (ix ws (p + 2)))) (.int .u32 (ix ws (p + 1)))
                    have hbs := S.r0.bel.size
                    have S2 : RSr w (((w3.setCell ⟨nb, 0, none⟩ (.bool true)).setCell ⟨nb, 1, none⟩ (.int .i32 (wrap32 (ix ws (p + 2))))).setCell ⟨nb, 2, none⟩ (.int .u32 (ix ws (p + 1)))) ws m N W H back gq g7 p (f + 1) pre :=
                      ⟨⟨S.r0.b2.off hop (by omega), S.r0.b3.off hop (by omega), S.r0.bel.trans (hop.to_below w.heap.size hbs (by intro q _ hq; omega))⟩, S.can.off hop (by omega), S.k7.off hop (by omega), S.low7, S.lowq, S.ne, S.pm, S.lenN, S.fuel, S.run⟩
                    clear hnb hop hbs S
                    obtain ⟨b0, b1, b2⟩ := hnb2.read3
                    obtain ⟨k0, k1, k2, k3⟩ := S2.k7.read4
                    have hlast : 0 < pre.length → (((w3.setCell ⟨nb, 0, none⟩ (.bool true)).setCell ⟨nb, 1, none⟩ (.int .i32 (wrap32 (ix ws (p + 2))))).setCell ⟨nb, 2, none⟩ (.int .u32 (ix ws (p + 1)))).cell? ⟨gq, (pre.length - 1) * 3, none⟩ = some (.bool lb) ∧ (((w3.setCell ⟨nb, 0, none⟩ (.bool true)).setCell ⟨nb, 1, none⟩ (.int .i32 (wrap32 (ix ws (p + 2))))).setCell ⟨nb, 2, none⟩ (.int .u32 (ix ws (p + 1)))).cell? ⟨gq, (pre.length - 1) * 3 + 1, none⟩ = some (.int .i32 ld) ∧ (((w3.setCell ⟨nb, 0, none⟩ (.bool true)).setCell ⟨nb, 1, none⟩ (.int .i32 (wrap32 (ix ws (p + 2))))).setCell ⟨nb, 2, none⟩ (.int .u32 (ix ws (p + 1)))).cell? ⟨gq, (pre.length - 1) * 3 + 2, none⟩ = some (.int .u32 lc) := fun h0 => by
                      have h1 := own_px_at S2.can.row (k := pre.length - 1) (by omega)
                      rw [padP_px (by omega), hlp] at h1
                      exact h1
                    by_cases hs : 0 < pre.length ∧ (lb, ld, lc) = (true, wrap32 (ix ws (p + 2)), ix ws (p + 1))
                    · obtain ⟨hs1, hs2⟩ := hs
                      have hRR := readW_err hh (by rw [hN, ← S2.run]; exact runW_err hlt (stepW_odd_same (by omega) hb he ⟨hs1, by rw [hlp]; exact hs2⟩))
                      have e1 : (pre.length : Int) - 1 = ((pre.length - 1 : Nat) : Int) := by omega
                      obtain ⟨l0, l1, l2⟩ := hlast hs1
                      have hgt : decide (0 < pre.length) = true := decide_eq_true hs1
                      have hdec : decide (((lb, ld, lc) : Pix) = ((true, wrap32 (ix ws (p + 2)), ix ws (p + 1)) : Pix)) = true := decide_eq_true hs2
                      rw [hgt] at hgt1
                      clear hlast hs2
                      go_wp2_with fail
                      generalize ((w3.setCell ⟨nb, 0, none⟩ (.bool true)).setCell ⟨nb, 1, none⟩ (.int .i32 (wrap32 (ix ws (p + 2))))).setCell ⟨nb, 2, none⟩ (.int .u32 (ix ws (p + 1))) = w6 at *
                      refine wp_region_quiet_lit (by kernel_rfl) (by kernel_rfl) ?_
                      repeat (go_big_quiet_step (fail))
                      refine rpx_eq_eq rfl rfl ((lb, ld, lc) : Pix) ((true, wrap32 (ix ws (p + 2)), ix ws (p + 1)) : Pix) rfl rfl ?_
                      rw [hdec]
                      go_simp
                      repeat (go_big_quiet_step (fail))
                      refine wpQuiet_nil ?_
                      intro nq
                      have S := S2.keep (below_drewN (Below.refl w6.heap.size w6) nq)
                      go_wp2_with fail
                      refine (wrong_any ((p : Int) + 2) _).mono ?_
                      rintro e wz ⟨rfl, hbz⟩
                      have hz0 := S.r0.below hbz
                      have hgz := hz0.err h4 (by rw [hlm, hwsd]; exact hRR) (.int .i64 0) (.int .i64 0) (.int .u32 0) (.slice none 0 0) (.int .i64 290) (.int .i64 ((p : Int) + 2))
                      obtain ⟨⟨p0, q0, p1, q1, p2, q2, p3, q3⟩, p4, q4, p5, q5, y2, y3⟩ := two_store hz0.b2 hz0.b3 (by omega) (.int .i64 0) (.int .i64 0) (.int .u32 0) (.slice none 0 0) (.int .i64 290) (.int .i64 ((p : Int) + 2))
                      obtain ⟨z0, z1, z2, z3⟩ := y2.read4
                      obtain ⟨z4, z5⟩ : _ ∧ _ := And.intro (y3.cell 0) (y3.cell 1)
                      simp at z4 z5
                      unfold set6 at z0 z1 z2 z3 z4 z5
                      clear hz0 y2 y3
                      go_wp2_with fail
                      (try simp only [Exit.inBlock, Exit.then])
                      refine bodyPost_ret (v := .tuple #[noCan, .agg #[.int .i64 290, .int .i64 ((p : Int) + 2)]]) (by unfold noCan; rw [results_cc rfl]; go_simp) rfl ?_
                      rw [show (((p + 2) : Nat) : Int) = ((p : Int) + 2) from by omega] at hgz
                      exact hgz
                    · have hR := runW_ok (f := f) hlt (stepW_odd (by omega) hb he (by rw [hlp]; exact hs))
                      rw [hM] at hR
                      have hokx : okPix ((true, wrap32 (ix ws (p + 2)), ix ws (p + 1)) : Pix) := by
                        have h1 := wrap32_bd (ix ws (p + 2))
                        exact ⟨h1.1, h1.2, hx1.1, hx1.2⟩
                      have hszs : ∀ t, t ≤ M → Sized N W H back (padP (pre ++ List.replicate t ((true, wrap32 (ix ws (p + 2)), ix ws (p + 1)) : Pix)) N) := fun t ht => sized_pad S2.can.sz (by omega) hokx
                      by_cases h0 : 0 < pre.length
                      · have hdec : decide (((lb, ld, lc) : Pix) = ((true, wrap32 (ix ws (p + 2)), ix ws (p + 1)) : Pix)) = false := decide_eq_false (fun e => hs ⟨h0, e⟩)
                        have hgt : decide (0 < pre.length) = true := decide_eq_true h0
                        have e1 : (pre.length : Int) - 1 = ((pre.length - 1 : Nat) : Int) := by omega
                        obtain ⟨l0, l1, l2⟩ := hlast h0
                        rw [hgt] at hgt1
                        clear hlast hs
                        go_wp2_with fail
                        generalize ((w3.setCell ⟨nb, 0, none⟩ (.bool true)).setCell ⟨nb, 1, none⟩ (.int .i32 (wrap32 (ix ws (p + 2))))).setCell ⟨nb, 2, none⟩ (.int .u32 (ix ws (p + 1))) = w6 at *
                        refine wp_region_quiet_lit (by kernel_rfl) (by kernel_rfl) ?_
                        repeat (go_big_quiet_step (fail))
                        refine rpx_eq_eq rfl rfl ((lb, ld, lc) : Pix) ((true, wrap32 (ix ws (p + 2)), ix ws (p + 1)) : Pix) rfl rfl ?_
                        rw [hdec]
                        go_simp
                        repeat (go_big_quiet_step (fail))
                        refine wpQuiet_nil ?_
                        intro nq
                        have S := S2.keep (below_drewN (Below.refl w6.heap.size w6) nq)
                        have hnb := hnb2.drewN nq
                        go_wp2_with fail
                        have hS7 := S.low7
                        have hSq := S.lowq
                        have hSn := S.ne
                        have hSrun := S.run
                        have hSfuel := S.fuel
                        generalize w6.drewN nq = w7 at *
                        have hinit : RefS w7 w.heap.size gq N N W H back (padP (pre ++ List.replicate 0 ((true, wrap32 (ix ws (p + 2)), ix ws (p + 1)) : Pix)) N) := by rw [List.replicate_zero, List.append_nil]; exact S.can
                        go_loopw [9, 14] (fun dd jj wq => ∃ t : Nat, t ≤ M ∧ dd = .int .i64 ((pre.length + t : Nat) : Int) ∧ jj = .int .i64 t ∧ RefS wq w.heap.size gq N N W H back (padP (pre ++ List.replicate t ((true, wrap32 (ix ws (p + 2)), ix ws (p + 1)) : Pix)) N) ∧ RR0 w wq ∧ Blk wq g7 31 #[.int .i64 W, .int .i64 H, .int .u32 back, .slice (some ⟨gq, 0, none⟩) N N] ∧ Blk wq nb 39 #[.bool true, .int .i32 (wrap32 (ix ws (p + 2))), .int .u32 (ix ws (p + 1))]) (fun _ jj _ => M - (intOf jj).toNat)
                        case atStart => exact ⟨0, by omega, rfl, rfl, hinit, S.r0, S.k7, hnb⟩
                        case round =>
                          obtain ⟨t, ht, rfl, rfl, canr, r0r, k7r, nbr⟩ := hrel
                          by_cases htl : t < M
                          · have hk : pre.length + t < N := by omega
                            have htI : decide ((t : Int) < (M : Int)) = true := by simp; omega
                            obtain ⟨a0, a1, a2, a3⟩ := k7r.read4
                            obtain ⟨b0, b1, b2⟩ := nbr.read3
                            have s0 := st_c0 canr.row hk
                            have s1 := st_c1 canr.row hk
                            have s2 := st_c2 canr.row hk
                            have sf0 := st_f0 canr.row (pre.length + t)
                            have sf1 := st_f1 canr.row (pre.length + t)
                            have sf2 := st_f2 canr.row (pre.length + t)
                            have hnext := padP_next (x := ((true, wrap32 (ix ws (p + 2)), ix ws (p + 1)) : Pix)) hk
                            go_wp2_with fail
                            go_roundw
                            case rel =>
                              have hoff3 := off_set3 wr gq (pre.length + t) (.bool true) (.int .i32 (wrap32 (ix ws (p + 2)))) (.int .u32 (ix ws (p + 1)))
                              have hcan := canr.set3 (p := (true, wrap32 (ix ws (p + 2)), ix ws (p + 1))) hk (by rw [show ((true, wrap32 (ix ws (p + 2)), ix ws (p + 1)) : Pix) = ((true, wrap32 (ix ws (p + 2)), ix ws (p + 1)) : Pix) from rfl, hnext]; exact hszs (t + 1) (by omega))
                              rw [show ((true, wrap32 (ix ws (p + 2)), ix ws (p + 1)) : Pix) = ((true, wrap32 (ix ws (p + 2)), ix ws (p + 1)) : Pix) from rfl, hnext] at hcan
                              exact ⟨t + 1, by omega, by go_num, by go_num, hcan, ⟨r0r.b2.off hoff3 (by omega), r0r.b3.off hoff3 (by omega), r0r.bel.trans (hoff3.to_below w.heap.size r0r.bel.size (by intro q _ hq; omega))⟩, k7r.off hoff3 (by omega), nbr.off hoff3 (by omega)⟩
                            case measure => simp [intOf]; omega
                          · obtain rfl : t = M := by omega
                            have htI : decide ((t : Int) < (t : Int)) = false := by simp
                            go_wp2_with fail
                            go_roundw
                            case rel => exact ⟨p + 3, f, pre ++ List.replicate t ((true, wrap32 (ix ws (p + 2)), ix ws (p + 1)) : Pix), by rw [List.length_append, List.length_replicate], by go_num, r0r, canr, k7r, hS7, hSq, hSn, by omega, by simp; omega, by simp; omega, by rw [← hR, hSrun]⟩
                            case measure => simp [intOf]; omega
                      · have hgt : decide (0 < pre.length) = false := decide_eq_false h0
                        rw [hgt] at hgt1
                        clear hlast hs
                        go_wp2_with fail
                        generalize ((w3.setCell ⟨nb, 0, none⟩ (.bool true)).setCell ⟨nb, 1, none⟩ (.int .i32 (wrap32 (ix ws (p + 2))))).setCell ⟨nb, 2, none⟩ (.int .u32 (ix ws (p + 1))) = w6 at *
                        refine wp_region_quiet_lit (by kernel_rfl) (by kernel_rfl) ?_
                        repeat (go_big_quiet_step (fail))
                        refine wpQuiet_nil ?_
                        rintro _ ⟨nq, rfl⟩
                        have S := S2.keep (below_drewN (Below.refl w6.heap.size w6) nq)
                        have hnb := hnb2.drewN nq
                        go_wp2_with fail
                        have hS7 := S.low7
                        have hSq := S.lowq
                        have hSn := S.ne
                        have hSrun := S.run
                        have hSfuel := S.fuel
                        generalize w6.drewN nq = w7 at *
                        have hinit : RefS w7 w.heap.size gq N N W H back (padP (pre ++ List.replicate 0 ((true, wrap32 (ix ws (p + 2)), ix ws (p + 1)) : Pix)) N) := by rw [List.replicate_zero, List.append_nil]; exact S.can
                        go_loopw [9, 14] (fun dd jj wq => ∃ t : Nat, t ≤ M ∧ dd = .int .i64 ((pre.length + t : Nat) : Int) ∧ jj = .int .i64 t ∧ RefS wq w.heap.size gq N N W H back (padP (pre ++ List.replicate t ((true, wrap32 (ix ws (p + 2)), ix ws (p + 1)) : Pix)) N) ∧ RR0 w wq ∧ Blk wq g7 31 #[.int .i64 W, .int .i64 H, .int .u32 back, .slice (some ⟨gq, 0, none⟩) N N] ∧ Blk wq nb 39 #[.bool true, .int .i32 (wrap32 (ix ws (p + 2))), .int .u32 (ix ws (p + 1))]) (fun _ jj _ => M - (intOf jj).toNat)
                        case atStart => exact ⟨0, by omega, rfl, rfl, hinit, S.r0, S.k7, hnb⟩
                        case round =>
                          obtain ⟨t, ht, rfl, rfl, canr, r0r, k7r, nbr⟩ := hrel
                          by_cases htl : t < M
                          · have hk : pre.length + t < N := by omega
                            have htI : decide ((t : Int) < (M : Int)) = true := by simp; omega
                            obtain ⟨a0, a1, a2, a3⟩ := k7r.read4
                            obtain ⟨b0, b1, b2⟩ := nbr.read3
                            have s0 := st_c0 canr.row hk
                            have s1 := st_c1 canr.row hk
                            have s2 := st_c2 canr.row hk
                            have sf0 := st_f0 canr.row (pre.length + t)
                            have sf1 := st_f1 canr.row (pre.length + t)
                            have sf2 := st_f2 canr.row (pre.length + t)
                            have hnext := padP_next (x := ((true, wrap32 (ix ws (p + 2)), ix ws (p + 1)) : Pix)) hk
                            go_wp2_with fail
                            go_roundw
                            case rel =>
                              have hoff3 := off_set3 wr gq (pre.length + t) (.bool true) (.int .i32 (wrap32 (ix ws (p + 2)))) (.int .u32 (ix ws (p + 1)))
                              have hcan := canr.set3 (p := (true, wrap32 (ix ws (p + 2)), ix ws (p + 1))) hk (by rw [show ((true, wrap32 (ix ws (p + 2)), ix ws (p + 1)) : Pix) = ((true, wrap32 (ix ws (p + 2)), ix ws (p + 1)) : Pix) from rfl, hnext]; exact hszs (t + 1) (by omega))
                              rw [show ((true, wrap32 (ix ws (p + 2)), ix ws (p + 1)) : Pix) = ((true, wrap32 (ix ws (p + 2)), ix ws (p + 1)) : Pix) from rfl, hnext] at hcan
                              exact ⟨t + 1, by omega, by go_num, by go_num, hcan, ⟨r0r.b2.off hoff3 (by omega), r0r.b3.off hoff3 (by omega), r0r.bel.trans (hoff3.to_below w.heap.size r0r.bel.size (by intro q _ hq; omega))⟩, k7r.off hoff3 (by omega), nbr.off hoff3 (by omega)⟩
                            case measure => simp [intOf]; omega
                          · obtain rfl : t = M := by omega
                            have htI : decide ((t : Int) < (t : Int)) = false := by simp
                            go_wp2_with fail
                            go_roundw
                            case rel => exact ⟨p + 3, f, pre ++ List.replicate t ((true, wrap32 (ix ws (p + 2)), ix ws (p + 1)) : Pix), by rw [List.length_append, List.length_replicate], by go_num, r0r, canr, k7r, hS7, hSq, hSn, by omega, by simp; omega, by simp; omega, by rw [← hR, hSrun]⟩
                            case measure => simp [intOf]; omega
          · obtain ⟨p', rfl⟩ : ∃ p', p = p' := ⟨_, rfl⟩
            have hlI : decide ((pre.length : Int) < (N : Int)) = false := by simp; omega
            have hlen : pre.length = N := by have := S.lenN; omega
            by_cases hpm : p < m
            · have hpI : decide ((p : Int) < (m : Int)) = true := by simp; omega
              have hRR := readW_err hh (by rw [hN, ← S.run]; exact runW_more (by omega) (by omega))
              clear hlen
              go_wp2_with fail
              refine (wrong_any p _).mono ?_
              rintro e wz ⟨rfl, hbz⟩
              have hz0 := S.r0.below hbz
              have hgz := hz0.err h4 (by rw [hlm, hwsd]; exact hRR) (.int .i64 0) (.int .i64 0) (.int .u32 0) (.slice none 0 0) (.int .i64 290) (.int .i64 p)
              obtain ⟨⟨p0, q0, p1, q1, p2, q2, p3, q3⟩, p4, q4, p5, q5, y2, y3⟩ := two_store hz0.b2 hz0.b3 (by omega) (.int .i64 0) (.int .i64 0) (.int .u32 0) (.slice none 0 0) (.int .i64 290) (.int .i64 p)
              obtain ⟨z0, z1, z2, z3⟩ := y2.read4
              obtain ⟨z4, z5⟩ : _ ∧ _ := And.intro (y3.cell 0) (y3.cell 1)
              simp at z4 z5
              unfold set6 at z0 z1 z2 z3 z4 z5
              clear hz0 y2 y3
              go_wp2_with fail
              (try simp only [Exit.inBlock, Exit.then])
              refine bodyPost_ret (v := .tuple #[noCan, .agg #[.int .i64 290, .int .i64 p]]) (by unfold noCan; rw [results_cc rfl]; go_simp) rfl ?_
              exact hgz
            · have hpI : decide ((p : Int) < (m : Int)) = false := by simp; omega
              have hRR := readW_ok hh (by rw [hN, ← S.run]; exact runW_done (by omega) (by omega))
              rw [hWd, hHd, hback] at hRR
              have hcan := S.can
              rw [padP_full hlen] at hcan
              have hbs := S.r0.bel.size
              obtain ⟨⟨p0, q0, p1, q1, p2, q2, p3, q3⟩, p4, q4, p5, q5, y2, y3⟩ := two_store S.r0.b2 S.r0.b3 (by omega) (.int .i64 (W : Int)) (.int .i64 (H : Int)) (.int .u32 back) (.slice (some ⟨gq, 0, none⟩) N N) (.int .i64 0) (.int .i64 0)
              have hop := off_put6 wr w.heap.size (w.heap.size + 1) (.int .i64 (W : Int)) (.int .i64 (H : Int)) (.int .u32 back) (.slice (some ⟨gq, 0, none⟩) N N) (.int .i64 0) (.int .i64 0)
              have hend : RreadR l w (.returned (.tuple #[refV gq N N W H back, .agg #[.int .i64 0, .int .i64 0]])) (set6 wr w.heap.size (w.heap.size + 1) (.int .i64 (W : Int)) (.int .i64 (H : Int)) (.int .u32 back) (.slice (some ⟨gq, 0, none⟩) N N) (.int .i64 0) (.int .i64 0)) := by
                have hql := S.lowq
                refine ⟨S.r0.bel.trans (hop.to_below w.heap.size hbs (by intro q _ hq; omega)), ?_⟩
                rw [if_neg (by omega), hlm, hwsd, hRR]
                have hN2 : W * H = N := by rw [← hN, hWd, hHd]
                simp only [hN2]
                exact ⟨gq, rfl, hcan.off hop (by omega)⟩
              unfold refV at hend
              obtain ⟨z0, z1, z2, z3⟩ := y2.read4
              obtain ⟨z4, z5⟩ : _ ∧ _ := And.intro (y3.cell 0) (y3.cell 1)
              simp at z4 z5
              unfold set6 at z0 z1 z2 z3 z4 z5
              clear y2 y3 hop hcan hRR hlen
              go_wp2_with fail
              (try simp only [Exit.inBlock, Exit.then])
              refine bodyPost_ret (v := .tuple #[.agg #[.int .i64 W, .int .i64 H, .int .u32 back, .slice (some ⟨gq, 0, none⟩) N N], .agg #[.int .i64 0, .int .i64 0]]) (by rw [results_cc rfl]; go_simp) rfl ?_
              exact hend
  · rw [hL] at h2
    have hz : ((n : Int) % 4 != 0) = true := by rw [bne_iff_ne]; omega
    have h0b := h0.bel
    have hts := two_store h0.b2 h0.b3 (by omega) (.int .i64 0) (.int .i64 0) (.int .u32 0) (.slice none 0 0) (.int .i64 10) (.int .i64 0)
    go_enter Try.func25, Try.ntmps25
    go_wp2
    have hbz := ((Below.refl w.heap.size w).alloc (Nat.le_refl _) (.cells #[.int .i64 0, .int .i64 0, .int .u32 0, .slice none 0 0] 31)).alloc (by rw [World.size_alloc]; omega) (.cells #[.int .i64 10, .int .i64 0] 67)
    have y2 : Blk ((w.alloc (.cells #[.int .i64 0, .int .i64 0, .int .u32 0, .slice none 0 0] 31)).alloc (.cells #[.int .i64 10, .int .i64 0] 67)) w.heap.size 31 #[.int .i64 0, .int .i64 0, .int .u32 0, .slice none 0 0] := (Blk.new w _ _).alloc _
    have y3 : Blk ((w.alloc (.cells #[.int .i64 0, .int .i64 0, .int .u32 0, .slice none 0 0] 31)).alloc (.cells #[.int .i64 10, .int .i64 0] 67)) (w.heap.size + 1) 67 #[.int .i64 10, .int .i64 0] := by
      have := Blk.new (w.alloc (.cells #[.int .i64 0, .int .i64 0, .int .u32 0, .slice none 0 0] 31)) 67 #[.int .i64 10, .int .i64 0]
      rwa [World.size_alloc] at this
    obtain ⟨z0, z1, z2, z3⟩ := y2.read4
    obtain ⟨z4, z5⟩ : _ ∧ _ := And.intro (y3.cell 0) (y3.cell 1)
    simp at z4 z5
    (try simp only [Exit.inBlock, Exit.then])
    refine bodyPost_ret (v := .tuple #[noCan, .agg #[.int .i64 10, .int .i64 0]]) (by unfold noCan; rw [results_cc rfl]; go_simp) rfl ?_
    refine ⟨hbz, ?_⟩
    rw [if_pos (by omega)]
end Go.Proofs.Ytfciaefjilobaaa
