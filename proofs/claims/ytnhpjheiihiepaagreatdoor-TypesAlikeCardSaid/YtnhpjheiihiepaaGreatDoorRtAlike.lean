/- Walks. -/
import Derived.Test.YtnhpjheiihiepaaGreatDoorSG
namespace Go.Proofs.YtnhpjheiihiepaaGreatDoor
open Go.RowKit

set_option maxRecDepth 100000 in
set_option maxHeartbeats 4000000 in
theorem law_alike (gen bound : Int) (A : Option Addr) (n c : Nat) (ls : List InstA) (Ap : Option Addr) (np cp : Nat) (lp : List Int) (w : World) (hM : ModS w w.heap.size A n ls) (hn : n ≤ 3600000000000) (hP : Pow w) (hrp : Reads w w.heap.size 1 Ap np (Ints .u32 lp))
    (hN : ∀ x ∈ ls, (∀ a ∈ x.1.2.2.2, 0 ≤ a.2.1 ∧ a.2.1 < 4294967296) ∧ (0 ≤ x.1.1 ∧ x.1.1 < 65536)) :
    Calls Tryz.prog 5 #[.agg (modC gen bound A n c), .slice Ap np cp] w (BoolIs true w) := by
  have hb1 := (Below.refl w.heap.size w).alloc (Nat.le_refl _) (.cells (modC gen bound A n c) 25)
  have k1 := Blk.new w 25 (modC gen bound A n c)
  have hrn := rnew_any gen bound ls A n c _ (hM.step hb1) (fun x hx => (hN x hx).1) (fun x hx => (hN x hx).2)
  have hcp := fun w' (hb : Below w.heap.size w w') => copyModule_any gen bound A n c ls w' (hM.step hb) hn
  have hLn : (ls.map (·.1)).length ≤ 7100000000000 := by rw [hM.length]; exact hM.len
  obtain ⟨L, hL⟩ : ∃ L, L = ls.map (·.1) := ⟨_, rfl⟩
  have hu : ∀ i ∈ L, ∀ a ∈ i.2.2.2, 0 ≤ a.2.1 ∧ a.2.1 < 4294967296 := fun i hi => by
    rw [hL] at hi
    obtain ⟨x, hx, rfl⟩ := List.mem_map.1 hi
    exact (hN x hx).1
  have hop : ∀ i ∈ L, 0 ≤ i.1 ∧ i.1 < 65536 := fun i hi => by
    rw [hL] at hi
    obtain ⟨x, hx, rfl⟩ := List.mem_map.1 hi
    exact (hN x hx).2
  rw [← hL] at hcp hrn hLn
  have hTO := tabs_ok bound L hLn
  clear hL hM hN
  unfold modC at *
  obtain ⟨z0, z1, z2⟩ := three_ k1
  go_enter Tryz.func5, Tryz.ntmps5
  go_wp2_with fail
  refine hrn.mono ?_
  rintro e w2 hR
  obtain ⟨hb2, q, rfl, hRT, hqn⟩ := rnewG_u hR
  have hb3 := below_cut hb1 hb2 (Nat.le_refl _)
  generalize ha : (newM bound L).1 = a at *
  generalize hbb : (newM bound L).2.1 = b at *
  have hbs := (Below.refl w2.heap.size w2).alloc (Nat.le_refl _) (.cells #[.int .i64 a, .int .i64 b] 30)
  have hb4 := below_cut hb3 hbs (Nat.le_refl _)
  have kS := Blk.new w2 30 #[.int .i64 a, .int .i64 b]
  have hRT4 := hRT.step hbs
  have k14 := (k1.step hb2).step hbs
  have hc4 := hcp _ hb4
  clear hrn hR hcp hRT hbs hb2 k1 z0 z1 z2
  obtain ⟨z0, z1, z2⟩ := three_ k14
  go_wp2_with fail
  generalize (w2.alloc (.cells #[.int .i64 a, .int .i64 b] 30)) = W4 at *
  generalize w2.heap.size = gs at *
  refine hc4.mono ?_
  rintro e w5 ⟨A', c', ls', rfl, hM', hL', hb5⟩
  have hb6 := below_cut hb4 hb5 (Nat.le_refl _)
  have hnw := new_copied (gen := gen) (bound := bound) (c := c') hM' hL' (hP.step hb6) hu hop
  clear hc4 hM' hL' hu hop z0 z1 z2
  unfold modC at hnw
  go_wp2_with fail
  refine hnw.mono ?_
  rintro e w6 hR
  obtain ⟨hb7, p, S, rfl, hTW, -, hpn⟩ := newG_u hR
  rw [ha, hbb] at *
  have hb8 := below_cut hb6 hb7 (Nat.le_refl _)
  have hbs := (Below.refl w6.heap.size w6).alloc (Nat.le_refl _) (.cells #[.int .i64 a, .int .i64 b] 30)
  have hb9 := below_cut hb8 hbs (Nat.le_refl _)
  have kS2 := Blk.new w6 30 #[.int .i64 a, .int .i64 b]
  have kS1 := ((kS.step hb5).step hb7).step hbs
  have hRT9 := ((hRT4.step hb5).step hb7).step hbs
  have hTW9 := hTW.step hbs
  clear hnw hR hTW hRT4 kS k14 hbs hpn hqn
  generalize tT (newM bound L) = T at *
  generalize tO (newM bound L) = ord at *
  clear ha hbb
  obtain ⟨s0, s1⟩ := two_ kS1
  obtain ⟨q0, q1⟩ := two_ kS2
  have hse := spot_eq a b
  have hsg := spot_guard
  have hc9 := asked_any q T ord hTO Ap np cp lp _ hRT9 ((hrp.below hb9).more hb9.size)
  have HTO := Lib.hid hTO
  have HTW := Lib.hid hTW9
  have HRT := Lib.hid hRT9
  have hNb : (askL ord lp).length ≤ 7100000000009 := by
    have := hTO.few
    unfold askL
    simp only [List.length_append, List.length_take, List.length_singleton]
    omega
  clear hTO hTW9 hRT9
  go_wp2_with fail
  generalize (w6.alloc (.cells #[.int .i64 a, .int .i64 b] 30)) = W9 at *
  clear s0 s1 q0 q1 hse hsg kS1 kS2
  refine hc9.mono ?_
  rintro e w10 ⟨Al, cl, rfl, ho10, hb10⟩
  have hb11 := below_cut hb9 hb10 (Nat.le_refl _)
  have HR := Lib.hid (Reads.of_own ho10)
  have HT := Lib.hid (HTW.out.step hb10)
  have HQ := Lib.hid (HRT.out.step hb10)
  generalize askL ord lp = al at *
  clear hc9 ho10 HTW HRT
  go_wp2_with fail
  obtain ⟨N, hNl⟩ : ∃ N, N = al.length := ⟨_, rfl⟩
  rw [← hNl] at HR hNb ⊢
  obtain ⟨m, hm⟩ : ∃ m, m = min N 30 := ⟨_, rfl⟩
  have hm1 : m ≤ N := by omega
  have hm2 : m ≤ 30 := by omega
  have hm3 : m < 30 → N ≤ m := fun h => by omega
  have hD := HTO.out.ty.deepT
  have hdp := fun id => (HTO.out.ty.deep id).2
  have c1 := Lib.hid (fun w' (hb : Below w10.heap.size w10 w') x y => alike_any p T S hD 17 x y w' (HT.out.step hb) (by have := hdp x; omega) (by decide))
  have c2 := Lib.hid (fun w' (hb : Below w10.heap.size w10 w') x y => ralike_any q T ord HTO.out.ty HTO.out.zero HTO.out.out 17 x y w' (HQ.out.step hb) (by have := hdp x; omega) (by decide))
  have heq := Lib.hid (fun x y => alikeR_eq HTO.out.ty (q := 17) (a := x) (b := y) (by have := hdp x; omega))
  have HNL := Lib.hid hNl
  clear hm hNl hD hdp
  go_loopg [10, 11] m (fun qq i j wr => ∃ k : Nat, k + qq = m ∧ i = .int .i64 (k : Nat) ∧ Below w10.heap.size w10 wr)
  case atStart => exact ⟨0, by omega, rfl, Below.refl _ _⟩
  case round =>
    obtain ⟨k, hkq, rfl, hbr⟩ := hrel
    by_cases hlt : k < m
    · have d1 : decide (k < N) = true := decide_eq_true (by omega)
      have d2 : decide (((k : Nat) : Int) < (N : Nat)) = true := by rw [decide_eq_true_eq]; omega
      have d3 : decide (k < 30) = true := decide_eq_true (by omega)
      have d4 : decide (((k : Nat) : Int) < 30) = true := by rw [decide_eq_true_eq]; omega
      go_wp2_with fail
      clear d1 d2 d3 d4
      go_loopg [11] m (fun qq j wr => ∃ k2 : Nat, k2 + qq = m ∧ j = .int .i64 (k2 : Nat) ∧ Below w10.heap.size w10 wr)
      case atStart => exact ⟨0, by omega, rfl, hbr⟩
      case round =>
        obtain ⟨k2, hkq2, rfl, hbq⟩ := hrel
        by_cases hlt2 : k2 < m
        · have d1 : decide (k2 < N) = true := decide_eq_true (by omega)
          have d2 : decide (((k2 : Nat) : Int) < (N : Nat)) = true := by rw [decide_eq_true_eq]; omega
          have d3 : decide (k2 < 30) = true := decide_eq_true (by omega)
          have d4 : decide (((k2 : Nat) : Int) < 30) = true := by rw [decide_eq_true_eq]; omega
          have hi1 : ((k : Nat) : Int) < (N : Nat) := by omega
          have hi2 : ((k2 : Nat) : Int) < (N : Nat) := by omega
          obtain ⟨b', off, rfl, hbb, hcc⟩ := (HR.out.below hbq).ints (by omega)
          have x0 := hcc k (by omega)
          have x1 := hcc k2 (by omega)
          have q1 := c1.out
          have q2 := c2.out
          have e1 := heq.out (ix al k) (ix al k2)
          have f1 := fun w' (hb : Below wr.heap.size wr w') => q1 w' (below_cut hbq hb (Nat.le_refl _)) (ix al k) (ix al k2)
          have f2 := fun w' (hb : Below wr.heap.size wr w') => q2 w' (below_cut hbq hb (Nat.le_refl _)) (ix al k) (ix al k2)
          rw [e1] at f2
          clear hcc q1 q2 e1
          generalize alikeT T 17 (ix al k) (ix al k2) = P at *
          generalize ix al k = x at *
          generalize ix al k2 = y at *
          have eP : (P != P) = false := by simp
          have hS0 : H2 wr ⟨b', off + k, none⟩ (.int .u32 x) ⟨b', off + k2, none⟩ (.int .u32 y) wr := ⟨x0, x1, Below.refl _ _⟩
          unfold BoolIs at f1 f2
          go_upto_region 12 with fail
          clear d1 d2 d3 d4
          go_region_held3 (H2 wr ⟨b', off + k, none⟩ (.int .u32 x) ⟨b', off + k2, none⟩ (.int .u32 y)) (first | with_reducible exact hS0.drew_ | with_reducible exact H2.call (by assumption) hbq2 | fail) ((first | (go_at_call 21; refine (f1 _ (H2.is (by assumption))).mono ?_; rintro e w' ⟨rfl, hbq2⟩) | (go_at_call 22; refine (f2 _ (H2.is (by assumption))).mono ?_; rintro e w' ⟨rfl, hbq2⟩)))
          all_goals
            have B1 := H2.is (w1 := wr) (a1 := ⟨b', off + k, none⟩) (v1 := .int .u32 x) (a2 := ⟨b', off + k2, none⟩) (v2 := .int .u32 y) (by assumption)
            go_wp2_with fail
            go_roundg (m - (k2 + 1))
            case measure => omega
            case rel => exact ⟨k2 + 1, by omega, by go_num, below_cut hbq B1 (Nat.le_refl _)⟩
        · obtain rfl : k2 = m := by omega
          by_cases h30 : k2 < 30
          · have hN1 := hm3 h30
            have d1 : decide (k2 < N) = false := decide_eq_false (by omega)
            have d2 : decide (((k2 : Nat) : Int) < (N : Nat)) = false := by rw [decide_eq_false_iff_not]; omega
            clear hm3 hN1 h30
            go_wp2_with fail
            go_roundg (k2 - (k + 1))
            case measure => omega
            case rel => exact ⟨k + 1, by omega, by go_num, hbq⟩
          · have d3 : decide (k2 < 30) = false := decide_eq_false h30
            have d4 : decide (((k2 : Nat) : Int) < 30) = false := by rw [decide_eq_false_iff_not]; omega
            clear hm3 h30
            by_cases hkn : k2 < N
            · have d1 : decide (k2 < N) = true := decide_eq_true hkn
              have d2 : decide (((k2 : Nat) : Int) < (N : Nat)) = true := by rw [decide_eq_true_eq]; omega
              go_wp2_with fail
              go_roundg (k2 - (k + 1))
              case measure => omega
              case rel => exact ⟨k + 1, by omega, by go_num, hbq⟩
            · have d1 : decide (k2 < N) = false := decide_eq_false hkn
              have d2 : decide (((k2 : Nat) : Int) < (N : Nat)) = false := by rw [decide_eq_false_iff_not]; omega
              go_wp2_with fail
              go_roundg (k2 - (k + 1))
              case measure => omega
              case rel => exact ⟨k + 1, by omega, by go_num, hbq⟩
    · obtain rfl : k = m := by omega
      have hbw := below_cut hb11 hbr (Nat.le_refl _)
      by_cases h30 : k < 30
      · have hN1 := hm3 h30
        have d1 : decide (k < N) = false := decide_eq_false (by omega)
        have d2 : decide (((k : Nat) : Int) < (N : Nat)) = false := by rw [decide_eq_false_iff_not]; omega
        clear hm3 hN1 h30
        have haw := awake_any wr (hP.step hbw)
        go_wp2_with fail
        refine haw.mono ?_
        rintro e w18 ⟨rfl, hb18⟩
        have hb19 := below_cut hbw hb18 (Nat.le_refl _)
        go_wp2_with fail
        go_ret
        exact ⟨rfl, hb19⟩
      · have d3 : decide (k < 30) = false := decide_eq_false h30
        have d4 : decide (((k : Nat) : Int) < 30) = false := by rw [decide_eq_false_iff_not]; omega
        clear hm3 h30
        by_cases hkn : k < N
        · have d1 : decide (k < N) = true := decide_eq_true hkn
          have d2 : decide (((k : Nat) : Int) < (N : Nat)) = true := by rw [decide_eq_true_eq]; omega
          have haw := awake_any wr (hP.step hbw)
          go_wp2_with fail
          refine haw.mono ?_
          rintro e w18 ⟨rfl, hb18⟩
          have hb19 := below_cut hbw hb18 (Nat.le_refl _)
          go_wp2_with fail
          go_ret
          exact ⟨rfl, hb19⟩
        · have d1 : decide (k < N) = false := decide_eq_false hkn
          have d2 : decide (((k : Nat) : Int) < (N : Nat)) = false := by rw [decide_eq_false_iff_not]; omega
          have haw := awake_any wr (hP.step hbw)
          go_wp2_with fail
          refine haw.mono ?_
          rintro e w18 ⟨rfl, hb18⟩
          have hb19 := below_cut hbw hb18 (Nat.le_refl _)
          go_wp2_with fail
          go_ret
          exact ⟨rfl, hb19⟩
end Go.Proofs.YtnhpjheiihiepaaGreatDoor
