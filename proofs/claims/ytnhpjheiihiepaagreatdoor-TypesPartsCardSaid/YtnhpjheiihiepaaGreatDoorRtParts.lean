/- Walks. -/
import Derived.Test.YtnhpjheiihiepaaGreatDoorSG
namespace Go.Proofs.YtnhpjheiihiepaaGreatDoor
open Go.RowKit

set_option maxRecDepth 100000 in
set_option maxHeartbeats 4000000 in
theorem law_parts (gen bound : Int) (A : Option Addr) (n c : Nat) (ls : List InstA) (Ap : Option Addr) (np cp : Nat) (lp : List Int) (kk : Int) (w : World) (hM : ModS w w.heap.size A n ls) (hn : n ≤ 3600000000000) (hP : Pow w) (hrp : Reads w w.heap.size 1 Ap np (Ints .u32 lp))
    (hN : ∀ x ∈ ls, (∀ a ∈ x.1.2.2.2, 0 ≤ a.2.1 ∧ a.2.1 < 4294967296) ∧ (0 ≤ x.1.1 ∧ x.1.1 < 65536)) (hkk : kk < 9223372036854775808) :
    Calls Tryz.prog 4 #[.agg (modC gen bound A n c), .slice Ap np cp, .int .i64 kk] w (BoolIs true w) := by
  have hb1 := (Below.refl w.heap.size w).alloc (Nat.le_refl _) (.cells (modC gen bound A n c) 25)
  have k1 := Blk.new w 25 (modC gen bound A n c)
  have hrn := rnew_any gen bound ls A n c _ (hM.step hb1) (fun x hx => (hN x hx).1) (fun x hx => (hN x hx).2)
  have hcp := fun w' (hb : Below w.heap.size w w') => copyModule_any gen bound A n c ls w' (hM.step hb) hn
  have hLn : (ls.map (·.1)).length ≤ 7100000000000 := by rw [hM.length]; exact hM.len
  obtain ⟨L, hL⟩ : ∃ L, L = ls.map (·.1) := ⟨_, rfl⟩
  have hu : ∀ i ∈ L, ∀ a ∈ i.2.2.2, 0 ≤ a.2.1 ∧ a.2.1 < 4294967296 := fun i hi => by
    rw [hL] at hi
    obtain ⟨x, hx, rfl⟩ := List.mem_map.1 hi
    exact (hN x hx).1
  have hop : ∀ i ∈ L, 0 ≤ i.1 ∧ i.1 < 65536 := fun i hi => by
    rw [hL] at hi
    obtain ⟨x, hx, rfl⟩ := List.mem_map.1 hi
    exact (hN x hx).2
  rw [← hL] at hcp hrn hLn
  have hTO := tabs_ok bound L hLn
  clear hL hM hN
  unfold modC at *
  obtain ⟨z0, z1, z2⟩ := three_ k1
  go_enter Tryz.func4, Tryz.ntmps4
  go_wp2_with fail
  refine hrn.mono ?_
  rintro e w2 hR
  obtain ⟨hb2, q, rfl, hRT, hqn⟩ := rnewG_u hR
  have hb3 := below_cut hb1 hb2 (Nat.le_refl _)
  generalize ha : (newM bound L).1 = a at *
  generalize hbb : (newM bound L).2.1 = b at *
  have hbs := (Below.refl w2.heap.size w2).alloc (Nat.le_refl _) (.cells #[.int .i64 a, .int .i64 b] 30)
  have hb4 := below_cut hb3 hbs (Nat.le_refl _)
  have kS := Blk.new w2 30 #[.int .i64 a, .int .i64 b]
  have hRT4 := hRT.step hbs
  have k14 := (k1.step hb2).step hbs
  have hc4 := hcp _ hb4
  clear hrn hR hcp hRT hbs hb2 k1 z0 z1 z2
  obtain ⟨z0, z1, z2⟩ := three_ k14
  go_wp2_with fail
  generalize (w2.alloc (.cells #[.int .i64 a, .int .i64 b] 30)) = W4 at *
  generalize w2.heap.size = gs at *
  refine hc4.mono ?_
  rintro e w5 ⟨A', c', ls', rfl, hM', hL', hb5⟩
  have hb6 := below_cut hb4 hb5 (Nat.le_refl _)
  have hnw := new_copied (gen := gen) (bound := bound) (c := c') hM' hL' (hP.step hb6) hu hop
  clear hc4 hM' hL' hu hop z0 z1 z2
  unfold modC at hnw
  go_wp2_with fail
  refine hnw.mono ?_
  rintro e w6 hR
  obtain ⟨hb7, p, S, rfl, hTW, -, hpn⟩ := newG_u hR
  rw [ha, hbb] at *
  have hb8 := below_cut hb6 hb7 (Nat.le_refl _)
  have hbs := (Below.refl w6.heap.size w6).alloc (Nat.le_refl _) (.cells #[.int .i64 a, .int .i64 b] 30)
  have hb9 := below_cut hb8 hbs (Nat.le_refl _)
  have kS2 := Blk.new w6 30 #[.int .i64 a, .int .i64 b]
  have kS1 := ((kS.step hb5).step hb7).step hbs
  have hRT9 := ((hRT4.step hb5).step hb7).step hbs
  have hTW9 := hTW.step hbs
  clear hnw hR hTW hRT4 kS k14 hbs hpn hqn
  generalize tT (newM bound L) = T at *
  generalize tO (newM bound L) = ord at *
  clear ha hbb
  obtain ⟨s0, s1⟩ := two_ kS1
  obtain ⟨q0, q1⟩ := two_ kS2
  have hse := spot_eq a b
  have hsg := spot_guard
  have hc9 := asked_any q T ord hTO Ap np cp lp _ hRT9 ((hrp.below hb9).more hb9.size)
  have HTO := Lib.hid hTO
  have HTW := Lib.hid hTW9
  have HRT := Lib.hid hRT9
  have hNb : (askL ord lp).length ≤ 7100000000009 := by
    have := hTO.few
    unfold askL
    simp only [List.length_append, List.length_take, List.length_singleton]
    omega
  clear hTO hTW9 hRT9
  go_wp2_with fail
  generalize (w6.alloc (.cells #[.int .i64 a, .int .i64 b] 30)) = W9 at *
  clear s0 s1 q0 q1 hse hsg kS1 kS2
  refine hc9.mono ?_
  rintro e w10 ⟨Al, cl, rfl, ho10, hb10⟩
  have hb11 := below_cut hb9 hb10 (Nat.le_refl _)
  have HR := Lib.hid (Reads.of_own ho10)
  have HT := Lib.hid (HTW.out.step hb10)
  have HQ := Lib.hid (HRT.out.step hb10)
  generalize askL ord lp = al at *
  clear hc9 ho10 HTW HRT
  go_wp2_with fail
  obtain ⟨N, hNl⟩ : ∃ N, N = al.length := ⟨_, rfl⟩
  rw [← hNl] at HR hNb ⊢
  have c1 := Lib.hid (fun w' (hb : Below w10.heap.size w10 w') x j (hj : j < 9223372036854775808) => partL_any p q T S ord HTO.out x j w' (HT.out.step hb) (HQ.out.step hb) hj)
  have c2 := Lib.hid (fun w' (hb : Below w10.heap.size w10 w') x => rcount_any q T ord x w' (HQ.out.step hb) HTO.out.out)
  have hfw := Lib.hid (fun x => HTO.out.ty.rp_few x)
  have HNL := Lib.hid hNl
  clear hNl
  go_loopg [12, 13, 14] N (fun qq i u v wr => ∃ k : Nat, k + qq = N ∧ i = .int .i64 (k : Nat) ∧ Below w10.heap.size w10 wr)
  case atStart => exact ⟨0, by omega, rfl, Below.refl _ _⟩
  case round =>
    obtain ⟨k, hkq, rfl, hbr⟩ := hrel
    by_cases hlt : k < N
    · have hi1 : ((k : Nat) : Int) < (N : Nat) := by omega
      obtain ⟨b', off, rfl, hbb, hcc⟩ := (HR.out.below hbr).ints (by omega)
      have x0 := hcc k (by omega)
      have hcn := c2.out wr hbr (ix al k)
      have f1 := fun w' (hb : Below wr.heap.size wr w') j hj => c1.out w' (below_cut hbr hb (Nat.le_refl _)) (ix al k) j hj
      have hfx := hfw.out (ix al k)
      unfold BoolIs at f1
      clear hcc
      generalize (rparts (T (ix al k))).length = m at *
      generalize ix al k = x at *
      have hx := fun w' (hb : Below wr.heap.size wr w') => cell_on x0 hb
      have fk := fun w' hb => f1 w' hb kk hkk
      have fm := fun w' hb => f1 w' hb (-1) (by decide)
      have fn := fun w' hb => f1 w' hb (m : Nat) (by omega)
      have fp := fun w' hb => f1 w' hb ((m : Nat) - 1 : Int) (by omega)
      have wp : IntKind.i64.wrap (((m : Nat) : Int) - 1) = (m : Nat) - 1 := IntWalk.i64_in _ (by omega)
      go_wp2_with fail
      refine hcn.mono ?_
      rintro e v1 ⟨rfl, g1⟩
      have y1 := hx v1 g1
      clear hcn
      go_wp2_with fail
      refine (fk v1 g1).mono ?_
      rintro e v2 ⟨rfl, g2⟩
      have G2 := below_cut g1 g2 (Nat.le_refl _)
      have y2 := hx v2 G2
      go_wp2_with fail
      refine (fm v2 G2).mono ?_
      rintro e v3 ⟨rfl, g3⟩
      have G3 := below_cut G2 g3 (Nat.le_refl _)
      have y3 := hx v3 G3
      go_wp2_with fail
      refine (fn v3 G3).mono ?_
      rintro e v4 ⟨rfl, g4⟩
      have G4 := below_cut G3 g4 (Nat.le_refl _)
      have y4 := hx v4 G4
      go_wp2_with fail
      refine (fp v4 G4).mono ?_
      rintro e v5 ⟨rfl, g5⟩
      have G5 := below_cut G4 g5 (Nat.le_refl _)
      clear g1 g2 g3 g4 g5 G2 G3 G4 y1 y2 y3 y4 fk fm fn fp wp
      obtain ⟨z, hz⟩ : ∃ z, z = min m 20 := ⟨_, rfl⟩
      have hz1 : z ≤ m := by omega
      have hz2 : z ≤ 20 := by omega
      have hz3 : z < 20 → m ≤ z := fun h => by omega
      clear hz
      go_wp2_with fail
      obtain ⟨W0, hW0⟩ : ∃ x, x = wr := ⟨_, rfl⟩
      subst hW0
      go_loopg [14] z (fun qq j wr => ∃ k2 : Nat, k2 + qq = z ∧ j = .int .i64 (k2 : Nat) ∧ Below W0.heap.size W0 wr)
      case atStart => exact ⟨0, by omega, rfl, G5⟩
      case round =>
        obtain ⟨k2, hkq2, rfl, hbq⟩ := hrel
        by_cases hlt2 : k2 < z
        · have d1 : decide (k2 < m) = true := decide_eq_true (by omega)
          have d2 : decide (((k2 : Nat) : Int) < (m : Nat)) = true := by rw [decide_eq_true_eq]; omega
          have d3 : decide (k2 < 20) = true := decide_eq_true (by omega)
          have d4 : decide (((k2 : Nat) : Int) < 20) = true := by rw [decide_eq_true_eq]; omega
          have y1 := hx wr hbq
          have f2 := f1 wr hbq (k2 : Nat) (by omega)
          go_wp2_with fail
          refine f2.mono ?_
          rintro e v6 ⟨rfl, g6⟩
          go_wp2_with fail
          go_roundg (z - (k2 + 1))
          case measure => omega
          case rel => exact ⟨k2 + 1, by omega, by go_num, below_cut hbq g6 (Nat.le_refl _)⟩
        · obtain rfl : k2 = z := by omega
          have hbz := below_cut hbr hbq (Nat.le_refl _)
          by_cases h20 : k2 < 20
          · have hm1 := hz3 h20
            have d1 : decide (k2 < m) = false := decide_eq_false (by omega)
            have d2 : decide (((k2 : Nat) : Int) < (m : Nat)) = false := by rw [decide_eq_false_iff_not]; omega
            clear hz3 hm1 h20
            go_wp2_with fail
            go_roundg (N - (k + 1))
            case measure => omega
            case rel => exact ⟨k + 1, by omega, by go_num, hbz⟩
          · have d3 : decide (k2 < 20) = false := decide_eq_false h20
            have d4 : decide (((k2 : Nat) : Int) < 20) = false := by rw [decide_eq_false_iff_not]; omega
            clear hz3 h20
            by_cases hkn : k2 < m
            · have d1 : decide (k2 < m) = true := decide_eq_true hkn
              have d2 : decide (((k2 : Nat) : Int) < (m : Nat)) = true := by rw [decide_eq_true_eq]; omega
              go_wp2_with fail
              go_roundg (N - (k + 1))
              case measure => omega
              case rel => exact ⟨k + 1, by omega, by go_num, hbz⟩
            · have d1 : decide (k2 < m) = false := decide_eq_false hkn
              have d2 : decide (((k2 : Nat) : Int) < (m : Nat)) = false := by rw [decide_eq_false_iff_not]; omega
              go_wp2_with fail
              go_roundg (N - (k + 1))
              case measure => omega
              case rel => exact ⟨k + 1, by omega, by go_num, hbz⟩
    · obtain rfl : k = N := by omega
      have hbw := below_cut hb11 hbr (Nat.le_refl _)
      have haw := awake_any wr (hP.step hbw)
      go_wp2_with fail
      refine haw.mono ?_
      rintro e w18 ⟨rfl, hb18⟩
      have hb19 := below_cut hbw hb18 (Nat.le_refl _)
      go_wp2_with fail
      go_ret
      exact ⟨rfl, hb19⟩
end Go.Proofs.YtnhpjheiihiepaaGreatDoor
