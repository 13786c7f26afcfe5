/- The walk of MemoryScript: whatever the script, it answers true, and nothing that was there has turned. -/
import Derived.Test.YtfkeogaagolnoaaStepm
import Derived.Test.YtfkeogaagolnoaaCallsm
import Derived.Deep.RegionLaw
import Derived.LaidEqlPtr
namespace Go.Proofs.Ytfkeogaagolnoaa
open Go.RowKit

/-- an older pair, apart from the one that is worked on -/
structure Old (w : World) (B go gs : Nat) (Fm Fw : Nat → Prop) : Prop where
  ex : ∃ Fo Fs lo, MA w B go Fo lo ∧ RA w B gs Fs lo ∧ Apart Fm Fo ∧ Apart Fm Fs ∧ Apart Fw Fo ∧ Apart Fw Fs
theorem Old.below {w w' : World} {B go gs : Nat} {Fm Fw : Nat → Prop} (h : Old w B go gs Fm Fw) (hb : Below w.heap.size w w') : Old w' B go gs Fm Fw := by
  obtain ⟨Fo, Fs, lo, h1, h2, h3⟩ := h.ex
  exact ⟨Fo, Fs, lo, h1.below hb, h2.below hb, h3⟩
theorem Old.step {w w' : World} {B go gs : Nat} {Fm Fw Fm' Fw' : Nat → Prop} (h : Old w B go gs Fm Fw) (ho : Off (fun k => Fm k ∨ Fw k) w w') (hgm : Grows w Fm Fm') (hgw : Grows w Fw Fw') : Old w' B go gs Fm' Fw' := by
  obtain ⟨Fo, Fs, lo, h1, h2, a1, a2, a3, a4⟩ := h.ex
  have q1 : ∀ k, Fo k → k < w.heap.size := fun k hk => (h1.lt hk).2
  have q2 : ∀ k, Fs k → k < w.heap.size := fun k hk => (h2.lt hk).2
  exact ⟨Fo, Fs, lo, h1.off ho (fun k hk hs => hs.elim (fun hs => a1 k hs hk) (fun hs => a3 k hs hk)), h2.off ho (fun k hk hs => hs.elim (fun hs => a2 k hs hk) (fun hs => a4 k hs hk)),
    (apart_grow a1.symm q1 hgm).symm, (apart_grow a2.symm q2 hgm).symm, (apart_grow a3.symm q1 hgw).symm, (apart_grow a4.symm q2 hgw).symm⟩
/-- what the loop over the script holds -/
structure ScrI (W : World) (n gw : Nat) (vm vo vs i : Value) (wr : World) : Prop where
  ex : ∃ (k gm go gs : Nat) (Fm Fw : Nat → Prop) (ls : List (List Int)), k ≤ n ∧ i = .int .i64 k ∧ vm = .pointer (some ⟨gm, 0, none⟩) ∧ vo = .pointer (some ⟨go, 0, none⟩) ∧ vs = .pointer (some ⟨gs, 0, none⟩) ∧
    MA wr W.heap.size gm Fm ls ∧ RA wr W.heap.size gw Fw ls ∧ Apart Fm Fw ∧ Below W.heap.size W wr ∧ (go = gm ∨ (go ≠ gm ∧ Old wr W.heap.size go gs Fm Fw))
theorem info_mem : ∃ j, Try.prog.info? 56 = some j ∧ j.size ≠ 0 := by
  have h : (Try.prog.info? 56).map (fun i => i.size) = some 2 := by kernel_rfl
  rcases e : Try.prog.info? 56 with _ | j
  · rw [e] at h; cases h
  · rw [e] at h
    simp at h
    exact ⟨j, rfl, by omega⟩
theorem run_neq_ptr_same {P : Program} {tp te : TypeId} {j : TypeInfo} (w : World) (a : Addr) (hp : P.underlying tp = some (.pointer te)) (hte : P.info? te = some j) : (binOp .neq tp (.pointer (some a)) (.pointer (some a))).run P w = .ok (.bool false) w := by
  have h : ∀ d : Nat, (Op.equalIn (d + 1) tp (.pointer (some a)) (.pointer (some a))).run P w = .ok true w := fun d => by
    simp [Op.equalIn, run_underlying hp, sizeOf, typeInfo, hte, run_sameAddr_same]
  simp only [binOp]
  simp [Op.equal, Op.maxDepth, h 9999]
theorem run_neq_ptr_other {P : Program} {tp te : TypeId} {j : TypeInfo} (w : World) {a b : Addr} {ca cb : Array Value} {ta tb : TypeId} (hp : P.underlying tp = some (.pointer te)) (hte : P.info? te = some j) (hsz : j.size ≠ 0)
    (hne : a ≠ b) (ha : w.heap[a.block]? = some (.cells ca ta (0, 0))) (hb : w.heap[b.block]? = some (.cells cb tb (0, 0))) : (binOp .neq tp (.pointer (some a)) (.pointer (some b))).run P w = .ok (.bool true) w := by
  have h : ∀ d : Nat, (Op.equalIn (d + 1) tp (.pointer (some a)) (.pointer (some b))).run P w = .ok false w := fun d => by
    simp [Op.equalIn, run_underlying hp, sizeOf, typeInfo, hte, hsz, run_sameAddr_other w hne ha hb]
  simp only [binOp]
  simp [Op.equal, Op.maxDepth, h 9999]
theorem same_ptr (g : Nat) (w : World) : (binOp .eql 23 (.pointer (some ⟨g, 0, none⟩)) (.pointer (some ⟨g, 0, none⟩))).run Try.prog w = .ok (.bool true) w ∧ (binOp .neq 23 (.pointer (some ⟨g, 0, none⟩)) (.pointer (some ⟨g, 0, none⟩))).run Try.prog w = .ok (.bool false) w := by
  obtain ⟨j, h1, _⟩ := info_mem
  exact ⟨run_eql_ptr_same (P := Try.prog) w ⟨g, 0, none⟩ Try.underlying23 h1, run_neq_ptr_same (P := Try.prog) w ⟨g, 0, none⟩ Try.underlying23 h1⟩
theorem other_ptr {w : World} {B B' g g' : Nat} {F F' : Nat → Prop} {ls ls' : List (List Int)} (h : MA w B g F ls) (h' : MA w B' g' F' ls') (hne : g ≠ g') : (binOp .eql 23 (.pointer (some ⟨g, 0, none⟩)) (.pointer (some ⟨g', 0, none⟩))).run Try.prog w = .ok (.bool false) w ∧ (binOp .neq 23 (.pointer (some ⟨g, 0, none⟩)) (.pointer (some ⟨g', 0, none⟩))).run Try.prog w = .ok (.bool true) w := by
  obtain ⟨j, h1, h2⟩ := info_mem
  obtain ⟨A, n, c, bs, hM, rfl⟩ := h
  obtain ⟨A', n', c', bs', hM', rfl⟩ := h'
  exact ⟨run_eql_ptr_other (P := Try.prog) w (a := ⟨g, 0, none⟩) (b := ⟨g', 0, none⟩) Try.underlying23 h1 h2 (fun e => hne (by cases e; rfl)) hM.blk hM'.blk, run_neq_ptr_other (P := Try.prog) w (a := ⟨g, 0, none⟩) (b := ⟨g', 0, none⟩) Try.underlying23 h1 h2 (fun e => hne (by cases e; rfl)) hM.blk hM'.blk⟩
theorem row_all {w : World} {B g : Nat} {F : Nat → Prop} {ls : List (List Int)} (h : RA w B g F ls) : ∃ A c, Blk w g 42 #[.slice A ls.length c] := by
  obtain ⟨A, n, c, bs, hM, rfl⟩ := h
  have := hM.core.n_eq
  subst this
  exact ⟨A, c, hM.blk⟩
set_option maxRecDepth 20000 in
set_option maxHeartbeats 4000000 in
theorem law_script (A : Option Addr) (n c : Nat) (l : List CI) (W : World) (hl : l.length = n) (hn : n ≤ 35184372087808) (hC : CallsR W W.heap.size A l) :
    Calls Try.prog 5 #[.slice A n c] W fun e w' => e = .returned (.bool true) ∧ Below W.heap.size W w' := by
  have Hl := Lib.hid hl
  clear hl
  go_enter Try.func5, Try.ntmps5
  go_wp2_with fail
  refine (mnew_any W).mono ?_
  rintro e w1 ⟨gm0, rfl, hm1, hb1⟩
  have hM1 : MA w1 W.heap.size gm0 (foot gm0 none []) [] := ⟨none, 0, 0, [], hm1, rfl⟩
  have hx1 := (Below.refl w1.heap.size w1).alloc (Nat.le_refl _) (.cells #[.slice none 0 0] 42)
  have hM2 := hM1.below hx1
  have hb1s := hb1.size
  have hR2 : RA (w1.alloc (.cells #[.slice none 0 0] 42)) W.heap.size w1.heap.size (foot w1.heap.size none []) [] := ⟨none, 0, 0, [], ⟨Blk.new w1 _ _, Core.empty _ _ (by simp) hb1s⟩, rfl⟩
  have hap : Apart (foot gm0 none []) (foot w1.heap.size none []) := fun k h1 h2 => by
    have := (hM1.lt h1).2
    rcases h2 with rfl | ⟨a, ha, _⟩ | ⟨b, hb, _⟩
    · omega
    · cases ha
    · cases hb
  have hb2 := hb1.alloc hb1s (.cells #[.slice none 0 0] 42)
  go_wp2_with fail
  clear hm1 hM1 hx1 hb1
  generalize w1.alloc (.cells #[.slice none 0 0] 42) = w2 at *
  generalize hgw0 : w1.heap.size = gw0 at *
  go_loopw [3, 5, 6, 16] (ScrI W n gw0) (fun _ _ _ i _ => n - (intOf i).toNat)
  case atStart => exact ScrI.mk ⟨0, gm0, gm0, gw0, _, _, _, by omega, rfl, rfl, rfl, rfl, hM2, hR2, hap, hb2, .inl rfl⟩
  case round =>
    obtain ⟨k, gm, go, gs, Fm, Fw, ls, hk, rfl, rfl, rfl, rfl, hM, hR, hap, hb, hold⟩ := hrel.ex
    clear hM2 hR2 hb2 hb1s hrel
    by_cases hlt : k < n
    · have hltI : decide ((k : Int) < (n : Int)) = true := by simp; omega
      have hCr := hC.below hb
      obtain ⟨ab, off, rfl, hab, d0, d1, d2, d3, d4⟩ := hCr.at_ (k := k) (by rw [Hl.out]; exact hlt)
      have hmem := ci_mem (l := l) (k := k) (by rw [Hl.out]; exact hlt)
      have hws := hCr.ws _ hmem
      have hlen := hC.len _ hmem
      obtain ⟨i0, i1, i2, i3⟩ := hC.num _ hmem
      have hul := hC.u32 _ hmem
      clear hCr hmem
      generalize ci l k = q at *
      obtain ⟨⟨what, room, at_, N⟩, x, pA, cA⟩ := q
      dsimp only at d0 d1 d2 d3 d4 hws hlen i0 i1 i2 i3 hul
      have hbx := (Below.refl wr.heap.size wr).alloc (Nat.le_refl _) (.cells #[.int .i64 what, .int .i64 room, .int .i64 at_, .int .i64 N, .slice pA x.length cA] 44)
      have kc := Blk.new wr 44 #[.int .i64 what, .int .i64 room, .int .i64 at_, .int .i64 N, .slice pA x.length cA]
      obtain ⟨e0, e1, e2, e3, e4⟩ : _ ∧ _ ∧ _ ∧ _ ∧ _ := ⟨kc.cell 0, kc.cell 1, kc.cell 2, kc.cell 3, kc.cell 4⟩
      simp at e0 e1 e2 e3 e4
      have hMx := hM.below hbx
      have hRx := hR.below hbx
      have hbX := below_cut hb hbx (Nat.le_refl _)
      have holdx : go = gm ∨ (go ≠ gm ∧ Old _ W.heap.size go gs Fm Fw) := hold.imp id (fun h => ⟨h.1, h.2.below hbx⟩)
      have hwsx := hws.below ((hbx.mono hb.size))
      have hbs := hb.size
      have hbsX := hbX.size
      clear hM hR hb hold hbx kc hws
      by_cases hin : 0 ≤ what ∧ what ≤ 3
      · have c0 : decide (0 ≤ what) = true := decide_eq_true hin.1
        have c1 : decide (what ≤ 3) = true := decide_eq_true hin.2
        have hst := step_any hMx hRx hap what room at_ N pA x.length cA x hin i1 i2 i3 hlen hul hwsx
        go_wp2_with fail
        clear d0 d1 d2 d3 d4
        generalize wr.alloc (.cells #[.int .i64 what, .int .i64 room, .int .i64 at_, .int .i64 N, .slice pA x.length cA] 44) = wx at *
        refine hst.mono ?_
        rintro e w3 ⟨rfl, ls3, Fm3, Fw3, hM3, hR3, ho3, hgm3, hgw3, hap3⟩
        have hold3 : go = gm ∨ (go ≠ gm ∧ Old w3 W.heap.size go gs Fm3 Fw3) := holdx.imp id (fun h => ⟨h.1, h.2.step ho3 hgm3 hgw3⟩)
        have hb3 : Below W.heap.size W w3 := hbX.trans (ho3.to_below W.heap.size hbsX (fun q _ hq => hq.elim (fun h => (hMx.lt h).1) (fun h => (hRx.lt h).1)))
        clear hst hMx hRx hbX holdx ho3 hgm3 hgw3
        go_wp2_with fail
        refine (same_any hM3 hR3).mono ?_
        rintro e w4 ⟨rfl, hb4⟩
        have hM4 := hM3.below hb4
        have hR4 := hR3.below hb4
        have hB4 := below_cut hb3 hb4 (Nat.le_refl _)
        rcases hold3 with rfl | ⟨hne, hold⟩
        · obtain ⟨t0, t1⟩ : _ ∧ _ := And.intro (fun w' => (same_ptr go w').1) (fun w' => (same_ptr go w').2)
          go_wp2_with fail
          refine hR4.copy.mono ?_
          rintro e w5 ⟨gs5, Fs5, rfl, hS5, hb5⟩
          go_wp2_with fail
          go_roundw
          case rel => exact ScrI.mk ⟨k + 1, _, _, _, _, _, _, by omega, by go_num, rfl, rfl, rfl, hM4.below hb5, hR4.below hb5, hap3, below_cut hB4 hb5 (Nat.le_refl _), .inl rfl⟩
          case measure => simp [intOf]; omega
        · have hold4 := hold.below hb4
          obtain ⟨Fo, Fs, lo, hO4, hS4, hapo⟩ := hold4.ex
          obtain ⟨t0, t1⟩ := other_ptr hO4 hM4 hne
          go_wp2_with fail
          refine (same_any hO4 hS4).mono ?_
          rintro e w5 ⟨rfl, hb5⟩
          obtain ⟨t2, t3⟩ := other_ptr (hO4.below hb5) (hM4.below hb5) hne
          go_wp2_with fail
          go_roundw
          case rel => exact ScrI.mk ⟨k + 1, _, _, _, _, _, _, by omega, by go_num, rfl, rfl, rfl, hM4.below hb5, hR4.below hb5, hap3, below_cut hB4 hb5 (Nat.le_refl _), .inr ⟨hne, hold4.below hb5⟩⟩
          case measure => simp [intOf]; omega
      · have hcc : decide (0 ≤ what) = false ∨ (decide (0 ≤ what) = true ∧ decide (what ≤ 3) = false) := by
          simp only [decide_eq_true_eq, decide_eq_false_iff_not]; omega
        by_cases h4 : what = 4
        · subst h4
          clear hcc
          go_wp2_with fail
          clear d0 d1 d2 d3 d4
          generalize wr.alloc (.cells #[.int .i64 4, .int .i64 room, .int .i64 at_, .int .i64 N, .slice pA x.length cA] 44) = wx at *
          refine hRx.copy.mono ?_
          rintro e w6 ⟨gs6, Fs6, rfl, hS6, hb6⟩
          have hM6 := hMx.below hb6
          have hR6 := hRx.below hb6
          have hs6 := hb6.size
          go_wp2_with fail
          refine hM6.copy.mono ?_
          rintro e w3 ⟨gm3, Fm3, rfl, hM3', hb7⟩
          have hs7 := hb7.size
          have hM3 := hM3'.base_le (base' := W.heap.size) (by omega)
          have hR3 := hR6.below hb7
          have hb3 : Below W.heap.size W w3 := below_cut (below_cut hbX hb6 (Nat.le_refl _)) hb7 (Nat.le_refl _)
          have hap3 : Apart Fm3 Fw := fun q h1 h2 => by have := (hM3'.lt h1).1; have := (hR6.lt h2).2; omega
          have hold3 : gm = gm3 ∨ (gm ≠ gm3 ∧ Old w3 W.heap.size gm gs6 Fm3 Fw) := .inr ⟨fun e => by have := (hM6.lt hM6.pt).2; have := (hM3'.lt hM3'.pt).1; omega,
            ⟨Fm, Fs6, ls, hM6.below hb7, (hS6.base_le (by omega)).below hb7, fun q h1 h2 => by have := (hM3'.lt h1).1; have := (hM6.lt h2).2; omega, fun q h1 h2 => by have := (hM3'.lt h1).1; have := (hS6.lt h2).2; omega, hap.symm, fun q h1 h2 => by have := (hRx.lt h1).2; have := (hS6.lt h2).1; omega⟩⟩
          clear hM3' hS6 hM6 hR6 hMx hRx holdx hbX
          go_wp2_with fail
          refine (same_any hM3 hR3).mono ?_
          rintro e w4 ⟨rfl, hb4⟩
          have hM4 := hM3.below hb4
          have hR4 := hR3.below hb4
          have hB4 := below_cut hb3 hb4 (Nat.le_refl _)
          rcases hold3 with rfl | ⟨hne, hold⟩
          · obtain ⟨t0, t1⟩ : _ ∧ _ := And.intro (fun w' => (same_ptr gm w').1) (fun w' => (same_ptr gm w').2)
            go_wp2_with fail
            refine hR4.copy.mono ?_
            rintro e w5 ⟨gs5, Fs5, rfl, hS5, hb5⟩
            go_wp2_with fail
            go_roundw
            case rel => exact ScrI.mk ⟨k + 1, _, _, _, _, _, _, by omega, by go_num, rfl, rfl, rfl, hM4.below hb5, hR4.below hb5, hap3, below_cut hB4 hb5 (Nat.le_refl _), .inl rfl⟩
            case measure => simp [intOf]; omega
          · have hold4 := hold.below hb4
            obtain ⟨Fo, Fs, lo, hO4, hS4, hapo⟩ := hold4.ex
            obtain ⟨t0, t1⟩ := other_ptr hO4 hM4 hne
            go_wp2_with fail
            refine (same_any hO4 hS4).mono ?_
            rintro e w5 ⟨rfl, hb5⟩
            obtain ⟨t2, t3⟩ := other_ptr (hO4.below hb5) (hM4.below hb5) hne
            go_wp2_with fail
            go_roundw
            case rel => exact ScrI.mk ⟨k + 1, _, _, _, _, _, _, by omega, by go_num, rfl, rfl, rfl, hM4.below hb5, hR4.below hb5, hap3, below_cut hB4 hb5 (Nat.le_refl _), .inr ⟨hne, hold4.below hb5⟩⟩
            case measure => simp [intOf]; omega
        · have c4 : (what == 4) = false := by rw [beq_eq_false_iff_ne]; exact h4
          obtain ⟨Aw, cw, hkw⟩ := row_all hRx
          have m0 := hkw.cell 0
          simp at m0
          have hMd := hMx.below (Below.refl _ _).drew
          rcases hcc with c0 | ⟨c0, c1⟩ <;>
          · go_wp2_with fail
            clear d0 d1 d2 d3 d4
            generalize wr.alloc (.cells #[.int .i64 what, .int .i64 room, .int .i64 at_, .int .i64 N, .slice pA x.length cA] 44) = wx at *
            go_region_law (first
              | (go_simp; go_at_call 19; refine (spoil_mem hM6).mono ?_; rintro e w3 ⟨rfl, ho7⟩)
              | (go_simp; go_at_call 18; refine hMd.copy.mono ?_; rintro e w6 ⟨g6, F6, rfl, hM6, hb6⟩; have m1 := ((hkw.drew).below hb6 hkw.lt).cell 0; simp at m1))
            all_goals
              have ho3 : Below wx.heap.size wx w3 := ((Below.refl wx.heap.size wx).drew.trans hb6).trans (ho7.to_below wx.heap.size (by have := hb6.size; exact this) (fun q _ hq => (hM6.lt hq).1))
              have hM3 := hMx.below ho3
              have hR3 := hRx.below ho3
              have hb3 : Below W.heap.size W w3 := below_cut hbX ho3 (Nat.le_refl _)
              have hap3 := hap
              have hold3 : go = gm ∨ (go ≠ gm ∧ Old w3 W.heap.size go gs Fm Fw) := holdx.imp id (fun h => ⟨h.1, h.2.below ho3⟩)
              clear hM6 hMd hMx hRx holdx hbX m0 hkw
              go_wp2_with fail
              refine (same_any hM3 hR3).mono ?_
              rintro e w4 ⟨rfl, hb4⟩
              have hM4 := hM3.below hb4
              have hR4 := hR3.below hb4
              have hB4 := below_cut hb3 hb4 (Nat.le_refl _)
              rcases hold3 with rfl | ⟨hne, hold⟩
              · obtain ⟨t0, t1⟩ : _ ∧ _ := And.intro (fun w' => (same_ptr go w').1) (fun w' => (same_ptr go w').2)
                go_wp2_with fail
                refine hR4.copy.mono ?_
                rintro e w5 ⟨gs5, Fs5, rfl, hS5, hb5⟩
                go_wp2_with fail
                go_roundw
                case rel => exact ScrI.mk ⟨k + 1, _, _, _, _, _, _, by omega, by go_num, rfl, rfl, rfl, hM4.below hb5, hR4.below hb5, hap3, below_cut hB4 hb5 (Nat.le_refl _), .inl rfl⟩
                case measure => simp [intOf]; omega
              · have hold4 := hold.below hb4
                obtain ⟨Fo, Fs, lo, hO4, hS4, hapo⟩ := hold4.ex
                obtain ⟨t0, t1⟩ := other_ptr hO4 hM4 hne
                go_wp2_with fail
                refine (same_any hO4 hS4).mono ?_
                rintro e w5 ⟨rfl, hb5⟩
                obtain ⟨t2, t3⟩ := other_ptr (hO4.below hb5) (hM4.below hb5) hne
                go_wp2_with fail
                go_roundw
                case rel => exact ScrI.mk ⟨k + 1, _, _, _, _, _, _, by omega, by go_num, rfl, rfl, rfl, hM4.below hb5, hR4.below hb5, hap3, below_cut hB4 hb5 (Nat.le_refl _), .inr ⟨hne, hold4.below hb5⟩⟩
                case measure => simp [intOf]; omega
    · obtain rfl : k = n := by omega
      have hltI : decide ((k : Int) < (k : Int)) = false := by simp
      go_wp2_with fail
      refine (awake_ok _).mono ?_
      rintro e w6 ⟨rfl, hb6⟩
      go_wp2
      go_ret
      exact ⟨rfl, below_cut hb hb6 (Nat.le_refl _)⟩
end Go.Proofs.Ytfkeogaagolnoaa
