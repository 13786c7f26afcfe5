/- The walk of CanvasDrawn: whatever the sheet, the dots and wherever it is left, it answers true, and nothing that was there has turned. -/
import Derived.Test.YtfciaefjilobaaaDrawni
import Derived.Test.YtfciaefjilobaaaPlots
import Derived.Test.YtfciaefjilobaaaCnil
namespace Go.Proofs.Ytfciaefjilobaaa
open Go.RowKit Go.Shelf
attribute [local go_sem] Oper.semAt_some

def natInts (l : List Nat) : List Int := l.map (fun k : Nat => (k : Int))
theorem natInts_length (l : List Nat) : (natInts l).length = l.length := by simp [natInts]
theorem natInts_snoc (l : List Nat) (k : Nat) : natInts (l ++ [k]) = natInts l ++ [(k : Int)] := by simp [natInts]
theorem natInts_ix {l : List Nat} {j k : Nat} (h : l[j]? = some k) : ix (natInts l) j = (k : Int) := by simp [ix, natInts, List.getD, List.getElem?_map, h]
theorem infoInt : (Try.prog.info? 3).map (fun i => (i.zero, i.size, i.bytes)) = some (some (.int .i64 0), 1, 8) := by kernel_rfl

/-- a loop in a block, cut off from what comes behind it -/
theorem block_cut {F : Fence} {n : Nat} {P : Program} {c : Code} {id : Nat} {K : Act → World → Prop} {Q : Exit → Act → World → Prop} {a : Act} {w : World} (X : Act → Act → World → Prop) (h : ∀ K1 : Act → World → Prop, Hid (∀ a' w', X a a' w' → K1 a' w') → c.wpIn F n P (Exit.inBlock id (Exit.then K1 (fun _ _ _ => False))) a w) (k : ∀ a' w', X a a' w' → K a' w') : c.wpIn F n P (Exit.inBlock id (Exit.then K Q)) a w :=
  wpIn_mono (h (fun a' w' => X a a' w') (Lib.hid fun _ _ hx => hx)) fun e a' w' hx => by
    cases e with
    | normal => exact k _ _ hx
    | exit id' =>
      simp only [Exit.inBlock] at hx ⊢
      split at hx
      · rename_i h1
        rw [if_pos h1]
        exact k _ _ hx
      · exact hx.elim
    | _ => exact hx.elim
theorem results_c1 {fn : Func} {p : Tmp} {ty : TypeId} (h : fn.results = #[.cell p ty]) (tmps : Array Value) (P : Program) (w : World) :
    (results fn tmps).run P w = ((asAddr (tmps.getD p undef)).run P w).andThen fun ad w₁ => (loadVar ty ad).run P w₁ := by
  simp only [results, h]
  simp [Sem.run_bind, Result.andThen]
theorem cell_putObj {w : World} {p : Addr} {v : Value} {D : Nat} {o : Obj} (h : w.cell? p = some v) (hne : p.block ≠ D) : (w.putObj D o).cell? p = some v := (World.cell?_of_block (World.putObj_heap_other hne)).trans h
theorem keepsFrom_off {S : Nat → Prop} {B : Nat} {V V' : World} (h : Off S V V') (hS : ∀ k, S k → k < B) : KeepsFrom B V V' :=
  ⟨h.size, fun k _ hB hk _ => (h.block k (Array.getElem?_eq_some_iff.1 hk).1 (fun hs => by have := hS k hs; omega)).trans hk⟩
/-- what lies in CanvasDrawn's variables between two rounds -/
structure CInv (w6 : World) (S : Nat → Prop) (bn base g gp N W H : Nat) (back : Int) (k : Nat) (V : World) : Prop where
  off : Off S w6 V
  nn : Blk V bn 3 #[.int .i64 k]
  can : ∃ ps, CanS V base g gp N N W H back ps
theorem CInv.keep {w6 : World} {S : Nat → Prop} {bn base g gp N W H k : Nat} {back : Int} {V V' : World} {row : Option Nat} (i : CInv w6 S bn base g gp N W H back k V) (hbn : bn < w6.heap.size) (h1 : g < w6.heap.size) (h2 : gp < w6.heap.size) (hg : V.grownBy V' row) (hr : ∀ r, row = some r → w6.heap.size ≤ r) : CInv w6 S bn base g gp N W H back k V' := by
  obtain ⟨a, b, ps, d⟩ := i
  have ho : Off (fun r => w6.heap.size ≤ r) V V' := Off.of_grown hg hr
  exact ⟨((a.mono (S' := fun r => S r ∨ w6.heap.size ≤ r) (fun _ _ h => .inl h)).trans (ho.mono (fun _ _ h => .inr h))).mono (fun r hr h => by rcases h with h | h; exact h; omega), b.off ho (by omega), ps, d.off ho (by omega) (by omega)⟩

set_option maxRecDepth 100000 in
set_option maxHeartbeats 2000000 in
theorem cdrawn_in (W H : Nat) (back : Int) (A : Option Addr) (m c : Nat) (l : List Dot) (stop : Int) (w : World) (hW : 1 ≤ W ∧ W ≤ 1024) (hH : 1 ≤ H ∧ H ≤ 1024) (hb : 0 ≤ back ∧ back < 4294967296)
    (hm : m ≤ 9223372036854775807) (hl : okDots l) (hr : Reads w w.heap.size 4 A m (Dots l)) :
    CallsIn Fence.wide 9 Try.prog 4 #[.agg #[.int .i64 W, .int .i64 H, .int .u32 back], .slice A m c, .int .i64 stop] w fun e w' => e = .returned (.bool true) ∧ Below w.heap.size w w' := by
  have hdr := fun w' hr => drawn_ok W H back hW hH hb A m c l w' hm hl hr
  have k0 := ((Blk.new w 24 #[.int .i64 W, .int .i64 H, .int .u32 back]).alloc (.cells #[.int .i64 stop] 3)).alloc (.cells #[.bool false] 4)
  have k1 := (Blk.new (w.alloc (.cells #[.int .i64 W, .int .i64 H, .int .u32 back] 24)) 3 #[.int .i64 stop]).alloc (.cells #[.bool false] 4)
  have k2 := Blk.new ((w.alloc (.cells #[.int .i64 W, .int .i64 H, .int .u32 back] 24)).alloc (.cells #[.int .i64 stop] 3)) 4 #[.bool false]
  simp only [World.size_alloc] at k1 k2
  have hb1 := (((Below.refl w.heap.size w).alloc (Nat.le_refl _) (.cells #[.int .i64 W, .int .i64 H, .int .u32 back] 24)).alloc (by simp) (.cells #[.int .i64 stop] 3)).alloc (by simp; omega) (.cells #[.bool false] 4)
  have hsz1 : (((w.alloc (.cells #[.int .i64 W, .int .i64 H, .int .u32 back] 24)).alloc (.cells #[.int .i64 stop] 3)).alloc (.cells #[.bool false] 4)).heap.size = w.heap.size + 1 + 1 + 1 := by simp
  obtain ⟨q0, q1, q2⟩ := k0.read3
  refine callsIn_of_wp_marks Try.func4 rfl trivial ?_ rfl
  simp only [Try.ntmps4, List.size_toArray, List.length_cons, List.length_nil, Nat.reduceAdd, Nat.reduceSub, Array.replicate_succ, Array.replicate_zero, List.push_toArray, List.append_toArray, List.nil_append, List.cons_append]
  gi_wp2_with fail
  generalize ((w.alloc (.cells #[.int .i64 W, .int .i64 H, .int .u32 back] 24)).alloc (.cells #[.int .i64 stop] 3)).alloc (.cells #[.bool false] 4) = w1 at *
  refine ⟨trivial, (callsIn_wide.2 (hdr w1 ((hr.below hb1).more hb1.size))).mono ?_⟩
  rintro e w2 ⟨g, gp, gq, rfl, hC, hR, hb2⟩
  have hgp := hC.lt2
  have hgq := hR.lt
  have hlow := hC.low
  have hlt := hC.lt
  unfold refV
  generalize W * H = N at *
  generalize runD W H (List.replicate N noPix) l = ps at *
  have hB2 := below_cut hb1 hb2 (Nat.le_refl _)
  have k12 := k1.below hb2 k1.lt
  have k22 := k2.below hb2 k2.lt
  clear hdr q0 q1 q2 k0 k1 k2 hr
  have hB5 := ((hB2.alloc hB2.size (.cells #[.pointer none] 28)).alloc (by simp; have := hB2.size; omega) (.cells #[.int .i64 0, .int .i64 0, .int .u32 0, .slice none 0 0] 31))
  have hle := hC.sz.le
  have kc := (Blk.new w2 28 #[.pointer (some ⟨g, 0, none⟩)]).alloc (.cells #[.int .i64 W, .int .i64 H, .int .u32 back, .slice (some ⟨gq, 0, none⟩) N N] 31)
  have kd := Blk.new (w2.alloc (.cells #[.pointer (some ⟨g, 0, none⟩)] 28)) 31 #[.int .i64 W, .int .i64 H, .int .u32 back, .slice (some ⟨gq, 0, none⟩) N N]
  have hb24 := ((Below.refl w2.heap.size w2).alloc (Nat.le_refl _) (.cells #[.pointer (some ⟨g, 0, none⟩)] 28)).alloc (by simp) (.cells #[.int .i64 W, .int .i64 H, .int .u32 back, .slice (some ⟨gq, 0, none⟩) N N] 31)
  have hsz4 : ((w2.alloc (.cells #[.pointer (some ⟨g, 0, none⟩)] 28)).alloc (.cells #[.int .i64 W, .int .i64 H, .int .u32 back, .slice (some ⟨gq, 0, none⟩) N N] 31)).heap.size = w2.heap.size + 1 + 1 := by simp
  simp only [World.size_alloc] at kd
  gi_wp2_with fail
  clear hB5
  generalize (w2.alloc (.cells #[.pointer (some ⟨g, 0, none⟩)] 28)).alloc (.cells #[.int .i64 W, .int .i64 H, .int .u32 back, .slice (some ⟨gq, 0, none⟩) N N] 31) = w4 at *
  have hB4 := below_cut hB2 hb24 (Nat.le_refl _)
  have hC4 := hC.below hb24
  have hR4 := hR.below hb24
  have k14 := k12.below hb24 k12.lt
  have k24 := k22.below hb24 k22.lt
  have hs2 := hb2.size
  clear hC hR k12 k22 hB2 hb24 hb2
  generalize w2.heap.size = M at *
  have hv0 : Boxed (w4.alloc (.cells #[.slice none 0 0] 37)) (M + 1 + 1) 37 (.slice none 0 0) := by rw [← hsz4]; exact Boxed.new w4 37 (.slice none 0 0)
  have hb5 := (Below.refl w4.heap.size w4).alloc (Nat.le_refl _) (.cells #[.slice none 0 0] 37)
  have hsz5 : (w4.alloc (.cells #[.slice none 0 0] 37)).heap.size = M + 3 := by simp; omega
  generalize w4.alloc (.cells #[.slice none 0 0] 37) = w5 at *
  obtain ⟨i0, hi, hz0, hz1, hz2⟩ := info_parts infoInt
  gi_loopw [11] (fun i wr => ∃ (k : Nat) (v : Value), k ≤ N ∧ i = .int .i64 k ∧ Below w4.heap.size w4 wr ∧ M + 3 ≤ wr.heap.size ∧ Boxed wr (M + 1 + 1) 37 v ∧ wr.ownsRow (M + 3) 3 1 v (drs ps k).length (Ints .i64 (natInts (drs ps k)))) (fun i _ => N - (intOf i).toNat)
  case atStart => exact ⟨0, _, by omega, rfl, hb5, by omega, hv0, World.ownsRow_nil _ _ _ _⟩
  case round =>
    obtain ⟨k, v, hk, rfl, hBr, hszr, hv, hrow⟩ := hrel
    have kdr := kd.below hBr (by omega)
    obtain ⟨d0, d1, d2, d3⟩ := kdr.read4
    by_cases hlt2 : k < N
    · obtain ⟨c0, c1, c2⟩ := own_px_at (hR4.below hBr).row hlt2
      rcases hd : (px ps k).1 with _ | _
      · rw [hd] at c0
        have hnext := drs_no hd
        gi_wp2_with fail
        go_roundw
        case rel => exact ⟨k + 1, v, by omega, by go_num, hBr, hszr, hv, by rw [hnext]; exact hrow⟩
        case measure => simp [intOf]; omega
      · rw [hd] at c0
        have hnext := drs_yes hd
        have hcell := hv.cell
        obtain ⟨Av, cv, rfl⟩ := own_shape hrow
        have hvA := hv.alloc (.cells #[.int .i64 k] 3)
        have hrA := hrow.alloc (.cells #[.int .i64 k] 3)
        have hn1 := hvA.not_row (by decide) hrA
        have hlits := lit_cells wr #[.int .i64 k] 3 1 rfl (by omega)
        have hlen := drs_len_le ps k
        gi_wp2_with (gi_at_builtin; refine wpListIn_append_own _ rfl _ _ 37 rfl (M + 3) 3 i0 (.int .i64 0) 1 8 Try.underlying37 hi hz0 hz1 hz2 rfl (by decide) _ (drs ps k).length (Ints .i64 (natInts (drs ps k))) rfl (hrow.alloc _) ⟨wr.heap.size, 0, none⟩ 1 1 [.int .i64 k] rfl rfl hlits (by simp [Value.oneCell']) (by unfold maxLen; omega) (by omega) (by simp; omega) ?_; intro v' w3 hown' hgrow _; obtain ⟨g', cap', rfl, hgg⟩ := hown'.form (by omega); have hv3 := hvA.kept hgrow hn1; have hc3 := hv3.cell; have hf3 := hv3.frozen)
        have hgr2 : wr.heap.size ≤ w3.heap.size := by have := hgrow.size; simp at this; omega
        have hnr : ∀ r, (Value.slice Av (drs ps k).length cv).ownBlock = some r → M + 3 ≤ r := fun r e => (hrow.lt r e).1
        have hbn := ((hBr.alloc hBr.size (.cells #[.int .i64 k] 3)).grown hgrow (by simp; have := hBr.size; omega) (fun r e => by have := hnr r e; omega)).setCell (p := ⟨M + 1 + 1, 0, none⟩) (show w4.heap.size ≤ M + 1 + 1 by omega) (.slice (some ⟨g', 0, none⟩) ((drs ps k).length + 1) cap')
        go_roundw
        case rel =>
          refine ⟨k + 1, _, by omega, by go_num, hbn, by simp [World.setCell]; omega, hv3.set _, ?_⟩
          have n3 := hv3.not_row (by decide) hown'
          have h1 := hown'.kept (grownBy_setCell' w3 (M + 1 + 1) (.slice (some ⟨g', 0, none⟩) ((drs ps k).length + 1) cap')) (.inr (fun e => n3 e.symm))
          rw [hnext, natInts_snoc, Ints_append, List.length_append]
          exact h1
        case measure => simp [intOf]; omega
    · have hkN : k = N := by omega
      rw [hkN] at hrow
      have hlt3 : decide ((k : Int) < (N : Int)) = false := by simp; omega
      have kcr := kc.below hBr (by omega)
      have qc := fun o => (kcr.alloc o).cell 0
      simp at qc
      have kn := (Boxed.new wr 3 (.int .i64 0)).alloc (.cells #[.pointer (some ⟨g, 0, none⟩)] 28)
      have kb := (Boxed.new (wr.alloc (.cells #[.int .i64 0] 3)) 28 (.pointer (some ⟨g, 0, none⟩))).cell
      rw [World.size_alloc] at kb
      have hbr6 := ((Below.refl wr.heap.size wr).alloc (Nat.le_refl _) (.cells #[.int .i64 0] 3)).alloc (by simp) (.cells #[.pointer (some ⟨g, 0, none⟩)] 28)
      have hsz6 : ((wr.alloc (.cells #[.int .i64 0] 3)).alloc (.cells #[.pointer (some ⟨g, 0, none⟩)] 28)).heap.size = wr.heap.size + 2 := by simp
      have hfn := func_not_nil
      have hC6 := (hC4.below hBr).below hbr6
      gi_wp2_with fail
      refine ⟨trivial, (callsIn_wide.2 (drawnf_any (some ⟨g, 0, none⟩) _)).mono ?_⟩
      rintro e w6 ⟨rfl, rfl⟩
      gi_wp2_with fail
      generalize (wr.alloc (.cells #[.int .i64 0] 3)).alloc (.cells #[.pointer (some ⟨g, 0, none⟩)] 28) = w6 at *
      clear qc
      have hv6 := (Blk.below hv hbr6 hv.lt)
      have hrow6 := own_below hrow hbr6
      have kd6 := kdr.below hbr6 kdr.lt
      have kc6 := kcr.below hbr6 kcr.lt
      have k16 := (k14.below hBr (by omega)).below hbr6 (by omega)
      have k26 := (k24.below hBr (by omega)).below hbr6 (by omega)
      have hB6 := below_cut (below_cut hB4 hBr (Nat.le_refl _)) hbr6 (Nat.le_refl _)
      generalize hact : Act.mk _ _ = a0
      refine block_cut (fun a a' V => ∃ D k, a' = { a with defers := { target := .collected D, args := #[] } :: a.defers } ∧ Off (fun r => r = gp ∨ r = wr.heap.size) w6 V ∧ Blk V wr.heap.size 3 #[.int .i64 k] ∧ ((k : Int) = ((drs ps N).length : Int) ∨ (k : Int) = stop) ∧ w6.heap.size ≤ D ∧ V.heap[D]? = some (.deferred (some []))) ?_ ?_
      · intro K1 hK1
        refine wpIn_range_gn rfl (by omega) (gf := 31) (lb := #[.pointer (some ⟨wr.heap.size + 1, 0, none⟩)]) (by rw [← hact]; rfl) trivial (enters_of Try.func31 (by kernel_rfl) rfl)
          (drawn1_stops _ (by omega) (wr.heap.size + 1) w1.heap.size g gp N N W H (fun r => r = gp ∨ r = wr.heap.size) back ps w6 (by omega) (by have := hC6.ne; omega) (fun r hr => by rcases hr with rfl | rfl <;> omega) (by omega) hC6 kb)
          (fun h k => h.trans k) (fun V o o' hl ho => KeepX.put V o o' hl ho) (fun _ => rfl)
          (fun pre V => CInv w6 (fun r => r = gp ∨ r = wr.heap.size) wr.heap.size w1.heap.size g gp N W H back pre.length V)
          (fun c pre V => c = .exit 2 ∧ CInv w6 (fun r => r = gp ∨ r = wr.heap.size) wr.heap.size w1.heap.size g gp N W H back pre.length V ∧ (pre.length : Int) = stop)
          (fun pre V V' row h hg hr => h.keep (by omega) (by omega) (by omega) hg (fun r e => (hr r e).1))
          (fun _ pre V V' row h hg hr => ⟨h.1, h.2.1.keep (by omega) (by omega) (by omega) hg (fun r e => (hr r e).1), h.2.2⟩)
          ⟨Off.refl _ _, kn, ps, hC6⟩
          (fun pre x a' V => NextXY ps N W pre x V ∧ a' = { tmps := (((a0.tmps.setIfInBounds 48 (.int .i64 x.1)).setIfInBounds 49 (.int .i64 x.2)).setIfInBounds 14 (.int .i64 x.1)).setIfInBounds 15 (.int .i64 x.2), defers := [] })
          ?hax ?assign ?body ?done ?stop
        case hax => exact fun pre x a' _ X Y row h _ _ => h
        case assign =>
          rintro lr pre x V K hsV hI hGx hK
          dsimp only [xyN]
          subst hact
          gi_wp2_with fail
          exact hK _ _ (KeepsFrom.refl _ _) (KeepX.refl _) hI ⟨hGx, by kernel_rfl⟩
        case body =>
          rintro lr pre x a' V hsV - hI ⟨hGx, rfl⟩
          subst hact
          clear hK1
          obtain ⟨xm, xd⟩ := x
          have hGx : (drs ps N)[pre.length]? = some (xd * W + xm) := hGx
          have hlp : pre.length < (drs ps N).length := (List.getElem?_eq_some_iff.1 hGx).1
          have hqN : xd * W + xm < N := drs_lt (List.mem_of_getElem? hGx)
          obtain ⟨hoff, knV, ps', hCV⟩ := hI
          obtain ⟨gr, cr, hv', hgr⟩ := hrow6.form (by omega)
          cases hv'
          have hcw := own_int_at hrow6 hlp
          rw [natInts_ix hGx] at hcw
          have hgrV : (gr = gp ∨ gr = wr.heap.size) → False := fun h => by
            have h1 := hrow.lt gr rfl
            omega
          have hcwV := (World.cell?_of_block (a := ⟨gr, pre.length, none⟩) (hoff.block gr hgr.2 hgrV)).trans hcw
          have hvV := (Blk.off hv6 hoff (by omega)).cell 0
          have kdV := kd6.off hoff (by omega)
          have kcV := kc6.off hoff (by omega)
          have k1V := k16.off hoff (by omega)
          obtain ⟨d0, d1, d2, d3⟩ := kdV.read4
          have c0 := kcV.cell 0
          have s0 := k1V.cell 0
          have n0 := knV.cell 0
          have nf := knV.frozen 0
          simp at hvV c0 s0 n0
          obtain ⟨p, hp⟩ : ∃ p, xd * W = p := ⟨_, rfl⟩
          obtain ⟨q, hq⟩ : ∃ q, p + xm = q := ⟨_, rfl⟩
          rw [hp, hq] at hcwV hqN
          have e1 : (xd : Int) * (W : Int) = (p : Int) := by rw [← hp]; simp
          have e2 : (p : Int) + (xm : Int) = (q : Int) := by rw [← hq]; simp
          have hdrl := drs_len_le ps N
          have hge : decide (((drs ps N).length : Int) ≤ (pre.length : Int)) = false := by simp; omega
          have hge2 : decide ((drs ps N).length ≤ pre.length) = false := by simp; omega
          have hne : ((q : Int) != (q : Int)) = false := by simp
          obtain ⟨kN, hkN'⟩ : ∃ kN, pre.length = kN := ⟨_, rfl⟩
          rw [hkN'] at n0 hge hge2 hcwV hlp
          have hP := plot_any hCV ((W : Int) - 1) ((H : Int) - 1) 0 7 (by unfold okPix; decide)
          have f1 : IntKind.i64.wrap ((W : Int) - 1) = (W : Int) - 1 := by simp [IntKind.wrap, IntKind.signed, IntKind.bits]; omega
          have f2 : IntKind.i64.wrap ((H : Int) - 1) = (H : Int) - 1 := by simp [IntKind.wrap, IntKind.signed, IntKind.bits]; omega
          gi_wp2_with fail
          refine wpIn_round_quiet _ _ (by kernel_rfl) (by kernel_rfl) (by kernel_rfl) ?_
          repeat (go_big_quiet_step (fail))
          refine wpQuiet_nil ?_
          rintro w' ⟨nq, rfl⟩
          have hCV2 := hCV.below (below_drewN (Below.refl V.heap.size V) nq)
          have hP2 := plot_any hCV2 ((W : Int) - 1) ((H : Int) - 1) 0 7 (by unfold okPix; decide)
          gi_wp2_with fail
          refine ⟨trivial, ((callsIn_wide.2 hP2).inRound lr).mono ?_⟩
          rintro e U ⟨rfl, hCU, hoU⟩
          have hoVU : Off (fun r => r = gp ∨ r = wr.heap.size) V U := (Off.of_below _ (below_drewN (Below.refl V.heap.size V) nq)).trans (hoU.mono (fun _ _ h => .inl h))
          have knU := (knV.drewN nq).off hoU (by omega)
          have k1U := (k1V.drewN nq).off hoU (by omega)
          have s0U := fun u => (k1U.far (p := ⟨wr.heap.size, 0, none⟩) (show w.heap.size + 1 ≠ wr.heap.size by omega) u).cell 0
          have n0U := knU.cell 0
          have nfU := knU.frozen 0
          have knZ := knU.set_ 0 (.int .i64 ((kN + 1 : Nat) : Int))
          have nZ := knZ.cell 0
          simp at s0U n0U nZ knZ
          rw [hkN'] at n0U
          have hoZ : Off (fun r => r = gp ∨ r = wr.heap.size) V (U.setCell ⟨wr.heap.size, 0, none⟩ (.int .i64 ((kN : Int) + 1))) := hoVU.set_ (.inl (.inr rfl)) _
          have hCZ : CanS (U.setCell ⟨wr.heap.size, 0, none⟩ (.int .i64 ((kN : Int) + 1))) w1.heap.size g gp N N W H back (plotR W H ps' ((W : Int) - 1) ((H : Int) - 1) 0 7) := hCU.off ((Off.refl (fun r => r = wr.heap.size) U).set_ (p := ⟨wr.heap.size, 0, none⟩) (.inl rfl) _) (by omega) (by omega)
          have hbig : kN + 1 ≤ 1048576 := by omega
          have hlen : (pre ++ [(xm, xd)]).length = kN + 1 := by rw [List.length_append, hkN']; rfl
          have hIZ : CInv w6 (fun r => r = gp ∨ r = wr.heap.size) wr.heap.size w1.heap.size g gp N W H back (pre ++ [(xm, xd)]).length (U.setCell ⟨wr.heap.size, 0, none⟩ (.int .i64 ((kN : Int) + 1))) := by
            rw [hlen]
            exact ⟨hoff.trans hoZ, knZ, _, hCZ⟩
          have hKZ : KeepsFrom w6.heap.size V (U.setCell ⟨wr.heap.size, 0, none⟩ (.int .i64 ((kN : Int) + 1))) := keepsFrom_off hoZ (fun r hr => by rcases hr with rfl | rfl <;> omega)
          have hXZ : KeepX (fun r => r = gp ∨ r = wr.heap.size) V (U.setCell ⟨wr.heap.size, 0, none⟩ (.int .i64 ((kN : Int) + 1))) := KeepX.off hoZ
          have Hlen := Lib.hid hlen
          clear hcwV hvV d0 d1 d2 d3 c0 s0 n0 nf hP hP2 hlen hoZ hCZ knZ
          by_cases hst : (kN : Int) + 1 = stop
          · subst hst
            gi_wp2_with fail
            exact ⟨hKZ, rfl, hIZ, by rw [Hlen.out]; simp⟩
          · have hst2 : ((kN : Int) + 1 == stop) = false := by simpa using hst
            gi_wp2_with fail
            exact ⟨hKZ, hXZ, hIZ⟩
        case done =>
          rintro D ys V hD hS hI hK
          exact hK1.out _ _ ⟨D, ys.length, rfl, hI.off, hI.nn, .inl (by rw [hS]), hD, hK⟩
        case stop =>
          rintro D c' pre V hD _ ⟨rfl, hI, hs⟩ hK
          gi_wp2_with fail
          exact hK1.out _ _ ⟨D, pre.length, rfl, hI.off, hI.nn, .inr hs, hD, hK⟩
      · rintro a' V ⟨D, kk, rfl, hoff, knV, hkk, hD, hdd⟩
        subst hact
        obtain ⟨Av, cv, rfl⟩ := own_shape hrow6
        have hvV := (Blk.off hv6 hoff (by omega)).cell 0
        have k1V := k16.off hoff (by omega)
        have k2V := k26.off hoff (by omega)
        have s0 := k1V.cell 0
        have r0 := k2V.cell 0
        have rf := k2V.frozen 0
        have n0 := knV.cell 0
        have r1 := (k2V.set_ 0 (.bool true)).cell 0
        simp at hvV s0 n0 r0 r1
        have hBV : Below w.heap.size w V := hB6.trans (hoff.to_below w.heap.size hB6.size (fun r _ hr => by rcases hr with rfl | rfl <;> omega))
        have hBZ := hBV.setCell (p := ⟨w.heap.size + 1 + 1, 0, none⟩) (show w.heap.size ≤ w.heap.size + 1 + 1 by omega) (.bool true)
        have hdZ : (V.setCell ⟨w.heap.size + 1 + 1, 0, none⟩ (.bool true)).heap[D]? = some (.deferred (some [])) := (Below.heap_setCell _ _ _ _ (show D ≠ w.heap.size + 1 + 1 by omega)).trans hdd
        have hs6 := hB6.size
        have hcase : kk = (drs ps N).length ∨ (((kk : Int) == ((drs ps N).length : Int)) = false ∧ (kk : Int) = stop) := by
          rcases hkk with h | h
          · left; omega
          · by_cases h2 : kk = (drs ps N).length
            · exact .inl h2
            · exact .inr ⟨by rw [beq_eq_false_iff_ne]; omega, h⟩
        clear hfn
        rcases hcase with rfl | ⟨hne, rfl⟩ <;>
        · gi_wp2_with fail
          generalize V.setCell ⟨w.heap.size + 1 + 1, 0, none⟩ (.bool true) = Z at *
          have m0 := cell_putObj (o := .deferred none) (D := D) r1 (show w.heap.size + 1 + 1 ≠ D by omega)
          have hbl := hBZ.trans (belowK_b (n₀ := w.heap.size) (w := w6) hs6 Z D _ (.deferred none) (by omega) hdZ rfl rfl)
          refine ⟨by simp, .inl ⟨_, _, rfl, run_takeDeferred hdZ, ?_⟩⟩
          refine ⟨.bool true, by rw [results_c1 rfl]; go_simp, ?_⟩
          exact ⟨rfl, hbl⟩

set_option maxHeartbeats 2000000 in
theorem cdrawn_bad (W H back : Int) (hW : -9223372036854775808 ≤ W ∧ W ≤ 9223372036854775807) (hH : -9223372036854775808 ≤ H ∧ H ≤ 9223372036854775807) (hbad : newE W H ≠ 0) (A : Option Addr) (n c : Nat) (stop : Int) (w : World) :
    CallsIn Fence.wide 9 Try.prog 4 #[.agg #[.int .i64 W, .int .i64 H, .int .u32 back], .slice A n c, .int .i64 stop] w fun e w' => e = .returned (.bool true) ∧ Below w.heap.size w w' := by
  have hdr := fun w' => drawn_bad W H back hW hH hbad A n c w'
  have k0 := ((Blk.new w 24 #[.int .i64 W, .int .i64 H, .int .u32 back]).alloc (.cells #[.int .i64 stop] 3)).alloc (.cells #[.bool false] 4)
  have k2 := Blk.new ((w.alloc (.cells #[.int .i64 W, .int .i64 H, .int .u32 back] 24)).alloc (.cells #[.int .i64 stop] 3)) 4 #[.bool false]
  simp only [World.size_alloc] at k2
  have hb1 := (((Below.refl w.heap.size w).alloc (Nat.le_refl _) (.cells #[.int .i64 W, .int .i64 H, .int .u32 back] 24)).alloc (by simp) (.cells #[.int .i64 stop] 3)).alloc (by simp; omega) (.cells #[.bool false] 4)
  obtain ⟨q0, q1, q2⟩ := k0.read3
  refine callsIn_of_wp_marks Try.func4 rfl trivial ?_ rfl
  simp only [Try.ntmps4, List.size_toArray, List.length_cons, List.length_nil, Nat.reduceAdd, Nat.reduceSub, Array.replicate_succ, Array.replicate_zero, List.push_toArray, List.append_toArray, List.nil_append, List.cons_append]
  gi_wp2_with fail
  generalize ((w.alloc (.cells #[.int .i64 W, .int .i64 H, .int .u32 back] 24)).alloc (.cells #[.int .i64 stop] 3)).alloc (.cells #[.bool false] 4) = w1 at *
  refine ⟨trivial, (callsIn_wide.2 (hdr w1)).mono ?_⟩
  rintro e w2 ⟨rfl, hb2⟩
  have hB2 := below_cut hb1 hb2 (Nat.le_refl _)
  have k22 := k2.below hb2 k2.lt
  clear hdr q0 q1 q2 k0 k2
  unfold noRef
  have hbA := ((Below.refl w2.heap.size w2).alloc (Nat.le_refl _) (.cells #[.pointer none] 28)).alloc (by simp) (.cells #[.int .i64 0, .int .i64 0, .int .u32 0, .slice none 0 0] 31)
  have hb3 := below_cut hB2 hbA (Nat.le_refl _)
  have k23 := k22.below hbA k22.lt
  have r0 := k23.cell 0
  have rf := k23.frozen 0
  have hc := ((Blk.new w2 28 #[.pointer none]).alloc (.cells #[.int .i64 0, .int .i64 0, .int .u32 0, .slice none 0 0] 31)).cell 0
  have r1 := (k23.set_ 0 (.bool true)).cell 0
  simp at r0 r1 hc
  have hBZ := hb3.setCell (p := ⟨w.heap.size + 1 + 1, 0, none⟩) (show w.heap.size ≤ w.heap.size + 1 + 1 by omega) (.bool true)
  gi_wp2_with fail
  refine ⟨.bool true, by rw [results_c1 rfl]; go_simp, ?_⟩
  exact ⟨rfl, hBZ⟩
theorem law_cdrawn (W H back : Int) (A : Option Addr) (m c : Nat) (l : List Dot) (stop : Int) (w : World) (hW : -9223372036854775808 ≤ W ∧ W ≤ 9223372036854775807) (hH : -9223372036854775808 ≤ H ∧ H ≤ 9223372036854775807) (hb : 0 ≤ back ∧ back < 4294967296)
    (hm : m ≤ 9223372036854775807) (hl : okDots l) (hr : Reads w w.heap.size 4 A m (Dots l)) :
    Calls Try.prog 4 #[.agg #[.int .i64 W, .int .i64 H, .int .u32 back], .slice A m c, .int .i64 stop] w fun e w' => e = .returned (.bool true) ∧ Below w.heap.size w w' := by
  by_cases h0 : newE W H = 0
  · obtain ⟨a1, a2, a3, a4⟩ := newE_zero h0
    obtain ⟨W, rfl, hW1⟩ := nat_of a1 a2
    obtain ⟨H, rfl, hH1⟩ := nat_of a3 a4
    exact callsIn_wide.1 (cdrawn_in W H back A m c l stop w hW1 hH1 hb hm hl hr)
  · exact callsIn_wide.1 (cdrawn_bad W H back hW hH h0 A m c stop w)
end Go.Proofs.Ytfciaefjilobaaa
