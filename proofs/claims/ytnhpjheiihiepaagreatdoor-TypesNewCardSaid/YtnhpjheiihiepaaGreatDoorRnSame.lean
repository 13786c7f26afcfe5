/- Walks: instructions, modules are compared: a copy is the same. -/
import Derived.Test.YtnhpjheiihiepaaGreatDoorSF
import Derived.Test.YtnhpjheiihiepaaGreatDoorKitMod
namespace Go.Proofs.YtnhpjheiihiepaaGreatDoor
open Go.RowKit Go.BigFrame Go.WideShapes

theorem arg_neq (p q : ArgI) (w : World) : (binOp .neq 87 (.agg #[.int .u8 p.1, .int .u32 p.2.1, .string p.2.2]) (.agg #[.int .u8 q.1, .int .u32 q.2.1, .string q.2.2])).run Tryz.prog w = .ok (.bool (!decide (p = q))) w := by
  rw [run_neq_struct, arg_eq p q w]
  rfl
section
variable {ops : Array Oper} {C : World → Prop} {Q : Act → Prop} {a : Act} {o : Oper} {rest : List Oper}
theorem arg_runn {x y : Operand} {te : TypeId} (ho : o.op = .binOp .neq 87 x y te) (p q : ArgI) (hx : a.eval x = .agg #[.int .u8 p.1, .int .u32 p.2.1, .string p.2.2]) (hy : a.eval y = .agg #[.int .u8 q.1, .int .u32 q.2.1, .string q.2.2]) (w : World) :
    (execOp a.eval o).run Tryz.prog w = .ok (.value (.bool (!decide (p = q)))) w := by
  have h1 := arg_eqg .neq x y #[.int .u8 p.1, .int .u32 p.2.1, .string p.2.2] #[.int .u8 q.1, .int .u32 q.2.1, .string q.2.2] w
  have h2 := arg_neq p q w
  unfold execOp
  simp only [ho, hx, hy, Sem.run_bind, h1, h2, Result.andThen_ok, Sem.run_pure]
theorem arg_ne_ne {x y : Operand} {te : TypeId} (ho : o.op = .binOp .neq 87 x y te) (hw : Region.wanted o (yielded ops a.tmps) = true) (p q : ArgI) (hx : a.eval x = .agg #[.int .u8 p.1, .int .u32 p.2.1, .string p.2.2]) (hy : a.eval y = .agg #[.int .u8 q.1, .int .u32 q.2.1, .string q.2.2])
    (h : wpQuiet Tryz.prog ops C Q rest (a.put o.dst (.bool (!decide (p = q))))) : wpQuiet Tryz.prog ops C Q (o :: rest) a :=
  wpQuiet_want hw fun _ hK => ⟨_, fun w _ => by unfold Oper.quietAt; rw [arg_runn ho p q hx hy]; exact ⟨rfl, rfl⟩, hK _ h⟩
end

set_option maxRecDepth 100000 in
set_option maxHeartbeats 4000000 in
theorem inst_same (op ty res : Int) (l : List ArgI) (A A' : Option Addr) (n n' c c' : Nat) (w : World) (h : InstOk w w.heap.size ((op, ty, res, l), A, n, c)) (h' : InstOk w w.heap.size ((op, ty, res, l), A', n', c')) :
    Calls Tryz.prog 35 #[.agg #[.int .u16 op, .int .u32 ty, .int .u32 res, .slice A n c], .agg #[.int .u16 op, .int .u32 ty, .int .u32 res, .slice A' n' c']] w (BoolIs true w) := by
  obtain ⟨hr, hn, -, -⟩ := h
  obtain ⟨hr', -, -, -⟩ := h'
  have hl := hr.args_len
  have hl' := hr'.args_len
  dsimp only at *
  obtain rfl : n' = n := by omega
  have hb := ((Below.refl w.heap.size w).alloc (Nat.le_refl _) (.cells #[.int .u16 op, .int .u32 ty, .int .u32 res, .slice A n' c] 63)).alloc (by simp) (.cells #[.int .u16 op, .int .u32 ty, .int .u32 res, .slice A' n' c'] 63)
  have k1 := (Blk.new w 63 #[.int .u16 op, .int .u32 ty, .int .u32 res, .slice A n' c]).alloc (.cells #[.int .u16 op, .int .u32 ty, .int .u32 res, .slice A' n' c'] 63)
  have k2 := Blk.new (w.alloc (.cells #[.int .u16 op, .int .u32 ty, .int .u32 res, .slice A n' c] 63)) 63 #[.int .u16 op, .int .u32 ty, .int .u32 res, .slice A' n' c']
  rw [World.size_alloc] at k2
  have HL := Lib.hid hl
  clear hl hl'
  go_enter Tryz.func35, Tryz.ntmps35
  go_upto_region 1 with fail
  generalize ((w.alloc (.cells #[.int .u16 op, .int .u32 ty, .int .u32 res, .slice A n' c] 63)).alloc (.cells #[.int .u16 op, .int .u32 ty, .int .u32 res, .slice A' n' c'] 63)) = W at *
  have z0 := (four_ k1).1
  have z1 := (four_ k1).2.1
  have z2 := (four_ k1).2.2.1
  have z3 := (four_ k1).2.2.2
  have y0 := (four_ k2).1
  have y1 := (four_ k2).2.1
  have y2 := (four_ k2).2.2.1
  have y3 := (four_ k2).2.2.2
  go_wp2_with fail
  clear z0 z1 z2 z3 y0 y1 y2 y3
  go_loopg [5] n' (fun q i wr => ∃ k : Nat, k + q = n' ∧ i = .int .i64 (k : Nat) ∧ Blk wr w.heap.size 63 #[.int .u16 op, .int .u32 ty, .int .u32 res, .slice A n' c] ∧ Blk wr (w.heap.size + 1) 63 #[.int .u16 op, .int .u32 ty, .int .u32 res, .slice A' n' c'] ∧ Below w.heap.size w wr)
  case atStart => exact ⟨0, by omega, rfl, k1, k2, hb⟩
  case round =>
    obtain ⟨k, hq, rfl, kr1, kr2, hbr⟩ := hrel
    clear k1 k2 hb
    obtain ⟨z0, z1, z2, z3⟩ := four_ kr1
    obtain ⟨y0, y1, y2, y3⟩ := four_ kr2
    by_cases hlt : k < n'
    · have d1 : decide (((k : Nat) : Int) < (n' : Nat)) = true := by rw [decide_eq_true_eq]; omega
      have hi1 : ((k : Nat) : Int) < (n' : Nat) := by omega
      obtain ⟨b1, o1, rfl, hb1, hc1⟩ := (hr.below hbr).args (by omega)
      obtain ⟨b2, o2, rfl, hb2, hc2⟩ := (hr'.below hbr).args (by omega)
      obtain ⟨p0, p1, p2⟩ := hc1 k hlt
      obtain ⟨q0, q1, q2⟩ := hc2 k hlt
      clear hc1 hc2
      generalize ag l k = a1 at *
      go_upto_region 6 with fail
      refine wp_region_quiet_lit (by kernel_rfl) (by kernel_rfl) ?_
      repeat (go_big_quiet_step (fail))
      refine wpQuiet_nil ?_
      rintro w9 ⟨nq, rfl⟩
      go_wp2_with fail
      go_roundg (n' - (k + 1))
      case measure => omega
      case rel => exact ⟨k + 1, by omega, by go_num, kr1.drewN nq, kr2.drewN nq, below_drewN hbr nq⟩
    · have d1 : decide (((k : Nat) : Int) < (n' : Nat)) = false := by rw [decide_eq_false_iff_not]; omega
      go_wp2_with fail
      go_ret
      exact ⟨rfl, hbr⟩

set_option maxRecDepth 100000 in
set_option maxHeartbeats 4000000 in
theorem mods_same (gen bound : Int) (A A' : Option Addr) (n c c' : Nat) (ls ls' : List InstA) (w : World) (hM : ModS w w.heap.size A n ls) (hM' : ModS w w.heap.size A' n ls') (he : ls.map (·.1) = ls'.map (·.1)) (hn : n ≤ 3600000000000) :
    Calls Tryz.prog 10 #[.agg (modC gen bound A n c), .agg (modC gen bound A' n c')] w (BoolIs true w) := by
  have hl := hM.length
  have hl' := hM'.length
  unfold modC
  have hb := ((Below.refl w.heap.size w).alloc (Nat.le_refl _) (.cells #[.int .u32 gen, .int .u32 bound, .slice A n c] 25)).alloc (by simp) (.cells #[.int .u32 gen, .int .u32 bound, .slice A' n c'] 25)
  have k1 := (Blk.new w 25 #[.int .u32 gen, .int .u32 bound, .slice A n c]).alloc (.cells #[.int .u32 gen, .int .u32 bound, .slice A' n c'] 25)
  have k2 := Blk.new (w.alloc (.cells #[.int .u32 gen, .int .u32 bound, .slice A n c] 25)) 25 #[.int .u32 gen, .int .u32 bound, .slice A' n c']
  rw [World.size_alloc] at k2
  have HL := Lib.hid (show ls.length = n ∧ ls'.length = n by rw [List.length_map] at hl hl'; exact ⟨hl, hl'⟩)
  have HE := Lib.hid he
  clear hl hl' he
  go_enter Tryz.func10, Tryz.ntmps10
  go_upto_region 1 with fail
  generalize ((w.alloc (.cells #[.int .u32 gen, .int .u32 bound, .slice A n c] 25)).alloc (.cells #[.int .u32 gen, .int .u32 bound, .slice A' n c'] 25)) = W at *
  have z0 := (three_ k1).1
  have z1 := (three_ k1).2.1
  have z2 := (three_ k1).2.2
  have y0 := (three_ k2).1
  have y1 := (three_ k2).2.1
  have y2 := (three_ k2).2.2
  go_wp2_with fail
  clear z0 z1 z2 y0 y1 y2
  go_loopg [5] n (fun q i wr => ∃ k : Nat, k + q = n ∧ i = .int .i64 (k : Nat) ∧ Blk wr w.heap.size 25 #[.int .u32 gen, .int .u32 bound, .slice A n c] ∧ Blk wr (w.heap.size + 1) 25 #[.int .u32 gen, .int .u32 bound, .slice A' n c'] ∧ Below w.heap.size w wr)
  case atStart => exact ⟨0, by omega, rfl, k1, k2, hb⟩
  case round =>
    obtain ⟨k, hq, rfl, kr1, kr2, hbr⟩ := hrel
    clear k1 k2 hb
    obtain ⟨z0, z1, z2⟩ := three_ kr1
    obtain ⟨y0, y1, y2⟩ := three_ kr2
    by_cases hlt : k < n
    · have d1 : decide (((k : Nat) : Int) < (n : Nat)) = true := by rw [decide_eq_true_eq]; omega
      have hi1 : ((k : Nat) : Int) < (n : Nat) := by omega
      have hMr := hM.keep hbr
      have hMr' := hM'.keep hbr
      obtain ⟨b1, o1, rfl, hb1, hc1⟩ := hMr.reads.insts (by omega)
      obtain ⟨b2, o2, rfl, hb2, hc2⟩ := hMr'.reads.insts (by omega)
      obtain ⟨p0, p1, p2, p3⟩ := hc1 k hlt
      obtain ⟨q0, q1, q2, q3⟩ := hc2 k hlt
      have e1 : (ig ls k).1 = (ig ls' k).1 := by
        have h1 := congrArg (fun l => l[k]?) HE.out
        have h2 := HL.out
        simp only [List.getElem?_map, List.getElem?_eq_getElem (show k < ls.length by omega), List.getElem?_eq_getElem (show k < ls'.length by omega), Option.map_some, Option.some.injEq] at h1
        rw [ig_of (by omega), ig_of (by omega)]
        exact h1
      have hi2 := fun w' (hb : Below wr.heap.size wr w') => ((hMr.ok _ (ig_mem (l := ls) (k := k) (by have := HL.out; omega))).more hbr.size).step hb
      have hi3 := fun w' (hb : Below wr.heap.size wr w') => ((hMr'.ok _ (ig_mem (l := ls') (k := k) (by have := HL.out; omega))).more hbr.size).step hb
      clear hc1 hc2 hMr hMr'
      generalize ig ls k = x at *
      generalize ig ls' k = y at *
      obtain ⟨⟨op, ty, res, la⟩, A1, n1, c1⟩ := x
      obtain ⟨i', A2, n2, c2⟩ := y
      dsimp only at e1
      subst e1
      dsimp only at p0 p1 p2 p3 q0 q1 q2 q3
      have hcall := fun w' (hb : Below wr.heap.size wr w') => inst_same op ty res la A1 A2 n1 n2 c1 c2 w' (hi2 w' hb) (hi3 w' hb)
      unfold BoolIs at hcall
      clear hi2 hi3
      go_upto_region 6 with fail
      refine wp_region_tail 10 (by kernel_rfl) (by kernel_rfl) ?_
      simp only [List.take_succ_cons, List.take_zero, List.drop_succ_cons, List.drop_zero]
      repeat (go_big_quiet_step (fail))
      refine wpQuiet_nil ?_
      have hbn := (Below.refl wr.heap.size wr).drew
      have hc2 := hcall _ hbn
      have kr1n : Blk wr.drew _ _ _ := kr1
      have kr2n : Blk wr.drew _ _ _ := kr2
      have hbrn := hbr.drew
      clear hcall
      generalize wr.drew = W9 at *
      go_wp2_with fail
      refine hc2.mono ?_
      rintro e w2 ⟨rfl, hb2⟩
      have kr1b := kr1n.step hb2
      have kr2b := kr2n.step hb2
      have hb3 := below_cut hbrn hb2 (Nat.le_refl _)
      clear hc2 kr1n kr2n
      go_wp2_with fail
      go_roundg (n - (k + 1))
      case measure => omega
      case rel => exact ⟨k + 1, by omega, by go_num, kr1b, kr2b, hb3⟩
    · have d1 : decide (((k : Nat) : Int) < (n : Nat)) = false := by rw [decide_eq_false_iff_not]; omega
      go_wp2_with fail
      go_ret
      exact ⟨rfl, hbr⟩
end Go.Proofs.YtnhpjheiihiepaaGreatDoor
