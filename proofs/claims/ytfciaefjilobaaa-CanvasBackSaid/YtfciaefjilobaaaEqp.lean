/- What '==' says of two pixels. -/
import Derived.Laws.Cover2
import Derived.BigQuiet
import Derived.Sort.QuietTacIn
import Derived.Sort.QuietIn
import Derived.Test.YtfciaefjilobaaaRnew
namespace Go.Proofs.Ytfciaefjilobaaa
open Go.RowKit Go.BigFrame

theorem pix_dec (p q : Pix) : (p.1 == q.1 && (p.2.1 == q.2.1 && p.2.2 == q.2.2)) = decide (p = q) := by
  obtain ⟨a, b, c⟩ := p
  obtain ⟨a', b', c'⟩ := q
  by_cases h1 : a = a' <;> by_cases h2 : b = b' <;> by_cases h3 : c = c' <;> simp [h1, h2, h3]
theorem pix_eq (p q : Pix) (w : World) : (Op.equalIn 10000 82 (.agg #[.bool p.1, .int .i32 p.2.1, .int .u32 p.2.2]) (.agg #[.bool q.1, .int .i32 q.2.1, .int .u32 q.2.2])).run Try.prog w = .ok (decide (p = q)) w := by
  have ub := Try.underlying4
  have ui := Try.underlying21
  have uu := Try.underlying22
  have ab := Try.isAgg4
  have ai := Try.isAgg21
  have au := Try.isAgg22
  have zb := Try.sizeOf4
  have zi := Try.sizeOf21
  have zu := Try.sizeOf22
  have hS : Try.prog.underlying 82 = some (.struct (Try.prog.fieldsOf 82)) := by kernel_rfl
  have hp : Try.prog.stoodInHeld 82 = false := by kernel_rfl
  rw [show (10000 : Nat) = 9999 + 1 from rfl, run_equalIn_agg w 9999 82 _ _ hS hp, ← pix_dec]
  simp only [Program.fieldsOf, Try.underlying82]
  go_simp
  by_cases h1 : p.1 = q.1 <;> by_cases h2 : p.2.1 = q.2.1 <;> by_cases h3 : p.2.2 = q.2.2 <;> simp [h1, h2, h3]
theorem pix_eql (a a' : Bool) (b b' c c' : Int) (w : World) : (binOp .eql 82 (.agg #[.bool a, .int .i32 b, .int .u32 c]) (.agg #[.bool a', .int .i32 b', .int .u32 c'])).run Try.prog w = .ok (.bool (decide ((a, b, c) = (a', b', c')))) w := by
  rw [run_eql_struct, pix_eq (a, b, c) (a', b', c') w]
  rfl
theorem pix_eqn (a a' : Bool) (b b' c c' : Int) (w : World) : (binOp .neq 82 (.agg #[.bool a, .int .i32 b, .int .u32 c]) (.agg #[.bool a', .int .i32 b', .int .u32 c'])).run Try.prog w = .ok (.bool (!decide ((a, b, c) = (a', b', c')))) w := by
  rw [run_neq_struct, pix_eq (a, b, c) (a', b', c') w]
  rfl
theorem pix_eqg (op : BinOp) (x y : Operand) (xs ys : Array Value) (w : World) : (eqGuard op 82 x y (.agg xs) (.agg ys)).run Try.prog w = .ok () w := run_eqGuard_agg w op 82 x y xs ys (by kernel_rfl)
theorem rpx_eq (p q : Pix) (w : World) : (Op.equalIn 10000 39 (.agg #[.bool p.1, .int .i32 p.2.1, .int .u32 p.2.2]) (.agg #[.bool q.1, .int .i32 q.2.1, .int .u32 q.2.2])).run Try.prog w = .ok (decide (p = q)) w := by
  have ub := Try.underlying4
  have ui := Try.underlying21
  have uu := Try.underlying22
  have ab := Try.isAgg4
  have ai := Try.isAgg21
  have au := Try.isAgg22
  have zb := Try.sizeOf4
  have zi := Try.sizeOf21
  have zu := Try.sizeOf22
  have hS : Try.prog.underlying 39 = some (.struct (Try.prog.fieldsOf 39)) := by kernel_rfl
  have hp : Try.prog.stoodInHeld 39 = false := by kernel_rfl
  rw [show (10000 : Nat) = 9999 + 1 from rfl, run_equalIn_agg w 9999 39 _ _ hS hp, ← pix_dec]
  simp only [Program.fieldsOf, Try.underlying39]
  go_simp
  by_cases h1 : p.1 = q.1 <;> by_cases h2 : p.2.1 = q.2.1 <;> by_cases h3 : p.2.2 = q.2.2 <;> simp [h1, h2, h3]
theorem rpx_eql (a a' : Bool) (b b' c c' : Int) (w : World) : (binOp .eql 39 (.agg #[.bool a, .int .i32 b, .int .u32 c]) (.agg #[.bool a', .int .i32 b', .int .u32 c'])).run Try.prog w = .ok (.bool (decide ((a, b, c) = (a', b', c')))) w := by
  rw [run_eql_struct, rpx_eq (a, b, c) (a', b', c') w]
  rfl
theorem rpx_eqn (a a' : Bool) (b b' c c' : Int) (w : World) : (binOp .neq 39 (.agg #[.bool a, .int .i32 b, .int .u32 c]) (.agg #[.bool a', .int .i32 b', .int .u32 c'])).run Try.prog w = .ok (.bool (!decide ((a, b, c) = (a', b', c')))) w := by
  rw [run_neq_struct, rpx_eq (a, b, c) (a', b', c') w]
  rfl
theorem rpx_eqg (op : BinOp) (x y : Operand) (xs ys : Array Value) (w : World) : (eqGuard op 39 x y (.agg xs) (.agg ys)).run Try.prog w = .ok () w := run_eqGuard_agg w op 39 x y xs ys (by kernel_rfl)

/-! the comparison as one step of a region that only reads -/
section
variable {F : Fence} {n : Nat} {ops : Array Oper} {C : World → Prop} {Q : Act → Prop} {a : Act} {o : Oper} {rest : List Oper}
theorem pix_eq_runl {x y : Operand} {te : TypeId} (ho : o.op = .binOp .eql 82 x y te) (p q : Pix) (hx : a.eval x = .agg #[.bool p.1, .int .i32 p.2.1, .int .u32 p.2.2]) (hy : a.eval y = .agg #[.bool q.1, .int .i32 q.2.1, .int .u32 q.2.2]) (w : World) :
    (execOp a.eval o).run Try.prog w = .ok (.value (.bool (decide (p = q)))) w := by
  have h1 := pix_eqg .eql x y #[.bool p.1, .int .i32 p.2.1, .int .u32 p.2.2] #[.bool q.1, .int .i32 q.2.1, .int .u32 q.2.2] w
  have h2 := pix_eql p.1 q.1 p.2.1 q.2.1 p.2.2 q.2.2 w
  unfold execOp
  simp only [ho, hx, hy, Sem.run_bind, h1, h2, Result.andThen_ok, Sem.run_pure]
theorem pix_eq_runn {x y : Operand} {te : TypeId} (ho : o.op = .binOp .neq 82 x y te) (p q : Pix) (hx : a.eval x = .agg #[.bool p.1, .int .i32 p.2.1, .int .u32 p.2.2]) (hy : a.eval y = .agg #[.bool q.1, .int .i32 q.2.1, .int .u32 q.2.2]) (w : World) :
    (execOp a.eval o).run Try.prog w = .ok (.value (.bool (!decide (p = q)))) w := by
  have h1 := pix_eqg .neq x y #[.bool p.1, .int .i32 p.2.1, .int .u32 p.2.2] #[.bool q.1, .int .i32 q.2.1, .int .u32 q.2.2] w
  have h2 := pix_eqn p.1 q.1 p.2.1 q.2.1 p.2.2 q.2.2 w
  unfold execOp
  simp only [ho, hx, hy, Sem.run_bind, h1, h2, Result.andThen_ok, Sem.run_pure]
theorem pix_eq_in {x y : Operand} {te : TypeId} (ho : o.op = .binOp .eql 82 x y te) (hw : Region.wanted o (yielded ops a.tmps) = true) (p q : Pix) (hx : a.eval x = .agg #[.bool p.1, .int .i32 p.2.1, .int .u32 p.2.2]) (hy : a.eval y = .agg #[.bool q.1, .int .i32 q.2.1, .int .u32 q.2.2])
    (h : wpQuietIn F n Try.prog ops C Q rest (a.put o.dst (.bool (decide (p = q))))) : wpQuietIn F n Try.prog ops C Q (o :: rest) a :=
  wpQuietIn_want (askedIn_plain (fun c hc => by rw [ho] at hc; cases hc)) hw fun _ hK => ⟨_, fun w _ => by unfold Oper.quietAtIn; rw [pix_eq_runl ho p q hx hy]; exact ⟨rfl, rfl⟩, hK _ h⟩
theorem pix_eq_ne {x y : Operand} {te : TypeId} (ho : o.op = .binOp .neq 82 x y te) (hw : Region.wanted o (yielded ops a.tmps) = true) (p q : Pix) (hx : a.eval x = .agg #[.bool p.1, .int .i32 p.2.1, .int .u32 p.2.2]) (hy : a.eval y = .agg #[.bool q.1, .int .i32 q.2.1, .int .u32 q.2.2])
    (h : wpQuiet Try.prog ops C Q rest (a.put o.dst (.bool (!decide (p = q))))) : wpQuiet Try.prog ops C Q (o :: rest) a :=
  wpQuiet_want hw fun _ hK => ⟨_, fun w _ => by unfold Oper.quietAt; rw [pix_eq_runn ho p q hx hy]; exact ⟨rfl, rfl⟩, hK _ h⟩
theorem rpx_eq_runl {x y : Operand} {te : TypeId} (ho : o.op = .binOp .eql 39 x y te) (p q : Pix) (hx : a.eval x = .agg #[.bool p.1, .int .i32 p.2.1, .int .u32 p.2.2]) (hy : a.eval y = .agg #[.bool q.1, .int .i32 q.2.1, .int .u32 q.2.2]) (w : World) :
    (execOp a.eval o).run Try.prog w = .ok (.value (.bool (decide (p = q)))) w := by
  have h1 := rpx_eqg .eql x y #[.bool p.1, .int .i32 p.2.1, .int .u32 p.2.2] #[.bool q.1, .int .i32 q.2.1, .int .u32 q.2.2] w
  have h2 := rpx_eql p.1 q.1 p.2.1 q.2.1 p.2.2 q.2.2 w
  unfold execOp
  simp only [ho, hx, hy, Sem.run_bind, h1, h2, Result.andThen_ok, Sem.run_pure]
theorem rpx_eq_runn {x y : Operand} {te : TypeId} (ho : o.op = .binOp .neq 39 x y te) (p q : Pix) (hx : a.eval x = .agg #[.bool p.1, .int .i32 p.2.1, .int .u32 p.2.2]) (hy : a.eval y = .agg #[.bool q.1, .int .i32 q.2.1, .int .u32 q.2.2]) (w : World) :
    (execOp a.eval o).run Try.prog w = .ok (.value (.bool (!decide (p = q)))) w := by
  have h1 := rpx_eqg .neq x y #[.bool p.1, .int .i32 p.2.1, .int .u32 p.2.2] #[.bool q.1, .int .i32 q.2.1, .int .u32 q.2.2] w
  have h2 := rpx_eqn p.1 q.1 p.2.1 q.2.1 p.2.2 q.2.2 w
  unfold execOp
  simp only [ho, hx, hy, Sem.run_bind, h1, h2, Result.andThen_ok, Sem.run_pure]
theorem rpx_eq_in {x y : Operand} {te : TypeId} (ho : o.op = .binOp .eql 39 x y te) (hw : Region.wanted o (yielded ops a.tmps) = true) (p q : Pix) (hx : a.eval x = .agg #[.bool p.1, .int .i32 p.2.1, .int .u32 p.2.2]) (hy : a.eval y = .agg #[.bool q.1, .int .i32 q.2.1, .int .u32 q.2.2])
    (h : wpQuietIn F n Try.prog ops C Q rest (a.put o.dst (.bool (decide (p = q))))) : wpQuietIn F n Try.prog ops C Q (o :: rest) a :=
  wpQuietIn_want (askedIn_plain (fun c hc => by rw [ho] at hc; cases hc)) hw fun _ hK => ⟨_, fun w _ => by unfold Oper.quietAtIn; rw [rpx_eq_runl ho p q hx hy]; exact ⟨rfl, rfl⟩, hK _ h⟩
theorem rpx_eq_ne {x y : Operand} {te : TypeId} (ho : o.op = .binOp .neq 39 x y te) (hw : Region.wanted o (yielded ops a.tmps) = true) (p q : Pix) (hx : a.eval x = .agg #[.bool p.1, .int .i32 p.2.1, .int .u32 p.2.2]) (hy : a.eval y = .agg #[.bool q.1, .int .i32 q.2.1, .int .u32 q.2.2])
    (h : wpQuiet Try.prog ops C Q rest (a.put o.dst (.bool (!decide (p = q))))) : wpQuiet Try.prog ops C Q (o :: rest) a :=
  wpQuiet_want hw fun _ hK => ⟨_, fun w _ => by unfold Oper.quietAt; rw [rpx_eq_runn ho p q hx hy]; exact ⟨rfl, rfl⟩, hK _ h⟩
end
end Go.Proofs.Ytfciaefjilobaaa
