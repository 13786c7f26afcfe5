/- Walks: a word of bytes, and what the document answers of a picture's bytes. -/
import Derived.Test.YtfciaefjilobaaaCread
namespace Go.Proofs.Ytfciaefjilobaaa
open Go.RowKit Go.BigFrame

theorem results_cc {fn : Func} {p q : Tmp} {ty ty2 : TypeId} (h : fn.results = #[.cell p ty, .cell q ty2]) (tmps : Array Value) (P : Program) (w : World) :
    (results fn tmps).run P w = ((asAddr (tmps.getD p undef)).run P w).andThen fun ad w₁ => ((loadVar ty ad).run P w₁).andThen fun v w₂ => ((asAddr (tmps.getD q undef)).run P w₂).andThen fun ad2 w₃ => ((loadVar ty2 ad2).run P w₃).andThen fun v2 w₄ => .ok (.tuple #[v, v2]) w₄ := by
  simp only [results, h]
  simp [Sem.run_bind, Result.andThen]
theorem results_c {fn : Func} {p : Tmp} {ty : TypeId} (h : fn.results = #[.cell p ty]) (tmps : Array Value) (P : Program) (w : World) :
    (results fn tmps).run P w = ((asAddr (tmps.getD p undef)).run P w).andThen fun ad w₁ => (loadVar ty ad).run P w₁ := by
  simp only [results, h]
  simp [Sem.run_bind, Result.andThen]
section
variable {ops : Array Oper} {C : World → Prop} {Q : Act → Prop} {a : Act} {o : Oper} {rest : List Oper}
theorem rpx_eq_eq {x y : Operand} {te : TypeId} (ho : o.op = .binOp .eql 39 x y te) (hw : Region.wanted o (yielded ops a.tmps) = true) (p q : Pix) (hx : a.eval x = .agg #[.bool p.1, .int .i32 p.2.1, .int .u32 p.2.2]) (hy : a.eval y = .agg #[.bool q.1, .int .i32 q.2.1, .int .u32 q.2.2])
    (h : wpQuiet Try.prog ops C Q rest (a.put o.dst (.bool (decide (p = q))))) : wpQuiet Try.prog ops C Q (o :: rest) a :=
  wpQuiet_want hw fun _ hK => ⟨_, fun w _ => by unfold Oper.quietAt; rw [rpx_eq_runl ho p q hx hy]; exact ⟨rfl, rfl⟩, hK _ h⟩
end
/-- a word of bytes -/
theorem rword_any (A : Option Addr) (n c k : Nat) (l : List Int) (w : World) (hn : n ≤ 140737488351232) (hk : 4 * k + 4 ≤ n) (hu : Under 256 l) (hr : Reads w w.heap.size 1 A n (Ints .u8 l)) :
    Calls Try.prog 42 #[.slice A n c, .int .i64 k] w fun e w' => e = .returned (.int .u32 (word l (4 * k))) ∧ Drawn w w' := by
  obtain ⟨b, off, rfl, _, hc⟩ := hr.ints (by omega)
  have c0 := hc (4 * k) (by omega)
  have c1 := hc (4 * k + 1) (by omega)
  have c2 := hc (4 * k + 2) (by omega)
  have c3 := hc (4 * k + 3) (by omega)
  have b0 := hu.ix (by decide) (4 * k)
  have b1 := hu.ix (by decide) (4 * k + 1)
  have b2 := hu.ix (by decide) (4 * k + 2)
  have b3 := hu.ix (by decide) (4 * k + 3)
  clear hc
  rw [word_eq]
  go_enter Try.func42, Try.ntmps42
  go_wp2
  go_quiet (fail)
  go_wp2
  go_ret
  exact ⟨rfl, Drawn.mk _ _⟩
theorem wrong_any (k : Int) (w : World) :
    Calls Try.prog 41 #[.int .i64 k] w fun e w' => e = .returned (.agg #[.int .i64 290, .int .i64 k]) ∧ Below w.heap.size w w' := by
  have hb := fun cs => (Below.refl w.heap.size w).alloc (Nat.le_refl _) (.cells cs 67)
  go_enter Try.func41, Try.ntmps41
  go_wp2
  have j := Blk.new w 67 #[.int .i64 290, .int .i64 k]
  have j0 := j.cell 0
  have j1 := j.cell 1
  simp at j0 j1
  (try simp only [Exit.inBlock, Exit.then])
  refine bodyPost_ret (v := .agg #[.int .i64 290, .int .i64 k]) (by rw [results_c rfl]; go_simp) rfl ?_
  exact ⟨rfl, hb _⟩
/-- the two variables that are answered, written one after the other -/
def set6 (w : World) (b2 b3 : Nat) (v0 v1 v2 v3 u0 u1 : Value) : World := (((((w.setCell ⟨b2, 0, none⟩ v0).setCell ⟨b2, 1, none⟩ v1).setCell ⟨b2, 2, none⟩ v2).setCell ⟨b2, 3, none⟩ v3).setCell ⟨b3, 0, none⟩ u0).setCell ⟨b3, 1, none⟩ u1
theorem two_store {w : World} {b2 b3 : Nat} {t2 t3 : TypeId} {c0 c1 c2 c3 d0 d1 : Value} (h2 : Blk w b2 t2 #[c0, c1, c2, c3]) (h3 : Blk w b3 t3 #[d0, d1]) (hne : b3 ≠ b2) (v0 v1 v2 v3 u0 u1 : Value) :
    (w.cell? ⟨b2, 0, none⟩ = some c0 ∧ w.frozen? ⟨b2, 0, none⟩ = false ∧
    (w.setCell ⟨b2, 0, none⟩ v0).cell? ⟨b2, 1, none⟩ = some c1 ∧ (w.setCell ⟨b2, 0, none⟩ v0).frozen? ⟨b2, 1, none⟩ = false ∧
    ((w.setCell ⟨b2, 0, none⟩ v0).setCell ⟨b2, 1, none⟩ v1).cell? ⟨b2, 2, none⟩ = some c2 ∧ ((w.setCell ⟨b2, 0, none⟩ v0).setCell ⟨b2, 1, none⟩ v1).frozen? ⟨b2, 2, none⟩ = false ∧
    (((w.setCell ⟨b2, 0, none⟩ v0).setCell ⟨b2, 1, none⟩ v1).setCell ⟨b2, 2, none⟩ v2).cell? ⟨b2, 3, none⟩ = some c3 ∧ (((w.setCell ⟨b2, 0, none⟩ v0).setCell ⟨b2, 1, none⟩ v1).setCell ⟨b2, 2, none⟩ v2).frozen? ⟨b2, 3, none⟩ = false) ∧
    ((((w.setCell ⟨b2, 0, none⟩ v0).setCell ⟨b2, 1, none⟩ v1).setCell ⟨b2, 2, none⟩ v2).setCell ⟨b2, 3, none⟩ v3).cell? ⟨b3, 0, none⟩ = some d0 ∧
    ((((w.setCell ⟨b2, 0, none⟩ v0).setCell ⟨b2, 1, none⟩ v1).setCell ⟨b2, 2, none⟩ v2).setCell ⟨b2, 3, none⟩ v3).frozen? ⟨b3, 0, none⟩ = false ∧
    (((((w.setCell ⟨b2, 0, none⟩ v0).setCell ⟨b2, 1, none⟩ v1).setCell ⟨b2, 2, none⟩ v2).setCell ⟨b2, 3, none⟩ v3).setCell ⟨b3, 0, none⟩ u0).cell? ⟨b3, 1, none⟩ = some d1 ∧
    (((((w.setCell ⟨b2, 0, none⟩ v0).setCell ⟨b2, 1, none⟩ v1).setCell ⟨b2, 2, none⟩ v2).setCell ⟨b2, 3, none⟩ v3).setCell ⟨b3, 0, none⟩ u0).frozen? ⟨b3, 1, none⟩ = false ∧
    Blk (set6 w b2 b3 v0 v1 v2 v3 u0 u1) b2 t2 #[v0, v1, v2, v3] ∧ Blk (set6 w b2 b3 v0 v1 v2 v3 u0 u1) b3 t3 #[u0, u1] := by
  have k1 := h2.put1 v0
  have k2 := h2.put2 v0 v1
  have k3 := h2.put3 v0 v1 v2
  have k4 := h2.put4 v0 v1 v2 v3
  have j4 : Blk ((((w.setCell ⟨b2, 0, none⟩ v0).setCell ⟨b2, 1, none⟩ v1).setCell ⟨b2, 2, none⟩ v2).setCell ⟨b2, 3, none⟩ v3) b3 t3 #[d0, d1] := h3.off (off_put4 w b2 v0 v1 v2 v3) hne
  obtain ⟨s0, sf0, s1, sf1, j6⟩ := j4.store2 u0 u1
  exact ⟨⟨h2.cell 0, h2.frozen 0, k1.cell 1, k1.frozen 1, k2.cell 2, k2.frozen 2, k3.cell 3, k3.frozen 3⟩, s0, sf0, s1, sf1, k4.off (off_put2 _ b3 u0 u1) (fun e => hne e.symm), j6⟩
theorem off_put6 (w : World) (b2 b3 : Nat) (v0 v1 v2 v3 u0 u1 : Value) : Off (fun k => k = b2 ∨ k = b3) w (set6 w b2 b3 v0 v1 v2 v3 u0 u1) :=
  ((off_put4 w b2 v0 v1 v2 v3).mono (fun _ _ h => .inl h)).trans ((off_put2 _ b3 u0 u1).mono (fun _ _ h => .inr h))
def noCan : Value := .agg #[.int .i64 0, .int .i64 0, .int .u32 0, .slice none 0 0]
/-- what the document tells of a picture's bytes -/
def RreadR (l : List Int) (w : World) (e : Ending) (w' : World) : Prop :=
  Below w.heap.size w w' ∧
    if l.length % 4 ≠ 0 then e = .returned (.tuple #[noCan, .agg #[.int .i64 10, .int .i64 0]])
    else match readW (glue l (l.length / 4)) with
      | .error k => e = .returned (.tuple #[noCan, .agg #[.int .i64 290, .int .i64 k]])
      | .ok (W, H, back, ps) => ∃ g, e = .returned (.tuple #[refV g (W * H) (W * H) W H back, .agg #[.int .i64 0, .int .i64 0]]) ∧ RefS w' w.heap.size g (W * H) (W * H) W H back ps
/-- the two variables that are answered, as yet nothing -/
structure RR0 (w wr : World) : Prop where
  b2 : Blk wr w.heap.size 31 #[.int .i64 0, .int .i64 0, .int .u32 0, .slice none 0 0]
  b3 : Blk wr (w.heap.size + 1) 67 #[.int .i64 0, .int .i64 0]
  bel : Below w.heap.size w wr
theorem RR0.below {w wr wr' : World} (h : RR0 w wr) (hb : Below wr.heap.size wr wr') : RR0 w wr' := ⟨h.b2.below hb h.b2.lt, h.b3.below hb h.b3.lt, h.bel.trans (hb.mono h.bel.size)⟩
theorem RR0.drawn {w wr wr' : World} (h : RR0 w wr) (hd : Drawn wr wr') : RR0 w wr' := h.below (hd.below _)
theorem RR0.err {w wr : World} {l : List Int} {k : Nat} (h : RR0 w wr) (h4 : l.length % 4 = 0) (hR : readW (glue l (l.length / 4)) = .error k) (v0 v1 v2 v3 u0 u1 : Value) :
    RreadR l w (.returned (.tuple #[noCan, .agg #[.int .i64 290, .int .i64 k]])) (set6 wr w.heap.size (w.heap.size + 1) v0 v1 v2 v3 u0 u1) := by
  have hs := h.bel.size
  refine ⟨h.bel.trans ((off_put6 wr w.heap.size (w.heap.size + 1) v0 v1 v2 v3 u0 u1).to_below w.heap.size hs (by intro q _ hq; omega)), ?_⟩
  rw [if_neg (by omega), hR]

end Go.Proofs.Ytfciaefjilobaaa
