/- What the walks of FrameBack and FrameEach share. -/
import Derived.Test.YtppkjejdkogfpaaForth
import Derived.Test.YtppkjejdkogfpaaFindf
import Derived.Test.YtppkjejdkogfpaaModBack
import Derived.Test.YtppkjejdkogfpaaRound
import Derived.Test.YtppkjejdkogfpaaReads
import Derived.Test.YtppkjejdkogfpaaTail
import Derived.Test.YtppkjejdkogfpaaEachB
namespace Go.Proofs.Ytppkjejdkogfpaa
open Go.RowKit Go.Shelf
attribute [local go_sem] Oper.semAt_some

theorem ReadTo.cases_ {ws : List Int} {g b er : Int} {l : List Ins} {p : Nat} (h : ReadTo ws g b l er p) : (er ≠ 0 ∧ g = 0 ∧ b = 0 ∧ l = []) ∨
    (er = 0 ∧ p = 0 ∧ ws.length ≤ 1048576 ∧ HeadTo ws 5 ∧ g = ix ws 2 ∧ b = ix ws 3 ∧ ∃ L E, Goes ws 5 L E ∧ ¬ E < ws.length ∧ l = L.map (·.2)) := by
  cases h with
  | large _ => exact .inl ⟨by decide, rfl, rfl, rfl⟩
  | head _ hb => exact .inl ⟨by rcases hb.2.2 with ⟨_, h⟩ | ⟨_, _, h⟩; (rw [h]; decide); exact h, rfl, rfl, rfl⟩
  | count _ _ _ _ => exact .inl ⟨by decide, rfl, rfl, rfl⟩
  | ok h1 h2 h3 h4 => exact .inr ⟨rfl, rfl, h1, h2, rfl, rfl, _, _, h3, h4, rfl⟩
theorem run_eqIn_func_nil (w : World) (d : Nat) (t : TypeId) {ps rs : Array TypeId} {v : Bool} (h : Try.prog.underlying t = some (.func ps rs v)) (f : Fn) (tas caps : Array Value) : (Op.equalIn (d + 1) t (.func f tas caps) .nilFunc).run Try.prog w = .ok false w := by
  simp [Op.equalIn, run_underlying h]
theorem run_eql_func_nil (w : World) (t : TypeId) {ps rs : Array TypeId} {v : Bool} (h : Try.prog.underlying t = some (.func ps rs v)) (f : Fn) (tas caps : Array Value) : (binOp .eql t (.func f tas caps) .nilFunc).run Try.prog w = .ok (.bool false) w := by
  simp only [binOp]
  simp [Op.equal, Op.maxDepth, run_eqIn_func_nil w 9999 t h]
theorem goes_next {ws : List Int} : ∀ {p E : Nat} {q : Nat × Ins} {l2 : List (Nat × Ins)} (ys : List PI), Goes ws p (ys.map PI.pi ++ q :: l2) E → ys.foldl (fun _ x => x.1 + 1 + x.2.1.2.length) p = q.1
  | p, E, q, l2, [], h => by
    obtain ⟨hq, _, _⟩ := h.cons_inv
    rw [hq]
    rfl
  | p, E, q, l2, y :: ys, h => by
    obtain ⟨hq, hc, h'⟩ := h.cons_inv
    have h1 := goes_next ys h'
    have h2 := insAt_length hc
    have e1 : y.1 = p := congrArg Prod.fst hq
    have e2 : y.2.1 = insAt ws p := congrArg Prod.snd hq
    have h3 : y.1 + 1 + y.2.1.2.length = p + cntW (ix ws p) := by rw [e1, e2]; omega
    simp only [List.foldl_cons]
    rw [h3]
    exact h1
theorem goes_ge {ws : List Int} {p E : Nat} {L : List (Nat × Ins)} (h : Goes ws p L E) : ∀ q ∈ L, p ≤ q.1 := by
  induction h with
  | stop _ => simp
  | step hc _ ih =>
    intro q hq
    rcases List.mem_cons.1 hq with rfl | hq
    · exact Nat.le_refl _
    · have := ih q hq; omega
theorem goes_lt {ws : List Int} : ∀ {p E : Nat} {q : Nat × Ins} {l1 l2 : List (Nat × Ins)}, Goes ws p (l1 ++ q :: l2) E → ∀ y ∈ l1, y.1 < q.1
  | p, E, q, [], l2, _, y, hy => by cases hy
  | p, E, q, z :: l1, l2, h, y, hy => by
    obtain ⟨hz, hc, h'⟩ := h.cons_inv
    rcases List.mem_cons.1 hy with rfl | hy
    · have h1 := goes_ge h' q (by simp)
      have h2 := hc.2.1
      rw [hz]
      show p < q.1
      omega
    · exact goes_lt h' y hy
theorem regionIn_cut {F : Fence} {n : Nat} {P : Program} {c : Code} {K : Act → World → Prop} {Q : Exit → Act → World → Prop} {a : Act} {w : World} (X : Act → Act → World → Prop) (h : ∀ K1 : Act → World → Prop, Hid (∀ a' w', X a a' w' → K1 a' w') → c.wpIn F n P (Exit.then K1 (fun _ _ _ => False)) a w) (k : ∀ a' w', X a a' w' → K a' w') : c.wpIn F n P (Exit.then K Q) a w :=
  wpIn_mono (h (fun a' w' => X a a' w') (Lib.hid fun _ _ hx => hx)) fun e a' w' hx => by
    cases e <;> first | exact k _ _ hx | exact hx.elim
theorem keepsOthers_below {W W' : World} (h : Below W.heap.size W W') : KeepsOthers W W' := ⟨h.size, fun k _ hk _ => (h.block k (Array.getElem?_eq_some_iff.1 hk).1).trans hk⟩
/-- what lies in FrameBack's variables between two rounds -/
structure BInv (w10 : World) (M : Nat) (k p : Nat) (W : World) : Prop where
  below : Below w10.heap.size w10 W
  kk : Blk W w10.heap.size 3 #[.int .i64 k]
  kp : Blk W (w10.heap.size + 1) 3 #[.int .i64 p]
  size : M ≤ W.heap.size
  low : w10.heap.size + 2 ≤ M
theorem BInv.alloc {w10 W : World} {M k p : Nat} (i : BInv w10 M k p W) (o : Obj) : BInv w10 M k p (W.alloc o) := by
  obtain ⟨h1, h2, h3, h4, h5⟩ := i
  exact ⟨h1.alloc h1.size _, h2.alloc _, h3.alloc _, by rw [World.size_alloc]; omega, h5⟩
theorem BInv.keep {w10 W W' : World} {M B k p : Nat} {row : Option Nat} (hB : w10.heap.size ≤ B) (i : BInv w10 M k p W) (hg : W.grownBy W' row) (hr : ∀ k, row = some k → B ≤ k ∧ ∃ o : Obj, W.heap[k]? = some o ∧ o.isCells = false) : BInv w10 M k p W' := by
  have hr' : ∀ r, row = some r → ∃ o : Obj, W.heap[r]? = some o ∧ o.isCells = false := fun r e => (hr r e).2
  obtain ⟨h1, h2, h3, h4, h5⟩ := i
  exact ⟨h1.grown hg h1.size (fun k e => Nat.le_trans hB (hr k e).1), h2.kept_ hg hr', h3.kept_ hg hr', Nat.le_trans h4 hg.size, h5⟩
theorem BInv.more {w10 W W' : World} {M k p : Nat} (i : BInv w10 M k p W) (hb : Below W.heap.size W W') : BInv w10 M k p W' := by
  obtain ⟨h1, h2, h3, h4, h5⟩ := i
  exact ⟨below_cut h1 hb (Nat.le_refl _), h2.below hb h2.lt, h3.below hb h3.lt, Nat.le_trans h4 hb.size, h5⟩
theorem BInv.put {w10 W : World} {M k p : Nat} (i : BInv w10 M k p W) (p' k' : Nat) : BInv w10 M k' p' ((W.setCell ⟨w10.heap.size + 1, 0, none⟩ (.int .i64 p')).setCell ⟨w10.heap.size, 0, none⟩ (.int .i64 k')) := by
  obtain ⟨h1, h2, h3, h4, h5⟩ := i
  refine ⟨(h1.setCell (p := ⟨w10.heap.size + 1, 0, none⟩) (show w10.heap.size ≤ w10.heap.size + 1 by omega) _).setCell (p := ⟨w10.heap.size, 0, none⟩) (Nat.le_refl _) _, ?_, ?_, by simp [World.setCell]; omega, h5⟩
  · have h := (h2.far (p := ⟨w10.heap.size + 1, 0, none⟩) (show w10.heap.size ≠ w10.heap.size + 1 by omega) (.int .i64 p')).set_ 0 (.int .i64 k')
    simpa using h
  · have h := (h3.set_ 0 (.int .i64 p')).far (p := ⟨w10.heap.size, 0, none⟩) (show w10.heap.size + 1 ≠ w10.heap.size by omega) (.int .i64 k')
    simpa using h
/-- a region, cut off from what comes behind it: it comes to its end -/
theorem region_cut0 {P : Program} {c : Code} {K : Act → World → Prop} {Q : Exit → Act → World → Prop} {a : Act} {w : World} (X : Act → Act → World → Prop) (h : ∀ K1 : Act → World → Prop, Hid (∀ a' w', X a a' w' → K1 a' w') → c.wp P (Exit.then K1 (fun _ _ _ => False)) a w) (k : ∀ a' w', X a a' w' → K a' w') : c.wp P (Exit.then K Q) a w :=
  wp_mono (h (fun a' w' => X a a' w') (Lib.hid fun _ _ hx => hx)) fun e a' w' hx => by
    cases e <;> first | exact k _ _ hx | exact hx.elim
theorem results_c1 {fn : Func} {p : Tmp} {ty : TypeId} (h : fn.results = #[.cell p ty]) (tmps : Array Value) (P : Program) (w : World) :
    (results fn tmps).run P w = ((asAddr (tmps.getD p undef)).run P w).andThen fun ad w₁ => (loadVar ty ad).run P w₁ := results_c h tmps P w

end Go.Proofs.Ytppkjejdkogfpaa
