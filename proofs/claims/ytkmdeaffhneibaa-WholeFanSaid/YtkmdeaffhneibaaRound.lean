/- A region that draws its order inside a round of a range over a function: all of whose operations only read: walked once. No program is named. -/
import Derived.Test.YtkmdeaffhneibaaMem
import Derived.CallsIn
import Derived.OrdersIn
import Derived.Deep.Quiet
import Derived.StillTail
import Derived.TacticsIn
import Derived.RangeFuncCalls
namespace Go.Proofs.Ytkmdeaffhneibaa

/-- no operation defers -/
def noDefer (ops : Array Oper) : Bool := ops.all fun o => match o.op with
  | .defer _ => false
  | _ => true
theorem noDefer_at {ops : Array Oper} (h : noDefer ops = true) {i : Nat} {o : Oper} (hi : ops[i]? = some o) : ∀ c, o.op ≠ .defer c := fun c e => by
  obtain ⟨hlt, rfl⟩ := Array.getElem?_eq_some_iff.1 hi
  have := (Array.all_eq_true.1 h) i hlt
  rw [e] at this
  cases this
section
variable {P : Program} {ops : Array Oper} {C : World → Prop} {md : Region.Mode}
theorem opIn_of_quiet {o : Oper} {a : Act} {K : Act → Prop} {K' : Act → World → Prop} {Q' : Exit → Act → World → Prop} {w : World} (n l : Nat) (hd : ∀ c, o.op ≠ .defer c) (hw : C w) (h : ∀ a w', C w' → K a → K' a w') (hh : o.quiet P a C K) : o.wpIn (Fence.wide.inRound l) n P a w K' Q' := by
  obtain ⟨v, h1, h2⟩ := hh
  have h3 := h1 w hw
  refine ⟨fun f _ => trivial, ?_⟩
  unfold Oper.quietAt at h3
  rw [Oper.semAt_eq _ _ _ hd]
  revert h3
  generalize (execOp a.eval o).run P w = r
  intro h3
  match r, h3 with
  | .ok (.value u) w', h3 =>
    obtain ⟨e1, e2⟩ := h3
    subst e1
    subst e2
    exact h _ _ hw h2
  | .ok .skip w', h3 =>
    obtain ⟨e1, e2⟩ := h3
    subst e1
    subst e2
    exact h _ _ hw h2
  | .ok (.enter f args) w', h3 =>
    obtain ⟨e1, hc⟩ := h3
    subst e1
    refine ⟨fun hs => by simp [Fence.wide, Fence.inRound] at hs, (callsIn_wide (n := n - 1)).2 (hc.mono fun e w'' he => ?_)⟩
    obtain ⟨rfl, hw''⟩ := he
    exact h _ _ hw'' h2
theorem opIn_of_qOp {i : Nat} {a : Act} {K : Act → Prop} {K' : Act → World → Prop} {Q' : Exit → Act → World → Prop} {w : World} (n l : Nat) (hd : noDefer ops = true) (hC : C w) (h : ∀ a w', C w' → K a → K' a w') (hh : qOp P ops C i K a) : wpOpIn (Fence.wide.inRound l) n P ops Q' i K' a w := by
  unfold qOp at hh
  unfold wpOpIn
  split
  · rename_i ho; simp only [ho] at hh; exact h _ _ hC hh
  · rename_i o ho
    simp only [ho] at hh
    split
    · rename_i hw; simp only [hw, if_true] at hh; exact opIn_of_quiet n l (noDefer_at hd ho) hC h hh
    · rename_i hw; simp only [hw] at hh; exact ⟨fun _ _ => trivial, h _ _ hC hh⟩
theorem anyIn_of_quiet {Q : Act → Prop} {Q' : Exit → Act → World → Prop} (n l : Nat) (hd : noDefer ops = true) (hQ : ∀ a w, C w → Q a → Q' .normal a w) : ∀ (fuel : Nat) (listed : Array Bool) (a : Act) (w : World), C w →
    wpAnyQ P md ops C Q fuel listed a → wpAnyIn (Fence.wide.inRound l) n P md ops Q' fuel listed a w
  | 0, _, _, _, hw, h => ⟨h.1, hQ _ _ hw h.2⟩
  | fuel + 1, _, _, _, hw, h => ⟨fun h0 => hQ _ _ hw (h.1 h0), fun i hi => opIn_of_qOp n l hd hw (fun a' w' hw' => anyIn_of_quiet n l hd hQ fuel _ a' w' hw') (h.2 i hi)⟩
end
theorem wpIn_round_quiet {P : Program} {id : Nat} {Q : Exit → Act → World → Prop} {a : Act} {w : World} {ls : List Oper} (n l : Nat) (hd : noDefer ls.toArray = true) (hm : P.follows .mixedOrders = true) (hB : Region.lexB .any ls.toArray = true)
    (h : wpQuiet P ls.toArray (fun w' => ∃ n, w' = w.drewN n) (fun a' => ∀ w', (∃ n, w' = w.drewN n) → Q .normal a' w') ls a) : (Code.region id ls.toArray true).wpIn (Fence.wide.inRound l) n P Q a w := by
  simp only [Region.lexB, Bool.and_eq_true] at hB
  refine wpIn_region_any hm (anyIn_of_quiet (C := fun w' => ∃ n, w' = w.drewN n) (Q := fun a' => ∀ w', (∃ n, w' = w.drewN n) → Q .normal a' w') n l hd (fun _ w' hw' h => h w' hw') _ _ _ _ ⟨1, rfl⟩ ?_)
  have := wpAnyQ_lex (C := fun w' => ∃ n, w' = w.drewN n) (md := .any) hB.1 ls 0 (Array.replicate ls.toArray.size false) a (by simp) (by simpa using hB.2) h
  simpa using this

/-- no fence but for the round -/
def wideAt (ro : Option Nat) : Fence := { Fence.wide with round := ro }
section
variable {P : Program} {ops : Array Oper} {md : Region.Mode} {w : World}
theorem opIn_of_still {o : Oper} {a : Act} {K : Act → Prop} {K' : Act → World → Prop} {Q' : Exit → Act → World → Prop} (ro : Option Nat) (n : Nat) (hd : ∀ c, o.op ≠ .defer c) (h : ∀ a, K a → K' a w) (hh : o.still P a w K) : o.wpIn (wideAt ro) n P a w K' Q' := by
  refine ⟨fun f _ => trivial, ?_⟩
  unfold Oper.still at hh
  rw [Oper.semAt_eq _ _ _ hd]
  revert hh
  generalize (execOp a.eval o).run P w = r
  intro hh
  match r, hh with
  | .ok (.value u) w', hh =>
    obtain ⟨e1, h2⟩ := hh
    subst e1
    exact h _ h2
  | .ok .skip w', hh =>
    obtain ⟨e1, h2⟩ := hh
    subst e1
    exact h _ h2
  | .ok (.enter f args) w', hh =>
    obtain ⟨e1, v, hc, h2⟩ := hh
    subst e1
    refine ⟨fun hs => by simp [Fence.wide, wideAt] at hs, (callsIn_wide (n := n - 1)).2 (hc.mono fun e w'' he => ?_)⟩
    obtain ⟨rfl, rfl⟩ := he
    exact h _ h2
theorem opIn_of_stOp {i : Nat} {a : Act} {K : Act → Prop} {K' : Act → World → Prop} {Q' : Exit → Act → World → Prop} (ro : Option Nat) (n : Nat) (hd : noDefer ops = true) (h : ∀ a, K a → K' a w) (hh : stOp P ops w i K a) : wpOpIn (wideAt ro) n P ops Q' i K' a w := by
  unfold stOp at hh
  unfold wpOpIn
  split
  · rename_i ho; simp only [ho] at hh; exact h _ hh
  · rename_i o ho
    simp only [ho] at hh
    split
    · rename_i hw; simp only [hw, if_true] at hh; exact opIn_of_still ro n (noDefer_at hd ho) h hh
    · rename_i hw; simp only [hw] at hh; exact ⟨fun _ _ => trivial, h _ hh⟩
theorem anyIn_of_head {N g : Nat} {L : Array Bool → Act → Prop} {Q' : Exit → Act → World → Prop} (ro : Option Nat) (n : Nat) (hd : noDefer ops = true) (hL : ∀ listed a, L listed a → wpAnyIn (wideAt ro) n P md ops Q' g listed a w) :
    ∀ (f : Nat) (listed : Array Bool) (a : Act), wpAnyL P md ops w N L f listed a → wpAnyIn (wideAt ro) n P md ops Q' (f + g) listed a w
  | 0, listed, a, h => by rw [Nat.zero_add]; exact hL _ _ h
  | f + 1, listed, a, h => by
    rw [show f + 1 + g = (f + g) + 1 by omega]
    exact ⟨fun h0 => absurd h0 h.1, fun i hi => opIn_of_stOp ro n hd (fun a' h' => anyIn_of_head ro n hd hL f _ a' h') (h.2 i hi).2⟩
theorem anyIn_of_seq {Q' : Exit → Act → World → Prop} (ro : Option Nat) (n : Nat) : ∀ (l : List Oper) (k : Nat) (listed : Array Bool) (a : Act) (w : World), (∀ j, l[j]? = ops[k + j]?) →
    Region.seqB md ops l.length k listed = true → wpListIn (wideAt ro) n P ops Q' l a w → wpAnyIn (wideAt ro) n P md ops Q' l.length listed a w
  | [], _, _, _, _, _, hB, h => ⟨by simpa [Region.seqB] using hB, h⟩
  | o :: l, k, listed, a, w, hl, hB, h => by
    have h0 : ops[k]? = some o := by simpa using (hl 0).symm
    simp only [List.length_cons, Region.seqB, Bool.and_eq_true, decide_eq_true_eq] at hB
    refine ⟨fun h1 => (by rw [hB.1] at h1; cases h1), fun i hi => ?_⟩
    rw [hB.1] at hi
    have hik : i = k := by simpa using hi
    subst hik
    have hw : wpOpIn (wideAt ro) n P ops Q' i (wpListIn (wideAt ro) n P ops Q' l) a w := by unfold wpOpIn; simp only [h0]; exact h
    exact wpOpIn_mono (fun a' w' h' => anyIn_of_seq ro n l (i + 1) _ a' w' (fun j => by have := hl (j + 1); simpa [Nat.add_assoc, Nat.add_comm 1 j] using this) hB.2 h') hw
theorem wpIn_region_tail_ {id : Nat} {Q : Exit → Act → World → Prop} {a : Act} {l : List Oper} (ro : Option Nat) (n N : Nat) (hd : noDefer l.toArray = true) (hm : P.follows .mixedOrders = true) (hB : Region.lexTailB .any l.toArray N = true)
    (h : wpStill P l.toArray w.drew (fun a' => wpListIn (wideAt ro) n P l.toArray Q (l.drop N) a' w.drew) (l.take N) a) : (Code.region id l.toArray true).wpIn (wideAt ro) n P Q a w := by
  simp only [Region.lexTailB, Bool.and_eq_true, decide_eq_true_eq] at hB
  obtain ⟨⟨⟨⟨hsel, hn⟩, hs⟩, hc⟩, hlex⟩ := hB
  have hn' : N < l.length := by simpa using hn
  have htl : (l.take N).length = N := by simp; omega
  have hdl : (l.drop N).length = l.toArray.size - N := by simp
  have inv0 : HeadInv .any l.toArray N (Array.replicate l.toArray.size false) :=
    ⟨by simp, fun j oj _ hl => (by rw [getD_replicate_false] at hl; cases hl), fun t _ ht => getD_in (by simpa using ht) (getD_replicate_false _ _)⟩
  have H := wpAnyL_lex (md := .any) (g := l.toArray.size - N) hsel hs hc hn (l.take N) 0 _ a (fun j hj => by
    have hj' : j < N := by rw [htl] at hj; exact hj
    simp [hj']) (by simpa using htl) inv0 (by rw [htl]; exact hlex) h
  refine wpIn_region_any hm ?_
  have := anyIn_of_head (Q' := Q) (g := l.toArray.size - N) ro n hd (fun listed a' hL => by
    have := anyIn_of_seq (md := .any) (Q' := Q) ro n (l.drop N) N listed a' w.drew (fun j => by simp [List.getElem?_drop]) (by rw [hdl]; exact hL.1) hL.2
    rwa [hdl] at this) _ _ _ H
  rw [htl, show N + (l.toArray.size - N) = l.toArray.size by omega] at this
  exact this
/-- reads, then the last operations in their order -/
theorem wpIn_round_tail {id : Nat} {Q : Exit → Act → World → Prop} {a : Act} {l : List Oper} {lr : Nat} {n : Nat} (N : Nat) (hd : noDefer l.toArray = true) (hm : P.follows .mixedOrders = true) (hB : Region.lexTailB .any l.toArray N = true)
    (h : wpStill P l.toArray w.drew (fun a' => wpListIn (Fence.wide.inRound lr) n P l.toArray Q (l.drop N) a' w.drew) (l.take N) a) : (Code.region id l.toArray true).wpIn (Fence.wide.inRound lr) n P Q a w := wpIn_region_tail_ (some lr) n N hd hm hB h
theorem wpIn_wide_tail {id : Nat} {Q : Exit → Act → World → Prop} {a : Act} {l : List Oper} {n : Nat} (N : Nat) (hd : noDefer l.toArray = true) (hm : P.follows .mixedOrders = true) (hB : Region.lexTailB .any l.toArray N = true)
    (h : wpStill P l.toArray w.drew (fun a' => wpListIn Fence.wide n P l.toArray Q (l.drop N) a' w.drew) (l.take N) a) : (Code.region id l.toArray true).wpIn Fence.wide n P Q a w := wpIn_region_tail_ none n N hd hm hB h
end
end Go.Proofs.Ytkmdeaffhneibaa
