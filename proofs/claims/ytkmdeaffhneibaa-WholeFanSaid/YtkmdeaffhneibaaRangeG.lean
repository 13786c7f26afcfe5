/- A range over a function whose iterator hands out memory of its own: the contract tells the round what it is handed (G). Program-free. -/
import Derived.RangeFuncNested
import Derived.RangeFuncBound
import Derived.RangeFuncCalls
import Derived.RangeFuncLeaves
import Derived.Test.YtkmdeaffhneibaaOff
namespace Go.Proofs.Ytkmdeaffhneibaa
open Go.RowKit

/-- an iterator's word: at each call of yield it tells G of what it hands out; J, Jx: whatever the caller wants to keep -/
def SeqG {α : Type} (F : Fence) (n : Nat) (P : Program) (gf : Nat) (lb : Array Value) (encs : α → Array Value) (G : List α → α → World → Prop) (Kp : World → World → Prop) (S Sp : List α → Prop) (w : World) : Prop :=
  ∀ (l : Nat) (J Jx : List α → World → Prop) (W : World), Below w.heap.size w W → AbidesFrom W.heap.size J →
    (∀ pre x W1, J pre W1 → G pre x W1 → YieldAt F (n - 1) P l (encs x) W1 fun e W' => (e = .returned (.bool true) ∧ J (pre ++ [x]) W' ∧ Kp W1 W') ∨ (e = .returned (.bool false) ∧ Jx (pre ++ [x]) W')) →
    J [] W → CallsIn F n P gf (#[.func (.yield l) #[] #[]] ++ lb) W fun e W' => (∃ v, e = .returned v) ∧ ((∃ xs, S xs ∧ J xs W') ∨ ∃ pre, Sp pre ∧ Jx pre W')

/-- the loop's two blocks -/
def RecAt (D : Nat) (r : Loop) (W : World) : Prop := W.heap[D + 1]? = some (.loop r) ∧ W.heap[D]? = some (.deferred (some []))
theorem RecAt.keeps {D : Nat} {r : Loop} {W W' : World} (h : RecAt D r W) (hk : KeepsFrom D W W') : RecAt D r W' := ⟨hk.same _ _ (by omega) h.1 rfl, hk.same _ _ (Nat.le_refl _) h.2 rfl⟩
theorem RecAt.put {D : Nat} {r r' : Loop} {W : World} (h : RecAt D r W) : RecAt D r' (W.putObj (D + 1) (.loop r')) :=
  ⟨World.putObj_heap_same (Array.getElem?_eq_some_iff.1 h.1).1, (World.putObj_heap_other (by omega)).trans h.2⟩
theorem RecAt.grown {B D : Nat} {r : Loop} {W W' : World} {row : Option Nat} (h : RecAt D r W) (hg : W.grownBy W' row) (hr : ∀ k, row = some k → B ≤ k ∧ ∃ o : Obj, W.heap[k]? = some o ∧ o.isWalk = true) : RecAt D r W' :=
  ⟨(grownBy_keeps hg (fun k e => (hr k e).2) h.1 rfl).trans h.1, (grownBy_keeps hg (fun k e => (hr k e).2) h.2 rfl).trans h.2⟩

theorem wpIn_range_gn {F : Fence} {n : Nat} {P : Program} {α : Type} {g : Operand} {ps : Array Tmp} {assign body : Code} {Q : Exit → Act → World → Prop} {a : Act} {w : World}
    (hro : F.round = none) (h1 : 1 ≤ n) {gf : Nat} {lb : Array Value} (hg : a.eval g = .func (.func gf) #[] lb) (hFg : F.fn gf) (eg : ∀ args w, (callFunc gf args).run P w = .ok (.enter gf args) w)
    {encs : α → Array Value} {G : List α → α → World → Prop} {Kp : World → World → Prop} {S Sp : List α → Prop} (hseq : SeqG F (n - 1) P gf lb encs G Kp S Sp w)
    (hKt : ∀ {A B C : World}, Kp A B → Kp B C → Kp A C) (hKb : ∀ (W : World) (o o' : Obj), W.heap[w.heap.size + 1]? = some o → o.isCells = false → Kp W (W.putObj (w.heap.size + 1) o')) (hps : ∀ x, (encs x).size = ps.size)
    (I : List α → World → Prop) (Ix : Code → List α → World → Prop) (hI : OwnFrom w.heap.size I) (hIx : ∀ c, OwnFrom w.heap.size (Ix c)) (h0 : I [] w) (Ax : List α → α → Act → World → Prop) (hAx : ∀ pre x a', OwnFrom w.heap.size (fun (_ : Unit) W => Ax pre x a' W))
    (hassign : ∀ (l : Nat) (pre : List α) (x : α) (W : World) (K : Act → World → Prop), w.heap.size + 2 ≤ W.heap.size → I pre W → G pre x W → (∀ a' W', KeepsFrom w.heap.size W W' → Kp W W' → I pre W' → Ax pre x a' W' → K a' W') →
      assign.wpIn (F.inRound l) (n - 1 - 1) P (Exit.then K (fun _ _ _ => False)) { tmps := (ps.zip (encs x)).foldl (fun t (p, v) => t.setIfInBounds p v) a.tmps, defers := [] } W)
    (hbody : ∀ (l : Nat) (pre : List α) (x : α) (a' : Act) (W : World), w.heap.size + 2 ≤ W.heap.size → (∃ r, W.heap[l]? = some (.loop r)) → I pre W → Ax pre x a' W → body.wpIn (F.inRound l) (n - 1 - 1) P (ownPostG w.heap.size Kp I Ix (pre ++ [x]) W) a' W)
    (hdone : ∀ (D : Nat) (xs : List α) (W : World), w.heap.size ≤ D → S xs → I xs W → W.heap[D]? = some (.deferred (some [])) → Q .normal { a with defers := { target := .collected D, args := #[] } :: a.defers } W)
    (hstop : ∀ (D : Nat) (c : Code) (pre : List α) (W : World), w.heap.size ≤ D → Sp pre → Ix c pre W → W.heap[D]? = some (.deferred (some [])) → c.wpIn F n P Q { a with defers := { target := .collected D, args := #[] } :: a.defers } W) :
    (Code.rangeFunc g ps assign body).wpIn F n P Q a w := by
  refine wpIn_rangeFunc fun fn hfn => ?_
  rw [hro]
  obtain ⟨D, hD⟩ : ∃ D, D = w.heap.size := ⟨_, rfl⟩
  obtain ⟨rc, hrc⟩ : ∃ rc : LoopState → Option Code → Loop, rc = fun st pe => { state := st, pending := pe, fn, tmps := a.tmps, params := ps, assign, body, defers := w.heap.size } := ⟨_, rfl⟩
  obtain ⟨W1, hW1⟩ : ∃ W1, W1 = (w.alloc (.deferred (some []))).alloc (.loop (rc .ready none)) := ⟨_, rfl⟩
  have hR1 : RecAt D (rc .ready none) W1 := by
    subst hW1 hD
    have h2 := World.alloc_heap_new (w.alloc (.deferred (some []))) (.loop (rc .ready none))
    rw [World.size_alloc] at h2
    exact ⟨h2, (Below.heap_alloc _ _ _ (by simp)).trans (World.alloc_heap_new w _)⟩
  have hB1 : Below w.heap.size w W1 := by
    subst hW1
    exact ((Below.refl _ w).alloc (Nat.le_refl _) _).alloc (by simp) _
  have hI1 : I [] W1 := by subst hW1; exact hI.alloc _ (hI.alloc _ h0)
  have hlen1 : D + 2 ≤ W1.heap.size := by subst hW1 hD; simp
  refine ⟨D + 1, [{ target := .collected D, args := #[] }], W1, { target := .fn (.func gf) lb, args := #[.func (.yield (D + 1)) #[] #[]] }, W1, gf, #[.func (.yield (D + 1)) #[] #[]] ++ lb, W1, ?_, ?_, ?_, ?_, fun _ => h1, ?_⟩
  · subst hW1 hD hrc
    exact run_enterLoop_outer _ _ _ _ _
  · simp only [resolve, hg]
    simp [go_sem]
  · intro f' hf'
    simp [Target.leads] at hf'
    subst hf'
    exact hFg
  · simp [invoke, go_sem, eg]
  have fin : ∀ (r : Loop) (jump : Option Code) (W : World), r = rc .busy none → RecAt D r W → (Instr.endRound (D + 1) jump).run P W = .ok (.bool jump.isNone) (W.putObj (D + 1) (.loop (rc (if jump.isNone then .ready else .done) jump))) ∧ RecAt D (rc (if jump.isNone then .ready else .done) jump) (W.putObj (D + 1) (.loop (rc (if jump.isNone then .ready else .done) jump))) := fun r jump W er hR => by
    refine ⟨?_, hR.put⟩
    have h2 := run_endRound (P := P) jump hR.1
    subst er hrc
    exact h2
  refine (hseq (D + 1) (fun pre W => I pre W ∧ RecAt D (rc .ready none) W ∧ D + 2 ≤ W.heap.size) (fun pre W => ∃ c, Ix c pre W ∧ RecAt D (rc .done (some c)) W) W1 hB1 ?_ ?_ ⟨hI1, hR1, hlen1⟩).mono ?_
  · rintro s X Y row ⟨q1, q2, q3⟩ hgr hr
    refine ⟨hI s X Y row q1 hgr (fun k e => ?_), q2.grown hgr hr, Nat.le_trans q3 hgr.size⟩
    obtain ⟨q4, o, q5, q6⟩ := hr k e
    exact ⟨Nat.le_trans hB1.size q4, o, q5, Obj.not_cells_of_walk q6⟩
  · rintro pre x W ⟨hi, hR, hlen⟩ hG
    have hy := run_yield (P := P) (args := encs x) hR.1 (by rw [hrc]; exact hps x)
    have hy2 : (Instr.yield (D + 1) (encs x)).run P W = .ok (.round (D + 1) fn ((ps.zip (encs x)).foldl (fun t (p, v) => t.setIfInBounds p v) a.tmps) assign body) W := by
      rw [hrc] at hy
      exact hy
    refine ⟨fn, _, assign, body, hy2, roundIn_of_wpIn hfn (hassign _ pre x W _ (by omega) hi hG ?_)⟩
    intro a' W2 hk2 hkp2 hi2 hax2
    rw [← hD] at hk2
    have hR2 := hR.keeps hk2
    have hlen2 : D + 2 ≤ W2.heap.size := Nat.le_trans hlen hk2.size
    refine ⟨W2.putObj (D + 1) (.loop (rc .busy none)), by have h2 := run_beginRound (P := P) hR2.1 (by rw [hrc]); rw [hrc] at h2 ⊢; exact h2, ?_⟩
    have hR3 : RecAt D (rc .busy none) (W2.putObj (D + 1) (.loop (rc .busy none))) := hR2.put
    have hkp3 : Kp W (W2.putObj (D + 1) (.loop (rc .busy none))) := hKt hkp2 (by rw [hD]; exact hKb _ _ _ (by rw [← hD]; exact hR2.1) rfl)
    refine wpIn_mono (hbody _ pre x a' _ (by rw [World.putObj_size]; omega) ⟨_, hR3.1⟩ (hI.putObj _ hi2 (by omega) hR2.1 rfl) ((hAx pre x a').putObj (s := ()) _ hax2 (by omega) hR2.1 rfl)) ?_
    rintro e a3 W3 hp
    cases e with
    | normal =>
      obtain ⟨k3, k4, k5⟩ := hp
      rw [← hD] at k3
      obtain ⟨h2, h3⟩ := fin _ none W3 rfl (hR3.keeps k3)
      exact ⟨_, _, h2, .inl ⟨rfl, ⟨hI.putObj _ k5 (by omega) (hR3.keeps k3).1 rfl, h3, by rw [World.putObj_size]; have := k3.size; rw [World.putObj_size] at this; omega⟩, hKt hkp3 (hKt k4 (by rw [hD]; exact hKb _ _ _ (by rw [← hD]; exact (hR3.keeps k3).1) rfl))⟩⟩
    | ret =>
      obtain ⟨k3, k5⟩ := hp
      rw [← hD] at k3
      obtain ⟨h2, h3⟩ := fin _ (some .ret) W3 rfl (hR3.keeps k3)
      exact ⟨_, _, h2, .inr ⟨rfl, .ret, (hIx _).putObj _ k5 (by omega) (hR3.keeps k3).1 rfl, h3⟩⟩
    | exit id =>
      obtain ⟨k3, k5⟩ := hp
      rw [← hD] at k3
      obtain ⟨h2, h3⟩ := fin _ (some (.exit id)) W3 rfl (hR3.keeps k3)
      exact ⟨_, _, h2, .inr ⟨rfl, .exit id, (hIx _).putObj _ k5 (by omega) (hR3.keeps k3).1 rfl, h3⟩⟩
    | goto t =>
      obtain ⟨k3, k5⟩ := hp
      rw [← hD] at k3
      obtain ⟨h2, h3⟩ := fin _ (some (.goto t)) W3 rfl (hR3.keeps k3)
      exact ⟨_, _, h2, .inr ⟨rfl, .goto t, (hIx _).putObj _ k5 (by omega) (hR3.keeps k3).1 rfl, h3⟩⟩
    | panic ch => exact hp.elim
    | outgrown => exact hp.elim
  · rintro e W2 ⟨⟨v, rfl⟩, ⟨xs, hS, hi, hR, _⟩ | ⟨pre, hSp, c, hi, hR⟩⟩
    · exact ⟨none, _, by have h2 := run_endLoop (P := P) hR.1 (by rw [hrc]; simp); rw [hrc] at h2; exact h2, hdone D xs _ (by omega) hS (hI.putObj _ hi (by omega) hR.1 rfl) ((World.putObj_heap_other (by omega)).trans hR.2)⟩
    · exact ⟨some c, _, by have h2 := run_endLoop (P := P) hR.1 (by rw [hrc]; simp); rw [hrc] at h2; exact h2, hstop D c pre _ (by omega) hSp ((hIx c).putObj _ hi (by omega) hR.1 rfl) ((World.putObj_heap_other (by omega)).trans hR.2)⟩
theorem wpIn_range_g {F : Fence} {n : Nat} {P : Program} {α : Type} {g : Operand} {ps : Array Tmp} {assign body : Code} {Q : Exit → Act → World → Prop} {a : Act} {w : World}
    (hro : F.round = none) (h1 : 1 ≤ n) {gf : Nat} {lb : Array Value} (hg : a.eval g = .func (.func gf) #[] lb) (hFg : F.fn gf) (eg : ∀ args w, (callFunc gf args).run P w = .ok (.enter gf args) w)
    {encs : α → Array Value} {G : List α → α → World → Prop} {Kp : World → World → Prop} {S Sp : List α → Prop} (hseq : SeqG F (n - 1) P gf lb encs G Kp S Sp w)
    (hKt : ∀ {A B C : World}, Kp A B → Kp B C → Kp A C) (hKb : ∀ (W : World) (o o' : Obj), W.heap[w.heap.size + 1]? = some o → Kp W (W.putObj (w.heap.size + 1) o')) (hps : ∀ x, (encs x).size = ps.size)
    (I : List α → World → Prop) (Ix : Code → List α → World → Prop) (hI : OwnFrom w.heap.size I) (hIx : ∀ c, OwnFrom w.heap.size (Ix c)) (h0 : I [] w) (Ax : List α → α → Act → World → Prop) (hAx : ∀ pre x a', OwnFrom w.heap.size (fun (_ : Unit) W => Ax pre x a' W))
    (hassign : ∀ (l : Nat) (pre : List α) (x : α) (W : World) (K : Act → World → Prop), w.heap.size + 2 ≤ W.heap.size → I pre W → G pre x W → (∀ a' W', KeepsFrom w.heap.size W W' → Kp W W' → I pre W' → Ax pre x a' W' → K a' W') →
      assign.wpIn (F.inRound l) (n - 1 - 1) P (Exit.then K (fun _ _ _ => False)) { tmps := (ps.zip (encs x)).foldl (fun t (p, v) => t.setIfInBounds p v) a.tmps, defers := [] } W)
    (hbody : ∀ (l : Nat) (pre : List α) (x : α) (a' : Act) (W : World), w.heap.size + 2 ≤ W.heap.size → (∃ r, W.heap[l]? = some (.loop r)) → I pre W → Ax pre x a' W → body.wpIn (F.inRound l) (n - 1 - 1) P (ownPostG w.heap.size Kp I Ix (pre ++ [x]) W) a' W)
    (hdone : ∀ (D : Nat) (xs : List α) (W : World), w.heap.size ≤ D → S xs → I xs W → W.heap[D]? = some (.deferred (some [])) → Q .normal { a with defers := { target := .collected D, args := #[] } :: a.defers } W)
    (hstop : ∀ (D : Nat) (c : Code) (pre : List α) (W : World), w.heap.size ≤ D → Sp pre → Ix c pre W → W.heap[D]? = some (.deferred (some [])) → c.wpIn F n P Q { a with defers := { target := .collected D, args := #[] } :: a.defers } W) :
    (Code.rangeFunc g ps assign body).wpIn F n P Q a w :=
  wpIn_range_gn hro h1 hg hFg eg hseq hKt (fun W o o' h _ => hKb W o o' h) hps I Ix hI hIx h0 Ax hAx hassign hbody hdone hstop
end Go.Proofs.Ytkmdeaffhneibaa
