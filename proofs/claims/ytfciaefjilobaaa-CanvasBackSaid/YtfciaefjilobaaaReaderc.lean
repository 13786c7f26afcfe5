/- Walks: the reader's canvas: all runs of a picture's words. -/
import Derived.Test.YtfciaefjilobaaaTakesc
import Derived.Test.YtfciaefjilobaaaEqp
import Derived.ScopeJumps
import Derived.WalkMore
namespace Go.Proofs.Ytfciaefjilobaaa
open Go.RowKit

theorem RdS.le_of_succ {w : World} {g n c p : Nat} {A : Option Addr} {ws : List Int} (h : RdS w g A n c ws (p + 1)) : p ≤ n := by have := h.pn; omega
theorem RdS.low {w : World} {g n c p : Nat} {A : Option Addr} {ws : List Int} (h : RdS w g A n c ws p) (hn : 0 < n) {a : Addr} (ha : A = some a) : a.block < w.heap.size := by
  obtain ⟨ad, e, hb, _⟩ := h.rd.2 hn
  rw [ha] at e
  cases e
  exact hb
theorem off_new {S : Nat → Prop} {b : Nat} {w w1 w2 : World} (h : Off S w w1) (k : Off (fun k => k = b) w1 w2) (hb : w.heap.size ≤ b) : Off S w w2 :=
  ((h.mono (S' := fun k => S k ∨ k = b) (fun _ _ h => .inl h)).trans (k.mono (fun _ _ h => .inr h))).mono (fun r hr h => by rcases h with h | h; exact h; omega)
theorem sized_pad {N W H t : Nat} {back : Int} {pre : List Pix} {x : Pix} (h : Sized N W H back (padP pre N)) (hl : pre.length + t ≤ N) (hx : okPix x) : Sized N W H back (padP (pre ++ List.replicate t x) N) := by
  refine ⟨h.area, h.w1, h.w2, h.h1, h.h2, h.b0, h.b1, padP_length (by simp; omega), fun q hq => ?_⟩
  have hok := h.ok
  unfold padP at hq hok
  rcases List.mem_append.1 hq with hq | hq
  · rcases List.mem_append.1 hq with hq | hq
    · exact hok q (List.mem_append_left _ hq)
    · rw [List.eq_of_mem_replicate hq]; exact hx
  · rw [List.eq_of_mem_replicate hq]; unfold okPix noPix; decide
/-- a scope with one label that the run comes to and jumps back to: what stands behind the label is walked once -/
theorem wp_scope_once {P : Program} {c rest : Code} {Q : Exit → Act → World → Prop} {a : Act} {w : World} (l : Nat) (J : Act → World → Prop) (μ : Act → World → Nat) (hf : findLabel c l = some (.seq .skip rest))
    (first : Hid (∀ a' w', J a' w' → rest.wp P (Exit.jump l J Q) a' w') → c.wp P (Exit.jump l J Q) a w)
    (pass : ∀ a w m, J a w → μ a w = m → rest.wp P (Exit.jump l (fun a' w' => J a' w' ∧ μ a' w' < m) Q) a w) : (Code.scope c).wp P Q a w :=
  wp_scope_jumps l J μ hf (first (Lib.hid fun a' w' h => wp_mono (pass a' w' _ h rfl) (fun e a2 w2 h2 => by
    cases e with
    | goto l' => exact ⟨h2.1, h2.2.1⟩
    | _ => exact h2))) (fun a w h => wp_seq (wp_skip (pass a w _ h rfl)))
theorem wp_goto_jump {P : Program} {J : Act → World → Prop} {Q : Exit → Act → World → Prop} {a : Act} {w : World} {l : Nat} (h : J a w) : (Code.goto l).wp P (Exit.jump l J Q) a w := wp_goto ⟨rfl, h⟩

theorem stepW_end {ws : List Int} {N p dn : Nat} {lp : Pix} (h : ws.length ≤ p) : stepW ws N p dn lp = .error p := by unfold stepW; rw [if_pos h]
theorem stepW_many {ws : List Int} {N p dn : Nat} {lp : Pix} (h : p < ws.length) (hb : (ix ws p / 2).toNat < 1 ∨ N - dn < (ix ws p / 2).toNat) : stepW ws N p dn lp = .error p := by
  unfold stepW; rw [if_neg (by omega), if_pos hb]
theorem stepW_even_same {ws : List Int} {N p dn : Nat} {lp : Pix} (h : p < ws.length) (hb : ¬ ((ix ws p / 2).toNat < 1 ∨ N - dn < (ix ws p / 2).toNat)) (he : ix ws p % 2 = 0) (hs : 0 < dn ∧ lp.1 = false) : stepW ws N p dn lp = .error p := by
  unfold stepW; rw [if_neg (by omega), if_neg hb, if_pos he, if_pos hs]
theorem stepW_even {ws : List Int} {N p dn : Nat} {lp : Pix} (h : p < ws.length) (hb : ¬ ((ix ws p / 2).toNat < 1 ∨ N - dn < (ix ws p / 2).toNat)) (he : ix ws p % 2 = 0) (hs : ¬ (0 < dn ∧ lp.1 = false)) : stepW ws N p dn lp = .ok (p + 1, (ix ws p / 2).toNat, noPix) := by
  unfold stepW; rw [if_neg (by omega), if_neg hb, if_pos he, if_neg hs]
theorem stepW_short {ws : List Int} {N p dn : Nat} {lp : Pix} (h : p < ws.length) (hb : ¬ ((ix ws p / 2).toNat < 1 ∨ N - dn < (ix ws p / 2).toNat)) (he : ¬ ix ws p % 2 = 0) (hs : ws.length < p + 3) : stepW ws N p dn lp = .error ws.length := by
  unfold stepW; rw [if_neg (by omega), if_neg hb, if_neg he, if_pos hs]
theorem stepW_odd_same {ws : List Int} {N p dn : Nat} {lp : Pix} (h : p + 3 ≤ ws.length) (hb : ¬ ((ix ws p / 2).toNat < 1 ∨ N - dn < (ix ws p / 2).toNat)) (he : ¬ ix ws p % 2 = 0) (hs : 0 < dn ∧ lp = (true, wrap32 (ix ws (p + 2)), ix ws (p + 1))) : stepW ws N p dn lp = .error (p + 2) := by
  unfold stepW; rw [if_neg (by omega), if_neg hb, if_neg he, if_neg (by omega), if_pos hs]
theorem stepW_odd {ws : List Int} {N p dn : Nat} {lp : Pix} (h : p + 3 ≤ ws.length) (hb : ¬ ((ix ws p / 2).toNat < 1 ∨ N - dn < (ix ws p / 2).toNat)) (he : ¬ ix ws p % 2 = 0) (hs : ¬ (0 < dn ∧ lp = (true, wrap32 (ix ws (p + 2)), ix ws (p + 1)))) : stepW ws N p dn lp = .ok (p + 3, (ix ws p / 2).toNat, (true, wrap32 (ix ws (p + 2)), ix ws (p + 1))) := by
  unfold stepW; rw [if_neg (by omega), if_neg hb, if_neg he, if_neg (by omega), if_neg hs]
theorem runW_err {ws : List Int} {N f p k : Nat} {pre : List Pix} (h : pre.length < N) (hs : stepW ws N p pre.length (px pre (pre.length - 1)) = .error k) : runW ws N (f + 1) p pre = .error k := by
  rw [runW, if_neg (by omega), hs]
theorem runW_ok {ws : List Int} {N f p q m : Nat} {x : Pix} {pre : List Pix} (h : pre.length < N) (hs : stepW ws N p pre.length (px pre (pre.length - 1)) = .ok (q, m, x)) : runW ws N (f + 1) p pre = runW ws N f q (pre ++ List.replicate m x) := by
  rw [runW, if_neg (by omega), hs]
theorem runW_more {ws : List Int} {N f p : Nat} {pre : List Pix} (h : N ≤ pre.length) (hs : p < ws.length) : runW ws N (f + 1) p pre = .error p := by
  rw [runW, if_pos h, if_pos hs]
theorem runW_done {ws : List Int} {N f p : Nat} {pre : List Pix} (h : N ≤ pre.length) (hs : ¬ p < ws.length) : runW ws N (f + 1) p pre = .ok pre := by
  rw [runW, if_pos h, if_neg hs]

theorem Blk.store3 {w : World} {g : Nat} {t : TypeId} {c0 c1 c2 : Value} (h : Blk w g t #[c0, c1, c2]) (v0 v1 v2 : Value) : w.cell? ⟨g, 0, none⟩ = some c0 ∧ w.frozen? ⟨g, 0, none⟩ = false ∧
    (w.setCell ⟨g, 0, none⟩ v0).cell? ⟨g, 1, none⟩ = some c1 ∧ (w.setCell ⟨g, 0, none⟩ v0).frozen? ⟨g, 1, none⟩ = false ∧
    ((w.setCell ⟨g, 0, none⟩ v0).setCell ⟨g, 1, none⟩ v1).cell? ⟨g, 2, none⟩ = some c2 ∧ ((w.setCell ⟨g, 0, none⟩ v0).setCell ⟨g, 1, none⟩ v1).frozen? ⟨g, 2, none⟩ = false ∧
    Blk (((w.setCell ⟨g, 0, none⟩ v0).setCell ⟨g, 1, none⟩ v1).setCell ⟨g, 2, none⟩ v2) g t #[v0, v1, v2] := by
  have h1 : Blk (w.setCell ⟨g, 0, none⟩ v0) g t #[v0, c1, c2] := by simpa using h.set_ 0 v0
  have h2 : Blk ((w.setCell ⟨g, 0, none⟩ v0).setCell ⟨g, 1, none⟩ v1) g t #[v0, v1, c2] := by simpa using h1.set_ 1 v1
  have h3 : Blk (((w.setCell ⟨g, 0, none⟩ v0).setCell ⟨g, 1, none⟩ v1).setCell ⟨g, 2, none⟩ v2) g t #[v0, v1, v2] := by simpa using h2.set_ 2 v2
  exact ⟨h.cell 0, h.frozen 0, h1.cell 1, h1.frozen 1, h2.cell 2, h2.frozen 2, h3⟩
theorem off_put3 (w : World) (g : Nat) (v0 v1 v2 : Value) : Off (fun k => k = g) w (((w.setCell ⟨g, 0, none⟩ v0).setCell ⟨g, 1, none⟩ v1).setCell ⟨g, 2, none⟩ v2) :=
  (((Off.refl (fun k => k = g) w).set_ (p := ⟨g, 0, none⟩) (.inl rfl) v0).set_ (p := ⟨g, 1, none⟩) (.inl rfl) v1).set_ (p := ⟨g, 2, none⟩) (.inl rfl) v2
theorem px_last {pre : List Pix} {m : Nat} {x : Pix} (hm : 1 ≤ m) : px (pre ++ List.replicate m x) ((pre ++ List.replicate m x).length - 1) = x := by
  unfold px List.getD
  rw [List.length_append, List.length_replicate, List.getElem?_append_right (by omega), List.getElem?_replicate, if_pos (by omega)]
  rfl
theorem padP_next {pre : List Pix} {n t : Nat} {x : Pix} (h : pre.length + t < n) : (padP (pre ++ List.replicate t x) n).set (pre.length + t) x = padP (pre ++ List.replicate (t + 1) x) n := by
  have h1 : (pre ++ List.replicate t x).length = pre.length + t := by simp
  have h2 := padP_set (pre := pre ++ List.replicate t x) (n := n) (p := x) (by omega)
  rw [h1] at h2
  rw [h2, List.append_assoc, ← List.replicate_succ']

/-- what lies at the label -/
structure RSt (w w1 : World) (g : Nat) (A : Option Addr) (n c : Nat) (ws : List Int) (N W H : Nat) (back : Int) (gC gp bl p f : Nat) (pre : List Pix) : Prop where
  rd : RdS w1 g A n c ws p
  can : CanS w1 w.heap.size gC gp N N W H back (padP pre N)
  last : Blk w1 bl 82 #[.bool (px pre (pre.length - 1)).1, .int .i32 (px pre (pre.length - 1)).2.1, .int .u32 (px pre (pre.length - 1)).2.2]
  none_ : (px pre (pre.length - 1)).1 = false → px pre (pre.length - 1) = noPix
  lenN : pre.length ≤ N
  fuel : N < f + pre.length
  run : runW ws N f p pre = runW ws N (N + 1) 4 []
  off : Off (fun k => k = g) w w1
  lowC : w.heap.size ≤ gC
  lowB : w.heap.size ≤ bl
  nep : bl ≠ gp
  nec : bl ≠ gC
theorem RSt.next {w wr : World} {g : Nat} {A : Option Addr} {n c : Nat} {ws : List Int} {N W H : Nat} {back : Int} {gC gp bl p q f t : Nat} {pre : List Pix} {x : Pix} {c0 c1 c2 : Value}
    (can : CanS wr w.heap.size gC gp N N W H back (padP (pre ++ List.replicate t x) N)) (rd : RdS wr g A n c ws q) (last : Blk wr bl 82 #[c0, c1, c2]) (off : Off (fun k => k = g) w wr)
    (ht : 1 ≤ t) (htN : pre.length + t ≤ N) (fuel : N < f + 1 + pre.length) (run : runW ws N (f + 1) p pre = runW ws N (N + 1) 4 []) (hR : runW ws N (f + 1) p pre = runW ws N f q (pre ++ List.replicate t x))
    (lowC : w.heap.size ≤ gC) (lowB : w.heap.size ≤ bl) (nep : bl ≠ gp) (nec : bl ≠ gC) (hg : g < w.heap.size) (hA : ∀ a, A = some a → a.block < w.heap.size) (hx : x.1 = false → x = noPix) :
    RSt w (((wr.setCell ⟨bl, 0, none⟩ (.bool x.1)).setCell ⟨bl, 1, none⟩ (.int .i32 x.2.1)).setCell ⟨bl, 2, none⟩ (.int .u32 x.2.2)) g A n c ws N W H back gC gp bl q f (pre ++ List.replicate t x) := by
  have ho := off_put3 wr bl (.bool x.1) (.int .i32 x.2.1) (.int .u32 x.2.2)
  have hl := (last.store3 (.bool x.1) (.int .i32 x.2.1) (.int .u32 x.2.2)).2.2.2.2.2.2
  have hlen : (pre ++ List.replicate t x).length = pre.length + t := by simp
  have hpx := px_last (pre := pre) (x := x) ht
  refine ⟨rd.off ho (by omega) (fun a ha => by have := hA a ha; omega), can.off ho (by omega) (by omega), ?_, ?_, by omega, by omega, by rw [← hR, run], off_new off ho lowB, lowC, lowB, nep, nec⟩
  · rw [hpx]; exact hl
  · rw [hpx]; exact hx
/-- what the reader's canvas answers -/
def RcR (w : World) (g : Nat) (A : Option Addr) (n c : Nat) (ws : List Int) (e : Ending) (w' : World) : Prop :=
  Off (fun k => k = g) w w' ∧ match readW ws with
    | .error k => (∃ q, e = .returned (.tuple #[.pointer q, .bool false])) ∧ RdS w' g A n c ws k
    | .ok (W, H, back, ps) => ∃ gC gp, e = .returned (.tuple #[.pointer (some ⟨gC, 0, none⟩), .bool true]) ∧ CanS w' w.heap.size gC gp (W * H) (W * H) W H back ps
theorem RcR.err {w w' : World} {g : Nat} {A : Option Addr} {n c k : Nat} {ws : List Int} {q : Option Addr} (ho : Off (fun k => k = g) w w') (h : readW ws = .error k) (hr : RdS w' g A n c ws k) : RcR w g A n c ws (.returned (.tuple #[.pointer q, .bool false])) w' := by
  refine ⟨ho, ?_⟩
  rw [h]
  exact ⟨⟨q, rfl⟩, hr⟩
theorem RcR.ok {w w' : World} {g : Nat} {A : Option Addr} {n c W H gC gp : Nat} {back : Int} {ws : List Int} {ps : List Pix} (ho : Off (fun k => k = g) w w') (h : readW ws = .ok (W, H, back, ps)) (hr : CanS w' w.heap.size gC gp (W * H) (W * H) W H back ps) : RcR w g A n c ws (.returned (.tuple #[.pointer (some ⟨gC, 0, none⟩), .bool true])) w' := by
  refine ⟨ho, ?_⟩
  rw [h]
  exact ⟨gC, gp, rfl, hr⟩

theorem tmps_of (t : Array Value) (n : Nat) (h : t.size = n) : t = ((List.range n).map (fun i => t.getD i undef)).toArray := by
  apply Array.ext
  · simp [h]
  · intro i h1 h2
    simp [Array.getD, h1]
theorem act150 (a : Act) (hd : a.defers = []) (hs : a.tmps.size = 150) : ∃ u : Nat → Value, (∀ i, a.tmps.getD i undef = u i) ∧ a = { tmps := #[u 0, u 1, u 2, u 3, u 4, u 5, u 6, u 7, u 8, u 9, u 10, u 11, u 12, u 13, u 14, u 15, u 16, u 17, u 18, u 19, u 20, u 21, u 22, u 23, u 24, u 25, u 26, u 27, u 28, u 29, u 30, u 31, u 32, u 33, u 34, u 35, u 36, u 37, u 38, u 39, u 40, u 41, u 42, u 43, u 44, u 45, u 46, u 47, u 48, u 49, u 50, u 51, u 52, u 53, u 54, u 55, u 56, u 57, u 58, u 59, u 60, u 61, u 62, u 63, u 64, u 65, u 66, u 67, u 68, u 69, u 70, u 71, u 72, u 73, u 74, u 75, u 76, u 77, u 78, u 79, u 80, u 81, u 82, u 83, u 84, u 85, u 86, u 87, u 88, u 89, u 90, u 91, u 92, u 93, u 94, u 95, u 96, u 97, u 98, u 99, u 100, u 101, u 102, u 103, u 104, u 105, u 106, u 107, u 108, u 109, u 110, u 111, u 112, u 113, u 114, u 115, u 116, u 117, u 118, u 119, u 120, u 121, u 122, u 123, u 124, u 125, u 126, u 127, u 128, u 129, u 130, u 131, u 132, u 133, u 134, u 135, u 136, u 137, u 138, u 139, u 140, u 141, u 142, u 143, u 144, u 145, u 146, u 147, u 148, u 149], defers := [] } := by
  refine ⟨fun i => a.tmps.getD i undef, fun i => rfl, ?_⟩
  have h := tmps_of a.tmps 150 hs
  generalize (fun i => a.tmps.getD i undef) = u at h ⊢
  obtain ⟨t, d⟩ := a
  obtain rfl : d = [] := hd
  have h2 : t = ((List.range 150).map u).toArray := h
  rw [h2]
  exact congrArg (fun t => ({ tmps := t, defers := [] } : Act)) (by kernel_rfl)
/-- the label's frame -/
structure JSt (w : World) (g : Nat) (A : Option Addr) (n c : Nat) (ws : List Int) (N W H : Nat) (back : Int) (a : Act) (w1 : World) (hd gC gp bl p f : Nat) (pre : List Pix) : Prop where
  head : headAt ws 4 0 = none
  defers : a.defers = []
  size : a.tmps.size = 150
  fix : a.tmps.getD 0 undef = .pointer (some ⟨g, 0, none⟩) ∧ a.tmps.getD 4 undef = .pointer (some ⟨hd, 0, none⟩) ∧ a.tmps.getD 9 undef = .pointer (some ⟨gC, 0, none⟩) ∧ a.tmps.getD 11 undef = .pointer (some ⟨bl, 0, none⟩) ∧ a.tmps.getD 12 undef = .int .i64 pre.length
  st : RSt w w1 g A n c ws N W H back gC gp bl p f pre
theorem readW_err {ws : List Int} {k : Nat} (h : headAt ws 4 0 = none) (hr : runW ws ((ix ws 1).toNat * (ix ws 2).toNat) ((ix ws 1).toNat * (ix ws 2).toNat + 1) 4 [] = .error k) : readW ws = .error k := by
  unfold readW; rw [h]; simp only; rw [hr]
theorem readW_ok {ws : List Int} {ps : List Pix} (h : headAt ws 4 0 = none) (hr : runW ws ((ix ws 1).toNat * (ix ws 2).toNat) ((ix ws 1).toNat * (ix ws 2).toNat + 1) 4 [] = .ok ps) : readW ws = .ok ((ix ws 1).toNat, (ix ws 2).toNat, ix ws 3, ps) := by
  unfold readW; rw [h]; simp only; rw [hr]
theorem headBad_end {ws : List Int} {k : Nat} (h : ws.length ≤ k) : headBad ws k = true := by unfold headBad; simp [h]
theorem headBad_out {ws : List Int} {k : Nat} (h : okHead k (ix ws k) = false) : headBad ws k = true := by unfold headBad; simp [h]
theorem HeadTo.more {ws : List Int} {k : Nat} (h : HeadTo ws k) (hk : k < ws.length) (ho : okHead k (ix ws k) = true) : HeadTo ws (k + 1) := by
  intro i hi
  rcases Nat.lt_or_ge i k with h1 | h1
  · exact h i h1
  · obtain rfl : i = k := by omega
    unfold headBad
    simp [ho]
    omega
def hv (ws : List Int) (k j : Nat) : Int := if j < k then ix ws j else 0
set_option maxRecDepth 20000 in
set_option maxHeartbeats 2000000 in
theorem rcanvas_any {w : World} {g n c : Nat} {A : Option Addr} {ws : List Int} (h : RdS w g A n c ws 0) :
    Calls Try.prog 44 #[.pointer (some ⟨g, 0, none⟩)] w (RcR w g A n c ws) := by
  obtain ⟨N, hN⟩ : ∃ N, (ix ws 1).toNat * (ix ws 2).toNat = N := ⟨_, rfl⟩
  obtain ⟨W, hWd⟩ : ∃ W, (ix ws 1).toNat = W := ⟨_, rfl⟩
  obtain ⟨H, hHd⟩ : ∃ H, (ix ws 2).toNat = H := ⟨_, rfl⟩
  obtain ⟨back, hback⟩ : ∃ back, ix ws 3 = back := ⟨_, rfl⟩
  go_enter Try.func44, Try.ntmps44
  go_wp2
  refine wp_scope_once 0 (fun a w1 => ∃ hd gC gp bl p f pre, JSt w g A n c ws N W H back a w1 hd gC gp bl p f pre) (fun a _ => N - (intOf (a.tmps.getD 12 undef)).toNat) rfl ?_ ?_
  · intro hR
    obtain ⟨hd, hhd⟩ : ∃ hd, w.heap.size = hd := ⟨_, rfl⟩
    subst hback
    have hgl := h.blk.lt
    have ia0 : ∀ w, (Instr.index 111 (.agg #[.int .u32 826758217, .int .u32 826758217, .int .u32 1, .int .u32 1024, .int .u32 1, .int .u32 1024, .int .u32 0, .int .u32 4294967295]) (.int .i64 0)).run Try.prog w = .ok (.agg #[.int .u32 826758217, .int .u32 826758217]) w := fun _ => by kernel_rfl
    have ia1 : ∀ w, (Instr.index 111 (.agg #[.int .u32 826758217, .int .u32 826758217, .int .u32 1, .int .u32 1024, .int .u32 1, .int .u32 1024, .int .u32 0, .int .u32 4294967295]) (.int .i64 1)).run Try.prog w = .ok (.agg #[.int .u32 1, .int .u32 1024]) w := fun _ => by kernel_rfl
    have ia2 : ∀ w, (Instr.index 111 (.agg #[.int .u32 826758217, .int .u32 826758217, .int .u32 1, .int .u32 1024, .int .u32 1, .int .u32 1024, .int .u32 0, .int .u32 4294967295]) (.int .i64 2)).run Try.prog w = .ok (.agg #[.int .u32 1, .int .u32 1024]) w := fun _ => by kernel_rfl
    have ia3 : ∀ w, (Instr.index 111 (.agg #[.int .u32 826758217, .int .u32 826758217, .int .u32 1, .int .u32 1024, .int .u32 1, .int .u32 1024, .int .u32 0, .int .u32 4294967295]) (.int .i64 3)).run Try.prog w = .ok (.agg #[.int .u32 0, .int .u32 4294967295]) w := fun _ => by kernel_rfl
    have hdl := Blk.new w 109 #[.int .u32 0, .int .u32 0, .int .u32 0, .int .u32 0]
    have hbelw := (Below.refl w.heap.size w).alloc (Nat.le_refl _) (.cells #[.int .u32 0, .int .u32 0, .int .u32 0, .int .u32 0] 109)
    have rdw := h.below hbelw
    rw [hhd] at hdl
    go_wp2_with fail
    generalize w.alloc (.cells #[.int .u32 0, .int .u32 0, .int .u32 0, .int .u32 0] 109) = wa at *
    go_loopw [26] (fun i wr => ∃ k : Nat, k ≤ 4 ∧ i = .int .i64 k ∧ RdS wr g A n c ws k ∧ Blk wr hd 109 #[.int .u32 (hv ws k 0), .int .u32 (hv ws k 1), .int .u32 (hv ws k 2), .int .u32 (hv ws k 3)] ∧ HeadTo ws k ∧ Off (fun k => k = g) w wr) (fun i _ => 4 - (intOf i).toNat)
    case atStart => exact ⟨0, by omega, rfl, rdw, hdl, fun i hi => by omega, Off.of_below _ hbelw⟩
    case round =>
      obtain ⟨k, hk, rfl, rdr, hdr, hto, offr⟩ := hrel
      have hpn := rdr.pn
      have hrl := rdr.len
      rcases (by omega : k = 0 ∨ k = 1 ∨ k = 2 ∨ k = 3 ∨ k = 4) with rfl | rfl | rfl | rfl | rfl
      · have hx := rdr.u32.ix (by decide) 0
        have hbel := (Below.refl wr.heap.size wr).alloc (Nat.le_refl _) (.cells #[.int .u32 (826758217), .int .u32 (826758217)] 110)
        have hnb := Blk.new wr 110 #[.int .u32 (826758217), .int .u32 (826758217)]
        obtain ⟨b0, b1⟩ : _ ∧ _ := And.intro (hnb.cell 0) (hnb.cell 1)
        simp at b0 b1
        have rdE := rdr.below hbel
        have hdE := hdr.below hbel hdr.lt
        have offE := offr.trans (Off.of_below _ hbel)
        go_wp2_with fail
        generalize wr.alloc (.cells #[.int .u32 (826758217), .int .u32 (826758217)] 110) = wq at *
        clear b0 b1 hnb
        by_cases hkn : 0 = n
        · have hRR := hto.at_ (by omega) (headBad_end (by omega))
          refine (takes_end rdE hkn _ _).mono ?_
          clear hkn
          rintro e w2 ⟨rfl, hd2⟩
          go_wp2_with fail
          simp only [Exit.jump]
          go_ret2
          exact RcR.err (offE.trans (Off.of_below _ (hd2.below _))) hRR (rdE.drawn hd2)
        · by_cases hb : ix ws 0 < 826758217 ∨ 826758217 < ix ws 0
          · have hRR := hto.at_ (by omega) (headBad_out (by unfold okHead; simp; omega))
            refine (takes_bad rdE (by omega) _ _ hb).mono ?_
            rintro e w2 ⟨rfl, hd2⟩
            go_wp2_with fail
            simp only [Exit.jump]
            go_ret2
            exact RcR.err (offE.trans (Off.of_below _ (hd2.below _))) hRR (rdE.drawn hd2)
          · refine (takes_ok rdE (by omega) _ _ (by omega) (by omega)).mono ?_
            rintro e w2 ⟨rfl, rd2, ho2⟩
            have hAl := fun a (ha : A = some a) => h.low (by omega) ha
            have hd2 := hdE.off ho2 (by omega)
            have s0 := hd2.cell 0
            have sf0 := hd2.frozen 0
            simp at s0
            have off2 := offE.trans ho2
            have hos := (Off.refl (fun k => k = hd) w2).set_ (p := ⟨hd, 0, none⟩) (.inl rfl) (.int .u32 (ix ws 0))
            have hd3 := hd2.set_ 0 (.int .u32 (ix ws 0))
            go_wp2_with fail
            go_roundw
            case rel =>
              refine ⟨0 + 1, by omega, by go_num, rd2.off hos (by omega) (fun a ha => by have := hAl a ha; omega), ?_, hto.more (by omega) (by unfold okHead; simp; omega), off_new off2 hos (by omega)⟩
              simpa [hv] using hd3
            case measure => simp [intOf]
      · have hx := rdr.u32.ix (by decide) 1
        have hbel := (Below.refl wr.heap.size wr).alloc (Nat.le_refl _) (.cells #[.int .u32 (1), .int .u32 (1024)] 110)
        have hnb := Blk.new wr 110 #[.int .u32 (1), .int .u32 (1024)]
        obtain ⟨b0, b1⟩ : _ ∧ _ := And.intro (hnb.cell 0) (hnb.cell 1)
        simp at b0 b1
        have rdE := rdr.below hbel
        have hdE := hdr.below hbel hdr.lt
        have offE := offr.trans (Off.of_below _ hbel)
        go_wp2_with fail
        generalize wr.alloc (.cells #[.int .u32 (1), .int .u32 (1024)] 110) = wq at *
        clear b0 b1 hnb
        by_cases hkn : 1 = n
        · have hRR := hto.at_ (by omega) (headBad_end (by omega))
          refine (takes_end rdE hkn _ _).mono ?_
          clear hkn
          rintro e w2 ⟨rfl, hd2⟩
          go_wp2_with fail
          simp only [Exit.jump]
          go_ret2
          exact RcR.err (offE.trans (Off.of_below _ (hd2.below _))) hRR (rdE.drawn hd2)
        · by_cases hb : ix ws 1 < 1 ∨ 1024 < ix ws 1
          · have hRR := hto.at_ (by omega) (headBad_out (by unfold okHead; simp; omega))
            refine (takes_bad rdE (by omega) _ _ hb).mono ?_
            rintro e w2 ⟨rfl, hd2⟩
            go_wp2_with fail
            simp only [Exit.jump]
            go_ret2
            exact RcR.err (offE.trans (Off.of_below _ (hd2.below _))) hRR (rdE.drawn hd2)
          · refine (takes_ok rdE (by omega) _ _ (by omega) (by omega)).mono ?_
            rintro e w2 ⟨rfl, rd2, ho2⟩
            have hAl := fun a (ha : A = some a) => h.low (by omega) ha
            have hd2 := hdE.off ho2 (by omega)
            have s0 := hd2.cell 1
            have sf0 := hd2.frozen 1
            simp at s0
            have off2 := offE.trans ho2
            have hos := (Off.refl (fun k => k = hd) w2).set_ (p := ⟨hd, 1, none⟩) (.inl rfl) (.int .u32 (ix ws 1))
            have hd3 := hd2.set_ 1 (.int .u32 (ix ws 1))
            go_wp2_with fail
            go_roundw
            case rel =>
              refine ⟨1 + 1, by omega, by go_num, rd2.off hos (by omega) (fun a ha => by have := hAl a ha; omega), ?_, hto.more (by omega) (by unfold okHead; simp; omega), off_new off2 hos (by omega)⟩
              simpa [hv] using hd3
            case measure => simp [intOf]
      · have hx := rdr.u32.ix (by decide) 2
        have hbel := (Below.refl wr.heap.size wr).alloc (Nat.le_refl _) (.cells #[.int .u32 (1), .int .u32 (1024)] 110)
        have hnb := Blk.new wr 110 #[.int .u32 (1), .int .u32 (1024)]
        obtain ⟨b0, b1⟩ : _ ∧ _ := And.intro (hnb.cell 0) (hnb.cell 1)
        simp at b0 b1
        have rdE := rdr.below hbel
        have hdE := hdr.below hbel hdr.lt
        have offE := offr.trans (Off.of_below _ hbel)
        go_wp2_with fail
        generalize wr.alloc (.cells #[.int .u32 (1), .int .u32 (1024)] 110) = wq at *
        clear b0 b1 hnb
        by_cases hkn : 2 = n
        · have hRR := hto.at_ (by omega) (headBad_end (by omega))
          refine (takes_end rdE hkn _ _).mono ?_
          clear hkn
          rintro e w2 ⟨rfl, hd2⟩
          go_wp2_with fail
          simp only [Exit.jump]
          go_ret2
          exact RcR.err (offE.trans (Off.of_below _ (hd2.below _))) hRR (rdE.drawn hd2)
        · by_cases hb : ix ws 2 < 1 ∨ 1024 < ix ws 2
          · have hRR := hto.at_ (by omega) (headBad_out (by unfold okHead; simp; omega))
            refine (takes_bad rdE (by omega) _ _ hb).mono ?_
            rintro e w2 ⟨rfl, hd2⟩
            go_wp2_with fail
            simp only [Exit.jump]
            go_ret2
            exact RcR.err (offE.trans (Off.of_below _ (hd2.below _))) hRR (rdE.drawn hd2)
          · refine (takes_ok rdE (by omega) _ _ (by omega) (by omega)).mono ?_
            rintro e w2 ⟨rfl, rd2, ho2⟩
            have hAl := fun a (ha : A = some a) => h.low (by omega) ha
            have hd2 := hdE.off ho2 (by omega)
            have s0 := hd2.cell 2
            have sf0 := hd2.frozen 2
            simp at s0
            have off2 := offE.trans ho2
            have hos := (Off.refl (fun k => k = hd) w2).set_ (p := ⟨hd, 2, none⟩) (.inl rfl) (.int .u32 (ix ws 2))
            have hd3 := hd2.set_ 2 (.int .u32 (ix ws 2))
            go_wp2_with fail
            go_roundw
            case rel =>
              refine ⟨2 + 1, by omega, by go_num, rd2.off hos (by omega) (fun a ha => by have := hAl a ha; omega), ?_, hto.more (by omega) (by unfold okHead; simp; omega), off_new off2 hos (by omega)⟩
              simpa [hv] using hd3
            case measure => simp [intOf]
      · have hx := rdr.u32.ix (by decide) 3
        have hbel := (Below.refl wr.heap.size wr).alloc (Nat.le_refl _) (.cells #[.int .u32 (0), .int .u32 (4294967295)] 110)
        have hnb := Blk.new wr 110 #[.int .u32 (0), .int .u32 (4294967295)]
        obtain ⟨b0, b1⟩ : _ ∧ _ := And.intro (hnb.cell 0) (hnb.cell 1)
        simp at b0 b1
        have rdE := rdr.below hbel
        have hdE := hdr.below hbel hdr.lt
        have offE := offr.trans (Off.of_below _ hbel)
        go_wp2_with fail
        generalize wr.alloc (.cells #[.int .u32 (0), .int .u32 (4294967295)] 110) = wq at *
        clear b0 b1 hnb
        by_cases hkn : 3 = n
        · have hRR := hto.at_ (by omega) (headBad_end (by omega))
          refine (takes_end rdE hkn _ _).mono ?_
          clear hkn
          rintro e w2 ⟨rfl, hd2⟩
          go_wp2_with fail
          simp only [Exit.jump]
          go_ret2
          exact RcR.err (offE.trans (Off.of_below _ (hd2.below _))) hRR (rdE.drawn hd2)
        · by_cases hb : ix ws 3 < 0 ∨ 4294967295 < ix ws 3
          · have hRR := hto.at_ (by omega) (headBad_out (by unfold okHead; simp; omega))
            refine (takes_bad rdE (by omega) _ _ hb).mono ?_
            rintro e w2 ⟨rfl, hd2⟩
            go_wp2_with fail
            simp only [Exit.jump]
            go_ret2
            exact RcR.err (offE.trans (Off.of_below _ (hd2.below _))) hRR (rdE.drawn hd2)
          · refine (takes_ok rdE (by omega) _ _ (by omega) (by omega)).mono ?_
            rintro e w2 ⟨rfl, rd2, ho2⟩
            have hAl := fun a (ha : A = some a) => h.low (by omega) ha
            have hd2 := hdE.off ho2 (by omega)
            have s0 := hd2.cell 3
            have sf0 := hd2.frozen 3
            simp at s0
            have off2 := offE.trans ho2
            have hos := (Off.refl (fun k => k = hd) w2).set_ (p := ⟨hd, 3, none⟩) (.inl rfl) (.int .u32 (ix ws 3))
            have hd3 := hd2.set_ 3 (.int .u32 (ix ws 3))
            go_wp2_with fail
            go_roundw
            case rel =>
              refine ⟨3 + 1, by omega, by go_num, rd2.off hos (by omega) (fun a ha => by have := hAl a ha; omega), ?_, hto.more (by omega) (by unfold okHead; simp), off_new off2 hos (by omega)⟩
              simpa [hv] using hd3
            case measure => simp [intOf]
      · have hx1 := hto 1 (by omega)
        have hx2 := hto 2 (by omega)
        have hx3 := rdr.u32.ix (by decide) 3
        have hn4 : 4 ≤ n := by
          have := hto 3 (by omega)
          unfold headBad at this
          simp at this
          omega
        have g1 : 1 ≤ ix ws 1 ∧ ix ws 1 ≤ 1024 := by
          unfold headBad okHead at hx1
          simp at hx1
          exact hx1.2
        have g2 : 1 ≤ ix ws 2 ∧ ix ws 2 ≤ 1024 := by
          unfold headBad okHead at hx2
          simp at hx2
          exact hx2.2
        have hh := hto.four
        have hv1 : hv ws 4 1 = ix ws 1 := rfl
        have hv2 : hv ws 4 2 = ix ws 2 := rfl
        have hv3 : hv ws 4 3 = ix ws 3 := rfl
        rw [hv1, hv2, hv3] at hdr
        obtain ⟨d0, d1, d2, d3⟩ := hdr.read4
        go_wp2_with fail
        have e1 : ix ws 1 = (W : Int) := by omega
        have e2 : ix ws 2 = (H : Int) := by omega
        have hnw := new_ok W H (ix ws 3) (by omega) (by omega) (by omega) wr
        rw [← e1, ← e2] at hnw
        refine hnw.mono ?_
        clear hnw
        rintro e w2 ⟨gC, gp, rfl, can, hb2⟩
        have hN2 : W * H = N := by rw [← hN, hWd, hHd]
        rw [hN2] at can
        have hrow := can.lt
        have hlowC := can.low
        have hrow2 := can.lt2
        have hbl := Blk.new w2 82 #[.bool false, .int .i32 0, .int .u32 0]
        have hbel2 := (Below.refl w2.heap.size w2).alloc (Nat.le_refl _) (.cells #[.bool false, .int .i32 0, .int .u32 0] 82)
        have can3 := can.below hbel2
        have rd3 := (rdr.below hb2).below hbel2
        have off3 := (offr.trans (Off.of_below _ hb2)).trans (Off.of_below _ hbel2)
        have ho0 := offr.size
        have ho1 := hb2.size
        obtain ⟨bl, hbl_⟩ : ∃ bl, w2.heap.size = bl := ⟨_, rfl⟩
        rw [hbl_] at hbl
        go_wp2_with fail
        rename_i ka
        refine wp_label (ka _ _ (hR _ _ ⟨hd, gC, gp, bl, 4, N + 1, [], hh, rfl, ?_, ⟨?_, ?_, ?_, ?_, ?_⟩, ⟨rd3, ?_, ?_, fun _ => rfl, Nat.zero_le _, by simp, rfl, off3, by omega, by omega, by omega, by omega⟩⟩))
        · kernel_rfl
        · kernel_rfl
        · kernel_rfl
        · kernel_rfl
        · kernel_rfl
        · kernel_rfl
        · rw [padP_nil]
          exact can3.base_le (by omega)
        · exact hbl
  · rintro a1 w1 mu ⟨hd, gC, gp, bl, p, f, pre, hhd, hdf, hsz, hfix, S⟩ hmu
    obtain ⟨f0, f4, f9, f11, f12⟩ := hfix
    rw [f12] at hmu
    have hfix := And.intro f0 (And.intro f4 (And.intro f9 (And.intro f11 f12)))
    clear f0 f4 f9 f11 f12
    obtain ⟨u, hu, rfl⟩ := act150 a1 hdf hsz
    simp only [hu] at hfix
    obtain ⟨f0, f4, f9, f11, f12⟩ := hfix
    rw [f0, f4, f9, f11, f12]
    clear f0 f4 f9 f11 f12 hu hdf hsz
    obtain ⟨rd, can, last, none_, lenN, fuel, run, off, lowC, lowB, nep, nec⟩ := S
    obtain ⟨f, rfl⟩ : ∃ f', f = f' + 1 := ⟨f - 1, by omega⟩
    obtain ⟨c0, c1, c2, c3⟩ := can.blk.read4
    have hle := can.sz.le
    have hrl := rd.len
    have q1 := rd.blk.cell 1
    simp at q1
    by_cases hlt : pre.length < N
    · have hne : ((pre.length : Int) == (N : Int)) = false := by rw [beq_eq_false_iff_ne]; omega
      have hx := rd.u32.ix (by decide) p
      have hgw := h.blk.lt
      have hgp := can.lt2
      by_cases hpn : p = n
      · have hR := readW_err hhd (by rw [hN, ← run]; exact runW_err hlt (stepW_end (by omega)))
        go_wp2_with fail
        refine (takes_end rd hpn _ _).mono ?_
        rintro e w2 ⟨rfl, hd2⟩
        go_wp2_with fail
        simp only [Exit.jump]
        go_ret2
        exact RcR.err (off.trans (Off.of_below _ (hd2.below _))) hR (rd.drawn hd2)
      · have hpn' : p < n := by have := rd.pn; omega
        by_cases hb : (ix ws p / 2).toNat < 1 ∨ N - pre.length < (ix ws p / 2).toNat
        · have hR := readW_err hhd (by rw [hN, ← run]; exact runW_err hlt (stepW_many (by omega) hb))
          go_wp2_with fail
          refine (takes_bad rd hpn' _ _ (by omega)).mono ?_
          rintro e w2 ⟨rfl, hd2⟩
          go_wp2_with fail
          simp only [Exit.jump]
          go_ret2
          exact RcR.err (off.trans (Off.of_below _ (hd2.below _))) hR (rd.drawn hd2)
        · go_wp2_with fail
          refine (takes_ok rd hpn' 2 (2 * ((N : Int) - (pre.length : Int)) + 1) (by omega) (by omega)).mono ?_
          rintro e w2 ⟨rfl, rd2, ho2⟩
          have can2 := can.off ho2 (by omega) (by omega)
          have last2 := last.off ho2 (by omega)
          have off2 := off.trans ho2
          clear c0 c1 c2 c3 q1 rd can last off
          rcases hlp : px pre (pre.length - 1) with ⟨lb, ld, lc⟩
          rw [hlp] at none_ last2
          simp only at none_ last2
          by_cases he : ix ws p % 2 = 0
          · have hE : (ix ws p % 2 == 1) = false := by rw [he]; rfl
            have hnb := Blk.new w2 82 #[.bool false, .int .i32 0, .int .u32 0]
            have hbel := (Below.refl w2.heap.size w2).alloc (Nat.le_refl _) (.cells #[.bool false, .int .i32 0, .int .u32 0] 82)
            have can3 := can2.below hbel
            have last3 := last2.below hbel last2.lt
            have rd3 := rd2.below hbel
            have off3 := off2.trans (Off.of_below _ hbel)
            have heq := fun w' => pix_eql false lb 0 ld 0 lc w'
            have heg := fun x y w' => pix_eqg .eql x y #[.bool false, .int .i32 0, .int .u32 0] #[.bool lb, .int .i32 ld, .int .u32 lc] w'
            obtain ⟨b0, b1, b2⟩ := hnb.read3
            obtain ⟨l0, l1, l2⟩ := last3.read3
            have hgt1 : decide ((0 : Int) < (pre.length : Int)) = decide (0 < pre.length) := by simp
            obtain ⟨m, hm⟩ : ∃ m, (ix ws p / 2).toNat = m := ⟨_, rfl⟩
            have hmI : ix ws p / 2 = (m : Int) := by omega
            obtain ⟨nb, hnbe⟩ : ∃ nb, w2.heap.size = nb := ⟨_, rfl⟩
            by_cases hs : 0 < pre.length ∧ lb = false
            · obtain ⟨hs1, rfl⟩ := hs
              have hR := readW_err hhd (by rw [hN, ← run]; exact runW_err hlt (stepW_even_same (by omega) hb he ⟨hs1, by rw [hlp]⟩))
              have hno : decide (((false, 0, 0) : Bool × Int × Int) = (false, ld, lc)) = true := by
                have h1 := none_ rfl
                unfold noPix at h1
                exact decide_eq_true h1.symm
              have hgt : decide (0 < pre.length) = true := by simpa using hs1
              rw [hgt] at hgt1
              have r1 := rd3.blk.cell 1
              have rf := rd3.blk.frozen 1
              simp at r1
              have hmv := rd3.move p rd3.le_of_succ
              go_wp2_with fail
              simp only [Exit.jump]
              go_ret2
              exact RcR.err (off3.trans ((Off.refl (fun k => k = g) _).set_ (p := ⟨g, 1, none⟩) (.inl rfl) _)) hR hmv
            · have hR := runW_ok (f := f) hlt (stepW_even (by omega) hb he (by rw [hlp]; exact hs))
              rw [hm] at hR
              rw [hnbe] at hnb b0 b1 b2
              have hnbl : w.heap.size ≤ nb ∧ nb ≠ gp ∧ nb ≠ bl := ⟨by have := off2.size; omega, by have := ho2.size; omega, by have := last2.lt; omega⟩
              have hcase : decide (0 < pre.length) = false ∨ (decide (0 < pre.length) = true ∧ decide (((false, 0, 0) : Bool × Int × Int) = (lb, ld, lc)) = false) := by
                by_cases h0 : 0 < pre.length
                · refine .inr ⟨decide_eq_true h0, decide_eq_false (fun e => hs ⟨h0, ?_⟩)⟩
                  exact (congrArg Prod.fst e).symm
                · exact .inl (decide_eq_false h0)
              have hcase : (decide (0 < pre.length) = false ∧ ∃ q, ∀ w', (binOp .eql 82 (.agg #[.bool false, .int .i32 0, .int .u32 0]) (.agg #[.bool lb, .int .i32 ld, .int .u32 lc])).run Try.prog w' = .ok (.bool q) w') ∨ (decide (0 < pre.length) = true ∧ ∀ w', (binOp .eql 82 (.agg #[.bool false, .int .i32 0, .int .u32 0]) (.agg #[.bool lb, .int .i32 ld, .int .u32 lc])).run Try.prog w' = .ok (.bool false) w') := by
                rcases hcase with h1 | ⟨h1, h2⟩
                · exact .inl ⟨h1, _, heq⟩
                · exact .inr ⟨h1, fun w' => by rw [heq, h2]⟩
              clear heq
              have hszs : ∀ t, t ≤ m → Sized N W H back (padP (pre ++ List.replicate t noPix) N) := fun t ht => sized_pad can3.sz (by omega) (by unfold okPix noPix; decide)
              have hArd := fun a (ha : A = some a) => h.low (by omega) ha
              rcases hcase with ⟨hgt, qq, heq⟩ | ⟨hgt, heq⟩ <;>
              · rw [hgt] at hgt1
                go_wp2_with fail
                generalize w2.alloc (.cells #[.bool false, .int .i32 0, .int .u32 0] 82) = w3 at *
                clear heq heg l0 l1 l2 b0 b1 b2
                go_loopw [12, 137] (fun i j wr => ∃ t : Nat, t ≤ m ∧ i = .int .i64 ((pre.length + t : Nat) : Int) ∧ j = .int .u32 t ∧ CanS wr w.heap.size gC gp N N W H back (padP (pre ++ List.replicate t (noPix)) N) ∧ RdS wr g A n c ws (p + 1) ∧ Blk wr bl 82 #[.bool lb, .int .i32 ld, .int .u32 lc] ∧ Blk wr nb 82 #[.bool false, .int .i32 (0), .int .u32 (0)] ∧ Off (fun k => k = g) w wr) (fun _ j _ => m - (intOf j).toNat)
                case atStart => exact ⟨0, by omega, rfl, rfl, by rw [List.replicate_zero, List.append_nil]; exact can3, rd3, last3, hnb, off3⟩
                case round =>
                  obtain ⟨t, ht, rfl, rfl, canr, rdr, lastr, nbr, offr⟩ := hrel
                  by_cases htl : t < m
                  · have hk : pre.length + t < N := by omega
                    have htI : decide ((t : Int) < (m : Int)) = true := by simp; omega
                    have c3 := canr.blk.cell 3
                    simp at c3
                    obtain ⟨b0, b1, b2⟩ := nbr.read3
                    have canD := canr.below (Below.refl _ _).drew
                    have rdD := rdr.below (Below.refl _ _).drew
                    have lastD := lastr.drew
                    have nbD := nbr.drew
                    have offD := offr.drew
                    have hcast : ((pre.length + t : Nat) : Int) = (pre.length : Int) + (t : Int) := by simp
                    go_wp2_with fail
                    refine wp_region_tail 7 (by kernel_rfl) (by kernel_rfl) ?_
                    simp only [List.take_succ_cons, List.take_zero, List.drop_succ_cons, List.drop_zero]
                    repeat (go_big_quiet_step (fail))
                    refine wpQuiet_nil ?_
                    have hnext := padP_next (x := noPix) hk
                    clear b0 b1 b2 c3 canr rdr lastr nbr offr
                    generalize wr.drew = wd at *
                    have s0 := st_c0 canD.row hk
                    have s1 := st_c1 canD.row hk
                    have s2 := st_c2 canD.row hk
                    have sf0 := st_f0 canD.row (pre.length + t)
                    have sf1 := st_f1 canD.row (pre.length + t)
                    have sf2 := st_f2 canD.row (pre.length + t)
                    go_wp2_with fail
                    go_roundw
                    case rel =>
                      have hoff3 := off_set3 wd gp (pre.length + t) (.bool false) (.int .i32 (0)) (.int .u32 (0))
                      have hcan := canD.set3 (p := (false, 0, 0)) hk (by rw [show ((false, 0, 0) : Pix) = noPix from rfl, hnext]; exact hszs (t + 1) (by omega))
                      rw [show ((false, 0, 0) : Pix) = noPix from rfl, hnext] at hcan
                      exact ⟨t + 1, by omega, by go_num, by go_num, hcan, rdD.off hoff3 (by omega) (fun a ha => by have := hArd a ha; omega), lastD.off hoff3 (by omega), nbD.off hoff3 (by omega), off_new offD hoff3 (by omega)⟩
                    case measure => simp [intOf]; omega
                  · obtain rfl : t = m := by omega
                    have htI : decide ((t : Int) < (t : Int)) = false := by simp
                    obtain ⟨b0, b1, b2⟩ := nbr.read3
                    obtain ⟨s0, sf0, s1, sf1, s2, sf2, hlast⟩ := lastr.store3 (.bool false) (.int .i32 (0)) (.int .u32 (0))
                    go_wp2_with fail
                    have hnx := RSt.next (x := noPix) canr rdr lastr offr (by omega) (by omega) fuel run hR lowC lowB nep nec hgw hArd (fun _ => rfl)
                    refine wp_goto_jump (And.intro ⟨hd, gC, gp, bl, p + 1, f, pre ++ List.replicate t noPix, hhd, rfl, by kernel_rfl, ⟨by kernel_rfl, by kernel_rfl, by kernel_rfl, by kernel_rfl, ?_⟩, hnx⟩ ?_)
                    · rw [List.length_append, List.length_replicate]; kernel_rfl
                    · subst hmu
                      show N - (intOf (.int .i64 ((pre.length + t : Nat) : Int))).toNat < N - (intOf (.int .i64 (pre.length : Int))).toNat
                      simp only [intOf]
                      omega
          · have hE : (ix ws p % 2 == 1) = true := by simp; omega
            have hnb := Blk.new w2 82 #[.bool true, .int .i32 0, .int .u32 0]
            have hbel := (Below.refl w2.heap.size w2).alloc (Nat.le_refl _) (.cells #[.bool true, .int .i32 0, .int .u32 0] 82)
            have can3 := can2.below hbel
            have last3 := last2.below hbel last2.lt
            have rd3 := rd2.below hbel
            have off3 := off2.trans (Off.of_below _ hbel)
            have hgt1 : decide ((0 : Int) < (pre.length : Int)) = decide (0 < pre.length) := by simp
            obtain ⟨m, hm⟩ : ∃ m, (ix ws p / 2).toNat = m := ⟨_, rfl⟩
            have hmI : ix ws p / 2 = (m : Int) := by omega
            obtain ⟨nb, hnbe⟩ : ∃ nb, w2.heap.size = nb := ⟨_, rfl⟩
            obtain ⟨b0, b1, b2⟩ := hnb.read3
            rw [hnbe] at hnb b0 b1 b2
            have hnbl : w.heap.size ≤ nb ∧ nb ≠ gp ∧ nb ≠ bl ∧ nb ≠ gC := ⟨by have := off2.size; omega, by have := ho2.size; omega, by have := last2.lt; omega, by have := can2.lt; omega⟩
            have hArd := fun a (ha : A = some a) => h.low (by omega) ha
            have hx1 := rd2.u32.ix (by decide) (p + 1)
            have hx2 := rd2.u32.ix (by decide) (p + 2)
            go_wp2_with fail
            generalize w2.alloc (.cells #[.bool true, .int .i32 0, .int .u32 0] 82) = w3 at *
            clear b0 b1 b2
            by_cases hp1 : p + 1 = n
            · have hR := readW_err hhd (by rw [hN, ← run]; exact runW_err hlt (stepW_short (by omega) hb he (by omega)))
              refine (takes_end rd3 hp1 _ _).mono ?_
              rintro e w4 ⟨rfl, hd4⟩
              have hnb4 := hnb.below (hd4.below w3.heap.size) hnb.lt
              have off4 := off3.trans (Off.of_below _ (hd4.below _))
              have rd4 := rd3.drawn hd4
              have s2 := hnb4.cell 2
              have sf2 := hnb4.frozen 2
              simp at s2
              have hlen : ws.length = p + 1 := by omega
              rw [hlen] at hR
              go_wp2_with fail
              simp only [Exit.jump]
              go_ret2
              exact RcR.err (off_new off4 ((Off.refl (fun k => k = nb) w4).set_ (p := ⟨nb, 2, none⟩) (.inl rfl) _) hnbl.1) hR (rd4.off ((Off.refl (fun k => k = nb) w4).set_ (p := ⟨nb, 2, none⟩) (.inl rfl) _) (by omega) (fun a ha => by have := hArd a ha; omega))
            · have hp1' : p + 1 < n := by have := rd2.pn; omega
              refine (takes_ok rd3 hp1' 0 4294967295 hx1.1 (by omega)).mono ?_
              rintro e w4 ⟨rfl, rd4, ho4⟩
              have hnb4 := hnb.off ho4 (by omega)
              have off4 := off3.trans ho4
              have can4 := can3.off ho4 (by omega) (by omega)
              have last4 := last3.off ho4 (by omega)
              have s2 := hnb4.cell 2
              have sf2 := hnb4.frozen 2
              simp at s2
              have ho5 := (Off.refl (fun k => k = nb) w4).set_ (p := ⟨nb, 2, none⟩) (.inl rfl) (.int .u32 (ix ws (p + 1)))
              have hnb5 : Blk (w4.setCell ⟨nb, 2, none⟩ (.int .u32 (ix ws (p + 1)))) nb 82 #[.bool true, .int .i32 0, .int .u32 (ix ws (p + 1))] := by simpa using hnb4.set_ 2 (.int .u32 (ix ws (p + 1)))
              have can5 := can4.off ho5 (by omega) (by omega)
              have last5 := last4.off ho5 (by omega)
              have off5 := off_new off4 ho5 hnbl.1
              have rd5 := rd4.off ho5 (by omega) (fun a ha => by have := hArd a ha; omega)
              clear can2 can3 can4 last2 last3 last4 off2 off3 off4 rd2 rd3 rd4 hnb hnb4 ho4 ho5 hbel
              go_wp2_with fail
              clear s2 sf2
              generalize w4.setCell ⟨nb, 2, none⟩ (.int .u32 (ix ws (p + 1))) = w5 at *
              by_cases hp2 : p + 2 = n
              · have hR := readW_err hhd (by rw [hN, ← run]; exact runW_err hlt (stepW_short (by omega) hb he (by omega)))
                have hlen : ws.length = p + 1 + 1 := by omega
                rw [hlen] at hR
                refine (takes_end rd5 (by omega) _ _).mono ?_
                rintro e w6 ⟨rfl, hd6⟩
                go_wp2_with fail
                simp only [Exit.jump]
                go_ret2
                exact RcR.err (off5.trans (Off.of_below _ (hd6.below _))) hR (rd5.drawn hd6)
              · have htk := takes_ok rd5 (by omega) 0 4294967295 hx2.1 (by have := hx2.2; rw [show p + 1 + 1 = p + 2 from rfl]; omega)
                rw [show p + 1 + 1 = p + 2 from rfl, show p + 2 + 1 = p + 3 from rfl] at htk
                refine htk.mono ?_
                clear htk
                rintro e w6 ⟨rfl, rd6, ho6⟩
                have hnb6 := hnb5.off ho6 (by omega)
                have off6 := off5.trans ho6
                have can6 := can5.off ho6 (by omega) (by omega)
                have last6 := last5.off ho6 (by omega)
                have s1 := hnb6.cell 1
                have sf1 := hnb6.frozen 1
                simp at s1
                have ho7 := (Off.refl (fun k => k = nb) w6).set_ (p := ⟨nb, 1, none⟩) (.inl rfl) (.int .i32 (wrap32 (ix ws (p + 2))))
                have hnb7 : Blk (w6.setCell ⟨nb, 1, none⟩ (.int .i32 (wrap32 (ix ws (p + 2))))) nb 82 #[.bool true, .int .i32 (wrap32 (ix ws (p + 2))), .int .u32 (ix ws (p + 1))] := by simpa using hnb6.set_ 1 (.int .i32 (wrap32 (ix ws (p + 2))))
                have can7 := can6.off ho7 (by omega) (by omega)
                have last7 := last6.off ho7 (by omega)
                have off7 := off_new off6 ho7 hnbl.1
                have rd7 := rd6.off ho7 (by omega) (fun a ha => by have := hArd a ha; omega)
                have hgt1 : decide ((0 : Int) < (pre.length : Int)) = decide (0 < pre.length) := by simp
                have heq := fun w' => pix_eql true lb (wrap32 (ix ws (p + 2))) ld (ix ws (p + 1)) lc w'
                obtain ⟨b0, b1, b2⟩ := hnb7.read3
                obtain ⟨l0, l1, l2⟩ := last7.read3
                clear can5 can6 last5 last6 off5 off6 rd5 rd6 hnb5 hnb6 ho6 ho7
                by_cases hs : 0 < pre.length ∧ (lb, ld, lc) = (true, wrap32 (ix ws (p + 2)), ix ws (p + 1))
                · obtain ⟨hs1, hs2⟩ := hs
                  have hR := readW_err hhd (by rw [hN, ← run]; exact runW_err hlt (stepW_odd_same (by omega) hb he ⟨hs1, by rw [hlp]; exact hs2⟩))
                  have hgt : decide (0 < pre.length) = true := by simpa using hs1
                  have hno : decide (((true, wrap32 (ix ws (p + 2)), ix ws (p + 1)) : Bool × Int × Int) = (lb, ld, lc)) = true := decide_eq_true hs2.symm
                  rw [hgt] at hgt1
                  have r1 := rd7.blk.cell 1
                  have rf := rd7.blk.frozen 1
                  simp at r1
                  have hmv := (rd7.move p (by omega)).move (p + 2) (by omega)
                  have hle7 := rd7.le
                  have hpn7 := rd7.pn
                  rw [Int.natCast_add] at hmv
                  go_wp2_with fail
                  simp only [Exit.jump]
                  go_ret2
                  exact RcR.err (off7.trans (((Off.refl (fun k => k = g) _).set_ (p := ⟨g, 1, none⟩) (.inl rfl) _).set_ (p := ⟨g, 1, none⟩) (.inl rfl) _)) hR hmv
                · have hR := runW_ok (f := f) hlt (stepW_odd (by omega) hb he (by rw [hlp]; exact hs))
                  rw [hm] at hR
                  have hnbl : w.heap.size ≤ nb ∧ nb ≠ gp ∧ nb ≠ bl := ⟨hnbl.1, hnbl.2.1, hnbl.2.2.1⟩
                  have hokx : okPix ((true, wrap32 (ix ws (p + 2)), ix ws (p + 1)) : Pix) := by
                    have h1 := wrap32_bd (ix ws (p + 2))
                    exact ⟨h1.1, h1.2, hx1.1, hx1.2⟩
                  have hcase : decide (0 < pre.length) = false ∨ (decide (0 < pre.length) = true ∧ decide (((true, wrap32 (ix ws (p + 2)), ix ws (p + 1)) : Bool × Int × Int) = (lb, ld, lc)) = false) := by
                    by_cases h0 : 0 < pre.length
                    · refine .inr ⟨decide_eq_true h0, decide_eq_false (fun e => hs ⟨h0, ?_⟩)⟩
                      exact e.symm
                    · exact .inl (decide_eq_false h0)
                  have hcase : (decide (0 < pre.length) = false ∧ ∃ q, ∀ w', (binOp .eql 82 (.agg #[.bool true, .int .i32 (wrap32 (ix ws (p + 2))), .int .u32 (ix ws (p + 1))]) (.agg #[.bool lb, .int .i32 ld, .int .u32 lc])).run Try.prog w' = .ok (.bool q) w') ∨ (decide (0 < pre.length) = true ∧ ∀ w', (binOp .eql 82 (.agg #[.bool true, .int .i32 (wrap32 (ix ws (p + 2))), .int .u32 (ix ws (p + 1))]) (.agg #[.bool lb, .int .i32 ld, .int .u32 lc])).run Try.prog w' = .ok (.bool false) w') := by
                    rcases hcase with h1 | ⟨h1, h2⟩
                    · exact .inl ⟨h1, _, heq⟩
                    · exact .inr ⟨h1, fun w' => by rw [heq, h2]⟩
                  clear heq
                  have hszs : ∀ t, t ≤ m → Sized N W H back (padP (pre ++ List.replicate t ((true, wrap32 (ix ws (p + 2)), ix ws (p + 1)) : Pix)) N) := fun t ht => sized_pad can7.sz (by omega) hokx
                  have hArd := fun a (ha : A = some a) => h.low (by omega) ha
                  rcases hcase with ⟨hgt, qq, heq⟩ | ⟨hgt, heq⟩ <;>
                  · rw [hgt] at hgt1
                    go_wp2_with fail
                    generalize w6.setCell ⟨nb, 1, none⟩ (.int .i32 (wrap32 (ix ws (p + 2)))) = w7 at *
                    clear heq l0 l1 l2 b0 b1 b2
                    go_loopw [12, 137] (fun i j wr => ∃ t : Nat, t ≤ m ∧ i = .int .i64 ((pre.length + t : Nat) : Int) ∧ j = .int .u32 t ∧ CanS wr w.heap.size gC gp N N W H back (padP (pre ++ List.replicate t (((true, wrap32 (ix ws (p + 2)), ix ws (p + 1)) : Pix))) N) ∧ RdS wr g A n c ws (p + 3) ∧ Blk wr bl 82 #[.bool lb, .int .i32 ld, .int .u32 lc] ∧ Blk wr nb 82 #[.bool true, .int .i32 (wrap32 (ix ws (p + 2))), .int .u32 (ix ws (p + 1))] ∧ Off (fun k => k = g) w wr) (fun _ j _ => m - (intOf j).toNat)
                    case atStart => exact ⟨0, by omega, rfl, rfl, by rw [List.replicate_zero, List.append_nil]; exact can7, rd7, last7, hnb7, off7⟩
                    case round =>
                      obtain ⟨t, ht, rfl, rfl, canr, rdr, lastr, nbr, offr⟩ := hrel
                      by_cases htl : t < m
                      · have hk : pre.length + t < N := by omega
                        have htI : decide ((t : Int) < (m : Int)) = true := by simp; omega
                        have c3 := canr.blk.cell 3
                        simp at c3
                        obtain ⟨b0, b1, b2⟩ := nbr.read3
                        have canD := canr.below (Below.refl _ _).drew
                        have rdD := rdr.below (Below.refl _ _).drew
                        have lastD := lastr.drew
                        have nbD := nbr.drew
                        have offD := offr.drew
                        have hcast : ((pre.length + t : Nat) : Int) = (pre.length : Int) + (t : Int) := by simp
                        go_wp2_with fail
                        refine wp_region_tail 7 (by kernel_rfl) (by kernel_rfl) ?_
                        simp only [List.take_succ_cons, List.take_zero, List.drop_succ_cons, List.drop_zero]
                        repeat (go_big_quiet_step (fail))
                        refine wpQuiet_nil ?_
                        have hnext := padP_next (x := ((true, wrap32 (ix ws (p + 2)), ix ws (p + 1)) : Pix)) hk
                        clear b0 b1 b2 c3 canr rdr lastr nbr offr
                        generalize wr.drew = wd at *
                        have s0 := st_c0 canD.row hk
                        have s1 := st_c1 canD.row hk
                        have s2 := st_c2 canD.row hk
                        have sf0 := st_f0 canD.row (pre.length + t)
                        have sf1 := st_f1 canD.row (pre.length + t)
                        have sf2 := st_f2 canD.row (pre.length + t)
                        go_wp2_with fail
                        go_roundw
                        case rel =>
                          have hoff3 := off_set3 wd gp (pre.length + t) (.bool true) (.int .i32 (wrap32 (ix ws (p + 2)))) (.int .u32 (ix ws (p + 1)))
                          have hcan := canD.set3 (p := ((true, wrap32 (ix ws (p + 2)), ix ws (p + 1)) : Pix)) hk (by rw [hnext]; exact hszs (t + 1) (by omega))
                          rw [hnext] at hcan
                          exact ⟨t + 1, by omega, by go_num, by go_num, hcan, rdD.off hoff3 (by omega) (fun a ha => by have := hArd a ha; omega), lastD.off hoff3 (by omega), nbD.off hoff3 (by omega), off_new offD hoff3 (by omega)⟩
                        case measure => simp [intOf]; omega
                      · obtain rfl : t = m := by omega
                        have htI : decide ((t : Int) < (t : Int)) = false := by simp
                        obtain ⟨b0, b1, b2⟩ := nbr.read3
                        obtain ⟨s0, sf0, s1, sf1, s2, sf2, hlast⟩ := lastr.store3 (.bool true) (.int .i32 (wrap32 (ix ws (p + 2)))) (.int .u32 (ix ws (p + 1)))
                        go_wp2_with fail
                        have hnx := RSt.next (x := ((true, wrap32 (ix ws (p + 2)), ix ws (p + 1)) : Pix)) canr rdr lastr offr (by omega) (by omega) fuel run hR lowC lowB nep nec hgw hArd (fun h => by cases h)
                        refine wp_goto_jump (And.intro ⟨hd, gC, gp, bl, p + 3, f, pre ++ List.replicate t ((true, wrap32 (ix ws (p + 2)), ix ws (p + 1)) : Pix), hhd, rfl, by kernel_rfl, ⟨by kernel_rfl, by kernel_rfl, by kernel_rfl, by kernel_rfl, ?_⟩, hnx⟩ ?_)
                        · rw [List.length_append, List.length_replicate]; kernel_rfl
                        · subst hmu
                          show N - (intOf (.int .i64 ((pre.length + t : Nat) : Int))).toNat < N - (intOf (.int .i64 (pre.length : Int))).toNat
                          simp only [intOf]
                          omega
    · obtain rfl : N = pre.length := by omega
      by_cases hp : p = n
      · have hR := readW_ok hhd (by rw [hN, ← run]; exact runW_done (Nat.le_refl _) (by omega))
        rw [hWd, hHd, hback] at hR
        have hfull := padP_full (pre := pre) (n := pre.length) rfl
        rw [hfull] at can
        go_wp2_with fail
        refine (next_end rd hp).mono ?_
        rintro e w2 ⟨rfl, hd2⟩
        go_wp2_with fail
        simp only [Exit.jump]
        go_ret2
        refine RcR.ok (gp := gp) (off.trans (Off.of_below _ (hd2.below _))) hR ?_
        have hC2 := can.below (hd2.below _)
        rw [← hN, hWd, hHd] at hC2
        exact hC2
      · have hR := readW_err hhd (by rw [hN, ← run]; exact runW_more (Nat.le_refl _) (by have := rd.pn; omega))
        go_wp2_with fail
        refine (next_ok rd (by have := rd.pn; omega)).mono ?_
        rintro e w2 ⟨rfl, hd2⟩
        go_wp2_with fail
        simp only [Exit.jump]
        go_ret2
        exact RcR.err (off.trans (Off.of_below _ (hd2.below _))) hR (rd.drawn hd2)
end Go.Proofs.Ytfciaefjilobaaa
