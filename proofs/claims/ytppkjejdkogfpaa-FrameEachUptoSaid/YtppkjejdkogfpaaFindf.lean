/- Walks: frame.Find. -/
import Derived.Test.YtppkjejdkogfpaaReadf
import Derived.Test.YtppkjejdkogfpaaFindLaw
namespace Go.Proofs.Ytppkjejdkogfpaa
open Go.RowKit Go.Shelf
attribute [local go_sem] Oper.semAt_some

/-- what lies in Find's variables between two rounds -/
structure FInv (w : World) (op fr : Int) (v : Int) (r : Bool) (W : World) : Prop where
  k4 : Blk W w.heap.size 43 #[.int .u16 op]
  k5 : Blk W (w.heap.size + 1) 3 #[.int .i64 fr]
  k6 : Blk W (w.heap.size + 1 + 1) 3 #[.int .i64 v]
  k7 : Blk W (w.heap.size + 1 + 1 + 1) 4 #[.bool r]
  below : Below w.heap.size w W
  size : w.heap.size + 5 ≤ W.heap.size
theorem FInv.alloc {w W : World} {op fr v : Int} {r : Bool} (i : FInv w op fr v r W) (o : Obj) : FInv w op fr v r (W.alloc o) := by
  obtain ⟨h3, h4, h5, h6, h7, h8⟩ := i
  exact ⟨h3.alloc _, h4.alloc _, h5.alloc _, h6.alloc _, h7.alloc h7.size _, by simp; omega⟩
theorem FInv.keep {w W W' : World} {B : Nat} {op fr v : Int} {r : Bool} {row : Option Nat} (hB : w.heap.size ≤ B) (i : FInv w op fr v r W) (hg : W.grownBy W' row) (hr : ∀ k, row = some k → B ≤ k ∧ ∃ o : Obj, W.heap[k]? = some o ∧ o.isCells = false) : FInv w op fr v r W' := by
  have hr' : ∀ r, row = some r → ∃ o : Obj, W.heap[r]? = some o ∧ o.isCells = false := fun r e => (hr r e).2
  obtain ⟨h3, h4, h5, h6, h7, h8⟩ := i
  exact ⟨h3.kept_ hg hr', h4.kept_ hg hr', h5.kept_ hg hr', h6.kept_ hg hr', h7.grown hg h7.size (fun k e => Nat.le_trans hB (hr k e).1), Nat.le_trans h8 hg.size⟩
theorem FInv.put {w W : World} {op fr v : Int} {r : Bool} (i : FInv w op fr v r W) (v' : Int) (r' : Bool) : FInv w op fr v' r' ((W.setCell ⟨w.heap.size + 1 + 1, 0, none⟩ (.int .i64 v')).setCell ⟨w.heap.size + 1 + 1 + 1, 0, none⟩ (.bool r')) := by
  obtain ⟨h3, h4, h5, h6, h7, h8⟩ := i
  refine ⟨(h3.far (p := ⟨w.heap.size + 1 + 1, 0, none⟩) (show w.heap.size ≠ w.heap.size + 1 + 1 by omega) _).far (p := ⟨w.heap.size + 1 + 1 + 1, 0, none⟩) (show w.heap.size ≠ w.heap.size + 1 + 1 + 1 by omega) _, (h4.far (p := ⟨w.heap.size + 1 + 1, 0, none⟩) (by simp) _).far (p := ⟨w.heap.size + 1 + 1 + 1, 0, none⟩) (show w.heap.size + 1 ≠ w.heap.size + 1 + 1 + 1 by omega) _, ?_, ?_, (h7.setCell (p := ⟨w.heap.size + 1 + 1, 0, none⟩) (show w.heap.size ≤ w.heap.size + 1 + 1 by omega) _).setCell (p := ⟨w.heap.size + 1 + 1 + 1, 0, none⟩) (show w.heap.size ≤ w.heap.size + 1 + 1 + 1 by omega) _, by simp; omega⟩
  · have h := (h5.set_ 0 (.int .i64 v')).far (p := ⟨w.heap.size + 1 + 1 + 1, 0, none⟩) (by simp) (.bool r')
    simpa using h
  · have h := ((h6.far (p := ⟨w.heap.size + 1 + 1, 0, none⟩) (by simp) (.int .i64 v'))).set_ 0 (.bool r')
    simpa using h
theorem results_cc1 {fn : Func} {p q : Tmp} {ty ty' : TypeId} (h : fn.results = #[.cell p ty, .cell q ty']) (tmps : Array Value) (P : Program) (w : World) :
    (results fn tmps).run P w = ((asAddr (tmps.getD p undef)).run P w).andThen fun ad w₁ => ((loadVar ty ad).run P w₁).andThen fun v w₂ => ((asAddr (tmps.getD q undef)).run P w₂).andThen fun ad' w₃ => ((loadVar ty' ad').run P w₃).andThen fun v' w₄ => .ok (.tuple #[v, v']) w₄ := by
  simp only [results, h]
  simp [Sem.run_bind, Result.andThen]
/-- what Find answers -/
def FindIs (L : List (Nat × Ins)) (op fr : Int) (w : World) (e : Ending) (w' : World) : Prop := e = .returned (.tuple #[.int .i64 (findR op fr L).1, .bool (findR op fr L).2]) ∧ Below w.heap.size w w'

set_option maxRecDepth 100000 in
set_option maxHeartbeats 2000000 in
theorem find_in (A : Option Addr) (n c : Nat) (ws : List Int) (op fr : Int) (L : List (Nat × Ins)) (E : Nat) (w : World) (hn : n ≤ 35184372087808) (hr : Reads w w.heap.size 1 A n (Ints .u32 ws)) (hu : Under 4294967296 ws) (hcap : n ≤ c) (hG : Goes ws 5 L E) :
    CallsIn Fence.wide 9 Try.prog 28 #[.slice A n c, .int .u16 op, .int .i64 fr] w (FindIs L op fr w) := by
  have hlen := hr.len
  refine callsIn_of_wp_marks Try.func28 rfl trivial ?_ rfl
  simp only [Try.ntmps28, List.size_toArray, List.length_cons, List.length_nil, Nat.reduceAdd, Nat.reduceSub, Array.replicate_succ, Array.replicate_zero, List.push_toArray, List.append_toArray, List.nil_append, List.cons_append]
  gi_wp2_with fail
  refine ⟨trivial, (each_in _ _ A n c rfl _).mono ?_⟩
  rintro e w' ⟨rfl, rfl⟩
  gi_wp2_with fail
  have hb := (((((Below.refl w.heap.size w).alloc (Nat.le_refl _) (.cells #[.int .u16 op] 43)).alloc (by simp) (.cells #[.int .i64 fr] 3)).alloc (by simp; omega) (.cells #[.int .i64 0] 3)).alloc (by simp; omega) (.cells #[.bool false] 4)).alloc (by simp; omega) (.cells #[.slice A n c] 22)
  have q4 := ((((Blk.new w 43 #[.int .u16 op]).alloc (.cells #[.int .i64 fr] 3)).alloc (.cells #[.int .i64 0] 3)).alloc (.cells #[.bool false] 4)).alloc (.cells #[.slice A n c] 22)
  have q5 := (((Blk.new (w.alloc (.cells #[.int .u16 op] 43)) 3 #[.int .i64 fr]).alloc (.cells #[.int .i64 0] 3)).alloc (.cells #[.bool false] 4)).alloc (.cells #[.slice A n c] 22)
  have q6 := ((Blk.new ((w.alloc (.cells #[.int .u16 op] 43)).alloc (.cells #[.int .i64 fr] 3)) 3 #[.int .i64 0]).alloc (.cells #[.bool false] 4)).alloc (.cells #[.slice A n c] 22)
  have q7 := (Blk.new (((w.alloc (.cells #[.int .u16 op] 43)).alloc (.cells #[.int .i64 fr] 3)).alloc (.cells #[.int .i64 0] 3)) 4 #[.bool false]).alloc (.cells #[.slice A n c] 22)
  have q9 := (Blk.new ((((w.alloc (.cells #[.int .u16 op] 43)).alloc (.cells #[.int .i64 fr] 3)).alloc (.cells #[.int .i64 0] 3)).alloc (.cells #[.bool false] 4)) 22 #[.slice A n c]).cell 0
  have hr4 := hr.below hb
  simp only [World.size_alloc] at q5 q6 q7 q9
  simp at q9
  have hsz9 : (((((w.alloc (.cells #[.int .u16 op] 43)).alloc (.cells #[.int .i64 fr] 3)).alloc (.cells #[.int .i64 0] 3)).alloc (.cells #[.bool false] 4)).alloc (.cells #[.slice A n c] 22)).heap.size = w.heap.size + 1 + 1 + 1 + 1 + 1 := by simp
  generalize ((((w.alloc (.cells #[.int .u16 op] 43)).alloc (.cells #[.int .i64 fr] 3)).alloc (.cells #[.int .i64 0] 3)).alloc (.cells #[.bool false] 4)).alloc (.cells #[.slice A n c] 22) = w9 at *
  have h0 : FInv w op fr 0 false w9 := ⟨q4, q5, q6, q7, hb, by omega⟩
  clear q4 q5 q6 q7
  refine wpIn_range_g rfl (by omega) (gf := 34) (lb := #[.pointer (some ⟨w.heap.size + 1 + 1 + 1 + 1, 0, none⟩)]) rfl trivial (enters_of Try.func34 (by kernel_rfl) rfl)
      (each_stops _ (by omega) (w.heap.size + 1 + 1 + 1 + 1) w.heap.size n c E (w.heap.size + 1 + 1 + 1 + 1 + 1) A ws L w9 hn hcap hu hG (by omega) (by omega) (by omega) q9 hr4) (fun h k => h.trans k) (fun W o o' _ => KeepE.put W o' (by omega) (by omega)) (fun _ => rfl)
      (fun pre W => FInv w op fr 0 false W ∧ ∀ y ∈ pre, fitsB op fr y.pi = false) (fun c pre W => c = .ret ∧ ∃ pre' x, pre = pre' ++ [x] ∧ (∀ y ∈ pre', fitsB op fr y.pi = false) ∧ fitsB op fr x.pi = true ∧ FInv w op fr x.1 true W)
      (fun pre W W' row h hg hr => ⟨h.1.keep (B := w9.heap.size) (by omega) hg hr, h.2⟩) (fun c pre W W' row h hg hr => by
        obtain ⟨hc, pre', x, e1, e2, e3, e4⟩ := h
        exact ⟨hc, pre', x, e1, e2, e3, e4.keep (B := w9.heap.size) (by omega) hg hr⟩) ⟨h0, by simp⟩
      (fun pre x a' W => ∃ pb, w.heap.size + 1 + 1 + 1 + 1 + 1 ≤ pb ∧ Blk W pb 45 #[.int .u16 x.2.1.1, .slice x.2.2.1 x.2.1.2.length x.2.2.2] ∧ (∃ rest, L = pre.map PI.pi ++ x.pi :: rest) ∧ a' = { tmps := #[Value.slice A n c, Value.int IntKind.u16 op, Value.int IntKind.i64 fr, undef, Value.pointer (some { block := w.heap.size, off := 0, spot := none }), Value.pointer (some { block := w.heap.size + 1, off := 0, spot := none }), Value.pointer (some { block := w.heap.size + 1 + 1, off := 0, spot := none }), Value.pointer (some { block := w.heap.size + 1 + 1 + 1, off := 0, spot := none }), Value.int IntKind.i64 (x.1 : Int), Value.pointer (some { block := pb, off := 0, spot := none }), Value.slice A n c, Value.func (Fn.func 34) #[] #[Value.pointer (some { block := w.heap.size + 1 + 1 + 1 + 1, off := 0, spot := none })], Value.int IntKind.i64 (x.1 : Int), Value.agg #[Value.int IntKind.u16 x.2.1.1, Value.slice x.2.2.1 x.2.1.2.length x.2.2.2], undef, undef, undef, undef, undef, undef, undef, undef, undef, undef], defers := [] })
      ?hax ?assign ?body ?done ?stop
  case hax =>
    rintro pre x a' _ X Y row ⟨pb, g1, g2, g3, g4⟩ hg hr
    have hr' : ∀ r, row = some r → ∃ o : Obj, X.heap[r]? = some o ∧ o.isCells = false := fun r e => (hr r e).2
    exact ⟨pb, g1, g2.kept_ hg hr', g3, g4⟩
  case assign =>
    rintro l pre x W K hsW ⟨hI, hno⟩ hGx hK
    dsimp only [eachV]
    gi_wp2_with fail
    have hb := (Below.refl W.heap.size W).alloc (Nat.le_refl _) (.cells #[.int .u16 x.2.1.1, .slice x.2.2.1 x.2.1.2.length x.2.2.2] 45)
    exact hK _ _ ((KeepsOthers.alloc _ _).from _) (KeepE.below hb (by omega) (by omega)) ⟨hI.alloc _, hno⟩ ⟨W.heap.size, by omega, Blk.new _ _ _, hGx.is, rfl⟩
  case body =>
    rintro l pre x a' W hsW ⟨r, hr⟩ ⟨hI, hno⟩ ⟨pb, hpb, kb, hL, rfl⟩
    obtain ⟨d0, d1⟩ := kb.read2
    have f4 := hI.k4.cell 0
    have f5 := hI.k5.cell 0
    have f6 := hI.k6.cell 0
    have f7 := hI.k7.cell 0
    have g6 := hI.k6.frozen 0
    have g7 := hI.k7.frozen 0
    simp at f4 f5 f6 f7
    by_cases h1 : fr ≤ (x.1 : Int)
    · have b1 : decide (fr ≤ (x.1 : Int)) = true := by simpa using h1
      by_cases h2 : x.2.1.1 = op
      · have b2 : (x.2.1.1 == op) = true := by simpa using h2
        have hfit : fitsB op fr x.pi = true := by simp [fitsB, PI.pi, h1, h2]
        clear h1 h2
        gi_wp2_with fail
        exact ⟨((KeepsOthers.setCell _ _ _).trans (KeepsOthers.setCell _ _ _)).from _, rfl, pre, x, rfl, hno, hfit, hI.put x.1 true⟩
      · have b2 : (x.2.1.1 == op) = false := by simpa using h2
        have hfit : fitsB op fr x.pi = false := by simp [fitsB, PI.pi, h2]
        clear h1 h2
        gi_wp2_with fail
        exact ⟨KeepsFrom.refl _ _, KeepE.refl _ _ _, hI, fun y hy => by
          rcases List.mem_append.1 hy with hy | hy
          · exact hno y hy
          · rw [List.mem_singleton] at hy; subst hy; exact hfit⟩
    · have b1 : decide (fr ≤ (x.1 : Int)) = false := by simpa using h1
      have hfit : fitsB op fr x.pi = false := by simp [fitsB, PI.pi, h1]
      clear h1
      gi_wp2_with fail
      exact ⟨KeepsFrom.refl _ _, KeepE.refl _ _ _, hI, fun y hy => by
        rcases List.mem_append.1 hy with hy | hy
        · exact hno y hy
        · rw [List.mem_singleton] at hy; subst hy; exact hfit⟩
  case done =>
    rintro D ys W hD hS ⟨hI, hno⟩ hK
    have hI2 := hI.put 0 false
    have f6 := hI.k6.cell 0
    have f7 := hI.k7.cell 0
    have g6 := hI.k6.frozen 0
    have g7 := hI.k7.frozen 0
    have f7' := ((hI.k7.far (p := ⟨w.heap.size + 1 + 1, 0, none⟩) (by simp) (.int .i64 0))).cell 0
    have g7' := ((hI.k7.far (p := ⟨w.heap.size + 1 + 1, 0, none⟩) (by simp) (.int .i64 0))).frozen 0
    simp at f6 f7 f7'
    have hDlt := (Array.getElem?_eq_some_iff.1 hK).1
    have hK6 : ((W.setCell ⟨w.heap.size + 1 + 1, 0, none⟩ (.int .i64 0)).setCell ⟨w.heap.size + 1 + 1 + 1, 0, none⟩ (.bool false)).heap[D]? = some (.deferred (some [])) :=
      (Below.heap_setCell _ _ _ _ (show D ≠ w.heap.size + 1 + 1 + 1 by omega)).trans ((Below.heap_setCell _ _ _ _ (show D ≠ w.heap.size + 1 + 1 by omega)).trans hK)
    gi_wp2_with fail
    obtain ⟨W6, hW6⟩ : ∃ W6, W6 = (W.setCell ⟨w.heap.size + 1 + 1, 0, none⟩ (.int .i64 0)).setCell ⟨w.heap.size + 1 + 1 + 1, 0, none⟩ (.bool false) := ⟨_, rfl⟩
    rw [← hW6] at hI2 hK6
    have c6 := hI2.k6.cell 0
    have c7 := hI2.k7.cell 0
    simp at c6 c7
    have m0 := cell_putObj (o := .deferred none) (D := D) c6 (by simp; omega)
    have m1 := cell_putObj (o := .deferred none) (D := D) c7 (by simp; omega)
    have hbl := hI2.below.trans (belowK_b (n₀ := w.heap.size) (w := w9) (by omega) W6 D _ (.deferred none) hD hK6 rfl rfl)
    rw [← hW6]
    clear hW6 hI hI2 f6 f7 g6 g7 f7' g7'
    refine ⟨by simp, .inl ⟨_, _, rfl, run_takeDeferred hK6, ?_⟩⟩
    refine ⟨.tuple #[.int .i64 0, .bool false], by rw [results_cc1 rfl]; go_simp, ?_⟩
    have hL : ∀ q ∈ L, fitsB op fr q = false := fun q hq => by
      rw [← hS] at hq
      obtain ⟨y, hy, rfl⟩ := List.mem_map.1 hq
      exact hno y hy
    exact ⟨by rw [findR_none hL]; rfl, hbl⟩
  case stop =>
    rintro D c pre W hD ⟨rest, hSp⟩ ⟨rfl, pre', x, rfl, hno, hfit, hI⟩ hK
    have c6 := hI.k6.cell 0
    have c7 := hI.k7.cell 0
    simp at c6 c7
    have hDlt := (Array.getElem?_eq_some_iff.1 hK).1
    have m0 := cell_putObj (o := .deferred none) (D := D) c6 (by simp; omega)
    have m1 := cell_putObj (o := .deferred none) (D := D) c7 (by simp; omega)
    have hbl := hI.below.trans (belowK_b (n₀ := w.heap.size) (w := w9) (by omega) W D _ (.deferred none) hD hK rfl rfl)
    gi_wp2_with fail
    refine ⟨by simp, .inl ⟨_, _, rfl, run_takeDeferred hK, ?_⟩⟩
    refine ⟨.tuple #[.int .i64 x.1, .bool true], by rw [results_cc1 rfl]; go_simp, ?_⟩
    rw [List.map_append, List.map_cons, List.map_nil, List.append_assoc, List.singleton_append] at hSp
    have hf := findR_some (op := op) (fr := fr) (pre := pre'.map PI.pi) (q := x.pi) (rest := rest) (fun y hy => by
      obtain ⟨z, hz, rfl⟩ := List.mem_map.1 hy
      exact hno z hz) hfit
    exact ⟨by rw [hSp, hf]; rfl, hbl⟩
theorem find_any (A : Option Addr) (n c : Nat) (ws : List Int) (op fr : Int) (L : List (Nat × Ins)) (E : Nat) (w : World) (hn : n ≤ 35184372087808) (hr : Reads w w.heap.size 1 A n (Ints .u32 ws)) (hu : Under 4294967296 ws) (hcap : n ≤ c) (hG : Goes ws 5 L E) :
    Calls Try.prog 28 #[.slice A n c, .int .u16 op, .int .i64 fr] w (FindIs L op fr w) := callsIn_wide.1 (find_in A n c ws op fr L E w hn hr hu hcap hG)
end Go.Proofs.Ytppkjejdkogfpaa
