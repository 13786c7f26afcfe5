/- Walks: edge.edges (an iterator over a triangle's three lines), edge.all, edge.Covers. -/
import Derived.RangeFuncNested
import Derived.RangeFuncBound
import Derived.RangeFuncCalls
import Derived.RangeFuncLeaves
import Derived.Shelf.Abstract
import Derived.Shelf.RegionOpen
import Derived.WalkKit
import Derived.OwnWalkIn
import Derived.TacticsInMore
import Derived.LoopNIn
import Derived.LoopIn
import Derived.Sort.QuietTacIn
import Derived.Test.YtkmdeaffhneibaaRangeG
import Derived.Test.YtkmdeaffhneibaaRound
import Derived.Test.YtkmdeaffhneibaaEdge
namespace Go.Proofs.Ytkmdeaffhneibaa
open Go.RowKit Go.Shelf
attribute [local go_sem] Oper.semAt_some

/-- what lies below n₀ lies as it lay -/
structure KeepL (n₀ : Nat) (A B : World) : Prop where
  cell : ∀ p : Addr, p.block < n₀ → B.cell? p = A.cell? p
  size : A.heap.size ≤ B.heap.size
theorem KeepL.refl (n₀ : Nat) (A : World) : KeepL n₀ A A := ⟨fun _ _ => rfl, Nat.le_refl _⟩
theorem KeepL.trans {n₀ : Nat} {A B C : World} (h : KeepL n₀ A B) (k : KeepL n₀ B C) : KeepL n₀ A C := ⟨fun p hp => (k.cell p hp).trans (h.cell p hp), Nat.le_trans h.size k.size⟩
theorem KeepL.below {n₀ b : Nat} {A B : World} (h : Below b A B) (h1 : n₀ ≤ b) : KeepL n₀ A B := ⟨fun p hp => h.cell (by omega), h.size⟩
theorem KeepL.put {n₀ l : Nat} (W : World) (o' : Obj) (h1 : n₀ ≤ l) : KeepL n₀ W (W.putObj l o') :=
  ⟨fun p hp => World.cell?_of_block (World.putObj_heap_other (by omega)), by rw [World.putObj_size]; exact Nat.le_refl _⟩
theorem abides_below {β : Type} {B : Nat} {J : β → World → Prop} (hJ : AbidesFrom B J) {s : β} {w w' : World} (h : J s w) (hb : Below w.heap.size w w') : J s w' := hJ s _ _ none h (only_of_below hb none) (fun r e => by cases e)

theorem abides_drawn {β : Type} {B : Nat} {J : β → World → Prop} (hJ : AbidesFrom B J) {s : β} {w w' : World} (h : J s w) (hd : Drawn w w') : J s w' := by
  obtain ⟨m, rfl⟩ := hd
  exact hJ s _ _ none h (only_drewN (World.grownBy.refl _ _) m) (fun r e => by cases e)
/-- three places, boxed -/
abbrev Tri := Vec × Vec × Vec
def tcells (t : Tri) : Array Value := #[.int .i64 t.1.1, .int .i64 t.1.2, .int .i64 t.2.1.1, .int .i64 t.2.1.2, .int .i64 t.2.2.1, .int .i64 t.2.2.2]
/-- the line from the k-th on -/
def lineAt (t : Tri) (k : Nat) : Vec × Vec := if k = 0 then (t.1, t.2.1) else if k = 1 then (t.2.1, t.2.2) else (t.2.2, t.1)
def lineA (x : Vec × Vec) : Array Value := #[lineV x.1 x.2]
def NextL (t : Tri) (pre : List (Vec × Vec)) (x : Vec × Vec) (_ : World) : Prop := pre.length < 3 ∧ x = lineAt t pre.length

set_option maxRecDepth 100000 in
set_option maxHeartbeats 2000000 in
theorem edges1_in (Wd : World) (m : Nat) (hm : 1 ≤ m) (l Bs n₀ : Nat) (t : Tri) (hn₀ : n₀ ≤ Wd.heap.size) (hBs : Bs < n₀) (J Jx : List (Vec × Vec) → World → Prop)
    (hJ : AbidesFrom Wd.heap.size J)
    (hY : ∀ pre x W1, J pre W1 → NextL t pre x W1 → YieldAt Fence.wide (m - 1) Try.prog l (lineA x) W1 fun e W' =>
      (e = .returned (.bool true) ∧ J (pre ++ [x]) W' ∧ KeepL n₀ W1 W') ∨ (e = .returned (.bool false) ∧ Jx (pre ++ [x]) W'))
    (hbox : ∀ i, Wd.cell? ⟨Bs, i, none⟩ = (tcells t)[i]?) (h0 : J [] Wd) :
    CallsIn Fence.wide m Try.prog 22 #[.func (.yield l) #[] #[], .pointer (some ⟨Bs, 0, none⟩)] Wd fun e W' => (∃ v, e = .returned v) ∧
      ((∃ ys, ys.length = 3 ∧ J ys W') ∨ (∃ pre, True ∧ Jx pre W')) := by
  refine callsIn_of_wp Try.func22 rfl trivial ?_ rfl
  simp only [Try.ntmps22, List.size_toArray, List.length_cons, List.length_nil, Nat.reduceAdd, Nat.reduceSub, Array.replicate_succ, Array.replicate_zero, List.push_toArray, List.append_toArray, List.nil_append, List.cons_append]
  gi_wp2
  gi_loopw [4] (fun i wr => ∃ (k : Nat) (pre : List (Vec × Vec)), k ≤ 3 ∧ i = .int .i64 k ∧ J pre wr ∧ KeepL n₀ Wd wr ∧ pre.length = k) (fun i _ => 3 - (intOf i).toNat)
  case atStart => exact ⟨0, [], by omega, rfl, h0, KeepL.refl _ _, rfl⟩
  case round =>
    obtain ⟨k, pre, hk, rfl, hJk, hK, hpl⟩ := hrel
    have c0 := (hK.cell ⟨Bs, 0, none⟩ hBs).trans (hbox 0)
    have c1 := (hK.cell ⟨Bs, 1, none⟩ hBs).trans (hbox 1)
    have c2 := (hK.cell ⟨Bs, 2, none⟩ hBs).trans (hbox 2)
    have c3 := (hK.cell ⟨Bs, 3, none⟩ hBs).trans (hbox 3)
    have c4 := (hK.cell ⟨Bs, 4, none⟩ hBs).trans (hbox 4)
    have c5 := (hK.cell ⟨Bs, 5, none⟩ hBs).trans (hbox 5)
    simp [tcells] at c0 c1 c2 c3 c4 c5
    have hcase : k = 0 ∨ k = 1 ∨ k = 2 ∨ k = 3 := by omega
    rcases hcase with rfl | rfl | rfl | rfl
    · have hx := hY pre (t.1, t.2.1) wr.drew (abides_drawn hJ hJk (Drawn.mk wr 1)) ⟨by omega, by rw [hpl]; rfl⟩
      gi_wp2
      refine wpIn_wide_tail 10 (by kernel_rfl) (by kernel_rfl) (by kernel_rfl) (still_of_quiet ?_)
      simp only [List.take_succ_cons, List.take_zero, List.drop_succ_cons, List.drop_zero]
      repeat (go_big_quiet_step (fail))
      refine wpQuiet_nil ?_
      obtain ⟨fn, tmps, assign, body, hy, hRd⟩ := hx
      dsimp only [lineA, lineV] at hy
      gi_wp2_with fail
      refine hRd.mono ?_
      rintro e W3 (⟨rfl, hJ3, hk3⟩ | ⟨rfl, hJx3⟩)
      · clear hy hRd
        have hk4 : KeepL n₀ wr W3 := (KeepL.below ((Below.refl wr.heap.size wr).drew) (Nat.le_trans hn₀ hK.size)).trans hk3
        clear c0 c1 c2 c3 c4 c5
        gi_wp2_with fail
        go_roundw
        case rel => exact ⟨1, _, by omega, by go_num, hJ3, hK.trans hk4, by rw [List.length_append, hpl]; rfl⟩
        case measure => simp [intOf]
      · clear c0 c1 c2 c3 c4 c5
        gi_wp2_with fail
        refine bodyPost_ret (results_none rfl _ _ _) rfl ?_
        exact ⟨⟨_, rfl⟩, .inr ⟨_, trivial, hJx3⟩⟩
    · have hx := hY pre (t.2.1, t.2.2) wr.drew (abides_drawn hJ hJk (Drawn.mk wr 1)) ⟨by omega, by rw [hpl]; rfl⟩
      gi_wp2
      refine wpIn_wide_tail 10 (by kernel_rfl) (by kernel_rfl) (by kernel_rfl) (still_of_quiet ?_)
      simp only [List.take_succ_cons, List.take_zero, List.drop_succ_cons, List.drop_zero]
      repeat (go_big_quiet_step (fail))
      refine wpQuiet_nil ?_
      obtain ⟨fn, tmps, assign, body, hy, hRd⟩ := hx
      dsimp only [lineA, lineV] at hy
      gi_wp2_with fail
      refine hRd.mono ?_
      rintro e W3 (⟨rfl, hJ3, hk3⟩ | ⟨rfl, hJx3⟩)
      · clear hy hRd
        have hk4 : KeepL n₀ wr W3 := (KeepL.below ((Below.refl wr.heap.size wr).drew) (Nat.le_trans hn₀ hK.size)).trans hk3
        clear c0 c1 c2 c3 c4 c5
        gi_wp2_with fail
        go_roundw
        case rel => exact ⟨2, _, by omega, by go_num, hJ3, hK.trans hk4, by rw [List.length_append, hpl]; rfl⟩
        case measure => simp [intOf]
      · clear c0 c1 c2 c3 c4 c5
        gi_wp2_with fail
        refine bodyPost_ret (results_none rfl _ _ _) rfl ?_
        exact ⟨⟨_, rfl⟩, .inr ⟨_, trivial, hJx3⟩⟩
    · have hx := hY pre (t.2.2, t.1) wr.drew (abides_drawn hJ hJk (Drawn.mk wr 1)) ⟨by omega, by rw [hpl]; rfl⟩
      gi_wp2
      refine wpIn_wide_tail 10 (by kernel_rfl) (by kernel_rfl) (by kernel_rfl) (still_of_quiet ?_)
      simp only [List.take_succ_cons, List.take_zero, List.drop_succ_cons, List.drop_zero]
      repeat (go_big_quiet_step (fail))
      refine wpQuiet_nil ?_
      obtain ⟨fn, tmps, assign, body, hy, hRd⟩ := hx
      dsimp only [lineA, lineV] at hy
      gi_wp2_with fail
      refine hRd.mono ?_
      rintro e W3 (⟨rfl, hJ3, hk3⟩ | ⟨rfl, hJx3⟩)
      · clear hy hRd
        have hk4 : KeepL n₀ wr W3 := (KeepL.below ((Below.refl wr.heap.size wr).drew) (Nat.le_trans hn₀ hK.size)).trans hk3
        clear c0 c1 c2 c3 c4 c5
        gi_wp2_with fail
        go_roundw
        case rel => exact ⟨3, _, by omega, by go_num, hJ3, hK.trans hk4, by rw [List.length_append, hpl]; rfl⟩
        case measure => simp [intOf]
      · clear c0 c1 c2 c3 c4 c5
        gi_wp2_with fail
        refine bodyPost_ret (results_none rfl _ _ _) rfl ?_
        exact ⟨⟨_, rfl⟩, .inr ⟨_, trivial, hJx3⟩⟩
    · gi_wp2
      go_end0
      exact ⟨⟨_, rfl⟩, .inl ⟨pre, hpl, hJk⟩⟩
theorem edges1_stops (m : Nat) (hm : 1 ≤ m) (Bs n₀ : Nat) (t : Tri) (w : World) (hn₀ : n₀ ≤ w.heap.size) (hBs : Bs < n₀) (hbox : ∀ i, w.cell? ⟨Bs, i, none⟩ = (tcells t)[i]?) :
    SeqG Fence.wide m Try.prog 22 #[.pointer (some ⟨Bs, 0, none⟩)] lineA (NextL t) (KeepL n₀) (fun ys => ys.length = 3) (fun _ => True) w := fun l J Jx Wd hWd hJ hY h0 =>
  edges1_in Wd m hm l Bs n₀ t (Nat.le_trans hn₀ hWd.size) hBs J Jx hJ hY (fun i => (hWd.cell (show Bs < w.heap.size by omega)).trans (hbox i)) h0
theorem edges_in (m : Nat) (t : Tri) (w : World) :
    CallsIn Fence.wide m Try.prog 21 #[.agg (tcells t)] w fun e w' => e = .returned (.func (.func 22) #[] #[.pointer (some ⟨w.heap.size, 0, none⟩)]) ∧ w' = w.alloc (.cells (tcells t) 56) := by
  unfold tcells
  refine callsIn_of_wp Try.func21 rfl trivial ?_ rfl
  simp only [Try.ntmps21, List.size_toArray, List.length_cons, List.length_nil, Nat.reduceAdd, Nat.reduceSub, Array.replicate_succ, Array.replicate_zero, List.push_toArray, List.append_toArray, List.nil_append, List.cons_append]
  gi_wp2
  go_ret
  exact ⟨rfl, rfl⟩

/-- what lies in the variables of all between two rounds -/
structure AInv (w : World) (g : Nat) (m : Vec) (r : Bool) (W : World) : Prop where
  k3 : Blk W (w.heap.size + 1) 60 #[.func (.func 19) #[] #[.pointer (some ⟨g, 0, none⟩)]]
  k4 : Blk W (w.heap.size + 1 + 1) 4 #[.bool r]
  below : Below w.heap.size w W
  size : w.heap.size + 3 ≤ W.heap.size

theorem noncells {W : World} {row : Option Nat} {g : Nat} {t : TypeId} {cs : Array Value} (hr : ∀ r, row = some r → ∃ o : Obj, W.heap[r]? = some o ∧ o.isCells = false) (h : Blk W g t cs) : some g ≠ row := fun e => by
  obtain ⟨o, h1, h2⟩ := hr g e.symm
  unfold Blk at h
  rw [h] at h1
  cases h1
  cases h2
theorem Blk.kept_ {W W' : World} {row : Option Nat} {g : Nat} {t : TypeId} {cs : Array Value} (h : Blk W g t cs) (hg : W.grownBy W' row) (hr : ∀ r, row = some r → ∃ o : Obj, W.heap[r]? = some o ∧ o.isCells = false) : Blk W' g t cs := h.grown hg (noncells hr h)
theorem cell_putObj {w : World} {p : Addr} {v : Value} {D : Nat} {o : Obj} (h : w.cell? p = some v) (hne : p.block ≠ D) : (w.putObj D o).cell? p = some v := (World.cell?_of_block (World.putObj_heap_other hne)).trans h
theorem AInv.alloc {w W : World} {g : Nat} {m : Vec} {r : Bool} (i : AInv w g m r W) (o : Obj) : AInv w g m r (W.alloc o) := ⟨i.k3.alloc o, i.k4.alloc o, i.below.alloc i.below.size o, by have := i.size; simp; omega⟩
theorem AInv.keep {w W W' : World} {B g : Nat} {m : Vec} {r : Bool} {row : Option Nat} (hB : w.heap.size ≤ B) (i : AInv w g m r W) (hg : W.grownBy W' row) (hr : ∀ k, row = some k → B ≤ k ∧ ∃ o : Obj, W.heap[k]? = some o ∧ o.isCells = false) : AInv w g m r W' := by
  have hr' : ∀ r, row = some r → ∃ o : Obj, W.heap[r]? = some o ∧ o.isCells = false := fun r e => (hr r e).2
  obtain ⟨h3, h4, h5, h6⟩ := i
  exact ⟨h3.kept_ hg hr', h4.kept_ hg hr', h5.grown hg h5.size (fun k e => Nat.le_trans hB (hr k e).1), Nat.le_trans h6 hg.size⟩
theorem AInv.put {w W : World} {g : Nat} {m : Vec} {r : Bool} (i : AInv w g m r W) (r' : Bool) : AInv w g m r' (W.setCell ⟨w.heap.size + 1 + 1, 0, none⟩ (.bool r')) := by
  obtain ⟨h3, h4, h5, h6⟩ := i
  refine ⟨h3.far (p := ⟨w.heap.size + 1 + 1, 0, none⟩) (show w.heap.size + 1 ≠ w.heap.size + 1 + 1 by omega) _, ?_, h5.setCell (p := ⟨w.heap.size + 1 + 1, 0, none⟩) (show w.heap.size ≤ w.heap.size + 1 + 1 by omega) _, by simp; omega⟩
  have h := h4.set_ 0 (.bool r')
  simpa using h
theorem keepsO_below {W W' : World} (h : Below W.heap.size W W') : KeepsOthers W W' := ⟨h.size, fun k _ hk _ => (h.block k (Array.getElem?_eq_some_iff.1 hk).1).trans hk⟩
theorem line16 {t : Tri} (ht : Vec16 t.1 ∧ Vec16 t.2.1 ∧ Vec16 t.2.2) (k : Nat) : Vec16 (lineAt t k).1 ∧ Vec16 (lineAt t k).2 := by
  unfold lineAt
  split
  · exact ⟨ht.1, ht.2.1⟩
  · split
    · exact ⟨ht.2.1, ht.2.2⟩
    · exact ⟨ht.2.2, ht.1⟩

set_option maxRecDepth 100000 in
set_option maxHeartbeats 2000000 in
theorem all_in (t : Tri) (g : Nat) (m : Vec) (w : World) (ht : Vec16 t.1 ∧ Vec16 t.2.1 ∧ Vec16 t.2.2) (hm : Vec16 m) (hg : g < w.heap.size) (c0 : w.cell? ⟨g, 0, none⟩ = some (.int .i64 m.1)) (c1 : w.cell? ⟨g, 1, none⟩ = some (.int .i64 m.2)) :
    CallsIn Fence.wide 9 Try.prog 18 #[.agg (tcells t), .func (.func 19) #[] #[.pointer (some ⟨g, 0, none⟩)]] w fun e w' => e = .returned (.bool (covB t.1 t.2.1 t.2.2 m)) ∧ Below w.heap.size w w' := by
  refine callsIn_of_wp_marks Try.func18 rfl trivial ?_ rfl
  simp only [Try.ntmps18, List.size_toArray, List.length_cons, List.length_nil, Nat.reduceAdd, Nat.reduceSub, Array.replicate_succ, Array.replicate_zero, List.push_toArray, List.append_toArray, List.nil_append, List.cons_append]
  unfold tcells
  gi_wp2_with fail
  refine ⟨trivial, (edges_in _ t _).mono ?_⟩
  rintro e w' ⟨rfl, rfl⟩
  have hb := ((((Below.refl w.heap.size w).alloc (Nat.le_refl _) (.cells (tcells t) 56)).alloc (by simp) (.cells #[.func (.func 19) #[] #[.pointer (some ⟨g, 0, none⟩)]] 60)).alloc (by simp; omega) (.cells #[.bool false] 4)).alloc (by simp; omega) (.cells (tcells t) 56)
  have q3 := ((Blk.new (w.alloc (.cells (tcells t) 56)) 60 #[.func (.func 19) #[] #[.pointer (some ⟨g, 0, none⟩)]]).alloc (.cells #[.bool false] 4)).alloc (.cells (tcells t) 56)
  have q4 := (Blk.new ((w.alloc (.cells (tcells t) 56)).alloc (.cells #[.func (.func 19) #[] #[.pointer (some ⟨g, 0, none⟩)]] 60)) 4 #[.bool false]).alloc (.cells (tcells t) 56)
  have q5 := Blk.new (((w.alloc (.cells (tcells t) 56)).alloc (.cells #[.func (.func 19) #[] #[.pointer (some ⟨g, 0, none⟩)]] 60)).alloc (.cells #[.bool false] 4)) 56 (tcells t)
  simp only [World.size_alloc] at q3 q4 q5
  have hsz9 : ((((w.alloc (.cells (tcells t) 56)).alloc (.cells #[.func (.func 19) #[] #[.pointer (some ⟨g, 0, none⟩)]] 60)).alloc (.cells #[.bool false] 4)).alloc (.cells (tcells t) 56)).heap.size = w.heap.size + 1 + 1 + 1 + 1 := by simp
  have hT : (#[.int .i64 t.1.1, .int .i64 t.1.2, .int .i64 t.2.1.1, .int .i64 t.2.1.2, .int .i64 t.2.2.1, .int .i64 t.2.2.2] : Array Value) = tcells t := rfl
  rw [hT]
  gi_wp2_with fail
  generalize (((w.alloc (.cells (tcells t) 56)).alloc (.cells #[.func (.func 19) #[] #[.pointer (some ⟨g, 0, none⟩)]] 60)).alloc (.cells #[.bool false] 4)).alloc (.cells (tcells t) 56) = w9 at *
  have h0 : AInv w g m false w9 := ⟨q3, q4, hb, by omega⟩
  refine wpIn_range_g rfl (by omega) (gf := 22) (lb := #[.pointer (some ⟨w.heap.size + 1 + 1 + 1, 0, none⟩)]) rfl trivial (enters_of Try.func22 (by kernel_rfl) rfl)
      (edges1_stops _ (by omega) (w.heap.size + 1 + 1 + 1) (w.heap.size + 1 + 1 + 1 + 1) t w9 (by omega) (by omega) q5.cell) (fun h k => h.trans k) (fun W o o' _ => KeepL.put W o' (by omega)) (fun _ => rfl)
      (fun pre W => AInv w g m false W ∧ ∀ k, k < pre.length → edgeB (lineAt t k).1 (lineAt t k).2 m = true) (fun c pre W => c = .ret ∧ (∃ k, k < 3 ∧ edgeB (lineAt t k).1 (lineAt t k).2 m = false) ∧ AInv w g m false W)
      (fun pre W W' row h hg hr => ⟨h.1.keep (B := w9.heap.size) (by omega) hg hr, h.2⟩) (fun c pre W W' row h hg hr => ⟨h.1, h.2.1, h.2.2.keep (B := w9.heap.size) (by omega) hg hr⟩) ⟨h0, by simp⟩
      (fun pre x a' W => NextL t pre x W ∧ ∃ pb, w.heap.size + 1 + 1 + 1 + 1 ≤ pb ∧ Blk W pb 43 #[.int .i64 x.1.1, .int .i64 x.1.2, .int .i64 x.2.1, .int .i64 x.2.2] ∧ a' = { tmps := #[.agg (tcells t), .func (.func 19) #[] #[.pointer (some ⟨g, 0, none⟩)], .pointer (some ⟨w.heap.size, 0, none⟩), .pointer (some ⟨w.heap.size + 1, 0, none⟩), .pointer (some ⟨w.heap.size + 1 + 1, 0, none⟩), .pointer (some ⟨pb, 0, none⟩), .agg (tcells t), .func (.func 22) #[] #[.pointer (some ⟨w.heap.size + 1 + 1 + 1, 0, none⟩)], lineV x.1 x.2, undef, undef, undef, undef], defers := [] })
      ?hax ?assign ?body ?done ?stop
  case hax =>
    rintro pre x a' _ X Y row ⟨g0, pb, g1, g2, g4⟩ hg hr
    have hr' : ∀ r, row = some r → ∃ o : Obj, X.heap[r]? = some o ∧ o.isCells = false := fun r e => (hr r e).2
    exact ⟨g0, pb, g1, g2.kept_ hg hr', g4⟩
  case assign =>
    rintro l pre x W K hsW ⟨hI, hno⟩ hGx hK
    dsimp only [lineA, lineV]
    gi_wp2_with fail
    have hb := (Below.refl W.heap.size W).alloc (Nat.le_refl _) (.cells #[.int .i64 x.1.1, .int .i64 x.1.2, .int .i64 x.2.1, .int .i64 x.2.2] 43)
    exact hK _ _ ((KeepsOthers.alloc _ _).from _) (KeepL.below hb (by omega)) ⟨hI.alloc _, hno⟩ ⟨hGx, W.heap.size, by omega, Blk.new _ _ _, rfl⟩
  case body =>
    rintro l pre x a' W hsW ⟨r, hr⟩ ⟨hI, hno⟩ ⟨hGx, pb, hpb, kb, rfl⟩
    obtain ⟨d0, d1, d2, d3⟩ := four kb.cell
    have f3 := hI.k3.cell 0
    have g4 := hI.k4.frozen 0
    have f4 := hI.k4.cell 0
    simp at f3 f4
    have hx1 := line16 ht pre.length
    rw [← hGx.2] at hx1
    have hC := covers1_any x.1 x.2 m g W hx1.1 hx1.2 hm ((hI.below.cell hg).trans c0) ((hI.below.cell hg).trans c1)
    dsimp only [lineV] at hC ⊢
    gi_wp2_with fail
    refine ⟨trivial, ((callsIn_wide.2 hC).inRound l).mono ?_⟩
    rintro e W2 ⟨rfl, hb2⟩
    have hI2 : AInv w g m false W2 := ⟨hI.k3.below hb2 hI.k3.lt, hI.k4.below hb2 hI.k4.lt, hI.below.trans (hb2.mono (by have := hI.size; omega)), Nat.le_trans hI.size hb2.size⟩
    have e4 := hI2.k4.cell 0
    have i4 := hI2.k4.frozen 0
    simp at e4
    clear hC
    rcases hB : edgeB x.1 x.2 m with _ | _
    · gi_wp2_with fail
      refine ⟨((keepsO_below hb2).trans (KeepsOthers.setCell _ _ _)).from _, rfl, ⟨pre.length, hGx.1, by rw [← hGx.2]; exact hB⟩, hI2.put false⟩
    · gi_wp2_with fail
      refine ⟨(keepsO_below hb2).from _, KeepL.below hb2 (by have := hI.size; omega), hI2, fun k hk => ?_⟩
      rw [List.length_append, List.length_singleton] at hk
      rcases Nat.lt_or_ge k pre.length with h | h
      · exact hno k h
      · obtain rfl : k = pre.length := by omega
        rw [← hGx.2]
        exact hB
  case done =>
    rintro D ys W hD hS ⟨hI, hno⟩ hK
    have hI2 := hI.put true
    have f4 := hI.k4.cell 0
    have g4 := hI.k4.frozen 0
    simp at f4
    have hK6 : (W.setCell ⟨w.heap.size + 1 + 1, 0, none⟩ (.bool true)).heap[D]? = some (.deferred (some [])) := (Below.heap_setCell _ _ _ _ (show D ≠ w.heap.size + 1 + 1 by omega)).trans hK
    gi_wp2_with fail
    generalize W.setCell ⟨w.heap.size + 1 + 1, 0, none⟩ (.bool true) = W6 at *
    have c6 := hI2.k4.cell 0
    simp at c6
    have m0 := cell_putObj (o := .deferred none) (D := D) c6 (by simp; omega)
    have hbl := hI2.below.trans (belowK_b (n₀ := w.heap.size) (w := w9) (by omega) W6 D _ (.deferred none) hD hK6 rfl rfl)
    refine ⟨by simp, .inl ⟨_, _, rfl, run_takeDeferred hK6, ?_⟩⟩
    refine ⟨.bool true, by simp [results, Try.results18, go_sem, m0], ?_⟩
    refine ⟨ret_bool ?_, hbl⟩
    have s0 := hno 0 (by omega)
    have s1 := hno 1 (by omega)
    have s2 := hno 2 (by omega)
    simp only [lineAt] at s0 s1 s2
    simp only [if_true] at s0
    unfold covB
    rw [s0, show edgeB t.2.1 t.2.2 m = true from s1, show edgeB t.2.2 t.1 m = true from s2]
    rfl
  case stop =>
    rintro D c pre W hD _ ⟨rfl, ⟨k, hk3, hk⟩, hI⟩ hK
    have c6 := hI.k4.cell 0
    simp at c6
    have m0 := cell_putObj (o := .deferred none) (D := D) c6 (by simp; omega)
    have hbl := hI.below.trans (belowK_b (n₀ := w.heap.size) (w := w9) (by omega) W D _ (.deferred none) hD hK rfl rfl)
    gi_wp2_with fail
    refine ⟨by simp, .inl ⟨_, _, rfl, run_takeDeferred hK, ?_⟩⟩
    refine ⟨.bool false, by simp [results, Try.results18, go_sem, m0], ?_⟩
    refine ⟨ret_bool ?_, hbl⟩
    have hc : k = 0 ∨ k = 1 ∨ k = 2 := by omega
    unfold covB
    rcases hc with rfl | rfl | rfl
    · rw [show edgeB t.1 t.2.1 m = false from hk]; rfl
    · rw [show edgeB t.2.1 t.2.2 m = false from hk]; simp
    · rw [show edgeB t.2.2 t.1 m = false from hk]; simp
theorem all_any (t : Tri) (g : Nat) (m : Vec) (w : World) (ht : Vec16 t.1 ∧ Vec16 t.2.1 ∧ Vec16 t.2.2) (hm : Vec16 m) (hg : g < w.heap.size) (c0 : w.cell? ⟨g, 0, none⟩ = some (.int .i64 m.1)) (c1 : w.cell? ⟨g, 1, none⟩ = some (.int .i64 m.2)) :
    Calls Try.prog 18 #[.agg (tcells t), .func (.func 19) #[] #[.pointer (some ⟨g, 0, none⟩)]] w fun e w' => e = .returned (.bool (covB t.1 t.2.1 t.2.2 m)) ∧ Below w.heap.size w w' := callsIn_wide.1 (all_in t g m w ht hm hg c0 c1)
end Go.Proofs.Ytkmdeaffhneibaa
