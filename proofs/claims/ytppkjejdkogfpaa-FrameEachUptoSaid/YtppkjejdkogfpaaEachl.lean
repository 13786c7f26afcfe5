/- The walk of FrameEach: whatever the words (1048576 at the most) and wherever it is left, it answers true. -/
import Derived.Test.YtppkjejdkogfpaaRefplaces
import Derived.Test.YtppkjejdkogfpaaBackA
import Derived.Test.YtppkjejdkogfpaaRoundH
namespace Go.Proofs.Ytppkjejdkogfpaa
open Go.RowKit Go.Shelf
attribute [local go_sem] Oper.semAt_some

/-- a loop in a block, cut off from what comes behind it -/
theorem block_cut {F : Fence} {n : Nat} {P : Program} {c : Code} {id : Nat} {K : Act → World → Prop} {Q : Exit → Act → World → Prop} {a : Act} {w : World} (X : Act → Act → World → Prop) (h : ∀ K1 : Act → World → Prop, Hid (∀ a' w', X a a' w' → K1 a' w') → c.wpIn F n P (Exit.inBlock id (Exit.then K1 (fun _ _ _ => False))) a w) (k : ∀ a' w', X a a' w' → K a' w') : c.wpIn F n P (Exit.inBlock id (Exit.then K Q)) a w :=
  wpIn_mono (h (fun a' w' => X a a' w') (Lib.hid fun _ _ hx => hx)) fun e a' w' hx => by
    cases e with
    | normal => exact k _ _ hx
    | exit id' =>
      simp only [Exit.inBlock] at hx ⊢
      split at hx
      · rename_i h1
        rw [if_pos h1]
        exact k _ _ hx
      · exact hx.elim
    | _ => exact hx.elim
/-- what lies in FrameEach's variables between two rounds -/
structure EInv (w5 : World) (b : Nat) (ds : List Nat) (M k : Nat) (W : World) : Prop where
  below : Below b w5 W
  kk : Blk W b 3 #[.int .i64 k]
  dd : ∀ d ∈ ds, W.heap[d]? = some (.deferred (some []))
  size : M ≤ W.heap.size
  low : b + 1 ≤ M
  le : b ≤ w5.heap.size
theorem EInv.alloc {w5 W : World} {b M k : Nat} {ds : List Nat} (i : EInv w5 b ds M k W) (o : Obj) : EInv w5 b ds M k (W.alloc o) := by
  obtain ⟨h1, h2, h3, h4, h5, h6⟩ := i
  exact ⟨h1.alloc (Nat.le_of_lt h2.lt) _, h2.alloc _, fun d hd => (Below.heap_alloc W o d (Array.getElem?_eq_some_iff.1 (h3 d hd)).1).trans (h3 d hd), by rw [World.size_alloc]; omega, h5, h6⟩
theorem EInv.keep {w5 W W' : World} {b M B k : Nat} {ds : List Nat} {row : Option Nat} (hB : b ≤ B) (hds : ∀ d ∈ ds, d < B) (i : EInv w5 b ds M k W) (hg : W.grownBy W' row) (hr : ∀ k, row = some k → B ≤ k ∧ ∃ o : Obj, W.heap[k]? = some o ∧ o.isCells = false) : EInv w5 b ds M k W' := by
  have hr' : ∀ r, row = some r → ∃ o : Obj, W.heap[r]? = some o ∧ o.isCells = false := fun r e => (hr r e).2
  obtain ⟨h1, h2, h3, h4, h5, h6⟩ := i
  exact ⟨h1.grown hg (Nat.le_of_lt h2.lt) (fun k e => Nat.le_trans hB (hr k e).1), h2.kept_ hg hr', fun d hd => (hg.block d (Array.getElem?_eq_some_iff.1 (h3 d hd)).1 (fun e => by have := (hr d e.symm).1; have := hds d hd; omega)).trans (h3 d hd), Nat.le_trans h4 hg.size, h5, h6⟩
theorem EInv.more {w5 W W' : World} {b M k : Nat} {ds : List Nat} (i : EInv w5 b ds M k W) (hb : Below W.heap.size W W') : EInv w5 b ds M k W' := by
  obtain ⟨h1, h2, h3, h4, h5, h6⟩ := i
  exact ⟨below_cut h1 hb h6, h2.below hb h2.lt, fun d hd => (hb.block d (Array.getElem?_eq_some_iff.1 (h3 d hd)).1).trans (h3 d hd), Nat.le_trans h4 hb.size, h5, h6⟩
theorem EInv.put {w5 W : World} {b M k : Nat} {ds : List Nat} (i : EInv w5 b ds M k W) (hds : ∀ d ∈ ds, d ≠ b) (k' : Nat) : EInv w5 b ds M k' (W.setCell ⟨b, 0, none⟩ (.int .i64 k')) := by
  obtain ⟨h1, h2, h3, h4, h5, h6⟩ := i
  refine ⟨h1.setCell (p := ⟨b, 0, none⟩) (Nat.le_refl _) _, ?_, fun d hd => (Below.heap_setCell _ _ _ _ (hds d hd)).trans (h3 d hd), by simp [World.setCell]; omega, h5, h6⟩
  have h := h2.set_ 0 (.int .i64 k')
  simpa using h
theorem EInv.spoil {w5 W W' : World} {b M k : Nat} {row : Option Nat} (i : EInv w5 b [] M k W) (hg : W.grownBy W' row) (hr : ∀ k, row = some k → M ≤ k) : EInv w5 b [] M k W' := by
  obtain ⟨h1, h2, h3, h4, h5, h6⟩ := i
  refine ⟨h1.grown hg (Nat.le_of_lt h2.lt) (fun k e => by have := hr k e; omega), h2.grown hg (fun e => ?_), fun d hd => (by cases hd), Nat.le_trans h4 hg.size, h5, h6⟩
  have := hr b e.symm
  omega

theorem own_cells {w : World} {base size n : Nat} {e : TypeId} {v : Value} {xs : List Value} (h : w.ownsRow base e size v n xs) (j : Nat) (o : Obj) (hj : v.ownBlock = some j) (ho : w.heap[j]? = some o) : o.isCells = true := by
  obtain ⟨_, h⟩ := h
  rcases h with ⟨rfl, _⟩ | ⟨g, cap, cur, rfl, _, hg, _⟩
  · simp [Value.ownBlock] at hj
  · obtain rfl : g = j := by simpa [Value.ownBlock] using hj
    rw [hg] at ho
    cases ho
    rfl
theorem KeepB.grown {gb Bs : Nat} {W W' : World} {row : Option Nat} (hg : W.grownBy W' row) (h1 : gb < W.heap.size) (h2 : Bs < W.heap.size) (hr : ∀ k, row = some k → k ≠ gb ∧ k ≠ Bs) : KeepB gb Bs W W' :=
  ⟨fun p hp => World.cell?_of_block (hg.block p.block (by rcases hp with hp | hp <;> omega) (fun e => by have := hr _ e.symm; rcases hp with hp | hp <;> omega)), hg.size⟩
/-- four cells, and what was there stays -/
structure Held4 (W : World) (a1 a2 a3 a4 : Addr) (v1 v2 v3 v4 : Value) (w' : World) : Prop where
  c1 : w'.cell? a1 = some v1
  c2 : w'.cell? a2 = some v2
  c3 : w'.cell? a3 = some v3
  c4 : w'.cell? a4 = some v4
  below : Below W.heap.size W w'
  l1 : a1.block < W.heap.size
  l2 : a2.block < W.heap.size
  l3 : a3.block < W.heap.size
  l4 : a4.block < W.heap.size
theorem Held4.first {W : World} {a1 a2 a3 a4 : Addr} {v1 v2 v3 v4 : Value} (h1 : W.cell? a1 = some v1) (h2 : W.cell? a2 = some v2) (h3 : W.cell? a3 = some v3) (h4 : W.cell? a4 = some v4) : Held4 W a1 a2 a3 a4 v1 v2 v3 v4 W.drew :=
  ⟨h1, h2, h3, h4, (Below.refl _ _).drew, World.block_lt_of_cell? _ _ h1, World.block_lt_of_cell? _ _ h2, World.block_lt_of_cell? _ _ h3, World.block_lt_of_cell? _ _ h4⟩
theorem Held4.more {W w' w'' : World} {a1 a2 a3 a4 : Addr} {v1 v2 v3 v4 : Value} (h : Held4 W a1 a2 a3 a4 v1 v2 v3 v4 w') (hb : Below w'.heap.size w' w'') : Held4 W a1 a2 a3 a4 v1 v2 v3 v4 w'' := by
  obtain ⟨h1, h2, h3, h4, h5, l1, l2, l3, l4⟩ := h
  exact ⟨(hb.cell (World.block_lt_of_cell? _ _ h1)).trans h1, (hb.cell (World.block_lt_of_cell? _ _ h2)).trans h2, (hb.cell (World.block_lt_of_cell? _ _ h3)).trans h3, (hb.cell (World.block_lt_of_cell? _ _ h4)).trans h4, below_cut h5 hb (Nat.le_refl _), l1, l2, l3, l4⟩
theorem Held4.put2 {W w' : World} {a1 a2 a3 a4 : Addr} {v1 v2 v3 v4 : Value} (h : Held4 W a1 a2 a3 a4 v1 v2 v3 v4 w') {s : Nat} (hs : W.heap.size ≤ s) (u0 u1 : Value) : Held4 W a1 a2 a3 a4 v1 v2 v3 v4 ((w'.setCell ⟨s, 0, none⟩ u0).setCell ⟨s, 1, none⟩ u1) := by
  obtain ⟨h1, h2, h3, h4, h5, l1, l2, l3, l4⟩ := h
  have h6 := (Below.refl W.heap.size w').setCell (p := ⟨s, 0, none⟩) hs u0
  have h7 := h6.setCell (p := ⟨s, 1, none⟩) hs u1
  exact ⟨(h7.cell l1).trans h1, (h7.cell l2).trans h2, (h7.cell l3).trans h3, (h7.cell l4).trans h4, h5.trans h7, l1, l2, l3, l4⟩

set_option linter.unusedSimpArgs false in
set_option maxRecDepth 100000 in
set_option maxHeartbeats 0 in
theorem eachl_in (A : Option Addr) (n c : Nat) (ws : List Int) (stop : Int) (w : World) (hn : n ≤ 1048576) (hu : Under 4294967296 ws) (hr : Reads w w.heap.size 1 A n (Ints .u32 ws)) :
    CallsIn Fence.wide 9 Try.prog 4 #[.slice A n c, .int .i64 stop] w fun e w' => e = .returned (.bool true) ∧ Below w.heap.size w w' := by
  have hlen := hr.len
  obtain ⟨L, E, hG⟩ := Goes.any ws 5
  have hn3 : n ≤ 35184372087808 := Nat.le_trans hn (by decide)
  have Hn := Lib.hid hn
  clear hn
  have k1 := ((Blk.new w 22 #[.slice A n c]).alloc (.cells #[.int .i64 stop] 3)).alloc (.cells #[.bool false] 4)
  have k2 := (Blk.new (w.alloc (.cells #[.slice A n c] 22)) 3 #[.int .i64 stop]).alloc (.cells #[.bool false] 4)
  have k3 := Blk.new ((w.alloc (.cells #[.slice A n c] 22)).alloc (.cells #[.int .i64 stop] 3)) 4 #[.bool false]
  simp only [World.size_alloc] at k2 k3
  have hb := (((Below.refl w.heap.size w).alloc (Nat.le_refl _) (.cells #[.slice A n c] 22)).alloc (by simp) (.cells #[.int .i64 stop] 3)).alloc (by simp; omega) (.cells #[.bool false] 4)
  have hsz : (((w.alloc (.cells #[.slice A n c] 22)).alloc (.cells #[.int .i64 stop] 3)).alloc (.cells #[.bool false] 4)).heap.size = w.heap.size + 1 + 1 + 1 := by simp
  have p1 := k1.cell 0
  simp at p1
  refine callsIn_of_wp_marks Try.func4 rfl trivial ?_ rfl
  simp only [Try.ntmps4, List.size_toArray, List.length_cons, List.length_nil, Nat.reduceAdd, Nat.reduceSub, Array.replicate_succ, Array.replicate_zero, List.push_toArray, List.append_toArray, List.nil_append, List.cons_append]
  gi_wp2_with fail
  generalize ((w.alloc (.cells #[.slice A n c] 22)).alloc (.cells #[.int .i64 stop] 3)).alloc (.cells #[.bool false] 4) = w1 at *
  have hr1 := (hr.below hb).more (B' := w1.heap.size) hb.size
  have hrr := hr1
  refine ⟨trivial, (callsIn_wide.2 (places_any A n c ws L E w1 Hn.out hr1 hu hG)).mono ?_⟩
  rintro e w2 ⟨Ap, cp, rfl, hop, hb2⟩
  have hB2 := below_cut hb hb2 (Nat.le_refl _)
  have k12 := k1.below hb2 (by omega)
  have k22 := k2.below hb2 (by omega)
  have k32 := k3.below hb2 (by omega)
  have q12 := fun o => (k12.alloc o).cell 0
  simp at q12
  have hB3 := hB2.alloc hB2.size (.cells #[.slice Ap L.length cp] 38)
  have k13 := k12.alloc (.cells #[.slice Ap L.length cp] 38)
  have k23 := k22.alloc (.cells #[.slice Ap L.length cp] 38)
  have k33 := k32.alloc (.cells #[.slice Ap L.length cp] 38)
  have k43 := Blk.new w2 38 #[.slice Ap L.length cp]
  have hop3 := hop.alloc (.cells #[.slice Ap L.length cp] 38)
  have hs3 : (w2.alloc (.cells #[.slice Ap L.length cp] 38)).heap.size = w2.heap.size + 1 := by simp
  have hs2 := hb2.size
  clear hr1 hop p1
  gi_wp2_with fail
  generalize w2.alloc (.cells #[.slice Ap L.length cp] 38) = w3 at *
  have hr3 := (hr.below hB3).more (B' := w3.heap.size) hB3.size
  refine ⟨trivial, (callsIn_wide.2 (copyWords A n c ws w3 hn3 hr3)).mono ?_⟩
  rintro e w4 ⟨g4, rfl, ho4, hb4⟩
  have hB4 := below_cut hB3 hb4 (Nat.le_refl _)
  have k14 := k13.below hb4 k13.lt
  have k24 := k23.below hb4 k23.lt
  have k34 := k33.below hb4 k33.lt
  have k44 := k43.below hb4 k43.lt
  have hop4 := own_below hop3 hb4
  have hg4 := own_lt ho4
  have hs4 := hb4.size
  clear hr3 q12
  gi_wp2_with fail
  have hnil := fun W B => run_eql_func_nil W 41 Try.underlying41 (.func 34) #[] #[.pointer (some ⟨B, 0, none⟩)]
  refine ⟨trivial, (each_in _ _ (some ⟨g4, 0, none⟩) n n rfl _).mono ?_⟩
  rintro e w' ⟨rfl, rfl⟩
  have hB5 := (hB4.alloc hB4.size (.cells #[.slice (some ⟨g4, 0, none⟩) n n] 22))
  have k15 := k14.alloc (.cells #[.slice (some ⟨g4, 0, none⟩) n n] 22)
  have k25 := k24.alloc (.cells #[.slice (some ⟨g4, 0, none⟩) n n] 22)
  have k35 := k34.alloc (.cells #[.slice (some ⟨g4, 0, none⟩) n n] 22)
  have k45 := k44.alloc (.cells #[.slice (some ⟨g4, 0, none⟩) n n] 22)
  have hop5 := hop4.alloc (.cells #[.slice (some ⟨g4, 0, none⟩) n n] 22)
  have hr5 := (Reads.of_own ho4).alloc (Nat.le_refl _) (.cells #[.slice (some ⟨g4, 0, none⟩) n n] 22)
  have kbox := Blk.new w4 22 #[.slice (some ⟨g4, 0, none⟩) n n]
  have hs5 : (w4.alloc (.cells #[.slice (some ⟨g4, 0, none⟩) n n] 22)).heap.size = w4.heap.size + 1 := by simp
  clear hop3 hop4 k13 k23 k33 k43 k14 k24 k34 k44 ho4
  gi_wp2_with fail
  generalize w4.alloc (.cells #[.slice (some ⟨g4, 0, none⟩) n n] 22) = w5 at *
  have hlow4 : w.heap.size + 3 ≤ w3.heap.size := by omega
  have hp25 : w2.heap.size < w3.heap.size := by omega
  have hbox5 := kbox.cell 0
  have hI0 : EInv w5 (w4.heap.size + 1) [] (w4.heap.size + 2) 0 (w5.alloc (.cells #[.int .i64 0] 3)) :=
    ⟨(Below.refl _ _).alloc (Nat.le_of_eq hs5.symm) _, by rw [← hs5]; exact Blk.new _ _ _, fun d hd => (by cases hd), by simp; omega, Nat.le_refl _, Nat.le_of_eq hs5.symm⟩
  have hs6 : (w5.alloc (.cells #[.int .i64 0] 3)).heap.size = w4.heap.size + 2 := by simp; omega
  have hr6 := hr5.alloc (Nat.le_trans (Nat.le_succ _) (Nat.le_of_eq hs5.symm)) (.cells #[.int .i64 0] 3)
  have hbox6 := (kbox.alloc (.cells #[.int .i64 0] 3)).cell 0
  simp at hbox5 hbox6
  clear hnil
  generalize w5.alloc (.cells #[.int .i64 0] 3) = w6 at *
  refine block_cut (fun a a' W' => ∃ D k, a' = { a with defers := { target := .collected D, args := #[] } :: a.defers } ∧ EInv w5 (w4.heap.size + 1) [] (w4.heap.size + 2) k W' ∧ (k = L.length ∨ (k : Int) = stop) ∧ w4.heap.size + 2 ≤ D ∧ W'.heap[D]? = some (.deferred (some []))) ?_ ?_
  · intro K1 hK1
    refine wpIn_range_g rfl (by omega) (gf := 34) (lb := #[.pointer (some ⟨w4.heap.size, 0, none⟩)]) rfl trivial (enters_of Try.func34 (by kernel_rfl) rfl)
      (eachB_stops _ (by omega) w4.heap.size g4 w4.heap.size n n E (w4.heap.size + 2) (some ⟨g4, 0, none⟩) ws L w6 hn3 (Nat.le_refl n) hu hG (fun ad h => by cases h; rfl) (by omega) (by omega) (by omega) (by omega) hbox6 hr6) (fun h k => h.trans k) (fun W o o' _ => KeepB.put W o' (by omega) (by omega)) (fun _ => rfl)
      (fun pre W => EInv w5 (w4.heap.size + 1) [] (w4.heap.size + 2) pre.length W) (fun c pre W => c = .exit 0 ∧ EInv w5 (w4.heap.size + 1) [] (w4.heap.size + 2) pre.length W ∧ (pre.length : Int) = stop) (fun pre W W' row h hg hr => h.keep (B := w6.heap.size) (by omega) (fun d hd => (by cases hd)) hg hr) (fun _ pre W W' row h hg hr => ⟨h.1, h.2.1.keep (B := w6.heap.size) (by omega) (fun d hd => (by cases hd)) hg hr, h.2.2⟩) hI0
      (fun pre x a' W => ∃ pb, w4.heap.size + 2 ≤ pb ∧ Blk W pb 45 #[.int .u16 x.2.1.1, .slice x.2.2.1 x.2.1.2.length x.2.2.2] ∧ Handed (w4.heap.size + 2) L pre x W ∧ a' = { tmps := #[Value.slice A n c, Value.int IntKind.i64 stop, Value.pointer (some { block := w.heap.size, off := 0 }), Value.pointer (some { block := w.heap.size + 1, off := 0 }), Value.pointer (some { block := w.heap.size + 1 + 1, off := 0 }), Value.pointer (some { block := w2.heap.size, off := 0 }), Value.slice (some { block := g4, off := 0 }) n n, Value.func (Fn.func 34) #[] #[Value.pointer (some { block := w4.heap.size, off := 0 })], Value.pointer (some { block := w4.heap.size + 1, off := 0 }), Value.int IntKind.i64 (x.1 : Int), Value.pointer (some { block := pb, off := 0 }), undef, undef, undef, Value.slice A n c, Value.slice Ap L.length cp, Value.slice A n c, Value.slice (some { block := g4, off := 0 }) n n, Value.slice (some { block := g4, off := 0 }) n n, Value.func (Fn.func 34) #[] #[Value.pointer (some { block := w4.heap.size, off := 0 })], Value.func (Fn.func 34) #[] #[Value.pointer (some { block := w4.heap.size, off := 0 })], Value.bool false, Value.func (Fn.func 34) #[] #[Value.pointer (some { block := w4.heap.size, off := 0 })], Value.int IntKind.i64 (x.1 : Int), Value.agg #[Value.int IntKind.u16 x.2.1.1, Value.slice x.2.2.1 x.2.1.2.length x.2.2.2], undef, undef, undef, undef, undef, undef, undef, undef, undef, undef, undef, undef, undef, undef, undef, undef, undef, undef, undef, undef, undef, undef, undef, undef, undef, undef, undef, undef, undef, undef, undef, undef, undef, undef, undef, undef, undef, undef, undef, undef, undef, undef, undef, undef, undef, undef, undef, undef, undef, undef, undef, undef, undef, undef, undef, undef, undef, undef, undef, undef, undef, undef, undef, undef, undef, undef, undef, undef, undef, undef, undef, undef, undef, undef, undef, undef, undef, undef, undef, undef, undef, undef, undef, undef, undef, undef, undef, undef, undef, undef, undef, undef, undef, undef, undef, undef, undef, undef, undef, undef, undef, undef], defers := [] })
      ?hax ?assign ?body ?done ?stop
    case hax =>
      rintro pre x a' _ X Y row ⟨pb, g1, g2, g3, g4⟩ hg hr
      have hr' : ∀ r, row = some r → ∃ o : Obj, X.heap[r]? = some o ∧ o.isCells = false := fun r e => (hr r e).2
      exact ⟨pb, g1, g2.kept_ hg hr', g3.kept_ hg hr', g4⟩
    case assign =>
      rintro lr pre x W K hsW hI hGx hK
      dsimp only [eachV]
      gi_wp2_with fail
      have hbA := (Below.refl W.heap.size W).alloc (Nat.le_refl _) (.cells #[.int .u16 x.2.1.1, .slice x.2.2.1 x.2.1.2.length x.2.2.2] 45)
      exact hK _ _ ((KeepsOthers.alloc _ _).from _) (KeepB.below hbA (by omega) (by omega)) (hI.alloc _) ⟨W.heap.size, by omega, Blk.new _ _ _, hGx.alloc _, rfl⟩
    case body =>
      rintro lr pre x a' W hsW - hI ⟨pb, hpb, kb, hGx, rfl⟩
      obtain ⟨rest, hLe⟩ := hGx.is
      have hLl : L.length = pre.length + 1 + rest.length := by rw [hLe]; simp; omega
      have hkl : pre.length < L.length := by omega
      have hLk : L[pre.length] = x.pi := by simp [hLe]
      obtain ⟨bd1, bd2, bd3, bd4, hix⟩ := hGx.bounds hG hu
      have hpl : ix (pl L) pre.length = (x.1 : Int) := by rw [pl_at hkl, hLk]; rfl
      obtain ⟨k, hk, hcan⟩ := hG.mem (q := x.pi) (by rw [hLe]; simp)
      obtain rfl : x.1 = k := congrArg Prod.fst hk
      have hBW : Below w5.heap.size w5 W := by rw [hs5]; exact hI.below
      have hB5W := below_cut hB5 hBW (Nat.le_refl _)
      have k1W := k15.below hBW k15.lt
      have k2W := k25.below hBW k25.lt
      have k4W := k45.below hBW k45.lt
      obtain ⟨bp, offp, hAp, hbp, hcells⟩ := ((Reads.of_own hop5).below hBW).ints (by omega)
      subst hAp
      have hck := hcells pre.length hkl
      rw [hpl] at hck
      have hrW := (hr.below hB5W).more (B' := W.heap.size) hB5W.size
      have hrowr := Reads.of_own hGx.row
      have q1 := k1W.cell 0
      have q2 := k2W.cell 0
      have q4 := k4W.cell 0
      have q8 := hI.kk.cell 0
      have q8f := hI.kk.frozen 0
      obtain ⟨d0, d1⟩ := kb.read2
      simp at q1 q2 q4 q8
      obtain ⟨kN, hkN⟩ : ∃ kN, pre.length = kN := ⟨_, rfl⟩
      rw [hkN] at q8 hck hkl hI bd4
      obtain ⟨eN, heN'⟩ : ∃ eN, x.1 + cntW (ix ws x.1) = eN := ⟨_, rfl⟩
      have hxe : x.1 < eN := by have := hcan.2.1; omega
      have hxn : x.1 < n := by omega
      have heN : eN ≤ n := by have := hcan.2.2; omega
      have hins2 : ((ix ws x.1 % 65536, (ws.drop (x.1 + 1)).take (eN - (x.1 + 1))) : Ins) = x.2.1 := by
        rw [hix, ← heN']
        show _ = (_, _)
        rw [show x.1 + cntW (ix ws x.1) - (x.1 + 1) = cntW (ix ws x.1) - 1 by omega]
      have hwr : IntKind.i64.wrap ((x.1 : Int) + (cntW (ix ws x.1) : Int)) = (eN : Int) := by simp [IntKind.wrap, IntKind.signed, IntKind.bits]; omega
      have hlx : x.2.1.2.length ≤ 9223372036854775807 := Nat.le_trans bd1 (by decide)
      have hge : decide ((L.length : Int) ≤ (kN : Int)) = false := by simp; omega
      have hge2 : decide (L.length ≤ kN) = false := by simp; omega
      have Hix := Lib.hid hix; have HkN := Lib.hid hkN; have HLl := Lib.hid hLl; have HLe := Lib.hid hLe; have Hins := Lib.hid hins2; have HeN := Lib.hid heN'; have HLk := Lib.hid hLk; have Hpl := Lib.hid hpl; have Hk := Lib.hid hk
      clear hix hkN hLl hLe hins2 heN' hLk hpl hk hcells
      gi_wp2_with fail
      have hS0 : Held4 W ⟨w.heap.size, 0, none⟩ ⟨w2.heap.size, 0, none⟩ ⟨w4.heap.size + 1, 0, none⟩ ⟨bp, offp + kN, none⟩ (.slice A n c) (.slice (some ⟨bp, offp, none⟩) L.length cp) (.int .i64 kN) (.int .i64 x.1) W.drew := Held4.first q1 q4 q8 hck
      refine regionIn_cut (fun a a' W' => ∃ (A12 : Option Addr) (c12 b11 : Nat), W.heap.size ≤ b11 ∧ Blk W' b11 45 #[.int .u16 x.2.1.1, .slice A12 x.2.1.2.length c12] ∧ Reads W' W'.heap.size 1 A12 x.2.1.2.length (Ints .u32 x.2.1.2) ∧ Below W.heap.size W W' ∧
        a' = (((((((((((((((((((a.put (some 37) (.slice A n c)).put (some 38) (.slice (some ⟨bp, offp, none⟩) L.length cp)).put (some 39) (.int .i64 kN)).put (some 40) (.pointer (some ⟨bp, offp + kN, none⟩))).put (some 41) (.int .i64 x.1)).put (some 42) (.slice (some ⟨bp, offp, none⟩) L.length cp)).put (some 43) (.int .i64 kN)).put (some 44) (.pointer (some ⟨bp, offp + kN, none⟩))).put (some 45) (.int .i64 x.1)).put (some 46) (.slice A n c)).put (some 47) (.slice (some ⟨bp, offp, none⟩) L.length cp)).put (some 48) (.int .i64 kN)).put (some 49) (.pointer (some ⟨bp, offp + kN, none⟩))).put (some 50) (.int .i64 x.1)).put (some 51) (.int .i64 (cntW (ix ws x.1)))).put (some 52) (.int .i64 eN)).put (some 53) (.agg #[.int .u16 x.2.1.1, .slice A12 x.2.1.2.length c12])).put (some 11) (.pointer (some ⟨b11, 0, none⟩))).put none undef)) ?_ ?_
      · intro K1 hK1
        have hrS : ∀ {w' : World}, Held4 W ⟨w.heap.size, 0, none⟩ ⟨w2.heap.size, 0, none⟩ ⟨w4.heap.size + 1, 0, none⟩ ⟨bp, offp + kN, none⟩ (.slice A n c) (.slice (some ⟨bp, offp, none⟩) L.length cp) (.int .i64 kN) (.int .i64 x.1) w' → Reads w' w'.heap.size 1 A n (Ints .u32 ws) := fun h => (hrW.below h.below).more h.below.size
        refine wpIn_round_held _ (by kernel_rfl) (by kernel_rfl) (fun _ _ h => h) hS0 (fun hHeld => ?_)
        clear hS0 q1 q2 q4 q8 q8f hck d0 d1 hrowr
        generalize W.drew = V at *
        -- HELD
        have hHeldV := hHeld
        refine wpAnyH_take (i := 0) (oi := _) (v := ?_) rfl (by kernel_rfl) (by kernel_rfl) (by kernel_rfl) (fun _ _ _ h => h) (Or.inl ⟨by rfl, ?_⟩) hHeld ?_
        rotate_left
        · intro w' hSw
          obtain ⟨c1, c2, c3, c4, -, -, -, -, -⟩ := hSw
          go_simp
          try with_reducible rfl
        (try simp only [Act.put, List.setIfInBounds_toArray, List.set_cons_zero, List.set_cons_succ])
        refine wpAnyH_take (i := 1) (oi := _) (v := ?_) rfl (by kernel_rfl) (by kernel_rfl) (by kernel_rfl) (fun _ _ _ h => h) (Or.inl ⟨by rfl, ?_⟩) hHeld ?_
        rotate_left
        · intro w' hSw
          obtain ⟨c1, c2, c3, c4, -, -, -, -, -⟩ := hSw
          go_simp
          try with_reducible rfl
        (try simp only [Act.put, List.setIfInBounds_toArray, List.set_cons_zero, List.set_cons_succ])
        refine wpAnyH_take (i := 2) (oi := _) (v := ?_) rfl (by kernel_rfl) (by kernel_rfl) (by kernel_rfl) (fun _ _ _ h => h) (Or.inl ⟨by rfl, ?_⟩) hHeld ?_
        rotate_left
        · intro w' hSw
          obtain ⟨c1, c2, c3, c4, -, -, -, -, -⟩ := hSw
          go_simp
          try with_reducible rfl
        (try simp only [Act.put, List.setIfInBounds_toArray, List.set_cons_zero, List.set_cons_succ])
        refine wpAnyH_take (i := 3) (oi := _) (v := ?_) rfl (by kernel_rfl) (by kernel_rfl) (by kernel_rfl) (fun _ _ _ h => h) (Or.inl ⟨by rfl, ?_⟩) hHeld ?_
        rotate_left
        · intro w' hSw
          obtain ⟨c1, c2, c3, c4, -, -, -, -, -⟩ := hSw
          go_simp
          try with_reducible rfl
        (try simp only [Act.put, List.setIfInBounds_toArray, List.set_cons_zero, List.set_cons_succ])
        refine wpAnyH_take (i := 4) (oi := _) (v := ?_) rfl (by kernel_rfl) (by kernel_rfl) (by kernel_rfl) (fun _ _ _ h => h) (Or.inl ⟨by rfl, ?_⟩) hHeld ?_
        rotate_left
        · intro w' hSw
          obtain ⟨c1, c2, c3, c4, -, -, -, -, -⟩ := hSw
          go_simp
          try with_reducible rfl
        (try simp only [Act.put, List.setIfInBounds_toArray, List.set_cons_zero, List.set_cons_succ])
        refine wpAnyH_take (i := 5) (oi := _) (v := ?_) rfl (by kernel_rfl) (by kernel_rfl) (by kernel_rfl) (fun _ _ _ h => h) (Or.inl ⟨by rfl, ?_⟩) hHeld ?_
        rotate_left
        · intro w' hSw
          obtain ⟨c1, c2, c3, c4, -, -, -, -, -⟩ := hSw
          go_simp
          try with_reducible rfl
        (try simp only [Act.put, List.setIfInBounds_toArray, List.set_cons_zero, List.set_cons_succ])
        refine wpAnyH_take (i := 6) (oi := _) (v := ?_) rfl (by kernel_rfl) (by kernel_rfl) (by kernel_rfl) (fun _ _ _ h => h) (Or.inl ⟨by rfl, ?_⟩) hHeld ?_
        rotate_left
        · intro w' hSw
          obtain ⟨c1, c2, c3, c4, -, -, -, -, -⟩ := hSw
          go_simp
          try with_reducible rfl
        (try simp only [Act.put, List.setIfInBounds_toArray, List.set_cons_zero, List.set_cons_succ])
        refine wpAnyH_take (i := 7) (oi := _) (v := ?_) rfl (by kernel_rfl) (by kernel_rfl) (by kernel_rfl) (fun _ _ _ h => h) (Or.inl ⟨by rfl, ?_⟩) hHeld ?_
        rotate_left
        · intro w' hSw
          obtain ⟨c1, c2, c3, c4, -, -, -, -, -⟩ := hSw
          go_simp
          try with_reducible rfl
        (try simp only [Act.put, List.setIfInBounds_toArray, List.set_cons_zero, List.set_cons_succ])
        refine wpAnyH_take (i := 8) (oi := _) (v := ?_) rfl (by kernel_rfl) (by kernel_rfl) (by kernel_rfl) (fun _ _ _ h => h) (Or.inl ⟨by rfl, ?_⟩) hHeld ?_
        rotate_left
        · intro w' hSw
          obtain ⟨c1, c2, c3, c4, -, -, -, -, -⟩ := hSw
          go_simp
          try with_reducible rfl
        (try simp only [Act.put, List.setIfInBounds_toArray, List.set_cons_zero, List.set_cons_succ])
        refine wpAnyH_take (i := 9) (oi := _) (v := ?_) rfl (by kernel_rfl) (by kernel_rfl) (by kernel_rfl) (fun _ _ _ h => h) (Or.inl ⟨by rfl, ?_⟩) hHeld ?_
        rotate_left
        · intro w' hSw
          obtain ⟨c1, c2, c3, c4, -, -, -, -, -⟩ := hSw
          go_simp
          try with_reducible rfl
        (try simp only [Act.put, List.setIfInBounds_toArray, List.set_cons_zero, List.set_cons_succ])
        refine wpAnyH_take (i := 10) (oi := _) (v := ?_) rfl (by kernel_rfl) (by kernel_rfl) (by kernel_rfl) (fun _ _ _ h => h) (Or.inl ⟨by rfl, ?_⟩) hHeld ?_
        rotate_left
        · intro w' hSw
          obtain ⟨c1, c2, c3, c4, -, -, -, -, -⟩ := hSw
          go_simp
          try with_reducible rfl
        (try simp only [Act.put, List.setIfInBounds_toArray, List.set_cons_zero, List.set_cons_succ])
        refine wpAnyH_take (i := 11) (oi := _) (v := ?_) rfl (by kernel_rfl) (by kernel_rfl) (by kernel_rfl) (fun _ _ _ h => h) (Or.inl ⟨by rfl, ?_⟩) hHeld ?_
        rotate_left
        · intro w' hSw
          obtain ⟨c1, c2, c3, c4, -, -, -, -, -⟩ := hSw
          go_simp
          try with_reducible rfl
        (try simp only [Act.put, List.setIfInBounds_toArray, List.set_cons_zero, List.set_cons_succ])
        refine wpAnyH_take (i := 12) (oi := _) (v := ?_) rfl (by kernel_rfl) (by kernel_rfl) (by kernel_rfl) (fun _ _ _ h => h) (Or.inl ⟨by rfl, ?_⟩) hHeld ?_
        rotate_left
        · intro w' hSw
          obtain ⟨c1, c2, c3, c4, -, -, -, -, -⟩ := hSw
          go_simp
          try with_reducible rfl
        (try simp only [Act.put, List.setIfInBounds_toArray, List.set_cons_zero, List.set_cons_succ])
        refine wpAnyH_take (i := 13) (oi := _) (v := ?_) rfl (by kernel_rfl) (by kernel_rfl) (by kernel_rfl) (fun _ _ _ h => h) (Or.inl ⟨by rfl, ?_⟩) hHeld ?_
        rotate_left
        · intro w' hSw
          obtain ⟨c1, c2, c3, c4, -, -, -, -, -⟩ := hSw
          go_simp
          try with_reducible rfl
        (try simp only [Act.put, List.setIfInBounds_toArray, List.set_cons_zero, List.set_cons_succ])
        refine wpAnyH_ready (rs := [14, 17]) (by kernel_rfl) (by simp) ?_
        refine AllReadyH.cons (o := _) rfl (fun K hK => ?_) ?_
        · go_simp
          go_at_call 21
          refine (count_any A n c ws x.1 _ hxn hu (hrS hHeld)).mono ?_
          rintro e w' ⟨rfl, rfl⟩
          (try go_wp2_with fail)
          refine hK.out _ _ hHeld (fun _ => ?_)
          clear hK K
          (try simp only [Act.put, List.setIfInBounds_toArray, List.set_cons_zero, List.set_cons_succ])
          refine wpAnyH_take (i := 15) (oi := _) (v := ?_) rfl (by kernel_rfl) (by kernel_rfl) (by kernel_rfl) (fun _ _ _ h => h) (Or.inl ⟨by rfl, ?_⟩) hHeld ?_
          rotate_left
          · intro w' hSw
            obtain ⟨c1, c2, c3, c4, -, -, -, -, -⟩ := hSw
            go_simp
            try with_reducible rfl
          (try simp only [Act.put, List.setIfInBounds_toArray, List.set_cons_zero, List.set_cons_succ])
          refine wpAnyH_ready (rs := [16, 17]) (by kernel_rfl) (by simp) ?_
          refine AllReadyH.cons (o := _) rfl (fun K hK => ?_) ?_
          · go_simp
            go_at_call 20
            refine (at_any A n c ws x.1 eN _ hn3 hxe heN hu (hrS hHeld)).mono ?_
            rintro e W2 ⟨⟨r1, A12, c12⟩, hr1, rfl, ho2, hb2⟩
            have hr2 : r1 = x.2.1 := hr1.trans Hins.out
            subst hr2
            clear hr1
            (try go_wp2_with fail)
            have hHeld2 := hHeld.more hb2
            refine hK.out _ _ hHeld2 (fun hHeld => ?_)
            clear hK K
            (try simp only [Act.put, List.setIfInBounds_toArray, List.set_cons_zero, List.set_cons_succ])
            have hHeldX := hHeld
            refine wpAnyH_ready (rs := [17]) (by kernel_rfl) (by simp) ?_
            refine AllReadyH.cons (o := _) rfl (fun K hK => ?_) ?_
            · have hrA := (Reads.of_own ho2).below ((Below.refl W2.heap.size W2).alloc (Nat.le_refl _) (.cells #[.int .u16 0, .slice none 0 0] 45))
              have kal := Blk.new W2 45 #[.int .u16 0, .slice none 0 0]
              have hHeld2 := hHeld.more ((Below.refl W2.heap.size W2).alloc (Nat.le_refl _) (.cells #[.int .u16 0, .slice none 0 0] 45))
              go_simp
              refine hK.out _ _ hHeld2 (fun hHeld => ?_)
              clear hK K
              (try simp only [Act.put, List.setIfInBounds_toArray, List.set_cons_zero, List.set_cons_succ])
              have hWs : W.heap.size ≤ W2.heap.size := hHeldX.below.size
              generalize W2.alloc (.cells #[.int .u16 0, .slice none 0 0] 45) = W3 at *
              refine wpAnyH_ready (rs := [18]) (by kernel_rfl) (by simp) ?_
              refine AllReadyH.cons (o := _) rfl (fun K hK => ?_) ?_
              · obtain ⟨u0, u1, u2, u3, u4, u5⟩ := kal.store2
                go_simp
                refine hK.out _ _ (hHeld.put2 hWs _ _) (fun hHeld => ?_)
                clear hK K
                (try simp only [Act.put, List.setIfInBounds_toArray, List.set_cons_zero, List.set_cons_succ])
                refine wpAnyH_done (by kernel_rfl) ?_ _
                exact hK1.out _ _ ⟨A12, c12, W2.heap.size, hWs, kal.put2 _ _, (hrA.below (below_put2 (Below.refl _ W3) (Nat.le_refl _))).more (by have := kal.lt; simp [World.setCell]; omega), hHeld.below, by kernel_rfl⟩
              · exact AllReadyH.nil
            · exact AllReadyH.nil
          refine AllReadyH.cons (o := _) rfl (fun K hK => ?_) ?_
          · have kal := Blk.new V 45 #[.int .u16 0, .slice none 0 0]
            have hHeld2 := hHeld.more ((Below.refl V.heap.size V).alloc (Nat.le_refl _) (.cells #[.int .u16 0, .slice none 0 0] 45))
            go_simp
            refine hK.out _ _ hHeld2 (fun hHeld => ?_)
            clear hK K
            (try simp only [Act.put, List.setIfInBounds_toArray, List.set_cons_zero, List.set_cons_succ])
            have hWs : W.heap.size ≤ V.heap.size := hHeldV.below.size
            generalize V.alloc (.cells #[.int .u16 0, .slice none 0 0] 45) = W3 at *
            refine wpAnyH_ready (rs := [16]) (by kernel_rfl) (by simp) ?_
            refine AllReadyH.cons (o := _) rfl (fun K hK => ?_) ?_
            · go_simp
              go_at_call 20
              refine (at_any A n c ws x.1 eN _ hn3 hxe heN hu (hrS hHeld)).mono ?_
              rintro e W2 ⟨⟨r1, A12, c12⟩, hr1, rfl, ho2, hb2⟩
              have hr2 : r1 = x.2.1 := hr1.trans Hins.out
              subst hr2
              clear hr1
              (try go_wp2_with fail)
              have hHeld2 := hHeld.more hb2
              refine hK.out _ _ hHeld2 (fun hHeld => ?_)
              clear hK K
              (try simp only [Act.put, List.setIfInBounds_toArray, List.set_cons_zero, List.set_cons_succ])
              have kal2 := kal.below hb2 kal.lt
              have hne := own_ne_low ho2 (g := V.heap.size) kal.lt
              refine wpAnyH_ready (rs := [18]) (by kernel_rfl) (by simp) ?_
              refine AllReadyH.cons (o := _) rfl (fun K hK => ?_) ?_
              · obtain ⟨u0, u1, u2, u3, u4, u5⟩ := kal2.store2
                go_simp
                refine hK.out _ _ (hHeld.put2 hWs _ _) (fun hHeld => ?_)
                clear hK K
                (try simp only [Act.put, List.setIfInBounds_toArray, List.set_cons_zero, List.set_cons_succ])
                refine wpAnyH_done (by kernel_rfl) ?_ _
                exact hK1.out _ _ ⟨A12, c12, V.heap.size, hWs, kal2.put2 _ _, (Reads.of_own (own_set_other (own_set_other ho2 (p := ⟨V.heap.size, 0, none⟩) hne _) (p := ⟨V.heap.size, 1, none⟩) hne _)).more (by simp [World.setCell]), hHeld.below, by kernel_rfl⟩
              · exact AllReadyH.nil
            · exact AllReadyH.nil
          · exact AllReadyH.nil
        refine AllReadyH.cons (o := _) rfl (fun K hK => ?_) ?_
        · have kal := Blk.new V 45 #[.int .u16 0, .slice none 0 0]
          have hHeld2 := hHeld.more ((Below.refl V.heap.size V).alloc (Nat.le_refl _) (.cells #[.int .u16 0, .slice none 0 0] 45))
          go_simp
          refine hK.out _ _ hHeld2 (fun hHeld => ?_)
          clear hK K
          (try simp only [Act.put, List.setIfInBounds_toArray, List.set_cons_zero, List.set_cons_succ])
          have hWs : W.heap.size ≤ V.heap.size := hHeldV.below.size
          generalize V.alloc (.cells #[.int .u16 0, .slice none 0 0] 45) = W3 at *
          refine wpAnyH_ready (rs := [14]) (by kernel_rfl) (by simp) ?_
          refine AllReadyH.cons (o := _) rfl (fun K hK => ?_) ?_
          · go_simp
            go_at_call 21
            refine (count_any A n c ws x.1 _ hxn hu (hrS hHeld)).mono ?_
            rintro e w' ⟨rfl, rfl⟩
            (try go_wp2_with fail)
            refine hK.out _ _ hHeld (fun _ => ?_)
            clear hK K
            (try simp only [Act.put, List.setIfInBounds_toArray, List.set_cons_zero, List.set_cons_succ])
            refine wpAnyH_take (i := 15) (oi := _) (v := ?_) rfl (by kernel_rfl) (by kernel_rfl) (by kernel_rfl) (fun _ _ _ h => h) (Or.inl ⟨by rfl, ?_⟩) hHeld ?_
            rotate_left
            · intro w' hSw
              obtain ⟨c1, c2, c3, c4, -, -, -, -, -⟩ := hSw
              go_simp
              try with_reducible rfl
            (try simp only [Act.put, List.setIfInBounds_toArray, List.set_cons_zero, List.set_cons_succ])
            refine wpAnyH_ready (rs := [16]) (by kernel_rfl) (by simp) ?_
            refine AllReadyH.cons (o := _) rfl (fun K hK => ?_) ?_
            · go_simp
              go_at_call 20
              refine (at_any A n c ws x.1 eN _ hn3 hxe heN hu (hrS hHeld)).mono ?_
              rintro e W2 ⟨⟨r1, A12, c12⟩, hr1, rfl, ho2, hb2⟩
              have hr2 : r1 = x.2.1 := hr1.trans Hins.out
              subst hr2
              clear hr1
              (try go_wp2_with fail)
              have hHeld2 := hHeld.more hb2
              refine hK.out _ _ hHeld2 (fun hHeld => ?_)
              clear hK K
              (try simp only [Act.put, List.setIfInBounds_toArray, List.set_cons_zero, List.set_cons_succ])
              have kal2 := kal.below hb2 kal.lt
              have hne := own_ne_low ho2 (g := V.heap.size) kal.lt
              refine wpAnyH_ready (rs := [18]) (by kernel_rfl) (by simp) ?_
              refine AllReadyH.cons (o := _) rfl (fun K hK => ?_) ?_
              · obtain ⟨u0, u1, u2, u3, u4, u5⟩ := kal2.store2
                go_simp
                refine hK.out _ _ (hHeld.put2 hWs _ _) (fun hHeld => ?_)
                clear hK K
                (try simp only [Act.put, List.setIfInBounds_toArray, List.set_cons_zero, List.set_cons_succ])
                refine wpAnyH_done (by kernel_rfl) ?_ _
                exact hK1.out _ _ ⟨A12, c12, V.heap.size, hWs, kal2.put2 _ _, (Reads.of_own (own_set_other (own_set_other ho2 (p := ⟨V.heap.size, 0, none⟩) hne _) (p := ⟨V.heap.size, 1, none⟩) hne _)).more (by simp [World.setCell]), hHeld.below, by kernel_rfl⟩
              · exact AllReadyH.nil
            · exact AllReadyH.nil
          · exact AllReadyH.nil
        · exact AllReadyH.nil
        -- HELD END
      · rintro a' U ⟨A12, c12, b11, hWb, kx, hxr, hWU, rfl⟩
        have hIU := hI.more hWU
        have kbU := kb.below hWU kb.lt
        have hownU := own_below hGx.row hWU
        have hrowU := Reads.of_own hownU
        obtain ⟨d0, d1⟩ := kbU.read2
        obtain ⟨e0, e1⟩ := kx.read2
        clear q1 q2 q4 q8 q8f hck hrowr
        gi_wp2_with fail
        refine ⟨trivial, ((callsIn_wide.2 (words_same x.2.2.1 A12 x.2.1.2.length x.2.1.2.length x.2.2.2 c12 x.2.1.2 x.2.1.2 U hlx hrowU hxr)).inRound lr).mono ?_⟩
        rintro e W2 ⟨rfl, m, rfl⟩
        rw [sameB_refl]
        have hUV : Below U.heap.size U (U.drewN m) := below_drewN (Below.refl _ _) m
        have hIV := hIU.more hUV
        have kbV := kbU.below hUV kbU.lt
        have hownV := own_below hownU hUV
        clear d0 d1 e0 e1
        have hszV : (U.drewN m).heap.size = U.heap.size := rfl
        generalize U.drewN m = V at *
        obtain ⟨d0, d1⟩ := kbV.read2
        gi_wp2_with fail
        refine ⟨trivial, ((callsIn_wide.2 (spoil_own x.2.2.1 x.2.1.2.length x.2.2.2 (w4.heap.size + 2) x.2.1.2 V (by omega) hownV)).inRound lr).mono ?_⟩
        rintro e Y ⟨rfl, ⟨l9, hown9⟩, hgY⟩
        have hIY := hIV.spoil hgY (fun k e => (hownV.lt k e).1)
        have k2Y := k25.below (by rw [hs5]; exact hIY.below) k25.lt
        have q8 := hIY.kk.cell 0
        have q8f := hIY.kk.frozen 0
        have hIF := hIY.put (fun d hd => (by cases hd)) (kN + 1)
        have q8n := hIF.kk.cell 0
        have q2 := (k2Y.far (p := ⟨w4.heap.size + 1, 0, none⟩) (show w.heap.size + 1 ≠ w4.heap.size + 1 by omega) (.int .i64 ((kN + 1 : Nat) : Int))).cell 0
        simp at q8 q2 q8n
        have f1 : IntKind.i64.wrap ((kN : Int) + 1) = (kN : Int) + 1 := by simp [IntKind.wrap, IntKind.signed, IntKind.bits]; omega
        have hKB : KeepB g4 w4.heap.size W (Y.setCell ⟨w4.heap.size + 1, 0, none⟩ (.int .i64 ((kN + 1 : Nat) : Int))) :=
          (KeepB.below hWU (by omega) (by omega)).trans ((KeepB.below hUV (by have := hWU.size; omega) (by have := hWU.size; omega)).trans ((KeepB.grown hgY (by have := hWU.size; omega) (by have := hWU.size; omega) (fun k e => by have := (hownV.lt k e).1; omega)).trans (KeepB.set _ _ _ (show w4.heap.size + 1 ≠ g4 by omega) (show w4.heap.size + 1 ≠ w4.heap.size by omega))))
        have hKF : KeepsFrom w6.heap.size W (Y.setCell ⟨w4.heap.size + 1, 0, none⟩ (.int .i64 ((kN + 1 : Nat) : Int))) :=
          ((keepsOthers_below hWU).trans ((keepsOthers_below hUV).trans ((KeepsOthers.of_grownBy hgY (fun j o hj ho => own_cells hownV j o hj ho)).trans (KeepsOthers.setCell _ _ _)))).from _
        by_cases hst : (kN : Int) + 1 = stop
        · subst hst
          gi_wp2_with fail
          exact ⟨hKF, rfl, by rw [List.length_append, HkN.out]; exact hIF, by rw [List.length_append, HkN.out]; rfl⟩
        · have hstb : ((kN : Int) + 1 == stop) = false := by simpa using hst
          gi_wp2_with fail
          have hpx : (pre ++ [x]).length = kN + 1 := by rw [List.length_append, HkN.out]; rfl
          exact ⟨hKF, hKB, show EInv w5 (w4.heap.size + 1) [] (w4.heap.size + 2) (pre ++ [x]).length _ by rw [hpx]; exact hIF⟩
    case done =>
      rintro D ys W hD hS hI hK
      have hyl : ys.length = L.length := by rw [← hS, List.length_map]
      exact hK1.out _ _ ⟨D, ys.length, rfl, hI, .inl hyl, by omega, hK⟩
    case stop =>
      rintro D c pre W hD _ ⟨rfl, hI, hst⟩ hK
      gi_wp2_with fail
      exact hK1.out _ _ ⟨D, pre.length, rfl, hI, .inr hst, by omega, hK⟩
  · rintro a' W ⟨D1, k, rfl, hI, hk, hD1, hdd⟩
    have hBW : Below w5.heap.size w5 W := by rw [hs5]; exact hI.below
    have k2W := k25.below hBW k25.lt
    have k4W := k45.below hBW k45.lt
    have q2 := k2W.cell 0
    have q4 := k4W.cell 0
    have q8 := hI.kk.cell 0
    have q8f := hI.kk.frozen 0
    simp at q2 q4 q8
    have hIp : EInv w5 (w4.heap.size + 1) [] (w4.heap.size + 2) 0 (W.setCell ⟨w4.heap.size + 1, 0, none⟩ (.int .i64 0)) := hI.put (fun d hd => (by cases hd)) 0
    have hdd2 : (W.setCell ⟨w4.heap.size + 1, 0, none⟩ (.int .i64 0)).heap[D1]? = some (.deferred (some [])) := (Below.heap_setCell _ _ _ _ (show D1 ≠ w4.heap.size + 1 by omega)).trans hdd
    have hDlt := (Array.getElem?_eq_some_iff.1 hdd2).1
    clear hBW k2W k4W
    by_cases hkL : k = L.length
    -- TWICE
    · clear hk
      subst hkL
      gi_wp2_with fail
      clear q2 q4 q8 q8f hdd hI
      generalize W.setCell ⟨w4.heap.size + 1, 0, none⟩ (.int .i64 0) = w7 at *
      have hr7 : Reads w7 w4.heap.size 1 (some ⟨g4, 0, none⟩) n (Ints .u32 ws) := hr5.below (hIp.below.mono (Nat.le_succ _))
      have hbox7 := (hIp.below.cell (p := ⟨w4.heap.size, 0, none⟩) (Nat.lt_succ_self _)).trans hbox5
      have hI2 : EInv w5 (w4.heap.size + 1) [D1] w7.heap.size 0 w7 := ⟨hIp.below, hIp.kk, fun d hd => by obtain rfl := List.mem_singleton.1 hd; exact hdd2, Nat.le_refl _, hIp.kk.lt, hIp.le⟩
      have hsW := hIp.size
      refine block_cut (fun a a' W' => ∃ D, a' = { a with defers := { target := .collected D, args := #[] } :: a.defers } ∧ EInv w5 (w4.heap.size + 1) [D1] w7.heap.size L.length W' ∧ w7.heap.size ≤ D ∧ W'.heap[D]? = some (.deferred (some []))) ?_ ?_
      · intro K1 hK1
        refine wpIn_range_g rfl (by omega) (gf := 34) (lb := #[.pointer (some ⟨w4.heap.size, 0, none⟩)]) rfl trivial (enters_of Try.func34 (by kernel_rfl) rfl)
          (eachB_stops _ (by omega) w4.heap.size g4 w4.heap.size n n E (w4.heap.size + 2) (some ⟨g4, 0, none⟩) ws L w7 hn3 (Nat.le_refl n) hu hG (fun ad h => by cases h; rfl) (by omega) (by omega) (by omega) (by omega) hbox7 hr7) (fun h k => h.trans k) (fun W o o' _ => KeepB.put W o' (by omega) (by omega)) (fun _ => rfl)
          (fun pre W => EInv w5 (w4.heap.size + 1) [D1] w7.heap.size pre.length W) (fun _ _ _ => False) (fun pre W W' row h hg hr => h.keep (B := w7.heap.size) (by omega) (fun d hd => (by obtain rfl := List.mem_singleton.1 hd; exact hDlt)) hg hr) (fun _ _ _ _ _ hs _ _ => hs) hI2
          (fun pre x a' W => ∃ pb, w4.heap.size + 2 ≤ pb ∧ Blk W pb 45 #[.int .u16 x.2.1.1, .slice x.2.2.1 x.2.1.2.length x.2.2.2] ∧ Handed (w4.heap.size + 2) L pre x W ∧ a' = { tmps := #[Value.slice A n c, Value.int IntKind.i64 stop, Value.pointer (some { block := w.heap.size, off := 0 }), Value.pointer (some { block := w.heap.size + 1, off := 0 }), Value.pointer (some { block := w.heap.size + 1 + 1, off := 0 }), Value.pointer (some { block := w2.heap.size, off := 0 }), Value.slice (some { block := g4, off := 0 }) n n, Value.func (Fn.func 34) #[] #[Value.pointer (some { block := w4.heap.size, off := 0 })], Value.pointer (some { block := w4.heap.size + 1, off := 0 }), undef, undef, undef, Value.int IntKind.i64 (x.1 : Int), Value.pointer (some { block := pb, off := 0 }), Value.slice A n c, Value.slice Ap L.length cp, Value.slice A n c, Value.slice (some { block := g4, off := 0 }) n n, Value.slice (some { block := g4, off := 0 }) n n, Value.func (Fn.func 34) #[] #[Value.pointer (some { block := w4.heap.size, off := 0 })], Value.func (Fn.func 34) #[] #[Value.pointer (some { block := w4.heap.size, off := 0 })], Value.bool false, Value.func (Fn.func 34) #[] #[Value.pointer (some { block := w4.heap.size, off := 0 })], undef, undef, undef, undef, undef, undef, undef, undef, undef, undef, undef, undef, undef, undef, undef, undef, undef, undef, undef, undef, undef, undef, undef, undef, undef, undef, undef, undef, undef, undef, undef, undef, undef, undef, undef, undef, undef, undef, undef, undef, undef, undef, undef, undef, undef, undef, undef, undef, undef, undef, undef, undef, Value.int IntKind.i64 (L.length : Int), Value.slice Ap L.length cp, Value.int IntKind.i64 (L.length : Int), Value.bool false, Value.bool false, undef, undef, undef, Value.bool false, Value.func (Fn.func 34) #[] #[Value.pointer (some { block := w4.heap.size, off := 0 })], Value.int IntKind.i64 (x.1 : Int), Value.agg #[Value.int IntKind.u16 x.2.1.1, Value.slice x.2.2.1 x.2.1.2.length x.2.2.2], undef, undef, undef, undef, undef, undef, undef, undef, undef, undef, undef, undef, undef, undef, undef, undef, undef, undef, undef, undef, undef, undef, undef, undef, undef, undef, undef, undef, undef, undef, undef, undef, undef, undef, undef, undef, undef, undef, undef, undef], defers := [] })
          ?hax ?assign ?body ?done ?stop
        case hax =>
          rintro pre x a' _ X Y row ⟨pb, g1, g2, g3, g4⟩ hg hr
          have hr' : ∀ r, row = some r → ∃ o : Obj, X.heap[r]? = some o ∧ o.isCells = false := fun r e => (hr r e).2
          exact ⟨pb, g1, g2.kept_ hg hr', g3.kept_ hg hr', g4⟩
        case assign =>
          rintro lr pre x W K hsW hI hGx hK
          dsimp only [eachV]
          gi_wp2_with fail
          have hbA := (Below.refl W.heap.size W).alloc (Nat.le_refl _) (.cells #[.int .u16 x.2.1.1, .slice x.2.2.1 x.2.1.2.length x.2.2.2] 45)
          exact hK _ _ ((KeepsOthers.alloc _ _).from _) (KeepB.below hbA (by omega) (by omega)) (hI.alloc _) ⟨W.heap.size, by omega, Blk.new _ _ _, hGx.alloc _, rfl⟩
        case body =>
          rintro lr pre x a' W hsW - hI ⟨pb, hpb, kb, hGx, rfl⟩
          obtain ⟨rest, hLe⟩ := hGx.is
          have hLl : L.length = pre.length + 1 + rest.length := by rw [hLe]; simp; omega
          have hkl : pre.length < L.length := by omega
          have hLk : L[pre.length] = x.pi := by simp [hLe]
          obtain ⟨bd1, bd2, bd3, bd4, hix⟩ := hGx.bounds hG hu
          have hpl : ix (pl L) pre.length = (x.1 : Int) := by rw [pl_at hkl, hLk]; rfl
          have hBW : Below w5.heap.size w5 W := by rw [hs5]; exact hI.below
          have hB5W := below_cut hB5 hBW (Nat.le_refl _)
          have k1W := k15.below hBW k15.lt
          have k4W := k45.below hBW k45.lt
          obtain ⟨bp, offp, hAp, hbp, hcells⟩ := ((Reads.of_own hop5).below hBW).ints (by omega)
          subst hAp
          have hck := hcells pre.length hkl
          rw [hpl] at hck
          obtain ⟨bw, offw, hAw, hbw, hwords⟩ := (hr.below hB5W).ints (by omega)
          subst hAw
          have hxn : x.1 < n := by omega
          have hwc := hwords x.1 hxn
          have q1 := k1W.cell 0
          have q4 := k4W.cell 0
          have q8 := hI.kk.cell 0
          have q8f := hI.kk.frozen 0
          obtain ⟨d0, d1⟩ := kb.read2
          simp at q1 q4 q8
          obtain ⟨kN, hkN⟩ : ∃ kN, pre.length = kN := ⟨_, rfl⟩
          rw [hkN] at q8 hck hkl hI bd4
          have hx1 : x.2.1.1 = ix ws x.1 % 65536 := by rw [hix]; rfl
          have hxw := hu.ix (by decide) x.1
          have htm : (ix ws x.1).tmod 65536 = ix ws x.1 % 65536 := Int.tmod_eq_emod_of_nonneg hxw.1
          have hop : IntKind.u16.wrap (ix ws x.1 % 65536) = ix ws x.1 % 65536 := by simp [IntKind.wrap, IntKind.signed, IntKind.bits]
          have hge : decide ((L.length : Int) ≤ (kN : Int)) = false := by simp; omega
          have hge2 : decide (L.length ≤ kN) = false := by simp; omega
          have f1 : IntKind.i64.wrap ((kN : Int) + 1) = (kN : Int) + 1 := by simp [IntKind.wrap, IntKind.signed, IntKind.bits]; omega
          rw [hx1] at d0
          have HkN := Lib.hid hkN; have Hx1 := Lib.hid hx1
          clear hix hkN hLl hLe hLk hpl hcells hwords hx1 bd2
          gi_wp2_with fail
          refine wpIn_round_quiet _ _ (by kernel_rfl) (by kernel_rfl) (by kernel_rfl) ?_
          repeat (quiet_step (fail))
          refine wpQuiet_nil ?_
          rintro w' ⟨nq, rfl⟩
          have hUV : Below W.heap.size W (W.drewN nq) := below_drewN (Below.refl _ _) nq
          have hIV := hI.more hUV
          have q8V := hIV.kk.cell 0
          have q8fV := hIV.kk.frozen 0
          have hIF := hIV.put (fun d hd => (by obtain rfl := List.mem_singleton.1 hd; omega)) (kN + 1)
          have hKB : KeepB g4 w4.heap.size W ((W.drewN nq).setCell ⟨w4.heap.size + 1, 0, none⟩ (.int .i64 ((kN + 1 : Nat) : Int))) :=
            (KeepB.below hUV (by omega) (by omega)).trans (KeepB.set _ _ _ (show w4.heap.size + 1 ≠ g4 by omega) (show w4.heap.size + 1 ≠ w4.heap.size by omega))
          have hKF : KeepsFrom w7.heap.size W ((W.drewN nq).setCell ⟨w4.heap.size + 1, 0, none⟩ (.int .i64 ((kN + 1 : Nat) : Int))) :=
            ((keepsOthers_below hUV).trans (KeepsOthers.setCell _ _ _)).from _
          have hpx : (pre ++ [x]).length = kN + 1 := by rw [List.length_append, HkN.out]; rfl
          simp at q8V
          clear q1 q4 q8 q8f hck hwc d0 d1
          gi_wp2_with fail
          exact ⟨hKF, hKB, show EInv w5 (w4.heap.size + 1) [D1] w7.heap.size (pre ++ [x]).length _ by rw [hpx]; exact hIF⟩
        case done =>
          rintro D ys W hD hS hI hK
          have hyl : ys.length = L.length := by rw [← hS, List.length_map]
          exact hK1.out _ _ ⟨D, rfl, by rw [← hyl]; exact hI, hD, hK⟩
        case stop =>
          rintro D c pre W _ _ h _
          exact h.elim
      · rintro a' W ⟨D2, rfl, hI, hD2, hdd3⟩
        have hBW : Below w5.heap.size w5 W := by rw [hs5]; exact hI.below
        have hB5W := below_cut hB5 hBW (Nat.le_refl _)
        have k1W := k15.below hBW k15.lt
        have k3W := k35.below hBW k35.lt
        have k4W := k45.below hBW k45.lt
        have q1 := k1W.cell 0
        have q4 := k4W.cell 0
        have q8 := hI.kk.cell 0
        simp at q1 q4 q8
        have hrA := (hr.below hB5W).more (B' := W.heap.size) hB5W.size
        have hrC : Reads W W.heap.size 1 (some ⟨g4, 0, none⟩) n (Ints .u32 ws) := (hr5.below (hI.below.mono (Nat.le_succ _))).more (by have := hI.kk.lt; omega)
        have hdd4 := hI.dd D1 (by simp)
        have hD12 : D1 < D2 := by omega
        gi_wp2_with fail
        refine ⟨trivial, (callsIn_wide.2 (words_same (some ⟨g4, 0, none⟩) A n n n c ws ws W (by omega) hrC hrA)).mono ?_⟩
        rintro e W2 ⟨rfl, m, rfl⟩
        rw [sameB_refl]
        have hUV : Below W.heap.size W (W.drewN m) := below_drewN (Below.refl _ _) m
        have k3V := k3W.below hUV k3W.lt
        have hBV := below_cut hB5W hUV (Nat.le_refl _)
        have hd1V : (W.drewN m).heap[D1]? = some (.deferred (some [])) := hdd4
        have hd2V : (W.drewN m).heap[D2]? = some (.deferred (some [])) := hdd3
        clear q1 q4 q8
        generalize W.drewN m = V at *
        gi_wp2_with fail
        refine ⟨trivial, (callsIn_wide.2 (awake_ok V)).mono ?_⟩
        rintro e Y ⟨rfl, hbY⟩
        have k3Y := k3V.below hbY k3V.lt
        have hBY := below_cut hBV hbY (Nat.le_refl _)
        have q3 := k3Y.cell 0
        have g3 := k3Y.frozen 0
        simp at q3
        have hd1Y := (hbY.block D1 (Array.getElem?_eq_some_iff.1 hd1V).1).trans hd1V
        have hd2Y := (hbY.block D2 (Array.getElem?_eq_some_iff.1 hd2V).1).trans hd2V
        have k3Z := k3Y.set_ 0 (.bool true)
        have hd1Z : (Y.setCell ⟨w.heap.size + 1 + 1, 0, none⟩ (.bool true)).heap[D1]? = some (.deferred (some [])) := (Below.heap_setCell _ _ _ _ (show D1 ≠ w.heap.size + 1 + 1 by omega)).trans hd1Y
        have hd2Z : (Y.setCell ⟨w.heap.size + 1 + 1, 0, none⟩ (.bool true)).heap[D2]? = some (.deferred (some [])) := (Below.heap_setCell _ _ _ _ (show D2 ≠ w.heap.size + 1 + 1 by omega)).trans hd2Y
        have hBZ := hBY.setCell (p := ⟨w.heap.size + 1 + 1, 0, none⟩) (show w.heap.size ≤ w.heap.size + 1 + 1 by omega) (.bool true)
        have q3Z := k3Z.cell 0
        simp at q3Z
        gi_wp2_with fail
        generalize Y.setCell ⟨w.heap.size + 1 + 1, 0, none⟩ (.bool true) = Z at *
        have m0 := cell_putObj (o := .deferred none) (D := D2) q3Z (by simp; omega)
        have hd1P : (Z.putObj D2 (.deferred none)).heap[D1]? = some (.deferred (some [])) := (World.putObj_heap_other (by omega)).trans hd1Z
        have m1 := cell_putObj (o := .deferred none) (D := D1) m0 (by simp; omega)
        have hbl := (hBZ.trans (belowK_b (n₀ := w.heap.size) (w := w5) hB5.size Z D2 _ (.deferred none) (by omega) hd2Z rfl rfl)).trans (belowK_b (n₀ := w.heap.size) (w := w5) hB5.size _ D1 _ (.deferred none) (by omega) hd1P rfl rfl)
        refine ⟨by simp, .inl ⟨_, _, rfl, run_takeDeferred hd2Z, ?_⟩⟩
        refine ⟨by simp, .inl ⟨_, _, rfl, run_takeDeferred hd1P, ?_⟩⟩
        refine ⟨.bool true, by rw [results_c1 rfl]; go_simp, ?_⟩
        exact ⟨rfl, hbl⟩
    · have hb1 : ((k : Int) != (L.length : Int)) = true := by simp; omega
      obtain rfl := hk.resolve_left hkL
      gi_wp2_with fail
      clear q2 q4 q8 q8f hdd hI
      generalize W.setCell ⟨w4.heap.size + 1, 0, none⟩ (.int .i64 0) = w7 at *
      have hr7 : Reads w7 w4.heap.size 1 (some ⟨g4, 0, none⟩) n (Ints .u32 ws) := hr5.below (hIp.below.mono (Nat.le_succ _))
      have hbox7 := (hIp.below.cell (p := ⟨w4.heap.size, 0, none⟩) (Nat.lt_succ_self _)).trans hbox5
      have hI2 : EInv w5 (w4.heap.size + 1) [D1] w7.heap.size 0 w7 := ⟨hIp.below, hIp.kk, fun d hd => by obtain rfl := List.mem_singleton.1 hd; exact hdd2, Nat.le_refl _, hIp.kk.lt, hIp.le⟩
      have hsW := hIp.size
      refine block_cut (fun a a' W' => ∃ D, a' = { a with defers := { target := .collected D, args := #[] } :: a.defers } ∧ EInv w5 (w4.heap.size + 1) [D1] w7.heap.size L.length W' ∧ w7.heap.size ≤ D ∧ W'.heap[D]? = some (.deferred (some []))) ?_ ?_
      · intro K1 hK1
        refine wpIn_range_g rfl (by omega) (gf := 34) (lb := #[.pointer (some ⟨w4.heap.size, 0, none⟩)]) rfl trivial (enters_of Try.func34 (by kernel_rfl) rfl)
          (eachB_stops _ (by omega) w4.heap.size g4 w4.heap.size n n E (w4.heap.size + 2) (some ⟨g4, 0, none⟩) ws L w7 hn3 (Nat.le_refl n) hu hG (fun ad h => by cases h; rfl) (by omega) (by omega) (by omega) (by omega) hbox7 hr7) (fun h k => h.trans k) (fun W o o' _ => KeepB.put W o' (by omega) (by omega)) (fun _ => rfl)
          (fun pre W => EInv w5 (w4.heap.size + 1) [D1] w7.heap.size pre.length W) (fun _ _ _ => False) (fun pre W W' row h hg hr => h.keep (B := w7.heap.size) (by omega) (fun d hd => (by obtain rfl := List.mem_singleton.1 hd; exact hDlt)) hg hr) (fun _ _ _ _ _ hs _ _ => hs) hI2
          (fun pre x a' W => ∃ pb, w4.heap.size + 2 ≤ pb ∧ Blk W pb 45 #[.int .u16 x.2.1.1, .slice x.2.2.1 x.2.1.2.length x.2.2.2] ∧ Handed (w4.heap.size + 2) L pre x W ∧ a' = { tmps := #[Value.slice A n c, Value.int IntKind.i64 (k : Int), Value.pointer (some { block := w.heap.size, off := 0 }), Value.pointer (some { block := w.heap.size + 1, off := 0 }), Value.pointer (some { block := w.heap.size + 1 + 1, off := 0 }), Value.pointer (some { block := w2.heap.size, off := 0 }), Value.slice (some { block := g4, off := 0 }) n n, Value.func (Fn.func 34) #[] #[Value.pointer (some { block := w4.heap.size, off := 0 })], Value.pointer (some { block := w4.heap.size + 1, off := 0 }), undef, undef, undef, Value.int IntKind.i64 (x.1 : Int), Value.pointer (some { block := pb, off := 0 }), Value.slice A n c, Value.slice Ap L.length cp, Value.slice A n c, Value.slice (some { block := g4, off := 0 }) n n, Value.slice (some { block := g4, off := 0 }) n n, Value.func (Fn.func 34) #[] #[Value.pointer (some { block := w4.heap.size, off := 0 })], Value.func (Fn.func 34) #[] #[Value.pointer (some { block := w4.heap.size, off := 0 })], Value.bool false, Value.func (Fn.func 34) #[] #[Value.pointer (some { block := w4.heap.size, off := 0 })], undef, undef, undef, undef, undef, undef, undef, undef, undef, undef, undef, undef, undef, undef, undef, undef, undef, undef, undef, undef, undef, undef, undef, undef, undef, undef, undef, undef, undef, undef, undef, undef, undef, undef, undef, undef, undef, undef, undef, undef, undef, undef, undef, undef, undef, undef, undef, undef, undef, undef, undef, undef, Value.int IntKind.i64 (k : Int), Value.slice Ap L.length cp, Value.int IntKind.i64 (L.length : Int), Value.bool true, Value.bool true, Value.int IntKind.i64 (k : Int), Value.int IntKind.i64 (k : Int), Value.bool false, Value.bool false, Value.func (Fn.func 34) #[] #[Value.pointer (some { block := w4.heap.size, off := 0 })], Value.int IntKind.i64 (x.1 : Int), Value.agg #[Value.int IntKind.u16 x.2.1.1, Value.slice x.2.2.1 x.2.1.2.length x.2.2.2], undef, undef, undef, undef, undef, undef, undef, undef, undef, undef, undef, undef, undef, undef, undef, undef, undef, undef, undef, undef, undef, undef, undef, undef, undef, undef, undef, undef, undef, undef, undef, undef, undef, undef, undef, undef, undef, undef, undef, undef], defers := [] })
          ?hax ?assign ?body ?done ?stop
        case hax =>
          rintro pre x a' _ X Y row ⟨pb, g1, g2, g3, g4⟩ hg hr
          have hr' : ∀ r, row = some r → ∃ o : Obj, X.heap[r]? = some o ∧ o.isCells = false := fun r e => (hr r e).2
          exact ⟨pb, g1, g2.kept_ hg hr', g3.kept_ hg hr', g4⟩
        case assign =>
          rintro lr pre x W K hsW hI hGx hK
          dsimp only [eachV]
          gi_wp2_with fail
          have hbA := (Below.refl W.heap.size W).alloc (Nat.le_refl _) (.cells #[.int .u16 x.2.1.1, .slice x.2.2.1 x.2.1.2.length x.2.2.2] 45)
          exact hK _ _ ((KeepsOthers.alloc _ _).from _) (KeepB.below hbA (by omega) (by omega)) (hI.alloc _) ⟨W.heap.size, by omega, Blk.new _ _ _, hGx.alloc _, rfl⟩
        case body =>
          rintro lr pre x a' W hsW - hI ⟨pb, hpb, kb, hGx, rfl⟩
          obtain ⟨rest, hLe⟩ := hGx.is
          have hLl : L.length = pre.length + 1 + rest.length := by rw [hLe]; simp; omega
          have hkl : pre.length < L.length := by omega
          have hLk : L[pre.length] = x.pi := by simp [hLe]
          obtain ⟨bd1, bd2, bd3, bd4, hix⟩ := hGx.bounds hG hu
          have hpl : ix (pl L) pre.length = (x.1 : Int) := by rw [pl_at hkl, hLk]; rfl
          have hBW : Below w5.heap.size w5 W := by rw [hs5]; exact hI.below
          have hB5W := below_cut hB5 hBW (Nat.le_refl _)
          have k1W := k15.below hBW k15.lt
          have k4W := k45.below hBW k45.lt
          obtain ⟨bp, offp, hAp, hbp, hcells⟩ := ((Reads.of_own hop5).below hBW).ints (by omega)
          subst hAp
          have hck := hcells pre.length hkl
          rw [hpl] at hck
          obtain ⟨bw, offw, hAw, hbw, hwords⟩ := (hr.below hB5W).ints (by omega)
          subst hAw
          have hxn : x.1 < n := by omega
          have hwc := hwords x.1 hxn
          have q1 := k1W.cell 0
          have q4 := k4W.cell 0
          have q8 := hI.kk.cell 0
          have q8f := hI.kk.frozen 0
          obtain ⟨d0, d1⟩ := kb.read2
          simp at q1 q4 q8
          obtain ⟨kN, hkN⟩ : ∃ kN, pre.length = kN := ⟨_, rfl⟩
          rw [hkN] at q8 hck hkl hI bd4
          have hx1 : x.2.1.1 = ix ws x.1 % 65536 := by rw [hix]; rfl
          have hxw := hu.ix (by decide) x.1
          have htm : (ix ws x.1).tmod 65536 = ix ws x.1 % 65536 := Int.tmod_eq_emod_of_nonneg hxw.1
          have hop : IntKind.u16.wrap (ix ws x.1 % 65536) = ix ws x.1 % 65536 := by simp [IntKind.wrap, IntKind.signed, IntKind.bits]
          have hge : decide ((L.length : Int) ≤ (kN : Int)) = false := by simp; omega
          have hge2 : decide (L.length ≤ kN) = false := by simp; omega
          have f1 : IntKind.i64.wrap ((kN : Int) + 1) = (kN : Int) + 1 := by simp [IntKind.wrap, IntKind.signed, IntKind.bits]; omega
          rw [hx1] at d0
          have HkN := Lib.hid hkN; have Hx1 := Lib.hid hx1
          clear hix hkN hLl hLe hLk hpl hcells hwords hx1 bd2
          gi_wp2_with fail
          refine wpIn_round_quiet _ _ (by kernel_rfl) (by kernel_rfl) (by kernel_rfl) ?_
          repeat (quiet_step (fail))
          refine wpQuiet_nil ?_
          rintro w' ⟨nq, rfl⟩
          have hUV : Below W.heap.size W (W.drewN nq) := below_drewN (Below.refl _ _) nq
          have hIV := hI.more hUV
          have q8V := hIV.kk.cell 0
          have q8fV := hIV.kk.frozen 0
          have hIF := hIV.put (fun d hd => (by obtain rfl := List.mem_singleton.1 hd; omega)) (kN + 1)
          have hKB : KeepB g4 w4.heap.size W ((W.drewN nq).setCell ⟨w4.heap.size + 1, 0, none⟩ (.int .i64 ((kN + 1 : Nat) : Int))) :=
            (KeepB.below hUV (by omega) (by omega)).trans (KeepB.set _ _ _ (show w4.heap.size + 1 ≠ g4 by omega) (show w4.heap.size + 1 ≠ w4.heap.size by omega))
          have hKF : KeepsFrom w7.heap.size W ((W.drewN nq).setCell ⟨w4.heap.size + 1, 0, none⟩ (.int .i64 ((kN + 1 : Nat) : Int))) :=
            ((keepsOthers_below hUV).trans (KeepsOthers.setCell _ _ _)).from _
          have hpx : (pre ++ [x]).length = kN + 1 := by rw [List.length_append, HkN.out]; rfl
          simp at q8V
          clear q1 q4 q8 q8f hck hwc d0 d1
          gi_wp2_with fail
          exact ⟨hKF, hKB, show EInv w5 (w4.heap.size + 1) [D1] w7.heap.size (pre ++ [x]).length _ by rw [hpx]; exact hIF⟩
        case done =>
          rintro D ys W hD hS hI hK
          have hyl : ys.length = L.length := by rw [← hS, List.length_map]
          exact hK1.out _ _ ⟨D, rfl, by rw [← hyl]; exact hI, hD, hK⟩
        case stop =>
          rintro D c pre W _ _ h _
          exact h.elim
      · rintro a' W ⟨D2, rfl, hI, hD2, hdd3⟩
        have hBW : Below w5.heap.size w5 W := by rw [hs5]; exact hI.below
        have hB5W := below_cut hB5 hBW (Nat.le_refl _)
        have k1W := k15.below hBW k15.lt
        have k3W := k35.below hBW k35.lt
        have k4W := k45.below hBW k45.lt
        have q1 := k1W.cell 0
        have q4 := k4W.cell 0
        have q8 := hI.kk.cell 0
        simp at q1 q4 q8
        have hrA := (hr.below hB5W).more (B' := W.heap.size) hB5W.size
        have hrC : Reads W W.heap.size 1 (some ⟨g4, 0, none⟩) n (Ints .u32 ws) := (hr5.below (hI.below.mono (Nat.le_succ _))).more (by have := hI.kk.lt; omega)
        have hdd4 := hI.dd D1 (by simp)
        have hD12 : D1 < D2 := by omega
        gi_wp2_with fail
        refine ⟨trivial, (callsIn_wide.2 (words_same (some ⟨g4, 0, none⟩) A n n n c ws ws W (by omega) hrC hrA)).mono ?_⟩
        rintro e W2 ⟨rfl, m, rfl⟩
        rw [sameB_refl]
        have hUV : Below W.heap.size W (W.drewN m) := below_drewN (Below.refl _ _) m
        have k3V := k3W.below hUV k3W.lt
        have hBV := below_cut hB5W hUV (Nat.le_refl _)
        have hd1V : (W.drewN m).heap[D1]? = some (.deferred (some [])) := hdd4
        have hd2V : (W.drewN m).heap[D2]? = some (.deferred (some [])) := hdd3
        clear q1 q4 q8
        generalize W.drewN m = V at *
        gi_wp2_with fail
        refine ⟨trivial, (callsIn_wide.2 (awake_ok V)).mono ?_⟩
        rintro e Y ⟨rfl, hbY⟩
        have k3Y := k3V.below hbY k3V.lt
        have hBY := below_cut hBV hbY (Nat.le_refl _)
        have q3 := k3Y.cell 0
        have g3 := k3Y.frozen 0
        simp at q3
        have hd1Y := (hbY.block D1 (Array.getElem?_eq_some_iff.1 hd1V).1).trans hd1V
        have hd2Y := (hbY.block D2 (Array.getElem?_eq_some_iff.1 hd2V).1).trans hd2V
        have k3Z := k3Y.set_ 0 (.bool true)
        have hd1Z : (Y.setCell ⟨w.heap.size + 1 + 1, 0, none⟩ (.bool true)).heap[D1]? = some (.deferred (some [])) := (Below.heap_setCell _ _ _ _ (show D1 ≠ w.heap.size + 1 + 1 by omega)).trans hd1Y
        have hd2Z : (Y.setCell ⟨w.heap.size + 1 + 1, 0, none⟩ (.bool true)).heap[D2]? = some (.deferred (some [])) := (Below.heap_setCell _ _ _ _ (show D2 ≠ w.heap.size + 1 + 1 by omega)).trans hd2Y
        have hBZ := hBY.setCell (p := ⟨w.heap.size + 1 + 1, 0, none⟩) (show w.heap.size ≤ w.heap.size + 1 + 1 by omega) (.bool true)
        have q3Z := k3Z.cell 0
        simp at q3Z
        gi_wp2_with fail
        generalize Y.setCell ⟨w.heap.size + 1 + 1, 0, none⟩ (.bool true) = Z at *
        have m0 := cell_putObj (o := .deferred none) (D := D2) q3Z (by simp; omega)
        have hd1P : (Z.putObj D2 (.deferred none)).heap[D1]? = some (.deferred (some [])) := (World.putObj_heap_other (by omega)).trans hd1Z
        have m1 := cell_putObj (o := .deferred none) (D := D1) m0 (by simp; omega)
        have hbl := (hBZ.trans (belowK_b (n₀ := w.heap.size) (w := w5) hB5.size Z D2 _ (.deferred none) (by omega) hd2Z rfl rfl)).trans (belowK_b (n₀ := w.heap.size) (w := w5) hB5.size _ D1 _ (.deferred none) (by omega) hd1P rfl rfl)
        refine ⟨by simp, .inl ⟨_, _, rfl, run_takeDeferred hd2Z, ?_⟩⟩
        refine ⟨by simp, .inl ⟨_, _, rfl, run_takeDeferred hd1P, ?_⟩⟩
        refine ⟨.bool true, by rw [results_c1 rfl]; go_simp, ?_⟩
        exact ⟨rfl, hbl⟩
    -- TWICE END
theorem law_each (A : Option Addr) (n c : Nat) (ws : List Int) (stop : Int) (w : World) (hn : n ≤ 1048576) (hu : Under 4294967296 ws) (hr : Reads w w.heap.size 1 A n (Ints .u32 ws)) :
    Calls Try.prog 4 #[.slice A n c, .int .i64 stop] w fun e w' => e = .returned (.bool true) ∧ Below w.heap.size w w' := callsIn_wide.1 (eachl_in A n c ws stop w hn hu hr)
end Go.Proofs.Ytppkjejdkogfpaa
