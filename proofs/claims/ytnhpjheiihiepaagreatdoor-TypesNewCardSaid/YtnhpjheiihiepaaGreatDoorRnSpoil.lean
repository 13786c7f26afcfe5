/- Walks: words, a module are written over: what else there is stays. -/
import Derived.Test.YtnhpjheiihiepaaGreatDoorKitMod
namespace Go.Proofs.YtnhpjheiihiepaaGreatDoor
open Go.RowKit Go.WideShapes

/-- nothing has turned in the blocks from one on -/
structure Kept (N : Nat) (w w' : World) : Prop where
  size : w.heap.size ≤ w'.heap.size
  same : ∀ b, N ≤ b → b < w.heap.size → w'.heap[b]? = w.heap[b]?
theorem Kept.refl (N : Nat) (w : World) : Kept N w w := ⟨Nat.le_refl _, fun _ _ _ => rfl⟩
theorem Kept.trans {N : Nat} {w w' w2 : World} (h : Kept N w w') (h2 : Kept N w' w2) : Kept N w w2 :=
  ⟨Nat.le_trans h.size h2.size, fun b hb hl => (h2.same b hb (by have := h.size; omega)).trans (h.same b hb hl)⟩
theorem Kept.setCell {N : Nat} {w w' : World} (h : Kept N w w') {p : Addr} (hp : p.block < N) (u : Value) : Kept N w (w'.setCell p u) :=
  ⟨by simpa using h.size, fun b hb hl => (Below.heap_setCell w' p u b (by omega)).trans (h.same b hb hl)⟩
theorem Kept.of_below {N : Nat} {w w' : World} (h : Below w.heap.size w w') : Kept N w w' := ⟨h.size, fun b _ hl => h.block b hl⟩
theorem Kept.cell {N : Nat} {w w' : World} (h : Kept N w w') {p : Addr} (hp : N ≤ p.block) {v : Value} (hc : w.cell? p = some v) : w'.cell? p = some v := by
  rcases Nat.lt_or_ge p.block w.heap.size with hl | hl
  · exact (World.cell?_of_block (h.same p.block hp hl)).trans hc
  · exfalso
    have e : w.heap[p.block]? = none := by simp [hl]
    simp [World.cell?, e] at hc

set_option maxRecDepth 100000 in
set_option maxHeartbeats 1000000 in
theorem spoilWords_any (B : Nat) (A : Option Addr) (n c : Nat) (l : List Int) (w : World) (hn : n ≤ 35184372087808) (ho : w.ownsRow B 22 1 (.slice A n c) n (Ints .u32 l)) :
    Calls Tryz.prog 15 #[.slice A n c] w fun e w' => e = .returned (.tuple #[]) ∧ Below B w w' := by
  go_enter Tryz.func15, Tryz.ntmps15
  go_wp2_with fail
  go_loopg [2] n (fun q i wr => ∃ (k : Nat) (l' : List Int), k + q = n ∧ i = .int .i64 (k : Nat) ∧ wr.ownsRow B 22 1 (.slice A n c) n (Ints .u32 l') ∧ Below B w wr)
  case atStart => exact ⟨0, l, by omega, rfl, ho, Below.refl _ _⟩
  case round =>
    obtain ⟨k, l', hq, rfl, hor, hbr⟩ := hrel
    clear ho
    by_cases hlt : k < n
    · obtain ⟨g, rfl⟩ : ∃ g, A = some ⟨g, 0, none⟩ := by
        rcases hor.2 with ⟨_, h9⟩ | ⟨g, cap, cur, h9, _⟩
        · omega
        · cases h9; exact ⟨g, rfl⟩
      have hc1 := own_int_at hor hlt
      have hf1 := hor.frozenAt k
      have hg := (hor.lt g (by simp [Value.ownBlock])).1
      have hs := own_int_set hor k (1515870810 : Int)
      have hb2 := hbr.setCell (p := ⟨g, k, none⟩) hg (.int .u32 1515870810)
      have d1 : decide (((k : Nat) : Int) < (n : Nat)) = true := by rw [decide_eq_true_eq]; omega
      have hi1 : ((k : Nat) : Int) < (n : Nat) := by omega
      clear hor
      go_wp2_with fail
      go_roundg (n - (k + 1))
      case measure => omega
      case rel => exact ⟨k + 1, _, by omega, by go_num, hs, hb2⟩
    · have d1 : decide (((k : Nat) : Int) < (n : Nat)) = false := by rw [decide_eq_false_iff_not]; omega
      go_wp2_with fail
      go_end0
      exact ⟨rfl, hbr⟩

/-- room for an instruction's arguments -/
def ArgE (B N : Nat) (W : World) (x : InstA) : Prop := ∃ (g : Nat) (cs : Array Value), x.2 = (some ⟨g, 0, none⟩, x.2.2.1, x.2.2.1) ∧ (B ≤ g ∧ g < N) ∧ Blk W g 87 cs ∧ x.2.2.1 * 3 ≤ cs.size
theorem ArgE.set {B N : Nat} {W : World} {x : InstA} (h : ArgE B N W x) (g i : Nat) (u : Value) : ArgE B N (W.setCell ⟨g, i, none⟩ u) x := by
  obtain ⟨g', cs, e, hg, hk, hs⟩ := h
  by_cases e1 : g' = g
  · subst e1
    exact ⟨g', _, e, hg, hk.set_ i u, by simpa using hs⟩
  · exact ⟨g', cs, e, hg, hk.far (p := ⟨g, i, none⟩) e1 u, hs⟩
theorem ArgE.step {B N : Nat} {W W' : World} {x : InstA} (h : ArgE B N W x) (hb : Below W.heap.size W W') : ArgE B N W' x := by
  obtain ⟨g', cs, e, hg, hk, hs⟩ := h
  exact ⟨g', cs, e, hg, hk.step hb, hs⟩
theorem ArgO.room {B : Nat} {W : World} {x : InstA} (h : ArgO W B x) : ArgE B W.heap.size W x := by
  obtain ⟨g, e, ho⟩ := h
  have hl := ho.lt g (by simp [Value.ownBlock])
  rcases ho.2 with ⟨h9, _⟩ | ⟨g', cap, cur, h9, _, hh, h1, _, h2, _⟩
  · cases h9
  · cases h9
    exact ⟨g, cur, e, hl, hh, by omega⟩
/-- a module that may be written over -/
structure SpS (B N : Nat) (W : World) (g n : Nat) (l : List InstA) : Prop where
  row : W.ownsRow B 63 4 (.slice (some ⟨g, 0, none⟩) n n) n (Icells l)
  low : g < N
  args : ∀ x ∈ l, ArgE B N W x
  len : l.length = n
theorem OwnM.room {B : Nat} {W : World} {g n : Nat} {l : List InstA} (h : OwnM B W g n l) (hl : l.length = n) : SpS B W.heap.size W g n l :=
  ⟨h.1, (h.1.lt g (by simp [Value.ownBlock])).2, fun x hx => (h.2 x hx).room, hl⟩
theorem SpS.step {B N : Nat} {W W' : World} {g n : Nat} {l : List InstA} (h : SpS B N W g n l) (hb : Below W.heap.size W W') : SpS B N W' g n l :=
  ⟨own_below h.row hb, h.low, fun x hx => (h.args x hx).step hb, h.len⟩

set_option maxRecDepth 100000 in
set_option maxHeartbeats 4000000 in
theorem spoilMod_any (gen bound : Int) (B N g n : Nat) (l : List InstA) (w : World) (hS : SpS B N w g n l) (hNw : N ≤ w.heap.size) (hn : n ≤ 3600000000000) (hlen : ∀ x ∈ l, x.2.2.1 ≤ 6000000000000) :
    Calls Tryz.prog 11 #[.agg (modC gen bound (some ⟨g, 0, none⟩) n n)] w fun e w' => e = .returned (.tuple #[]) ∧ Below B w w' ∧ Kept N w w' := by
  obtain ⟨hrow, hgN, hargs, hll⟩ := hS
  have hBg := (hrow.lt g (by simp [Value.ownBlock])).1
  have hbx := (Below.refl w.heap.size w).alloc (Nat.le_refl _) (.cells (modC gen bound (some ⟨g, 0, none⟩) n n) 25)
  have kx := Blk.new w 25 (modC gen bound (some ⟨g, 0, none⟩) n n)
  have hrow1 := own_below hrow hbx
  have hargs1 := fun x hx => (hargs x hx).step hbx
  have hb1 : Below B w (w.alloc (.cells (modC gen bound (some ⟨g, 0, none⟩) n n) 25)) := hbx.mono (by omega)
  have hk1 : Kept N w (w.alloc (.cells (modC gen bound (some ⟨g, 0, none⟩) n n) 25)) := .of_below hbx
  clear hrow hargs hbx
  unfold modC at *
  have HN := Lib.hid hlen
  have HLL := Lib.hid hll
  clear hlen hll
  obtain ⟨z0, z1, z2⟩ := three_ kx
  go_enter Tryz.func11, Tryz.ntmps11
  go_wp2_with fail
  generalize (w.alloc (.cells #[.int .u32 gen, .int .u32 bound, .slice (some ⟨g, 0, none⟩) n n] 25)) = W at *
  clear z0 z1 z2
  go_loopg [2, 3] n (fun q i j wr => ∃ (k : Nat) (l' : List InstA), k + q = n ∧ i = .int .i64 (k : Nat) ∧ l'.length = n ∧ Hid (∀ j, k ≤ j → ig l' j = ig l j) ∧ wr.ownsRow B 63 4 (.slice (some ⟨g, 0, none⟩) n n) n (Icells l') ∧ Hid (∀ x ∈ l, ArgE B N wr x) ∧ Blk wr w.heap.size 25 #[.int .u32 gen, .int .u32 bound, .slice (some ⟨g, 0, none⟩) n n] ∧ Below B w wr ∧ Kept N w wr)
  case atStart => exact ⟨0, l, by omega, rfl, HLL.out, Lib.hid (fun j _ => rfl), hrow1, Lib.hid hargs1, kx, hb1, hk1⟩
  case round =>
    obtain ⟨k, l', hkq, rfl, hl', HA, hor, HE, kr, hbr, hkr⟩ := hrel
    clear hrow1 hargs1 kx hb1 hk1
    by_cases hlt : k < n
    · have hls := HLL.out
      have d1 : decide (((k : Nat) : Int) < (n : Nat)) = true := by rw [decide_eq_true_eq]; omega
      have hi1 : ((k : Nat) : Int) < (n : Nat) := by omega
      have hx := HA.out k (Nat.le_refl _)
      have hmem : ig l k ∈ l := ig_mem (by omega)
      obtain ⟨ga, cs, ex, ⟨hga1, hga2⟩, -, hcs⟩ := HE.out _ hmem
      have hln := HN.out _ hmem
      generalize ig l k = x at *
      obtain ⟨⟨op, ty, res, la⟩, A', m, c'⟩ := x
      dsimp only at ex hln hcs
      obtain ⟨rfl, rfl⟩ : A' = some ⟨ga, 0, none⟩ ∧ m = c' := by
        have h1 := congrArg Prod.fst ex
        have h2 := congrArg (fun p => p.2.2) ex
        exact ⟨h1, h2.symm⟩
      clear ex hls
      obtain ⟨y0, y1, y2, y3⟩ := Icells_at (l := l') (k := k) (by omega)
      rw [hx] at y0 y1 y2 y3
      dsimp only at y0 y1 y2 y3
      have HX := Lib.hid hx
      have HM := Lib.hid hmem
      clear hx hmem
      have s3 := (own_cell hor y3).1
      have c0 := (three_ kr).1
      have c1 := (three_ kr).2.1
      have c2 := (three_ kr).2.2
      go_wp2_with fail
      clear c0 c1 c2 s3
      obtain ⟨W0, hW0⟩ : ∃ x, x = wr := ⟨_, rfl⟩
      subst hW0
      go_loopg [3] m (fun q j wr => ∃ k2 : Nat, k2 + q = m ∧ j = .int .i64 (k2 : Nat) ∧ wr.ownsRow B 63 4 (.slice (some ⟨g, 0, none⟩) n n) n (Icells l') ∧ Hid (∀ x ∈ l, ArgE B N wr x) ∧ Blk wr w.heap.size 25 #[.int .u32 gen, .int .u32 bound, .slice (some ⟨g, 0, none⟩) n n] ∧ Below B w wr ∧ Kept N w wr)
      case atStart => exact ⟨0, by omega, rfl, hor, HE, kr, hbr, hkr⟩
      case round =>
        obtain ⟨k2, hkq2, rfl, hor2, HE2, kr2, hbr2, hkr2⟩ := hrel
        clear hor HE kr hbr hkr
        have s3 := (own_cell hor2 y3).1
        have c0 := (three_ kr2).1
        have c1 := (three_ kr2).2.1
        have c2 := (three_ kr2).2.2
        by_cases hlt2 : k2 < m
        · have d2 : decide (((k2 : Nat) : Int) < (m : Nat)) = true := by rw [decide_eq_true_eq]; omega
          have hi2 : ((k2 : Nat) : Int) < (m : Nat) := by omega
          obtain ⟨ga', cs2, ex2, -, kA, hcs2⟩ := HE2.out _ HM.out
          dsimp only at ex2 hcs2
          obtain rfl : ga' = ga := by
            have h1 := congrArg Prod.fst ex2
            simpa using h1.symm
          have hne1 : (Value.slice (some ⟨g, 0, none⟩) n n).ownBlock ≠ some ga' := own_blk_ne hor2 kA (by decide)
          have hne2 : w.heap.size ≠ ga' := by omega
          obtain ⟨u0, t0⟩ : ∃ u, wr.cell? ⟨ga', k2 * 3, none⟩ = some u := ⟨_, (kA.cell _).trans (Array.getElem?_eq_getElem (by omega))⟩
          obtain ⟨u1, t1⟩ : ∃ u, wr.cell? ⟨ga', k2 * 3 + 1, none⟩ = some u := ⟨_, (kA.cell _).trans (Array.getElem?_eq_getElem (by omega))⟩
          obtain ⟨u2, t2⟩ : ∃ u, wr.cell? ⟨ga', k2 * 3 + 2, none⟩ = some u := ⟨_, (kA.cell _).trans (Array.getElem?_eq_getElem (by omega))⟩
          have f0 := kA.frozen (k2 * 3)
          have f1 := kA.frozen (k2 * 3 + 1)
          have f2 := kA.frozen (k2 * 3 + 2)
          have HO := Lib.hid (own_set_other (p := ⟨ga', k2 * 3 + 2, none⟩) (own_set_other (p := ⟨ga', k2 * 3 + 1, none⟩) (own_set_other (p := ⟨ga', k2 * 3, none⟩) hor2 hne1 (.int .u8 77)) hne1 (.int .u32 777)) hne1 (.string ⟨#[115, 112, 111, 105, 108, 116]⟩))
          have HE3 : Hid (∀ x ∈ l, ArgE B N (((wr.setCell ⟨ga', k2 * 3, none⟩ (.int .u8 77)).setCell ⟨ga', k2 * 3 + 1, none⟩ (.int .u32 777)).setCell ⟨ga', k2 * 3 + 2, none⟩ (.string ⟨#[115, 112, 111, 105, 108, 116]⟩)) x) := Lib.hid (fun x hx => (((HE2.out x hx).set ga' (k2 * 3) _).set ga' (k2 * 3 + 1) _).set ga' (k2 * 3 + 2) _)
          have kr3 := ((kr2.far (p := ⟨ga', k2 * 3, none⟩) hne2 (.int .u8 77)).far (p := ⟨ga', k2 * 3 + 1, none⟩) hne2 (.int .u32 777)).far (p := ⟨ga', k2 * 3 + 2, none⟩) hne2 (.string ⟨#[115, 112, 111, 105, 108, 116]⟩)
          have hb3 := ((hbr2.setCell (p := ⟨ga', k2 * 3, none⟩) hga1 (.int .u8 77)).setCell (p := ⟨ga', k2 * 3 + 1, none⟩) hga1 (.int .u32 777)).setCell (p := ⟨ga', k2 * 3 + 2, none⟩) hga1 (.string ⟨#[115, 112, 111, 105, 108, 116]⟩)
          have hk3 := ((hkr2.setCell (p := ⟨ga', k2 * 3, none⟩) hga2 (.int .u8 77)).setCell (p := ⟨ga', k2 * 3 + 1, none⟩) hga2 (.int .u32 777)).setCell (p := ⟨ga', k2 * 3 + 2, none⟩) hga2 (.string ⟨#[115, 112, 111, 105, 108, 116]⟩)
          clear ex2 kA hor2 HE2 kr2 hbr2 hkr2 hcs hcs2 hne1 y0 y1 y2
          go_wp2_with fail
          go_roundg (m - (k2 + 1))
          case measure => omega
          case rel => exact ⟨k2 + 1, by omega, by go_num, HO.out, HE3, kr3, hb3, hk3⟩
        · have d2 : decide (((k2 : Nat) : Int) < (m : Nat)) = false := by rw [decide_eq_false_iff_not]; omega
          have hs1 := own_cell hor2 y0
          have ho1 := (hor2.stored (k * 4) (.int .u16 777)).1
          have hx1 : ((Icells l').set (k * 4) (.int .u16 777))[k * 4 + 1]? = some (.int .u32 ty) := by rw [List.getElem?_set_ne (by omega)]; exact y1
          have hs2 := own_cell ho1 hx1
          have ho2 := (ho1.stored (k * 4 + 1) (.int .u32 77)).1
          have hx2 : (((Icells l').set (k * 4) (.int .u16 777)).set (k * 4 + 1) (.int .u32 77))[k * 4 + 2]? = some (.int .u32 res) := by rw [List.getElem?_set_ne (by omega), List.getElem?_set_ne (by omega)]; exact y2
          have hs3 := own_cell ho2 hx2
          have ho3 := (ho2.stored (k * 4 + 2) (.int .u32 7777)).1
          have hx3 : ((((Icells l').set (k * 4) (.int .u16 777)).set (k * 4 + 1) (.int .u32 77)).set (k * 4 + 2) (.int .u32 7777))[k * 4 + 3]? = some (.slice (some ⟨ga, 0, none⟩) m m) := by rw [List.getElem?_set_ne (by omega), List.getElem?_set_ne (by omega), List.getElem?_set_ne (by omega)]; exact y3
          have hs4 := own_cell ho3 hx3
          have ho4 := (ho3.stored (k * 4 + 3) (.slice none 0 0)).1
          have e6 := Icells_set (l := l') (k := k) (x := ((777, 77, 7777, []), none, 0, 0)) (by omega)
          dsimp only at e6
          rw [← e6] at ho4
          have HO := Lib.hid ho4
          have HE3 : Hid (∀ x ∈ l, ArgE B N ((((wr.setCell ⟨g, k * 4, none⟩ (.int .u16 777)).setCell ⟨g, k * 4 + 1, none⟩ (.int .u32 77)).setCell ⟨g, k * 4 + 2, none⟩ (.int .u32 7777)).setCell ⟨g, k * 4 + 3, none⟩ (.slice none 0 0)) x) := Lib.hid (fun x hx => ((((HE2.out x hx).set g (k * 4) _).set g (k * 4 + 1) _).set g (k * 4 + 2) _).set g (k * 4 + 3) _)
          have hne2 : w.heap.size ≠ g := by omega
          have kr3 := (((kr2.far (p := ⟨g, k * 4, none⟩) hne2 (.int .u16 777)).far (p := ⟨g, k * 4 + 1, none⟩) hne2 (.int .u32 77)).far (p := ⟨g, k * 4 + 2, none⟩) hne2 (.int .u32 7777)).far (p := ⟨g, k * 4 + 3, none⟩) hne2 (.slice none 0 0)
          have hb3 := (((hbr2.setCell (p := ⟨g, k * 4, none⟩) hBg (.int .u16 777)).setCell (p := ⟨g, k * 4 + 1, none⟩) hBg (.int .u32 77)).setCell (p := ⟨g, k * 4 + 2, none⟩) hBg (.int .u32 7777)).setCell (p := ⟨g, k * 4 + 3, none⟩) hBg (.slice none 0 0)
          have hk3 := (((hkr2.setCell (p := ⟨g, k * 4, none⟩) hgN (.int .u16 777)).setCell (p := ⟨g, k * 4 + 1, none⟩) hgN (.int .u32 77)).setCell (p := ⟨g, k * 4 + 2, none⟩) hgN (.int .u32 7777)).setCell (p := ⟨g, k * 4 + 3, none⟩) hgN (.slice none 0 0)
          have HA2 : Hid (∀ j, k + 1 ≤ j → ig (l'.set k ((777, 77, 7777, []), none, 0, 0)) j = ig l j) := Lib.hid (fun j hj => by rw [ig_set_other (by omega)]; exact HA.out j (by omega))
          have hl2 : (l'.set k ((777, 77, 7777, []), none, 0, 0)).length = n := by rw [List.length_set]; exact hl'
          generalize l'.set k ((777, 77, 7777, []), none, 0, 0) = l2 at *
          have HL2 := Lib.hid hl2
          obtain ⟨t0, f0⟩ := hs1
          obtain ⟨t1, f1⟩ := hs2
          obtain ⟨t2, f2⟩ := hs3
          obtain ⟨t3, f3⟩ := hs4
          clear hl2 e6 ho1 ho2 ho3 ho4 hx1 hx2 hx3 hor2 HE2 kr2 hbr2 hkr2 y0 y1 y2 y3 HA hl' hcs
          go_wp2_with fail
          go_roundg (n - (k + 1))
          case measure => omega
          case rel => exact ⟨k + 1, l2, by omega, by go_num, HL2.out, HA2, HO.out, HE3, kr3, hb3, hk3⟩
    · have d1 : decide (((k : Nat) : Int) < (n : Nat)) = false := by rw [decide_eq_false_iff_not]; omega
      have c0 := (three_ kr).1
      have c1 := (three_ kr).2.1
      have c2 := (three_ kr).2.2
      go_wp2_with fail
      go_end0
      exact ⟨rfl, hbr, hkr⟩
end Go.Proofs.YtnhpjheiihiepaaGreatDoor
