/- Walks: frame.Read. -/
import Derived.Maps.AppendAt
import Derived.Test.YtppkjejdkogfpaaHead
import Derived.Test.YtppkjejdkogfpaaEach
namespace Go.Proofs.Ytppkjejdkogfpaa
open Go.RowKit Go.Shelf
attribute [local go_sem] Oper.semAt_some

theorem headTo_take {ws : List Int} {k : Nat} (hk : k ≤ 5) : HeadTo (ws.take 5) k ↔ HeadTo ws k := by
  constructor
  · intro h j hj
    obtain ⟨h1, h2⟩ := h j hj
    rw [ix_take (by omega)] at h2
    exact ⟨by rw [List.length_take] at h1; omega, h2⟩
  · intro h j hj
    obtain ⟨h1, h2⟩ := h j hj
    rw [ix_take (by omega)]
    exact ⟨by rw [List.length_take]; omega, h2⟩
theorem headBad_take {ws : List Int} {k : Nat} {e : Int} : HeadBad (ws.take 5) k e ↔ HeadBad ws k e := by
  unfold HeadBad
  constructor
  · rintro ⟨h1, h2, h3⟩
    rw [headTo_take (by omega)] at h2
    rw [ix_take (by omega), List.length_take] at h3
    exact ⟨h1, h2, by rcases h3 with h3 | h3; exact .inl ⟨by omega, h3.2⟩; exact .inr ⟨by omega, h3.2⟩⟩
  · rintro ⟨h1, h2, h3⟩
    rw [headTo_take (by omega), ix_take (by omega), List.length_take]
    exact ⟨h1, h2, by rcases h3 with h3 | h3; exact .inl ⟨by omega, h3.2⟩; exact .inr ⟨by omega, h3.2⟩⟩

/-- the two results' cells, stored in either order -/
structure Res (w w' : World) (b2 b4 : Nat) (v0 v1 u0 u1 : Value) : Prop where
  c0 : w'.cell? ⟨b2, 0, none⟩ = some v0
  c1 : w'.cell? ⟨b2, 1, none⟩ = some v1
  c2 : w'.cell? ⟨b4, 0, none⟩ = some u0
  c3 : w'.cell? ⟨b4, 1, none⟩ = some u1
  off : Off (fun k => k = b2 ∨ k = b4) w w'
theorem off_put2 {S : Nat → Prop} {a w : World} (h : Off S a w) {g : Nat} (hg : S g) (v0 v1 : Value) : Off S a ((w.setCell ⟨g, 0, none⟩ v0).setCell ⟨g, 1, none⟩ v1) := (h.set_ (p := ⟨g, 0, none⟩) (.inl hg) v0).set_ (p := ⟨g, 1, none⟩) (.inl hg) v1
theorem res_a {w : World} {b2 b4 : Nat} {t t' : TypeId} {a0 a1 c0 c1 : Value} (h : Blk w b2 t #[a0, a1]) (h' : Blk w b4 t' #[c0, c1]) (hne : b2 ≠ b4) (v0 v1 u0 u1 : Value) :
    Res w ((((w.setCell ⟨b2, 0, none⟩ v0).setCell ⟨b2, 1, none⟩ v1).setCell ⟨b4, 0, none⟩ u0).setCell ⟨b4, 1, none⟩ u1) b2 b4 v0 v1 u0 u1 := by
  obtain ⟨_, _, _, _, z4, z5, z6, z7⟩ := h.store22 h' hne
  exact ⟨z4 _ _ _ _, z5 _ _ _ _, z6 _ _ _ _, z7 _ _ _ _, off_put2 (off_put2 (Off.refl _ _) (.inl rfl) _ _) (.inr rfl) _ _⟩
theorem res_b {w : World} {b2 b4 : Nat} {t t' : TypeId} {a0 a1 c0 c1 : Value} (h : Blk w b2 t #[a0, a1]) (h' : Blk w b4 t' #[c0, c1]) (hne : b2 ≠ b4) (v0 v1 u0 u1 : Value) :
    Res w ((((w.setCell ⟨b4, 0, none⟩ u0).setCell ⟨b4, 1, none⟩ u1).setCell ⟨b2, 0, none⟩ v0).setCell ⟨b2, 1, none⟩ v1) b2 b4 v0 v1 u0 u1 := by
  obtain ⟨_, _, _, _, z4, z5, z6, z7⟩ := h'.store22 h (fun e => hne e.symm)
  exact ⟨z6 _ _ _ _, z7 _ _ _ _, z4 _ _ _ _, z5 _ _ _ _, off_put2 (off_put2 (Off.refl _ _) (.inr rfl) _ _) (.inl rfl) _ _⟩
/-- a region, cut off from what comes behind it -/
theorem region_cut {P : Program} {c : Code} {K : Act → World → Prop} {Q : Exit → Act → World → Prop} {a : Act} {w : World} (X : Act → Act → World → Prop) (h : ∀ K1 : Act → World → Prop, Hid (∀ a' w', X a a' w' → K1 a' w') → c.wp P (Exit.then K1 Q) a w) (k : ∀ a' w', X a a' w' → K a' w') : c.wp P (Exit.then K Q) a w :=
  wp_mono (h (fun a' w' => X a a' w') (Lib.hid fun _ _ hx => hx)) fun e a' w' hx => by
    cases e <;> first | exact k _ _ hx | exact hx

theorem cell_putObj {w : World} {p : Addr} {v : Value} {D : Nat} {o : Obj} (h : w.cell? p = some v) (hne : p.block ≠ D) : (w.putObj D o).cell? p = some v := (World.cell?_of_block (World.putObj_heap_other hne)).trans h
/-- what Read answers -/
def ReadIs (ws : List Int) (w : World) (e : Ending) (w' : World) : Prop := ∃ (g b er : Int) (p : Nat) (A : Option Addr) (c : Nat) (l : List RI), ReadTo ws g b (l.map (·.1)) er p ∧
  e = .returned (.tuple #[.agg #[.int .u32 g, .int .u32 b], .slice A l.length c, .agg #[.int .i64 er, .int .i64 p]]) ∧ RawO w' w.heap.size A c l ∧ Below w.heap.size w w'
theorem results_ctc {fn : Func} {p q u : Tmp} {ty ty' : TypeId} (h : fn.results = #[.cell p ty, .tmp u, .cell q ty']) (tmps : Array Value) (P : Program) (w : World) :
    (results fn tmps).run P w = ((asAddr (tmps.getD p undef)).run P w).andThen fun ad w₁ => ((loadVar ty ad).run P w₁).andThen fun v w₂ => ((asAddr (tmps.getD q undef)).run P w₂).andThen fun ad' w₃ => ((loadVar ty' ad').run P w₃).andThen fun v' w₄ => .ok (.tuple #[v, tmps.getD u undef, v']) w₄ := by
  simp only [results, h]
  simp [Sem.run_bind, Result.andThen]

set_option maxRecDepth 100000 in
set_option maxHeartbeats 2000000 in
theorem read_large (A : Option Addr) (n c : Nat) (ws : List Int) (w : World) (hn : n ≤ 35184372087808) (hr : Reads w w.heap.size 1 A n (Ints .u32 ws)) (hlarge : 1048576 < n) :
    CallsIn Fence.wide 9 Try.prog 12 #[.slice A n c] w (ReadIs ws w) := by
  have hlen := hr.len
  have k2 := (Blk.new w 25 #[.int .u32 0, .int .u32 0]).alloc (.cells #[.int .i64 4, .int .i64 1048576] 29)
  have k4 := Blk.new (w.alloc (.cells #[.int .u32 0, .int .u32 0] 25)) 29 #[.int .i64 4, .int .i64 1048576]
  have hb := ((Below.refl w.heap.size w).alloc (Nat.le_refl _) (.cells #[.int .u32 0, .int .u32 0] 25)).alloc (by simp) (.cells #[.int .i64 4, .int .i64 1048576] 29)
  rw [World.size_alloc] at k4
  have hl : decide ((1048576 : Int) < (n : Int)) = true := by simp; omega
  obtain ⟨s0, s1⟩ := k2.read2
  obtain ⟨z0, z1⟩ := k4.read2
  refine callsIn_of_wp_marks Try.func12 rfl trivial ?_ rfl
  simp only [Try.ntmps12, List.size_toArray, List.length_cons, List.length_nil, Nat.reduceAdd, Nat.reduceSub, Array.replicate_succ, Array.replicate_zero, List.push_toArray, List.append_toArray, List.nil_append, List.cons_append]
  gi_wp2_with fail
  refine ⟨.tuple #[.agg #[.int .u32 0, .int .u32 0], .slice none 0 0, .agg #[.int .i64 4, .int .i64 1048576]], by rw [results_ctc rfl]; go_simp, ?_⟩
  exact ⟨0, 0, 4, 1048576, none, 0, [], .large (by omega), rfl, RawO.nil _ _, hb⟩

theorem lit_cells2 (w : World) (cs : Array Value) (t : TypeId) (n : Nat) (h : cs.size = n) (hm : n ≤ 1000) : ∀ j u, cs.toList[j]? = some u → (w.alloc (.cells cs t)).cell? ((⟨w.heap.size, 0, none⟩ : Addr).add j) = some u :=
  (World.ownsRow_lit (base := 0) (e := t) (size := 1) w cs n (Nat.zero_le _) (by unfold maxLen; omega) (by omega)).cells rfl
theorem infoRaw : (Try.prog.info? 45).map (fun i => (i.zero, i.size, i.bytes)) = some (some (.agg #[.int .u16 0, .slice none 0 0]), 2, 32) := by kernel_rfl
theorem Handed.alloc {base : Nat} {L : List (Nat × Ins)} {pre : List PI} {x : PI} {W : World} (h : Handed base L pre x W) (o : Obj) : Handed base L pre x (W.alloc o) := ⟨h.is, h.row.alloc o, h.apart⟩
theorem Handed.kept_ {base : Nat} {L : List (Nat × Ins)} {pre : List PI} {x : PI} {W W' : World} {row : Option Nat} (h : Handed base L pre x W) (hg : W.grownBy W' row) (hr : ∀ r, row = some r → ∃ o : Obj, W.heap[r]? = some o ∧ o.isCells = false) : Handed base L pre x W' := ⟨h.is, own_kept_ h.row hg hr, h.apart⟩

theorem Goes.mem {ws : List Int} {p E : Nat} {L : List (Nat × Ins)} (h : Goes ws p L E) {q : Nat × Ins} (hq : q ∈ L) : ∃ k, q = (k, insAt ws k) ∧ can ws k := by
  induction h with
  | stop _ => cases hq
  | step hc _ ih =>
    rcases List.mem_cons.1 hq with rfl | hq
    · exact ⟨_, rfl, hc⟩
    · exact ih hq
theorem can_bounds {ws : List Int} {k : Nat} (hu : Under 4294967296 ws) (h : can ws k) : (insAt ws k).2.length ≤ 65534 ∧ 0 ≤ (insAt ws k).1 ∧ (insAt ws k).1 < 65536 := by
  have hx := hu.ix (by decide) k
  have h1 := cnt_conv hx.1 hx.2
  have h2 := insAt_length h
  refine ⟨by omega, ?_, ?_⟩
  · simp only [insAt]; omega
  · simp only [insAt]; omega
theorem Handed.bounds {base E : Nat} {ws : List Int} {L : List (Nat × Ins)} {pre : List PI} {x : PI} {W : World} (h : Handed base L pre x W) (hL : Goes ws 5 L E) (hu : Under 4294967296 ws) :
    x.2.1.2.length ≤ 65534 ∧ (0 ≤ x.2.1.1 ∧ x.2.1.1 < 65536) ∧ x.1 < ws.length ∧ pre.length + 1 ≤ ws.length ∧ x.2.1 = insAt ws x.1 := by
  obtain ⟨rest, hr⟩ := h.is
  have hm : x.pi ∈ L := by rw [hr]; simp
  obtain ⟨k, hk, hc⟩ := hL.mem hm
  have e1 : x.1 = k := congrArg Prod.fst hk
  have e2 : x.2.1 = insAt ws k := congrArg Prod.snd hk
  have h1 := can_bounds hu hc
  have h2 := hL.len
  rw [hr] at h2
  simp only [List.length_append, List.length_map, List.length_cons] at h2
  have h3 := hc.1
  rw [e2, e1]
  exact ⟨h1.1, h1.2, h3, by omega, rfl⟩

/-- what lies in Read's variables between two rounds -/
structure RInv (w : World) (h : Nat) (gv bv : Int) (pre : List PI) (W : World) : Prop where
  list : ∃ A c, Blk W (h + 1 + 1) 26 #[.slice A pre.length c] ∧ RawO W (h + 1 + 1 + 1 + 1 + 1) A c (pre.map (·.2))
  place : Blk W (h + 1 + 1 + 1) 3 #[.int .i64 (atEnd pre)]
  k2 : Blk W w.heap.size 25 #[.int .u32 0, .int .u32 0]
  k4 : Blk W (w.heap.size + 1) 29 #[.int .i64 0, .int .i64 0]
  k5 : Blk W h 25 #[.int .u32 gv, .int .u32 bv]
  below : Below w.heap.size w W
  size : h + 1 + 1 + 1 + 1 + 1 ≤ W.heap.size
theorem RInv.alloc {w W : World} {h : Nat} {gv bv : Int} {pre : List PI} (i : RInv w h gv bv pre W) (o : Obj) : RInv w h gv bv pre (W.alloc o) := by
  obtain ⟨⟨A, c, h1, h2⟩, h3, h4, h5, h6, h7, h8⟩ := i
  have hb := (Below.refl W.heap.size W).alloc (Nat.le_refl _) o
  exact ⟨⟨A, c, h1.alloc _, h2.below hb⟩, h3.alloc _, h4.alloc _, h5.alloc _, h6.alloc _, h7.alloc h7.size _, by simp; omega⟩
theorem RInv.own {w : World} {h B : Nat} {gv bv : Int} (hB : w.heap.size ≤ B) : OwnFrom B (fun pre W => RInv w h gv bv pre W) := fun pre W W' row i hg hr => by
  have hr' : ∀ r, row = some r → ∃ o : Obj, W.heap[r]? = some o ∧ o.isCells = false := fun r e => (hr r e).2
  obtain ⟨⟨A, c, h1, h2⟩, h3, h4, h5, h6, h7, h8⟩ := i
  exact ⟨⟨A, c, h1.kept_ hg hr', h2.kept_ hg hr'⟩, h3.kept_ hg hr', h4.kept_ hg hr', h5.kept_ hg hr', h6.kept_ hg hr', h7.grown hg h7.size (fun k e => Nat.le_trans hB (hr k e).1), Nat.le_trans h8 hg.size⟩
/-- a round of Read -/
theorem RInv.app {w W W3 : World} {h : Nat} {gv bv : Int} {pre : List PI} {x : PI} {L : List (Nat × Ins)} {A A' : Option Addr} {c c' : Nat} {o : Obj} (i : RInv w h gv bv pre W) (hh : w.heap.size + 1 < h) (hx : Handed (h + 1 + 1 + 1 + 1 + 1) L pre x W) (hlen : x.2.1.2.length ≤ 35184372087808) (hop : 0 ≤ x.2.1.1 ∧ x.2.1.1 < 65536)
    (hl1 : Blk W (h + 1 + 1) 26 #[.slice A pre.length c]) (hl2 : RawO W (h + 1 + 1 + 1 + 1 + 1) A c (pre.map (·.2)))
    (hg : (W.alloc o).grownBy W3 (Value.slice A pre.length c).ownBlock) (ho : W3.ownsRow (h + 1 + 1 + 1 + 1 + 1) 45 2 (.slice A' (pre.length + 1) c') (pre.length + 1) (Rcells (pre.map (·.2)) ++ [.int .u16 x.2.1.1, x.2.sl])) :
    KeepsFrom (h + 1 + 1 + 1 + 1 + 1) W ((W3.setCell ⟨h + 1 + 1, 0, none⟩ (.slice A' (pre.length + 1) c')).setCell ⟨h + 1 + 1 + 1, 0, none⟩ (.int .i64 ((x.1 + 1 + x.2.1.2.length : Nat) : Int))) ∧
    KeepE w.heap.size (h + 1 + 1 + 1 + 1) W ((W3.setCell ⟨h + 1 + 1, 0, none⟩ (.slice A' (pre.length + 1) c')).setCell ⟨h + 1 + 1 + 1, 0, none⟩ (.int .i64 ((x.1 + 1 + x.2.1.2.length : Nat) : Int))) ∧
    RInv w h gv bv (pre ++ [x]) ((W3.setCell ⟨h + 1 + 1, 0, none⟩ (.slice A' (pre.length + 1) c')).setCell ⟨h + 1 + 1 + 1, 0, none⟩ (.int .i64 ((x.1 + 1 + x.2.1.2.length : Nat) : Int))) := by
  obtain ⟨_, h3, h4, h5, h6, h7, h8⟩ := i
  have hlist : (Value.slice A (pre.map (·.2)).length c) = .slice A pre.length c := by rw [List.length_map]
  have hrow := hl2.row
  rw [hlist] at hrow
  have hsz := hg.size
  rw [World.size_alloc] at hsz
  -- the row of the list lies beyond the variables
  have hrb : ∀ k, (Value.slice A pre.length c).ownBlock = some k → h + 1 + 1 + 1 + 1 + 1 ≤ k := fun k e => (hrow.lt k e).1
  have hoff : Off (fun k => (Value.slice A pre.length c).ownBlock = some k) W W3 := ((Off.refl _ W).alloc o).trans (Off.of_grown hg (fun k e => e))
  have hoff2 := (hoff.mono (S' := fun k => (Value.slice A pre.length c).ownBlock = some k ∨ k = h + 1 + 1 ∨ k = h + 1 + 1 + 1) (fun k _ e => .inl e)).set_ (p := ⟨h + 1 + 1, 0, none⟩) (.inl (.inr (.inl rfl))) (.slice A' (pre.length + 1) c')
  have hoff3 := hoff2.set_ (p := ⟨h + 1 + 1 + 1, 0, none⟩) (.inl (.inr (.inr rfl))) (.int .i64 ((x.1 + 1 + x.2.1.2.length : Nat) : Int))
  have b1 : Blk W3 (h + 1 + 1) 26 #[.slice A pre.length c] := hl1.off hoff (fun e => by have := hrb _ e; omega)
  have b2 : Blk W3 (h + 1 + 1 + 1) 3 #[.int .i64 (atEnd pre)] := h3.off hoff (fun e => by have := hrb _ e; omega)
  have hR3 : RawO W3 (h + 1 + 1 + 1 + 1 + 1) A' c' (pre.map (·.2) ++ [x.2]) := by
    refine RawO.snoc hl2 hx.row ?_ hlen hop (o := o) ?_ ?_
    · intro y hy k hk
      obtain ⟨z, hz, rfl⟩ := List.mem_map.1 hy
      exact hx.apart z hz k hk
    · rw [hlist]; exact hg
    · rw [List.length_map]; exact ho
  have hfar : ∀ k, h + 1 + 1 + 1 + 1 + 1 ≤ k → k < W3.heap.size → ¬ (k = h + 1 + 1 ∨ k = h + 1 + 1 + 1) := fun k h1 _ h2 => by omega
  have hR4 := (hR3.off (S := fun k => k = h + 1 + 1 ∨ k = h + 1 + 1 + 1) ((Off.refl _ W3).set_ (p := ⟨h + 1 + 1, 0, none⟩) (.inl (.inl rfl)) (.slice A' (pre.length + 1) c')) hfar)
  have hR5 := (hR3.off (S := fun k => k = h + 1 + 1 ∨ k = h + 1 + 1 + 1) (((Off.refl _ W3).set_ (p := ⟨h + 1 + 1, 0, none⟩) (.inl (.inl rfl)) (.slice A' (pre.length + 1) c')).set_ (p := ⟨h + 1 + 1 + 1, 0, none⟩) (.inl (.inr rfl)) (.int .i64 ((x.1 + 1 + x.2.1.2.length : Nat) : Int))) hfar)
  have n1 : ∀ k, k ≤ h → ¬ ((Value.slice A pre.length c).ownBlock = some k ∨ k = h + 1 + 1 ∨ k = h + 1 + 1 + 1) := fun k hk e => by
    rcases e with e | e | e
    · have := hrb k e; omega
    · omega
    · omega
  refine ⟨⟨hoff3.size, fun k ob hk hkk hc => ?_⟩, ⟨fun p hp => ?_, hoff3.size⟩, ⟨⟨A', c', ?_, ?_⟩, ?_, h4.off hoff3 (n1 _ (by omega)), h5.off hoff3 (n1 _ (by omega)), h6.off hoff3 (n1 _ (by omega)), ?_, Nat.le_trans h8 hoff3.size⟩⟩
  · refine (hoff3.block k (Array.getElem?_eq_some_iff.1 hkk).1 (fun e => ?_)).trans hkk
    rcases e with e | e | e
    · rcases hrow.2 with ⟨hv, _⟩ | ⟨g, cap, cur, hv, _, hh, _⟩
      · rw [hv] at e; cases e
      · rw [hv] at e
        have e1 : g = k := by simpa [Value.ownBlock] using e
        subst e1
        rw [hkk] at hh
        cases hh
        cases hc
    · omega
    · omega
  · have hlt : p.block < W.heap.size := by have := h7.size; rcases hp with hp | hp <;> omega
    refine World.cell?_of_block (hoff3.block p.block hlt (fun e => ?_))
    rcases hp with hp | hp
    · exact n1 p.block (by omega) e
    · rcases e with e | e | e
      · have := hrb _ e; omega
      · omega
      · omega
  · have b3 := (b1.set_ 0 (.slice A' (pre.length + 1) c')).far (p := ⟨h + 1 + 1 + 1, 0, none⟩) (by simp) (.int .i64 ((x.1 + 1 + x.2.1.2.length : Nat) : Int))
    simpa using b3
  · simpa using hR5
  · have b3 := (b2.far (p := ⟨h + 1 + 1, 0, none⟩) (by simp) (.slice A' (pre.length + 1) c')).set_ 0 (.int .i64 ((x.1 + 1 + x.2.1.2.length : Nat) : Int))
    rw [atEnd_snoc]
    simpa using b3
  · exact h7.trans (hoff3.to_below w.heap.size h7.size (fun k _ e => by
      rcases e with e | e | e
      · have := hrb k e; omega
      · omega
      · omega))

set_option maxRecDepth 100000 in
set_option maxHeartbeats 2000000 in
theorem read_in (A : Option Addr) (n c : Nat) (ws : List Int) (w : World) (hn : n ≤ 35184372087808) (hr : Reads w w.heap.size 1 A n (Ints .u32 ws)) (hu : Under 4294967296 ws) (hcap : n ≤ c) (hsmall : n ≤ 1048576) :
    CallsIn Fence.wide 9 Try.prog 12 #[.slice A n c] w (ReadIs ws w) := by
  have hlen := hr.len
  have k2 := (Blk.new w 25 #[.int .u32 0, .int .u32 0]).alloc (.cells #[.int .i64 0, .int .i64 0] 29)
  have k4 := Blk.new (w.alloc (.cells #[.int .u32 0, .int .u32 0] 25)) 29 #[.int .i64 0, .int .i64 0]
  have hb := ((Below.refl w.heap.size w).alloc (Nat.le_refl _) (.cells #[.int .u32 0, .int .u32 0] 25)).alloc (by simp) (.cells #[.int .i64 0, .int .i64 0] 29)
  rw [World.size_alloc] at k4
  have hl : decide ((1048576 : Int) < (n : Int)) = false := by simp; omega
  have hmI : (if (n : Int) < 5 then (n : Int) else 5) = ((min 5 n : Nat) : Int) := by split <;> omega
  have htk : ws.take 5 = ws.take (min 5 n) := by rw [← hlen]; exact List.take_eq_take_min
  have hsz2 : ((w.alloc (.cells #[.int .u32 0, .int .u32 0] 25)).alloc (.cells #[.int .i64 0, .int .i64 0] 29)).heap.size = w.heap.size + 2 := by simp
  refine callsIn_of_wp_marks Try.func12 rfl trivial ?_ rfl
  simp only [Try.ntmps12, List.size_toArray, List.length_cons, List.length_nil, Nat.reduceAdd, Nat.reduceSub, Array.replicate_succ, Array.replicate_zero, List.push_toArray, List.append_toArray, List.nil_append, List.cons_append]
  gi_wp2_with fail
  generalize (w.alloc (.cells #[.int .u32 0, .int .u32 0] 25)).alloc (.cells #[.int .i64 0, .int .i64 0] 29) = w2 at *
  have hrw2 := hr.below hb
  have hrT : Reads w2 w2.heap.size 1 A (min 5 n) (Ints .u32 (ws.take 5)) := by
    rw [htk, Ints_take]
    exact (hrw2.more (by omega)).prefix_ (by omega)
  refine ⟨trivial, (callsIn_wide.2 (new_any _ _ _ (ws.take 5) _ (by omega) hrT)).mono ?_⟩
  rintro e w3 ⟨g, A', c', rfl, hR, hb3⟩
  gi_wp2_with fail
  refine ⟨trivial, (callsIn_wide.2 (head_is _ w2.heap.size (by omega) (hu.take 5) hR hR.low)).mono ?_⟩
  rintro e w4 ⟨hb4, hH⟩
  have hb24 := hb3.trans hb4
  have k2' := k2.below hb24 k2.lt
  have k4' := k4.below hb24 k4.lt
  have hbw := hb.trans (hb24.mono (by omega))
  have hrw4 := hrw2.below (hb24.mono (by omega))
  have hsz4 : w.heap.size + 2 ≤ w4.heap.size := by have := hb24.size; omega
  clear hb3 hb4 hR hrT htk hb24 k2 k4 hb hrw2 hr
  rcases hH with ⟨hH, rfl⟩ | ⟨k, er, hH, rfl⟩
  · rw [headTo_take (by omega), ] at hH
    have e2 : ix (ws.take 5) 2 = ix ws 2 := ix_take (by omega)
    have e3 : ix (ws.take 5) 3 = ix ws 3 := ix_take (by omega)
    rw [e2, e3]
    have hfn : n = n := rfl
    generalize hgv : ix ws 2 = gv at *
    generalize hbv : ix ws 3 = bv at *
    gi_wp2_with fail
    refine ⟨trivial, (each_in _ _ A n c rfl _).mono ?_⟩
    rintro e w' ⟨rfl, rfl⟩
    gi_wp2_with fail
    obtain ⟨L, E, hG⟩ := Goes.any ws 5
    have kb0 := ((((hbw.alloc hbw.size (.cells #[.int .u32 gv, .int .u32 bv] 25)).alloc (by have := hbw.size; simp; omega) (.cells #[.int .i64 0, .int .i64 0] 29)).alloc (by have := hbw.size; simp; omega) (.cells #[.slice none 0 0] 26)).alloc (by have := hbw.size; simp; omega) (.cells #[.int .i64 5] 3)).alloc (by have := hbw.size; simp; omega) (.cells #[.slice A n c] 22)
    have q2 := ((((k2'.alloc (.cells #[.int .u32 gv, .int .u32 bv] 25)).alloc (.cells #[.int .i64 0, .int .i64 0] 29)).alloc (.cells #[.slice none 0 0] 26)).alloc (.cells #[.int .i64 5] 3)).alloc (.cells #[.slice A n c] 22)
    have q4 := ((((k4'.alloc (.cells #[.int .u32 gv, .int .u32 bv] 25)).alloc (.cells #[.int .i64 0, .int .i64 0] 29)).alloc (.cells #[.slice none 0 0] 26)).alloc (.cells #[.int .i64 5] 3)).alloc (.cells #[.slice A n c] 22)
    have q5 := ((((Blk.new w4 25 #[.int .u32 gv, .int .u32 bv]).alloc (.cells #[.int .i64 0, .int .i64 0] 29)).alloc (.cells #[.slice none 0 0] 26)).alloc (.cells #[.int .i64 5] 3)).alloc (.cells #[.slice A n c] 22)
    have q7 := ((Blk.new ((w4.alloc (.cells #[.int .u32 gv, .int .u32 bv] 25)).alloc (.cells #[.int .i64 0, .int .i64 0] 29)) 26 #[.slice none 0 0]).alloc (.cells #[.int .i64 5] 3)).alloc (.cells #[.slice A n c] 22)
    have q8 := (Blk.new (((w4.alloc (.cells #[.int .u32 gv, .int .u32 bv] 25)).alloc (.cells #[.int .i64 0, .int .i64 0] 29)).alloc (.cells #[.slice none 0 0] 26)) 3 #[.int .i64 5]).alloc (.cells #[.slice A n c] 22)
    have q9 := (Blk.new ((((w4.alloc (.cells #[.int .u32 gv, .int .u32 bv] 25)).alloc (.cells #[.int .i64 0, .int .i64 0] 29)).alloc (.cells #[.slice none 0 0] 26)).alloc (.cells #[.int .i64 5] 3)) 22 #[.slice A n c]).cell 0
    have hsz9 : (((((w4.alloc (.cells #[.int .u32 gv, .int .u32 bv] 25)).alloc (.cells #[.int .i64 0, .int .i64 0] 29)).alloc (.cells #[.slice none 0 0] 26)).alloc (.cells #[.int .i64 5] 3)).alloc (.cells #[.slice A n c] 22)).heap.size = w4.heap.size + 1 + 1 + 1 + 1 + 1 := by simp
    have hr4 := hrw4.below ((((((Below.refl w4.heap.size w4).alloc (by simp) (.cells #[.int .u32 gv, .int .u32 bv] 25)).alloc (by simp) (.cells #[.int .i64 0, .int .i64 0] 29)).alloc (by simp; omega) (.cells #[.slice none 0 0] 26)).alloc (by simp; omega) (.cells #[.int .i64 5] 3)).alloc (by simp; omega) (.cells #[.slice A n c] 22) |>.mono (by omega))
    simp only [World.size_alloc] at q7 q8 q9
    simp at q9
    generalize ((((w4.alloc (.cells #[.int .u32 gv, .int .u32 bv] 25)).alloc (.cells #[.int .i64 0, .int .i64 0] 29)).alloc (.cells #[.slice none 0 0] 26)).alloc (.cells #[.int .i64 5] 3)).alloc (.cells #[.slice A n c] 22) = w9 at *
    generalize w4.heap.size = h at *
    clear k2' k4' hbw hrw4
    have h0 : RInv w h gv bv [] w9 := ⟨⟨none, 0, q7, RawO.nil _ _⟩, q8, q2, q4, q5, kb0, by omega⟩
    clear q7 q8 q2 q4 q5 kb0
    refine wpIn_range_g rfl (by omega) (gf := 34) (lb := #[.pointer (some ⟨h + 1 + 1 + 1 + 1, 0, none⟩)]) rfl trivial (enters_of Try.func34 (by kernel_rfl) rfl)
      (each_stops _ (by omega) (h + 1 + 1 + 1 + 1) w.heap.size n c E (h + 1 + 1 + 1 + 1 + 1) A ws L w9 hn hcap hu hG (by omega) (by omega) (by omega) q9 hr4) (fun h k => h.trans k) (fun W o o' _ => KeepE.put W o' (by omega) (by omega)) (fun _ => rfl)
      (fun pre W => RInv w h gv bv pre W) (fun _ _ _ => False) (RInv.own (by omega)) (fun _ _ _ _ _ hs _ _ => hs) h0
      (fun pre x a' W => ∃ (pb : Nat) (A1 : Option Addr) (c1 : Nat), h + 1 + 1 + 1 + 1 + 1 ≤ pb ∧ (Blk W (h + 1 + 1) 26 #[.slice A1 pre.length c1] ∧ (Value.slice A1 pre.length c1).ownBlock ≠ some pb) ∧ Blk W pb 45 #[.int .u16 x.2.1.1, .slice x.2.2.1 x.2.1.2.length x.2.2.2] ∧ Handed (h + 1 + 1 + 1 + 1 + 1) L pre x W ∧ a' = { tmps := #[Value.slice A n c, undef, Value.pointer (some { block := w.heap.size, off := 0, spot := none }), Value.slice none 0 0, Value.pointer (some { block := w.heap.size + 1, off := 0, spot := none }), Value.pointer (some { block := h, off := 0, spot := none }), Value.pointer (some { block := h + 1, off := 0, spot := none }), Value.pointer (some { block := h + 1 + 1, off := 0, spot := none }), Value.pointer (some { block := h + 1 + 1 + 1, off := 0, spot := none }), Value.int IntKind.i64 (x.1 : Int), Value.pointer (some { block := pb, off := 0, spot := none }), Value.slice A n c, Value.int IntKind.i64 (n : Int), Value.bool false, undef, undef, Value.tuple #[Value.agg #[Value.int IntKind.u32 gv, Value.int IntKind.u32 bv], Value.agg #[Value.int IntKind.i64 0, Value.int IntKind.i64 0]], Value.slice A n c, Value.slice A n c, Value.int IntKind.i64 (n : Int), Value.int IntKind.i64 ((min 5 n : Nat) : Int), Value.slice A (min 5 n) c, Value.pointer (some { block := g, off := 0, spot := none }), Value.tuple #[Value.agg #[Value.int IntKind.u32 gv, Value.int IntKind.u32 bv], Value.agg #[Value.int IntKind.i64 0, Value.int IntKind.i64 0]], Value.agg #[Value.int IntKind.u32 gv, Value.int IntKind.u32 bv], Value.agg #[Value.int IntKind.i64 0, Value.int IntKind.i64 0], Value.pointer (some { block := h + 1, off := 0, spot := none }), Value.int IntKind.i64 0, Value.bool false, undef, undef, Value.slice A n c, Value.func (Fn.func 34) #[] #[Value.pointer (some { block := h + 1 + 1 + 1 + 1, off := 0, spot := none })], Value.int IntKind.i64 (x.1 : Int), Value.agg #[Value.int IntKind.u16 x.2.1.1, Value.slice x.2.2.1 x.2.1.2.length x.2.2.2], undef, undef, undef, undef, undef, undef, undef, undef, undef, undef, undef, undef, undef, undef, undef, undef, undef, undef, undef, undef], defers := [] })
      ?hax ?assign ?body ?done ?stop
    case hax =>
      rintro pre x a' _ X Y row ⟨pb, A1, c1, g1, g5, g2, g3, g4⟩ hg hr
      have hr' : ∀ r, row = some r → ∃ o : Obj, X.heap[r]? = some o ∧ o.isCells = false := fun r e => (hr r e).2
      exact ⟨pb, A1, c1, g1, ⟨g5.1.kept_ hg hr', g5.2⟩, g2.kept_ hg hr', g3.kept_ hg hr', g4⟩
    case assign =>
      rintro l pre x W K hsW hI hGx hK
      dsimp only [eachV]
      gi_wp2_with fail
      have hb := (Below.refl W.heap.size W).alloc (Nat.le_refl _) (.cells #[.int .u16 x.2.1.1, .slice x.2.2.1 x.2.1.2.length x.2.2.2] 45)
      obtain ⟨A1, c1, hl1, hl2⟩ := hI.list
      have hrow := hl2.row
      rw [List.length_map] at hrow
      have hne : (Value.slice A1 pre.length c1).ownBlock ≠ some W.heap.size := own_ne_high hrow (Nat.le_refl _)
      exact hK _ _ ((KeepsOthers.alloc _ _).from _) (KeepE.below hb (by omega) (by omega)) (hI.alloc _) ⟨W.heap.size, A1, c1, by omega, ⟨hl1.alloc _, hne⟩, Blk.new _ _ _, hGx.alloc _, rfl⟩
    case body =>
      rintro l pre x a' W hsW ⟨r, hr⟩ hI ⟨pb, A1, c1, hpb, ⟨hl1, hne1⟩, kb, hGx, rfl⟩
      obtain ⟨b1, b2, b3, b4, -⟩ := hGx.bounds hG hu
      have hl2 : RawO W (h + 1 + 1 + 1 + 1 + 1) A1 c1 (pre.map (·.2)) := by
        obtain ⟨A2, c2, e1, e2⟩ := hI.list
        have e3 := Option.some.inj (e1.symm.trans hl1)
        simp at e3
        obtain ⟨rfl, rfl⟩ := e3
        exact e2
      obtain ⟨d0, d1⟩ := kb.read2
      have f0 := hl1.cell 0
      have f1 := hl1.frozen 0
      have hrow := hl2.row
      rw [List.length_map] at hrow
      simp at f0
      obtain ⟨i0, hi, hz0, hz1, hz2⟩ := info_parts infoRaw
      have hlits := lit_cells2 W #[.int .u16 x.2.1.1, .slice x.2.2.1 x.2.1.2.length x.2.2.2] 45 2 rfl (by omega)
      have hlb : ∀ k, k < h + 1 + 1 + 1 + 1 + 1 → some k ≠ (Value.slice A1 pre.length c1).ownBlock := fun k hk e => by have := (hrow.lt k e.symm).1; omega
      gi_wp2_with (gi_at_builtin; refine wpListIn_append_own _ rfl _ _ 26 rfl (h + 1 + 1 + 1 + 1 + 1) 45 i0 (.agg #[.int .u16 0, .slice none 0 0]) 2 32 Try.underlying26 hi hz0 hz1 hz2 rfl (by decide) _ pre.length (Rcells (pre.map (·.2))) rfl (hrow.alloc _) ⟨W.heap.size, 0, none⟩ 1 1 [.int .u16 x.2.1.1, .slice x.2.2.1 x.2.1.2.length x.2.2.2] rfl rfl hlits (by simp [Value.oneCell']) (by unfold maxLen; omega) (by omega) (by simp; omega) ?_; intro v' w3 hown' hgrow _; obtain ⟨g', cap', rfl, hgg⟩ := hown'.form (by omega); have j1 := ((hl1.alloc (.cells #[.int .u16 x.2.1.1, .slice x.2.2.1 x.2.1.2.length x.2.2.2] 45)).grown hgrow (hlb _ (by omega))); have j2 := ((hI.place.alloc (.cells #[.int .u16 x.2.1.1, .slice x.2.2.1 x.2.1.2.length x.2.2.2] 45)).grown hgrow (hlb _ (by omega))); have j3 := ((kb.alloc (.cells #[.int .u16 x.2.1.1, .slice x.2.2.1 x.2.1.2.length x.2.2.2] 45)).grown hgrow (fun e => hne1 e.symm)); have j4 := j1.cell 0; have j5 := j1.frozen 0; have j6 := j2.cell 0; have j7 := j2.frozen 0; have j8 := j3.cell 0; have j9 := j3.cell 1; simp at j4 j6 j8 j9)
      have ha := RInv.app hI (by omega) hGx (by omega) b2 hl1 hl2 hgrow hown'
      have e : ((x.1 + 1 + x.2.1.2.length : Nat) : Int) = (x.1 : Int) + 1 + (x.2.1.2.length : Int) := by omega
      rw [e] at ha
      exact ha
    case done =>
      rintro D ys W hD hS hI hK
      have hE := goes_end ys hG hS
      have hplace := hI.place
      rw [show atEnd ys = E from hE] at hplace
      obtain ⟨A1, cc1, hl1, hl2⟩ := hI.list
      have p0 := hplace.cell 0
      have p1 := hl1.cell 0
      obtain ⟨p2, p3⟩ := hI.k5.read2
      obtain ⟨q0, q1⟩ := hI.k2.read2
      obtain ⟨q2, q3⟩ := hI.k4.read2
      have q4 := hI.k2.frozen 0
      have q5 := hI.k2.frozen 1
      have q6 := hI.k4.frozen 0
      have q7 := hI.k4.frozen 1
      simp at p0 p1
      by_cases hEn : E < n
      · have hd : decide ((E : Int) < (n : Int)) = true := by simp; omega
        gi_wp2_with fail
        refine wpIn_wide.2 ?_
        refine region_cut (fun a a' w' => Res W.drew w' w.heap.size (w.heap.size + 1) (.int .u32 0) (.int .u32 0) (.int .i64 25) (.int .i64 E) ∧ a' = ((((a.put (some 49) (.agg #[.int .u32 0, .int .u32 0])).put (some 50) (.int .i64 E)).put (some 51) (.agg #[.int .i64 25, .int .i64 E])).put (some 3) (.slice none 0 0))) ?_ ?_
        · intro K1 hK1
          go_region
          all_goals first
            | exact hK1.out _ _ ⟨res_a hI.k2.drew hI.k4.drew (by omega) _ _ _ _, by kernel_rfl⟩
            | exact hK1.out _ _ ⟨res_b hI.k2.drew hI.k4.drew (by omega) _ _ _ _, by kernel_rfl⟩
        · rintro a' w6 ⟨hRes, rfl⟩
          obtain ⟨c0, c1, c2, c3, hoff⟩ := hRes
          gi_wp2_with fail
          have hoff2 := ((Off.refl _ W).drew).trans hoff
          have hDlt := (Array.getElem?_eq_some_iff.1 hK).1
          have hK6 : w6.heap[D]? = some (.deferred (some [])) := (hoff2.block D hDlt (by rintro (e | e) <;> omega)).trans hK
          have m0 := cell_putObj (o := .deferred none) (D := D) c0 (by simp; omega)
          have m1 := cell_putObj (o := .deferred none) (D := D) c1 (by simp; omega)
          have m2 := cell_putObj (o := .deferred none) (D := D) c2 (by simp; omega)
          have m3 := cell_putObj (o := .deferred none) (D := D) c3 (by simp; omega)
          have hbl := (hI.below.trans (hoff2.to_below w.heap.size hI.below.size (by rintro k _ (rfl | rfl) <;> omega))).trans (belowK_b (n₀ := w.heap.size) (w := w9) (by omega) w6 D _ (.deferred none) hD hK6 rfl rfl)
          refine ⟨by simp, .inl ⟨_, _, rfl, run_takeDeferred hK6, ?_⟩⟩
          refine ⟨.tuple #[.agg #[.int .u32 0, .int .u32 0], .slice none 0 0, .agg #[.int .i64 25, .int .i64 E]], by rw [results_ctc rfl]; go_simp, ?_⟩
          exact ⟨0, 0, 25, E, none, 0, [], .count (by omega) hH hG (by omega), rfl, RawO.nil _ _, hbl⟩
      · have hd : decide ((E : Int) < (n : Int)) = false := by simp; omega
        gi_wp2_with fail
        refine wpIn_wide.2 ?_
        refine region_cut (fun a a' w' => Res W.drew w' w.heap.size (w.heap.size + 1) (.int .u32 gv) (.int .u32 bv) (.int .i64 0) (.int .i64 0) ∧ a' = ((((a.put (some 52) (.agg #[.int .u32 gv, .int .u32 bv])).put (some 53) (.slice A1 ys.length cc1)).put (some 54) (.agg #[.int .i64 0, .int .i64 0])).put (some 3) (.slice A1 ys.length cc1))) ?_ ?_
        · intro K1 hK1
          go_region
          all_goals first
            | exact hK1.out _ _ ⟨res_a hI.k2.drew hI.k4.drew (by omega) _ _ _ _, by kernel_rfl⟩
            | exact hK1.out _ _ ⟨res_b hI.k2.drew hI.k4.drew (by omega) _ _ _ _, by kernel_rfl⟩
        · rintro a' w6 ⟨hRes, rfl⟩
          obtain ⟨c0, c1, c2, c3, hoff⟩ := hRes
          gi_wp2_with fail
          have hoff2 := ((Off.refl _ W).drew).trans hoff
          have hDlt := (Array.getElem?_eq_some_iff.1 hK).1
          have hK6 : w6.heap[D]? = some (.deferred (some [])) := (hoff2.block D hDlt (by rintro (e | e) <;> omega)).trans hK
          have m0 := cell_putObj (o := .deferred none) (D := D) c0 (by simp; omega)
          have m1 := cell_putObj (o := .deferred none) (D := D) c1 (by simp; omega)
          have m2 := cell_putObj (o := .deferred none) (D := D) c2 (by simp; omega)
          have m3 := cell_putObj (o := .deferred none) (D := D) c3 (by simp; omega)
          have hbl := (hI.below.trans (hoff2.to_below w.heap.size hI.below.size (by rintro k _ (rfl | rfl) <;> omega))).trans (belowK_b (n₀ := w.heap.size) (w := w9) (by omega) w6 D _ (.deferred none) hD hK6 rfl rfl)
          refine ⟨by simp, .inl ⟨_, _, rfl, run_takeDeferred hK6, ?_⟩⟩
          refine ⟨.tuple #[.agg #[.int .u32 gv, .int .u32 bv], .slice A1 ys.length cc1, .agg #[.int .i64 0, .int .i64 0]], by rw [results_ctc rfl]; go_simp, ?_⟩
          have hraw := ((hl2.off hoff2 (fun k h1 _ e => by rcases e with e | e <;> omega)).kept_ (grownBy_putObj' w6 D (.deferred none)) (fun r e => by cases e; exact ⟨_, hK6, rfl⟩)).more (base' := w.heap.size) (by omega)
          have hrd := ReadTo.ok (by omega) hH hG (by omega)
          rw [hgv, hbv, ← hS, List.map_map] at hrd
          refine ⟨gv, bv, 0, 0, A1, cc1, ys.map (·.2), ?_, by rw [List.length_map]; rfl, hraw, hbl⟩
          rw [List.map_map]
          exact hrd
    case stop =>
      rintro D c pre W _ _ h _
      exact h.elim
  · have hne : (er != 0) = true := by
      rcases hH.2.2 with h | h
      · rw [h.2]; decide
      · simpa using h.2.2
    rw [headBad_take] at hH
    gi_wp2_with fail
    refine wpIn_wide.2 ?_
    have k25 := ((k2'.alloc (.cells #[.int .u32 0, .int .u32 0] 25)).alloc (.cells #[.int .i64 er, .int .i64 k] 29)).drew
    have k45 := ((k4'.alloc (.cells #[.int .u32 0, .int .u32 0] 25)).alloc (.cells #[.int .i64 er, .int .i64 k] 29)).drew
    have k65 := Blk.new (w4.alloc (.cells #[.int .u32 0, .int .u32 0] 25)) 29 #[.int .i64 er, .int .i64 k]
    have hb5 := (hbw.alloc hbw.size (.cells #[.int .u32 0, .int .u32 0] 25)).alloc (by have := hbw.size; simp; omega) (.cells #[.int .i64 er, .int .i64 k] 29)
    rw [World.size_alloc] at k65
    obtain ⟨p0, p1⟩ := k65.read2
    have hne4 : w.heap.size ≠ w4.heap.size + 1 := by omega
    have hne5 : w.heap.size + 1 ≠ w4.heap.size + 1 := by omega
    generalize (w4.alloc (.cells #[.int .u32 0, .int .u32 0] 25)).alloc (.cells #[.int .i64 er, .int .i64 k] 29) = w5 at *
    have k25' : Blk w5 w.heap.size 25 #[.int .u32 0, .int .u32 0] := k25
    have k45' : Blk w5 (w.heap.size + 1) 29 #[.int .i64 0, .int .i64 0] := k45
    obtain ⟨q0, q1⟩ := k25'.read2
    obtain ⟨q2, q3⟩ := k45'.read2
    have q4 := k25'.frozen 0
    have q5 := k25'.frozen 1
    have q6 := k45'.frozen 0
    have q7 := k45'.frozen 1
    refine region_cut (fun a a' w' => Res w5.drew w' w.heap.size (w.heap.size + 1) (.int .u32 0) (.int .u32 0) (.int .i64 er) (.int .i64 k) ∧ a' = (((a.put (some 29) (.agg #[.int .u32 0, .int .u32 0])).put (some 30) (.agg #[.int .i64 er, .int .i64 k])).put (some 3) (.slice none 0 0))) ?_ ?_
    · intro K1 hK1
      go_region
      all_goals first
        | exact hK1.out _ _ ⟨res_a k25 k45 (by omega) _ _ _ _, by kernel_rfl⟩
        | exact hK1.out _ _ ⟨res_b k25 k45 (by omega) _ _ _ _, by kernel_rfl⟩
    · rintro a' w6 ⟨hRes, rfl⟩
      obtain ⟨c0, c1, c2, c3, hoff⟩ := hRes
      gi_wp2_with fail
      refine ⟨.tuple #[.agg #[.int .u32 0, .int .u32 0], .slice none 0 0, .agg #[.int .i64 er, .int .i64 k]], by rw [results_ctc rfl]; go_simp, ?_⟩
      exact ⟨0, 0, er, k, none, 0, [], .head (by omega) hH, rfl, RawO.nil _ _, hb5.drew.trans (hoff.to_below w.heap.size (by have := hb5.size; simp; omega) (by rintro k _ (rfl | rfl) <;> omega))⟩
theorem read_any (A : Option Addr) (n c : Nat) (ws : List Int) (w : World) (hn : n ≤ 35184372087808) (hr : Reads w w.heap.size 1 A n (Ints .u32 ws)) (hu : Under 4294967296 ws) (hcap : n ≤ c) :
    Calls Try.prog 12 #[.slice A n c] w (ReadIs ws w) := by
  rcases Nat.lt_or_ge 1048576 n with h | h
  · exact callsIn_wide.1 (read_large A n c ws w hn hr h)
  · exact callsIn_wide.1 (read_in A n c ws w hn hr hu hcap h)
end Go.Proofs.Ytppkjejdkogfpaa
