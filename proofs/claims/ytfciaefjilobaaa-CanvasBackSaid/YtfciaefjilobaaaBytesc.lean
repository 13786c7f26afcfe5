/- Walks: a canvas's bytes. -/
import Derived.Test.YtfciaefjilobaaaRuns
import Derived.Test.YtfciaefjilobaaaWa
import Derived.Maps.AppendAt
import Derived.Deep.RegionHeld3
namespace Go.Proofs.Ytfciaefjilobaaa
open Go.RowKit Go.Shelf
attribute [local go_sem] Oper.semAt_some

theorem runs_in (m : Nat) (p : Option Addr) (w : World) :
    CallsIn Fence.wide m Try.prog 34 #[.pointer p] w fun e w' => e = .returned (.func (.func 46) #[] #[.pointer (some ⟨w.heap.size, 0, none⟩)]) ∧ w' = w.alloc (.cells #[.pointer p] 28) := by
  refine callsIn_of_wp Try.func34 rfl trivial ?_ rfl
  simp only [Try.ntmps34, List.size_toArray, List.length_cons, List.length_nil, Nat.reduceAdd, Nat.reduceSub, Array.replicate_succ, Array.replicate_zero, List.push_toArray, List.append_toArray, List.nil_append, List.cons_append]
  gi_wp2
  go_ret
  exact ⟨rfl, rfl⟩
theorem runs_stops (m : Nat) (hm : 1 ≤ m) (Bs n₀ g gp n c W H : Nat) (back : Int) (ps : List Pix) (w : World) (hn : 1 ≤ n) (hg : g < n₀) (hgp : gp < n₀) (hn₀ : n₀ ≤ w.heap.size) (hBs : Bs < w.heap.size) (hR : CanR w Bs g gp n c W H back ps) :
    SeqStopsK Fence.wide m Try.prog 46 #[.pointer (some ⟨Bs, 0, none⟩)] runV (KeepC n₀ Bs) (fun ys => ys = runsOf ps n) (fun _ => True) n w := fun l J Jx W hW hJ _ hY h0 =>
  runs1_in W m hm l Bs n₀ g gp n c _ _ back ps hn hg hgp J Jx hJ hY (hR.keep hg hgp (KeepC.below hW hn₀ hBs)) h0

/-- a region, cut off from what comes behind it -/
theorem region_cut {P : Program} {c : Code} {K : Act → World → Prop} {Q : Exit → Act → World → Prop} {a : Act} {w : World} (X : Act → Act → World → Prop) (h : ∀ K1 : Act → World → Prop, Hid (∀ a' w', X a a' w' → K1 a' w') → c.wp P (Exit.then K1 Q) a w) (k : ∀ a' w', X a a' w' → K a' w') : c.wp P (Exit.then K Q) a w :=
  wp_mono (h (fun a' w' => X a a' w') (Lib.hid fun _ _ hx => hx)) fun e a' w' hx => by
    cases e <;> first | exact k _ _ hx | exact hx
/-- the words of a run, as the walk reckons them -/
def encW (r : Run) : List Int := if r.1.1 then [wrap64 (wrap64 (2 * (r.2 : Int)) + 1) % 4294967296, r.1.2.2, r.1.2.1 % 4294967296] else [wrap64 (2 * (r.2 : Int)) % 4294967296]
def encWs (l : List Run) : List Int := l.flatMap encW
theorem encWs_snoc (l : List Run) (r : Run) : encWs (l ++ [r]) = encWs l ++ encW r := by simp [encWs]
theorem encW_length (r : Run) : (encW r).length ≤ 3 := by unfold encW; split <;> simp
theorem encWs_length : ∀ (l : List Run), (encWs l).length ≤ 3 * l.length
  | [] => by simp [encWs]
  | r :: l => by
    have h1 := encWs_length l
    have h2 := encW_length r
    simp only [encWs, List.flatMap_cons, List.length_append, List.length_cons] at h1 ⊢
    omega
theorem wrap_u32 {x : Int} (h : 0 ≤ x) (h' : x < 4294967296) : IntKind.u32.wrap x = x := by
  simp [IntKind.wrap, IntKind.signed, IntKind.bits]
  omega
theorem wrap_u32_any (x : Int) : IntKind.u32.wrap x = x % 4294967296 := by
  simp [IntKind.wrap, IntKind.signed, IntKind.bits]
theorem wrap64_of {x : Int} (h : 0 ≤ x) (h' : x ≤ 9223372036854775807) : wrap64 x = x := by unfold wrap64; omega
theorem encW_eq {r : Run} (h : r.2 ≤ 1048576) : encW r = encRun r := by
  have e1 : wrap64 (2 * (r.2 : Int)) = 2 * (r.2 : Int) := wrap64_of (by omega) (by omega)
  have e2 : wrap64 (2 * (r.2 : Int) + 1) = 2 * (r.2 : Int) + 1 := wrap64_of (by omega) (by omega)
  have e3 : (2 * (r.2 : Int) + 1) % 4294967296 = ((2 * r.2 + 1 : Nat) : Int) := by omega
  have e4 : (2 * (r.2 : Int)) % 4294967296 = ((2 * r.2 : Nat) : Int) := by omega
  unfold encW encRun
  rw [e1, e2, e3, e4]
theorem flat_same {α β : Type} (f g : α → List β) : ∀ (l : List α), (∀ a ∈ l, f a = g a) → l.flatMap f = l.flatMap g
  | [], _ => rfl
  | a :: l, h => by rw [List.flatMap_cons, List.flatMap_cons, h a List.mem_cons_self, flat_same f g l (fun b hb => h b (List.mem_cons_of_mem _ hb))]
theorem encWs_eq {l : List Run} (h : ∀ r ∈ l, r.2 ≤ 1048576) : encWs l = encRuns l := by
  unfold encWs encRuns
  exact flat_same encW encRun l fun r hr => encW_eq (h r hr)
def hdr (W H : Nat) (back : Int) : List Int := [826758217, (W : Int), (H : Int), back]

theorem lit_cells (w : World) (cs : Array Value) (t : TypeId) (n : Nat) (h : cs.size = n) (hm : n ≤ 1000) : ∀ j u, cs.toList[j]? = some u → (w.alloc (.cells cs t)).cell? ((⟨w.heap.size, 0, none⟩ : Addr).add j) = some u :=
  (World.ownsRow_lit (base := 0) (e := t) (size := 1) w cs n (Nat.zero_le _) (by unfold maxLen; omega) (by omega)).cells rfl
/-- a row has been appended to, and the variable b3 written -/
theorem keepC_app {n₀ Bs b3 : Nat} {w w3 : World} {o : Obj} {row : Option Nat} {u : Value} (hg : (w.alloc o).grownBy w3 row) (hn : n₀ ≤ w.heap.size) (hB : Bs < w.heap.size) (hrow : ∀ r, row = some r → n₀ ≤ r ∧ r ≠ Bs) (h3 : n₀ ≤ b3 ∧ b3 ≠ Bs) : KeepC n₀ Bs w (w3.setCell ⟨b3, 0, none⟩ u) := fun p hp => by
  have hlt : p.block < w.heap.size := by rcases hp with hp | hp <;> omega
  have h1 : (w3.setCell ⟨b3, 0, none⟩ u).cell? p = w3.cell? p := World.cell?_of_block (Below.heap_setCell _ _ _ _ (fun e => by rcases hp with hp | hp <;> simp at e <;> omega))
  have h2 : w3.cell? p = (w.alloc o).cell? p := World.cell?_of_block (hg.block p.block (by simp; omega) (fun e => by
    have := hrow _ e.symm
    rcases hp with hp | hp <;> omega))
  rw [h1, h2, World.cell?_alloc_lt w o p hlt]
theorem keepsO_app {b3 : Nat} {w w3 : World} {o : Obj} {base n size : Nat} {e : TypeId} {v u : Value} {xs : List Value} (hg : (w.alloc o).grownBy w3 v.ownBlock) (hr : (w.alloc o).ownsRow base e size v n xs) : KeepsOthers w (w3.setCell ⟨b3, 0, none⟩ u) :=
  ((KeepsOthers.alloc w o).trans (KeepsOthers.of_grownBy hg (fun j ob hj hob => by
    rcases hr.2 with ⟨rfl, _⟩ | ⟨g, cap, cur, rfl, _, hgb, _⟩
    · cases hj
    · obtain rfl : g = j := by simpa [Value.ownBlock] using hj
      rw [hgb] at hob; cases hob; rfl))).trans (KeepsOthers.setCell _ _ _)
theorem own_row_ge {w : World} {base n size : Nat} {e : TypeId} {v : Value} {xs : List Value} (h : w.ownsRow base e size v n xs) {r : Nat} (hr : v.ownBlock = some r) : base ≤ r ∧ r < w.heap.size := h.lt r hr
theorem infoU32 : (Try.prog.info? 22).map (fun i => (i.zero, i.size, i.bytes)) = some (some (.int .u32 0), 1, 4) := by kernel_rfl
/-- what the loop of Bytes holds between two rounds -/
def BI (w : World) (b3 W H : Nat) (back : Int) (p : Value) (pre : List Run) (W' : World) : Prop :=
  (((∃ v, Boxed W' b3 87 v ∧ W'.ownsRow w.heap.size 22 1 v (4 + (encWs pre).length) (Ints .u32 (hdr W H back ++ encWs pre)) ∧ True) ∧ Boxed W' (w.heap.size + 2) 28 p) ∧ Below w.heap.size w W') ∧ w.heap.size + 3 ≤ W'.heap.size
theorem BI.own (w : World) (b3 W H : Nat) (back : Int) (p : Value) {B : Nat} (hB : w.heap.size ≤ B) : OwnFrom B (BI w b3 W H back p) :=
  OwnFrom.and (OwnFrom.and (OwnFrom.and (Own.from (holdsRow_own w.heap.size b3 87 22 1 (fun pre => 4 + (encWs pre).length) (fun pre => Ints .u32 (hdr W H back ++ encWs pre)) (fun _ _ => True)) _)
    (Own.from (boxed_own (w.heap.size + 2) 28 (fun _ => p)) _)) (ownFrom_below (Nat.le_refl _) hB)) (fun _ _ _ _ hs hg _ => Nat.le_trans hs hg.size)
theorem BI.alloc {w : World} {b3 W H : Nat} {back : Int} {p : Value} {pre : List Run} {W' : World} (h : BI w b3 W H back p pre W') (o : Obj) : BI w b3 W H back p pre (W'.alloc o) := by
  obtain ⟨⟨⟨⟨v, h1, h2, _⟩, h3⟩, h4⟩, h5⟩ := h
  exact ⟨⟨⟨⟨v, h1.alloc _, h2.alloc _, trivial⟩, h3.alloc _⟩, h4.alloc h4.size _⟩, by simp; omega⟩
/-- a run's words appended, the variable written -/
theorem BI.app {w : World} {b3 W H : Nat} {back : Int} {p v v' : Value} {pre : List Run} {x : Run} {W' w3 : World} {cs : Array Value} (hb3 : w.heap.size ≤ b3 ∧ b3 ≤ w.heap.size + 1) (hv : Boxed W' b3 87 v) (hr : W'.ownsRow w.heap.size 22 1 v (4 + (encWs pre).length) (Ints .u32 (hdr W H back ++ encWs pre)))
    (hbx : Boxed W' (w.heap.size + 2) 28 p) (hB : Below w.heap.size w W') (hs : w.heap.size + 3 ≤ W'.heap.size) (m : Nat) (hm : m = (encW x).length)
    (ho : w3.ownsRow w.heap.size 22 1 v' (4 + (encWs pre).length + m) (Ints .u32 (hdr W H back ++ encWs pre) ++ Ints .u32 (encW x))) (hg : (W'.alloc (.cells cs 22)).grownBy w3 v.ownBlock) :
    KeepsFrom (w.heap.size + 3) W' (w3.setCell ⟨b3, 0, none⟩ v') ∧ KeepC w.heap.size (w.heap.size + 2) W' (w3.setCell ⟨b3, 0, none⟩ v') ∧ BI w b3 W H back p (pre ++ [x]) (w3.setCell ⟨b3, 0, none⟩ v') := by
  have hrA := hr.alloc (.cells cs 22)
  have hvA := hv.alloc (.cells cs 22)
  have hbA := hbx.alloc (.cells cs 22)
  have n1 := hvA.not_row (by decide) hrA
  have n2 := hbA.not_row (by decide) hrA
  have hv3 := hvA.kept hg n1
  have hb3' := hbA.kept hg n2
  have n3 := hv3.not_row (by decide) ho
  have hrow : ∀ r, v.ownBlock = some r → w.heap.size ≤ r ∧ r ≠ w.heap.size + 2 := fun r e => ⟨(hr.lt r e).1, fun e' => n2 (by rw [e, e'])⟩
  refine ⟨(keepsO_app hg hrA).from _, keepC_app hg hB.size (by omega) hrow ⟨hb3.1, by omega⟩, ⟨⟨⟨v', hv3.set v', ?_, trivial⟩, hb3'.other (by omega) _⟩, ?_⟩, ?_⟩
  · have h1 := ho.kept (grownBy_setCell' w3 b3 v') (.inr (fun e => n3 e.symm))
    rw [encWs_snoc, List.length_append, ← List.append_assoc, Ints_append _ (hdr W H back ++ encWs pre), ← hm, ← Nat.add_assoc]
    exact h1
  · exact ((hB.alloc hB.size (.cells cs 22)).grown hg (by simp; have := hB.size; omega) (fun k e => (hrow k e).1)).setCell (p := ⟨b3, 0, none⟩) hb3.1 _
  · have h1 := hg.size
    have h2 : (w3.setCell ⟨b3, 0, none⟩ v').heap.size = w3.heap.size := by simp [World.setCell]
    simp at h1
    omega

/-- the four words and the variable that holds them, laid in either order -/
def HdrAt (w : World) (W H : Nat) (back : Int) (b3 bs : Nat) (w' : World) : Prop :=
  Blk w' b3 87 #[.slice (some ⟨bs, 0, none⟩) 4 4] ∧ w'.ownsRow w.heap.size 22 1 (.slice (some ⟨bs, 0, none⟩) 4 4) 4 (Ints .u32 (hdr W H back)) ∧ Below w.heap.size w w' ∧ b3 ≤ w.heap.size + 1 ∧ w.heap.size ≤ b3 ∧ w'.heap.size = w.heap.size + 2
theorem hdr_a (w : World) (W H : Nat) (back : Int) : HdrAt w W H back (w.heap.size + 1) w.heap.size ((w.alloc (.cells #[.int .u32 826758217, .int .u32 W, .int .u32 H, .int .u32 back] 22)).alloc (.cells #[.slice (some ⟨w.heap.size, 0, none⟩) 4 4] 87)).drew := by
  have k := Blk.new (w.alloc (.cells #[.int .u32 826758217, .int .u32 W, .int .u32 H, .int .u32 back] 22)) 87 #[.slice (some ⟨w.heap.size, 0, none⟩) 4 4]
  rw [World.size_alloc] at k
  exact ⟨k.drew, (World.ownsRow_lit (base := w.heap.size) (size := 1) w #[.int .u32 826758217, .int .u32 W, .int .u32 H, .int .u32 back] 4 (Nat.le_refl _) (by unfold maxLen; omega) rfl).alloc _, (((Below.refl _ _).alloc (Nat.le_refl _) _).alloc (by simp) _).drew, by omega, by omega, by simp⟩
theorem hdr_b (w : World) (W H : Nat) (back : Int) : HdrAt w W H back w.heap.size (w.heap.size + 1) ((w.alloc (.cells #[.slice (some ⟨w.heap.size + 1, 0, none⟩) 4 4] 87)).alloc (.cells #[.int .u32 826758217, .int .u32 W, .int .u32 H, .int .u32 back] 22)).drew := by
  have k := World.ownsRow_lit (base := w.heap.size) (e := 22) (size := 1) (w.alloc (.cells #[.slice (some ⟨w.heap.size + 1, 0, none⟩) 4 4] 87)) #[.int .u32 826758217, .int .u32 W, .int .u32 H, .int .u32 back] 4 (by simp) (by unfold maxLen; omega) rfl
  rw [World.size_alloc] at k
  exact ⟨((Blk.new w 87 _).alloc _).drew, k, (((Below.refl _ _).alloc (Nat.le_refl _) _).alloc (by simp) _).drew, by omega, by omega, by simp⟩

set_option maxRecDepth 100000 in
set_option maxHeartbeats 2000000 in
theorem cbytes_in {w : World} {base g gp n c W H : Nat} {back : Int} {ps : List Pix} (h : CanS w base g gp n c W H back ps) :
    CallsIn Fence.wide 9 Try.prog 16 #[.pointer (some ⟨g, 0, none⟩)] w fun e w' => ∃ A' c', e = .returned (.slice A' (4 * (picWords W H back ps).length) c') ∧
      w'.ownsRow w.heap.size 5 1 (.slice A' (4 * (picWords W H back ps).length) c') (4 * (picWords W H back ps).length) (Ints .u8 (joined (picWords W H back ps))) ∧ Below w.heap.size w w' := by
  obtain ⟨p0, p1, p2, p3⟩ := h.blk.read4
  have hW := h.sz.w2
  have hH := h.sz.h2
  have hb := h.sz.b1
  have hb0 := h.sz.b0
  have q0 := fun o => (h.blk.alloc o).cell 0
  have q1 := fun o => (h.blk.alloc o).cell 1
  have q2 := fun o => (h.blk.alloc o).cell 2
  simp at q0 q1 q2
  refine callsIn_of_wp_marks Try.func16 rfl trivial ?_ rfl
  simp only [Try.ntmps16, List.size_toArray, List.length_cons, List.length_nil, Nat.reduceAdd, Nat.reduceSub, Array.replicate_succ, Array.replicate_zero, List.push_toArray, List.append_toArray, List.nil_append, List.cons_append]
  gi_wp2
  refine wpIn_wide.2 ?_
  have r0 := fun o o' => ((h.blk.alloc o).alloc o').cell 0
  have r1 := fun o o' => ((h.blk.alloc o).alloc o').cell 1
  have r2 := fun o o' => ((h.blk.alloc o).alloc o').cell 2
  simp at r0 r1 r2
  have hwW : IntKind.u32.wrap (W : Int) = W := wrap_u32 (by omega) (by omega)
  have hwH : IntKind.u32.wrap (H : Int) = H := wrap_u32 (by omega) (by omega)
  refine region_cut (fun a a' w' => ∃ b3 bs, a' = (((((((((((((((a.put (some 8) (.pointer (some ⟨g, 0, none⟩))).put (some 9) (.pointer (some ⟨g, 0, none⟩))).put (some 10) (.pointer (some ⟨g, 0, none⟩))).put (some 11) (.int .i64 W)).put (some 12) (.int .u32 W)).put (some 13) (.pointer (some ⟨g, 0, none⟩))).put (some 14) (.pointer (some ⟨g, 0, none⟩))).put (some 15) (.pointer (some ⟨g, 1, none⟩))).put (some 16) (.int .i64 H)).put (some 17) (.int .u32 H)).put (some 18) (.pointer (some ⟨g, 0, none⟩))).put (some 19) (.pointer (some ⟨g, 0, none⟩))).put (some 20) (.pointer (some ⟨g, 2, none⟩))).put (some 21) (.int .u32 back)).put (some 22) (.slice (some ⟨bs, 0, none⟩) 4 4)).put (some 3) (.pointer (some ⟨b3, 0, none⟩)) ∧ HdrAt w W H back b3 bs w') ?_ ?_
  · intro K1 hK1
    go_region_held3 (fun w' => w'.cell? ⟨g, 0, none⟩ = some (.int .i64 W) ∧ w'.cell? ⟨g, 1, none⟩ = some (.int .i64 H) ∧ w'.cell? ⟨g, 2, none⟩ = some (.int .u32 back)) (first | exact ⟨p0, p1, p2⟩ | exact ⟨q0 _, q1 _, q2 _⟩ | exact ⟨r0 _ _, r1 _ _, r2 _ _⟩ | (go_split_ands; exact ⟨by assumption, by assumption, by assumption⟩)) (fail)
    all_goals first
      | exact hK1.out _ _ ⟨_, _, by kernel_rfl, hdr_a w W H back⟩
      | exact hK1.out _ _ ⟨_, _, by kernel_rfl, hdr_b w W H back⟩
  · rintro a' w1 ⟨b3, bs, rfl, k3, ho, hb1, hb3, hb3', hsz⟩
    clear q0 q1 q2 r0 r1 r2 hwW hwH p0 p1 p2 p3
    gi_wp2
    refine ⟨trivial, (runs_in _ _ _).mono ?_⟩
    rintro e w' ⟨rfl, rfl⟩
    gi_wp2
    have hbx := (hb1.alloc hb1.size (.cells #[.pointer (some ⟨g, 0, none⟩)] 28))
    have hC2 := (h.below hb1).below ((Below.refl w1.heap.size w1).alloc (Nat.le_refl _) (.cells #[.pointer (some ⟨g, 0, none⟩)] 28))
    have kbx : (w1.alloc (.cells #[.pointer (some ⟨g, 0, none⟩)] 28)).cell? ⟨w1.heap.size, 0, none⟩ = some (.pointer (some ⟨g, 0, none⟩)) := (Blk.new w1 28 #[.pointer (some ⟨g, 0, none⟩)]).cell 0
    have hR2 := hC2.reads kbx
    have kbx2 : Boxed (w1.alloc (.cells #[.pointer (some ⟨g, 0, none⟩)] 28)) w1.heap.size 28 (.pointer (some ⟨g, 0, none⟩)) := Blk.new w1 28 #[.pointer (some ⟨g, 0, none⟩)]
    have ho2 := ho.alloc (.cells #[.pointer (some ⟨g, 0, none⟩)] 28)
    have k32 := k3.alloc (.cells #[.pointer (some ⟨g, 0, none⟩)] 28)
    have hsz2 : (w1.alloc (.cells #[.pointer (some ⟨g, 0, none⟩)] 28)).heap.size = w.heap.size + 3 := by simp; omega
    have hglt := h.lt
    have hgplt := h.lt2.2
    clear ho k3 hC2 kbx
    generalize w1.alloc (.cells #[.pointer (some ⟨g, 0, none⟩)] 28) = w2 at *
    rw [hsz] at *
    refine wpIn_rangeFunc_ownH rfl (by omega) (gf := 46) (lb := #[.pointer (some ⟨w.heap.size + 2, 0, none⟩)]) rfl trivial (enters_of Try.func46 (by kernel_rfl) rfl)
      (runs_stops _ (by omega) (w.heap.size + 2) w.heap.size g gp n c W H back ps w2 h.sz.pos hglt hgplt (by omega) (by omega) hR2) (fun h k => h.trans k) (KeepC.b (by omega) (by omega)) (Below.refl _ _) (fun _ => rfl)
      (BI w b3 W H back (.pointer (some ⟨g, 0, none⟩)))
      (fun _ _ _ => False)
      (BI.own w b3 W H back _ (by omega))
      (fun _ _ _ _ _ hs _ _ => hs)
      ⟨⟨⟨⟨_, k32, ho2, trivial⟩, kbx2⟩, hbx⟩, by omega⟩
      (fun x a' W' => ∃ pb, w.heap.size + 3 ≤ pb ∧ Blk W' pb 82 #[.bool x.1.1, .int .i32 x.1.2.1, .int .u32 x.1.2.2] ∧ a' = { tmps := #[.pointer (some ⟨g, 0, none⟩), undef, .slice none 0 0, .pointer (some ⟨b3, 0, none⟩), .pointer (some ⟨pb, 0, none⟩), .int .i64 x.2, .pointer (some ⟨g, 0, none⟩), .bool false, .pointer (some ⟨g, 0, none⟩), .pointer (some ⟨g, 0, none⟩), .pointer (some ⟨g, 0, none⟩), .int .i64 W, .int .u32 W, .pointer (some ⟨g, 0, none⟩), .pointer (some ⟨g, 0, none⟩), .pointer (some ⟨g, 1, none⟩), .int .i64 H, .int .u32 H, .pointer (some ⟨g, 0, none⟩), .pointer (some ⟨g, 0, none⟩), .pointer (some ⟨g, 2, none⟩), .int .u32 back, .slice (some ⟨bs, 0, none⟩) 4 4, .pointer (some ⟨g, 0, none⟩), .func (.func 46) #[] #[.pointer (some ⟨w.heap.size + 2, 0, none⟩)], .agg #[.bool x.1.1, .int .i32 x.1.2.1, .int .u32 x.1.2.2], .int .i64 x.2, undef, undef, undef, undef, undef, undef, undef, undef, undef, undef, undef, undef, undef, undef, undef, undef, undef, undef, undef, undef, undef, undef], defers := [] })
      ?hax ?assign ?body ?done ?stop
    case hax =>
      rintro x a' _ X Y row ⟨pb, h1, h2, h3⟩ hg hr
      exact ⟨pb, h1, (hg.block pb h2.lt (fun e => by
        obtain ⟨_, o, ho, hc⟩ := hr pb e.symm
        unfold Blk at h2
        rw [h2] at ho; cases ho; cases hc)).trans h2, h3⟩
    case assign =>
      rintro l pre x W' K hI hK
      dsimp only [runV]
      gi_wp2
      have hsz3 : w.heap.size + 3 ≤ W'.heap.size := hI.2
      exact hK _ _ ((KeepsOthers.alloc _ _).from _) (KeepC.below ((Below.refl W'.heap.size W').alloc (Nat.le_refl _) _) (by omega) (by omega)) (hI.alloc _) ⟨W'.heap.size, hsz3, Blk.new _ _ _, rfl⟩
    case body =>
      rintro l pre x a' W' hl ⟨r, hr⟩ ⟨⟨⟨⟨v, hv, hrow, _⟩, hbx3⟩, hB⟩, hsz3⟩ ⟨pb, hpb, kb, rfl⟩ hlt
      obtain ⟨s0, s1, s2⟩ := kb.read3
      obtain ⟨gr, cap, rfl, hgr⟩ := hrow.form (by omega)
      have hcell := hv.cell
      have c1 := fun o => (hv.alloc o).cell
      obtain ⟨i0, hi, hz0, hz1, hz2⟩ := info_parts infoU32
      have hel := encWs_length pre
      have hnle := h.sz.le
      rcases hd : x.1.1 with _ | _
      · rw [hd] at s0
        have hew : encW x = [wrap64 (2 * (x.2 : Int)) % 4294967296] := by simp only [encW, hd, Bool.false_eq_true, if_false]
        have hnews : Ints .u32 (encW x) = [.int .u32 (wrap64 (2 * (x.2 : Int)) % 4294967296)] := by rw [hew, Ints, List.map_cons, List.map_nil]
        have hvA := hv.alloc (.cells #[.int .u32 (wrap64 (2 * (x.2 : Int)) % 4294967296)] 22)
        have hrA := hrow.alloc (.cells #[.int .u32 (wrap64 (2 * (x.2 : Int)) % 4294967296)] 22)
        have hn1 := hvA.not_row (by decide) hrA
        have hlits := lit_cells W' #[.int .u32 (wrap64 (2 * (x.2 : Int)) % 4294967296)] 22 1 rfl (by omega)
        gi_wp2_with (gi_at_builtin; refine wpListIn_append_own _ rfl _ _ 87 rfl w.heap.size 22 i0 (.int .u32 0) 1 4 Try.underlying87 hi hz0 hz1 hz2 rfl (by decide) _ (4 + (encWs pre).length) (Ints .u32 (hdr W H back ++ encWs pre)) rfl (hrow.alloc _) ⟨W'.heap.size, 0, none⟩ 1 1 [.int .u32 (wrap64 (2 * (x.2 : Int)) % 4294967296)] rfl rfl hlits (by simp [Value.oneCell']) (by unfold maxLen; omega) (by omega) (by have := hB.size; simp; omega) ?_; intro v' w3 hown' hgrow _; obtain ⟨g', cap', rfl, hgg⟩ := hown'.form (by omega); have hv3 := hvA.kept hgrow hn1; have hc3 := hv3.cell; have hf3 := hv3.frozen)
        rw [← hnews] at hown'
        exact BI.app ⟨hb3', hb3⟩ hv hrow hbx3 hB hsz3 1 (by rw [hew]; simp only [List.length_cons, List.length_nil]) hown' hgrow
      · rw [hd] at s0
        have hew : encW x = [wrap64 (wrap64 (2 * (x.2 : Int)) + 1) % 4294967296, x.1.2.2, x.1.2.1 % 4294967296] := by simp only [encW, hd, if_true]
        have hnews : Ints .u32 (encW x) = [.int .u32 (wrap64 (wrap64 (2 * (x.2 : Int)) + 1) % 4294967296), .int .u32 (x.1.2.2), .int .u32 (x.1.2.1 % 4294967296)] := by rw [hew, Ints, List.map_cons, List.map_cons, List.map_cons, List.map_nil]
        have hvA := hv.alloc (.cells #[.int .u32 (wrap64 (wrap64 (2 * (x.2 : Int)) + 1) % 4294967296), .int .u32 (x.1.2.2), .int .u32 (x.1.2.1 % 4294967296)] 22)
        have hrA := hrow.alloc (.cells #[.int .u32 (wrap64 (wrap64 (2 * (x.2 : Int)) + 1) % 4294967296), .int .u32 (x.1.2.2), .int .u32 (x.1.2.1 % 4294967296)] 22)
        have hn1 := hvA.not_row (by decide) hrA
        have hlits := lit_cells W' #[.int .u32 (wrap64 (wrap64 (2 * (x.2 : Int)) + 1) % 4294967296), .int .u32 (x.1.2.2), .int .u32 (x.1.2.1 % 4294967296)] 22 3 rfl (by omega)
        gi_wp2_with (gi_at_builtin; refine wpListIn_append_own _ rfl _ _ 87 rfl w.heap.size 22 i0 (.int .u32 0) 1 4 Try.underlying87 hi hz0 hz1 hz2 rfl (by decide) _ (4 + (encWs pre).length) (Ints .u32 (hdr W H back ++ encWs pre)) rfl (hrow.alloc _) ⟨W'.heap.size, 0, none⟩ 3 3 [.int .u32 (wrap64 (wrap64 (2 * (x.2 : Int)) + 1) % 4294967296), .int .u32 (x.1.2.2), .int .u32 (x.1.2.1 % 4294967296)] rfl rfl hlits (by simp [Value.oneCell']) (by unfold maxLen; omega) (by omega) (by have := hB.size; simp; omega) ?_; intro v' w3 hown' hgrow _; obtain ⟨g', cap', rfl, hgg⟩ := hown'.form (by omega); have hv3 := hvA.kept hgrow hn1; have hc3 := hv3.cell; have hf3 := hv3.frozen)
        rw [← hnews] at hown'
        exact BI.app ⟨hb3', hb3⟩ hv hrow hbx3 hB hsz3 3 (by rw [hew]; simp only [List.length_cons, List.length_nil]) hown' hgrow
    case done =>
      rintro D ys W' hD rfl ⟨⟨⟨⟨v, hv, hrow, _⟩, _⟩, hB⟩, _⟩ hK
      have hcell := hv.cell
      obtain ⟨gr, cap, rfl, hgr⟩ := hrow.form (by omega)
      have hrun := fun r (h : r ∈ runsOf ps n) => runSum_mem h
      rw [runsOf_sum ps h.sz.pos] at hrun
      have hew : encWs (runsOf ps n) = encRuns (runsOf ps n) := encWs_eq (fun r hr => Nat.le_trans (hrun r hr) h.sz.le)
      have hpw : hdr W H back ++ encWs (runsOf ps n) = picWords W H back ps := by
        have e0 : n = W * H := h.sz.area
        rw [hew, e0]
        rfl
      rw [hpw] at hrow
      have hlen : 4 + (encWs (runsOf ps n)).length = (picWords W H back ps).length := by
        rw [← hpw, List.length_append]
        rfl
      rw [hlen] at hrow hcell
      have hpl := picWords_length (back := back) (ps := ps) hW hH (by have e0 := h.sz.area; have := h.sz.pos; omega)
      have hpu := picWords_under (back := back) (ps := ps) hW hH (by have e0 := h.sz.area; have := h.sz.pos; omega) ⟨hb0, hb⟩ h.sz.ok
      clear hew hpw hrun hlen
      generalize hpwe : picWords W H back ps = pw at *
      gi_wp2
      refine ⟨trivial, (callsIn_wide.2 (join_any (some ⟨gr, 0, none⟩) pw.length cap pw _ (by omega) hpu (Reads.of_own hrow))).mono ?_⟩
      rintro e w5 ⟨A5, c5, rfl, ho5, hb5⟩
      gi_wp2
      have hK5 := (hb5.block D (Array.getElem?_eq_some_iff.1 hK).1).trans hK
      subst hpwe
      refine ⟨by simp, .inl ⟨_, _, rfl, run_takeDeferred hK5, ?_⟩⟩
      exact ⟨_, results_tmp rfl _ _ _, A5, c5, rfl, ownsRow_putObj (own_base ho5 hB.size) _ hK5 rfl, (below_cut hB hb5 (Nat.le_refl _)).trans (belowK_b (w := w) (Nat.le_refl _) w5 D _ _ (by omega) hK5 rfl rfl)⟩
    case stop =>
      rintro D c pre W _ _ h _
      exact h.elim

theorem cbytes_any {w : World} {base g gp n c W H : Nat} {back : Int} {ps : List Pix} (h : CanS w base g gp n c W H back ps) :
    Calls Try.prog 16 #[.pointer (some ⟨g, 0, none⟩)] w fun e w' => ∃ A' c', e = .returned (.slice A' (4 * (picWords W H back ps).length) c') ∧
      w'.ownsRow w.heap.size 5 1 (.slice A' (4 * (picWords W H back ps).length) c') (4 * (picWords W H back ps).length) (Ints .u8 (joined (picWords W H back ps))) ∧ Below w.heap.size w w' := callsIn_wide.1 (cbytes_in h)
end Go.Proofs.Ytfciaefjilobaaa
