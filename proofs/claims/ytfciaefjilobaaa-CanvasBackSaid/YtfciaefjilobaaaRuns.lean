/- Walks: the iterator over a canvas's runs. -/
import Derived.RangeFuncNested
import Derived.RangeFuncBound
import Derived.RangeFuncCalls
import Derived.RangeFuncLeaves
import Derived.Shelf.Abstract
import Derived.Shelf.RegionOpen
import Derived.WalkKit
import Derived.OwnWalkIn
import Derived.TacticsInMore
import Derived.LoopNIn
import Derived.LoopIn
import Derived.Sort.QuietTacIn
import Derived.Test.YtfciaefjilobaaaRnew
import Derived.Test.YtfciaefjilobaaaRunsLaw
import Derived.Test.YtfciaefjilobaaaEqp
namespace Go.Proofs.Ytfciaefjilobaaa
open Go.RowKit Go.Shelf
attribute [local go_sem] Oper.semAt_some

/-- what the iterators over a canvas read: the box with the canvas, its slice, its pixels -/
structure CanR (w : World) (Bs g gp n c W H : Nat) (back : Int) (ps : List Pix) : Prop where
  box : w.cell? ⟨Bs, 0, none⟩ = some (.pointer (some ⟨g, 0, none⟩))
  wid : w.cell? ⟨g, 0, none⟩ = some (.int .i64 W)
  sl : w.cell? ⟨g, 3, none⟩ = some (.slice (some ⟨gp, 0, none⟩) n c)
  cells : ∀ k, k < n → w.cell? ⟨gp, k * 3, none⟩ = some (.bool (px ps k).1) ∧ w.cell? ⟨gp, k * 3 + 1, none⟩ = some (.int .i32 (px ps k).2.1) ∧ w.cell? ⟨gp, k * 3 + 2, none⟩ = some (.int .u32 (px ps k).2.2)
  len : ps.length = n
  le : n ≤ 1048576
/-- what lies below n₀, and the box Bs, lie as they lay -/
def KeepC (n₀ Bs : Nat) (A B : World) : Prop := ∀ p : Addr, p.block < n₀ ∨ p.block = Bs → B.cell? p = A.cell? p
theorem KeepC.refl (n₀ Bs : Nat) (A : World) : KeepC n₀ Bs A A := fun _ _ => rfl
theorem KeepC.trans {n₀ Bs : Nat} {A B C : World} (h : KeepC n₀ Bs A B) (k : KeepC n₀ Bs B C) : KeepC n₀ Bs A C := fun p hp => (k p hp).trans (h p hp)
theorem KeepC.below {n₀ Bs b : Nat} {A B : World} (h : Below b A B) (h1 : n₀ ≤ b) (h2 : Bs < b) : KeepC n₀ Bs A B := fun p hp => h.cell (by rcases hp with hp | hp <;> omega)
theorem KeepC.b {n₀ Bs : Nat} {w : World} (h1 : n₀ ≤ w.heap.size) (h2 : Bs < w.heap.size) (W : World) (l : Nat) (o o' : Obj) (hl : w.heap.size ≤ l) (_ : W.heap[l]? = some o) (_ : o.isCells = false) (_ : o.isWalk = false) : KeepC n₀ Bs W (W.putObj l o') := fun p hp =>
  World.cell?_of_block (by rw [World.putObj_heap_other (by rcases hp with hp | hp <;> omega)])
theorem CanR.keep {w w' : World} {n₀ Bs g gp n c W H : Nat} {back : Int} {ps : List Pix} (h : CanR w Bs g gp n c W H back ps) (hg : g < n₀) (hgp : gp < n₀) (hk : KeepC n₀ Bs w w') : CanR w' Bs g gp n c W H back ps :=
  ⟨(hk _ (.inr rfl)).trans h.box, (hk _ (.inl hg)).trans h.wid, (hk _ (.inl hg)).trans h.sl, fun k hk' => by
    obtain ⟨h0, h1, h2⟩ := h.cells k hk'
    exact ⟨(hk _ (.inl hgp)).trans h0, (hk _ (.inl hgp)).trans h1, (hk _ (.inl hgp)).trans h2⟩, h.len, h.le⟩
theorem CanS.reads {w : World} {base g gp n c W H Bs : Nat} {back : Int} {ps : List Pix} (h : CanS w base g gp n c W H back ps) (hb : w.cell? ⟨Bs, 0, none⟩ = some (.pointer (some ⟨g, 0, none⟩))) : CanR w Bs g gp n c W H back ps :=
  ⟨hb, h.blk.cell 0, h.blk.cell 3, fun _ hk => own_px_at h.row hk, h.sz.len, h.sz.le⟩

theorem cell_alloc_l {W : World} {a : Addr} {v : Value} (o : Obj) (h : W.cell? a = some v) : (W.alloc o).cell? a = some v := cell_kept h (World.grownBy_alloc W o none) (fun r e => by cases e)
theorem CanR.alloc {w : World} {Bs g gp n c W H : Nat} {back : Int} {ps : List Pix} (h : CanR w Bs g gp n c W H back ps) (o : Obj) : CanR (w.alloc o) Bs g gp n c W H back ps :=
  ⟨cell_alloc_l _ h.box, cell_alloc_l _ h.wid, cell_alloc_l _ h.sl, fun k hk => by
    obtain ⟨h0, h1, h2⟩ := h.cells k hk
    exact ⟨cell_alloc_l _ h0, cell_alloc_l _ h1, cell_alloc_l _ h2⟩, h.len, h.le⟩
theorem CanR.drawn {w w' : World} {Bs g gp n c W H : Nat} {back : Int} {ps : List Pix} (h : CanR w Bs g gp n c W H back ps) (hd : Drawn w w') : CanR w' Bs g gp n c W H back ps := by
  obtain ⟨m, rfl⟩ := hd
  exact ⟨h.box, h.wid, h.sl, h.cells, h.len, h.le⟩
theorem Blk.drawn {w w' : World} {g : Nat} {t : TypeId} {cs : Array Value} (h : Blk w g t cs) (hd : Drawn w w') : Blk w' g t cs := by
  obtain ⟨m, rfl⟩ := hd
  exact h
theorem abides_alloc {β : Type} {B : Nat} {J : β → World → Prop} (hJ : AbidesFrom B J) {s : β} {w : World} (h : J s w) (o : Obj) : J s (w.alloc o) := hJ s _ _ none h (World.grownBy_alloc _ _ none) (fun r e => by cases e)
theorem abides_drawn {β : Type} {B : Nat} {J : β → World → Prop} (hJ : AbidesFrom B J) {s : β} {w w' : World} (h : J s w) (hd : Drawn w w') : J s w' := by
  obtain ⟨m, rfl⟩ := hd
  exact hJ s _ _ none h (only_drewN (World.grownBy.refl _ _) m) (fun r e => by cases e)

def runV (r : Run) : Array Value := #[.agg #[.bool r.1.1, .int .i32 r.1.2.1, .int .u32 r.1.2.2], .int .i64 r.2]

set_option maxRecDepth 100000 in
set_option maxHeartbeats 2000000 in
theorem runs1_in (Wd : World) (m : Nat) (hm : 1 ≤ m) (l Bs n₀ g gp n c W H : Nat) (back : Int) (ps : List Pix) (hn : 1 ≤ n) (hg : g < n₀) (hgp : gp < n₀) (J Jx : List Run → World → Prop)
    (hJ : AbidesFrom Wd.heap.size J)
    (hY : ∀ pre x W1, J pre W1 → pre.length < n → YieldAt Fence.wide (m - 1) Try.prog l (runV x) W1 fun e W' =>
      (e = .returned (.bool true) ∧ J (pre ++ [x]) W' ∧ KeepC n₀ Bs W1 W') ∨ (e = .returned (.bool false) ∧ Jx (pre ++ [x]) W'))
    (hR : CanR Wd Bs g gp n c W H back ps) (h0 : J [] Wd) :
    CallsIn Fence.wide m Try.prog 46 #[.func (.yield l) #[] #[], .pointer (some ⟨Bs, 0, none⟩)] Wd fun e W' => (∃ v, e = .returned v) ∧
      ((∃ ys, ys = runsOf ps n ∧ J ys W') ∨ (∃ pre, True ∧ Jx pre W')) := by
  refine callsIn_of_wp Try.func46 rfl trivial ?_ rfl
  simp only [Try.ntmps46, List.size_toArray, List.length_cons, List.length_nil, Nat.reduceAdd, Nat.reduceSub, Array.replicate_succ, Array.replicate_zero, List.push_toArray, List.append_toArray, List.nil_append, List.cons_append]
  gi_wp2
  gi_loopw [3] (fun i wr => ∃ (k : Nat) (pre : List Run), k ≤ n ∧ i = .int .i64 k ∧ J pre wr ∧ CanR wr Bs g gp n c W H back ps ∧ pre.length ≤ k ∧ ((k < n ∧ cutst ps k = (pre, k)) ∨ (k = n ∧ pre = runsOf ps n))) (fun i _ => n - (intOf i).toNat)
  case atStart => exact ⟨0, [], by omega, rfl, h0, hR, by simp, .inl ⟨by omega, rfl⟩⟩
  case round =>
    obtain ⟨k, pre, hk, rfl, hJk, hRk, hpl, hst⟩ := hrel
    obtain ⟨q0, q1, q2, hcells, hlen, hnle⟩ := hRk
    by_cases hlt : k < n
    · have hst : cutst ps k = (pre, k) := by
        rcases hst with h | h
        · exact h.2
        · omega
      obtain ⟨c0, c1, c2⟩ := hcells k hlt
      gi_wp2
      have hR1 := CanR.alloc (W := W) (H := H) (back := back) ⟨q0, q1, q2, hcells, hlen, hnle⟩ (.cells #[.bool (px ps k).1, .int .i32 (px ps k).2.1, .int .u32 (px ps k).2.2] 82)
      have hJ1 := abides_alloc hJ hJk (.cells #[.bool (px ps k).1, .int .i32 (px ps k).2.1, .int .u32 (px ps k).2.2] 82)
      have kp := Blk.new wr 82 #[.bool (px ps k).1, .int .i32 (px ps k).2.1, .int .u32 (px ps k).2.2]
      clear q0 q1 q2 hcells c0 c1 c2 hJk
      generalize wr.alloc (.cells #[.bool (px ps k).1, .int .i32 (px ps k).2.1, .int .u32 (px ps k).2.2] 82) = w1 at *
      generalize wr.heap.size = pb at *
      gi_loopw [5] (fun x wi => ∃ j : Nat, 1 ≤ j ∧ k + j ≤ n ∧ x = .int .i64 j ∧ cutst ps (k + j - 1) = (pre, k) ∧ Drawn w1 wi) (fun x _ => n - (intOf x).toNat)
      case atStart => exact ⟨1, by omega, by omega, rfl, hst, Drawn.refl _⟩
      case round =>
        obtain ⟨j, hj1, hjn, rfl, hcut, hdr⟩ := hrel
        obtain ⟨q0, q1, q2, hcells, _, _⟩ := hR1.drawn hdr
        obtain ⟨p0, p1, p2⟩ := (kp.drawn hdr).read3
        by_cases hlt2 : k + j < n
        · obtain ⟨c0, c1, c2⟩ := hcells _ hlt2
          have hlt3 : ((k : Int) + (j : Int) < (n : Int)) := by omega
          by_cases hsame : px ps (k + j) = px ps k
          · have hdec := decide_eq_true hsame
            have hnext : cutst ps (k + (j + 1) - 1) = (pre, k) := by
              have h1 := cutst_same (ps := ps) (k := k + j - 1) (by rw [show k + j - 1 + 1 = k + j from by omega, hcut]; exact hsame)
              rw [show k + (j + 1) - 1 = k + j - 1 + 1 from by omega, h1, hcut]
            clear hsame
            gi_wp2
            refine wpIn_region_quiet_lit rfl (by kernel_rfl) (by kernel_rfl) ?_
            repeat (gi_big_quiet_step (fail))
            refine pix_eq_in rfl rfl (px ps (k + j)) (px ps k) rfl rfl ?_
            rw [hdec]
            go_simp
            repeat (gi_big_quiet_step (fail))
            refine wpQuietIn_nil ?_
            intro nq
            gi_wp2
            go_roundw
            case rel => exact ⟨j + 1, by omega, by omega, by go_num, hnext, hdr.more _⟩
            case measure => simp [intOf]; omega
          · have hdec := decide_eq_false hsame
            have hnext : cutst ps (k + j) = (pre ++ [(px ps k, j)], k + j) := by
              have h1 := cutst_cut (ps := ps) (k := k + j - 1) (by rw [show k + j - 1 + 1 = k + j from by omega, hcut]; exact hsame)
              rw [show k + j - 1 + 1 = k + j from by omega, hcut] at h1
              rw [h1]
              simp
            clear hsame
            gi_wp2
            refine wpIn_region_quiet_lit rfl (by kernel_rfl) (by kernel_rfl) ?_
            repeat (gi_big_quiet_step (fail))
            refine pix_eq_in rfl rfl (px ps (k + j)) (px ps k) rfl rfl ?_
            rw [hdec]
            go_simp
            repeat (gi_big_quiet_step (fail))
            refine wpQuietIn_nil ?_
            intro nq
            have hd2 := hdr.more nq
            generalize wr.drewN nq = w2 at *
            obtain ⟨p0, p1, p2⟩ := (kp.drawn hd2).read3
            obtain ⟨fn, tmps, assign, body, hy, hRd⟩ := hY pre (px ps k, j) w2 (abides_drawn hJ hJ1 hd2) (by omega)
            dsimp only [runV] at hy
            gi_wp2
            refine hRd.mono ?_
            rintro e W3 (⟨rfl, hJ3, hk3⟩ | ⟨rfl, hJx3⟩)
            · have hR3 := (hR1.drawn hd2).keep hg hgp hk3
              clear hy hRd
              gi_wp2
              go_roundw
              case rel => exact ⟨k + j, _, by omega, by go_num, hJ3, hR3, by simp; omega, .inl ⟨hlt2, hnext⟩⟩
              case measure => simp [intOf]; omega
            · gi_wp2
              refine bodyPost_ret (results_none rfl _ _ _) rfl ?_
              exact ⟨⟨_, rfl⟩, .inr ⟨_, trivial, hJx3⟩⟩
        · have hkn : k + j = n := by omega
          have hlt3 : decide ((k : Int) + (j : Int) < (n : Int)) = false := by simp; omega
          have hfin : pre ++ [(px ps k, j)] = runsOf ps n := by
            unfold runsOf
            rw [← hkn, hcut]
            simp
          gi_wp2
          gi_quiet (fail)
          have hd2 := hdr.more nq
          generalize wr.drewN nq = w2 at *
          obtain ⟨p0, p1, p2⟩ := (kp.drawn hd2).read3
          obtain ⟨fn, tmps, assign, body, hy, hRd⟩ := hY pre (px ps k, j) w2 (abides_drawn hJ hJ1 hd2) (by omega)
          dsimp only [runV] at hy
          gi_wp2
          refine hRd.mono ?_
          rintro e W3 (⟨rfl, hJ3, hk3⟩ | ⟨rfl, hJx3⟩)
          · have hR3 := (hR1.drawn hd2).keep hg hgp hk3
            clear hy hRd
            gi_wp2
            go_roundw
            case rel => exact ⟨k + j, _, by omega, by go_num, hJ3, hR3, by simp; omega, .inr ⟨hkn, hfin⟩⟩
            case measure => simp [intOf]; omega
          · gi_wp2
            refine bodyPost_ret (results_none rfl _ _ _) rfl ?_
            exact ⟨⟨_, rfl⟩, .inr ⟨_, trivial, hJx3⟩⟩
    · have hkn : k = n := by omega
      have hpre : pre = runsOf ps n := by
        rcases hst with h | h
        · omega
        · exact h.2
      gi_wp2
      go_end0
      exact ⟨⟨_, rfl⟩, .inl ⟨_, rfl, hpre ▸ hJk⟩⟩
end Go.Proofs.Ytfciaefjilobaaa
