/- Walks: the iterator over a canvas's pixels that were drawn: it goes over a copy; what is drawn meanwhile does not show. -/
import Derived.Test.YtfciaefjilobaaaCopyc
import Derived.Test.YtfciaefjilobaaaRangeG
import Derived.Test.YtfciaefjilobaaaRuns
import Derived.Test.YtfciaefjilobaaaRound
namespace Go.Proofs.Ytfciaefjilobaaa
open Go.RowKit Go.Shelf
attribute [local go_sem] Oper.semAt_some

/-- the numbers below k of the pixels that were drawn -/
def drs (ps : List Pix) (k : Nat) : List Nat := (List.range k).filter (fun j => (px ps j).1)
theorem drs_zero (ps : List Pix) : drs ps 0 = [] := rfl
theorem drs_no {ps : List Pix} {k : Nat} (h : (px ps k).1 = false) : drs ps (k + 1) = drs ps k := by
  unfold drs
  rw [List.range_succ, List.filter_append]
  simp [h]
theorem drs_yes {ps : List Pix} {k : Nat} (h : (px ps k).1 = true) : drs ps (k + 1) = drs ps k ++ [k] := by
  unfold drs
  rw [List.range_succ, List.filter_append]
  simp [h]
theorem drs_len_le (ps : List Pix) : ∀ k : Nat, (drs ps k).length ≤ k
  | 0 => by simp [drs]
  | k + 1 => by
    have h := drs_len_le ps k
    rcases hp : (px ps k).1 with _ | _
    · rw [drs_no hp]; omega
    · rw [drs_yes hp, List.length_append]; simp; omega
theorem drs_at {ps : List Pix} {k : Nat} (h : (px ps k).1 = true) : ∀ {n : Nat}, k < n → (drs ps n)[(drs ps k).length]? = some k
  | 0, hn => by omega
  | n + 1, hn => by
    rcases Nat.lt_or_ge k n with h1 | h1
    · have h2 := drs_at h h1
      rcases hp : (px ps n).1 with _ | _
      · rw [drs_no hp]; exact h2
      · have hlt : (drs ps k).length < (drs ps n).length := (List.getElem?_eq_some_iff.1 h2).1
        rw [drs_yes hp, List.getElem?_append_left hlt]; exact h2
    · obtain rfl : k = n := by omega
      rw [drs_yes h, List.getElem?_append_right (Nat.le_refl _), Nat.sub_self]
      rfl
theorem drs_lt {ps : List Pix} {n k : Nat} (h : k ∈ drs ps n) : k < n := by
  unfold drs at h
  rw [List.mem_filter] at h
  exact List.mem_range.1 h.1

/-- whatever lay outside of the blocks of S lies as it lay; the memory has not shrunk -/
structure KeepX (S : Nat → Prop) (A B : World) : Prop where
  cell : ∀ p v, ¬ S p.block → A.cell? p = some v → B.cell? p = some v
  size : A.heap.size ≤ B.heap.size
section
variable {S : Nat → Prop}
theorem KeepX.refl (A : World) : KeepX S A A := ⟨fun _ _ _ h => h, Nat.le_refl _⟩
theorem KeepX.trans {A B C : World} (h : KeepX S A B) (k : KeepX S B C) : KeepX S A C := ⟨fun p v hp hv => k.cell p v hp (h.cell p v hp hv), Nat.le_trans h.size k.size⟩
theorem KeepX.off {A B : World} (h : Off S A B) : KeepX S A B := by
  refine ⟨fun p v hp hv => ?_, h.size⟩
  rcases Nat.lt_or_ge p.block A.heap.size with hlt | hge
  · exact (World.cell?_of_block (h.block _ hlt hp)).trans hv
  · unfold World.cell? at hv
    rw [Array.getElem?_eq_none hge] at hv
    cases hv
theorem KeepX.below {A B : World} (h : Below A.heap.size A B) : KeepX S A B := KeepX.off (Off.of_below S h)
theorem KeepX.put (W : World) {l : Nat} (o o' : Obj) (hl : W.heap[l]? = some o) (ho : o.isCells = false) : KeepX S W (W.putObj l o') := by
  refine ⟨fun p v _ hv => ?_, by rw [World.putObj_size]; exact Nat.le_refl _⟩
  by_cases he : p.block = l
  · unfold World.cell? at hv
    rw [he, hl] at hv
    cases o with
    | cells => cases ho
    | _ => simp at hv
  · exact (World.cell?_of_block (World.putObj_heap_other he)).trans hv
end

theorem abides_below {β : Type} {B : Nat} {J : β → World → Prop} (hJ : AbidesFrom B J) {s : β} {w w' : World} (h : J s w) (hb : Below w.heap.size w w') : J s w' := hJ s _ _ none h (only_of_below hb none) (fun r e => by cases e)
def xyN (x : Nat × Nat) : Array Value := #[.int .i64 x.1, .int .i64 x.2]
/-- what a round is handed: the next one's place -/
def NextXY (ps : List Pix) (n W : Nat) (pre : List (Nat × Nat)) (x : Nat × Nat) (_ : World) : Prop := (drs ps n)[pre.length]? = some (x.2 * W + x.1)

theorem clonep_in (g n c : Nat) (ps : List Pix) (w : World) (m : Nat) (hn : n ≤ 1048576) (hr : Reads w w.heap.size 3 (some ⟨g, 0, none⟩) n (Pixs ps)) :
    CallsIn Fence.wide m Try.prog 32 #[.slice (some ⟨g, 0, none⟩) n c] w fun e w' => ∃ A' c', e = .returned (.slice A' n c') ∧ w'.ownsRow w.heap.size 82 3 (.slice A' n c') n (Pixs ps) ∧ Below w.heap.size w w' := callsIn_wide.2 (clonep_any g n c ps w hn hr)

set_option maxRecDepth 100000 in
set_option maxHeartbeats 2000000 in
theorem drawn1_in (Wd : World) (m : Nat) (hm : 1 ≤ m) (l Bs base g gp n c W H : Nat) (S : Nat → Prop) (back : Int) (ps : List Pix) (hSB : ¬ S Bs) (hSg : ¬ S g) (hlow : ∀ k, S k → k < Wd.heap.size) (J Jx : List (Nat × Nat) → World → Prop)
    (hJ : AbidesFrom Wd.heap.size J)
    (hY : ∀ pre x W1, J pre W1 → NextXY ps n W pre x W1 → YieldAt Fence.wide (m - 1) Try.prog l (xyN x) W1 fun e W' =>
      (e = .returned (.bool true) ∧ J (pre ++ [x]) W' ∧ KeepX S W1 W') ∨ (e = .returned (.bool false) ∧ Jx (pre ++ [x]) W'))
    (hC : CanS Wd base g gp n c W H back ps) (hbox : Wd.cell? ⟨Bs, 0, none⟩ = some (.pointer (some ⟨g, 0, none⟩))) (h0 : J [] Wd) :
    CallsIn Fence.wide m Try.prog 31 #[.func (.yield l) #[] #[], .pointer (some ⟨Bs, 0, none⟩)] Wd fun e W' => (∃ v, e = .returned v) ∧
      ((∃ ys, ys.length = (drs ps n).length ∧ J ys W') ∨ (∃ pre, True ∧ Jx pre W')) := by
  have hW := hC.sz.w1
  have hW2 := hC.sz.w2
  have hle := hC.sz.le
  have q3 := hC.blk.cell 3
  have q0 := hC.blk.cell 0
  simp at q3 q0
  have hBlt : Bs < Wd.heap.size := by
    rcases Nat.lt_or_ge Bs Wd.heap.size with hlt | hge
    · exact hlt
    · unfold World.cell? at hbox
      rw [Array.getElem?_eq_none hge] at hbox
      cases hbox
  refine callsIn_of_wp Try.func31 rfl trivial ?_ rfl
  simp only [Try.ntmps31, List.size_toArray, List.length_cons, List.length_nil, Nat.reduceAdd, Nat.reduceSub, Array.replicate_succ, Array.replicate_zero, List.push_toArray, List.append_toArray, List.nil_append, List.cons_append]
  gi_wp2
  refine ⟨trivial, (clonep_in gp n c ps Wd _ hle (Reads.of_own hC.row)).mono ?_⟩
  rintro e w1 ⟨A', c', rfl, ho, hb1⟩
  have hpos := hC.sz.pos
  obtain ⟨gc, cap, hv, hlt⟩ := ho.form (by omega)
  cases hv
  have hSc : ¬ S gc := fun h => by have := hlow _ h; omega
  have hm1 : 1 ≤ m - 1 ∨ m = 1 := by omega
  gi_wp2
  gi_loopw [13] (fun i wr => ∃ (k : Nat) (pre : List (Nat × Nat)), k ≤ n ∧ i = .int .i64 k ∧ J pre wr ∧ KeepX S Wd wr ∧ KeepX S w1 wr ∧ pre.length = (drs ps k).length) (fun i _ => n - (intOf i).toNat)
  case atStart => exact ⟨0, [], by omega, rfl, abides_below hJ h0 hb1, KeepX.below hb1, KeepX.refl _, rfl⟩
  case round =>
    obtain ⟨k, pre, hk, rfl, hJk, hK0, hK1, hpl⟩ := hrel
    have hbx := hK0.cell ⟨Bs, 0, none⟩ _ hSB hbox
    have hw0 := hK0.cell ⟨g, 0, none⟩ _ hSg q0
    by_cases hlt2 : k < n
    · obtain ⟨c0, c1, c2⟩ := own_px_at ho hlt2
      have d0 := hK1.cell ⟨gc, k * 3, none⟩ _ hSc c0
      have d1 := hK1.cell ⟨gc, k * 3 + 1, none⟩ _ hSc c1
      have d2 := hK1.cell ⟨gc, k * 3 + 2, none⟩ _ hSc c2
      rcases hd : (px ps k).1 with _ | _
      · rw [hd] at d0
        have hnext := drs_no hd
        have hk2 := KeepX.below (S := S) ((Below.refl wr.heap.size wr).alloc (Nat.le_refl _) (.cells #[.bool false, .int .i32 (px ps k).2.1, .int .u32 (px ps k).2.2] 82))
        have hJ2 := abides_alloc hJ hJk (.cells #[.bool false, .int .i32 (px ps k).2.1, .int .u32 (px ps k).2.2] 82)
        have kp := Blk.new wr 82 #[.bool false, .int .i32 (px ps k).2.1, .int .u32 (px ps k).2.2]
        gi_wp2_with fail
        obtain ⟨p0, p1, p2⟩ := kp.read3
        generalize wr.alloc (.cells #[.bool false, .int .i32 (px ps k).2.1, .int .u32 (px ps k).2.2] 82) = w2 at *
        refine wpIn_wide_tail 16 (by kernel_rfl) (by kernel_rfl) (by kernel_rfl) (still_of_quiet ?_)
        simp only [List.take_succ_cons, List.take_zero, List.drop_succ_cons, List.drop_zero]
        repeat (go_big_quiet_step (fail))
        refine wpQuiet_nil ?_
        gi_wp2_with fail
        refine ⟨fun _ h => (by cases h), ?_⟩
        gi_wp2_with fail
        (try refine ⟨fun _ h => (by cases h), ?_⟩)
        gi_wp2_with fail
        go_roundw
        case rel => exact ⟨k + 1, pre, by omega, by go_num, abides_drawn hJ hJ2 (Drawn.mk w2 1), hK0.trans (hk2.trans (KeepX.below ((Below.refl _ _).drew))), hK1.trans (hk2.trans (KeepX.below ((Below.refl _ _).drew))), by rw [hnext]; exact hpl⟩
        case measure => simp [intOf]; omega
      · rw [hd] at d0
        have hnext := drs_yes hd
        have hk2 := KeepX.below (S := S) ((Below.refl wr.heap.size wr).alloc (Nat.le_refl _) (.cells #[.bool true, .int .i32 (px ps k).2.1, .int .u32 (px ps k).2.2] 82))
        have hJ2 := abides_alloc hJ hJk (.cells #[.bool true, .int .i32 (px ps k).2.1, .int .u32 (px ps k).2.2] 82)
        have kp := Blk.new wr 82 #[.bool true, .int .i32 (px ps k).2.1, .int .u32 (px ps k).2.2]
        have hw2 := fun o => cell_alloc_l o hw0
        have hbx2 := fun o => cell_alloc_l o hbx
        gi_wp2_with fail
        obtain ⟨p0, p1, p2⟩ := kp.read3
        have hw3 := hk2.cell ⟨g, 0, none⟩ _ hSg hw0
        have hbx3 := hk2.cell ⟨Bs, 0, none⟩ _ hSB hbx
        clear hw2 hbx2
        generalize wr.alloc (.cells #[.bool true, .int .i32 (px ps k).2.1, .int .u32 (px ps k).2.2] 82) = w2 at *
        refine wpIn_wide_tail 16 (by kernel_rfl) (by kernel_rfl) (by kernel_rfl) (still_of_quiet ?_)
        simp only [List.take_succ_cons, List.take_zero, List.drop_succ_cons, List.drop_zero]
        repeat (go_big_quiet_step (fail))
        refine wpQuiet_nil ?_
        obtain ⟨xm, hxm⟩ : ∃ xm, k % W = xm := ⟨_, rfl⟩
        obtain ⟨xd, hxd⟩ : ∃ xd, k / W = xd := ⟨_, rfl⟩
        have e1 : (k : Int) % (W : Int) = (xm : Int) := by rw [← hxm]; simp
        have e2 : wrap64 ((k : Int) / (W : Int)) = (xd : Int) := by
          have h1 : xd ≤ k := by rw [← hxd]; exact Nat.div_le_self _ _
          have h2 : (k : Int) / (W : Int) = (xd : Int) := by rw [← hxd]; simp
          rw [h2]
          unfold wrap64
          omega
        rw [e1, e2]
        have hG : NextXY ps n W pre (xm, xd) w2.drew := by
          unfold NextXY
          rw [hpl]
          show (drs ps n)[(drs ps k).length]? = some (xd * W + xm)
          rw [← hxm, ← hxd, Nat.div_add_mod' k W]
          exact drs_at hd hlt2
        obtain ⟨fn, tmps, assign, body, hy, hRd⟩ := hY pre (xm, xd) w2.drew (abides_drawn hJ hJ2 (Drawn.mk w2 1)) hG
        dsimp only [xyN] at hy
        clear e1 e2 hG hxm hxd
        gi_wp2_with fail
        refine hRd.mono ?_
        rintro e W3 (⟨rfl, hJ3, hk3⟩ | ⟨rfl, hJx3⟩)
        · clear hy hRd
          have hk4 : KeepX S wr W3 := (hk2.trans (KeepX.below ((Below.refl _ _).drew))).trans hk3
          gi_wp2_with fail
          go_roundw
          case rel => exact ⟨k + 1, _, by omega, by go_num, hJ3, hK0.trans hk4, hK1.trans hk4, by rw [hnext, List.length_append, List.length_append, hpl]; rfl⟩
          case measure => simp [intOf]; omega
        · gi_wp2_with fail
          refine bodyPost_ret (results_none rfl _ _ _) rfl ?_
          exact ⟨⟨_, rfl⟩, .inr ⟨_, trivial, hJx3⟩⟩
    · have hkn : k = n := by omega
      subst hkn
      gi_wp2
      go_end0
      exact ⟨⟨_, rfl⟩, .inl ⟨pre, hpl, hJk⟩⟩
theorem drawn1_stops (m : Nat) (hm : 1 ≤ m) (Bs base g gp n c W H : Nat) (S : Nat → Prop) (back : Int) (ps : List Pix) (w : World) (hSB : ¬ S Bs) (hSg : ¬ S g) (hlow : ∀ k, S k → k < w.heap.size) (hBs : Bs < w.heap.size)
    (hC : CanS w base g gp n c W H back ps) (hbox : w.cell? ⟨Bs, 0, none⟩ = some (.pointer (some ⟨g, 0, none⟩))) :
    SeqG Fence.wide m Try.prog 31 #[.pointer (some ⟨Bs, 0, none⟩)] xyN (NextXY ps n W) (KeepX S) (fun ys => ys.length = (drs ps n).length) (fun _ => True) w := fun l J Jx Wd hWd hJ hY h0 =>
  drawn1_in Wd m hm l Bs base g gp n c W H S back ps hSB hSg (fun k hk => Nat.lt_of_lt_of_le (hlow k hk) hWd.size) J Jx hJ hY (hC.below hWd) ((hWd.cell hBs).trans hbox) h0
end Go.Proofs.Ytfciaefjilobaaa
