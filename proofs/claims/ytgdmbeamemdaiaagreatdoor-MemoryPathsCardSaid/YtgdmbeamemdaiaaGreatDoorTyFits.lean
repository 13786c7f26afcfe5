/- Walks: value.asked, value.Leaves, value.Fits. -/
import Derived.Deep.RegionHeld3
import Derived.Test.YtgdmbeamemdaiaaGreatDoorTyLeaves
import Derived.Test.YtgdmbeamemdaiaaGreatDoorTL
namespace Go.Proofs.YtgdmbeamemdaiaaGreatDoor
open Go.RowKit Go.Shelf
attribute [local go_sem] Oper.semAt_some

def askE (T : Int → TyI) (ty : Int) : Int := if 0 < (T ty).size then 0 else 100
set_option maxRecDepth 100000 in
theorem asked_any (gt : Nat) (T : Int → TyI) (S : Int → SlI) (ty : Int) (w : World) (h : TabW w (some ⟨gt, 0, none⟩) T S) :
    Calls Tryz.prog 81 #[.pointer (some ⟨gt, 0, none⟩), .int .u32 ty] w fun e w' => e = .returned (.int .i64 (askE T ty)) ∧ Below w.heap.size w w' := by
  have hpl := plainM_any _ _ _ ty w h.tab
  by_cases hp : 0 < (T ty).size
  · have hv : askE T ty = 0 := if_pos hp
    have dp : decide (0 < (T ty).size) = true := by rw [decide_eq_true_eq]; exact hp
    rw [hv]
    rw [dp] at hpl
    clear hv h hp dp
    go_enter Tryz.func81, Tryz.ntmps81
    go_wp2_with fail
    refine hpl.mono ?_
    rintro e w1 ⟨rfl, hb1⟩
    go_wp2_with fail
    go_ret
    exact ⟨rfl, hb1⟩
  · have hv : askE T ty = 100 := if_neg hp
    have dp : decide (0 < (T ty).size) = false := by rw [decide_eq_false_iff_not]; exact hp
    rw [hv]
    rw [dp] at hpl
    clear hv h hp dp
    go_enter Tryz.func81, Tryz.ntmps81
    go_wp2_with fail
    refine hpl.mono ?_
    rintro e w1 ⟨rfl, hb1⟩
    go_wp2_with fail
    go_ret
    exact ⟨rfl, hb1⟩
theorem leaves_box (m : Nat) (v : Value) (p : Option Addr) (hv : v = .pointer p) (ty : Int) (w : World) :
    CallsIn Fence.wide m Tryz.prog 131 #[v, .int .u32 ty] w fun e w' => e = .returned (.func (.func 148) #[] #[.pointer (some ⟨w.heap.size, 0, none⟩), .pointer (some ⟨w.heap.size + 1, 0, none⟩)]) ∧ w' = (w.alloc (.cells #[v] 26)).alloc (.cells #[.int .u32 ty] 22) := by
  subst hv
  refine callsIn_of_wp Tryz.func131 rfl trivial ?_ rfl
  simp only [Tryz.ntmps131, List.size_toArray, List.length_cons, List.length_nil, Nat.reduceAdd, Nat.reduceSub, Array.replicate_succ, Array.replicate_zero, List.push_toArray, List.append_toArray, List.nil_append, List.cons_append]
  gi_wp2
  go_ret
  exact ⟨rfl, rfl⟩
theorem yield_any {P : Program} {n n' l : Nat} {args : Array Value} {w : World} {R : Ending → World → Prop} (h : YieldAt Fence.wide n P l args w R) : YieldAt Fence.wide n' P l args w R := by
  obtain ⟨fn, tmps, assign, body, h1, h2⟩ := h
  exact ⟨fn, tmps, assign, body, h1, round_any h2⟩

set_option maxRecDepth 100000 in
set_option maxHeartbeats 2000000 in
theorem leaves1_in (gt : Nat) (T : Int → TyI) (S : Int → SlI) (hY : Typed T) (w0 : World) (hT0 : TabW w0 (some ⟨gt, 0, none⟩) T S) (ty : Int) (hp : 0 < (T ty).size) (Bt By : Nat) (hBt : Bt < w0.heap.size) (hBy : By < w0.heap.size)
    (ct : w0.cell? ⟨Bt, 0, none⟩ = some (.pointer (some ⟨gt, 0, none⟩))) (cy : w0.cell? ⟨By, 0, none⟩ = some (.int .u32 ty)) (l : Nat) (J Jx : List LfI → World → Prop) (Wd : World) (hW : Below w0.heap.size w0 Wd) (hJ : AbidesFrom Wd.heap.size J)
    (hYd : ∀ pre x W1, J pre W1 → NextF (leafL T 19 ty) pre x W1 → YieldAt Fence.wide 0 Tryz.prog l (lfA x) W1 fun e W' =>
      (e = .returned (.bool true) ∧ J (pre ++ [x]) W' ∧ Below w0.heap.size W1 W') ∨ (e = .returned (.bool false) ∧ Jx (pre ++ [x]) W')) (h0 : J [] Wd) :
    CallsIn Fence.wide 9 Tryz.prog 148 #[.func (.yield l) #[] #[], .pointer (some ⟨Bt, 0, none⟩), .pointer (some ⟨By, 0, none⟩)] Wd fun e W' => (∃ v, e = .returned v) ∧
      ((∃ ys, ys.map (·.2) = leafL T 19 ty ∧ J ys W') ∨ (∃ pre, True ∧ Jx pre W')) := by
  have hsz := (hY.size ty).2.2
  have hrk := (rankT_bd hY ty).2
  have hll := leafL_len hY 19 ty hp (by omega)
  have hrec := fun (W1 : World) (hb : Below w0.heap.size w0 W1) (hJ1 : J [] W1) => callsIn_wide.1 (leaves_in gt T S hY w0 hT0 (leafL T 19 ty) (by omega) l Wd.heap.size J Jx hJ hYd 19 ty [] W1 hp (by omega) hb hJ1 ⟨[], by simp⟩)
  have hask := fun (w' : World) (h : TabW w' (some ⟨gt, 0, none⟩) T S) => asked_any gt T S ty w' h
  have ea : askE T ty = 0 := if_pos hp
  rw [ea] at hask
  have c0 := (hW.cell (p := ⟨Bt, 0, none⟩) hBt).trans ct
  have c1 := (hW.cell (p := ⟨By, 0, none⟩) hBy).trans cy
  have HT := Lib.hid hT0
  have HR := Lib.hid hrec
  have HJ := Lib.hid hJ
  have HCT := Lib.hid ct
  have HCY := Lib.hid cy
  clear hYd hrec hll hsz hrk hp ea hT0 hJ hY ct cy
  refine callsIn_of_wp Tryz.func148 rfl trivial ?_ rfl
  simp only [Tryz.ntmps148, List.size_toArray, List.length_cons, List.length_nil, Nat.reduceAdd, Nat.reduceSub, Array.replicate_succ, Array.replicate_zero, List.push_toArray, List.append_toArray, List.nil_append, List.cons_append]
  gi_wp2_with fail
  refine ⟨trivial, (callsIn_wide.2 (hask Wd (HT.out.step hW))).mono ?_⟩
  rintro e W1 ⟨rfl, hb1⟩
  have hJ1 := abides_below_ HJ.out h0 hb1
  have hb2 := hW.trans (hb1.mono (show w0.heap.size ≤ Wd.heap.size from hW.size))
  have c0 := (hb2.cell (p := ⟨Bt, 0, none⟩) hBt).trans HCT.out
  have c1 := (hb2.cell (p := ⟨By, 0, none⟩) hBy).trans HCY.out
  have hrc := HR.out W1 hb2 hJ1
  unfold LvIs at hrc
  simp only [List.length_nil] at hrc
  clear hask
  gi_wp2_with fail
  refine ⟨trivial, (callsIn_wide.2 hrc).mono ?_⟩
  rintro e W3 (⟨rfl, ⟨ys, hy, hJy⟩, hb3⟩ | ⟨a, rfl, p2, hJx⟩)
  · clear hrc
    gi_wp2_with fail
    go_end0
    exact ⟨⟨_, rfl⟩, .inl ⟨ys, hy, by simpa using hJy⟩⟩
  · clear hrc
    gi_wp2_with fail
    go_end0
    exact ⟨⟨_, rfl⟩, .inr ⟨p2, trivial, hJx⟩⟩
theorem leaves1_stops (gt : Nat) (T : Int → TyI) (S : Int → SlI) (hY : Typed T) (w : World) (hT : TabW w (some ⟨gt, 0, none⟩) T S) (ty : Int) (hp : 0 < (T ty).size) (Bt By : Nat) (hBt : Bt < w.heap.size) (hBy : By < w.heap.size)
    (ct : w.cell? ⟨Bt, 0, none⟩ = some (.pointer (some ⟨gt, 0, none⟩))) (cy : w.cell? ⟨By, 0, none⟩ = some (.int .u32 ty)) :
    SeqG Fence.wide 8 Tryz.prog 148 #[.pointer (some ⟨Bt, 0, none⟩), .pointer (some ⟨By, 0, none⟩)] lfA (NextF (leafL T 19 ty)) (Below w.heap.size) (fun ys => ys.map (·.2) = leafL T 19 ty) (fun _ => True) w := fun l J Jx Wd hWd hJ hYd h0 =>
  callsIn_wide.2 (callsIn_wide.1 (leaves1_in gt T S hY w hT ty hp Bt By hBt hBy ct cy l J Jx Wd hWd hJ (fun pre x W1 h1 h2 => yield_any (hYd pre x W1 h1 h2)) h0))
end Go.Proofs.YtgdmbeamemdaiaaGreatDoor
