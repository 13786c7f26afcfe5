/- The walk of CanvasNil: a canvas that is none. -/
import Derived.Test.YtfciaefjilobaaaAparts
import Derived.Test.YtfciaefjilobaaaBytesc
namespace Go.Proofs.Ytfciaefjilobaaa
open Go.RowKit Go.Shelf
attribute [local go_sem] Oper.semAt_some

theorem size_nil (w : World) : Calls Try.prog 24 #[.pointer none] w fun e w' => e = .returned (.tuple #[.int .i64 0, .int .i64 0]) ∧ w' = w := by
  go_enter Try.func24, Try.ntmps24
  go_wp2
  go_ret2
  exact ⟨rfl, rfl⟩
theorem find_nil (x y : Int) (w : World) : Calls Try.prog 33 #[.pointer none, .int .i64 x, .int .i64 y] w fun e w' => e = .returned (.tuple #[.int .i64 0, .int .i64 1]) ∧ w' = w := by
  go_enter Try.func33, Try.ntmps33
  go_wp2
  go_ret2
  exact ⟨rfl, rfl⟩
theorem plot_nil (x y d c : Int) (w : World) : Calls Try.prog 15 #[.pointer none, .int .i64 x, .int .i64 y, .int .i32 d, .int .u32 c] w fun e w' => e = .returned (.tuple #[.bool false, .int .i64 1]) ∧ w' = w := by
  go_enter Try.func15, Try.ntmps15
  go_wp2_with fail
  refine (find_nil x y w).mono ?_
  rintro e w1 ⟨rfl, rfl⟩
  go_wp2
  go_ret2
  exact ⟨rfl, rfl⟩
theorem at_nil (x y : Int) (w : World) : Calls Try.prog 20 #[.pointer none, .int .i64 x, .int .i64 y] w fun e w' => e = .returned (.tuple #[.int .u32 0, .int .i32 0, .bool false, .int .i64 1]) ∧ w' = w := by
  go_enter Try.func20, Try.ntmps20
  go_wp2_with fail
  refine (find_nil x y w).mono ?_
  rintro e w1 ⟨rfl, rfl⟩
  go_wp2
  (try simp only [Exit.inBlock, Exit.then]); refine bodyPost_ret (results_tmp4 rfl _ _ _) rfl ?_
  exact ⟨rfl, rfl⟩
theorem copy_nil (w : World) : Calls Try.prog 23 #[.pointer none] w fun e w' => e = .returned (.pointer none) ∧ w' = w := by
  go_enter Try.func23, Try.ntmps23
  go_wp2
  go_ret
  exact ⟨rfl, rfl⟩
theorem cbytes_nil (w : World) : Calls Try.prog 16 #[.pointer none] w fun e w' => e = .returned (.slice none 0 0) ∧ w' = w := by
  go_enter Try.func16, Try.ntmps16
  go_wp2
  go_ret
  exact ⟨rfl, rfl⟩
theorem drawnf_any (p : Option Addr) (w : World) : Calls Try.prog 14 #[.pointer p] w fun e w' => e = .returned (.func (.func 31) #[] #[.pointer (some ⟨w.heap.size, 0, none⟩)]) ∧ w' = w.alloc (.cells #[.pointer p] 28) := by
  go_enter Try.func14, Try.ntmps14
  go_wp2
  go_ret
  exact ⟨rfl, rfl⟩
def xyV (x : Int × Int) : Array Value := #[.int .i64 x.1, .int .i64 x.2]
set_option maxHeartbeats 1000000 in
theorem drawnf_nil (m : Nat) (Bs : Nat) (w : World) (hBs : Bs < w.heap.size) (hc : w.cell? ⟨Bs, 0, none⟩ = some (.pointer none)) :
    SeqStopsK Fence.wide m Try.prog 31 #[.pointer (some ⟨Bs, 0, none⟩)] xyV (fun _ _ => True) (fun ys => ys = []) (fun _ => False) 0 w := fun l J Jx W hW hJ _ hY h0 => by
  have hc' := (hW.cell (p := ⟨Bs, 0, none⟩) hBs).trans hc
  refine callsIn_of_wp Try.func31 rfl trivial ?_ rfl
  simp only [Try.ntmps31, List.size_toArray, List.length_cons, List.length_nil, Nat.reduceAdd, Nat.reduceSub, Array.replicate_succ, Array.replicate_zero, List.push_toArray, List.append_toArray, List.nil_append, List.cons_append]
  gi_wp2
  refine bodyPost_ret (results_none rfl _ _ _) rfl ?_
  exact ⟨⟨_, rfl⟩, h0⟩

theorem func_not_nil (lb : Array Value) (w : World) : (binOp .eql 41 (.func (.func 31) #[] lb) .nilFunc).run Try.prog w = .ok (.bool false) w := by kernel_rfl
set_option maxRecDepth 100000 in
set_option maxHeartbeats 2000000 in
theorem law_nil_in (x y d : Int) (w : World) :
    CallsIn Fence.wide 9 Try.prog 8 #[.int .i64 x, .int .i64 y, .int .i32 d] w fun e w' => e = .returned (.bool true) ∧ Below w.heap.size w w' := by
  refine callsIn_of_wp_marks Try.func8 rfl trivial ?_ rfl
  simp only [Try.ntmps8, List.size_toArray, List.length_cons, List.length_nil, Nat.reduceAdd, Nat.reduceSub, Array.replicate_succ, Array.replicate_zero, List.push_toArray, List.append_toArray, List.nil_append, List.cons_append]
  gi_wp2
  refine ⟨trivial, (callsIn_wide.2 (size_nil _)).mono ?_⟩
  rintro e w' ⟨rfl, rfl⟩
  gi_wp2
  refine ⟨trivial, (callsIn_wide.2 (plot_nil x y d 5 _)).mono ?_⟩
  rintro e w' ⟨rfl, rfl⟩
  gi_wp2
  refine ⟨trivial, (callsIn_wide.2 (at_nil x y _)).mono ?_⟩
  rintro e w' ⟨rfl, rfl⟩
  gi_wp2
  refine ⟨trivial, (callsIn_wide.2 (drawnf_any none _)).mono ?_⟩
  rintro e w2 ⟨rfl, rfl⟩
  have hfn := func_not_nil
  have hb1 := ((Below.refl w'.heap.size w').alloc (Nat.le_refl _) (.cells #[.int .i64 0] 3)).alloc (by simp) (.cells #[.pointer none] 28)
  have kn : Boxed ((w'.alloc (.cells #[.int .i64 0] 3)).alloc (.cells #[.pointer none] 28)) w'.heap.size 3 (.int .i64 0) := (Boxed.new w' 3 (.int .i64 0)).alloc _
  have kb := (Boxed.new (w'.alloc (.cells #[.int .i64 0] 3)) 28 (.pointer none)).cell
  rw [World.size_alloc] at kb
  have hsz : ((w'.alloc (.cells #[.int .i64 0] 3)).alloc (.cells #[.pointer none] 28)).heap.size = w'.heap.size + 2 := by simp
  gi_wp2
  generalize (w'.alloc (.cells #[.int .i64 0] 3)).alloc (.cells #[.pointer none] 28) = w2 at *
  refine wpIn_rangeFunc_ownH rfl (by omega) (gf := 31) (lb := #[.pointer (some ⟨w'.heap.size + 1, 0, none⟩)]) rfl trivial (enters_of Try.func31 (by kernel_rfl) rfl)
    (drawnf_nil _ (w'.heap.size + 1) w2 (by omega) kb) (fun _ _ => trivial) (fun _ _ _ _ _ _ _ _ => trivial) (Below.refl _ _) (fun _ => rfl)
    (fun _ W => Boxed W w'.heap.size 3 (.int .i64 0) ∧ Below w'.heap.size w' W) (fun _ _ _ => False)
    (OwnFrom.and (Own.from (boxed_own w'.heap.size 3 (fun _ => .int .i64 0)) _) (ownFrom_below (Nat.le_refl _) (by omega)))
    (fun _ _ _ _ _ hs _ _ => hs) ⟨kn, hb1⟩ (fun _ _ _ => True) (fun _ _ _ _ _ _ hs _ _ => hs) ?assign ?body ?done ?stop
  case assign =>
    rintro l pre x W K hI hK
    dsimp only [xyV]
    gi_wp2
    exact hK _ _ (KeepsFrom.refl _ _) trivial hI trivial
  case body =>
    rintro l pre x a' W _ _ _ _ hlt
    omega
  case done =>
    rintro D ys W hD rfl ⟨hk, hB⟩ hK
    have hc := hk.cell
    gi_wp2
    refine ⟨trivial, (callsIn_wide.2 (apart_nil none none (.inl rfl) _)).mono ?_⟩
    rintro e w5 ⟨rfl, rfl⟩
    gi_wp2
    refine ⟨trivial, (callsIn_wide.2 (cbytes_nil _)).mono ?_⟩
    rintro e w5 ⟨rfl, rfl⟩
    gi_wp2
    refine ⟨trivial, (callsIn_wide.2 (copy_nil _)).mono ?_⟩
    rintro e w5 ⟨rfl, rfl⟩
    gi_wp2
    refine ⟨by simp, .inl ⟨_, _, rfl, run_takeDeferred hK, ?_⟩⟩
    exact ⟨_, results_tmp rfl _ _ _, rfl, hB.trans (belowK_b (w := w') (Nat.le_refl _) _ D _ _ (by omega) hK rfl rfl)⟩
  case stop =>
    rintro D c pre W _ _ h _
    exact h.elim
theorem law_nil (x y d : Int) (w : World) (_ : -9223372036854775808 ≤ x) (_ : x ≤ 9223372036854775807) (_ : -9223372036854775808 ≤ y) (_ : y ≤ 9223372036854775807) (_ : -2147483648 ≤ d) (_ : d ≤ 2147483647) :
    Calls Try.prog 8 #[.int .i64 x, .int .i64 y, .int .i32 d] w fun e w' => e = .returned (.bool true) ∧ Below w.heap.size w w' := callsIn_wide.1 (law_nil_in x y d w)
end Go.Proofs.Ytfciaefjilobaaa
