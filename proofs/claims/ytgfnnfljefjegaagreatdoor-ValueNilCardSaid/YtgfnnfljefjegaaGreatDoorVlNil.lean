/- Walks: the law of ValueNil: no table. -/
import Derived.Test.YtgfnnfljefjegaaGreatDoorCVH
namespace Go.Proofs.YtgfnnfljefjegaaGreatDoor
open Go.RowKit Go.Shelf
attribute [local go_sem] Oper.semAt_some

set_option maxRecDepth 100000 in
set_option maxHeartbeats 1000000 in
theorem leaves0_stops (p : Option Addr) (ty E : Int) (hE : E ≠ 0) (w : World) (hA : AskC p ty E w) (Bt By : Nat) (hBt : Bt < w.heap.size) (hBy : By < w.heap.size) (ct : w.cell? ⟨Bt, 0, none⟩ = some (.pointer p)) (cy : w.cell? ⟨By, 0, none⟩ = some (.int .u32 ty)) :
    SeqG Fence.wide 8 Tryz.prog 37 #[.pointer (some ⟨Bt, 0, none⟩), .pointer (some ⟨By, 0, none⟩)] lfA (NextF []) (Below w.heap.size) (fun ys => ys = []) (fun _ => False) w := fun l J Jx Wd hWd hJ hYd h0 => by
  have c0 := (hWd.cell (p := ⟨Bt, 0, none⟩) hBt).trans ct
  have c1 := (hWd.cell (p := ⟨By, 0, none⟩) hBy).trans cy
  have hask := hA Wd hWd
  have d0 : (E == 0) = false := by simpa using hE
  have HJ := Lib.hid hJ
  clear hJ hYd ct cy hA hE
  refine callsIn_of_wp Tryz.func37 rfl trivial ?_ rfl
  simp only [Tryz.ntmps37, List.size_toArray, List.length_cons, List.length_nil, Nat.reduceAdd, Nat.reduceSub, Array.replicate_succ, Array.replicate_zero, List.push_toArray, List.append_toArray, List.nil_append, List.cons_append]
  gi_wp2_with fail
  refine ⟨trivial, (callsIn_wide.2 hask).mono ?_⟩
  rintro e W1 ⟨rfl, hb1⟩
  have hJ1 := abides_below_ HJ.out h0 hb1
  clear hask
  gi_wp2_with fail
  go_end0
  exact ⟨⟨_, rfl⟩, .inl ⟨[], rfl, hJ1⟩⟩
theorem leaves_not_nil (lb : Array Value) (w : World) : (binOp .eql 53 (.func (.func 37) #[] lb) .nilFunc).run Tryz.prog w = .ok (.bool false) w := by kernel_rfl
set_option maxRecDepth 100000 in
set_option maxHeartbeats 4000000 in
theorem law_vnil_in (ty : Int) (A1 : Option Addr) (n1 c1 : Nat) (l1 : List Int) (A2 : Option Addr) (n2 c2 : Nat) (l2 : List Int) (str : ByteArray) (w : World) (hP : Pow w) (hE : Errs w) (hn1 : n1 ≤ 35184372087808) (hr1 : Reads w w.heap.size 1 A1 n1 (Ints .u32 l1)) (hn2 : n2 ≤ 35184372087808) (hr2 : Reads w w.heap.size 1 A2 n2 (Ints .u32 l2)) :
    CallsIn Fence.wide 9 Tryz.prog 6 #[.int .u32 ty, .slice A1 n1 c1, .slice A2 n2 c2, .string str] w (BoolIs true w) := by
  have hcw := fun (w' : World) (h : Below w.heap.size w w') => copyWords A1 n1 c1 l1 w' hn1 (rd_on hr1 h)
  have hcp := fun (w' : World) (h : Below w.heap.size w w') => copyWords A2 n2 c2 l2 w' hn2 (rd_on hr2 h)
  have HW := Lib.hid (And.intro hP hE)
  have hfn := leaves_not_nil
  clear hr1 hr2 hP hE
  refine callsIn_of_wp_marks Tryz.func6 rfl trivial ?_ rfl
  simp only [Tryz.ntmps6, List.size_toArray, List.length_cons, List.length_nil, Nat.reduceAdd, Nat.reduceSub, Array.replicate_succ, Array.replicate_zero, List.push_toArray, List.append_toArray, List.nil_append, List.cons_append]
  gi_wp2_with fail
  refine ⟨trivial, (callsIn_wide.2 (zero_out none ty 1 w (ask_nil ty w) (by decide))).mono ?_⟩
  rintro e wa ⟨rfl, hba⟩
  gi_wp2_with fail
  refine ⟨trivial, (callsIn_wide.2 (hcw wa hba)).mono ?_⟩
  rintro e wb ⟨gb, rfl, -, hbb⟩
  have B2 := below_cut hba hbb (Nat.le_refl _)
  gi_wp2_with fail
  refine ⟨trivial, (callsIn_wide.2 (hcp wb B2)).mono ?_⟩
  rintro e wc ⟨gc, rfl, -, hbc⟩
  have B3 := below_cut B2 hbc (Nat.le_refl _)
  gi_wp2_with fail
  refine ⟨trivial, (callsIn_wide.2 (get_out none ty 1 (some ⟨gb, 0, none⟩) n1 n1 _ wc (given_out none ty 1 _ _ _ wc (ask_nil ty wc) (by decide)) (by decide))).mono ?_⟩
  rintro e wd ⟨rfl, hbd⟩
  have B4 := below_cut B3 hbd (Nat.le_refl _)
  gi_wp2_with fail
  refine ⟨trivial, (callsIn_wide.2 (hcw wd B4)).mono ?_⟩
  rintro e we ⟨ge, rfl, -, hbe⟩
  have B5 := below_cut B4 hbe (Nat.le_refl _)
  gi_wp2_with fail
  refine ⟨trivial, (callsIn_wide.2 (hcp we B5)).mono ?_⟩
  rintro e wf ⟨gf, rfl, -, hbf⟩
  have B6 := below_cut B5 hbf (Nat.le_refl _)
  gi_wp2_with fail
  refine ⟨trivial, (callsIn_wide.2 (hcw wf B6)).mono ?_⟩
  rintro e wg ⟨gg, rfl, -, hbg⟩
  have B7 := below_cut B6 hbg (Nat.le_refl _)
  gi_wp2_with fail
  refine ⟨trivial, (callsIn_wide.2 (put_out none ty 1 (some ⟨ge, 0, none⟩) n1 n1 _ _ wg (given_out none ty 1 _ _ _ wg (ask_nil ty wg) (by decide)) (by decide))).mono ?_⟩
  rintro e wh ⟨rfl, hbh⟩
  have B8 := below_cut B7 hbh (Nat.le_refl _)
  gi_wp2_with fail
  refine ⟨trivial, (callsIn_wide.2 (hcw wh B8)).mono ?_⟩
  rintro e wi ⟨gi, rfl, -, hbi⟩
  have B9 := below_cut B8 hbi (Nat.le_refl _)
  gi_wp2_with fail
  refine ⟨trivial, (callsIn_wide.2 (text_out none ty 1 (some ⟨gi, 0, none⟩) n1 n1 wi (given_out none ty 1 _ _ _ wi (ask_nil ty wi) (by decide)) (by decide))).mono ?_⟩
  rintro e wj ⟨rfl, hbj⟩
  have B10 := below_cut B9 hbj (Nat.le_refl _)
  clear B2 B3 B4 B5 B6 B7 B8 B9 hba hbb hbc hbd hbe hbf hbg hbh hbi hbj
  gi_wp2_with fail
  refine ⟨trivial, (callsIn_wide.2 (parse_out none ty 1 str wj (ask_nil ty wj) (by decide))).mono ?_⟩
  rintro e wk ⟨rfl, hbk⟩
  have B11 := below_cut B10 hbk (Nat.le_refl _)
  have kS := (Blk.new wk 29 #[.int .i64 1, .int .i64 0]).alloc (.cells #[.int .i64 0] 3)
  have kN := Blk.new (wk.alloc (.cells #[.int .i64 1, .int .i64 0] 29)) 3 #[.int .i64 0]
  have hb12 := ((Below.refl wk.heap.size wk).alloc (Nat.le_refl _) (.cells #[.int .i64 1, .int .i64 0] 29)).alloc (by simp) (.cells #[.int .i64 0] 3)
  rw [World.size_alloc] at kN
  have hsz : ((wk.alloc (.cells #[.int .i64 1, .int .i64 0] 29)).alloc (.cells #[.int .i64 0] 3)).heap.size = wk.heap.size + 2 := by simp
  gi_wp2_with fail
  generalize (wk.alloc (.cells #[.int .i64 1, .int .i64 0] 29)).alloc (.cells #[.int .i64 0] 3) = W at *
  have HSZ := Lib.hid hsz
  clear hsz
  refine ⟨trivial, (leaves_box _ (.pointer none) _ rfl ty W).mono ?_⟩
  rintro e w3 ⟨rfl, rfl⟩
  have hbX := ((Below.refl W.heap.size W).alloc (Nat.le_refl _) (.cells #[.pointer none] 26)).alloc (by simp) (.cells #[.int .u32 ty] 22)
  have kt := (Blk.new W 26 #[.pointer none]).alloc (.cells #[.int .u32 ty] 22)
  have ky := Blk.new (W.alloc (.cells #[.pointer none] 26)) 22 #[.int .u32 ty]
  rw [World.size_alloc] at ky
  have hs5 : ((W.alloc (.cells #[.pointer none] 26)).alloc (.cells #[.int .u32 ty] 22)).heap.size = W.heap.size + 2 := by simp
  have kS4 := kS.step hbX
  have kN4 := kN.step hbX
  have B13 := below_cut (below_cut B11 hb12 (Nat.le_refl _)) hbX (Nat.le_refl _)
  have hs0 := (below_cut B11 hb12 (Nat.le_refl _)).size
  clear kS kN hbX hb12 B11 B10 hbk
  gi_wp2_with fail
  generalize (W.alloc (.cells #[.pointer none] 26)).alloc (.cells #[.int .u32 ty] 22) = W4 at *
  have ct := kt.cell 0
  have cy := ky.cell 0
  simp at ct cy
  have hstop := leaves0_stops none ty 1 (by decide) W4 (ask_nil ty W4) W.heap.size (W.heap.size + 1) (by omega) (by omega) ct cy
  refine wpIn_range_w rfl (by omega) (gf := 37) (lb := #[.pointer (some ⟨W.heap.size, 0, none⟩), .pointer (some ⟨W.heap.size + 1, 0, none⟩)]) rfl trivial (enters_of Tryz.func37 (by kernel_rfl) rfl)
    hstop (fun h k => h.trans k) (fun U o o' ho _ => (Below.refl W4.heap.size U).grown (grownBy_putObj' U _ o') (by have := (Array.getElem?_eq_some_iff.1 ho).1; omega) (fun k e => by cases e; omega)) (fun _ => rfl)
    (fun pre U => Below W4.heap.size W4 U) (fun _ _ _ => False)
    (fun pre X Y row h hg hr => h.grown hg h.size (fun k e => (hr k e).1)) (fun c pre X Y row h hg hr => h) (Below.refl _ _)
    (fun pre x a' U => False) (fun _ _ _ _ _ _ _ h _ _ => h) ?assign ?body ?done ?stop
  case assign =>
    rintro l pre x U K hsW hI ⟨-, rest, hx⟩ hK
    cases pre <;> cases hx
  case body =>
    rintro l pre x a' U hsW hr hI h
    exact h.elim
  case done =>
    rintro D ys U hD rfl hB hK
    have kS5 := kS4.step hB
    have kN5 := kN4.step hB
    have hbU := below_cut B13 hB (Nat.le_refl _)
    obtain ⟨s0, s1⟩ := two_ kS5
    have m0 := kN5.cell 0
    simp at m0
    clear kS4 kN4 kt ky ct cy hstop
    gi_wp2_with fail
    refine ⟨trivial, (callsIn_wide.2 (hcw U hbU)).mono ?_⟩
    rintro e U2 ⟨gu, rfl, -, hb2⟩
    have hbU2 := below_cut hbU hb2 (Nat.le_refl _)
    gi_wp2_with fail
    refine ⟨trivial, (callsIn_wide.2 (fits_out none ty 1 (some ⟨gu, 0, none⟩) n1 n1 U2 (ask_nil ty U2) (by decide))).mono ?_⟩
    rintro e U3 ⟨rfl, hb3⟩
    have hbU3 := below_cut hbU2 hb3 (Nat.le_refl _)
    gi_wp2_with fail
    refine ⟨trivial, (callsIn_wide.2 (awake12_any U3 (HW.out.1.step hbU3) (HW.out.2.step hbU3))).mono ?_⟩
    rintro e U4 ⟨rfl, hb4⟩
    have hbU4 := below_cut hbU3 hb4 (Nat.le_refl _)
    have hDU := (Array.getElem?_eq_some_iff.1 hK).1
    have hK4 : U4.heap[D]? = some (.deferred (some [])) := ((below_cut hb2 (below_cut hb3 hb4 (Nat.le_refl _)) (Nat.le_refl _)).block D hDU).trans hK
    gi_wp2_with fail
    refine ⟨by simp, .inl ⟨_, _, rfl, run_takeDeferred hK4, ?_⟩⟩
    exact ⟨_, results_tmp rfl _ _ _, rfl, hbU4.trans (belowK_b (n₀ := w.heap.size) (w := W) hs0 U4 D _ (.deferred none) (by omega) hK4 rfl rfl)⟩
  case stop =>
    rintro D c pre U _ h _ _
    exact h.elim
theorem law_vnil (ty : Int) (A1 : Option Addr) (n1 c1 : Nat) (l1 : List Int) (A2 : Option Addr) (n2 c2 : Nat) (l2 : List Int) (str : ByteArray) (w : World) (hP : Pow w) (hE : Errs w) (hn1 : n1 ≤ 35184372087808) (hr1 : Reads w w.heap.size 1 A1 n1 (Ints .u32 l1)) (hn2 : n2 ≤ 35184372087808) (hr2 : Reads w w.heap.size 1 A2 n2 (Ints .u32 l2)) :
    Calls Tryz.prog 6 #[.int .u32 ty, .slice A1 n1 c1, .slice A2 n2 c2, .string str] w (BoolIs true w) := callsIn_wide.1 (law_vnil_in ty A1 n1 c1 l1 A2 n2 c2 l2 str w hP hE hn1 hr1 hn2 hr2)
end Go.Proofs.YtgfnnfljefjegaaGreatDoor
