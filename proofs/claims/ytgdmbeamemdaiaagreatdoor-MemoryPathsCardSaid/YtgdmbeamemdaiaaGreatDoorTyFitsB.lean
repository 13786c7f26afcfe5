/- Walks: value.Fits. -/
import Derived.Test.YtgdmbeamemdaiaaGreatDoorTyFits
import Derived.Test.YtgdmbeamemdaiaaGreatDoorTyEqual
namespace Go.Proofs.YtgdmbeamemdaiaaGreatDoor
open Go.RowKit Go.Shelf
attribute [local go_sem] Oper.semAt_some

/-- two boxes, and nothing else turned -/
abbrev F2 (W : World) (b0 : Nat) (p v : Value) (w' : World) : Prop := w'.cell? ⟨b0, 0, none⟩ = some p ∧ w'.cell? ⟨b0 + 1, 0, none⟩ = some v ∧ Below W.heap.size W w'
section
variable {W w2 w3 : World} {b0 : Nat} {p v : Value}
theorem F2.drew_ (h : F2 W b0 p v w2) : F2 W b0 p v w2.drew := ⟨h.1, h.2.1, h.2.2.drew⟩
theorem F2.call (hb : b0 + 1 < W.heap.size) (h : F2 W b0 p v w2) (hq : Below w2.heap.size w2 w3) : F2 W b0 p v w3 :=
  ⟨(hq.cell (p := ⟨b0, 0, none⟩) (Nat.lt_of_lt_of_le (by show b0 < W.heap.size; omega) h.2.2.size)).trans h.1, (hq.cell (p := ⟨b0 + 1, 0, none⟩) (Nat.lt_of_lt_of_le hb h.2.2.size)).trans h.2.1, below_cut h.2.2 hq (Nat.le_refl _)⟩
theorem F2.is (h : F2 W b0 p v w2) : Below W.heap.size W w2 := h.2.2
end
theorem keepsO_below {W W' : World} (h : Below W.heap.size W W') : KeepsOthers W W' := ⟨h.size, fun k _ hk _ => (h.block k (Array.getElem?_eq_some_iff.1 hk).1).trans hk⟩
/-- is a word well at its leaf? -/
def okW (T : Int → TyI) (L ws : List Int) (k : Nat) : Bool := !(decide ((T (ix L k)).kind = 2) && decide (1 < ix ws k))

set_option maxRecDepth 100000 in
set_option maxHeartbeats 4000000 in
theorem fits_go (gt : Nat) (T : Int → TyI) (S : Int → SlI) (hY : Typed T) (ty : Int) (A : Option Addr) (n c : Nat) (ws : List Int) (w : World) (hT : TabW w (some ⟨gt, 0, none⟩) T S) (hr : Reads w w.heap.size 1 A n (Ints .u32 ws)) (hp : 0 < (T ty).size) (hn : (n : Int) = (T ty).size) :
    CallsIn Fence.wide 9 Tryz.prog 113 #[.pointer (some ⟨gt, 0, none⟩), .int .u32 ty, .slice A n c] w (BoolIs (fitsV T ty ws) w) := by
  have hlen := hr.len
  have hn4 := (hY.size ty).2.2
  have hll := leafL_len hY 19 ty hp (by have := (rankT_bd hY ty).2; omega)
  have hv : fitsV T ty ws = (List.range n).all (okW T (leafL T 19 ty) ws) := by
    unfold fitsV okW
    have e1 : decide (0 < (T ty).size) = true := by rw [decide_eq_true_eq]; exact hp
    have e2 : decide ((ws.length : Int) = (T ty).size) = true := by rw [decide_eq_true_eq]; omega
    rw [e1, e2, hlen]
    rfl
  rw [hv]
  obtain ⟨L, hL⟩ : ∃ L, L = leafL T 19 ty := ⟨_, rfl⟩
  rw [← hL] at hll ⊢
  have hLn : L.length = n := by omega
  obtain ⟨v, hvv⟩ : ∃ v, v = (List.range n).all (okW T L ws) := ⟨_, rfl⟩
  rw [← hvv]
  have HV := Lib.hid hvv
  have HL := Lib.hid hL
  have hask := fun (w' : World) (h : TabW w' (some ⟨gt, 0, none⟩) T S) => asked_any gt T S ty w' h
  have ea : askE T ty = 0 := if_pos hp
  rw [ea] at hask
  have hsz := fun (w' : World) (h : TabW w' (some ⟨gt, 0, none⟩) T S) => sizeM_any _ _ _ ty w' h.tab
  rw [← hn] at hsz
  have en : (((n : Nat) : Int) != (n : Nat)) = false := by simp
  have hknd := fun (u : Int) (w' : World) (h : TabW w' (some ⟨gt, 0, none⟩) T S) => kindM_any _ _ _ u w' h.tab
  have k0 := ((Blk.new w 26 #[.pointer (some ⟨gt, 0, none⟩)]).alloc (.cells #[.slice A n c] 34)).alloc (.cells #[.bool false] 4)
  have k1 := (Blk.new (w.alloc (.cells #[.pointer (some ⟨gt, 0, none⟩)] 26)) 34 #[.slice A n c]).alloc (.cells #[.bool false] 4)
  have k2 := Blk.new ((w.alloc (.cells #[.pointer (some ⟨gt, 0, none⟩)] 26)).alloc (.cells #[.slice A n c] 34)) 4 #[.bool false]
  have hb := (((Below.refl w.heap.size w).alloc (Nat.le_refl _) (.cells #[.pointer (some ⟨gt, 0, none⟩)] 26)).alloc (by simp) (.cells #[.slice A n c] 34)).alloc (by simp; omega) (.cells #[.bool false] 4)
  simp only [World.size_alloc] at k1 k2
  have hs3 : (((w.alloc (.cells #[.pointer (some ⟨gt, 0, none⟩)] 26)).alloc (.cells #[.slice A n c] 34)).alloc (.cells #[.bool false] 4)).heap.size = w.heap.size + 3 := by simp
  have HT := Lib.hid hT
  have HR := Lib.hid hr
  have HY := Lib.hid hY
  have HP := Lib.hid hp
  clear hv hvv hL ea hT hr hY hp hn
  refine callsIn_of_wp_marks Tryz.func113 rfl trivial ?_ rfl
  simp only [Tryz.ntmps113, List.size_toArray, List.length_cons, List.length_nil, Nat.reduceAdd, Nat.reduceSub, Array.replicate_succ, Array.replicate_zero, List.push_toArray, List.append_toArray, List.nil_append, List.cons_append]
  gi_wp2_with fail
  generalize (((w.alloc (.cells #[.pointer (some ⟨gt, 0, none⟩)] 26)).alloc (.cells #[.slice A n c] 34)).alloc (.cells #[.bool false] 4)) = W at *
  have c0 := k0.cell 0
  have c1 := k1.cell 0
  simp at c0 c1
  have hbl : w.heap.size + 1 < W.heap.size := by omega
  have hS0 : F2 W w.heap.size (.pointer (some ⟨gt, 0, none⟩)) (.slice A n c) W := ⟨c0, c1, Below.refl _ _⟩
  have hTW := HT.out.step hb
  refine wpIn_wide.2 ?_
  go_region_held3 (F2 W w.heap.size (.pointer (some ⟨gt, 0, none⟩)) (.slice A n c)) (first | with_reducible exact hS0.drew_ | with_reducible assumption | with_reducible exact F2.call hbl (by assumption) hbq | fail) ((first | (go_at_call 81; (with_reducible refine (hask _ (hTW.step (F2.is (by assumption)))).mono ?_); rintro e w' ⟨rfl, hbq⟩) | (go_at_call 20; (with_reducible refine (hsz _ (hTW.step (F2.is (by assumption)))).mono ?_); rintro e w' ⟨rfl, hbq⟩)))
  all_goals
    have hH : F2 W w.heap.size (.pointer (some ⟨gt, 0, none⟩)) (.slice A n c) w' := by assumption
    have c0 := hH.1
    have k22 := k2.step hH.2.2
    have k02 := k0.step hH.2.2
    have k12 := k1.step hH.2.2
    have hbW := below_cut hb hH.2.2 (by omega)
    have hs4 := hH.2.2.size
    clear hS0 hTW hask hsz k0 k1 k2
    gi_wp2_with fail
    refine ⟨trivial, (leaves_box _ (.pointer (some ⟨gt, 0, none⟩)) _ rfl ty w').mono ?_⟩
    rintro e w3 ⟨rfl, rfl⟩
    gi_wp2_with fail
    have hbX := ((Below.refl w'.heap.size w').alloc (Nat.le_refl _) (.cells #[.pointer (some ⟨gt, 0, none⟩)] 26)).alloc (by simp) (.cells #[.int .u32 ty] 22)
    have kt := (Blk.new w' 26 #[.pointer (some ⟨gt, 0, none⟩)]).alloc (.cells #[.int .u32 ty] 22)
    have ky := Blk.new (w'.alloc (.cells #[.pointer (some ⟨gt, 0, none⟩)] 26)) 22 #[.int .u32 ty]
    rw [World.size_alloc] at ky
    have k04 := k02.step hbX
    have k14 := k12.step hbX
    have k24 := k22.step hbX
    have hb4 := below_cut hbW hbX (Nat.le_refl _)
    have hs5 : ((w'.alloc (.cells #[.pointer (some ⟨gt, 0, none⟩)] 26)).alloc (.cells #[.int .u32 ty] 22)).heap.size = w'.heap.size + 2 := by simp
    clear k02 k12 k22 hbX hH c0
    generalize ((w'.alloc (.cells #[.pointer (some ⟨gt, 0, none⟩)] 26)).alloc (.cells #[.int .u32 ty] 22)) = W4 at *
    have ct := kt.cell 0
    have cy := ky.cell 0
    simp at ct cy
    have hT4 := HT.out.step hb4
    have hstop := leaves1_stops gt T S HY.out W4 hT4 ty HP.out w'.heap.size (w'.heap.size + 1) (by omega) (by omega) ct cy
    rw [← HL.out] at hstop
    refine wpIn_range_w rfl (by omega) (gf := 148) (lb := #[.pointer (some ⟨w'.heap.size, 0, none⟩), .pointer (some ⟨w'.heap.size + 1, 0, none⟩)]) rfl trivial (enters_of Tryz.func148 (by kernel_rfl) rfl)
      hstop (fun h k => h.trans k) (fun U o o' ho _ => (Below.refl W4.heap.size U).grown (grownBy_putObj' U _ o') (by have := (Array.getElem?_eq_some_iff.1 ho).1; omega) (fun k e => by cases e; omega)) (fun _ => rfl)
      (fun pre U => Blk U (w.heap.size + 1 + 1) 4 #[.bool false] ∧ Below W4.heap.size W4 U ∧ (∀ k, k < pre.length → okW T L ws k = true) ∧ ∃ rest, L = pre.map (·.2) ++ rest)
      (fun c _ U => c = Code.ret ∧ Blk U (w.heap.size + 1 + 1) 4 #[.bool false] ∧ Below w.heap.size w U ∧ v = false)
      (fun pre X Y row h hg hr => ⟨h.1.grown hg (noncells (fun r e => (hr r e).2) h.1), h.2.1.grown hg h.2.1.size (fun k e => (hr k e).1), h.2.2⟩)
      (fun c pre X Y row h hg hr => ⟨h.1, h.2.1.grown hg (noncells (fun r e => (hr r e).2) h.2.1), h.2.2.1.grown hg h.2.2.1.size (fun k e => by have := (hr k e).1; omega), h.2.2.2⟩)
      ⟨k24, Below.refl _ _, fun k hk => absurd hk (Nat.not_lt_zero k), L, rfl⟩
      (fun pre x a' U => NextF L pre x U ∧ a' = { tmps := #[.pointer (some ⟨gt, 0, none⟩), .int .u32 ty, .slice A n c, .pointer (some ⟨w.heap.size, 0, none⟩), undef, .pointer (some ⟨w.heap.size + 1, 0, none⟩), .pointer (some ⟨w.heap.size + 1 + 1, 0, none⟩), .int .i64 (x.1 : Nat), .int .u32 x.2,
        .pointer (some ⟨gt, 0, none⟩), .int .u32 ty, .int .i64 0, .bool false, .bool false, .slice A n c, .int .i64 (n : Nat), .pointer (some ⟨gt, 0, none⟩), .int .u32 ty, .int .i64 (n : Nat), .bool false, .bool false, .pointer (some ⟨gt, 0, none⟩), .int .u32 ty,
        .func (.func 148) #[] #[.pointer (some ⟨w'.heap.size, 0, none⟩), .pointer (some ⟨w'.heap.size + 1, 0, none⟩)], .int .i64 (x.1 : Nat), .int .u32 x.2, undef, undef, undef, undef, undef, undef, undef, undef, undef, undef, undef], defers := [] })
      ?hax ?assign ?body ?done ?stop
    case hax =>
      rintro pre x a' _ X Y row ⟨g0, g1⟩ hg hr
      exact ⟨g0, g1⟩
    case assign =>
      rintro l pre x U K hsW hI hGx hK
      dsimp only [lfA]
      gi_wp2_with fail
      exact hK _ _ (KeepsFrom.refl _ _) (Below.refl _ _) hI ⟨hGx, rfl⟩
    case body =>
      rintro l pre x a' U hsW ⟨r, hr⟩ ⟨kb, hbU, hok, hpre⟩ ⟨⟨hx1, rest, hx2⟩, rfl⟩
      have k0U := k04.step hbU
      have k1U := k14.step hbU
      have hbw := below_cut hb4 hbU (Nat.le_refl _)
      have hkd := hknd x.2 U (HT.out.step hbw)
      have hpl : pre.length < n := by
        have := congrArg List.length hx2
        rw [List.length_append, List.length_map, List.length_cons] at this
        omega
      have hxL : ix L pre.length = x.2 := by
        rw [ix_of (by omega)]
        simp only [hx2]
        rw [List.getElem_append_right (by rw [List.length_map]; exact Nat.le_refl _)]
        simp
      have hnext : L = (pre ++ [x]).map (·.2) ++ rest := by rw [hx2, List.map_append]; simp
      have hokd : okW T L ws pre.length = !(decide ((T x.2).kind = 2) && decide (1 < ix ws pre.length)) := by unfold okW; rw [hxL]
      obtain ⟨b, off, hA, hbb, hcc⟩ := (HR.out.below hbw).ints (by omega)
      have c2 := hcc pre.length hpl
      have hl2 : ((pre.length : Nat) : Int) < (n : Nat) := by omega
      have c0 := k0U.cell 0
      have c1 := k1U.cell 0
      have cb := kb.cell 0
      have fb := kb.frozen 0
      simp at c0 c1 cb
      have hkn := (HY.out.size x.2)
      have hkind : 0 ≤ (T x.2).kind := by
        rcases HY.out.ok x.2 with h | ⟨b, h⟩
        · rw [h]; decide
        · have := h.kind; omega
      have hokN : okW T L ws pre.length = true → ∀ k, k < (pre ++ [x]).length → okW T L ws k = true := fun h k hk => by
        rw [List.length_append, List.length_singleton] at hk
        rcases Nat.lt_succ_iff_lt_or_eq.1 hk with h1 | rfl
        · exact hok k h1
        · exact h
      have hvf : okW T L ws pre.length = false → v = false := fun h => by
        rw [HV.out, List.all_eq_false]
        exact ⟨pre.length, List.mem_range.2 hpl, by rw [h]; decide⟩
      have HOK := Lib.hid hokd
      have HON := Lib.hid hokN
      have HVF := Lib.hid hvf
      have HNX := Lib.hid hnext
      subst hA
      clear hx2 hxL hnext hokd hok hpre hcc hkn hokN hvf
      obtain ⟨x1, x2⟩ := x
      dsimp only at hx1 hkd hkind HOK
      subst hx1
      generalize ix ws pre.length = y at *
      by_cases h2 : (T x2).kind = 2
      · rw [h2] at hkd
        by_cases h1 : 1 < y
        · have hf := HVF.out (by rw [HOK.out, h2]; simpa using h1)
          have d1 : decide (y > 1) = true := by rw [decide_eq_true_eq]; exact h1
          clear h1 h2
          gi_wp2_with fail
          refine ⟨trivial, (CallsIn.inRound l (callsIn_wide.2 hkd)).mono ?_⟩
          rintro e U2 ⟨rfl, hb2⟩
          have kb2 := kb.step hb2
          have c0 := (k0U.step hb2).cell 0
          have c1 := (k1U.step hb2).cell 0
          have c2 := (hb2.cell (p := ⟨b, off + pre.length, none⟩) (Nat.lt_of_lt_of_le hbb hbw.size)).trans c2
          have cb := kb2.cell 0
          have fb := kb2.frozen 0
          simp at c0 c1 cb
          have hbU2 := hbU.trans (hb2.mono hbU.size)
          clear hkd
          gi_wp2_with fail
          exact ⟨((keepsO_below hb2).trans (KeepsOthers.setCell _ _ _)).from _, rfl, by simpa using kb2.set_ 0 (.bool false), (below_cut hb4 hbU2 (Nat.le_refl _)).setCell (p := ⟨w.heap.size + 1 + 1, 0, none⟩) (by show w.heap.size ≤ w.heap.size + 1 + 1; omega) _, hf⟩
        · have d1 : decide (y > 1) = false := by rw [decide_eq_false_iff_not]; exact h1
          have hon := HON.out (by rw [HOK.out, h2]; simpa using h1)
          clear h1 h2
          gi_wp2_with fail
          refine ⟨trivial, (CallsIn.inRound l (callsIn_wide.2 hkd)).mono ?_⟩
          rintro e U2 ⟨rfl, hb2⟩
          have kb2 := kb.step hb2
          have c0 := (k0U.step hb2).cell 0
          have c1 := (k1U.step hb2).cell 0
          have c2 := (hb2.cell (p := ⟨b, off + pre.length, none⟩) (Nat.lt_of_lt_of_le hbb hbw.size)).trans c2
          simp at c0 c1
          have hbU2 := hbU.trans (hb2.mono hbU.size)
          clear hkd
          gi_wp2_with fail
          exact ⟨(keepsO_below hb2).from _, hb2.mono hbU.size, kb2, hbU2, hon, rest, HNX.out⟩
      · have d2 : ((T x2).kind == 2) = false := by rw [beq_eq_false_iff_ne]; exact h2
        have hon := HON.out (by rw [HOK.out]; simp [h2])
        clear h2
        gi_wp2_with fail
        refine ⟨trivial, (CallsIn.inRound l (callsIn_wide.2 hkd)).mono ?_⟩
        rintro e U2 ⟨rfl, hb2⟩
        have kb2 := kb.step hb2
        have hbU2 := hbU.trans (hb2.mono hbU.size)
        clear hkd
        gi_wp2_with fail
        exact ⟨(keepsO_below hb2).from _, hb2.mono hbU.size, kb2, hbU2, hon, rest, HNX.out⟩
    case done =>
      rintro D ys U hD hS ⟨kb, hbU, hok, hpre⟩ hK
      have hyl : ys.length = n := by
        have := congrArg List.length hS
        rw [List.length_map] at this
        omega
      have hvt : v = true := by
        rw [HV.out, List.all_eq_true]
        exact fun k hk => hok k (by rw [hyl]; exact List.mem_range.1 hk)
      have hbw := below_cut hb4 hbU (Nat.le_refl _)
      have cb := kb.cell 0
      have fb := kb.frozen 0
      simp at cb
      have kb2 : Blk (U.setCell ⟨w.heap.size + 1 + 1, 0, none⟩ (.bool true)) (w.heap.size + 1 + 1) 4 #[.bool true] := by simpa using kb.set_ 0 (.bool true)
      have hwD : w.heap.size + 1 + 1 < D := by omega
      have hK3 : (U.setCell ⟨w.heap.size + 1 + 1, 0, none⟩ (.bool true)).heap[D]? = some (.deferred (some [])) := (Below.heap_setCell _ _ _ _ (show D ≠ w.heap.size + 1 + 1 from Nat.ne_of_gt hwD)).trans hK
      have hB3 := hbw.setCell (p := ⟨w.heap.size + 1 + 1, 0, none⟩) (show w.heap.size ≤ w.heap.size + 1 + 1 by omega) (.bool true)
      gi_wp2_with fail
      generalize U.setCell ⟨w.heap.size + 1 + 1, 0, none⟩ (.bool true) = U3 at *
      have kb3 : Blk (U3.putObj D (.deferred none)) (w.heap.size + 1 + 1) 4 #[.bool true] := (World.putObj_heap_other (by omega)).trans kb2
      have m0 := kb3.cell 0
      simp at m0
      have hbl := hB3.trans (belowK_b (n₀ := w.heap.size) (w := W4) (by omega) U3 D _ (.deferred none) hD hK3 rfl rfl)
      refine ⟨by simp, .inl ⟨_, _, rfl, run_takeDeferred hK3, ?_⟩⟩
      refine ⟨.bool true, by rw [results_c1 rfl]; go_simp, ?_⟩
      exact ⟨by rw [hvt], hbl⟩
    case stop =>
      rintro D c pre U hD _ ⟨rfl, kb, hbU, hvf⟩ hK
      have hbw := hbU
      have kb3 : Blk (U.putObj D (.deferred none)) (w.heap.size + 1 + 1) 4 #[.bool false] := (World.putObj_heap_other (by omega)).trans kb
      have m0 := kb3.cell 0
      simp at m0
      have hbl := hbw.trans (belowK_b (n₀ := w.heap.size) (w := W4) (by omega) U D _ (.deferred none) hD hK rfl rfl)
      gi_wp2_with fail
      refine ⟨by simp, .inl ⟨_, _, rfl, run_takeDeferred hK, ?_⟩⟩
      refine ⟨.bool false, by rw [results_c1 rfl]; go_simp, ?_⟩
      exact ⟨by rw [hvf], hbl⟩
end Go.Proofs.YtgdmbeamemdaiaaGreatDoor
