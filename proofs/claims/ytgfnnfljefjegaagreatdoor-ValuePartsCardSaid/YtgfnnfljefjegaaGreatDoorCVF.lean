/- Walks: Fits, given, Zero, Get, Put, Text, Parse where there is no value: no table, a type that has none, words that are none. Walks: Fits where there is no value: no table, a type that has none, words of another number. Walks: Fits, given, Get, Put, Text, Parse of a table's type, whatever the type and the words. -/
import Derived.Test.YtgfnnfljefjegaaGreatDoorCVD
import Derived.Test.YtgfnnfljefjegaaGreatDoorCUE
import Derived.Laws.CopyOwn
import Derived.Test.YtgfnnfljefjegaaGreatDoorCVA
namespace Go.Proofs.YtgfnnfljefjegaaGreatDoor
open Go.RowKit

/-- what is wrong with a table, a type -/
def AskC (p : Option Addr) (ty E : Int) (w : World) : Prop := ∀ w', Below w.heap.size w w' → Calls Tryz.prog 28 #[.pointer p, .int .u32 ty] w' fun e w'' => e = .returned (.int .i64 E) ∧ Below w'.heap.size w' w''
theorem AskC.on {p : Option Addr} {ty E : Int} {w w' : World} (h : AskC p ty E w) (hb : Below w.heap.size w w') : AskC p ty E w' := fun w'' hb' => h w'' (below_cut hb hb' (Nat.le_refl _))
theorem ask_tab (gt : Nat) (T : Int → TyI) (S : Int → SlI) (ty : Int) (w : World) (h : TabW w (some ⟨gt, 0, none⟩) T S) : AskC (some ⟨gt, 0, none⟩) ty (askE T ty) w := fun w' hb => asked_any gt T S ty w' (h.step hb)
set_option maxRecDepth 100000 in
theorem ask_nil (ty : Int) (w : World) : AskC none ty 1 w := by
  intro w' _
  go_enter Tryz.func28, Tryz.ntmps28
  go_wp2_with fail
  go_ret
  exact ⟨rfl, Below.refl _ _⟩
/-- what is wrong with words as a type's value -/
def GivC (p : Option Addr) (ty : Int) (A : Option Addr) (n c : Nat) (E : Int) (w : World) : Prop := ∀ w', Below w.heap.size w w' → Calls Tryz.prog 32 #[.pointer p, .int .u32 ty, .slice A n c] w' fun e w'' => e = .returned (.int .i64 E) ∧ Below w'.heap.size w' w''
theorem GivC.on {p : Option Addr} {ty E : Int} {A : Option Addr} {n c : Nat} {w w' : World} (h : GivC p ty A n c E w) (hb : Below w.heap.size w w') : GivC p ty A n c E w' := fun w'' hb' => h w'' (below_cut hb hb' (Nat.le_refl _))
set_option maxRecDepth 100000 in
theorem given_out (p : Option Addr) (ty E : Int) (A : Option Addr) (n c : Nat) (w : World) (h : AskC p ty E w) (hE : E ≠ 0) : GivC p ty A n c E w := by
  intro w' hb
  have ha := h w' hb
  have d0 : (E == 0) = false := by simpa using hE
  clear h hE
  go_enter Tryz.func32, Tryz.ntmps32
  go_wp2_with fail
  refine ha.mono ?_
  rintro e w1 ⟨rfl, hb1⟩
  clear ha
  go_wp2_with fail
  go_ret
  exact ⟨rfl, hb1⟩
set_option maxRecDepth 100000 in
theorem given_not (p : Option Addr) (ty : Int) (A : Option Addr) (n c : Nat) (w : World) (h : AskC p ty 0 w) (hf : ∀ w', Below w.heap.size w w' → Calls Tryz.prog 14 #[.pointer p, .int .u32 ty, .slice A n c] w' (BoolIs false w')) : GivC p ty A n c 2 w := by
  intro w' hb
  have ha := h w' hb
  clear h
  go_enter Tryz.func32, Tryz.ntmps32
  go_wp2_with fail
  refine ha.mono ?_
  rintro e w1 ⟨rfl, hb1⟩
  have hf1 := hf w1 (below_cut hb hb1 (Nat.le_refl _))
  unfold BoolIs at hf1
  clear ha hf
  go_wp2_with fail
  refine hf1.mono ?_
  rintro e w2 ⟨rfl, hb2⟩
  go_wp2_with fail
  go_ret
  exact ⟨rfl, below_cut hb1 hb2 (Nat.le_refl _)⟩
set_option maxRecDepth 100000 in
theorem zero_out (p : Option Addr) (ty E : Int) (w : World) (h : AskC p ty E w) (hE : E ≠ 0) :
    Calls Tryz.prog 16 #[.pointer p, .int .u32 ty] w fun e w' => e = .returned (.tuple #[.slice none 0 0, .int .i64 E]) ∧ Below w.heap.size w w' := by
  have ha := h w (Below.refl _ _)
  have d0 : (E != 0) = true := by simpa using hE
  clear h hE
  go_enter Tryz.func16, Tryz.ntmps16
  go_wp2_with fail
  refine ha.mono ?_
  rintro e w1 ⟨rfl, hb1⟩
  clear ha
  go_wp2_with fail
  go_ret2
  exact ⟨rfl, hb1⟩
set_option maxRecDepth 100000 in
theorem get_out (p : Option Addr) (ty E : Int) (A : Option Addr) (n c : Nat) (v : Value) (w : World) (h : GivC p ty A n c E w) (hE : E ≠ 0) :
    Calls Tryz.prog 18 #[.pointer p, .int .u32 ty, .slice A n c, v] w fun e w' => e = .returned (.tuple #[.int .u32 0, .slice none 0 0, .int .i64 E]) ∧ Below w.heap.size w w' := by
  have ha := h w (Below.refl _ _)
  have d0 : (E != 0) = true := by simpa using hE
  clear h hE
  go_enter Tryz.func18, Tryz.ntmps18
  go_wp2_with fail
  refine ha.mono ?_
  rintro e w1 ⟨rfl, hb1⟩
  clear ha
  go_wp2_with fail
  go_ret3
  exact ⟨rfl, hb1⟩
set_option maxRecDepth 100000 in
theorem put_out (p : Option Addr) (ty E : Int) (A : Option Addr) (n c : Nat) (v v' : Value) (w : World) (h : GivC p ty A n c E w) (hE : E ≠ 0) :
    Calls Tryz.prog 19 #[.pointer p, .int .u32 ty, .slice A n c, v, v'] w fun e w' => e = .returned (.tuple #[.slice none 0 0, .int .i64 E]) ∧ Below w.heap.size w w' := by
  have ha := h w (Below.refl _ _)
  have d0 : (E != 0) = true := by simpa using hE
  clear h hE
  go_enter Tryz.func19, Tryz.ntmps19
  go_wp2_with fail
  refine ha.mono ?_
  rintro e w1 ⟨rfl, hb1⟩
  clear ha
  go_wp2_with fail
  go_ret2
  exact ⟨rfl, hb1⟩
set_option maxRecDepth 100000 in
theorem text_out (p : Option Addr) (ty E : Int) (A : Option Addr) (n c : Nat) (w : World) (h : GivC p ty A n c E w) (hE : E ≠ 0) :
    Calls Tryz.prog 12 #[.pointer p, .int .u32 ty, .slice A n c] w fun e w' => e = .returned (.tuple #[.string ⟨#[]⟩, .int .i64 E]) ∧ Below w.heap.size w w' := by
  have ha := h w (Below.refl _ _)
  have d0 : (E != 0) = true := by simpa using hE
  clear h hE
  go_enter Tryz.func12, Tryz.ntmps12
  go_wp2_with fail
  refine ha.mono ?_
  rintro e w1 ⟨rfl, hb1⟩
  clear ha
  go_wp2_with fail
  go_ret2
  exact ⟨rfl, hb1⟩
set_option maxRecDepth 100000 in
theorem parse_out (p : Option Addr) (ty E : Int) (s : ByteArray) (w : World) (h : AskC p ty E w) (hE : E ≠ 0) :
    Calls Tryz.prog 10 #[.pointer p, .int .u32 ty, .string s] w fun e w' => e = .returned (.tuple #[.slice none 0 0, .agg #[.int .i64 E, .int .i64 0]]) ∧ Below w.heap.size w w' := by
  have hbs := (Below.refl w.heap.size w).alloc (Nat.le_refl _) (.cells #[.int .i64 0, .int .i64 0] 29)
  have kS := Blk.new w 29 #[.int .i64 0, .int .i64 0]
  have ha := h _ hbs
  have d0 : (E != 0) = true := by simpa using hE
  clear h hE
  go_enter Tryz.func10, Tryz.ntmps10
  go_wp2_with fail
  refine ha.mono ?_
  rintro e w1 ⟨rfl, hb1⟩
  have kS1 := kS.step hb1
  have hb2 := below_cut hbs hb1 (Nat.le_refl _)
  obtain ⟨y0, y1⟩ := two_ kS1
  have fz := kS1.frozen
  clear ha kS
  go_wp2_with fail
  exact bodyPost_ret (spot_end rfl _ rfl rfl (spot_put kS1 (.int .i64 E) (.int .i64 0))) rfl ⟨rfl, (hb2.setCell (p := ⟨w.heap.size, 0, none⟩) (Nat.le_refl _) _).setCell (p := ⟨w.heap.size, 1, none⟩) (Nat.le_refl _) _⟩
end Go.Proofs.YtgfnnfljefjegaaGreatDoor

namespace Go.Proofs.YtgfnnfljefjegaaGreatDoor
open Go.RowKit Go.Shelf
attribute [local go_sem] Oper.semAt_some

theorem flag_end {fn : Func} {p : Tmp} (h : fn.results = #[.cell p 4]) (tmps : Array Value) {W : World} {g : Nat} {b : Bool} (hp : tmps.getD p undef = .pointer (some ⟨g, 0, none⟩)) (k : Blk W g 4 #[.bool b]) :
    (results fn tmps).run Tryz.prog W = .ok (.bool b) W := by
  have ha : (asAddr (.pointer (some ⟨g, 0, none⟩))).run Tryz.prog W = .ok ⟨g, 0, none⟩ W := rfl
  have z0 := k.cell 0
  simp at z0
  have hl : (loadVar 4 ⟨g, 0, none⟩).run Tryz.prog W = .ok (.bool b) W := by go_simp
  rw [results_c1 h, hp, ha]
  simp only [Result.andThen_ok]
  exact hl
set_option maxRecDepth 100000 in
set_option maxHeartbeats 1000000 in
theorem fits_out (p : Option Addr) (ty E : Int) (A : Option Addr) (n c : Nat) (w : World) (h : AskC p ty E w) (hE : E ≠ 0) :
    Calls Tryz.prog 14 #[.pointer p, .int .u32 ty, .slice A n c] w (BoolIs false w) := by
  have d0 : (E != 0) = true := by simpa using hE
  have k0 := ((Blk.new w 26 #[.pointer p]).alloc (.cells #[.slice A n c] 34)).alloc (.cells #[.bool false] 4)
  have k1 := (Blk.new (w.alloc (.cells #[.pointer p] 26)) 34 #[.slice A n c]).alloc (.cells #[.bool false] 4)
  have k2 := Blk.new ((w.alloc (.cells #[.pointer p] 26)).alloc (.cells #[.slice A n c] 34)) 4 #[.bool false]
  have hb := (((Below.refl w.heap.size w).alloc (Nat.le_refl _) (.cells #[.pointer p] 26)).alloc (by simp) (.cells #[.slice A n c] 34)).alloc (by simp; omega) (.cells #[.bool false] 4)
  simp only [World.size_alloc] at k1 k2
  have hs3 : (((w.alloc (.cells #[.pointer p] 26)).alloc (.cells #[.slice A n c] 34)).alloc (.cells #[.bool false] 4)).heap.size = w.heap.size + 3 := by simp
  clear hE
  go_enter Tryz.func14, Tryz.ntmps14
  go_upto_region 1 with fail
  generalize (((w.alloc (.cells #[.pointer p] 26)).alloc (.cells #[.slice A n c] 34)).alloc (.cells #[.bool false] 4)) = W at *
  have c0 := k0.cell 0
  have c1 := k1.cell 0
  simp at c0 c1
  have hbl : w.heap.size + 1 < W.heap.size := by omega
  have hS0 : F2 W w.heap.size (.pointer p) (.slice A n c) W := ⟨c0, c1, Below.refl _ _⟩
  have hA := fun (w' : World) (hb' : Below W.heap.size W w') => (h.on hb) w' hb'
  first | go_region_law (first | (go_simp; go_at_call 28; (with_reducible refine (hA _ hS0.drew_.2.2).mono ?_); rintro e w' ⟨rfl, hbq⟩; have hH := F2.call hbl hS0.drew_ hbq)) | fail
  all_goals
    have k22 := k2.step hH.2.2
    have hbW := below_cut hb hH.2.2 (by omega)
    have cb := k22.cell 0
    have fb := k22.frozen 0
    simp at cb
    have kb2 : Blk (w'.setCell ⟨w.heap.size + 1 + 1, 0, none⟩ (.bool false)) (w.heap.size + 1 + 1) 4 #[.bool false] := by simpa using k22.set_ 0 (.bool false)
    have hbE := hbW.setCell (p := ⟨w.heap.size + 1 + 1, 0, none⟩) (by show w.heap.size ≤ w.heap.size + 1 + 1; omega) (.bool false)
    clear hS0 k0 k1 k2
    go_wp2_with fail
    exact bodyPost_ret (flag_end rfl _ rfl kb2) rfl ⟨rfl, hbE⟩
set_option maxRecDepth 100000 in
set_option maxHeartbeats 1000000 in
theorem fits_len (gt : Nat) (T : Int → TyI) (S : Int → SlI) (ty : Int) (A : Option Addr) (n c : Nat) (w : World) (hT : TabW w (some ⟨gt, 0, none⟩) T S) (hp : 0 < (T ty).size) (hn : (n : Int) ≠ (T ty).size) :
    Calls Tryz.prog 14 #[.pointer (some ⟨gt, 0, none⟩), .int .u32 ty, .slice A n c] w (BoolIs false w) := by
  have hask := fun (w' : World) (h : TabW w' (some ⟨gt, 0, none⟩) T S) => asked_any gt T S ty w' h
  have ea : askE T ty = 0 := if_pos hp
  rw [ea] at hask
  have hsz := fun (w' : World) (h : TabW w' (some ⟨gt, 0, none⟩) T S) => sizeM_any _ _ _ ty w' h.tab
  generalize (T ty).size = z at *
  have en : (((n : Nat) : Int) != z) = true := by simpa using hn
  have k0 := ((Blk.new w 26 #[.pointer (some ⟨gt, 0, none⟩)]).alloc (.cells #[.slice A n c] 34)).alloc (.cells #[.bool false] 4)
  have k1 := (Blk.new (w.alloc (.cells #[.pointer (some ⟨gt, 0, none⟩)] 26)) 34 #[.slice A n c]).alloc (.cells #[.bool false] 4)
  have k2 := Blk.new ((w.alloc (.cells #[.pointer (some ⟨gt, 0, none⟩)] 26)).alloc (.cells #[.slice A n c] 34)) 4 #[.bool false]
  have hb := (((Below.refl w.heap.size w).alloc (Nat.le_refl _) (.cells #[.pointer (some ⟨gt, 0, none⟩)] 26)).alloc (by simp) (.cells #[.slice A n c] 34)).alloc (by simp; omega) (.cells #[.bool false] 4)
  simp only [World.size_alloc] at k1 k2
  have hs3 : (((w.alloc (.cells #[.pointer (some ⟨gt, 0, none⟩)] 26)).alloc (.cells #[.slice A n c] 34)).alloc (.cells #[.bool false] 4)).heap.size = w.heap.size + 3 := by simp
  clear hp hn ea
  go_enter Tryz.func14, Tryz.ntmps14
  go_upto_region 1 with fail
  generalize (((w.alloc (.cells #[.pointer (some ⟨gt, 0, none⟩)] 26)).alloc (.cells #[.slice A n c] 34)).alloc (.cells #[.bool false] 4)) = W at *
  have c0 := k0.cell 0
  have c1 := k1.cell 0
  simp at c0 c1
  have hbl : w.heap.size + 1 < W.heap.size := by omega
  have hS0 : F2 W w.heap.size (.pointer (some ⟨gt, 0, none⟩)) (.slice A n c) W := ⟨c0, c1, Below.refl _ _⟩
  have hTW := hT.step hb
  go_region_held3 (F2 W w.heap.size (.pointer (some ⟨gt, 0, none⟩)) (.slice A n c)) (first | with_reducible exact hS0.drew_ | with_reducible assumption | with_reducible exact F2.call hbl (by assumption) hbq | fail) ((first | (go_at_call 28; (with_reducible refine (hask _ (hTW.step (F2.is (by assumption)))).mono ?_); rintro e w' ⟨rfl, hbq⟩) | (go_at_call 17; (with_reducible refine (hsz _ (hTW.step (F2.is (by assumption)))).mono ?_); rintro e w' ⟨rfl, hbq⟩)))
  all_goals
    have hH : F2 W w.heap.size (.pointer (some ⟨gt, 0, none⟩)) (.slice A n c) w' := by assumption
    have k22 := k2.step hH.2.2
    have hbW := below_cut hb hH.2.2 (by omega)
    have cb := k22.cell 0
    have fb := k22.frozen 0
    simp at cb
    have kb2 : Blk (w'.setCell ⟨w.heap.size + 1 + 1, 0, none⟩ (.bool false)) (w.heap.size + 1 + 1) 4 #[.bool false] := by simpa using k22.set_ 0 (.bool false)
    have hbE := hbW.setCell (p := ⟨w.heap.size + 1 + 1, 0, none⟩) (by show w.heap.size ≤ w.heap.size + 1 + 1; omega) (.bool false)
    clear hS0 k0 k1 k2
    go_wp2_with fail
    exact bodyPost_ret (flag_end rfl _ rfl kb2) rfl ⟨rfl, hbE⟩
end Go.Proofs.YtgfnnfljefjegaaGreatDoor

namespace Go.Proofs.YtgfnnfljefjegaaGreatDoor
open Go.RowKit

/-- what is wrong with words as a value -/
def gvE (T : Int → TyI) (ty : Int) (ws : List Int) : Int := if 0 < (T ty).size then (if fitsV T ty ws = true then 0 else 2) else 100
theorem gvE_zero {T : Int → TyI} {ty : Int} {ws : List Int} (h : gvE T ty ws = 0) : 0 < (T ty).size ∧ fitsV T ty ws = true ∧ (ws.length : Int) = (T ty).size := by
  unfold gvE at h
  split at h
  · rename_i h1
    split at h
    · rename_i h2
      refine ⟨h1, h2, ?_⟩
      unfold fitsV at h2
      simp only [Bool.and_eq_true, decide_eq_true_eq] at h2
      exact h2.2.1
    · cases h
  · cases h
theorem fits_all (gt : Nat) (T : Int → TyI) (S : Int → SlI) (hY : Typed T) (ty : Int) (A : Option Addr) (n c : Nat) (ws : List Int) (w : World) (hT : TabW w (some ⟨gt, 0, none⟩) T S) (hr : Reads w w.heap.size 1 A n (Ints .u32 ws)) :
    Calls Tryz.prog 14 #[.pointer (some ⟨gt, 0, none⟩), .int .u32 ty, .slice A n c] w (BoolIs (fitsV T ty ws) w) := by
  have hlen := hr.len
  by_cases hp : 0 < (T ty).size
  · by_cases hn : (n : Int) = (T ty).size
    · exact fits_well gt T S hY ty A n c ws w hT hr hp hn
    · have hf : fitsV T ty ws = false := by
        unfold fitsV
        rw [show decide ((ws.length : Int) = (T ty).size) = false by rw [decide_eq_false_iff_not]; omega, Bool.false_and, Bool.and_false]
      rw [hf]
      exact fits_len gt T S ty A n c w hT hp hn
  · have hf : fitsV T ty ws = false := by
      unfold fitsV
      rw [show decide (0 < (T ty).size) = false by rw [decide_eq_false_iff_not]; exact hp, Bool.false_and]
    have ha := ask_tab gt T S ty w hT
    rw [show askE T ty = 100 from if_neg hp] at ha
    rw [hf]
    exact fits_out _ ty 100 A n c w ha (by decide)
theorem given_any (gt : Nat) (T : Int → TyI) (S : Int → SlI) (hY : Typed T) (ty : Int) (A : Option Addr) (n c : Nat) (ws : List Int) (w : World) (hT : TabW w (some ⟨gt, 0, none⟩) T S) (hr : Reads w w.heap.size 1 A n (Ints .u32 ws)) : GivC (some ⟨gt, 0, none⟩) ty A n c (gvE T ty ws) w := by
  have hlen := hr.len
  by_cases hp : 0 < (T ty).size
  · have ha := ask_tab gt T S ty w hT
    rw [show askE T ty = 0 from if_pos hp] at ha
    by_cases hn : (n : Int) = (T ty).size
    · rw [show gvE T ty ws = (if fitsV T ty ws = true then 0 else 2) from if_pos hp]
      exact fun w' hb => given_well gt T S hY ty A n c ws w' (hT.step hb) ((hr.below hb).more hb.size) hp hn
    · have hf : fitsV T ty ws = false := by
        unfold fitsV
        rw [show decide ((ws.length : Int) = (T ty).size) = false by rw [decide_eq_false_iff_not]; omega, Bool.false_and, Bool.and_false]
      rw [show gvE T ty ws = 2 by unfold gvE; rw [if_pos hp, hf]; rfl]
      exact given_not _ ty A n c w ha (fun w' hb => fits_len gt T S ty A n c w' (hT.step hb) hp hn)
  · have ha := ask_tab gt T S ty w hT
    rw [show askE T ty = 100 from if_neg hp] at ha
    rw [show gvE T ty ws = 100 from if_neg hp]
    exact given_out _ ty 100 A n c w ha (by decide)
/-- what Get answers -/
def GotIs (T : Int → TyI) (ty : Int) (ws l : List Int) (w : World) (e : Ending) (w' : World) : Prop :=
  (gvE T ty ws ≠ 0 ∧ e = .returned (.tuple #[.int .u32 0, .slice none 0 0, .int .i64 (gvE T ty ws)]) ∧ Below w.heap.size w w') ∨ (gvE T ty ws = 0 ∧ GetIs T (wkW T 0 ty l) ws w e w')
theorem get_any (gt : Nat) (T : Int → TyI) (S : Int → SlI) (hY : Typed T) (ty : Int) (A : Option Addr) (n c : Nat) (ws : List Int) (A2 : Option Addr) (n2 c2 : Nat) (l : List Int) (w : World) (hT : TabW w (some ⟨gt, 0, none⟩) T S)
    (hr : Reads w w.heap.size 1 A n (Ints .u32 ws)) (hr2 : Reads w w.heap.size 1 A2 n2 (Ints .u32 l)) (hnc : n ≤ c) (hn2 : n2 ≤ 4611686018427387904) (hl : ∀ x ∈ l, 0 ≤ x ∧ x < 4294967296) :
    Calls Tryz.prog 18 #[.pointer (some ⟨gt, 0, none⟩), .int .u32 ty, .slice A n c, .slice A2 n2 c2] w (GotIs T ty ws l w) := by
  have hlen := hr.len
  by_cases h0 : gvE T ty ws = 0
  · obtain ⟨h1, h2, h3⟩ := gvE_zero h0
    exact (get_well gt T S hY ty A n c ws A2 n2 c2 l w hT hr hr2 h1 (by omega) hnc h2 hn2 hl).mono fun e w' h => .inr ⟨h0, h⟩
  · exact (get_out _ ty _ A n c _ w (given_any gt T S hY ty A n c ws w hT hr) h0).mono fun e w' h => .inl ⟨h0, h⟩
/-- what Text answers -/
def TextA (T : Int → TyI) (ty : Int) (ws : List Int) (w : World) (e : Ending) (w' : World) : Prop :=
  Below w.heap.size w w' ∧ ((gvE T ty ws = 0 ∧ e = .returned (.tuple #[.string (bs (textV T 19 ty ws)), .int .i64 0])) ∨ (gvE T ty ws ≠ 0 ∧ e = .returned (.tuple #[.string ⟨#[]⟩, .int .i64 (gvE T ty ws)])))
theorem text_all (gt : Nat) (T : Int → TyI) (S : Int → SlI) (ty : Int) (A : Option Addr) (n c : Nat) (ws : List Int) (w : World) (hO : RdOk w gt T S) (hr : Reads w w.heap.size 1 A n (Ints .u32 ws)) (hnc : n ≤ c) (hu : ∀ k, k < ws.length → 0 ≤ ix ws k ∧ ix ws k < 4294967296) :
    Calls Tryz.prog 12 #[.pointer (some ⟨gt, 0, none⟩), .int .u32 ty, .slice A n c] w (TextA T ty ws w) := by
  have hlen := hr.len
  by_cases h0 : gvE T ty ws = 0
  · obtain ⟨h1, h2, h3⟩ := gvE_zero h0
    refine (txt_any gt T S ty A n c ws w hO hr hnc h1 (by omega) hu).mono ?_
    rintro e w' ⟨hb, ⟨-, h⟩ | ⟨h, -⟩⟩
    · exact ⟨hb, .inl ⟨h0, h⟩⟩
    · rw [h2] at h; cases h
  · exact (text_out _ ty _ A n c w (given_any gt T S hO.ty ty A n c ws w hO.tab hr) h0).mono fun e w' h => ⟨h.2, .inr ⟨h0, h.1⟩⟩
/-- what Parse answers -/
def ParseA (T : Int → TyI) (ty : Int) (s : ByteArray) (w : World) (e : Ending) (w' : World) : Prop :=
  (0 < (T ty).size ∧ ParseIs T ty s w e w') ∨ (¬ 0 < (T ty).size ∧ e = .returned (.tuple #[.slice none 0 0, .agg #[.int .i64 100, .int .i64 0]]) ∧ Below w.heap.size w w')
theorem parsed_any (gt : Nat) (T : Int → TyI) (S : Int → SlI) (ty : Int) (s : ByteArray) (w : World) (hO : RdOk w gt T S) (hs : s.size ≤ 140737488351232) :
    Calls Tryz.prog 10 #[.pointer (some ⟨gt, 0, none⟩), .int .u32 ty, .string s] w (ParseA T ty s w) := by
  by_cases hp : 0 < (T ty).size
  · exact (parse_any gt T S ty s w hO hp hs).mono fun e w' h => .inl ⟨hp, h⟩
  · have ha := ask_tab gt T S ty w hO.tab
    rw [show askE T ty = 100 from if_neg hp] at ha
    exact (parse_out _ ty 100 s w ha (by decide)).mono fun e w' h => .inr ⟨hp, h⟩
/-- what Zero answers -/
def ZeroA (T : Int → TyI) (ty : Int) (w : World) (e : Ending) (w' : World) : Prop :=
  Below w.heap.size w w' ∧ ((¬ 0 < (T ty).size ∧ e = .returned (.tuple #[.slice none 0 0, .int .i64 100])) ∨ (0 < (T ty).size ∧ ∃ (g n : Nat), (n : Int) = (T ty).size ∧ e = .returned (.tuple #[.slice (some ⟨g, 0, none⟩) n n, .int .i64 0]) ∧ w'.ownsRow w.heap.size 22 1 (.slice (some ⟨g, 0, none⟩) n n) n (Ints .u32 (List.replicate n 0))))
theorem zero_any (gt : Nat) (T : Int → TyI) (S : Int → SlI) (hY : Typed T) (ty : Int) (w : World) (hT : TabW w (some ⟨gt, 0, none⟩) T S) :
    Calls Tryz.prog 16 #[.pointer (some ⟨gt, 0, none⟩), .int .u32 ty] w (ZeroA T ty w) := by
  by_cases hp : 0 < (T ty).size
  · obtain ⟨n, hn⟩ : ∃ n : Nat, (n : Int) = (T ty).size := ⟨(T ty).size.toNat, by omega⟩
    refine (zero_well gt T S hY ty w hT hp n hn).mono ?_
    rintro e w' ⟨g, h1, h2, h3⟩
    exact ⟨h3, .inr ⟨hp, g, n, hn, h1, by rw [Ints_replicate]; exact h2⟩⟩
  · have ha := ask_tab gt T S ty w hT
    rw [show askE T ty = 100 from if_neg hp] at ha
    exact (zero_out _ ty 100 w ha (by decide)).mono fun e w' h => ⟨h.2, .inl ⟨hp, h.1⟩⟩
theorem int_take (kd : IntKind) (l : List Int) (k : Nat) : Ints kd (l.take k) = (Ints kd l).take k := by simp [Ints]
theorem int_drop (kd : IntKind) (l : List Int) (k : Nat) : Ints kd (l.drop k) = (Ints kd l).drop k := by simp [Ints]
theorem three_take {α : Type} {n : Nat} (P X D : List α) (h : P.length + X.length ≤ n) : (P ++ (X ++ D)).take n = P ++ (X ++ D.take (n - (P.length + X.length))) := by
  rw [List.take_append, List.take_append, List.take_of_length_le (by omega : P.length ≤ n), List.take_of_length_le (by omega : X.length ≤ n - P.length), Nat.sub_sub]
/-- a row of the call's own behind a copy into it -/
theorem own_put {w : World} {base g n c : Nat} {e : TypeId} {l x : List Int} {p : Nat} (h : w.ownsRow base e 1 (.slice (some ⟨g, 0, none⟩) n c) n (Ints .u32 l)) (hp : p + x.length ≤ n) :
    ∃ cur, w.heap[g]? = some (.cells cur e) ∧ p + x.length ≤ cur.size ∧ base ≤ g ∧ n ≤ c ∧
      (w.setRow g (cur.toList.take p ++ (Ints .u32 x ++ cur.toList.drop (p + x.length))).toArray).ownsRow base e 1 (.slice (some ⟨g, 0, none⟩) n c) n (Ints .u32 (putV l (p : Nat) x)) := by
  have hl : l.length = n := by
    exact own_len h
  rcases h.2 with ⟨hv, _⟩ | ⟨g', cap, cur, hv, hbg, hg, hnc, hcm, hcs, htake⟩
  · cases hv
  · cases hv
    have hsz : cur.toList.length = c := by rw [Array.length_toList]; omega
    have hpl : (putV l (p : Nat) x).length = l.length := put_len (by omega) (by omega)
    refine ⟨cur, hg, by omega, hbg, hnc, ?_, .inr ⟨g, c, _, rfl, hbg, setRow_heap w g cur _ e _ hg, hnc, hcm, ?_, ?_⟩⟩
    · rw [Ints_length, hpl, hl, Nat.mul_one]
    · simp only [List.size_toArray, List.length_append, List.length_take, List.length_drop, hsz, Ints_length]
      omega
    · have ht : cur.toList.take n = Ints .u32 l := by rw [← htake, Nat.mul_one]
      have e1 : cur.toList.take p = Ints .u32 (l.take p) := by
        rw [int_take, ← ht, List.take_take, Nat.min_eq_left (by omega)]
      have e2 : (cur.toList.drop (p + x.length)).take (n - (p + x.length)) = Ints .u32 (l.drop (p + x.length)) := by
        rw [int_drop, ← ht, List.drop_take]
      have l1 : (cur.toList.take p).length = p := by rw [List.length_take]; omega
      simp only [Nat.mul_one]
      rw [three_take _ _ _ (by rw [l1, Ints_length]; exact hp), l1, Ints_length, e2, e1]
      unfold putV
      rw [Ints_append, Ints_append]
      rfl
end Go.Proofs.YtgfnnfljefjegaaGreatDoor
