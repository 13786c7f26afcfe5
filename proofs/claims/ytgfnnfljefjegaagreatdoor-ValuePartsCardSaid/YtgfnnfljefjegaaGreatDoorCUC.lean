/- Walks: memory.Chain. Plain: the leaves of a type. No program is named. Walks: value.leaves, value.asked, value.Leaves. -/
import Derived.Test.YtgfnnfljefjegaaGreatDoorCUB
import Derived.Test.YtgfnnfljefjegaaGreatDoorCUJ
import Derived.Test.YtgfnnfljefjegaaGreatDoorCTB
import Derived.Test.YtgfnnfljefjegaaGreatDoorCTL
namespace Go.Proofs.YtgfnnfljefjegaaGreatDoor
open Go.RowKit

theorem cnt_bd {T : Int → TyI} (hT : Typed T) (id : Int) : 0 ≤ cntT (T id) ∧ cntT (T id) ≤ 65535 := by
  rcases hT.ok id with h | ⟨b, h⟩
  · rw [h]; decide
  · generalize T id = x at *
    unfold cntT
    cases h <;> simp [ty0] <;> omega
end Go.Proofs.YtgfnnfljefjegaaGreatDoor

namespace Go.Proofs.YtgfnnfljefjegaaGreatDoor

/-- what stands in the first so many parts, one behind the other -/
def catP (f : Int → List Int) (x : TyI) : Nat → List Int
  | 0 => []
  | k + 1 => catP f x k ++ f (partN x k)
/-- the leaves of a type, in order -/
def leafL (T : Int → TyI) : Nat → Int → List Int
  | 0, _ => []
  | q + 1, ty => if cntT (T ty) = 0 then [ty] else catP (leafL T q) (T ty) (cntT (T ty)).toNat
theorem leafL_one {T : Int → TyI} {q : Nat} {ty : Int} (h : cntT (T ty) = 0) : leafL T (q + 1) ty = [ty] := if_pos h
theorem leafL_more {T : Int → TyI} {q : Nat} {ty : Int} (h : cntT (T ty) ≠ 0) : leafL T (q + 1) ty = catP (leafL T q) (T ty) (cntT (T ty)).toNat := if_neg h
theorem catP_split (f : Int → List Int) (x : TyI) : ∀ (n k : Nat), k < n → ∃ rest, catP f x n = catP f x k ++ (f (partN x k) ++ rest)
  | 0, k, h => absurd h (Nat.not_lt_zero k)
  | n + 1, k, h => by
    show ∃ rest, catP f x n ++ f (partN x n) = _
    rcases Nat.lt_succ_iff_lt_or_eq.1 h with h1 | rfl
    · obtain ⟨r, hr⟩ := catP_split f x n k h1
      exact ⟨r ++ f (partN x n), by rw [hr, List.append_assoc, List.append_assoc]⟩
    · exact ⟨[], by rw [List.append_nil]⟩
theorem catP_len {T : Int → TyI} {f : Int → List Int} {x : TyI} : ∀ k : Nat, (∀ j, j < k → ((f (partN x j)).length : Int) = (T (partN x j)).size) → ((catP f x k).length : Int) = sumP T x k
  | 0, _ => rfl
  | k + 1, h => by
    have ih := catP_len k (fun j hj => h j (by omega))
    have := h k (by omega)
    show ((catP f x k ++ f (partN x k)).length : Int) = sumP T x k + _
    rw [List.length_append]
    omega
theorem plain_bare {T : Int → TyI} (hT : Typed T) {ty : Int} (hs : 0 < (T ty).size) (hc : cntT (T ty) = 0) : (T ty).size = 1 ∧ ((T ty).kind = 2 ∨ (T ty).kind = 3) := by
  rcases hT.ok ty with h | ⟨b, h⟩
  · rw [h] at hs; exact absurd hs (by decide)
  · generalize T ty = x at *
    unfold cntT at hc
    cases h with
    | void => exact absurd hs (by decide)
    | bool => exact ⟨rfl, .inl rfl⟩
    | int s => exact ⟨rfl, .inr rfl⟩
    | vec p n h1 h2 h3 h4 => exfalso; dsimp only at hc; simp [ty0] at hc; omega
    | arr p n h1 h2 h3 h4 h5 h6 => exfalso; dsimp only at hc; simp [ty0] at hc; omega
    | str l s d h1 h2 h3 h4 h5 h6 => exfalso; dsimp only at hc; simp [ty0] at hc; subst hc; simp at h3
    | ptr c p h1 h2 h3 => exact absurd hs (by show ¬ (0 : Int) < 0; decide)
    | fn l h1 h2 h3 h4 => exact absurd hs (by show ¬ (0 : Int) < 0; decide)
theorem plain_sum {T : Int → TyI} (hT : Typed T) {ty : Int} (hs : 0 < (T ty).size) (hc : cntT (T ty) ≠ 0) : (T ty).size = sumP T (T ty) (cntT (T ty)).toNat ∧ ∀ j : Nat, (j : Int) < cntT (T ty) → 0 < (T (partN (T ty) j)).size := by
  rcases hT.ok ty with h | ⟨b, h⟩
  · rw [h] at hs; exact absurd hs (by decide)
  · have hk := (hT.size ty).2.1.1 hs
    have h0 : 0 ≤ cntT (T ty) := by
      generalize T ty = x at *
      unfold cntT
      cases h <;> simp [ty0] <;> omega
    exact ⟨(h.sizes hT).whole (by omega) (by omega) (by omega), fun j hj => h.part_plain hT hs hj⟩
/-- a type's leaves are as many as its words -/
theorem leafL_len {T : Int → TyI} (hT : Typed T) : ∀ (q : Nat) (ty : Int), 0 < (T ty).size → rankT (T ty) < (q : Int) → ((leafL T q ty).length : Int) = (T ty).size
  | 0, ty, _, hq => absurd hq (by have := (rankT_bd hT ty).1; omega)
  | q + 1, ty, hs, hq => by
    by_cases hc : cntT (T ty) = 0
    · rw [leafL_one hc, (plain_bare hT hs hc).1]
      rfl
    · obtain ⟨h1, h2⟩ := plain_sum hT hs hc
      rw [leafL_more hc, catP_len (T := T) _ (fun j hj => ?_), h1]
      have hj2 : (j : Int) < cntT (T ty) := by omega
      have hr := part_rank hT hj2
      exact leafL_len hT q _ (h2 j hj2) (by show rankT (T (partT (T ty) j).1) < _; omega)
/-- are words a value of a type? -/
def fitsV (T : Int → TyI) (ty : Int) (ws : List Int) : Bool :=
  decide (0 < (T ty).size) && (decide ((ws.length : Int) = (T ty).size) && (List.range ws.length).all fun k => !(decide ((T (ix (leafL T 19 ty) k)).kind = 2) && decide (1 < ix ws k)))
end Go.Proofs.YtgfnnfljefjegaaGreatDoor

namespace Go.Proofs.YtgfnnfljefjegaaGreatDoor
open Go.RowKit Go.Shelf
attribute [local go_sem] Oper.semAt_some

theorem round_any {P : Program} {l n n' : Nat} {f : FuncId} {tmps : Array Value} {assign body : Code} {w : World} {R : Ending → World → Prop} (h : RoundIn Fence.wide n P l f tmps assign body w R) : RoundIn Fence.wide n' P l f tmps assign body w R :=
  ⟨h.1, fun c cs _ => h.2 c cs (room_wide _)⟩
/-- what is told: a place, and the leaf there -/
abbrev LfI := Nat × Int
def lfA (x : LfI) : Array Value := #[.int .i64 (x.1 : Nat), .int .u32 x.2]
def NextF (L : List Int) (pre : List LfI) (x : LfI) (_ : World) : Prop := x.1 = pre.length ∧ ∃ rest, L = pre.map (·.2) ++ x.2 :: rest
theorem abides_below_ {β : Type} {B : Nat} {J : β → World → Prop} (hJ : AbidesFrom B J) {s : β} {w w' : World} (h : J s w) (hb : Below w.heap.size w w') : J s w' := hJ s _ _ none h (only_of_below hb none) (fun r e => by cases e)
/-- what leaves answers -/
def LvIs (T : Int → TyI) (q : Nat) (ty : Int) (n0 : Nat) (J Jx : List LfI → World → Prop) (pre : List LfI) (W : World) (e : Ending) (W' : World) : Prop :=
  (e = .returned (.tuple #[.int .i64 ((pre.length : Nat) + (T ty).size), .bool true]) ∧ (∃ ys, ys.map (·.2) = leafL T q ty ∧ J (pre ++ ys) W') ∧ Below n0 W W') ∨
    (∃ a, e = .returned (.tuple #[a, .bool false]) ∧ ∃ p2, Jx p2 W')

set_option maxRecDepth 100000 in
set_option maxHeartbeats 4000000 in
theorem leaves_in (gt : Nat) (T : Int → TyI) (S : Int → SlI) (hY : Typed T) (w0 : World) (hT0 : TabW w0 (some ⟨gt, 0, none⟩) T S) (L : List Int) (hLn : L.length ≤ 4096) (l B : Nat) (J Jx : List LfI → World → Prop) (hJ : AbidesFrom B J)
    (hYd : ∀ pre x W1, J pre W1 → NextF L pre x W1 → YieldAt Fence.wide 0 Tryz.prog l (lfA x) W1 fun e W' =>
      (e = .returned (.bool true) ∧ J (pre ++ [x]) W' ∧ Below w0.heap.size W1 W') ∨ (e = .returned (.bool false) ∧ Jx (pre ++ [x]) W')) :
    ∀ (q : Nat) (ty : Int) (pre : List LfI) (W : World), 0 < (T ty).size → rankT (T ty) < (q : Int) → Below w0.heap.size w0 W → J pre W → (∃ rest, L = pre.map (·.2) ++ (leafL T q ty ++ rest)) →
      CallsIn Fence.wide 9 Tryz.prog 38 #[.pointer (some ⟨gt, 0, none⟩), .int .u32 ty, .int .i64 (pre.length : Nat), .func (.yield l) #[] #[]] W (LvIs T q ty w0.heap.size J Jx pre W)
  | 0, ty, pre, W, _, hq, _, _, _ => absurd hq (by have := (rankT_bd hY ty).1; omega)
  | q + 1, ty, pre, W, hs, hq, hb, hJ0, hrest => by
    have ih := leaves_in gt T S hY w0 hT0 L hLn l B J Jx hJ hYd q
    have hcb := cnt_bd hY ty
    have hcn := fun (w' : World) (h : TabW w' (some ⟨gt, 0, none⟩) T S) => countM_any _ _ _ ty w' h.tab (h.mild _)
    have hpt := fun (j : Int) (w' : World) (h : TabW w' (some ⟨gt, 0, none⟩) T S) => partM_any _ _ _ ty j w' h.tab (h.mild _)
    have hpl : pre.length ≤ 4096 := by
      obtain ⟨rest, hr⟩ := hrest
      have := congrArg List.length hr
      rw [List.length_append, List.length_map] at this
      omega
    have HT := Lib.hid hT0
    have HR := Lib.hid hrest
    have HS := Lib.hid hs
    have HQ := Lib.hid hq
    have HJ := Lib.hid hJ
    have HJ0 := Lib.hid hJ0
    have HY := Lib.hid hYd
    have HTY := Lib.hid hY
    have IH := Lib.hid ih
    clear hT0 hrest hs hq hJ hJ0 hYd hY ih
    refine callsIn_of_wp Tryz.func38 rfl trivial ?_ rfl
    simp only [Tryz.ntmps38, List.size_toArray, List.length_cons, List.length_nil, Nat.reduceAdd, Nat.reduceSub, Array.replicate_succ, Array.replicate_zero, List.push_toArray, List.append_toArray, List.nil_append, List.cons_append]
    by_cases h0 : cntT (T ty) = 0
    · rw [h0] at hcn
      obtain ⟨hsz, -⟩ := plain_bare HTY.out HS.out h0
      have hlf := leafL_one (q := q) h0
      have hxw : ∀ W1, J pre W1 → NextF L pre (pre.length, ty) W1 := fun W1 _ => ⟨rfl, by
        obtain ⟨rest, hr⟩ := HR.out
        rw [hlf] at hr
        exact ⟨rest, hr⟩⟩
      have HX := Lib.hid hxw
      have HSZ := Lib.hid hsz
      have HLF := Lib.hid hlf
      clear h0 hxw hsz hlf hpt hcb
      gi_wp2_with fail
      refine ⟨trivial, (callsIn_wide.2 (hcn W (HT.out.step hb))).mono ?_⟩
      rintro e W1 ⟨rfl, hb1⟩
      have hJ1 := abides_below_ HJ.out HJ0.out hb1
      have hyy := HY.out pre (pre.length, ty) W1 hJ1 (HX.out W1 hJ1)
      obtain ⟨fn, tmps, assign, body, hy, hRd⟩ := hyy
      dsimp only [lfA] at hy
      have hRd := round_any (n' := 8) hRd
      have hb2 := (hb1.mono (show w0.heap.size ≤ W.heap.size from hb.size))
      have w1 : IntKind.i64.wrap (((pre.length : Nat) : Int) + 1) = (pre.length : Nat) + 1 := IntWalk.i64_in _ (by omega)
      clear hcn
      gi_wp2_with fail
      refine hRd.mono ?_
      rintro e W3 (⟨rfl, hJ3, hk3⟩ | ⟨rfl, hJx3⟩)
      · clear hy hRd
        gi_wp2_with fail
        go_ret2
        exact .inl ⟨by rw [HSZ.out]; rfl, ⟨[(pre.length, ty)], HLF.out.symm, hJ3⟩, hb2.trans hk3⟩
      · clear hy hRd
        gi_wp2_with fail
        go_ret2
        exact .inr ⟨_, rfl, _, hJx3⟩
    · obtain ⟨hsum, hpp⟩ := plain_sum HTY.out HS.out h0
      have hlf := leafL_more (q := q) h0
      have hrk := fun (j : Nat) (h : (j : Int) < cntT (T ty)) => part_rank HTY.out (id := ty) h
      have hszB := (HTY.out.size ty).2.2
      have hpos := fun id => (HTY.out.size id).1
      obtain ⟨N, hN⟩ : ∃ N : Nat, cntT (T ty) = N := ⟨(cntT (T ty)).toNat, by omega⟩
      rw [hN] at hcn hsum hpp hlf hrk hcb
      have e0 : (((N : Nat) : Int) == 0) = false := by rw [beq_eq_false_iff_ne]; omega
      have htn : ((N : Nat) : Int).toNat = N := rfl
      rw [htn] at hsum hlf
      have hmono := fun (j : Nat) (hj : j ≤ N) => (show sumP T (T ty) j ≤ sumP T (T ty) N by
        have := sumP_mono hpos (T ty) (N - j) j
        rwa [show j + (N - j) = N by omega] at this)
      have hpos0 := sumP_pos hpos (T ty)
      have HSUM := Lib.hid hsum
      have HPP := Lib.hid hpp
      have HLF := Lib.hid hlf
      have HRK := Lib.hid hrk
      have HMO := Lib.hid hmono
      have HP0 := Lib.hid hpos0
      have HN := Lib.hid hN
      clear hsum hpp hlf hrk hmono hpos0 hpos h0 hN
      gi_wp2_with fail
      refine ⟨trivial, (callsIn_wide.2 (hcn W (HT.out.step hb))).mono ?_⟩
      rintro e W1 ⟨rfl, hb1⟩
      have hJ1 := abides_below_ HJ.out HJ0.out hb1
      have hb2 := (hb1.mono (show w0.heap.size ≤ W.heap.size from hb.size))
      clear hcn
      gi_wp2_with fail
      gi_loopw [2, 27] (fun a i wr => ∃ (k : Nat) (p2 : List LfI), k ≤ N ∧ i = .int .i64 (k : Nat) ∧ a = .int .i64 ((p2.length : Nat) : Int) ∧ Hid (∃ ys, p2 = pre ++ ys ∧ ys.map (·.2) = catP (leafL T q) (T ty) k ∧ ((ys.length : Nat) : Int) = sumP T (T ty) k) ∧ J p2 wr ∧ Below w0.heap.size W wr) (fun a i _ => N - (intOf i).toNat)
      case atStart => exact ⟨0, pre, by omega, rfl, rfl, Lib.hid ⟨[], by rw [List.append_nil], rfl, rfl⟩, hJ1, hb2⟩
      case round =>
        obtain ⟨k, p2, hk, rfl, rfl, HM, hJk, hbk⟩ := hrel
        have hbw := hb.trans hbk
        by_cases hlt : k < N
        · have d1 : decide (((k : Nat) : Int) < (N : Nat)) = true := by rw [decide_eq_true_eq]; omega
          have hpk := hpt k
          have hplain := HPP.out k (by omega)
          have hrank := HRK.out k (by omega)
          have hsp := HMO.out (k + 1) (by omega)
          have hs1 : sumP T (T ty) (k + 1) = sumP T (T ty) k + (T (partN (T ty) k)).size := rfl
          have hc1 : catP (leafL T q) (T ty) (k + 1) = catP (leafL T q) (T ty) k ++ leafL T q (partN (T ty) k) := rfl
          have hp1 : (partT (T ty) k).1 = partN (T ty) k := rfl
          have hQ2 := HQ.out
          have hrk2 : rankT (T (partN (T ty) k)) < (q : Int) := by
            have : rankT (T (partN (T ty) k)) < rankT (T ty) := hrank
            omega
          have hnext : ∃ rest, L = p2.map (·.2) ++ (leafL T q (partN (T ty) k) ++ rest) := by
            obtain ⟨rest, hr⟩ := HR.out
            obtain ⟨r2, hr2⟩ := catP_split (leafL T q) (T ty) N k hlt
            obtain ⟨ys, hy1, hy2, -⟩ := HM.out
            rw [HLF.out, hr2] at hr
            exact ⟨r2 ++ rest, by rw [hr, hy1, List.map_append, hy2]; simp only [List.append_assoc]⟩
          have hll := leafL_len HTY.out q (partN (T ty) k) hplain hrk2
          have hlb : ((p2.length : Nat) : Int) + (T (partN (T ty) k)).size ≤ 9000 ∧ p2.length ≤ 9000 := by
            obtain ⟨ys, hy1, -, hy3⟩ := HM.out
            rw [hy1, List.length_append]
            have := HSUM.out
            have := (HTY.out.size (partN (T ty) k)).1
            omega
          have hsu := (HTY.out.size (partN (T ty) k)).1
          rw [hp1] at hpk
          have HLL := Lib.hid hll
          have HPL := Lib.hid hplain
          have HRK2 := Lib.hid hrk2
          have HNX := Lib.hid hnext
          have HS1 := Lib.hid hs1
          have HC1 := Lib.hid hc1
          obtain ⟨hlb, hlb2⟩ := hlb
          clear hll hplain hrk2 hnext hrank hsp hp1 hQ2 hs1 hc1
          generalize partN (T ty) k = u at *
          gi_wp2_with fail
          refine ⟨trivial, (callsIn_wide.2 (hpk wr (HT.out.step hbw))).mono ?_⟩
          rintro e W2 ⟨rfl, hb3⟩
          have hJ2 := abides_below_ HJ.out hJk hb3
          have hb4 := (hb3.mono (show w0.heap.size ≤ wr.heap.size from hbw.size))
          have hb5 := hbw.trans hb4
          have hrec := callsIn_wide.1 (IH.out u p2 W2 HPL.out HRK2.out hb5 hJ2 HNX.out)
          clear hpk
          gi_wp2_with fail
          refine ⟨trivial, (callsIn_wide.2 hrec).mono ?_⟩
          rintro e W3 (⟨rfl, ⟨zs, hz, hJz⟩, hb6⟩ | ⟨a, rfl, p3, hJx⟩)
          · have hzl : ((zs.length : Nat) : Int) = (T u).size := by rw [← HLL.out, ← hz, List.length_map]
            have hbn := (hbk.trans hb4).trans hb6
            have HN2 : Hid (∃ ys, p2 ++ zs = pre ++ ys ∧ ys.map (·.2) = catP (leafL T q) (T ty) (k + 1) ∧ ((ys.length : Nat) : Int) = sumP T (T ty) (k + 1)) := Lib.hid (by
              obtain ⟨ys, hy1, hy2, hy3⟩ := HM.out
              refine ⟨ys ++ zs, by rw [hy1, List.append_assoc], by rw [List.map_append, hy2, hz, HC1.out], ?_⟩
              rw [List.length_append, HS1.out]
              omega)
            clear hrec
            gi_wp2_with fail
            go_roundw
            case rel => exact ⟨k + 1, p2 ++ zs, by omega, by go_num, by congr 1; rw [List.length_append]; omega, HN2, hJz, hbn⟩
            case measure => simp [intOf]; omega
          · clear hrec
            gi_wp2_with fail
            go_ret2
            exact .inr ⟨_, rfl, _, hJx⟩
        · have d1 : decide (((k : Nat) : Int) < (N : Nat)) = false := by rw [decide_eq_false_iff_not]; omega
          obtain rfl : k = N := by omega
          obtain ⟨ys, hy1, hy2, hy3⟩ := HM.out
          have hle : ((p2.length : Nat) : Int) = (pre.length : Nat) + (T ty).size := by rw [hy1, List.length_append, HSUM.out]; omega
          have HF := Lib.hid (show LvIs T (q + 1) ty w0.heap.size J Jx pre W (.returned (.tuple #[.int .i64 ((p2.length : Nat) : Int), .bool true])) wr from .inl ⟨by rw [hle], ⟨ys, by rw [hy2, HLF.out], by rw [← hy1]; exact hJk⟩, hbk⟩)
          clear hy1 hy2 hy3 hle
          gi_wp2_with fail
          go_ret2
          exact HF.out
end Go.Proofs.YtgfnnfljefjegaaGreatDoor
