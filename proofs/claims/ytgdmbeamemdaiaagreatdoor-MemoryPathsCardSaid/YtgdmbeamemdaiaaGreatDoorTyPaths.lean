/- Walks: MemoryPaths. -/
import Derived.Test.YtgdmbeamemdaiaaGreatDoorTyEqual
import Derived.Test.YtgdmbeamemdaiaaGreatDoorTyChain
import Derived.Test.YtgdmbeamemdaiaaGreatDoorTyGet
import Derived.Test.YtgdmbeamemdaiaaGreatDoorTW
import Derived.Test.YtgdmbeamemdaiaaGreatDoorTX
namespace Go.Proofs.YtgdmbeamemdaiaaGreatDoor
open Go.RowKit

/-- a chain, and a walk on its indices clamped -/
theorem paths_law {T : Int → TyI} (hT : Typed T) (h0 : (T 0).size = 0) {ty : Int} {l : List Int} (hl : ∀ k ∈ l, 0 ≤ k) (hp : 0 < (T ty).size) :
    ((wkW T 0 ty (clW T ty l)).2 = 0 ∧ chM T ty l = (0, 0, 121)) ∨ ((wkW T 0 ty (clW T ty l)).2 ≠ 0 ∧ chM T ty l = ((wkW T 0 ty (clW T ty l)).1, (wkW T 0 ty (clW T ty l)).2, 0) ∧
      0 < (T (wkW T 0 ty (clW T ty l)).2).size ∧ 0 ≤ (wkW T 0 ty (clW T ty l)).1 ∧ (wkW T 0 ty (clW T ty l)).1 + (T (wkW T 0 ty (clW T ty l)).2).size ≤ (T ty).size) := by
  have hc : chM T ty l = chW T 0 ty l := if_pos hp
  rw [hc, wkW_cl hl (fun id => (cnt_bd hT id).1)]
  rcases chW_err (T := T) (l := l) (a := 0) (ty := ty) with e | e
  · have hi := chW_in hT hl hp e
    generalize chW T 0 ty l = r at *
    obtain ⟨r1, r2, r3⟩ := r
    dsimp only at *
    subst e
    refine .inr ⟨fun hz => ?_, rfl, hi.1, hi.2.1, by omega⟩
    rw [hz, h0] at hi
    omega
  · rw [e]
    exact .inl ⟨rfl, rfl⟩
theorem chM_cl {T : Int → TyI} {ty : Int} {l : List Int} (hl : ∀ k ∈ l, 0 ≤ k) : chM T ty (clW T ty l) = chM T ty l := by
  unfold chM
  split
  · exact chW_cl hl
  · rfl
theorem clW_bd {T : Int → TyI} (hT : Typed T) : ∀ {l : List Int} {ty : Int}, (∀ x ∈ l, 0 ≤ x ∧ x < 4294967296) → ∀ x ∈ clW T ty l, 0 ≤ x ∧ x < 4294967296
  | [], _, _, x, hx => by cases hx
  | k :: r, ty, h, x, hx => by
    unfold clW at hx
    rcases List.mem_cons.1 hx with rfl | hx
    · have h1 := h k List.mem_cons_self
      have h2 := cnt_bd hT ty
      unfold clK
      split <;> omega
    · exact clW_bd hT (fun y hy => h y (List.mem_cons_of_mem _ hy)) x hx
/-- words 0, 1, 0, 1, .. -/
def altL (n : Nat) : List Int := (List.range n).map fun k => (((k % 2 : Nat) : Nat) : Int)
theorem altL_len (n : Nat) : (altL n).length = n := by simp [altL]
theorem altL_ix {n k : Nat} (h : k < n) : ix (altL n) k = (k % 2 : Nat) := by
  rw [ix_of (by rw [altL_len]; exact h)]
  simp [altL]
set_option maxRecDepth 100000 in
set_option maxHeartbeats 4000000 in
theorem law_paths (gen bound : Int) (A : Option Addr) (n c : Nat) (ls : List InstA) (ty : Int) (Ap : Option Addr) (np cp : Nat) (lp : List Int) (w : World) (hM : ModS w w.heap.size A n ls) (hn : n ≤ 3600000000000) (hP : Pow w) (hrp : Reads w w.heap.size 1 Ap np (Ints .u32 lp)) (hnp : np ≤ 35184372087808) (hlp : ∀ x ∈ lp, 0 ≤ x ∧ x < 4294967296)
    (hN : ∀ x ∈ ls, (∀ a ∈ x.1.2.2.2, 0 ≤ a.2.1 ∧ a.2.1 < 4294967296) ∧ (0 ≤ x.1.1 ∧ x.1.1 < 65536)) :
    Calls Tryz.prog 12 #[.agg (modC gen bound A n c), .int .u32 ty, .slice Ap np cp] w (BoolIs true w) := by
  have hb1 := (Below.refl w.heap.size w).alloc (Nat.le_refl _) (.cells (modC gen bound A n c) 25)
  have k1 := Blk.new w 25 (modC gen bound A n c)
  have hcp := copyModule_any gen bound A n c ls _ (hM.step hb1) hn
  obtain ⟨L, hL⟩ : ∃ L, L = ls.map (·.1) := ⟨_, rfl⟩
  have hu : ∀ i ∈ L, ∀ a ∈ i.2.2.2, 0 ≤ a.2.1 ∧ a.2.1 < 4294967296 := fun i hi => by
    rw [hL] at hi
    obtain ⟨x, hx, rfl⟩ := List.mem_map.1 hi
    exact (hN x hx).1
  have hop : ∀ i ∈ L, 0 ≤ i.1 ∧ i.1 < 65536 := fun i hi => by
    rw [hL] at hi
    obtain ⟨x, hx, rfl⟩ := List.mem_map.1 hi
    exact (hN x hx).2
  rw [← hL] at hcp
  clear hL hM hN
  unfold modC at *
  obtain ⟨z0, z1, z2⟩ := three_ k1
  go_enter Tryz.func12, Tryz.ntmps12
  go_wp2_with fail
  refine hcp.mono ?_
  rintro e w2 ⟨A', c', ls', rfl, hM', hL', hb2⟩
  have hb3 := below_cut hb1 hb2 (Nat.le_refl _)
  have hnw := new_copied (gen := gen) (bound := bound) (c := c') hM' hL' (hP.step hb3) hu hop
  have hone := Lib.hid (fun at_ s (h : newM bound L = (0, at_, s)) => (newM_well h).2)
  generalize newM bound L = r at *
  obtain ⟨r1, r2, s⟩ := r
  clear hcp hM' hL' hu hop z0 z1 z2 k1
  go_wp2_with fail
  refine hnw.mono ?_
  rintro e w3 ⟨hb4, ⟨h0, hw, gt, rfl, hG⟩ | ⟨h0, rfl⟩⟩
  · have h0 : r1 = 0 := h0
    have HO := Lib.hid (hone.out r2 s (by rw [h0]))
    clear hone
    have hw : WellS s := hw
    have hG : TabG w3 (some ⟨gt, 0, none⟩) s := hG
    have hb5 := below_cut hb3 hb4 (Nat.le_refl _)
    have hbs := (Below.refl w3.heap.size w3).alloc (Nat.le_refl _) (.cells #[.int .i64 0, .int .i64 0] 29)
    have hb6 := hb5.alloc hb5.size (.cells #[.int .i64 0, .int .i64 0] 29)
    have kS := Blk.new w3 29 #[.int .i64 0, .int .i64 0]
    obtain ⟨S, hT, hI⟩ := hG.step hbs
    obtain ⟨q0, q1⟩ := two_ kS
    have h00 : (s.T 0).size = 0 := by
      have hz : (0 : Int) ∉ s.ord := fun hc => HO.out 0 hc rfl
      rw [hw.out 0 hz]
      rfl
    have hY := hw.typed
    have hTW := hT
    have hcw := fun (w' : World) (h : Below w.heap.size w w') (cc : Nat) => copyWords Ap np cc lp w' hnp ((hrp.below h).more h.size)
    have hc6 := hcw _ hb6 cp
    have hmb := hn
    clear hnw hG hI h0
    go_wp2_with fail
    generalize (w3.alloc (.cells #[.int .i64 0, .int .i64 0] 29)) = W at *
    refine hc6.mono ?_
    rintro e w4 ⟨g1, rfl, ho1, hb7⟩
    have hb8 := below_cut hb6 hb7 (Nat.le_refl _)
    have hT4 := hTW.step hb7
    have hch := chain_any gt s.T S hY ty (some ⟨g1, 0, none⟩) np np lp w4 hT4 hnp (Reads.of_own ho1) hlp
    clear hc6 q0 q1 kS hbs ho1
    go_wp2_with fail
    refine hch.mono ?_
    rintro e w5 ⟨rfl, hb9⟩
    have hb10 := below_cut hb8 hb9 (Nat.le_refl _)
    have hT5 := hT4.step hb9
    have hc5 := hcw _ hb10 cp
    clear hch
    generalize hR : chM s.T ty lp = R at *
    obtain ⟨R1, R2, R3⟩ := R
    dsimp only
    go_wp2_with fail
    refine hc5.mono ?_
    rintro e w6 ⟨g2, rfl, ho2, hb11⟩
    have hb12 := below_cut hb10 hb11 (Nat.le_refl _)
    have HTH := Lib.hid hT5
    have HY := Lib.hid hY
    have HR0 := Lib.hid hR
    have HLP := Lib.hid hlp
    have H00 := Lib.hid h00
    have HO2 := Lib.hid ho2
    have hll := ho2
    have hlpn : lp.length = np := own_len ho2
    have hg2 := own_lt ho2
    have haw2 := fun (w' : World) (h : Below w.heap.size w w') => mawake_ok w'
    have hcnt := fun (u : Int) (w' : World) (h : TabW w' (some ⟨gt, 0, none⟩) s.T S) => countM_any _ _ _ u w' h.tab (h.mild _)
    have hprt := fun (u j : Int) (w' : World) (h : TabW w' (some ⟨gt, 0, none⟩) s.T S) => partM_any _ _ _ u j w' h.tab (h.mild _)
    clear hc5 hcw hT hTW hT4 hT5 hY hR hlp h00 ho2 hll hrp
    go_wp2_with fail
    go_loopg [13, 14] np (fun qq t i wr => ∃ (k : Nat) (u : Int) (cur : List Int), k + qq = np ∧ t = .int .u32 u ∧ i = .int .i64 (k : Nat) ∧ Hid (∃ done, done.length = k ∧ cur = done ++ lp.drop k ∧ clW s.T ty lp = done ++ clW s.T u (lp.drop k)) ∧ wr.ownsRow w5.heap.size 22 1 (.slice (some ⟨g2, 0, none⟩) np np) np (Ints .u32 cur) ∧ Below w5.heap.size w5 wr)
    case atStart => exact ⟨0, ty, lp, by omega, rfl, rfl, Lib.hid ⟨[], rfl, rfl, rfl⟩, HO2.out, hb11⟩
    case round =>
      obtain ⟨k, u, cur, hkq, rfl, rfl, HC, hoc, hbr⟩ := hrel
      have hbw := below_cut hb10 hbr (Nat.le_refl _)
      by_cases hlt : k < np
      · have d1 : decide (((k : Nat) : Int) < (np : Nat)) = true := by rw [decide_eq_true_eq]; omega
        have hlt2 : ((k : Nat) : Int) < (np : Nat) := by omega
        obtain ⟨done, h1, h2, h3⟩ := HC.out
        have hdk : lp.drop k = ix lp k :: lp.drop (k + 1) := by rw [ix_of (by omega)]; exact List.drop_eq_getElem_cons (by omega)
        have hxl := HLP.out (ix lp k) (ix_in (by omega))
        have hcb := cnt_bd HY.out u
        have hcn := hcnt u
        rw [hdk] at h2 h3
        have hcx : ix cur k = ix lp k := by
          rw [h2]
          unfold ix
          rw [List.getD_eq_getElem?_getD, List.getElem?_append_right (by omega), h1, Nat.sub_self]
          rfl
        have hset : ∀ y, y = clK (cntT (s.T u)) (ix lp k) → ∃ d2, d2.length = k + 1 ∧ cur.set k y = d2 ++ lp.drop (k + 1) ∧ clW s.T ty lp = d2 ++ clW s.T (partT (s.T u) y).1 (lp.drop (k + 1)) := fun y hy => by
          refine ⟨done ++ [y], by rw [List.length_append, h1]; rfl, ?_, ?_⟩
          · rw [h2]
            simp [h1]
          · have e : clW s.T u (ix lp k :: lp.drop (k + 1)) = clK (cntT (s.T u)) (ix lp k) :: clW s.T (partT (s.T u) (clK (cntT (s.T u)) (ix lp k))).1 (lp.drop (k + 1)) := rfl
            rw [h3, e, ← hy, List.append_assoc]
            rfl
        have hsame : cur.set k (ix lp k) = cur := by
          have hlc : cur.length = np := own_len hoc
          rw [← hcx, ix_of (by omega)]
          exact List.set_getElem_self ..
        have c0 := own_int_at hoc hlt
        rw [hcx] at c0
        have HSET := Lib.hid hset
        have HSAME := Lib.hid hsame
        clear hset hsame h1 h2 h3 hdk hcx HC
        generalize ix lp k = x at *
        have wM : IntKind.u32.wrap (cntT (s.T u)) = cntT (s.T u) := IntWalk.u32_in _ (by omega)
        have wM2 : cntT (s.T u) % 4294967296 = cntT (s.T u) := by omega
        by_cases hA : 0 < cntT (s.T u) ∧ cntT (s.T u) ≤ x
        · obtain ⟨hA1, hA2⟩ := hA
          have hy : cntT (s.T u) - 1 = clK (cntT (s.T u)) x := by unfold clK; rw [if_pos ⟨hA1, hA2⟩]
          have hst := HSET.out _ hy
          have HST := Lib.hid hst
          have hpt := hprt u (cntT (s.T u) - 1)
          have d2 : decide (cntT (s.T u) > 0) = true := by rw [decide_eq_true_eq]; exact hA1
          have d3 : decide (x ≥ cntT (s.T u)) = true := by rw [decide_eq_true_eq]; exact hA2
          have wN : IntKind.i64.wrap (cntT (s.T u) - 1) = cntT (s.T u) - 1 := IntWalk.i64_in _ (by omega)
          have wP : IntKind.u32.wrap (cntT (s.T u) - 1) = cntT (s.T u) - 1 := IntWalk.u32_in _ (by omega)
          have wP2 : (cntT (s.T u) - 1) % 4294967296 = cntT (s.T u) - 1 := by omega
          clear hst hy HSET HSAME
          generalize cntT (s.T u) = N at *
          go_wp2_with fail
          refine (hcn wr (HTH.out.step hbr)).mono ?_
          rintro e w7 ⟨rfl, hb13⟩
          have ho7 := own_below hoc hb13
          have hb14 := below_cut hbr hb13 (Nat.le_refl _)
          have c0 := (hb13.cell (p := ⟨g2, k, none⟩) (own_lt hoc).2).trans c0
          have fz := ho7.frozenAt k
          have ho8 := own_int_set ho7 k (N - 1)
          have hb15 := hb14.setCell (p := ⟨g2, k, none⟩) (by show w5.heap.size ≤ g2; exact (own_lt hoc).1) (.int .u32 (N - 1))
          clear hcn
          go_upto_region 13 with fail
          generalize w7.setCell ⟨g2, k, none⟩ (.int .u32 (N - 1)) = w8 at *
          have hlc : cur.length = np := own_len hoc
          have c1 := own_int_at ho8 hlt
          have hix : ix (cur.set k (N - 1)) k = N - 1 := by unfold ix; rw [List.getD_eq_getElem?_getD, List.getElem?_set_self (by omega)]; rfl
          rw [hix] at c1
          clear hix c0 fz
          go_wp2_with fail
          refine (hpt w8 (HTH.out.step hb15)).mono ?_
          rintro e w9 ⟨rfl, hb16⟩
          have ho9 := own_below ho8 hb16
          have hb17 := below_cut hb15 hb16 (Nat.le_refl _)
          clear hpt
          go_wp2_with fail
          go_roundg (np - (k + 1))
          case measure => omega
          case rel => exact ⟨k + 1, _, _, by omega, rfl, by go_num, HST, ho9, hb17⟩
        · have hy : x = clK (cntT (s.T u)) x := by unfold clK; rw [if_neg hA]
          have hst := HSET.out _ hy
          rw [HSAME.out] at hst
          have HST := Lib.hid hst
          have hpt := hprt u x
          clear hst hy HSET HSAME
          by_cases hA1 : 0 < cntT (s.T u)
          · have d2 : decide (cntT (s.T u) > 0) = true := by rw [decide_eq_true_eq]; exact hA1
            have d3 : decide (x ≥ cntT (s.T u)) = false := by rw [decide_eq_false_iff_not]; exact fun hc => hA ⟨hA1, hc⟩
            clear hA
            generalize cntT (s.T u) = N at *
            go_wp2_with fail
            refine (hcn wr (HTH.out.step hbr)).mono ?_
            rintro e w7 ⟨rfl, hb13⟩
            have ho7 := own_below hoc hb13
            have hb14 := below_cut hbr hb13 (Nat.le_refl _)
            have c0 := (hb13.cell (p := ⟨g2, k, none⟩) (own_lt hoc).2).trans c0
            clear hcn
            go_wp2_with fail
            refine (hpt w7 (HTH.out.step hb14)).mono ?_
            rintro e w9 ⟨rfl, hb16⟩
            have ho9 := own_below ho7 hb16
            have hb17 := below_cut hb14 hb16 (Nat.le_refl _)
            clear hpt
            go_wp2_with fail
            go_roundg (np - (k + 1))
            case measure => omega
            case rel => exact ⟨k + 1, _, _, by omega, rfl, by go_num, HST, ho9, hb17⟩
          · have d2 : decide (cntT (s.T u) > 0) = false := by rw [decide_eq_false_iff_not]; exact hA1
            clear hA hA1
            generalize cntT (s.T u) = N at *
            go_wp2_with fail
            refine (hcn wr (HTH.out.step hbr)).mono ?_
            rintro e w7 ⟨rfl, hb13⟩
            have ho7 := own_below hoc hb13
            have hb14 := below_cut hbr hb13 (Nat.le_refl _)
            have c0 := (hb13.cell (p := ⟨g2, k, none⟩) (own_lt hoc).2).trans c0
            clear hcn
            go_wp2_with fail
            refine (hpt w7 (HTH.out.step hb14)).mono ?_
            rintro e w9 ⟨rfl, hb16⟩
            have ho9 := own_below ho7 hb16
            have hb17 := below_cut hb14 hb16 (Nat.le_refl _)
            clear hpt
            go_wp2_with fail
            go_roundg (np - (k + 1))
            case measure => omega
            case rel => exact ⟨k + 1, _, _, by omega, rfl, by go_num, HST, ho9, hb17⟩
      · have d1 : decide (((k : Nat) : Int) < (np : Nat)) = false := by rw [decide_eq_false_iff_not]; omega
        obtain rfl : k = np := by omega
        have hcur : cur = clW s.T ty lp := by
          obtain ⟨done, h1, h2, h3⟩ := HC.out
          rw [List.drop_of_length_le (by omega)] at h2 h3
          rw [h2, h3]
          rfl
        rw [hcur] at hoc
        clear hcur HC HO2 hcnt hprt
        have hl2b := clW_bd HY.out (ty := ty) HLP.out
        have hl2n : (clW s.T ty lp).length = k := by rw [clW_len]; exact hlpn
        have hcm : chM s.T ty (clW s.T ty lp) = chM s.T ty lp := chM_cl (fun x hx => (HLP.out x hx).1)
        rw [HR0.out] at hcm
        have hcw2 := copyWords (some ⟨g2, 0, none⟩) k k (clW s.T ty lp) wr hnp (Reads.of_own hoc)
        have e1 : (R1 != R1) = false := by simp
        have e2 : (R2 != R2) = false := by simp
        have e3 : (R3 != R3) = false := by simp
        have hpl := paths_law HY.out H00.out (ty := ty) (l := lp) (fun x hx => (HLP.out x hx).1)
        have hsm := (HY.out.size ty).2.2
        generalize hl2 : clW s.T ty lp = l2 at *
        have HPL := Lib.hid hpl
        have HCM := Lib.hid hcm
        have HL2 := Lib.hid hl2b
        clear hpl hcm hl2b hl2 HLP H00
        go_wp2_with fail
        refine hcw2.mono ?_
        rintro e w7 ⟨g3, rfl, ho3, hb13⟩
        have hb14 := below_cut hbr hb13 (Nat.le_refl _)
        have hch2 := chain_any gt s.T S HY.out ty (some ⟨g3, 0, none⟩) k k l2 w7 (HTH.out.step hb14) hnp (Reads.of_own ho3) HL2.out
        rw [HCM.out] at hch2
        dsimp only at hch2
        have hoc7 := own_below hoc hb13
        clear hcw2 ho3 hoc
        go_wp2_with fail
        refine hch2.mono ?_
        rintro e w8 ⟨rfl, hb15⟩
        have hb16 := below_cut hb14 hb15 (Nat.le_refl _)
        have hoc8 := own_below hoc7 hb15
        have hbw8 := below_cut hb10 hb16 (Nat.le_refl _)
        clear hch2 hoc7
        by_cases hp : 0 < (s.T ty).size
        · obtain ⟨m, hm⟩ : ∃ m : Nat, (m : Int) = (s.T ty).size := ⟨(s.T ty).size.toNat, by omega⟩
          have hz := zero_well gt s.T S HY.out ty w8 (HTH.out.step hb16) hp m hm
          have hm4 : m ≤ 4096 := by omega
          have HP := Lib.hid hp
          have HM := Lib.hid hm
          have hsz := fun (u : Int) (w' : World) (h : TabW w' (some ⟨gt, 0, none⟩) s.T S) => sizeM_any _ _ _ u w' h.tab
          clear hp hm hsm
          go_wp2_with fail
          refine hz.mono ?_
          rintro e w9 ⟨gz, rfl, hoz, hb17⟩
          have hgz := own_lt hoz
          clear hz
          rw [← Ints_replicate, ← mid_zero (altL m)] at hoz
          have HOZ := Lib.hid hoz
          clear hoz
          go_wp2_with fail
          go_loopg [21] m (fun qq i wr => ∃ k2 : Nat, k2 + qq = m ∧ i = .int .i64 (k2 : Nat) ∧ wr.ownsRow w8.heap.size 22 1 (.slice (some ⟨gz, 0, none⟩) m m) m (Ints .u32 (mid (altL m) m k2)) ∧ Below w8.heap.size w8 wr)
          case atStart => exact ⟨0, by omega, rfl, HOZ.out, hb17⟩
          case round =>
            obtain ⟨k2, hkq2, rfl, hozr, hbz⟩ := hrel
            by_cases hlt9 : k2 < m
            · have d1 : decide (((k2 : Nat) : Int) < (m : Nat)) = true := by rw [decide_eq_true_eq]; omega
              have hlt92 : ((k2 : Nat) : Int) < (m : Nat) := by omega
              have t1 : Int.tmod ((k2 : Nat) : Int) 2 = ((k2 % 2 : Nat) : Int) := by rw [Int.tmod_eq_emod_of_nonneg (by omega)]; omega
              have t2 : IntKind.i64.wrap ((k2 % 2 : Nat) : Int) = ((k2 % 2 : Nat) : Int) := IntWalk.i64_in _ (by omega)
              have t3 : IntKind.u32.wrap ((k2 % 2 : Nat) : Int) = ((k2 % 2 : Nat) : Int) := IntWalk.u32_in _ (by omega)
              have cz := own_int_at hozr hlt9
              have fz := hozr.frozenAt k2
              have ho9 := own_int_set hozr k2 ((k2 % 2 : Nat) : Int)
              have hms := mid_set (altL_len m) hlt9
              rw [altL_ix hlt9] at hms
              rw [hms] at ho9
              have hbz2 := hbz.setCell (p := ⟨gz, k2, none⟩) (by show w8.heap.size ≤ gz; exact hgz.1) (.int .u32 ((k2 % 2 : Nat) : Int))
              have HO9 := Lib.hid ho9
              have HB9 := Lib.hid hbz2
              clear hms ho9 hbz2
              go_wp2_with fail
              go_roundg (m - (k2 + 1))
              case measure => omega
              case rel => exact ⟨k2 + 1, by omega, by go_num, HO9.out, HB9.out⟩
            · have d1 : decide (((k2 : Nat) : Int) < (m : Nat)) = false := by rw [decide_eq_false_iff_not]; omega
              obtain rfl : k2 = m := by omega
              rw [mid_all (altL_len k2)] at hozr
              have hbz8 := below_cut hbw8 hbz (Nat.le_refl _)
              have hT9 := HTH.out.step (below_cut hb16 hbz (Nat.le_refl _))
              have hoc9 := own_below hoc8 hbz
              have hcz := copyWords (some ⟨gz, 0, none⟩) k2 k2 (altL k2) wr (by omega) (Reads.of_own hozr)
              have hfit : fitsV s.T ty (altL k2) = true := fitsV_small HP.out (by rw [altL_len]; exact HM.out) (fun j hj => by rw [altL_len] at hj; rw [altL_ix hj]; omega)
              have HF := Lib.hid hfit
              clear hfit HOZ
              go_wp2_with fail
              refine hcz.mono ?_
              rintro e w10 ⟨g4, rfl, ho4, hb18⟩
              have hb19 := below_cut hbz8 hb18 (Nat.le_refl _)
              have hT10 := hT9.step hb18
              have hget := get_well gt s.T S HY.out ty (some ⟨g4, 0, none⟩) k2 k2 (altL k2) (some ⟨g2, 0, none⟩) k k l2 w10 hT10 (Reads.of_own ho4) (Reads.of_own (own_below hoc9 hb18)) HP.out HM.out (Nat.le_refl _) HF.out hnp HL2.out
              have hoz10 := own_below hozr hb18
              clear hcz ho4 hoc9 hozr hT9
              generalize hr9 : wkW s.T 0 ty l2 = r9 at *
              obtain ⟨r91, r92⟩ := r9
              go_wp2_with fail
              refine hget.mono ?_
              rintro e w11 ⟨hb20, ⟨hz0, rfl⟩ | ⟨hz0, p, q, A9, c9, hp9, hs9, rfl, ho9⟩⟩
              · have hz0 : r92 = 0 := hz0
                have hb21 := below_cut hb19 hb20 (Nat.le_refl _)
                have hR9 : (R1, R2, R3) = ((0 : Int), (0 : Int), (121 : Int)) := by
                  rcases HPL.out HP.out with ⟨-, h⟩ | ⟨h, -⟩
                  · rw [← HR0.out]; exact h
                  · exact absurd hz0 h
                injection hR9 with hR1 hR9
                injection hR9 with hR2 hR3
                subst hR1 hR2 hR3
                clear hget HPL hz0
                go_wp2_with fail
                refine (haw2 w11 hb21).mono ?_
                rintro e w12 ⟨rfl, hb22⟩
                have hb23 := below_cut hb21 hb22 (Nat.le_refl _)
                go_wp2_with fail
                go_ret
                exact ⟨rfl, hb23⟩
              · have hz0 : r92 ≠ 0 := hz0
                have hp9 : r91 = p := hp9
                have hs9 : (s.T r92).size = q := hs9
                have hb21 := below_cut hb19 hb20 (Nat.le_refl _)
                obtain ⟨hR9, hq1, -, hq3⟩ : (R1, R2, R3) = (r91, r92, (0 : Int)) ∧ 0 < (s.T r92).size ∧ 0 ≤ r91 ∧ r91 + (s.T r92).size ≤ (s.T ty).size := by
                  rcases HPL.out HP.out with ⟨h, -⟩ | ⟨-, h, h1, h2, h3⟩
                  · exact absurd h hz0
                  · exact ⟨by rw [← HR0.out]; exact h, h1, h2, h3⟩
                injection hR9 with hR1 hR9
                injection hR9 with hR2 hR3
                have hMM := HM.out
                rw [hs9] at hq1 hq3
                subst hR1 hR2 hR3 hp9
                have hoz11 := own_below hoz10 hb20
                have hgz11 := own_lt hoz11
                have hszq := hsz R2 
                rw [hs9] at hszq
                have hpq : p + q ≤ k2 := by omega
                have hcp : ¬ k2 = p := by omega
                have hq0 : 1 ≤ q := by omega
                have wS : IntKind.i64.wrap (((p : Nat) : Int) + (q : Nat)) = (p : Nat) + (q : Nat) := IntWalk.i64_in _ (by omega)
                have hge : decide (((p : Nat) : Int) ≥ 0) = true := by rw [decide_eq_true_eq]; omega
                have hle : decide (((p : Nat) : Int) + (q : Nat) ≤ (k2 : Nat)) = true := by rw [decide_eq_true_eq]; omega
                have hws := fun (cc : Nat) => words_same A9 (some ⟨gz, 0 + p, none⟩) q q c9 cc ((altL k2).drop p |>.take q) ((altL k2).drop p |>.take q) w11 (by omega) ((Reads.of_own ho9)) (reads_mid (off := 0) (fun j hj => by rw [Nat.zero_add]; exact own_int_at hoz11 hj) hgz11.2 (altL_len k2) hpq)
                rw [sameB_refl, Nat.zero_add] at hws
                have hT11 := hT10.step hb20
                clear hget HPL hz0 hMM hs9 ho9 hoz10 hoz11
                go_wp2_with fail
                refine (hws _).mono ?_
                rintro e w12 ⟨rfl, hd⟩
                have hb22 := below_cut hb21 (hd.below w11.heap.size) (Nat.le_refl _)
                have hs12 := hszq w12 (hT11.step (hd.below w11.heap.size))
                have eq9 : (((q : Nat) : Int) == (q : Nat)) = true := by simp
                clear hws hszq
                go_wp2_with fail
                refine hs12.mono ?_
                rintro e w13 ⟨rfl, hb23⟩
                have hb24 := below_cut hb22 hb23 (Nat.le_refl _)
                clear hs12
                go_wp2_with fail
                refine (haw2 w13 hb24).mono ?_
                rintro e w14 ⟨rfl, hb25⟩
                have hb26 := below_cut hb24 hb25 (Nat.le_refl _)
                go_wp2_with fail
                go_ret
                exact ⟨rfl, hb26⟩
        · have hR9 : (R1, R2, R3) = ((0 : Int), (0 : Int), (100 : Int)) := by rw [← HR0.out]; exact if_neg hp
          injection hR9 with hR1 hR9
          injection hR9 with hR2 hR3
          subst hR1 hR2 hR3
          have hz := zero_none gt s.T S ty w8 (HTH.out.step hb16) hp
          clear HPL hp
          go_wp2_with fail
          refine hz.mono ?_
          rintro e w9 ⟨rfl, hb17⟩
          have hb18 := below_cut hbw8 hb17 (Nat.le_refl _)
          clear hz
          go_wp2_with fail
          refine (haw2 w9 hb18).mono ?_
          rintro e w10 ⟨rfl, hb19⟩
          have hb20 := below_cut hb18 hb19 (Nat.le_refl _)
          go_wp2_with fail
          go_ret
          exact ⟨rfl, hb20⟩
  · have h0 : r1 ≠ 0 := h0
    have hb5 := below_cut hb3 hb4 (Nat.le_refl _)
    have hb6 := hb5.alloc hb5.size (.cells #[.int .i64 r1, .int .i64 r2] 29)
    have kS := Blk.new w3 29 #[.int .i64 r1, .int .i64 r2]
    obtain ⟨q0, q1⟩ := two_ kS
    have e0 : (r1 != 0) = true := by simpa using h0
    have haw := mawake_ok (w3.alloc (.cells #[.int .i64 r1, .int .i64 r2] 29))
    clear hnw h0
    go_wp2_with fail
    generalize (w3.alloc (.cells #[.int .i64 r1, .int .i64 r2] 29)) = W at *
    refine haw.mono ?_
    rintro e w5 ⟨rfl, hb9⟩
    have hb10 := below_cut hb6 hb9 (Nat.le_refl _)
    clear q0 q1
    go_wp2_with fail
    go_ret
    exact ⟨rfl, hb10⟩
end Go.Proofs.YtgdmbeamemdaiaaGreatDoor
