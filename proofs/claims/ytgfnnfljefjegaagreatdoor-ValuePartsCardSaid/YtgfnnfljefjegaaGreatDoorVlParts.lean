/- Walks: the law of ValueParts: what was put is got, and nothing else has changed; by a path in two steps. (printed by wip/tools/genvlparts.py). -/
import Derived.Test.YtgfnnfljefjegaaGreatDoorVlPartW
namespace Go.Proofs.YtgfnnfljefjegaaGreatDoor
open Go.RowKit

theorem got_few {T : Int → TyI} (hT : Typed T) {ty : Int} {ws l : List Int} (hu : U32 ws) (hl : U32 l) : (getV T ty ws l).2.1.length ≤ 4096 := by
  generalize h : getV T ty ws l = V
  obtain ⟨p, old, e⟩ := V
  by_cases he : e = 0
  · subst he
    exact ((get_ok hT hu hl h).few hT).2.1
  · rw [(get_err h he).2]
    exact Nat.zero_le _
set_option maxRecDepth 100000 in
set_option maxHeartbeats 16000000 in
theorem law_vparts (gen bound : Int) (A : Option Addr) (n c : Nat) (ls : List InstA) (ty : Int) (A2 : Option Addr) (n2 c2 : Nat) (ws : List Int) (A3 : Option Addr) (n3 c3 : Nat) (path : List Int) (A4 : Option Addr) (n4 c4 : Nat) (part : List Int) (A5 : Option Addr) (n5 c5 : Nat) (other : List Int) (w : World) (hM : ModS w w.heap.size A n ls) (hn : n ≤ 3600000000000) (hP : Pow w) (hE : Errs w)
    (hN : ∀ x ∈ ls, (∀ a ∈ x.1.2.2.2, 0 ≤ a.2.1 ∧ a.2.1 < 4294967296) ∧ (0 ≤ x.1.1 ∧ x.1.1 < 65536)) (hn2 : n2 ≤ 35184372087808) (hr2 : Reads w w.heap.size 1 A2 n2 (Ints .u32 ws)) (u2 : U32 ws) (hn3 : n3 ≤ 35184372087808) (hr3 : Reads w w.heap.size 1 A3 n3 (Ints .u32 path)) (u3 : U32 path)
    (hn4 : n4 ≤ 35184372087808) (hr4 : Reads w w.heap.size 1 A4 n4 (Ints .u32 part)) (u4 : U32 part) (hn5 : n5 ≤ 35184372087808) (hr5 : Reads w w.heap.size 1 A5 n5 (Ints .u32 other)) (u5 : U32 other) :
    Calls Tryz.prog 5 #[.agg (modC gen bound A n c), .int .u32 ty, .slice A2 n2 c2, .slice A3 n3 c3, .slice A4 n4 c4, .slice A5 n5 c5] w (BoolIs true w) := by
  have hb1 := (Below.refl w.heap.size w).alloc (Nat.le_refl _) (.cells (modC gen bound A n c) 25)
  have k1 := Blk.new w 25 (modC gen bound A n c)
  have hcp := copyModule_any gen bound A n c ls _ (hM.step hb1) hn
  obtain ⟨L, hL⟩ : ∃ L, L = ls.map (·.1) := ⟨_, rfl⟩
  obtain ⟨hu, hop⟩ := use_ hL hN
  rw [← hL] at hcp
  clear hL hM hN
  unfold modC at *
  obtain ⟨z0, z1, z2⟩ := three_ k1
  have Rw := Lib.hid hr2
  have Rp := Lib.hid hr3
  have Rq := Lib.hid hr4
  have Ro := Lib.hid hr5
  have HU := Lib.hid (And.intro u2 (And.intro u3 (And.intro u4 u5)))
  have hl2 := hr2.len
  have hl3 := hr3.len
  have hl4 := hr4.len
  have hl5 := hr5.len
  clear hr2 hr3 hr4 hr5 u2 u3 u4 u5
  go_enter Tryz.func5, Tryz.ntmps5
  go_wp2_with fail
  refine hcp.mono ?_
  rintro e w2 ⟨A', c', ls', rfl, hM', hL', hb2⟩
  have hb3 := below_cut hb1 hb2 (Nat.le_refl _)
  have hnw := new_copied (gen := gen) (bound := bound) (c := c') hM' hL' (hP.step hb3) hu hop
  generalize newM bound L = r at *
  obtain ⟨r1, r2, s⟩ := r
  clear hcp hM' hL' hu hop z0 z1 z2 k1
  go_wp2_with fail
  refine hnw.mono ?_
  rintro e w3 ⟨hb4, ⟨h0, hw, gt, rfl, hG⟩ | ⟨h0, rfl⟩⟩
  · have hw : WellS s := hw
    have hG : TabG w3 (some ⟨gt, 0, none⟩) s := hG
    have hb5 := below_cut hb3 hb4 (Nat.le_refl _)
    have hbs := (Below.refl w3.heap.size w3).alloc (Nat.le_refl _) (.cells #[.int .i64 0, .int .i64 0] 29)
    have hb6 := hb5.alloc hb5.size (.cells #[.int .i64 0, .int .i64 0] 29)
    have kS := Blk.new w3 29 #[.int .i64 0, .int .i64 0]
    obtain ⟨S, hT, -⟩ := hG.step hbs
    obtain ⟨q0, q1⟩ := two_ kS
    have hO : RdOk (w3.alloc (.cells #[.int .i64 0, .int .i64 0] 29)) gt s.T S := ⟨well_typed hw, hT, hP.step hb6, hE.step hb6⟩
    have HO := Lib.hid hO
    replace Rw := Lib.hid (rd_on Rw.out hb6)
    replace Rp := Lib.hid (rd_on Rp.out hb6)
    replace Rq := Lib.hid (rd_on Rq.out hb6)
    replace Ro := Lib.hid (rd_on Ro.out hb6)
    have B := hb6
    clear hnw hG h0 hw hT hO hP hE hbs hb6 hb5 hb4 hb3
    go_wp2_with fail
    generalize (w3.alloc (.cells #[.int .i64 0, .int .i64 0] 29)) = W at *
    clear q0 q1
    have hc4 := copyWords A2 n2 c2 ws W hn2 Rw.out
    refine hc4.mono ?_
    rintro e w4 ⟨g4, rfl, ho4, hb4⟩
    clear hc4
    replace HO := Lib.hid (HO.out.on hb4)
    replace B := below_cut B hb4 (Nat.le_refl _)
    replace Rw := Lib.hid (rd_on Rw.out hb4)
    replace Rp := Lib.hid (rd_on Rp.out hb4)
    replace Rq := Lib.hid (rd_on Rq.out hb4)
    replace Ro := Lib.hid (rd_on Ro.out hb4)
    have T1 := Lib.hid (Reads.of_own ho4)
    clear ho4 hb4
    have hc5 := copyWords A3 n3 c3 path w4 hn3 Rp.out
    go_wp2_with fail
    refine hc5.mono ?_
    rintro e w5 ⟨g5, rfl, ho5, hb5⟩
    clear hc5
    replace HO := Lib.hid (HO.out.on hb5)
    replace B := below_cut B hb5 (Nat.le_refl _)
    replace Rw := Lib.hid (rd_on Rw.out hb5)
    replace Rp := Lib.hid (rd_on Rp.out hb5)
    replace Rq := Lib.hid (rd_on Rq.out hb5)
    replace Ro := Lib.hid (rd_on Ro.out hb5)
    replace T1 := Lib.hid (rd_on T1.out hb5)
    have T2 := Lib.hid (Reads.of_own ho5)
    clear ho5
    clear hb5
    have hc6 := get_gen gt s.T S HO.out.ty ty (some ⟨g4, 0, none⟩) n2 n2 ws (some ⟨g5, 0, none⟩) n3 n3 path w5 HO.out.tab T1.out T2.out (Nat.le_refl _) (by omega) HU.out.2.1
    generalize hV : getV s.T ty ws path = V at hc6
    obtain ⟨p, old, ee⟩ := V
    have HV := Lib.hid hV
    clear hV
    unfold GenIs at hc6
    dsimp only at hc6
    go_wp2_with fail
    refine hc6.mono ?_
    rintro e w6 ⟨A6, c6, rfl, ho6, hb6⟩
    clear hc6
    replace HO := Lib.hid (HO.out.on hb6)
    replace B := below_cut B hb6 (Nat.le_refl _)
    replace Rw := Lib.hid (rd_on Rw.out hb6)
    replace Rp := Lib.hid (rd_on Rp.out hb6)
    replace Rq := Lib.hid (rd_on Rq.out hb6)
    replace Ro := Lib.hid (rd_on Ro.out hb6)
    replace T1 := Lib.hid (rd_on T1.out hb6)
    replace T2 := Lib.hid (rd_on T2.out hb6)
    clear T1
    clear T2
    have Rold := Lib.hid (Reads.of_own ho6)
    clear ho6
    clear hb6
    by_cases he : ee = 0
    · subst he
      have PK := Lib.hid (get_ok HO.out.ty HU.out.1 HU.out.2.1 HV.out)
      obtain ⟨f1, f2, f3, f4⟩ := PK.out.few HO.out.ty
      have hpl3 := found_len HO.out.ty path ty (fun k hk => (HU.out.2.1 k hk).1) PK.out.plain PK.out.found
      have hrk := (rankT_bd HO.out.ty ty).2
      have n3s : n3 ≤ 1024 := by omega
      have HF := Lib.hid (And.intro f3 f4)
      clear f3 f4 hpl3 hrk
      have hc7 := copyWords A2 n2 c2 ws w6 hn2 Rw.out
      go_wp2_with fail
      refine hc7.mono ?_
      rintro e w7 ⟨g7, rfl, ho7, hb7⟩
      clear hc7
      replace HO := Lib.hid (HO.out.on hb7)
      replace B := below_cut B hb7 (Nat.le_refl _)
      replace Rw := Lib.hid (rd_on Rw.out hb7)
      replace Rp := Lib.hid (rd_on Rp.out hb7)
      replace Rq := Lib.hid (rd_on Rq.out hb7)
      replace Ro := Lib.hid (rd_on Ro.out hb7)
      replace Rold := Lib.hid (rd_on Rold.out hb7)
      have T1 := Lib.hid (Reads.of_own ho7)
      clear ho7
      clear hb7
      have hc8 := copyWords A3 n3 c3 path w7 hn3 Rp.out
      go_wp2_with fail
      refine hc8.mono ?_
      rintro e w8 ⟨g8, rfl, ho8, hb8⟩
      clear hc8
      replace HO := Lib.hid (HO.out.on hb8)
      replace B := below_cut B hb8 (Nat.le_refl _)
      replace Rw := Lib.hid (rd_on Rw.out hb8)
      replace Rp := Lib.hid (rd_on Rp.out hb8)
      replace Rq := Lib.hid (rd_on Rq.out hb8)
      replace Ro := Lib.hid (rd_on Ro.out hb8)
      replace Rold := Lib.hid (rd_on Rold.out hb8)
      replace T1 := Lib.hid (rd_on T1.out hb8)
      have T2 := Lib.hid (Reads.of_own ho8)
      clear ho8
      clear hb8
      have hc9 := copyWords A6 old.length c6 old w8 (by omega) Rold.out
      go_wp2_with fail
      refine hc9.mono ?_
      rintro e w9 ⟨g9, rfl, ho9, hb9⟩
      clear hc9
      replace HO := Lib.hid (HO.out.on hb9)
      replace B := below_cut B hb9 (Nat.le_refl _)
      replace Rw := Lib.hid (rd_on Rw.out hb9)
      replace Rp := Lib.hid (rd_on Rp.out hb9)
      replace Rq := Lib.hid (rd_on Rq.out hb9)
      replace Ro := Lib.hid (rd_on Ro.out hb9)
      replace Rold := Lib.hid (rd_on Rold.out hb9)
      replace T1 := Lib.hid (rd_on T1.out hb9)
      replace T2 := Lib.hid (rd_on T2.out hb9)
      have T3 := Lib.hid (Reads.of_own ho9)
      clear ho9
      clear hb9
      have hc10 := put_gen gt s.T S HO.out.ty ty (some ⟨g7, 0, none⟩) n2 n2 ws (some ⟨g8, 0, none⟩) n3 n3 path (some ⟨g9, 0, none⟩) old.length old.length old w9 HO.out.tab T1.out T2.out T3.out (by omega) HU.out.2.1
      rw [PK.out.back] at hc10
      unfold PutIs at hc10
      dsimp only at hc10
      go_wp2_with fail
      refine hc10.mono ?_
      rintro e w10 ⟨A10, c10, -, rfl, ho10, hb10⟩
      clear hc10
      replace HO := Lib.hid (HO.out.on hb10)
      replace B := below_cut B hb10 (Nat.le_refl _)
      replace Rw := Lib.hid (rd_on Rw.out hb10)
      replace Rp := Lib.hid (rd_on Rp.out hb10)
      replace Rq := Lib.hid (rd_on Rq.out hb10)
      replace Ro := Lib.hid (rd_on Ro.out hb10)
      replace Rold := Lib.hid (rd_on Rold.out hb10)
      replace T1 := Lib.hid (rd_on T1.out hb10)
      replace T2 := Lib.hid (rd_on T2.out hb10)
      replace T3 := Lib.hid (rd_on T3.out hb10)
      clear T1
      clear T2
      clear T3
      have Rsame := Lib.hid (Reads.of_own ho10)
      clear ho10
      clear hb10
      rw [hl2] at Rsame ⊢
      have hc11 := words_same A10 A2 n2 n2 c10 c2 ws ws w10 (by omega) Rsame.out Rw.out
      rw [same_refl] at hc11
      go_wp2_with fail
      refine hc11.mono ?_
      rintro e w11 ⟨rfl, hd11⟩
      have hb11 := hd11.below w10.heap.size
      clear hc11 hd11
      replace HO := Lib.hid (HO.out.on hb11)
      replace B := below_cut B hb11 (Nat.le_refl _)
      replace Rw := Lib.hid (rd_on Rw.out hb11)
      replace Rp := Lib.hid (rd_on Rp.out hb11)
      replace Rq := Lib.hid (rd_on Rq.out hb11)
      replace Ro := Lib.hid (rd_on Ro.out hb11)
      replace Rold := Lib.hid (rd_on Rold.out hb11)
      replace Rsame := Lib.hid (rd_on Rsame.out hb11)
      clear hb11
      clear Rsame
      have hc12 := fits_all gt s.T S HO.out.ty p A6 old.length c6 old w11 HO.out.tab Rold.out
      rw [PK.out.fits.1] at hc12
      unfold BoolIs at hc12
      go_wp2_with fail
      refine hc12.mono ?_
      rintro e w12 ⟨rfl, hb12⟩
      clear hc12
      replace HO := Lib.hid (HO.out.on hb12)
      replace B := below_cut B hb12 (Nat.le_refl _)
      replace Rw := Lib.hid (rd_on Rw.out hb12)
      replace Rp := Lib.hid (rd_on Rp.out hb12)
      replace Rq := Lib.hid (rd_on Rq.out hb12)
      replace Ro := Lib.hid (rd_on Ro.out hb12)
      replace Rold := Lib.hid (rd_on Rold.out hb12)
      clear hb12
      have hc13 := copyWords A6 old.length c6 old w12 (by omega) Rold.out
      go_wp2_with fail
      refine hc13.mono ?_
      rintro e w13 ⟨g13, rfl, ho13, hb13⟩
      clear hc13
      replace HO := Lib.hid (HO.out.on hb13)
      replace B := below_cut B hb13 (Nat.le_refl _)
      replace Rw := Lib.hid (rd_on Rw.out hb13)
      replace Rp := Lib.hid (rd_on Rp.out hb13)
      replace Rq := Lib.hid (rd_on Rq.out hb13)
      replace Ro := Lib.hid (rd_on Ro.out hb13)
      replace Rold := Lib.hid (rd_on Rold.out hb13)
      have T1 := Lib.hid (Reads.of_own ho13)
      clear ho13
      clear hb13
      have hc14 := copyWords A5 n5 c5 other w13 hn5 Ro.out
      go_wp2_with fail
      refine hc14.mono ?_
      rintro e w14 ⟨g14, rfl, ho14, hb14⟩
      clear hc14
      replace HO := Lib.hid (HO.out.on hb14)
      replace B := below_cut B hb14 (Nat.le_refl _)
      replace Rw := Lib.hid (rd_on Rw.out hb14)
      replace Rp := Lib.hid (rd_on Rp.out hb14)
      replace Rq := Lib.hid (rd_on Rq.out hb14)
      replace Ro := Lib.hid (rd_on Ro.out hb14)
      replace Rold := Lib.hid (rd_on Rold.out hb14)
      replace T1 := Lib.hid (rd_on T1.out hb14)
      have T2 := Lib.hid (Reads.of_own ho14)
      clear ho14
      clear hb14
      have hc15 := get_gen gt s.T S HO.out.ty p (some ⟨g13, 0, none⟩) old.length old.length old (some ⟨g14, 0, none⟩) n5 n5 other w14 HO.out.tab T1.out T2.out (Nat.le_refl _) (by omega) HU.out.2.2.2
      rw [PK.out.two HO.out.ty HU.out.2.1 HU.out.2.2.2] at hc15
      have hg2 : (getV s.T ty ws (path ++ other)).2.1.length ≤ 4096 := got_few HO.out.ty HU.out.1 (fun x hx => (List.mem_append.1 hx).elim (HU.out.2.1 x) (HU.out.2.2.2 x))
      generalize hV2 : getV s.T ty ws (path ++ other) = V2 at hc15 hg2
      obtain ⟨p2, deep, e2⟩ := V2
      have HV2 := Lib.hid hV2
      clear hV2
      unfold GenIs at hc15
      dsimp only at hc15 hg2
      go_wp2_with fail
      refine hc15.mono ?_
      rintro e w15 ⟨A15, c15, rfl, ho15, hb15⟩
      clear hc15
      replace HO := Lib.hid (HO.out.on hb15)
      replace B := below_cut B hb15 (Nat.le_refl _)
      replace Rw := Lib.hid (rd_on Rw.out hb15)
      replace Rp := Lib.hid (rd_on Rp.out hb15)
      replace Rq := Lib.hid (rd_on Rq.out hb15)
      replace Ro := Lib.hid (rd_on Ro.out hb15)
      replace Rold := Lib.hid (rd_on Rold.out hb15)
      replace T1 := Lib.hid (rd_on T1.out hb15)
      replace T2 := Lib.hid (rd_on T2.out hb15)
      clear T1
      clear T2
      have Rdeep := Lib.hid (Reads.of_own ho15)
      clear ho15
      clear hb15
      have hc16 := copyWords A3 n3 c3 path w15 hn3 Rp.out
      go_wp2_with fail
      refine hc16.mono ?_
      rintro e w16 ⟨g16, rfl, hoL, hbL⟩
      clear hc16
      go_wp2_with fail
      go_loopw [23, 24] (fun u i wr => ∃ k : Nat, k ≤ n5 ∧ i = .int .i64 k ∧ wr.ownsRow w15.heap.size 22 1 u (n3 + k) (Ints .u32 (path ++ other.take k)) ∧ Below w15.heap.size w15 wr) (fun _ i _ => n5 - (intOf i).toNat)
      case atStart => exact ⟨0, by omega, rfl, by simpa using hoL, hbL⟩
      case round =>
        obtain ⟨k, hk, rfl, ho, hbr⟩ := hrel
        have hs := hbr.size
        by_cases hlt : k < n5
        · obtain ⟨ad, eA5, hadb, hc⟩ := (rd_on Ro.out hbr).int_at hlt
          have d1 : decide (((k : Nat) : Int) < (n5 : Nat)) = true := by rw [decide_eq_true_eq]; omega
          have htk : other.take (k + 1) = other.take k ++ [ix other k] := by rw [ix_of (by omega)]; exact List.take_succ_eq_append_getElem (by omega)
          have HTK : Hid (Ints .u32 (path ++ other.take (k + 1)) = Ints .u32 (path ++ other.take k) ++ [.int .u32 (ix other k)]) := Lib.hid (by rw [htk, ← List.append_assoc, Ints_append]; rfl)
          generalize ix other k = x at *
          subst eA5
          clear htk hoL hbL
          go_wp2_with (at_builtin; refine ap_one sl32 _ rfl _ _ rfl w15.heap.size _ _ _ rfl ho _ _ rfl rfl (by omega) (by omega) (by omega) ?_; intro v' w6 ho6 hgr6 _; have hb10 := (hbr.alloc hs (.cells #[.int .u32 x] 22)).grown hgr6 (by simp; omega) (fun j hj => (ho.lt j hj).1); have HO6 := Lib.hid ho6; clear ho6)
          go_roundw
          case rel => exact ⟨k + 1, by omega, by go_num, by rw [HTK.out]; exact HO6.out, hb10⟩
          case measure => simp [intOf]; omega
        · obtain rfl : k = n5 := by omega
          have d1 : decide (((k : Nat) : Int) < (k : Nat)) = false := by rw [decide_eq_false_iff_not]; omega
          rw [List.take_of_length_le (by omega)] at ho
          replace HO := Lib.hid (HO.out.on hbr)
          replace B := below_cut B hbr (Nat.le_refl _)
          replace Rw := Lib.hid (rd_on Rw.out hbr)
          replace Rp := Lib.hid (rd_on Rp.out hbr)
          replace Rq := Lib.hid (rd_on Rq.out hbr)
          replace Ro := Lib.hid (rd_on Ro.out hbr)
          replace Rold := Lib.hid (rd_on Rold.out hbr)
          replace Rdeep := Lib.hid (rd_on Rdeep.out hbr)
          obtain ⟨AL, cL, rfl⟩ := own_shape ho
          have Rlong := Lib.hid (Reads.of_own ho)
          clear ho hbr hoL hbL hs hlt hk
          generalize k = n5 at *
          have hc17 := copyWords A2 n2 c2 ws wr hn2 Rw.out
          go_wp2_with fail
          refine hc17.mono ?_
          rintro e w17 ⟨g17, rfl, ho17, hb17⟩
          clear hc17
          replace HO := Lib.hid (HO.out.on hb17)
          replace B := below_cut B hb17 (Nat.le_refl _)
          replace Rw := Lib.hid (rd_on Rw.out hb17)
          replace Rp := Lib.hid (rd_on Rp.out hb17)
          replace Rq := Lib.hid (rd_on Rq.out hb17)
          replace Ro := Lib.hid (rd_on Ro.out hb17)
          replace Rold := Lib.hid (rd_on Rold.out hb17)
          replace Rdeep := Lib.hid (rd_on Rdeep.out hb17)
          replace Rlong := Lib.hid (rd_on Rlong.out hb17)
          have T1 := Lib.hid (Reads.of_own ho17)
          clear ho17
          clear hb17
          have hc18 := get_gen gt s.T S HO.out.ty ty (some ⟨g17, 0, none⟩) n2 n2 ws AL (n3 + n5) cL (path ++ other) w17 HO.out.tab T1.out Rlong.out (Nat.le_refl _) (by omega) (fun x hx => (List.mem_append.1 hx).elim (HU.out.2.1 x) (HU.out.2.2.2 x))
          rw [HV2.out] at hc18
          unfold GenIs at hc18
          dsimp only at hc18
          go_wp2_with fail
          refine hc18.mono ?_
          rintro e w18 ⟨A18, c18, rfl, ho18, hb18⟩
          clear hc18
          replace HO := Lib.hid (HO.out.on hb18)
          replace B := below_cut B hb18 (Nat.le_refl _)
          replace Rw := Lib.hid (rd_on Rw.out hb18)
          replace Rp := Lib.hid (rd_on Rp.out hb18)
          replace Rq := Lib.hid (rd_on Rq.out hb18)
          replace Ro := Lib.hid (rd_on Ro.out hb18)
          replace Rold := Lib.hid (rd_on Rold.out hb18)
          replace Rdeep := Lib.hid (rd_on Rdeep.out hb18)
          replace Rlong := Lib.hid (rd_on Rlong.out hb18)
          replace T1 := Lib.hid (rd_on T1.out hb18)
          clear T1
          clear Rlong
          have Rwhole := Lib.hid (Reads.of_own ho18)
          clear ho18
          clear hb18
          have hc19 := words_same A15 A18 deep.length deep.length c15 c18 deep deep w18 (by omega) Rdeep.out Rwhole.out
          rw [same_refl] at hc19
          go_wp2_with fail
          refine hc19.mono ?_
          rintro e w19 ⟨rfl, hd19⟩
          have hb19 := hd19.below w18.heap.size
          clear hc19 hd19
          replace HO := Lib.hid (HO.out.on hb19)
          replace B := below_cut B hb19 (Nat.le_refl _)
          replace Rw := Lib.hid (rd_on Rw.out hb19)
          replace Rp := Lib.hid (rd_on Rp.out hb19)
          replace Rq := Lib.hid (rd_on Rq.out hb19)
          replace Ro := Lib.hid (rd_on Ro.out hb19)
          replace Rold := Lib.hid (rd_on Rold.out hb19)
          replace Rdeep := Lib.hid (rd_on Rdeep.out hb19)
          replace Rwhole := Lib.hid (rd_on Rwhole.out hb19)
          clear hb19
          clear Rwhole Rdeep
          have hc20 := copyWords A2 n2 c2 ws w19 hn2 Rw.out
          go_wp2_with fail
          refine hc20.mono ?_
          rintro e w20 ⟨g20, rfl, ho20, hb20⟩
          clear hc20
          replace HO := Lib.hid (HO.out.on hb20)
          replace B := below_cut B hb20 (Nat.le_refl _)
          replace Rw := Lib.hid (rd_on Rw.out hb20)
          replace Rp := Lib.hid (rd_on Rp.out hb20)
          replace Rq := Lib.hid (rd_on Rq.out hb20)
          replace Ro := Lib.hid (rd_on Ro.out hb20)
          replace Rold := Lib.hid (rd_on Rold.out hb20)
          have T1 := Lib.hid (Reads.of_own ho20)
          clear ho20
          clear hb20
          have hc21 := copyWords A3 n3 c3 path w20 hn3 Rp.out
          go_wp2_with fail
          refine hc21.mono ?_
          rintro e w21 ⟨g21, rfl, ho21, hb21⟩
          clear hc21
          replace HO := Lib.hid (HO.out.on hb21)
          replace B := below_cut B hb21 (Nat.le_refl _)
          replace Rw := Lib.hid (rd_on Rw.out hb21)
          replace Rp := Lib.hid (rd_on Rp.out hb21)
          replace Rq := Lib.hid (rd_on Rq.out hb21)
          replace Ro := Lib.hid (rd_on Ro.out hb21)
          replace Rold := Lib.hid (rd_on Rold.out hb21)
          replace T1 := Lib.hid (rd_on T1.out hb21)
          have T2 := Lib.hid (Reads.of_own ho21)
          clear ho21
          clear hb21
          have hc22 := copyWords A4 n4 c4 part w21 hn4 Rq.out
          go_wp2_with fail
          refine hc22.mono ?_
          rintro e w22 ⟨g22, rfl, ho22, hb22⟩
          clear hc22
          replace HO := Lib.hid (HO.out.on hb22)
          replace B := below_cut B hb22 (Nat.le_refl _)
          replace Rw := Lib.hid (rd_on Rw.out hb22)
          replace Rp := Lib.hid (rd_on Rp.out hb22)
          replace Rq := Lib.hid (rd_on Rq.out hb22)
          replace Ro := Lib.hid (rd_on Ro.out hb22)
          replace Rold := Lib.hid (rd_on Rold.out hb22)
          replace T1 := Lib.hid (rd_on T1.out hb22)
          replace T2 := Lib.hid (rd_on T2.out hb22)
          have T3 := Lib.hid (Reads.of_own ho22)
          clear ho22
          clear hb22
          have hc23 := put_gen gt s.T S HO.out.ty ty (some ⟨g20, 0, none⟩) n2 n2 ws (some ⟨g21, 0, none⟩) n3 n3 path (some ⟨g22, 0, none⟩) n4 n4 part w22 HO.out.tab T1.out T2.out T3.out (by omega) HU.out.2.1
          generalize hV3 : putG s.T ty ws path part = V3 at hc23
          obtain ⟨x, i⟩ := V3
          unfold PutIs at hc23
          dsimp only at hc23
          by_cases hi : i = 0
          · subst hi
            obtain ⟨x1, x2, x3, -, -, x6, -⟩ := PK.out.put HU.out.2.2.1 hV3
            have HX := Lib.hid (And.intro x2 (And.intro x3 x6))
            have HV3 := Lib.hid hV3
            rw [hl2] at x1
            rw [x1] at hc23
            have HXL := Lib.hid x1
            clear x1 x2 x3 x6 hV3
            go_wp2_with fail
            refine hc23.mono ?_
            rintro e w23 ⟨A23, c23, -, rfl, ho23, hb23⟩
            clear hc23
            replace HO := Lib.hid (HO.out.on hb23)
            replace B := below_cut B hb23 (Nat.le_refl _)
            replace Rw := Lib.hid (rd_on Rw.out hb23)
            replace Rp := Lib.hid (rd_on Rp.out hb23)
            replace Rq := Lib.hid (rd_on Rq.out hb23)
            replace Ro := Lib.hid (rd_on Ro.out hb23)
            replace Rold := Lib.hid (rd_on Rold.out hb23)
            replace T1 := Lib.hid (rd_on T1.out hb23)
            replace T2 := Lib.hid (rd_on T2.out hb23)
            replace T3 := Lib.hid (rd_on T3.out hb23)
            clear T1
            clear T2
            clear T3
            have Rx := Lib.hid (Reads.of_own ho23)
            clear ho23
            clear hb23
            have hc24 := copyWords A23 n2 c23 x w23 (by omega) Rx.out
            go_wp2_with fail
            refine hc24.mono ?_
            rintro e w24 ⟨g24, rfl, ho24, hb24⟩
            clear hc24
            replace HO := Lib.hid (HO.out.on hb24)
            replace B := below_cut B hb24 (Nat.le_refl _)
            replace Rw := Lib.hid (rd_on Rw.out hb24)
            replace Rp := Lib.hid (rd_on Rp.out hb24)
            replace Rq := Lib.hid (rd_on Rq.out hb24)
            replace Ro := Lib.hid (rd_on Ro.out hb24)
            replace Rold := Lib.hid (rd_on Rold.out hb24)
            replace Rx := Lib.hid (rd_on Rx.out hb24)
            have T1 := Lib.hid (Reads.of_own ho24)
            clear ho24
            clear hb24
            have hc25 := copyWords A3 n3 c3 path w24 hn3 Rp.out
            go_wp2_with fail
            refine hc25.mono ?_
            rintro e w25 ⟨g25, rfl, ho25, hb25⟩
            clear hc25
            replace HO := Lib.hid (HO.out.on hb25)
            replace B := below_cut B hb25 (Nat.le_refl _)
            replace Rw := Lib.hid (rd_on Rw.out hb25)
            replace Rp := Lib.hid (rd_on Rp.out hb25)
            replace Rq := Lib.hid (rd_on Rq.out hb25)
            replace Ro := Lib.hid (rd_on Ro.out hb25)
            replace Rold := Lib.hid (rd_on Rold.out hb25)
            replace Rx := Lib.hid (rd_on Rx.out hb25)
            replace T1 := Lib.hid (rd_on T1.out hb25)
            have T2 := Lib.hid (Reads.of_own ho25)
            clear ho25
            clear hb25
            have hc26 := get_gen gt s.T S HO.out.ty ty (some ⟨g24, 0, none⟩) n2 n2 x (some ⟨g25, 0, none⟩) n3 n3 path w25 HO.out.tab T1.out T2.out (Nat.le_refl _) (by omega) HU.out.2.1
            rw [HX.out.2.1] at hc26
            unfold GenIs at hc26
            dsimp only at hc26
            rw [hl4] at hc26
            go_wp2_with fail
            refine hc26.mono ?_
            rintro e w26 ⟨A26, c26, rfl, ho26, hb26⟩
            clear hc26
            replace HO := Lib.hid (HO.out.on hb26)
            replace B := below_cut B hb26 (Nat.le_refl _)
            replace Rw := Lib.hid (rd_on Rw.out hb26)
            replace Rp := Lib.hid (rd_on Rp.out hb26)
            replace Rq := Lib.hid (rd_on Rq.out hb26)
            replace Ro := Lib.hid (rd_on Ro.out hb26)
            replace Rold := Lib.hid (rd_on Rold.out hb26)
            replace Rx := Lib.hid (rd_on Rx.out hb26)
            replace T1 := Lib.hid (rd_on T1.out hb26)
            replace T2 := Lib.hid (rd_on T2.out hb26)
            clear T1
            clear T2
            have Rnow := Lib.hid (Reads.of_own ho26)
            clear ho26
            clear hb26
            have hc27 := words_same A26 A4 n4 n4 c26 c4 part part w26 (by omega) Rnow.out Rq.out
            rw [same_refl] at hc27
            go_wp2_with fail
            refine hc27.mono ?_
            rintro e w27 ⟨rfl, hd27⟩
            have hb27 := hd27.below w26.heap.size
            clear hc27 hd27
            replace HO := Lib.hid (HO.out.on hb27)
            replace B := below_cut B hb27 (Nat.le_refl _)
            replace Rw := Lib.hid (rd_on Rw.out hb27)
            replace Rp := Lib.hid (rd_on Rp.out hb27)
            replace Rq := Lib.hid (rd_on Rq.out hb27)
            replace Ro := Lib.hid (rd_on Ro.out hb27)
            replace Rold := Lib.hid (rd_on Rold.out hb27)
            replace Rx := Lib.hid (rd_on Rx.out hb27)
            replace Rnow := Lib.hid (rd_on Rnow.out hb27)
            clear hb27
            clear Rnow
            have hc28 := fits_all gt s.T S HO.out.ty ty A23 n2 c23 x w27 HO.out.tab Rx.out
            rw [HX.out.1] at hc28
            unfold BoolIs at hc28
            go_wp2_with fail
            refine hc28.mono ?_
            rintro e w28 ⟨rfl, hb28⟩
            clear hc28
            replace HO := Lib.hid (HO.out.on hb28)
            replace B := below_cut B hb28 (Nat.le_refl _)
            replace Rw := Lib.hid (rd_on Rw.out hb28)
            replace Rp := Lib.hid (rd_on Rp.out hb28)
            replace Rq := Lib.hid (rd_on Rq.out hb28)
            replace Ro := Lib.hid (rd_on Ro.out hb28)
            replace Rold := Lib.hid (rd_on Rold.out hb28)
            replace Rx := Lib.hid (rd_on Rx.out hb28)
            clear hb28
            have hc29 := copyWords A2 n2 c2 ws w28 hn2 Rw.out
            go_wp2_with fail
            refine hc29.mono ?_
            rintro e w29 ⟨g29, rfl, ho29, hb29⟩
            clear hc29
            replace HO := Lib.hid (HO.out.on hb29)
            replace B := below_cut B hb29 (Nat.le_refl _)
            replace Rw := Lib.hid (rd_on Rw.out hb29)
            replace Rp := Lib.hid (rd_on Rp.out hb29)
            replace Rq := Lib.hid (rd_on Rq.out hb29)
            replace Ro := Lib.hid (rd_on Ro.out hb29)
            replace Rold := Lib.hid (rd_on Rold.out hb29)
            replace Rx := Lib.hid (rd_on Rx.out hb29)
            have T1 := Lib.hid (Reads.of_own ho29)
            clear ho29
            clear hb29
            have hc30 := copyWords A5 n5 c5 other w29 hn5 Ro.out
            go_wp2_with fail
            refine hc30.mono ?_
            rintro e w30 ⟨g30, rfl, ho30, hb30⟩
            clear hc30
            replace HO := Lib.hid (HO.out.on hb30)
            replace B := below_cut B hb30 (Nat.le_refl _)
            replace Rw := Lib.hid (rd_on Rw.out hb30)
            replace Rp := Lib.hid (rd_on Rp.out hb30)
            replace Rq := Lib.hid (rd_on Rq.out hb30)
            replace Ro := Lib.hid (rd_on Ro.out hb30)
            replace Rold := Lib.hid (rd_on Rold.out hb30)
            replace Rx := Lib.hid (rd_on Rx.out hb30)
            replace T1 := Lib.hid (rd_on T1.out hb30)
            have T2 := Lib.hid (Reads.of_own ho30)
            clear ho30
            clear hb30
            have hc31 := get_gen gt s.T S HO.out.ty ty (some ⟨g29, 0, none⟩) n2 n2 ws (some ⟨g30, 0, none⟩) n5 n5 other w30 HO.out.tab T1.out T2.out (Nat.le_refl _) (by omega) HU.out.2.2.2
            have hg4 : (getV s.T ty ws other).2.1.length ≤ 4096 := got_few HO.out.ty HU.out.1 HU.out.2.2.2
            generalize hV4 : getV s.T ty ws other = V4 at hc31 hg4
            obtain ⟨pa, was, ea⟩ := V4
            have HV4 := Lib.hid hV4
            clear hV4
            unfold GenIs at hc31
            dsimp only at hc31 hg4
            go_wp2_with fail
            refine hc31.mono ?_
            rintro e w31 ⟨A31, c31, rfl, ho31, hb31⟩
            clear hc31
            replace HO := Lib.hid (HO.out.on hb31)
            replace B := below_cut B hb31 (Nat.le_refl _)
            replace Rw := Lib.hid (rd_on Rw.out hb31)
            replace Rp := Lib.hid (rd_on Rp.out hb31)
            replace Rq := Lib.hid (rd_on Rq.out hb31)
            replace Ro := Lib.hid (rd_on Ro.out hb31)
            replace Rold := Lib.hid (rd_on Rold.out hb31)
            replace Rx := Lib.hid (rd_on Rx.out hb31)
            replace T1 := Lib.hid (rd_on T1.out hb31)
            replace T2 := Lib.hid (rd_on T2.out hb31)
            clear T1
            clear T2
            have Rwas := Lib.hid (Reads.of_own ho31)
            clear ho31
            clear hb31
            have hc32 := copyWords A23 n2 c23 x w31 (by omega) Rx.out
            go_wp2_with fail
            refine hc32.mono ?_
            rintro e w32 ⟨g32, rfl, ho32, hb32⟩
            clear hc32
            replace HO := Lib.hid (HO.out.on hb32)
            replace B := below_cut B hb32 (Nat.le_refl _)
            replace Rw := Lib.hid (rd_on Rw.out hb32)
            replace Rp := Lib.hid (rd_on Rp.out hb32)
            replace Rq := Lib.hid (rd_on Rq.out hb32)
            replace Ro := Lib.hid (rd_on Ro.out hb32)
            replace Rold := Lib.hid (rd_on Rold.out hb32)
            replace Rx := Lib.hid (rd_on Rx.out hb32)
            replace Rwas := Lib.hid (rd_on Rwas.out hb32)
            have T1 := Lib.hid (Reads.of_own ho32)
            clear ho32
            clear hb32
            have hc33 := copyWords A5 n5 c5 other w32 hn5 Ro.out
            go_wp2_with fail
            refine hc33.mono ?_
            rintro e w33 ⟨g33, rfl, ho33, hb33⟩
            clear hc33
            replace HO := Lib.hid (HO.out.on hb33)
            replace B := below_cut B hb33 (Nat.le_refl _)
            replace Rw := Lib.hid (rd_on Rw.out hb33)
            replace Rp := Lib.hid (rd_on Rp.out hb33)
            replace Rq := Lib.hid (rd_on Rq.out hb33)
            replace Ro := Lib.hid (rd_on Ro.out hb33)
            replace Rold := Lib.hid (rd_on Rold.out hb33)
            replace Rx := Lib.hid (rd_on Rx.out hb33)
            replace Rwas := Lib.hid (rd_on Rwas.out hb33)
            replace T1 := Lib.hid (rd_on T1.out hb33)
            have T2 := Lib.hid (Reads.of_own ho33)
            clear ho33
            clear hb33
            have hc34 := get_gen gt s.T S HO.out.ty ty (some ⟨g32, 0, none⟩) n2 n2 x (some ⟨g33, 0, none⟩) n5 n5 other w33 HO.out.tab T1.out T2.out (Nat.le_refl _) (by omega) HU.out.2.2.2
            generalize hV5 : getV s.T ty x other = V5 at hc34
            obtain ⟨pb, isv, eb⟩ := V5
            have HV5 := Lib.hid hV5
            clear hV5
            unfold GenIs at hc34
            dsimp only at hc34
            have HPB : Hid (parB path other = true → pa = pb ∧ was = isv ∧ ea = eb) := Lib.hid (fun hp => by
              have h := PK.out.other HO.out.ty HU.out.2.1 HU.out.2.2.2 HU.out.2.2.1 HV3.out hp
              rw [HV4.out, HV5.out] at h
              injection h with h1 h; injection h with h2 h3; exact ⟨h1, h2, h3⟩)
            go_wp2_with fail
            refine hc34.mono ?_
            rintro e w34 ⟨A34, c34, rfl, ho34, hb34⟩
            clear hc34
            replace HO := Lib.hid (HO.out.on hb34)
            replace B := below_cut B hb34 (Nat.le_refl _)
            replace Rw := Lib.hid (rd_on Rw.out hb34)
            replace Rp := Lib.hid (rd_on Rp.out hb34)
            replace Rq := Lib.hid (rd_on Rq.out hb34)
            replace Ro := Lib.hid (rd_on Ro.out hb34)
            replace Rold := Lib.hid (rd_on Rold.out hb34)
            replace Rx := Lib.hid (rd_on Rx.out hb34)
            replace Rwas := Lib.hid (rd_on Rwas.out hb34)
            replace T1 := Lib.hid (rd_on T1.out hb34)
            replace T2 := Lib.hid (rd_on T2.out hb34)
            clear T1
            clear T2
            have Ris := Lib.hid (Reads.of_own ho34)
            clear ho34
            clear hb34
            have hc35 := parted_any A3 A5 n3 n5 c3 c5 path other w34 (by omega) Rp.out Ro.out
            cases hpb : parB path other with
            | true =>
              obtain ⟨rfl, rfl, rfl⟩ := HPB.out hpb
              rw [hpb] at hc35
              clear hpb
              go_wp2_with fail
              refine hc35.mono ?_
              rintro e w35 ⟨rfl, hd35⟩
              have hb35 := hd35.below w34.heap.size
              clear hc35 hd35
              replace HO := Lib.hid (HO.out.on hb35)
              replace B := below_cut B hb35 (Nat.le_refl _)
              replace Rw := Lib.hid (rd_on Rw.out hb35)
              replace Rp := Lib.hid (rd_on Rp.out hb35)
              replace Rq := Lib.hid (rd_on Rq.out hb35)
              replace Ro := Lib.hid (rd_on Ro.out hb35)
              replace Rold := Lib.hid (rd_on Rold.out hb35)
              replace Rx := Lib.hid (rd_on Rx.out hb35)
              replace Rwas := Lib.hid (rd_on Rwas.out hb35)
              replace Ris := Lib.hid (rd_on Ris.out hb35)
              clear hb35
              have hc36 := words_same A31 A34 was.length was.length c31 c34 was was w35 (by omega) Rwas.out Ris.out
              rw [same_refl] at hc36
              go_wp2_with fail
              refine hc36.mono ?_
              rintro e w36 ⟨rfl, hd36⟩
              have hb36 := hd36.below w35.heap.size
              clear hc36 hd36
              replace HO := Lib.hid (HO.out.on hb36)
              replace B := below_cut B hb36 (Nat.le_refl _)
              replace Rw := Lib.hid (rd_on Rw.out hb36)
              replace Rp := Lib.hid (rd_on Rp.out hb36)
              replace Rq := Lib.hid (rd_on Rq.out hb36)
              replace Ro := Lib.hid (rd_on Ro.out hb36)
              replace Rold := Lib.hid (rd_on Rold.out hb36)
              replace Rx := Lib.hid (rd_on Rx.out hb36)
              replace Rwas := Lib.hid (rd_on Rwas.out hb36)
              replace Ris := Lib.hid (rd_on Ris.out hb36)
              clear hb36
              have hc37 := awake12_any w36 HO.out.pow HO.out.err
              go_wp2_with fail
              refine hc37.mono ?_
              rintro e w37 ⟨rfl, hb37⟩
              clear hc37
              go_wp2_with fail
              go_ret
              exact ⟨rfl, below_cut B hb37 (Nat.le_refl _)⟩
            | false =>
              rw [hpb] at hc35
              clear hpb
              go_wp2_with fail
              refine hc35.mono ?_
              rintro e w35 ⟨rfl, hd35⟩
              have hb35 := hd35.below w34.heap.size
              clear hc35 hd35
              replace HO := Lib.hid (HO.out.on hb35)
              replace B := below_cut B hb35 (Nat.le_refl _)
              replace Rw := Lib.hid (rd_on Rw.out hb35)
              replace Rp := Lib.hid (rd_on Rp.out hb35)
              replace Rq := Lib.hid (rd_on Rq.out hb35)
              replace Ro := Lib.hid (rd_on Ro.out hb35)
              replace Rold := Lib.hid (rd_on Rold.out hb35)
              replace Rx := Lib.hid (rd_on Rx.out hb35)
              replace Rwas := Lib.hid (rd_on Rwas.out hb35)
              replace Ris := Lib.hid (rd_on Ris.out hb35)
              clear hb35
              have hc36 := awake12_any w35 HO.out.pow HO.out.err
              go_wp2_with fail
              refine hc36.mono ?_
              rintro e w36 ⟨rfl, hb36⟩
              clear hc36
              go_wp2_with fail
              go_ret
              exact ⟨rfl, below_cut B hb36 (Nat.le_refl _)⟩
          · obtain ⟨rfl, hfp, rfl⟩ := PK.out.refuse hV3 hi
            have HFP := Lib.hid hfp
            clear hfp hi hV3
            simp only [List.length_nil] at hc23
            go_wp2_with fail
            refine hc23.mono ?_
            rintro e w23 ⟨A23, c23, -, rfl, ho23, hb23⟩
            clear hc23
            replace HO := Lib.hid (HO.out.on hb23)
            replace B := below_cut B hb23 (Nat.le_refl _)
            replace Rw := Lib.hid (rd_on Rw.out hb23)
            replace Rp := Lib.hid (rd_on Rp.out hb23)
            replace Rq := Lib.hid (rd_on Rq.out hb23)
            replace Ro := Lib.hid (rd_on Ro.out hb23)
            replace Rold := Lib.hid (rd_on Rold.out hb23)
            replace T1 := Lib.hid (rd_on T1.out hb23)
            replace T2 := Lib.hid (rd_on T2.out hb23)
            replace T3 := Lib.hid (rd_on T3.out hb23)
            clear T1
            clear T2
            clear T3
            clear hb23
            have hc24 := fits_all gt s.T S HO.out.ty p A4 n4 c4 part w23 HO.out.tab Rq.out
            rw [HFP.out] at hc24
            unfold BoolIs at hc24
            go_wp2_with fail
            refine hc24.mono ?_
            rintro e w24 ⟨rfl, hb24⟩
            clear hc24
            replace HO := Lib.hid (HO.out.on hb24)
            replace B := below_cut B hb24 (Nat.le_refl _)
            replace Rw := Lib.hid (rd_on Rw.out hb24)
            replace Rp := Lib.hid (rd_on Rp.out hb24)
            replace Rq := Lib.hid (rd_on Rq.out hb24)
            replace Ro := Lib.hid (rd_on Ro.out hb24)
            replace Rold := Lib.hid (rd_on Rold.out hb24)
            clear hb24
            have hc25 := awake12_any w24 HO.out.pow HO.out.err
            go_wp2_with fail
            refine hc25.mono ?_
            rintro e w25 ⟨rfl, hb25⟩
            clear hc25
            go_wp2_with fail
            go_ret
            exact ⟨rfl, below_cut B hb25 (Nat.le_refl _)⟩
    · obtain ⟨rfl, rfl⟩ := get_err HV.out he
      have d0 : (ee != 0) = true := by simpa using he
      clear he
      have hc7 := awake12_any w6 HO.out.pow HO.out.err
      go_wp2_with fail
      refine hc7.mono ?_
      rintro e w7 ⟨rfl, hb7⟩
      clear hc7
      go_wp2_with fail
      go_ret
      exact ⟨rfl, below_cut B hb7 (Nat.le_refl _)⟩
  · have h0 : r1 ≠ 0 := h0
    have hb5 := below_cut hb3 hb4 (Nat.le_refl _)
    have hb6 := hb5.alloc hb5.size (.cells #[.int .i64 r1, .int .i64 r2] 29)
    have kS := Blk.new w3 29 #[.int .i64 r1, .int .i64 r2]
    obtain ⟨q0, q1⟩ := two_ kS
    have e0 : (r1 != 0) = true := by simpa using h0
    have haw := awake12_any _ (hP.step hb6) (hE.step hb6)
    clear hnw h0
    go_wp2_with fail
    generalize (w3.alloc (.cells #[.int .i64 r1, .int .i64 r2] 29)) = W at *
    refine haw.mono ?_
    rintro e w5 ⟨rfl, hb9⟩
    have hb10 := below_cut hb6 hb9 (Nat.le_refl _)
    clear q0 q1
    go_wp2_with fail
    go_ret
    exact ⟨rfl, hb10⟩
end Go.Proofs.YtgfnnfljefjegaaGreatDoor
