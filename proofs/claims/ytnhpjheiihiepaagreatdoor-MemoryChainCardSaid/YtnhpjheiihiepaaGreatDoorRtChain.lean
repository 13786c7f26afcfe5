/- Walks. -/
import Derived.Test.YtnhpjheiihiepaaGreatDoorSG
import Derived.Test.YtnhpjheiihiepaaGreatDoorUB
import Derived.Test.YtnhpjheiihiepaaGreatDoorTW
import Derived.Test.YtnhpjheiihiepaaGreatDoorTX
namespace Go.Proofs.YtnhpjheiihiepaaGreatDoor
open Go.RowKit

noncomputable def chN (p : Option Addr) (T : Int → TyI) (ty : Int) (l : List Int) : Int × Int × Int := if p = none then (0, 0, 1) else chM T ty l
set_option maxRecDepth 100000 in
theorem chain_none (ty : Int) (A : Option Addr) (n c : Nat) (w : World) : Calls Tryz.prog 25 #[.pointer none, .int .u32 ty, .slice A n c] w fun e w' => e = .returned (.tuple #[.int .i64 0, .int .u32 0, .int .i64 1]) ∧ Below w.heap.size w w' := by
  go_enter Tryz.func25, Tryz.ntmps25
  go_wp2_with fail
  go_step3
  go_wp2_with fail
  rw [Exit.noGoto_ret]
  go_ret3
  exact ⟨rfl, Below.refl _ _⟩
set_option maxRecDepth 100000 in
set_option maxHeartbeats 4000000 in
theorem rchain_any (q : Option Addr) (T : Int → TyI) (ord : List Int) (hT : TabsOk T ord) (ty : Int) (A : Option Addr) (n c : Nat) (l : List Int) (w : World) (h : RTab w q T ord) (hq : q = none ∨ ∃ g, q = some ⟨g, 0, none⟩) (hn : n ≤ 35184372087808)
    (hr : Reads w w.heap.size 1 A n (Ints .u32 l)) (hl : ∀ x ∈ l, 0 ≤ x ∧ x < 4294967296) :
    Calls Tryz.prog 23 #[.pointer q, .int .u32 ty, .slice A n c] w fun e w' => e = .returned (.tuple #[.int .i64 (chN q T ty l).1, .int .u32 (chN q T ty l).2.1, .int .i64 (chN q T ty l).2.2]) ∧ Below w.heap.size w w' := by
  rcases hq with rfl | ⟨g, rfl⟩
  · have hv : chN none T ty l = (0, 0, 1) := if_pos rfl
    rw [hv]
    clear h hr hl hv
    go_enter Tryz.func23, Tryz.ntmps23
    go_wp2_with fail
    go_ret3
    exact ⟨rfl, Below.refl _ _⟩
  have hv0 : chN (some ⟨g, 0, none⟩) T ty l = chM T ty l := if_neg (fun h => by cases h)
  rw [hv0]
  clear hv0
  have hY := hT.ty
  have hpl := rplain_any _ T ord hY ty w h hT.out
  have hlen := hr.len
  by_cases hp : 0 < (T ty).size
  case neg =>
    have hv : chM T ty l = (0, 0, 100) := if_neg hp
    have dp : decide (0 < (T ty).size) = false := by rw [decide_eq_false_iff_not]; exact hp
    rw [hv]
    rw [dp] at hpl
    clear hv dp hp hr hl h
    go_enter Tryz.func23, Tryz.ntmps23
    go_wp2_with fail
    refine hpl.mono ?_
    rintro e w1 ⟨rfl, hb1⟩
    go_wp2_with fail
    go_ret3
    exact ⟨rfl, hb1⟩
  have hv : chM T ty l = chW T 0 ty l := if_pos hp
  have dp : decide (0 < (T ty).size) = true := by rw [decide_eq_true_eq]; exact hp
  rw [hv]
  rw [dp] at hpl
  obtain ⟨v, hvv⟩ : ∃ v, v = chW T 0 ty l := ⟨_, rfl⟩
  rw [← hvv]
  have HV := Lib.hid hvv
  have HT := Lib.hid h
  have HR := Lib.hid hr
  have HY := Lib.hid hY
  have HL := Lib.hid hl
  have HP := Lib.hid hp
  have hcnt := fun (u : Int) (w' : World) (hb : Below w.heap.size w w') => rcount_any _ T ord u w' (h.step hb) hT.out
  have hprt := fun (u j : Int) (w' : World) (hb : Below w.heap.size w w') => rpart_any _ T ord hY u j w' (h.step hb) hT.out
  have hoff := fun (u j : Int) (w' : World) (hb : Below w.heap.size w w') (hj : j < 9223372036854775808) => roff_any _ T ord hY hT.zero hT.out u j w' (h.step hb) hj
  have hsb := (hY.size ty).2.2
  have hshp := Lib.hid (fun u => (hY.shape u).len)
  have HCN := Lib.hid hcnt
  have HPR := Lib.hid hprt
  have HOF := Lib.hid hoff
  clear hv hvv h hr hY hl hp dp hcnt hprt hoff hT
  go_enter Tryz.func23, Tryz.ntmps23
  go_wp2_with fail
  refine hpl.mono ?_
  rintro e w1 ⟨rfl, hb1⟩
  clear hpl
  go_wp2_with fail
  go_loopg [1, 9, 10, 11, 12, 13, 14] n (fun q t a i u1 u2 u3 u4 wr => ∃ (k : Nat) (u av : Int), k + q = n ∧ t = .int .u32 u ∧ a = .int .i64 av ∧ i = .int .i64 (k : Nat) ∧ Hid (v = chW T av u (l.drop k)) ∧ Hid (0 < (T u).size) ∧ 0 ≤ av ∧ av + (T u).size ≤ (T ty).size ∧ Below w.heap.size w wr)
  case atStart => exact ⟨0, ty, 0, by omega, rfl, rfl, rfl, HV, HP, Int.le_refl _, by omega, hb1⟩
  case round =>
    obtain ⟨k, u, av, hkq, rfl, rfl, rfl, HK, HU, ha0, ha1, hbr⟩ := hrel
    by_cases hlt : k < n
    · have hlt2 : ((k : Nat) : Int) < (n : Nat) := by omega
      obtain ⟨b, off, rfl, hbb, hcc⟩ := (HR.out.below hbr).ints (by omega)
      have c0 := hcc k hlt
      have hdk : l.drop k = ix l k :: l.drop (k + 1) := by rw [ix_of (by omega)]; exact List.drop_eq_getElem_cons (by omega)
      have hk1 := HK.out
      rw [hdk] at hk1
      unfold chW at hk1
      have hxl := HL.out (ix l k) (ix_in (by omega))
      have hcb := cnt_bd HY.out u
      have hcn := HCN.out u wr hbr
      rw [hshp.out u] at hcn
      generalize ix l k = x at *
      by_cases h0 : cntT (T u) = 0
      · rw [if_pos h0] at hk1
        rw [h0] at hcn
        have HK1 := Lib.hid hk1
        clear hk1 hdk h0 hcc HK hcb
        go_wp2_with fail
        refine hcn.mono ?_
        rintro e w2 ⟨rfl, hb2⟩
        have hb3 := below_cut hbr hb2 (Nat.le_refl _)
        go_wp2_with fail
        go_ret3
        exact ⟨by rw [HK1.out]; rfl, hb3⟩
      · rw [if_neg h0] at hk1
        have hpi := part_in HY.out HU.out (k := min x (cntT (T u) - 1)) (by omega) (by omega)
        have hof := fun w' hb => HOF.out u (min x (cntT (T u) - 1)) w' hb (by omega)
        have hpt := HPR.out u (min x (cntT (T u) - 1))
        have HK1 := Lib.hid hk1
        have HPI := Lib.hid hpi.1
        obtain ⟨-, hp2, hp3⟩ := hpi
        have z0 : (cntT (T u) == 0) = false := by rw [beq_eq_false_iff_ne]; exact h0
        have hc1 : 1 ≤ cntT (T u) := by omega
        clear hk1 hdk hcc HK h0
        generalize cntT (T u) = N at *
        have wN : IntKind.i64.wrap (N - 1) = N - 1 := IntWalk.i64_in _ (by omega)
        have wM : IntKind.u32.wrap N = N := IntWalk.u32_in _ (by omega)
        have wM2 : N % 4294967296 = N := by omega
        obtain ⟨mk, hmk⟩ : ∃ mk, mk = min x (N - 1) := ⟨_, rfl⟩
        rw [← hmk] at hof hpt hp2 hp3 HK1 HPI
        have hps := HPI.out
        have wS : IntKind.i64.wrap (av + (offT T (T u) mk).1) = av + (offT T (T u) mk).1 := IntWalk.i64_in _ (by omega)
        by_cases hx : x < N
        · have dx : decide (x < N) = true := decide_eq_true hx
          obtain rfl : mk = x := by omega
          have wX : IntKind.i64.wrap mk = mk := IntWalk.i64_in _ (by omega)
          clear hmk hx hxl
          generalize (offT T (T u) mk).1 = o at *
          generalize (offT T (T u) mk).2 = o' at *
          generalize (partT (T u) mk).1 = u2 at *
          generalize (partT (T u) mk).2 = u2' at *
          go_wp2_with fail
          refine hcn.mono ?_
          rintro e w2 ⟨rfl, hb2⟩
          have hb3 := below_cut hbr hb2 (Nat.le_refl _)
          have c0 := cell_on c0 hb2
          go_wp2_with fail
          refine (hof w2 hb3).mono ?_
          rintro e w3 ⟨rfl, hb4⟩
          have hb5 := below_cut hb3 hb4 (Nat.le_refl _)
          go_wp2_with fail
          refine (hpt w3 hb5).mono ?_
          rintro e w4 ⟨rfl, hb6⟩
          have hb7 := below_cut hb5 hb6 (Nat.le_refl _)
          go_wp2_with fail
          go_roundg (n - (k + 1))
          case measure => omega
          case rel => exact ⟨k + 1, u2, av + o, by omega, by first | rfl | go_num, by first | rfl | go_num, by go_num, HK1, HPI, by omega, by omega, hb7⟩
        · have dx : decide (x < N) = false := decide_eq_false hx
          obtain rfl : mk = N - 1 := by omega
          clear hmk hx hxl
          generalize (offT T (T u) (N - 1)).1 = o at *
          generalize (offT T (T u) (N - 1)).2 = o' at *
          generalize (partT (T u) (N - 1)).1 = u2 at *
          generalize (partT (T u) (N - 1)).2 = u2' at *
          go_wp2_with fail
          refine hcn.mono ?_
          rintro e w2 ⟨rfl, hb2⟩
          have hb3 := below_cut hbr hb2 (Nat.le_refl _)
          have c0 := cell_on c0 hb2
          go_wp2_with fail
          refine (hof w2 hb3).mono ?_
          rintro e w3 ⟨rfl, hb4⟩
          have hb5 := below_cut hb3 hb4 (Nat.le_refl _)
          go_wp2_with fail
          refine (hpt w3 hb5).mono ?_
          rintro e w4 ⟨rfl, hb6⟩
          have hb7 := below_cut hb5 hb6 (Nat.le_refl _)
          go_wp2_with fail
          go_roundg (n - (k + 1))
          case measure => omega
          case rel => exact ⟨k + 1, u2, av + o, by omega, by first | rfl | go_num, by first | rfl | go_num, by go_num, HK1, HPI, by omega, by omega, hb7⟩
    · obtain rfl : k = n := by omega
      have hk1 := HK.out
      rw [List.drop_of_length_le (by omega)] at hk1
      have hv : v = (av, u, 0) := hk1
      have HV2 := Lib.hid hv
      clear HK hk1 hv HV
      go_wp2_with fail
      go_ret3
      exact ⟨by rw [HV2.out]; rfl, hbr⟩
set_option maxRecDepth 100000 in
set_option maxHeartbeats 4000000 in
theorem law_chain (gen bound : Int) (A : Option Addr) (n c : Nat) (ls : List InstA) (ty : Int) (Ap : Option Addr) (np cp : Nat) (lp : List Int) (w : World) (hM : ModS w w.heap.size A n ls) (hn : n ≤ 3600000000000) (hP : Pow w) (hrp : Reads w w.heap.size 1 Ap np (Ints .u32 lp)) (hnp : np ≤ 35184372087808) (hlp : ∀ x ∈ lp, 0 ≤ x ∧ x < 4294967296)
    (hN : ∀ x ∈ ls, (∀ a ∈ x.1.2.2.2, 0 ≤ a.2.1 ∧ a.2.1 < 4294967296) ∧ (0 ≤ x.1.1 ∧ x.1.1 < 65536)) :
    Calls Tryz.prog 6 #[.agg (modC gen bound A n c), .int .u32 ty, .slice Ap np cp] w (BoolIs true w) := by
  have hb1 := (Below.refl w.heap.size w).alloc (Nat.le_refl _) (.cells (modC gen bound A n c) 25)
  have k1 := Blk.new w 25 (modC gen bound A n c)
  have hrn := rnew_any gen bound ls A n c _ (hM.step hb1) (fun x hx => (hN x hx).1) (fun x hx => (hN x hx).2)
  have hcp := fun w' (hb : Below w.heap.size w w') => copyModule_any gen bound A n c ls w' (hM.step hb) hn
  have hLn : (ls.map (·.1)).length ≤ 7100000000000 := by rw [hM.length]; exact hM.len
  obtain ⟨L, hL⟩ : ∃ L, L = ls.map (·.1) := ⟨_, rfl⟩
  have hu : ∀ i ∈ L, ∀ a ∈ i.2.2.2, 0 ≤ a.2.1 ∧ a.2.1 < 4294967296 := fun i hi => by
    rw [hL] at hi
    obtain ⟨x, hx, rfl⟩ := List.mem_map.1 hi
    exact (hN x hx).1
  have hop : ∀ i ∈ L, 0 ≤ i.1 ∧ i.1 < 65536 := fun i hi => by
    rw [hL] at hi
    obtain ⟨x, hx, rfl⟩ := List.mem_map.1 hi
    exact (hN x hx).2
  rw [← hL] at hcp hrn hLn
  have hTO := tabs_ok bound L hLn
  clear hL hM hN
  unfold modC at *
  obtain ⟨z0, z1, z2⟩ := three_ k1
  go_enter Tryz.func6, Tryz.ntmps6
  go_wp2_with fail
  refine hrn.mono ?_
  rintro e w2 hR
  obtain ⟨hb2, q, rfl, hRT, hqn⟩ := rnewG_u hR
  have hb3 := below_cut hb1 hb2 (Nat.le_refl _)
  generalize ha : (newM bound L).1 = a at *
  generalize hbb : (newM bound L).2.1 = b at *
  have hbs := (Below.refl w2.heap.size w2).alloc (Nat.le_refl _) (.cells #[.int .i64 a, .int .i64 b] 30)
  have hb4 := below_cut hb3 hbs (Nat.le_refl _)
  have kS := Blk.new w2 30 #[.int .i64 a, .int .i64 b]
  have hRT4 := hRT.step hbs
  have k14 := (k1.step hb2).step hbs
  have hc4 := hcp _ hb4
  clear hrn hR hcp hRT hbs hb2 k1 z0 z1 z2
  obtain ⟨z0, z1, z2⟩ := three_ k14
  go_wp2_with fail
  generalize (w2.alloc (.cells #[.int .i64 a, .int .i64 b] 30)) = W4 at *
  generalize w2.heap.size = gs at *
  refine hc4.mono ?_
  rintro e w5 ⟨A', c', ls', rfl, hM', hL', hb5⟩
  have hb6 := below_cut hb4 hb5 (Nat.le_refl _)
  have hnw := new_copied (gen := gen) (bound := bound) (c := c') hM' hL' (hP.step hb6) hu hop
  clear hc4 hM' hL' hu hop z0 z1 z2
  unfold modC at hnw
  go_wp2_with fail
  refine hnw.mono ?_
  rintro e w6 hR
  obtain ⟨hb7, p, S, rfl, hTW, -, hpn⟩ := newG_u hR
  rw [ha, hbb] at *
  have hb8 := below_cut hb6 hb7 (Nat.le_refl _)
  have hbs := (Below.refl w6.heap.size w6).alloc (Nat.le_refl _) (.cells #[.int .i64 a, .int .i64 b] 30)
  have hb9 := below_cut hb8 hbs (Nat.le_refl _)
  have kS2 := Blk.new w6 30 #[.int .i64 a, .int .i64 b]
  have kS1 := ((kS.step hb5).step hb7).step hbs
  have hRT9 := ((hRT4.step hb5).step hb7).step hbs
  have hTW9 := hTW.step hbs
  clear hnw hR hTW hRT4 kS k14 hbs
  generalize tT (newM bound L) = T at *
  generalize tO (newM bound L) = ord at *
  have hpq : (p = none ∧ q = none) ∨ ∃ gp gq, p = some ⟨gp, 0, none⟩ ∧ q = some ⟨gq, 0, none⟩ := by
    rcases hpn with ⟨h1, h2⟩ | ⟨gp, h1, h2⟩
    · rcases hqn with ⟨h3, h4⟩ | ⟨gq, h3, h4⟩
      · exact .inl ⟨h1, h3⟩
      · exact absurd h4 h2
    · rcases hqn with ⟨h3, h4⟩ | ⟨gq, h3, h4⟩
      · exact absurd h2 h4
      · exact .inr ⟨gp, gq, h1, h3⟩
  have HPQ := Lib.hid hpq
  clear hpn hqn hpq ha hbb
  obtain ⟨s0, s1⟩ := two_ kS1
  obtain ⟨q0, q1⟩ := two_ kS2
  have hse := spot_eq a b
  have hsg := spot_guard
  have hcr := fun w' (hb : Below w.heap.size w w') (hrt : RTab w' q T ord) => rchain_any q T ord hTO ty Ap np cp lp w' hrt (by rcases HPQ.out with ⟨-, h⟩ | ⟨-, gq, -, h⟩; exact .inl h; exact .inr ⟨gq, h⟩) hnp ((hrp.below hb).more hb.size) hlp
  have hc9 := hcr _ hb9 hRT9
  have hcw := fun (w' : World) (h : Below w.heap.size w w') => copyWords Ap np cp lp w' hnp ((hrp.below h).more h.size)
  have hct := fun (w' : World) (hT : TabW w' p T S) (Aw : Option Addr) (hr : Reads w' w'.heap.size 1 Aw np (Ints .u32 lp)) => (by
    rcases HPQ.out with ⟨rfl, -⟩ | ⟨gp, -, rfl, -⟩
    · have hv : chN none T ty lp = (0, 0, 1) := if_pos rfl
      rw [hv]
      exact chain_none ty Aw np np w'
    · have hv : chN (some ⟨gp, 0, none⟩) T ty lp = chM T ty lp := if_neg (fun h => by cases h)
      rw [hv]
      exact chain_any gp T S hTO.ty ty Aw np np lp w' hT hnp hr hlp : Calls Tryz.prog 25 #[.pointer p, .int .u32 ty, .slice Aw np np] w' fun e w2 => e = .returned (.tuple #[.int .i64 (chN p T ty lp).1, .int .u32 (chN p T ty lp).2.1, .int .i64 (chN p T ty lp).2.2]) ∧ Below w'.heap.size w' w2)
  have hpe : chN p T ty lp = chN q T ty lp := by
    rcases HPQ.out with ⟨rfl, rfl⟩ | ⟨gp, gq, rfl, rfl⟩
    · rfl
    · unfold chN; rw [if_neg (fun h => by cases h), if_neg (fun h => by cases h)]
  rw [hpe] at hct
  generalize chN q T ty lp = r at *
  obtain ⟨r1, r2, r3⟩ := r
  dsimp only at hc9 hct
  have hwsame := fun (Aw : Option Addr) (w' : World) (hr1 : Reads w' w'.heap.size 1 Aw np (Ints .u32 lp)) (hr2 : Reads w' w'.heap.size 1 Ap np (Ints .u32 lp)) => words_same Aw Ap np np np cp lp lp w' (by omega) hr1 hr2
  simp only [sameB_refl] at hwsame
  have HRP := Lib.hid hrp
  have HTW := Lib.hid hTW9
  have HCT := Lib.hid hct
  have HWS := Lib.hid hwsame
  have e1 : (r1 == r1) = true := by simp
  have e2 : (r2 == r2) = true := by simp
  have e3 : (r3 == r3) = true := by simp
  clear hcr hpe hct hwsame hrp hTW9 HPQ hTO hlp hRT9
  go_wp2_with fail
  generalize (w6.alloc (.cells #[.int .i64 a, .int .i64 b] 30)) = W9 at *
  clear s0 s1 q0 q1 hse hsg kS1 kS2
  refine hc9.mono ?_
  rintro e w10 ⟨rfl, hb10⟩
  have hb11 := below_cut hb9 hb10 (Nat.le_refl _)
  have hc11 := hcw w10 hb11
  clear hc9 hcw
  go_wp2_with fail
  refine hc11.mono ?_
  rintro e w12 ⟨g1, rfl, ho1, hb12⟩
  have hb13 := below_cut hb11 hb12 (Nat.le_refl _)
  have hc13 := HCT.out w12 ((HTW.out.step hb10).step hb12) (some ⟨g1, 0, none⟩) (Reads.of_own ho1)
  have HO1 := Lib.hid ho1
  clear hc11 ho1
  go_wp2_with fail
  refine hc13.mono ?_
  rintro e w14 ⟨rfl, hb14⟩
  have hb15 := below_cut hb13 hb14 (Nat.le_refl _)
  have hw15 := HWS.out (some ⟨g1, 0, none⟩) w14 (Reads.of_own (own_below HO1.out hb14)) ((HRP.out.below hb15).more hb15.size)
  clear hc13
  go_wp2_with fail
  refine hw15.mono ?_
  rintro e w16 ⟨rfl, hd⟩
  have hb17 := below_cut hb15 (hd.below w14.heap.size) (Nat.le_refl _)
  have haw := mawake_ok w16
  clear hw15
  go_wp2_with fail
  refine haw.mono ?_
  rintro e w18 ⟨rfl, hb18⟩
  have hb19 := below_cut hb17 hb18 (Nat.le_refl _)
  go_wp2_with fail
  go_ret
  exact ⟨rfl, hb19⟩
end Go.Proofs.YtnhpjheiihiepaaGreatDoor
