/- Walks: TypesNew. -/
import Derived.Test.YtnhpjheiihiepaaGreatDoorRnSame
import Derived.Test.YtnhpjheiihiepaaGreatDoorRtLow
import Derived.Test.YtnhpjheiihiepaaGreatDoorKitS
namespace Go.Proofs.YtnhpjheiihiepaaGreatDoor
open Go.RowKit

set_option maxRecDepth 100000 in
set_option maxHeartbeats 8000000 in
theorem law_new (gen bound : Int) (A : Option Addr) (n c : Nat) (ls : List InstA) (Ap : Option Addr) (np cp : Nat) (lp : List Int) (w : World) (hM : ModS w w.heap.size A n ls) (hn : n ≤ 3600000000000) (hP : Pow w) (hrp : Reads w w.heap.size 1 Ap np (Ints .u32 lp))
    (hN : ∀ x ∈ ls, (∀ a ∈ x.1.2.2.2, 0 ≤ a.2.1 ∧ a.2.1 < 4294967296) ∧ (0 ≤ x.1.1 ∧ x.1.1 < 65536)) :
    Calls Tryz.prog 3 #[.agg (modC gen bound A n c), .slice Ap np cp] w (BoolIs true w) := by
  have hb1 := (Below.refl w.heap.size w).alloc (Nat.le_refl _) (.cells (modC gen bound A n c) 25)
  have k1 := Blk.new w 25 (modC gen bound A n c)
  have hrn := rnew_any gen bound ls A n c _ (hM.step hb1) (fun x hx => (hN x hx).1) (fun x hx => (hN x hx).2)
  have hcp := fun w' (hb : Below w.heap.size w w') => copyModule_own gen bound A n c ls w' (hM.step hb) hn
  have hLn0 := hM.length
  have hLn : (ls.map (·.1)).length ≤ 7100000000000 := by rw [hM.length]; exact hM.len
  obtain ⟨L, hL⟩ : ∃ L, L = ls.map (·.1) := ⟨_, rfl⟩
  have hu : ∀ i ∈ L, ∀ a ∈ i.2.2.2, 0 ≤ a.2.1 ∧ a.2.1 < 4294967296 := fun i hi => by
    rw [hL] at hi
    obtain ⟨x, hx, rfl⟩ := List.mem_map.1 hi
    exact (hN x hx).1
  have hop : ∀ i ∈ L, 0 ≤ i.1 ∧ i.1 < 65536 := fun i hi => by
    rw [hL] at hi
    obtain ⟨x, hx, rfl⟩ := List.mem_map.1 hi
    exact (hN x hx).2
  rw [← hL] at hcp hrn hLn hLn0
  have hTO := tabs_ok bound L hLn
  have HLN := Lib.hid hLn0
  have HL := Lib.hid hL
  have HM := Lib.hid hM
  clear hL hM hN hLn hLn0
  unfold modC at *
  obtain ⟨z0, z1, z2⟩ := three_ k1
  go_enter Tryz.func3, Tryz.ntmps3
  go_wp2_with fail
  refine hrn.mono ?_
  rintro e w2 hR
  obtain ⟨hb2, q, rfl, hRT, hqn⟩ := rnewG_u hR
  have hb3 := below_cut hb1 hb2 (Nat.le_refl _)
  have HTO := Lib.hid hTO
  generalize ha : (newM bound L).1 = a at *
  generalize hbb : (newM bound L).2.1 = b at *
  have hbs := (Below.refl w2.heap.size w2).alloc (Nat.le_refl _) (.cells #[.int .i64 a, .int .i64 b] 30)
  have hb4 := below_cut hb3 hbs (Nat.le_refl _)
  have hw24 := hbs
  have kS := Blk.new w2 30 #[.int .i64 a, .int .i64 b]
  have k14 := (k1.step hb2).step hbs
  have hc4 := hcp _ hb4
  clear hrn hR hcp hbs hb2 k1 z0 z1 z2 hb1 hTO
  obtain ⟨z0, z1, z2⟩ := three_ k14
  go_wp2_with fail
  generalize (w2.alloc (.cells #[.int .i64 a, .int .i64 b] 30)) = W4 at *
  have hs4 := hb4.size
  generalize hgs : w2.heap.size = gs at *
  have HGS := Lib.hid hgs
  have hs24 : gs ≤ W4.heap.size := by have := hw24.size; omega
  have HRT := Lib.hid hRT
  clear hgs hRT
  refine hc4.mono ?_
  rintro e w5 h5
  unfold ModIsO at h5
  rw [HLN.out] at h5
  obtain ⟨g, l', rfl, hM', hL', hb5, hO⟩ := h5
  unfold modC
  have hroom := hO.room (by have := hM'.length; rwa [List.length_map] at this)
  have hbc := (Below.refl w5.heap.size w5).alloc (Nat.le_refl _) (.cells #[.int .u32 gen, .int .u32 bound, .slice (some ⟨g, 0, none⟩) n n] 25)
  have kc := Blk.new w5 25 #[.int .u32 gen, .int .u32 bound, .slice (some ⟨g, 0, none⟩) n n]
  have hb6 := below_cut hb4 (below_cut hb5 hbc (Nat.le_refl _)) (Nat.le_refl _)
  have hw46 := below_cut hb5 hbc (Nat.le_refl _)
  have hM6 := hM'.step hbc
  have hr6 := hroom.step hbc
  have hnw := newL_copied (gen := gen) (bound := bound) (c := n) hM6 hL' (hP.step hb6) hu hop
  have kS6 := (kS.step hb5).step hbc
  have k16 := (k14.step hb5).step hbc
  have hsz6 : w5.heap.size < (w5.alloc (.cells #[.int .u32 gen, .int .u32 bound, .slice (some ⟨g, 0, none⟩) n n] 25)).heap.size := by simp
  unfold modC at hnw
  clear hc4 hM' hb5 hbc hO hroom kS k14 z0 z1 z2 hu hop
  obtain ⟨y0, y1, y2⟩ := three_ kc
  go_wp2_with fail
  generalize (w5.alloc (.cells #[.int .u32 gen, .int .u32 bound, .slice (some ⟨g, 0, none⟩) n n] 25)) = W6 at *
  generalize w5.heap.size = gc at *
  clear y0 y1 y2
  refine hnw.mono ?_
  rintro e w7 hR
  obtain ⟨hb7, p, rfl, hTP, hpn⟩ := newL_u hR
  rw [ha, hbb] at *
  have hbs := (Below.refl w7.heap.size w7).alloc (Nat.le_refl _) (.cells #[.int .i64 a, .int .i64 b] 30)
  have hw68 := below_cut hb7 hbs (Nat.le_refl _)
  have hb8 := below_cut hb6 hw68 (Nat.le_refl _)
  have hkp78 := Kept.of_below (N := W6.heap.size) hbs
  have kS2 := Blk.new w7 30 #[.int .i64 a, .int .i64 b]
  have kS1 := kS6.step hw68
  have k18 := k16.step hw68
  have kc8 := kc.step hw68
  have hr8 := hr6.step hw68
  have hM8 := hM6.step hw68
  have hO8 := HM.out.step hb8
  have hcm := mods_same gen bound (some ⟨g, 0, none⟩) A n n c l' ls _ hM8 hO8 (by rw [hL', HL.out]) hn
  have hlen8 : ∀ x ∈ l', x.2.2.1 ≤ 6000000000000 := fun x hx => (hM8.ok x hx).len
  have hw28 := below_cut hw24 (below_cut hw46 hw68 (Nat.le_refl _)) (by have := HGS.out; omega)
  have HK := Lib.hid hTP
  have HLEN := Lib.hid hlen8
  have HR8 := Lib.hid hr8
  unfold modC at hcm
  unfold BoolIs at hcm
  clear hnw hR hTP hlen8 hr8 hr6 hM6 hM8 hO8 kS6 k16 kc hw24 hw46 hb7 hbs hb6 hb4 hb3 hL' HL HM
  generalize tT (newM bound L) = T at *
  generalize tO (newM bound L) = ord at *
  clear ha hbb
  obtain ⟨s0, s1⟩ := two_ kS1
  obtain ⟨q0, q1⟩ := two_ kS2
  obtain ⟨z0, z1, z2⟩ := three_ k18
  obtain ⟨y0, y1, y2⟩ := three_ kc8
  have hse := spot_eq a b
  have hsg := spot_guard
  have HNL : ord.length ≤ 7100000000000 := HTO.out.few
  have HNb : (askL ord lp).length ≤ 7100000000009 := by
    unfold askL
    simp only [List.length_append, List.length_take, List.length_singleton]
    omega
  have hpq : (p = none ∧ q = none) ∨ (∃ g1 g2, p = some ⟨g1, 0, none⟩ ∧ q = some ⟨g2, 0, none⟩) := by
    rcases hpn with ⟨h1, h2⟩ | ⟨g1, h1, h2⟩ <;> rcases hqn with ⟨h3, h4⟩ | ⟨g2, h3, h4⟩
    · exact .inl ⟨h1, h3⟩
    · exact absurd h4 h2
    · exact absurd h2 h4
    · exact .inr ⟨g1, g2, h1, h3⟩
  have HRP := Lib.hid hrp
  have HPW := Lib.hid hP
  clear hpn hqn hrp hP
  rcases hpq with ⟨rfl, rfl⟩ | ⟨g1, g2, rfl, rfl⟩
  all_goals
    go_wp2_with fail
    refine hcm.mono ?_
    rintro e w9 ⟨rfl, hb9⟩
    have kc9 := kc8.step hb9
    have hR9 := HR8.out.step hb9
    have hkp9 := Kept.of_below (N := W6.heap.size) hb9
    have hw29 := below_cut hw28 hb9 (by have := HGS.out; omega)
    have hb99 := below_cut hb8 hb9 (Nat.le_refl _)
    clear hcm s0 s1 q0 q1 z0 z1 z2 y0 y1 y2 hse hsg kS1 kS2 k18 kc8 hb9
    obtain ⟨y0, y1, y2⟩ := three_ kc9
    have hgz : gc ≤ w9.heap.size := by
      have h1 := hw68.size
      have h2 := hkp9.size
      omega
    have hsp := spoilMod_any gen bound _ _ g n l' w9 hR9 hgz hn HLEN.out
    unfold modC at hsp
    clear hR9
    go_wp2_with fail
    refine hsp.mono ?_
    rintro e wB ⟨rfl, hbB, hkB⟩
    obtain ⟨S, hTW, hTI⟩ := HK.out wB ((hkp78.trans hkp9).trans (hkB.mono (by omega)))
    have hRTB := HRT.out.step (w' := wB) (by rw [HGS.out]; exact hw29.trans (hbB.mono hs24))
    have hbW := hb99.trans (hbB.mono hs4)
    clear hsp hbB hkB y0 y1 y2 kc9 hgz hb99 hw29 hkp9 hkp78 hw28 hw68 hb8 hsz6 hs4 hs24
    have hi1 := idsT_any _ ord wB hTI
    go_wp2_with fail
    refine hi1.mono ?_
    rintro e wC ⟨A1, c1, rfl, ho1, hbC⟩
    have hi2 := rids_any _ T ord wC (hRTB.step hbC)
    clear hi1
    go_wp2_with fail
    refine hi2.mono ?_
    rintro e wD ⟨A2, c2, rfl, ho2, hbD⟩
    have hww := words_sameS A1 A2 ord.length ord.length c1 c2 ord ord wD (by omega) (((Reads.of_own ho1).below hbD).more hbD.size) (Reads.of_own ho2)
    rw [sameB_refl] at hww
    have hbE := below_cut hbC hbD (Nat.le_refl _)
    clear hi2 ho1 ho2 hbC hbD
    go_wp2_with fail
    refine hww.mono ?_
    rintro e wE ⟨rfl, m, rfl⟩
    have hbF := below_drewN hbE m
    clear hww hbE
    generalize wD.drewN m = wF at *
    have hi3 := idsT_any _ ord wF (hTI.step hbF)
    go_wp2_with fail
    refine hi3.mono ?_
    rintro e wG ⟨A3, c3, rfl, ho3, hbG⟩
    have hsw := spoilWords_any _ A3 ord.length c3 ord wG (by omega) ho3
    clear hi3 ho3
    go_wp2_with fail
    refine hsw.mono ?_
    rintro e wH ⟨rfl, hbH⟩
    have hbI := below_cut hbF (hbG.trans hbH) (Nat.le_refl _)
    clear hsw hbG hbH hbF
    have hbJ := below_cut hbW hbI (Nat.le_refl _)
    have hak := asked_any _ T ord HTO.out Ap np cp lp wH (hRTB.step hbI) ((HRP.out.below hbJ).more hbJ.size)
    go_wp2_with fail
    refine hak.mono ?_
    rintro e wK ⟨Al, cl, rfl, hoK, hbK⟩
    have hbL := below_cut hbI hbK (Nat.le_refl _)
    have HR := Lib.hid (Reads.of_own hoK)
    have HT := Lib.hid (hTW.step hbL)
    have HI := Lib.hid (hTI.step hbL)
    have HQ := Lib.hid (hRTB.step hbL)
    have HPK := Lib.hid (HPW.out.step (below_cut hbW hbL (Nat.le_refl _)))
    have hbM := below_cut hbW hbL (Nat.le_refl _)
    clear hak hoK hbI hbJ hbL hTW hTI hRTB
    generalize askL ord lp = al at *
    obtain ⟨N, hNl⟩ : ∃ N, N = al.length := ⟨_, rfl⟩
    rw [← hNl] at HR HNb ⊢
    have HNL2 := Lib.hid hNl
    clear hNl hbK
    go_wp2_with fail
    go_loopg [11] N (fun qq i wr => ∃ k : Nat, k + qq = N ∧ i = .int .i64 (k : Nat) ∧ Below wK.heap.size wK wr)
    case atStart => exact ⟨0, by omega, rfl, Below.refl _ _⟩
    case round =>
      obtain ⟨k, hkq, rfl, hbr⟩ := hrel
      by_cases hlt : k < N
      · have d1 : decide (((k : Nat) : Int) < (N : Nat)) = true := by rw [decide_eq_true_eq]; omega
        have hi1 : ((k : Nat) : Int) < (N : Nat) := by omega
        obtain ⟨b', off, rfl, hb0, hcc⟩ := (HR.out.below hbr).ints (by omega)
        have x0 := hcc k (by omega)
        have htd := told_any _ _ T S ord HTO.out (ix al k) wr (HT.out.step hbr) (HQ.out.step hbr) (HPK.out.step hbr)
        unfold BoolIs at htd
        clear hcc
        generalize ix al k = x at *
        go_wp2_with fail
        refine htd.mono ?_
        rintro e v1 ⟨rfl, g1⟩
        have g2 := below_cut hbr g1 (Nat.le_refl _)
        clear htd x0
        go_wp2_with fail
        go_roundg (N - (k + 1))
        case measure => omega
        case rel => exact ⟨k + 1, by omega, by go_num, g2⟩
      · have d1 : decide (((k : Nat) : Int) < (N : Nat)) = false := by rw [decide_eq_false_iff_not]; omega
        have hi4 := idsT_any _ ord wr (HI.out.step hbr)
        go_wp2_with fail
        refine hi4.mono ?_
        rintro e v1 ⟨A4, c4, rfl, ho4, hb4⟩
        have hb5 := below_cut hbr hb4 (Nat.le_refl _)
        have hi5 := rids_any _ T ord v1 (HQ.out.step hb5)
        clear hi4
        go_wp2_with fail
        refine hi5.mono ?_
        rintro e v2 ⟨A5, c5, rfl, ho5, hb6⟩
        have hw2 := words_sameS A4 A5 ord.length ord.length c4 c5 ord ord v2 (by omega) (((Reads.of_own ho4).below hb6).more hb6.size) (Reads.of_own ho5)
        rw [sameB_refl] at hw2
        have hb7 := below_cut hb5 hb6 (Nat.le_refl _)
        clear hi5 ho4 ho5 hb4 hb5 hb6
        go_wp2_with fail
        refine hw2.mono ?_
        rintro e v3 ⟨rfl, m2, rfl⟩
        have hb8 := below_drewN hb7 m2
        have hb9 := below_cut hbM hb8 (Nat.le_refl _)
        have haw := awake_any (v2.drewN m2) (HPK.out.step hb8)
        unfold BoolIs at haw
        clear hw2 hb7
        generalize v2.drewN m2 = v4 at *
        go_wp2_with fail
        refine haw.mono ?_
        rintro e v5 ⟨rfl, hb10⟩
        have hb11 := below_cut hb9 hb10 (Nat.le_refl _)
        clear haw
        go_wp2_with fail
        go_ret
        exact ⟨rfl, hb11⟩
end Go.Proofs.YtnhpjheiihiepaaGreatDoor
