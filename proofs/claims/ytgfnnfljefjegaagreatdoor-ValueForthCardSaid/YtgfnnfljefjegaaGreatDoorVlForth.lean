/- Walks: the law of ValueForth: what is read is a value, whose text is read as the same one. -/
import Derived.Test.YtgfnnfljefjegaaGreatDoorCVH
namespace Go.Proofs.YtgfnnfljefjegaaGreatDoor
open Go.RowKit

set_option maxRecDepth 100000 in
set_option maxHeartbeats 4000000 in
theorem law_forth (gen bound : Int) (A : Option Addr) (n c : Nat) (ls : List InstA) (ty : Int) (str : ByteArray) (w : World) (hM : ModS w w.heap.size A n ls) (hn : n ≤ 3600000000000) (hP : Pow w) (hE : Errs w)
    (hN : ∀ x ∈ ls, (∀ a ∈ x.1.2.2.2, 0 ≤ a.2.1 ∧ a.2.1 < 4294967296) ∧ (0 ≤ x.1.1 ∧ x.1.1 < 65536)) (hs : str.size ≤ 140737488351232) :
    Calls Tryz.prog 3 #[.agg (modC gen bound A n c), .int .u32 ty, .string str] w (BoolIs true w) := by
  have hb1 := (Below.refl w.heap.size w).alloc (Nat.le_refl _) (.cells (modC gen bound A n c) 25)
  have k1 := Blk.new w 25 (modC gen bound A n c)
  have hcp := copyModule_any gen bound A n c ls _ (hM.step hb1) hn
  obtain ⟨L, hL⟩ : ∃ L, L = ls.map (·.1) := ⟨_, rfl⟩
  obtain ⟨hu, hop⟩ := use_ hL hN
  rw [← hL] at hcp
  clear hL hM hN
  unfold modC at *
  obtain ⟨z0, z1, z2⟩ := three_ k1
  go_enter Tryz.func3, Tryz.ntmps3
  go_wp2_with fail
  refine hcp.mono ?_
  rintro e w2 ⟨A', c', ls', rfl, hM', hL', hb2⟩
  have hb3 := below_cut hb1 hb2 (Nat.le_refl _)
  have hnw := new_copied (gen := gen) (bound := bound) (c := c') hM' hL' (hP.step hb3) hu hop
  generalize newM bound L = r at *
  obtain ⟨r1, r2, s⟩ := r
  clear hcp hM' hL' hu hop z0 z1 z2 k1
  go_wp2_with fail
  refine hnw.mono ?_
  rintro e w3 ⟨hb4, ⟨h0, hw, gt, rfl, hG⟩ | ⟨h0, rfl⟩⟩
  · have hw : WellS s := hw
    have hG : TabG w3 (some ⟨gt, 0, none⟩) s := hG
    have hb5 := below_cut hb3 hb4 (Nat.le_refl _)
    have hbs := (Below.refl w3.heap.size w3).alloc (Nat.le_refl _) (.cells #[.int .i64 0, .int .i64 0] 29)
    have hb6 := hb5.alloc hb5.size (.cells #[.int .i64 0, .int .i64 0] 29)
    have kS := Blk.new w3 29 #[.int .i64 0, .int .i64 0]
    obtain ⟨S, hT, -⟩ := hG.step hbs
    obtain ⟨q0, q1⟩ := two_ kS
    have hO : RdOk (w3.alloc (.cells #[.int .i64 0, .int .i64 0] 29)) gt s.T S := ⟨well_typed hw, hT, hP.step hb6, hE.step hb6⟩
    have hps := parsed_any gt s.T S ty str _ hO hs
    have HO := Lib.hid hO
    have HW := Lib.hid (And.intro hP hE)
    clear hnw hG h0 hw hT hO hP hE hbs
    go_wp2_with fail
    generalize (w3.alloc (.cells #[.int .i64 0, .int .i64 0] 29)) = W at *
    clear q0 q1
    refine hps.mono ?_
    rintro e w4 (⟨hp, hb7, ⟨r, ws, A4, c4, hpr, hbl, rfl, ho⟩ | ⟨at_, hat, rfl, -⟩⟩ | ⟨hp, rfl, hb7⟩)
    · have hok := parseR_ok HO.out.ty 19 ty _ _ _ hp (rank19 HO.out.ty ty) hpr
      obtain ⟨hu, hf, hg⟩ := okV_fits hp hok
      have h96 := (HO.out.ty.size ty).2.2
      have hln : ws.length ≤ 4096 := by have := hok.1; omega
      have hpt := parse_text HO.out.ty 19 ty ws [] [] hp (rank19 HO.out.ty ty) hok blank_nil (fun c r h => by cases h)
      have hfew := text_few HO.out.ty (Nat.le_refl 19) hp (rank19 HO.out.ty ty) hok
      rw [List.nil_append, List.append_nil] at hpt
      have k5 := Blk.new w4 29 #[.int .i64 0, .int .i64 0]
      have hbt := (Below.refl w4.heap.size w4).alloc (Nat.le_refl _) (.cells #[.int .i64 0, .int .i64 0] 29)
      have hb8 := below_cut hb7 hbt (Nat.le_refl _)
      have hr5 := rd_on (Reads.of_own ho) hbt
      have hcw := copyWords A4 ws.length c4 ws _ (by omega) hr5
      obtain ⟨y0, y1⟩ := two_ k5
      have HU := Lib.hid hu
      have HF := Lib.hid (And.intro hf hg)
      have HT := Lib.hid (And.intro hpt hfew)
      have HR := Lib.hid hr5
      have HOK := Lib.hid hok
      clear hps hpr hbl ho hok hu hf hg hpt hfew hr5
      obtain ⟨m, hm⟩ : ∃ m, m = ws.length := ⟨_, rfl⟩
      rw [← hm] at hcw HR ⊢
      have HM := Lib.hid hm
      have hm4 : m ≤ 4096 := by omega
      clear hm
      go_wp2_with fail
      refine hcw.mono ?_
      rintro e w5 ⟨g5, rfl, ho5, hb9⟩
      have hb10 := below_cut hb8 hb9 (Nat.le_refl _)
      have htx := text_all gt s.T S ty (some ⟨g5, 0, none⟩) m m ws w5 (HO.out.on hb10) (Reads.of_own ho5) (Nat.le_refl _) HU.out
      have HR5 := Lib.hid (rd_on HR.out hb9)
      have k6 := k5.step hb9
      clear hcw y0 y1 ho5
      go_wp2_with fail
      refine htx.mono ?_
      rintro e w6 ⟨hb11, ⟨-, rfl⟩ | ⟨h, -⟩⟩
      · have hb12 := below_cut hb10 hb11 (Nat.le_refl _)
        have hps := parsed_any gt s.T S ty (bs (textV s.T 19 ty ws)) w6 (HO.out.on hb12) (by rw [bs_siz]; have := HT.out.2; omega)
        have HPT : Hid (parseR s.T 19 ty (bs (textV s.T 19 ty ws)).data.toList = ([], some ws)) := Lib.hid (by rw [bs_list]; exact HT.out.1)
        have HR6 := Lib.hid (rd_on HR5.out hb11)
        generalize bs (textV s.T 19 ty ws) = tx at *
        have k7 := k6.step hb11
        clear htx k6
        go_wp2_with fail
        refine hps.mono ?_
        rintro e w7 (⟨-, hb13, ⟨r', ws', A7, c7, hpr, -, rfl, ho7⟩ | ⟨a, -, -, hno⟩⟩ | ⟨h, -, -⟩)
        · rw [HPT.out] at hpr
          injection hpr with hr hws
          injection hws with hws
          subst hws
          have hb14 := below_cut hb12 hb13 (Nat.le_refl _)
          have k8 := Blk.new w7 29 #[.int .i64 0, .int .i64 0]
          have hbu := (Below.refl w7.heap.size w7).alloc (Nat.le_refl _) (.cells #[.int .i64 0, .int .i64 0] 29)
          have hb15 := below_cut hb14 hbu (Nat.le_refl _)
          have HR8 := Lib.hid (rd_on (rd_on HR6.out hb13) hbu)
          have HX8 := Lib.hid (rd_on (Reads.of_own ho7) hbu)
          have hft := fits_all gt s.T S HO.out.ty ty A4 m c4 ws _ (HO.out.on hb15).tab HR8.out
          rw [HF.out.1] at hft
          unfold BoolIs at hft
          obtain ⟨x0, x1⟩ := two_ k8
          rw [← HM.out] at HX8 ⊢
          clear hps ho7
          go_wp2_with fail
          refine hft.mono ?_
          rintro e w8 ⟨rfl, hb16⟩
          have hb17 := below_cut hb15 hb16 (Nat.le_refl _)
          have k9 := k8.step hb16
          obtain ⟨y0, y1⟩ := two_ k9
          have hsm := words_same A7 A4 m m c7 c4 ws ws w8 (by omega) (rd_on HX8.out hb16) (rd_on HR8.out hb16)
          rw [same_refl] at hsm
          clear hft x0 x1
          go_wp2_with fail
          refine hsm.mono ?_
          rintro e w9 ⟨rfl, hd9⟩
          have hb18 := below_cut hb17 (hd9.below w8.heap.size) (Nat.le_refl _)
          have hb19 := below_cut hb6 hb18 (Nat.le_refl _)
          have haw := awake12_any w9 (HW.out.1.step hb19) (HW.out.2.step hb19)
          clear hsm
          go_wp2_with fail
          refine haw.mono ?_
          rintro e w10 ⟨rfl, hb20⟩
          go_wp2_with fail
          go_ret
          exact ⟨rfl, below_cut hb19 hb20 (Nat.le_refl _)⟩
        · exact absurd ⟨_, _, HPT.out, rfl⟩ hno
        · exact absurd hp h
      · exact absurd HF.out.2 h
    · have k5 := Blk.new w4 29 #[.int .i64 120, .int .i64 (at_ : Nat)]
      have hbt := (Below.refl w4.heap.size w4).alloc (Nat.le_refl _) (.cells #[.int .i64 120, .int .i64 (at_ : Nat)] 29)
      have hb8 := below_cut hb6 (below_cut hb7 hbt (Nat.le_refl _)) (Nat.le_refl _)
      obtain ⟨y0, y1⟩ := two_ k5
      have d1 : decide (((at_ : Nat) : Int) ≥ 0) = true := by rw [decide_eq_true_eq]; omega
      have d2 : decide (((at_ : Nat) : Int) ≤ (str.size : Nat)) = true := by rw [decide_eq_true_eq]; omega
      have haw := awake12_any _ (HW.out.1.step hb8) (HW.out.2.step hb8)
      clear hps
      go_wp2_with fail
      refine haw.mono ?_
      rintro e w10 ⟨rfl, hb20⟩
      go_wp2_with fail
      go_ret
      exact ⟨rfl, below_cut hb8 hb20 (Nat.le_refl _)⟩
    · have k5 := Blk.new w4 29 #[.int .i64 100, .int .i64 0]
      have hbt := (Below.refl w4.heap.size w4).alloc (Nat.le_refl _) (.cells #[.int .i64 100, .int .i64 0] 29)
      have hb8 := below_cut hb7 hbt (Nat.le_refl _)
      obtain ⟨y0, y1⟩ := two_ k5
      have d2 : decide ((0 : Int) ≤ (str.size : Nat)) = true := by rw [decide_eq_true_eq]; omega
      have hpl := plainM_any _ _ _ ty _ (HO.out.on hb8).tab.tab
      rw [show decide (0 < (s.T ty).size) = false by rw [decide_eq_false_iff_not]; exact hp] at hpl
      clear hps
      go_wp2_with fail
      refine hpl.mono ?_
      rintro e w5 ⟨rfl, hb9⟩
      have hb10 := below_cut hb6 (below_cut hb8 hb9 (Nat.le_refl _)) (Nat.le_refl _)
      have haw := awake12_any w5 (HW.out.1.step hb10) (HW.out.2.step hb10)
      clear hpl
      go_wp2_with fail
      refine haw.mono ?_
      rintro e w10 ⟨rfl, hb20⟩
      go_wp2_with fail
      go_ret
      exact ⟨rfl, below_cut hb10 hb20 (Nat.le_refl _)⟩
  · have h0 : r1 ≠ 0 := h0
    have hb5 := below_cut hb3 hb4 (Nat.le_refl _)
    have hb6 := hb5.alloc hb5.size (.cells #[.int .i64 r1, .int .i64 r2] 29)
    have kS := Blk.new w3 29 #[.int .i64 r1, .int .i64 r2]
    obtain ⟨q0, q1⟩ := two_ kS
    have e0 : (r1 != 0) = true := by simpa using h0
    have haw := awake12_any _ (hP.step hb6) (hE.step hb6)
    clear hnw h0
    go_wp2_with fail
    generalize (w3.alloc (.cells #[.int .i64 r1, .int .i64 r2] 29)) = W at *
    refine haw.mono ?_
    rintro e w5 ⟨rfl, hb9⟩
    have hb10 := below_cut hb6 hb9 (Nat.le_refl _)
    clear q0 q1
    go_wp2_with fail
    go_ret
    exact ⟨rfl, hb10⟩
end Go.Proofs.YtgfnnfljefjegaaGreatDoor
