/- The walk of CanvasBack: whatever the sheet and the dots, it answers true, and nothing that was there has turned. -/
import Derived.Test.YtfciaefjilobaaaBytesLaw
import Derived.Test.YtfciaefjilobaaaApart
import Derived.Test.YtfciaefjilobaaaCread
import Derived.Test.YtfciaefjilobaaaThere
import Derived.Test.YtfciaefjilobaaaBackLaw
namespace Go.Proofs.Ytfciaefjilobaaa
open Go.RowKit

theorem backc_1 : plotIs 2 1 (List.replicate (2 * 1) noPix) 1 0 3 = true := by decide
theorem backc_2 : plotE 2 1 1 0 = 0 := by decide
section
variable {w : World} {base g gp n c : Nat}
theorem backc_p1 (h : CanS w base g gp n c 2 1 7 (List.replicate (2 * 1) noPix)) : Calls Try.prog 15 #[.pointer (some ⟨g, 0, none⟩), .int .i64 1, .int .i64 0, .int .i32 3, .int .u32 9] w fun e w' => e = .returned (.tuple #[.bool true, .int .i64 0]) ∧ Off (fun k => k = gp) w w' := by
  have h1 := plot_any h 1 0 3 9 ⟨by decide, by decide, by decide, by decide⟩
  unfold Plotted at h1
  rw [backc_1, backc_2] at h1
  exact h1.mono fun _ _ h => ⟨h.1, h.2.2⟩
end
theorem bk_none {f : Nat → Bool} (h : ∀ k, f k = false) : ∀ m j, bk f j m = 0 ∧ lo f j m = 0
  | 0, _ => ⟨rfl, rfl⟩
  | m + 1, j => by
    obtain ⟨h1, h2⟩ := bk_none h m (j + 1)
    unfold bk lo
    rw [h j, h1, h2]
    exact ⟨rfl, rfl⟩
set_option maxRecDepth 20000 in
set_option maxHeartbeats 2000000 in
theorem law_backc (W H back : Int) (A : Option Addr) (m c : Nat) (l : List Dot) (w : World) (hW : -9223372036854775808 ≤ W ∧ W ≤ 9223372036854775807) (hH : -9223372036854775808 ≤ H ∧ H ≤ 9223372036854775807) (hb : 0 ≤ back ∧ back < 4294967296)
    (hm : m ≤ 9223372036854775807) (hl : okDots l) (hr : Reads w w.heap.size 4 A m (Dots l)) :
    Calls Try.prog 10 #[.agg #[.int .i64 W, .int .i64 H, .int .u32 back], .slice A m c] w fun e w' => e = .returned (.bool true) ∧ Below w.heap.size w w' := by
  have hb0 := (Below.refl w.heap.size w).alloc (Nat.le_refl _) (.cells #[.int .i64 W, .int .i64 H, .int .u32 back] 24)
  have ks := Blk.new w 24 #[.int .i64 W, .int .i64 H, .int .u32 back]
  have hlen := hr.dots_len
  go_enter Try.func10, Try.ntmps10
  go_wp2_with fail
  generalize w.alloc (.cells #[.int .i64 W, .int .i64 H, .int .u32 back] 24) = w0 at *
  have hks := ks.lt
  refine (new_ok 2 1 7 (by decide) (by decide) (by decide) w0).mono ?_
  rintro e w1 ⟨g, gp, rfl, hC, hb1⟩
  have ks1 := ks.below hb1 ks.lt
  have hb2 := below_cut hb0 hb1 (Nat.le_refl _)
  have hgp := hC.lt2.1
  have hb0s := hb0.size
  go_wp2_with fail
  refine (backc_p1 hC).mono ?_
  rintro e w2 ⟨rfl, ho2⟩
  have ks2 := ks1.off ho2 (by omega)
  have hb3 := hb2.trans (ho2.to_below w.heap.size hb2.size (fun k _ hk => by omega))
  clear hC ks1 hb2 ho2 hb0 hb1 ks
  obtain ⟨s0, s1, s2⟩ := ks2.read3
  go_wp2_with fail
  by_cases h0 : newE W H = 0
  · obtain ⟨a1, a2, a3, a4⟩ := newE_zero h0
    obtain ⟨W, rfl, hW1⟩ := nat_of a1 a2
    obtain ⟨H, rfl, hH1⟩ := nat_of a3 a4
    clear a1 a2 a3 a4 h0
    refine (new_ok W H back hW1 hH1 hb w2).mono ?_
    rintro e w6 ⟨g1, gp1, rfl, hC1, hb7⟩
    have hb8 := below_cut hb3 hb7 (Nat.le_refl _)
    have e2 := hC1.lt2
    have e3 := hC1.low
    have hs5 := hb3.size
    clear s0 s1 s2 ks2 hb7 hb3
    have hN : (List.replicate (W * H) noPix).length = W * H := by simp
    have hpl0 := plain_none (W * H)
    generalize List.replicate (W * H) noPix = ps0 at *
    go_wp2_with fail
    go_loopw [8] (fun i wr => ∃ a : Nat, a ≤ m ∧ i = .int .i64 a ∧ CanS wr w2.heap.size g1 gp1 (W * H) (W * H) W H back (runD W H ps0 (l.take a)) ∧ Below w.heap.size w wr) (fun i _ => m - (intOf i).toNat)
    case atStart => exact ⟨0, by omega, rfl, hC1, hb8⟩
    case round =>
      obtain ⟨a, ha, rfl, hA, hbr⟩ := hrel
      by_cases hlt : a < m
      · obtain ⟨ab, off, rfl, hab, hdots⟩ := (hr.below hbr).dots (by omega)
        obtain ⟨f0, f1, f2, f3⟩ := hdots a (by omega)
        clear hdots
        have hp1 := hl _ (dt_mem (l := l) (k := a) (by omega))
        have n1 := runD_take (W := W) (H := H) (ps := ps0) (l := l) (k := a) (by omega)
        generalize dt l a = qa at *
        have hpa := fun w' h => plot_any (w := w') (h : CanS w' w2.heap.size g1 gp1 (W * H) (W * H) W H back (runD W H ps0 (l.take a))) qa.1 qa.2.1 qa.2.2.1 qa.2.2.2 hp1
        unfold Plotted at hpa
        rw [← n1] at hpa
        clear n1
        go_wp2
        refine wp_region_tail 21 (by kernel_rfl) (by kernel_rfl) ?_
        simp only [List.take_succ_cons, List.take_zero, List.drop_succ_cons, List.drop_zero]
        repeat (go_big_quiet_step (fail))
        refine wpQuiet_nil ?_
        have hbd := hbr.drew
        have hA2 := hA.below (Below.refl _ _).drew
        clear hbr hA f0 f1 f2 f3
        generalize wr.drew = wd at *
        go_wp2_with fail
        refine (hpa wd hA2).mono ?_
        rintro e w8 ⟨rfl, hA3, ho3⟩
        have hbe := hbd.trans (ho3.to_below w.heap.size hbd.size (fun k _ hk => by omega))
        go_wp2
        go_roundw
        case rel => exact ⟨a + 1, by omega, by go_num, hA3, hbe⟩
        case measure => simp [intOf]; omega
      · obtain rfl : m = a := by omega
        rw [List.take_of_length_le (by omega)] at hA
        have hpos : 1 ≤ W * H := area_pos hW1.1 hH1.1
        have hplain := plain_run (W := W) (H := H) (l := l) hpl0
        generalize runD W H ps0 l = ps at *
        have hpl := picWords_length (back := back) (ps := ps) hW1.2 hH1.2 hpos
        have hpu := picWords_under (back := back) (ps := ps) hW1.2 hH1.2 hpos hb hA.sz.ok
        have hjl := joined_length (picWords W H back ps)
        have hju := joined_under (picWords W H back ps)
        have hrd := readW_back (back := back) hW1 hH1 hA.sz.len hA.sz.ok hplain
        have hc1 := cbytes_any hA
        have hdf := bk_none (f := dif ps ps back back) (fun k => by unfold dif; simp) (W * H) 0
        generalize hpw : picWords W H back ps = pw at *
        go_wp2_with fail
        refine hc1.mono ?_
        rintro e w8 ⟨A1, c1, rfl, ho1, hb10⟩
        have hbb := below_cut hbr hb10 (Nat.le_refl _)
        have hA1 := hA.below hb10
        go_wp2_with fail
        refine (copyBytes A1 _ c1 _ w8 (by omega) (Reads.of_own ho1)).mono ?_
        rintro e w9 ⟨g9, rfl, ho9, hb11⟩
        have hbc := below_cut hbb hb11 (Nat.le_refl _)
        have hA9 := hA1.below hb11
        have ho19 := own_below ho1 hb11
        go_wp2_with fail
        refine (cread_any _ _ _ _ w9 (by omega) (Nat.le_refl _) hju (Reads.of_own ho9)).mono ?_
        rintro e w10 ⟨hb12, hm10⟩
        rw [if_neg (by rw [hjl]; omega), hjl, show 4 * pw.length / 4 = pw.length from by omega, glue_joined hpu, hrd] at hm10
        obtain ⟨gC, gp, rfl, hCC⟩ := hm10
        have hbdd := below_cut hbc hb12 (Nat.le_refl _)
        have hx := (Below.refl w10.heap.size w10).alloc (Nat.le_refl _) (.cells #[.int .i64 0, .int .i64 0] 67)
        have kt := Blk.new w10 67 #[.int .i64 0, .int .i64 0]
        have hA10 := (hA9.below hb12).below hx
        have hC10 := hCC.below hx
        have ho110 := (own_below ho19 hb12).alloc (.cells #[.int .i64 0, .int .i64 0] 67)
        have hbe := hbdd.alloc hbdd.size (.cells #[.int .i64 0, .int .i64 0] 67)
        obtain ⟨y0, y1⟩ : _ ∧ _ := And.intro (kt.cell 0) (kt.cell 1)
        simp at y0 y1
        have hc2 := cbytes_any hC10
        rw [hpw] at hc2
        go_wp2_with fail
        clear y0 y1 kt
        generalize w10.alloc (.cells #[.int .i64 0, .int .i64 0] 67) = w11 at *
        refine hc2.mono ?_
        rintro e w12 ⟨A2, c2, rfl, ho2, hb13⟩
        have hbf := below_cut hbe hb13 (Nat.le_refl _)
        go_wp2_with fail
        refine (bytes_same A2 A1 _ _ c2 c1 _ _ _ (by omega) (Reads.of_own ho2) (Reads.of_own (own_below ho110 hb13))).mono ?_
        rintro e w13 ⟨rfl, hd13⟩
        rw [sameB_refl]
        have hbg := hbf.trans (hd13.below _)
        go_wp2_with fail
        refine (apart_near ((hA10.below hb13).below (hd13.below _)) ((hC10.below hb13).below (hd13.below _))).mono ?_
        rintro e w14 ⟨rfl, hd14⟩
        rw [hdf.1, hdf.2, Nat.zero_mod, Nat.zero_div]
        go_wp2_with fail
        go_ret
        exact ⟨rfl, hbg.trans (hd14.below _)⟩
  · refine (new_bad W H back hW hH h0 w2).mono ?_
    rintro e w6 ⟨rfl, rfl⟩
    have hne : (newE W H != 0) = true := by rw [bne_iff_ne]; exact h0
    have key : decide (W < 1) = true ∨ (decide (W < 1) = false ∧ decide (H < 1) = true) ∨ (decide (W < 1) = false ∧ decide (H < 1) = false ∧ decide (1024 < W) = true) ∨
        (decide (W < 1) = false ∧ decide (H < 1) = false ∧ decide (1024 < W) = false ∧ decide (1024 < H) = true) := by
      simp only [decide_eq_true_eq, decide_eq_false_iff_not]
      unfold newE at h0
      split at h0
      · omega
      · split at h0
        · omega
        · omega
    rcases key with t0 | ⟨t0, t1⟩ | ⟨t0, t1, t2⟩ | ⟨t0, t1, t2, t3⟩ <;>
    · go_wp2_with fail
      go_ret
      exact ⟨rfl, hb3⟩
end Go.Proofs.Ytfciaefjilobaaa
