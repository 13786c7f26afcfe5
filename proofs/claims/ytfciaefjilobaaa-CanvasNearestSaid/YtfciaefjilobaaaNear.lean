/- The walk of CanvasNearest: whatever the sheet and the dots, it answers true, and nothing that was there has turned. -/
import Derived.Test.YtfciaefjilobaaaBytesLaw
import Derived.Test.YtfciaefjilobaaaNearLaw
import Derived.Test.YtfciaefjilobaaaCnil
namespace Go.Proofs.Ytfciaefjilobaaa
open Go.RowKit

theorem near_1 : plotIs 1 1 (List.replicate (1 * 1) noPix) 0 0 4 = true := by decide
theorem near_2 : plotR 1 1 (List.replicate (1 * 1) noPix) 0 0 4 1 = [(true, 4, 1)] := by decide
theorem near_3 : plotIs 1 1 [(true, 4, 1)] 0 0 4 = false := by decide
theorem near_4 : plotR 1 1 [(true, 4, 1)] 0 0 4 2 = [(true, 4, 1)] := by decide
theorem near_5 : plotIs 1 1 [(true, 4, 1)] 0 0 3 = true := by decide
theorem near_6 : plotR 1 1 [(true, 4, 1)] 0 0 3 3 = [(true, 3, 3)] := by decide
theorem near_7 : atC 1 1 [(true, 3, 3)] 0 0 0 = 3 ∧ atD 1 1 [(true, 3, 3)] 0 0 = 3 ∧ atB 1 1 [(true, 3, 3)] 0 0 = true := by decide
theorem near_8 : plotE 1 1 0 0 = 0 := by decide
section
variable {w : World} {base g gp n c : Nat}
theorem near_p1 (h : CanS w base g gp n c 1 1 0 (List.replicate (1 * 1) noPix)) : Calls Try.prog 15 #[.pointer (some ⟨g, 0, none⟩), .int .i64 0, .int .i64 0, .int .i32 4, .int .u32 1] w fun e w' => e = .returned (.tuple #[.bool true, .int .i64 0]) ∧ CanS w' base g gp n c 1 1 0 [(true, 4, 1)] ∧ Off (fun k => k = gp) w w' := by
  have h1 := plot_any h 0 0 4 1 ⟨by decide, by decide, by decide, by decide⟩
  unfold Plotted at h1
  rwa [near_1, near_8, near_2] at h1
theorem near_p2 (h : CanS w base g gp n c 1 1 0 [(true, 4, 1)]) : Calls Try.prog 15 #[.pointer (some ⟨g, 0, none⟩), .int .i64 0, .int .i64 0, .int .i32 4, .int .u32 2] w fun e w' => e = .returned (.tuple #[.bool false, .int .i64 0]) ∧ CanS w' base g gp n c 1 1 0 [(true, 4, 1)] ∧ Off (fun k => k = gp) w w' := by
  have h1 := plot_any h 0 0 4 2 ⟨by decide, by decide, by decide, by decide⟩
  unfold Plotted at h1
  rwa [near_3, near_8, near_4] at h1
theorem near_p3 (h : CanS w base g gp n c 1 1 0 [(true, 4, 1)]) : Calls Try.prog 15 #[.pointer (some ⟨g, 0, none⟩), .int .i64 0, .int .i64 0, .int .i32 3, .int .u32 3] w fun e w' => e = .returned (.tuple #[.bool true, .int .i64 0]) ∧ CanS w' base g gp n c 1 1 0 [(true, 3, 3)] ∧ Off (fun k => k = gp) w w' := by
  have h1 := plot_any h 0 0 3 3 ⟨by decide, by decide, by decide, by decide⟩
  unfold Plotted at h1
  rwa [near_5, near_8, near_6] at h1
theorem near_a4 (h : CanS w base g gp n c 1 1 0 [(true, 3, 3)]) : Calls Try.prog 20 #[.pointer (some ⟨g, 0, none⟩), .int .i64 0, .int .i64 0] w fun e w' => e = .returned (.tuple #[.int .u32 3, .int .i32 3, .bool true, .int .i64 0]) ∧ Drawn w w' := by
  have h1 := at_any h 0 0
  rwa [near_7.1, near_7.2.1, near_7.2.2, near_8] at h1
theorem sheet_off {ks : Nat} {cs : Array Value} {w' : World} {W H : Nat} {back : Int} {ps : List Pix} (h : CanS w base g gp n c W H back ps) (k : Blk w ks 24 cs) (ho : Off (fun k => k = gp) w w') : Blk w' ks 24 cs := k.off ho (own_blk_ne' h.row k (by decide))
end

set_option maxRecDepth 20000 in
set_option maxHeartbeats 4000000 in
theorem law_near (W H back : Int) (A : Option Addr) (m c : Nat) (l : List Dot) (w : World) (hW : -9223372036854775808 ≤ W ∧ W ≤ 9223372036854775807) (hH : -9223372036854775808 ≤ H ∧ H ≤ 9223372036854775807) (hb : 0 ≤ back ∧ back < 4294967296)
    (hm : m ≤ 9223372036854775807) (hl : okDots l) (hr : Reads w w.heap.size 4 A m (Dots l)) :
    Calls Try.prog 6 #[.agg #[.int .i64 W, .int .i64 H, .int .u32 back], .slice A m c] w fun e w' => e = .returned (.bool true) ∧ Below w.heap.size w w' := by
  have hb0 := (Below.refl w.heap.size w).alloc (Nat.le_refl _) (.cells #[.int .i64 W, .int .i64 H, .int .u32 back] 24)
  have ks := Blk.new w 24 #[.int .i64 W, .int .i64 H, .int .u32 back]
  have hlen := hr.dots_len
  go_enter Try.func6, Try.ntmps6
  go_wp2_with fail
  generalize w.alloc (.cells #[.int .i64 W, .int .i64 H, .int .u32 back] 24) = w0 at *
  refine (new_ok 1 1 0 (by decide) (by decide) (by decide) w0).mono ?_
  rintro e w1 ⟨g, gp, rfl, hC, hb1⟩
  have ks1 := ks.below hb1 ks.lt
  have hb2 := below_cut hb0 hb1 (Nat.le_refl _)
  have hgp : w.heap.size ≤ gp := Nat.le_trans hb0.size hC.lt2.1
  clear hb0 ks hb1
  go_wp2_with fail
  refine (near_p1 hC).mono ?_
  rintro e w2 ⟨rfl, hC2, ho2⟩
  have ks2 := sheet_off hC ks1 ho2
  have hb3 := hb2.trans (ho2.to_below w.heap.size hb2.size (fun k _ hk => by omega))
  clear hC ks1 hb2 ho2
  go_wp2_with fail
  refine (near_p2 hC2).mono ?_
  rintro e w3 ⟨rfl, hC3, ho3⟩
  have ks3 := sheet_off hC2 ks2 ho3
  have hb4 := hb3.trans (ho3.to_below w.heap.size hb3.size (fun k _ hk => by omega))
  clear hC2 ks2 hb3 ho3
  go_wp2_with fail
  refine (near_p3 hC3).mono ?_
  rintro e w4 ⟨rfl, hC4, ho4⟩
  have ks4 := sheet_off hC3 ks3 ho4
  have hb5 := hb4.trans (ho4.to_below w.heap.size hb4.size (fun k _ hk => by omega))
  clear hC3 ks3 hb4 ho4
  go_wp2_with fail
  refine (near_a4 hC4).mono ?_
  rintro e w5 ⟨rfl, hd5⟩
  have hb6 := hb5.trans (hd5.below w.heap.size)
  have ks5 := ks4.drawn hd5
  clear hC4 ks4 hb5 hd5
  obtain ⟨s0, s1, s2⟩ := ks5.read3
  go_wp2_with fail
  by_cases h0 : newE W H = 0
  · obtain ⟨a1, a2, a3, a4⟩ := newE_zero h0
    obtain ⟨W, rfl, hW1⟩ := nat_of a1 a2
    obtain ⟨H, rfl, hH1⟩ := nat_of a3 a4
    clear a1 a2 a3 a4 h0
    refine (new_ok W H back hW1 hH1 hb w5).mono ?_
    rintro e w6 ⟨g1, gp1, rfl, hC1, hb7⟩
    have hb8 := below_cut hb6 hb7 (Nat.le_refl _)
    obtain ⟨s0, s1, s2⟩ := (ks5.below hb7 ks5.lt).read3
    go_wp2_with fail
    refine (new_ok W H back hW1 hH1 hb w6).mono ?_
    rintro e w7 ⟨g2, gp2, rfl, hC2, hb9⟩
    have hC1' := hC1.below hb9
    have hbz := below_cut hb8 hb9 (Nat.le_refl _)
    have e1 := hC1.lt
    have e2 := hC1.lt2
    have e3 := hC1.low
    have e4 := hC2.low
    have e5 := hC2.lt2
    have hs5 := hb6.size
    have hs6 := hb8.size
    clear s0 s1 s2 ks5 hb6 hb7 hb8 hb9 hC1
    have hN : (List.replicate (W * H) noPix).length = W * H := by simp
    generalize List.replicate (W * H) noPix = ps0 at *
    go_wp2_with fail
    generalize w7 = wz at *
    go_loopw [19] (fun i wr => ∃ a : Nat, a ≤ m ∧ i = .int .i64 a ∧ Dist l a ∧ Drawn wz wr) (fun i _ => m - (intOf i).toNat)
    case atStart => exact ⟨0, by omega, rfl, fun a b h1 h2 => by omega, Drawn.refl _⟩
    case round =>
      obtain ⟨a, ha, rfl, hDi, hdr⟩ := hrel
      by_cases hlt : a < m
      · obtain ⟨wo, rfl⟩ : ∃ wo : World, wo = wr := ⟨_, rfl⟩
        go_wp2_with fail
        go_loopw [20] (fun j wi => ∃ b : Nat, b ≤ a ∧ j = .int .i64 b ∧ (∀ x, x < b → (dt l x).2.2.1 ≠ (dt l a).2.2.1) ∧ Drawn wz wi) (fun j _ => a - (intOf j).toNat)
        case atStart => exact ⟨0, by omega, rfl, fun x h => by omega, hdr⟩
        case round =>
          obtain ⟨b, hbb, rfl, hx, hdi⟩ := hrel
          by_cases hlt2 : b < a
          · have hbi := hbz.trans (hdi.below w.heap.size)
            obtain ⟨ab, off, rfl, hab, hdots⟩ := (hr.below hbi).dots (by omega)
            obtain ⟨_, _, f2, _⟩ := hdots a (by omega)
            obtain ⟨_, _, g2, _⟩ := hdots b (by omega)
            clear hdots
            have hcmp : ((dt l a).2.2.1 == (dt l b).2.2.1) = decide ((dt l b).2.2.1 = (dt l a).2.2.1) := by
              by_cases e : (dt l b).2.2.1 = (dt l a).2.2.1
              · simp [e]
              · simp [e, Ne.symm e]
            by_cases heq : (dt l b).2.2.1 = (dt l a).2.2.1
            · rw [decide_eq_true heq] at hcmp
              clear hx heq
              generalize (dt l a).2.2.1 = da at *
              generalize (dt l b).2.2.1 = db at *
              go_wp2
              go_quiet (fail)
              go_wp2
              go_ret
              exact ⟨rfl, below_drewN hbi _⟩
            · rw [decide_eq_false heq] at hcmp
              have hx2 : ∀ x, x < b + 1 → (dt l x).2.2.1 ≠ (dt l a).2.2.1 := fun x h => by
                rcases Nat.lt_or_ge x b with h' | h'
                · exact hx x h'
                · obtain rfl : x = b := by omega
                  exact heq
              have Hx2 := Lib.hid hx2
              clear hx hx2 heq
              generalize (dt l a).2.2.1 = da at *
              generalize (dt l b).2.2.1 = db at *
              go_wp2
              go_quiet (fail)
              go_wp2
              go_roundw
              case rel => exact ⟨b + 1, by omega, by go_num, fun x h => Hx2.out x h, hdi.more _⟩
              case measure => simp [intOf]; omega
          · obtain rfl : b = a := by omega
            have hD2 : Dist l (b + 1) := fun x y h1 h2 => by
              rcases Nat.lt_or_ge y b with h' | h'
              · exact hDi x y h1 h'
              · obtain rfl : y = b := by omega
                exact hx x h1
            clear hx
            go_wp2
            go_roundw
            case rel => exact ⟨b + 1, by omega, by go_num, hD2, hdi⟩
            case measure => simp [intOf]; omega
      · obtain rfl : m = a := by omega
        have hbv := hbz.trans (hdr.below w.heap.size)
        go_wp2_with fail
        have hCa := hC1'.below (hdr.below _)
        have hCb := hC2.below (hdr.below _)
        have hpw := runD_reverse (W := W) (H := H) hN (by rw [← hlen] at hDi; exact hDi.pairwise)
        clear hC1' hC2
        go_loopw [21] (fun i wr => ∃ a : Nat, a ≤ m ∧ i = .int .i64 a ∧ CanS wr w5.heap.size g1 gp1 (W * H) (W * H) W H back (runD W H ps0 (l.take a)) ∧ CanS wr w6.heap.size g2 gp2 (W * H) (W * H) W H back (runD W H ps0 (l.reverse.take a)) ∧ Below w.heap.size w wr) (fun i _ => m - (intOf i).toNat)
        case atStart => exact ⟨0, by omega, rfl, hCa, hCb, hbv⟩
        case round =>
          obtain ⟨a, ha, rfl, hA, hB, hbr⟩ := hrel
          by_cases hlt : a < m
          · obtain ⟨ab, off, rfl, hab, hdots⟩ := (hr.below hbr).dots (by omega)
            obtain ⟨f0, f1, f2, f3⟩ := hdots a (by omega)
            obtain ⟨g0, g1', g2', g3⟩ := hdots (m - 1 - a) (by omega)
            clear hdots
            have hj : ((m : Int) - 1) - (a : Int) = ((m - 1 - a : Nat) : Int) := by omega
            have hjl : m - 1 - a < m := by omega
            have hrv : dt l.reverse a = dt l (m - 1 - a) := by rw [← hlen]; exact dt_reverse (by omega)
            have hp1 := hl _ (dt_mem (l := l) (k := a) (by omega))
            have hp2 := hl _ (dt_mem (l := l) (k := m - 1 - a) (by omega))
            have n1 := runD_take (W := W) (H := H) (ps := ps0) (l := l) (k := a) (by omega)
            have n2 := runD_take (W := W) (H := H) (ps := ps0) (l := l.reverse) (k := a) (by simp; omega)
            rw [hrv] at n2
            clear hrv
            generalize m - 1 - a = jj at *
            generalize dt l a = qa at *
            generalize dt l jj = qb at *
            have hpa := fun w' h => plot_any (w := w') (h : CanS w' w5.heap.size g1 gp1 (W * H) (W * H) W H back (runD W H ps0 (l.take a))) qa.1 qa.2.1 qa.2.2.1 qa.2.2.2 hp1
            have hpb := fun w' h => plot_any (w := w') (h : CanS w' w6.heap.size g2 gp2 (W * H) (W * H) W H back (runD W H ps0 (l.reverse.take a))) qb.1 qb.2.1 qb.2.2.1 qb.2.2.2 hp2
            unfold Plotted at hpa hpb
            rw [← n1] at hpa
            rw [← n2] at hpb
            have N1 := Lib.hid n1
            have N2 := Lib.hid n2
            clear n1 n2
            go_wp2
            refine wp_region_tail 21 (by kernel_rfl) (by kernel_rfl) ?_
            simp only [List.take_succ_cons, List.take_zero, List.drop_succ_cons, List.drop_zero]
            repeat (go_big_quiet_step (fail))
            refine wpQuiet_nil ?_
            have hbd := hbr.drew
            have hA2 := hA.below (Below.refl _ _).drew
            have hB2 := hB.below (Below.refl _ _).drew
            have hrd : ∀ p : Addr, wr.drew.cell? p = wr.cell? p := fun _ => rfl
            rw [← hrd] at g0 g1' g2' g3
            have G := Lib.hid (And.intro g0 (And.intro g1' (And.intro g2' g3)))
            clear hbr hA hB f0 f1 f2 f3 g0 g1' g2' g3 hrd
            generalize wr.drew = wd at *
            go_wp2_with fail
            refine (hpa wd hA2).mono ?_
            rintro e w8 ⟨rfl, hA3, ho3⟩
            have hB3 := hB2.off ho3 (by omega) (by omega)
            have hbe := hbd.trans (ho3.to_below w.heap.size hbd.size (fun k _ hk => by omega))
            have hdd : wd.cell? ⟨ab, off + jj * 4, none⟩ = w8.cell? ⟨ab, off + jj * 4, none⟩ ∧ wd.cell? ⟨ab, off + jj * 4 + 1, none⟩ = w8.cell? ⟨ab, off + jj * 4 + 1, none⟩ ∧ wd.cell? ⟨ab, off + jj * 4 + 2, none⟩ = w8.cell? ⟨ab, off + jj * 4 + 2, none⟩ ∧ wd.cell? ⟨ab, off + jj * 4 + 3, none⟩ = w8.cell? ⟨ab, off + jj * 4 + 3, none⟩ := by
              have hk : ∀ o, wd.cell? ⟨ab, o, none⟩ = w8.cell? ⟨ab, o, none⟩ := fun o => ((hbe.cell (p := ⟨ab, o, none⟩) hab).trans (hbd.cell (p := ⟨ab, o, none⟩) hab).symm).symm
              exact ⟨hk _, hk _, hk _, hk _⟩
            obtain ⟨g0, g1', g2', g3⟩ := G.out
            rw [hdd.1] at g0
            rw [hdd.2.1] at g1'
            rw [hdd.2.2.1] at g2'
            rw [hdd.2.2.2] at g3
            clear hdd hA2 hB2 ho3 hbd G
            go_wp2
            refine wp_region_tail 21 (by kernel_rfl) (by kernel_rfl) ?_
            simp only [List.take_succ_cons, List.take_zero, List.drop_succ_cons, List.drop_zero]
            repeat (go_big_quiet_step (fail))
            refine wpQuiet_nil ?_
            have hbf := hbe.drew
            have hA4 := hA3.below (Below.refl _ _).drew
            have hB4 := hB3.below (Below.refl _ _).drew
            clear hbe hA3 hB3 g0 g1' g2' g3
            generalize w8.drew = wf at *
            go_wp2_with fail
            refine (hpb wf hB4).mono ?_
            rintro e w9 ⟨rfl, hB5, ho5⟩
            have hA5 := hA4.off ho5 (by omega) (by omega)
            have hbg := hbf.trans (ho5.to_below w.heap.size hbf.size (fun k _ hk => by omega))
            go_wp2
            go_roundw
            case rel => exact ⟨a + 1, by omega, by go_num, hA5, hB5, hbg⟩
            case measure => simp [intOf]; omega
          · obtain rfl : m = a := by omega
            rw [List.take_of_length_le (by omega)] at hA
            rw [List.take_of_length_le (by simp; omega), hpw] at hB
            have hpos : 1 ≤ W * H := area_pos hW1.1 hH1.1
            have hpl := picWords_length (back := back) (ps := runD W H ps0 l) hW1.2 hH1.2 hpos
            have hjl := joined_length (picWords W H back (runD W H ps0 l))
            have hc1 := cbytes_any hA
            have hc2 := fun w' (h : Below wr.heap.size wr w') => cbytes_any (hB.below h)
            generalize picWords W H back (runD W H ps0 l) = pw at *
            go_wp2_with fail
            refine hc1.mono ?_
            rintro e w8 ⟨A1, c1, rfl, ho1, hb10⟩
            go_wp2_with fail
            refine (hc2 _ hb10).mono ?_
            rintro e w9 ⟨A2, c2, rfl, ho2, hb11⟩
            go_wp2_with fail
            refine (bytes_same A1 A2 _ _ c1 c2 _ _ _ (by omega) (Reads.of_own (own_below ho1 hb11)) (Reads.of_own ho2)).mono ?_
            rintro e w10 ⟨rfl, hd9⟩
            rw [sameB_refl]
            go_wp2
            go_ret
            exact ⟨rfl, (below_cut hbr (below_cut hb10 hb11 (Nat.le_refl _)) (Nat.le_refl _)).trans (hd9.below _)⟩
  · have hn := fun w' => new_bad W H back hW hH h0 w'
    have e0 : (newE W H != newE W H) = false := by simp
    generalize newE W H = ee at hn e0
    refine (hn _).mono ?_
    rintro e w6 ⟨rfl, rfl⟩
    go_wp2_with fail
    refine (hn _).mono ?_
    rintro e w6 ⟨rfl, rfl⟩
    clear hn
    go_wp2_with fail
    have hbz := hb6
    clear hb6 s0 s1 s2 ks5
    generalize w5 = wz at *
    go_loopw [19] (fun i wr => ∃ a : Nat, a ≤ m ∧ i = .int .i64 a ∧ Dist l a ∧ Drawn wz wr) (fun i _ => m - (intOf i).toNat)
    case atStart => exact ⟨0, by omega, rfl, fun a b h1 h2 => by omega, Drawn.refl _⟩
    case round =>
      obtain ⟨a, ha, rfl, hDi, hdr⟩ := hrel
      by_cases hlt : a < m
      · obtain ⟨wo, rfl⟩ : ∃ wo : World, wo = wr := ⟨_, rfl⟩
        go_wp2_with fail
        go_loopw [20] (fun j wi => ∃ b : Nat, b ≤ a ∧ j = .int .i64 b ∧ (∀ x, x < b → (dt l x).2.2.1 ≠ (dt l a).2.2.1) ∧ Drawn wz wi) (fun j _ => a - (intOf j).toNat)
        case atStart => exact ⟨0, by omega, rfl, fun x h => by omega, hdr⟩
        case round =>
          obtain ⟨b, hbb, rfl, hx, hdi⟩ := hrel
          by_cases hlt2 : b < a
          · have hbi := hbz.trans (hdi.below w.heap.size)
            obtain ⟨ab, off, rfl, hab, hdots⟩ := (hr.below hbi).dots (by omega)
            obtain ⟨_, _, f2, _⟩ := hdots a (by omega)
            obtain ⟨_, _, g2, _⟩ := hdots b (by omega)
            clear hdots
            have hcmp : ((dt l a).2.2.1 == (dt l b).2.2.1) = decide ((dt l b).2.2.1 = (dt l a).2.2.1) := by
              by_cases e : (dt l b).2.2.1 = (dt l a).2.2.1
              · simp [e]
              · simp [e, Ne.symm e]
            by_cases heq : (dt l b).2.2.1 = (dt l a).2.2.1
            · rw [decide_eq_true heq] at hcmp
              clear hx heq
              generalize (dt l a).2.2.1 = da at *
              generalize (dt l b).2.2.1 = db at *
              go_wp2
              go_quiet (fail)
              go_wp2
              go_ret
              exact ⟨rfl, below_drewN hbi _⟩
            · rw [decide_eq_false heq] at hcmp
              have hx2 : ∀ x, x < b + 1 → (dt l x).2.2.1 ≠ (dt l a).2.2.1 := fun x h => by
                rcases Nat.lt_or_ge x b with h' | h'
                · exact hx x h'
                · obtain rfl : x = b := by omega
                  exact heq
              have Hx2 := Lib.hid hx2
              clear hx hx2 heq
              generalize (dt l a).2.2.1 = da at *
              generalize (dt l b).2.2.1 = db at *
              go_wp2
              go_quiet (fail)
              go_wp2
              go_roundw
              case rel => exact ⟨b + 1, by omega, by go_num, fun x h => Hx2.out x h, hdi.more _⟩
              case measure => simp [intOf]; omega
          · obtain rfl : b = a := by omega
            have hD2 : Dist l (b + 1) := fun x y h1 h2 => by
              rcases Nat.lt_or_ge y b with h' | h'
              · exact hDi x y h1 h'
              · obtain rfl : y = b := by omega
                exact hx x h1
            clear hx
            go_wp2
            go_roundw
            case rel => exact ⟨b + 1, by omega, by go_num, hD2, hdi⟩
            case measure => simp [intOf]; omega
      · obtain rfl : m = a := by omega
        have hbv := hbz.trans (hdr.below w.heap.size)
        go_wp2_with fail
        go_loopw [21] (fun i wr => ∃ a : Nat, a ≤ m ∧ i = .int .i64 a ∧ Below w.heap.size w wr) (fun i _ => m - (intOf i).toNat)
        case atStart => exact ⟨0, by omega, rfl, hbv⟩
        case round =>
          obtain ⟨a, ha, rfl, hbr⟩ := hrel
          by_cases hlt : a < m
          · obtain ⟨ab, off, rfl, hab, hdots⟩ := (hr.below hbr).dots (by omega)
            obtain ⟨f0, f1, f2, f3⟩ := hdots a (by omega)
            obtain ⟨g0, g1, g2, g3⟩ := hdots (m - 1 - a) (by omega)
            clear hdots
            have hj : ((m : Int) - 1) - (a : Int) = ((m - 1 - a : Nat) : Int) := by omega
            have hjl : m - 1 - a < m := by omega
            generalize m - 1 - a = jj at *
            generalize dt l a = qa at *
            generalize dt l jj = qb at *
            go_wp2
            refine wp_region_tail 21 (by kernel_rfl) (by kernel_rfl) ?_
            simp only [List.take_succ_cons, List.take_zero, List.drop_succ_cons, List.drop_zero]
            repeat (go_big_quiet_step (fail))
            refine wpQuiet_nil ?_
            have f0' := f0
            clear f0 f1 f2 f3
            have hbd := hbr.drew
            replace g0 : wr.drew.cell? ⟨ab, off + jj * 4, none⟩ = some (.int .i64 qb.1) := g0
            replace g1 : wr.drew.cell? ⟨ab, off + jj * 4 + 1, none⟩ = some (.int .i64 qb.2.1) := g1
            replace g2 : wr.drew.cell? ⟨ab, off + jj * 4 + 2, none⟩ = some (.int .i32 qb.2.2.1) := g2
            replace g3 : wr.drew.cell? ⟨ab, off + jj * 4 + 3, none⟩ = some (.int .u32 qb.2.2.2) := g3
            clear hbr f0'
            generalize wr.drew = wd at *
            go_wp2_with fail
            refine (plot_nil _ _ _ _ wd).mono ?_
            rintro e w8 ⟨rfl, rfl⟩
            go_wp2
            refine wp_region_tail 21 (by kernel_rfl) (by kernel_rfl) ?_
            simp only [List.take_succ_cons, List.take_zero, List.drop_succ_cons, List.drop_zero]
            repeat (go_big_quiet_step (fail))
            refine wpQuiet_nil ?_
            have hbe := hbd.drew
            clear hbd g0 g1 g2 g3
            generalize w8.drew = wf at *
            go_wp2_with fail
            refine (plot_nil _ _ _ _ wf).mono ?_
            rintro e w9 ⟨rfl, rfl⟩
            go_wp2
            go_roundw
            case rel => exact ⟨a + 1, by omega, by go_num, hbe⟩
            case measure => simp [intOf]; omega
          · go_wp2_with fail
            refine (cbytes_nil _).mono ?_
            rintro e w8 ⟨rfl, rfl⟩
            go_wp2_with fail
            refine (cbytes_nil _).mono ?_
            rintro e w8 ⟨rfl, rfl⟩
            go_wp2_with fail
            refine (bytes_same none none 0 0 0 0 [] [] _ (by omega) Reads.none_ Reads.none_).mono ?_
            rintro e w9 ⟨rfl, hd9⟩
            rw [sameB_refl]
            go_wp2
            go_ret
            exact ⟨rfl, hbr.trans (hd9.below _)⟩
end Go.Proofs.Ytfciaefjilobaaa
