/- The walk of CanvasBytes: whatever the sheet and the dots, it answers true, and nothing that was there has turned. -/
import Derived.Test.YtfciaefjilobaaaRwords
import Derived.Test.YtfciaefjilobaaaPlots
import Derived.Test.YtfciaefjilobaaaKitB
import Derived.Deep.RegionHeld3
namespace Go.Proofs.Ytfciaefjilobaaa
open Go.RowKit

section
variable {w : World} {base g n c W H : Nat} {back : Int} {ps : List Pix}
theorem rbytes_any (h : RefS w base g n c W H back ps) :
    Calls Try.prog 18 #[refV g n c W H back] w fun e w' => ∃ A' c', e = .returned (.slice A' (4 * (picWords W H back ps).length) c') ∧
      w'.ownsRow w.heap.size 5 1 (.slice A' (4 * (picWords W H back ps).length) c') (4 * (picWords W H back ps).length) (Ints .u8 (joined (picWords W H back ps))) ∧ Below w.heap.size w w' := by
  have hbx := (Below.refl w.heap.size w).alloc (Nat.le_refl _) (.cells #[.int .i64 W, .int .i64 H, .int .u32 back, .slice (some ⟨g, 0, none⟩) n c] 31)
  have hrw := rwords_any (h.below hbx)
  have hpos : 1 ≤ W * H := area_pos h.sz.w1 h.sz.h1
  have hpl := picWords_length (back := back) (ps := ps) h.sz.w2 h.sz.h2 hpos
  have hpu := picWords_under (back := back) (ps := ps) h.sz.w2 h.sz.h2 hpos ⟨h.sz.b0, h.sz.b1⟩ h.sz.ok
  generalize picWords W H back ps = pw at *
  unfold refV at *
  go_enter Try.func18, Try.ntmps18
  go_wp2_with fail
  refine hrw.mono ?_
  rintro e w1 ⟨A1, c1, rfl, ho1, hb1⟩
  have hb2 := below_cut hbx hb1 (Nat.le_refl _)
  go_wp2_with fail
  refine (refJoin_any A1 pw.length c1 pw _ (by omega) hpu (Reads.of_own ho1)).mono ?_
  rintro e w2 ⟨A2, c2, rfl, ho2, hb3⟩
  go_wp2
  go_ret
  exact ⟨A2, c2, rfl, own_base ho2 hb2.size, below_cut hb2 hb3 (Nat.le_refl _)⟩
end

theorem Drawn.b {w w' : World} (h : Drawn w w') : Below w.heap.size w w' := h.below _
set_option maxHeartbeats 4000000 in
theorem law_bytes (W H back : Int) (A : Option Addr) (m c : Nat) (l : List Dot) (w : World) (hW : -9223372036854775808 ≤ W ∧ W ≤ 9223372036854775807) (hH : -9223372036854775808 ≤ H ∧ H ≤ 9223372036854775807) (hb : 0 ≤ back ∧ back < 4294967296)
    (hm : m ≤ 9223372036854775807) (hl : okDots l) (hr : Reads w w.heap.size 4 A m (Dots l)) :
    Calls Try.prog 5 #[.agg #[.int .i64 W, .int .i64 H, .int .u32 back], .slice A m c] w fun e w' => e = .returned (.bool true) ∧ Below w.heap.size w w' := by
  have hbad := fun w' (h : newE W H ≠ 0) => drawn_bad W H back hW hH h A m c w'
  have hok := fun (W' H' : Nat) (eW : W = W') (eH : H = H') (h1 : 1 ≤ W' ∧ W' ≤ 1024) (h2 : 1 ≤ H' ∧ H' ≤ 1024) w' hr => drawn_ok W' H' back h1 h2 hb A m c l w' hm hl hr
  have hb1 := (Below.refl w.heap.size w).alloc (Nat.le_refl _) (.cells #[.int .i64 W, .int .i64 H, .int .u32 back] 24)
  go_enter Try.func5, Try.ntmps5
  go_wp2_with fail
  by_cases h0 : newE W H = 0
  · obtain ⟨a1, a2, a3, a4⟩ := newE_zero h0
    obtain ⟨W, rfl, hW1⟩ := nat_of a1 a2
    obtain ⟨H, rfl, hH1⟩ := nat_of a3 a4
    generalize w.alloc (.cells #[.int .i64 W, .int .i64 H, .int .u32 back] 24) = w1 at *
    refine (hok W H rfl rfl hW1 hH1 w1 ((hr.below hb1).more hb1.size)).mono ?_
    rintro e w4 ⟨g, gp, gq, rfl, hC, hR, hb4⟩
    have hb5 := below_cut hb1 hb4 (Nat.le_refl _)
    clear hok hbad hb4 h0 hb1
    unfold refV
    generalize W * H = N at *
    generalize runD W H (List.replicate N noPix) l = ps at *
    have hb6 := hb5.alloc hb5.size (.cells #[.int .i64 W, .int .i64 H, .int .u32 back, .slice (some ⟨gq, 0, none⟩) N N] 31)
    have hbx := (Below.refl w4.heap.size w4).alloc (Nat.le_refl _) (.cells #[.int .i64 W, .int .i64 H, .int .u32 back, .slice (some ⟨gq, 0, none⟩) N N] 31)
    have kd := Blk.new w4 31 #[.int .i64 W, .int .i64 H, .int .u32 back, .slice (some ⟨gq, 0, none⟩) N N]
    have hC2 := hC.below hbx
    have hR2 := hR.below hbx
    go_wp2_with fail
    clear hC hR hbx hb5
    generalize w4.alloc (.cells #[.int .i64 W, .int .i64 H, .int .u32 back, .slice (some ⟨gq, 0, none⟩) N N] 31) = w5 at *
    have hcb := fun w' (h : Below w5.heap.size w5 w') => cbytes_any (hC2.below h)
    have hrb := fun w' (h : Below w5.heap.size w5 w') => rbytes_any (hR2.below h)
    have hpos : 1 ≤ W * H := area_pos hW1.1 hH1.1
    have hpl := picWords_length (back := back) (ps := ps) hW1.2 hH1.2 hpos
    have hjl := joined_length (picWords W H back ps)
    have hpl1 : 1 ≤ (picWords W H back ps).length := by simp [picWords]
    generalize picWords W H back ps = pw at *
    unfold refV at hrb
    refine (hcb _ (Below.refl _ _)).mono ?_
    rintro e w6 ⟨A1, c1, rfl, ho1, hb7⟩
    have hb8 := below_cut hb6 hb7 (Nat.le_refl _)
    obtain ⟨s0, s1, s2, s3⟩ := (kd.below hb7 kd.lt).read4
    go_wp2_with fail
    refine (hrb _ hb7).mono ?_
    rintro e w7 ⟨A2, c2, rfl, ho2, hb9⟩
    have ho1' := own_below ho1 hb9
    have hb10 := below_cut hb7 hb9 (Nat.le_refl _)
    go_wp2_with fail
    refine (bytes_same A1 A2 _ _ c1 c2 _ _ _ (by omega) (Reads.of_own ho1') (Reads.of_own ho2)).mono ?_
    rintro e w8 ⟨rfl, hd⟩
    rw [sameB_refl]
    have ho1'' := own_below ho1' (hd.below _)
    have hb11 := below_cut hb10 (hd.below w7.heap.size) (Nat.le_refl _)
    have kd8 := kd.below hb11 kd.lt
    rcases Nat.eq_zero_or_pos (4 * pw.length) with hz | hz
    · omega
    · obtain ⟨gb, cb, hv, hgb⟩ := ho1''.form hz
      cases hv
      clear ho1 ho1' ho2 hb7 hb8 hb9 hb10 hd s0 s1 s2 s3
      go_wp2_with fail
      go_loopw [9] (fun i wr => ∃ (k : Nat) (l' : List Int), k ≤ 4 * pw.length ∧ i = .int .i64 k ∧ wr.ownsRow w5.heap.size 5 1 (.slice (some ⟨gb, 0, none⟩) (4 * pw.length) c1) (4 * pw.length) (Ints .u8 l') ∧ Below w5.heap.size w5 wr) (fun i _ => 4 * pw.length - (intOf i).toNat)
      case atStart => exact ⟨0, _, by omega, rfl, ho1'', hb11⟩
      case round =>
        obtain ⟨k, l', hk, rfl, hor, hbr⟩ := hrel
        by_cases hlt : k < 4 * pw.length
        · have hc := own_int_at hor hlt
          have hf := hor.frozenAt k
          go_wp2
          go_roundw
          case rel => exact ⟨k + 1, _, by omega, by go_num, own_int_set hor k _, hbr.setCell (show w5.heap.size ≤ gb from hgb.1) _⟩
          case measure => simp [intOf]; omega
        · have kdr := kd.below hbr kd.lt
          have hbd := hbr.drew
          obtain ⟨s0, s1, s2, s3⟩ := kdr.read4
          go_wp2_with fail
          have hdr0 := (Below.refl wr.heap.size wr).drew
          have l0 := kdr.lt
          go_region_held3 (fun w' => w'.cell? ⟨w4.heap.size, 0, none⟩ = some (.int .i64 W) ∧ w'.cell? ⟨w4.heap.size, 1, none⟩ = some (.int .i64 H) ∧ w'.cell? ⟨w4.heap.size, 2, none⟩ = some (.int .u32 back) ∧ w'.cell? ⟨w4.heap.size, 3, none⟩ = some (.slice (some ⟨gq, 0, none⟩) N N) ∧ Below wr.heap.size wr w') (first | exact ⟨s0, s1, s2, s3, hdr0⟩ | (go_split_ands; exact ⟨by assumption, by assumption, by assumption, by assumption, by assumption⟩) | (go_split_ands; exact ⟨cell_cut (by assumption) (by assumption) hbq (Nat.le_refl _) l0, cell_cut (by assumption) (by assumption) hbq (Nat.le_refl _) l0, cell_cut (by assumption) (by assumption) hbq (Nat.le_refl _) l0, cell_cut (by assumption) (by assumption) hbq (Nat.le_refl _) l0, below_cut (by assumption) hbq (Nat.le_refl _)⟩)) ((first | (go_at_call 16; refine (hcb _ (by first | exact below_cut hbr hdr0 (Nat.le_refl _) | (go_split_ands; exact below_cut hbr (by assumption) (Nat.le_refl _)))).mono ?_; rintro e w' ⟨B1, d1, rfl, hx1, hbq⟩) | (go_at_call 18; refine (hrb _ (by first | exact below_cut hbr hdr0 (Nat.le_refl _) | (go_split_ands; exact below_cut hbr (by assumption) (Nat.le_refl _)))).mono ?_; rintro e w' ⟨B2, d2, rfl, hx2, hbq⟩) | (go_at_call 17; refine (bytes_same B1 B2 _ _ d1 d2 _ _ _ (by omega) (by first | exact Reads.of_own hx1 | exact Reads.of_own (own_below hx1 hbq)) (by first | exact Reads.of_own hx2 | exact Reads.of_own (own_below hx2 hbq))).mono ?_; rintro e w' ⟨rfl, hdq⟩; rw [sameB_refl]; have hbq := hdq.b)))
          all_goals
            have hzz : Below wr.heap.size wr w' := by go_split_ands; assumption
            go_wp2
            go_ret
            exact ⟨rfl, below_cut (below_cut hb6 hbr (Nat.le_refl _)) hzz (Nat.le_refl _)⟩
  · refine (hbad _ h0).mono ?_
    rintro e w4 ⟨rfl, hb4⟩
    unfold noRef
    go_wp2
    go_ret
    exact ⟨rfl, (below_cut hb1 hb4 (Nat.le_refl _)).alloc (by have := (below_cut hb1 hb4 (Nat.le_refl _)).size; omega) _⟩
end Go.Proofs.Ytfciaefjilobaaa
