/- Walks: the document's answer for frames: Fault, Size. -/
import Derived.Test.YtppkjejdkogfpaaSizew
import Derived.Test.YtppkjejdkogfpaaRefat
namespace Go.Proofs.Ytppkjejdkogfpaa
open Go.RowKit

/-- what Fault answers -/
def FaultIs (l : List Ins) (w : World) (e : Ending) (w' : World) : Prop :=
  ((FaultTo l l.length ∧ e = .returned (.agg #[.int .i64 0, .int .i64 0])) ∨ ∃ (i : Nat) (er : Int), FaultAt l i er ∧ e = .returned (.agg #[.int .i64 er, .int .i64 i])) ∧ Below w.heap.size w w'

set_option maxRecDepth 100000 in
set_option maxHeartbeats 1000000 in
theorem refFault_any (A : Option Addr) (n c : Nat) (l : List RI) (w : World) (hl : l.length = n) (hn : n ≤ 35184372087808) (hR : RawR w A l) :
    Calls Try.prog 37 #[.slice A n c] w (FaultIs (insL l) w) := by
  have kb := Blk.new w 29 #[.int .i64 0, .int .i64 0]
  have hb := (Below.refl w.heap.size w).alloc (Nat.le_refl _) (.cells #[.int .i64 0, .int .i64 0] 29)
  have hR2 := hR.below hb
  go_enter Try.func37, Try.ntmps37
  go_wp2_with fail
  generalize w.alloc (.cells #[.int .i64 0, .int .i64 0] 29) = w2 at *
  obtain ⟨r0, r2, r3, r4, r5, r6⟩ := kb.store2
  go_loop [3, 4] (fun x i => ∃ k : Nat, k ≤ n ∧ i = .int .i64 k ∧ x = .int .i64 (5 + (sz ((insL l).take k) : Int)) ∧ FaultTo (insL l) k) (fun _ i => n - (intOf i).toNat)
  case atStart => exact ⟨0, by omega, rfl, rfl, FaultTo.zero _⟩
  case round =>
    obtain ⟨k, hk, rfl, rfl, hF⟩ := hrel
    have hF5 := hF.le (by rw [insL_length]; omega)
    by_cases hlt : k < n
    · obtain ⟨b, off, rfl, hb1, hc0, hc1⟩ := hR2.at2 (k := k) (by omega)
      have hsz := sz_take_ri (l := l) (k := k) (by omega)
      have hik := insK_ri (l := l) (k := k) (by omega)
      have hlen := hR.len _ (ri_mem (l := l) (k := k) (by omega))
      generalize hm : (ri l k).1.2.length = m at *
      by_cases h1 : 65535 ≤ m
      · have hd1 : decide ((65535 : Int) ≤ (m : Int)) = true := by simp; omega
        obtain ⟨hw0, hw⟩ : RowKit.wrap64 (5 + (sz ((insL l).take k) : Int) + 1) = 5 + (sz ((insL l).take k) : Int) + 1 ∧ RowKit.wrap64 (5 + (sz ((insL l).take k) : Int) + 1 + (m : Int)) = 5 + (sz ((insL l).take (k + 1)) : Int) := by constructor <;> (unfold RowKit.wrap64; omega)
        have H5 := Lib.hid hF5; have Hz := Lib.hid hsz; have H1 := Lib.hid h1; have HL := Lib.hid hlen; clear hF5 hsz h1 hlen
        go_wp2
        refine bodyPost_ret (v := .agg #[.int .i64 25, .int .i64 k]) (by rw [results_c rfl]; go_simp) rfl ?_
        exact ⟨.inr ⟨k, 25, ⟨by rw [insL_length]; omega, hF, .inl ⟨by rw [hik, hm]; exact H1.out, rfl⟩⟩, rfl⟩, below_put2 hb (Nat.le_refl _)⟩
      · by_cases h2 : 1048576 < 5 + sz ((insL l).take (k + 1))
        · have hd1 : decide ((65535 : Int) ≤ (m : Int)) = false := by simp; omega
          have hd2 : decide ((1048576 : Int) < 5 + (sz ((insL l).take (k + 1)) : Int)) = true := by simp; omega
          obtain ⟨hw0, hw⟩ : RowKit.wrap64 (5 + (sz ((insL l).take k) : Int) + 1) = 5 + (sz ((insL l).take k) : Int) + 1 ∧ RowKit.wrap64 (5 + (sz ((insL l).take k) : Int) + 1 + (m : Int)) = 5 + (sz ((insL l).take (k + 1)) : Int) := by constructor <;> (unfold RowKit.wrap64; omega)
          have H5 := Lib.hid hF5; have Hz := Lib.hid hsz; have H1 := Lib.hid h1; have H2 := Lib.hid h2; have HL := Lib.hid hlen; clear hF5 hsz h1 h2 hlen
          go_wp2
          refine bodyPost_ret (v := .agg #[.int .i64 4, .int .i64 k]) (by rw [results_c rfl]; go_simp) rfl ?_
          exact ⟨.inr ⟨k, 4, ⟨by rw [insL_length]; omega, hF, .inr ⟨by rw [hik, hm]; have := H1.out; omega, H2.out, rfl⟩⟩, rfl⟩, below_put2 hb (Nat.le_refl _)⟩
        · have hd1 : decide ((65535 : Int) ≤ (m : Int)) = false := by simp; omega
          have hd2 : decide ((1048576 : Int) < 5 + (sz ((insL l).take (k + 1)) : Int)) = false := by simp; omega
          obtain ⟨hw0, hw⟩ : RowKit.wrap64 (5 + (sz ((insL l).take k) : Int) + 1) = 5 + (sz ((insL l).take k) : Int) + 1 ∧ RowKit.wrap64 (5 + (sz ((insL l).take k) : Int) + 1 + (m : Int)) = 5 + (sz ((insL l).take (k + 1)) : Int) := by constructor <;> (unfold RowKit.wrap64; omega)
          have H5 := Lib.hid hF5; have Hz := Lib.hid hsz; have H1 := Lib.hid h1; have H2 := Lib.hid h2; have HL := Lib.hid hlen; clear hF5 hsz h1 h2 hlen
          go_wp2
          go_round
          case rel => exact ⟨k + 1, by omega, by go_num, by rw [hw], hF.succ (by rw [hik, hm]; have := H1.out; omega) (by have := H2.out; omega)⟩
          case measure => simp [intOf]; omega
    · obtain rfl : k = n := by omega
      rw [List.take_of_length_le (by rw [insL_length]; omega)] at *
      go_wp2
      refine bodyPost_ret (v := .agg #[.int .i64 0, .int .i64 0]) (by rw [results_c rfl]; go_simp) rfl ?_
      exact ⟨.inl ⟨by rw [insL_length, hl]; exact hF, rfl⟩, below_put2 hb (Nat.le_refl _)⟩

set_option maxRecDepth 100000 in
set_option maxHeartbeats 1000000 in
theorem refSize_any (A : Option Addr) (n c : Nat) (l : List RI) (w : World) (hl : l.length = n) (hn : n ≤ 35184372087808) (hR : RawR w A l) :
    Calls Try.prog 25 #[.slice A n c] w (SizeIs (insL l) w) := by
  have hc := refFault_any A n c l w hl hn hR
  go_enter Try.func25, Try.ntmps25
  go_wp2_with fail
  refine hc.mono ?_
  rintro e w' ⟨h, hb⟩
  rcases h with ⟨hF, rfl⟩ | ⟨i, er, hF, rfl⟩
  · have kb := Blk.new w' 29 #[.int .i64 0, .int .i64 0]
    obtain ⟨r0, r1⟩ := kb.read2
    have hb' := hb.alloc hb.size (.cells #[.int .i64 0, .int .i64 0] 29)
    have hR2 := hR.below hb'
    have htot := hF.all
    have Htot := Lib.hid htot
    clear htot
    go_wp2_with fail
    generalize w'.alloc (.cells #[.int .i64 0, .int .i64 0] 29) = w2 at *
    go_loop [5, 6] (fun x i => ∃ k : Nat, k ≤ n ∧ i = .int .i64 k ∧ x = .int .i64 (5 + (sz ((insL l).take k) : Int))) (fun _ i => n - (intOf i).toNat)
    case atStart => exact ⟨0, by omega, rfl, rfl⟩
    case round =>
      obtain ⟨k, hk, rfl, rfl⟩ := hrel
      by_cases hlt : k < n
      · obtain ⟨b, off, rfl, hb1, hc0, hc1⟩ := hR2.at2 (k := k) (by omega)
        have hsz := sz_take_ri (l := l) (k := k) (by omega)
        have h5 := sz_take_le (insL l) (k + 1)
        have ht := Htot.out
        generalize hm : (ri l k).1.2.length = m at *
        obtain ⟨hw0, hw⟩ : RowKit.wrap64 (5 + (sz ((insL l).take k) : Int) + 1) = 5 + (sz ((insL l).take k) : Int) + 1 ∧ RowKit.wrap64 (5 + (sz ((insL l).take k) : Int) + 1 + (m : Int)) = 5 + (sz ((insL l).take (k + 1)) : Int) := by constructor <;> (unfold RowKit.wrap64; omega)
        clear hsz h5 ht
        go_wp2
        go_round
        case rel => exact ⟨k + 1, by omega, by go_num, by rw [hw]⟩
        case measure => simp [intOf]; omega
      · obtain rfl : k = n := by omega
        rw [List.take_of_length_le (by rw [insL_length]; omega)] at *
        go_wp2
        (try simp only [Exit.inBlock, Exit.then]); refine bodyPost_ret (results_tmp2 rfl _ _ _) rfl ?_
        exact ⟨.inl ⟨hF, rfl⟩, hb'⟩
  · have kb := Blk.new w' 29 #[.int .i64 er, .int .i64 i]
    obtain ⟨r0, r1⟩ := kb.read2
    have hb' := hb.alloc hb.size (.cells #[.int .i64 er, .int .i64 i] 29)
    have he : (er != 0) = true := by
      rcases hF.2.2 with ⟨_, h⟩ | ⟨_, _, h⟩ <;> rw [h] <;> decide
    go_wp2_with fail
    go_quiet (fail)
    go_wp2
    (try simp only [Exit.inBlock, Exit.then]); refine bodyPost_ret (results_tmp2 rfl _ _ _) rfl ?_
    exact ⟨.inr ⟨i, er, hF, rfl⟩, below_drewN hb' _⟩
end Go.Proofs.Ytppkjejdkogfpaa
