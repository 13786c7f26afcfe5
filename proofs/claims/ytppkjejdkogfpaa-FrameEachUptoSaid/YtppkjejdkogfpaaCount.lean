/- Walks: frame.counted: how many words instructions take, or which one is too much. -/
import Derived.Test.YtppkjejdkogfpaaReadf
import Derived.Test.YtppkjejdkogfpaaWriteLaw
namespace Go.Proofs.Ytppkjejdkogfpaa
open Go.RowKit

/-- the instructions themselves -/
def insL (l : List RI) : List Ins := l.map (·.1)
theorem insL_length (l : List RI) : (insL l).length = l.length := by simp [insL]
theorem insK_ri {l : List RI} {k : Nat} (h : k < l.length) : insK (insL l) k = (ri l k).1 := by
  rw [insK_of (by rw [insL_length]; exact h), ri_of h]
  simp [insL]
theorem sz_take_ri {l : List RI} {k : Nat} (h : k < l.length) : sz ((insL l).take (k + 1)) = sz ((insL l).take k) + (1 + (ri l k).1.2.length) := by
  rw [sz_take (by rw [insL_length]; exact h), insK_ri h]
theorem RawR.at2 {w : World} {A : Option Addr} {l : List RI} (h : RawR w A l) {k : Nat} (hk : k < l.length) :
    ∃ b off, A = some ⟨b, off, none⟩ ∧ b < w.heap.size ∧ w.cell? ⟨b, off + k * 2, none⟩ = some (.int .u16 (ri l k).1.1) ∧ w.cell? ⟨b, off + k * 2 + 1, none⟩ = some (.slice (ri l k).2.1 (ri l k).1.2.length (ri l k).2.2) := by
  obtain ⟨b, off, h1, h2, h3, h4⟩ := h.at_ hk
  exact ⟨b, off, h1, h2, h3, by rw [Nat.add_assoc]; exact h4⟩
theorem results_tc {fn : Func} {p u : Tmp} {ty : TypeId} (h : fn.results = #[.tmp u, .cell p ty]) (tmps : Array Value) (P : Program) (w : World) :
    (results fn tmps).run P w = ((asAddr (tmps.getD p undef)).run P w).andThen fun ad w₁ => ((loadVar ty ad).run P w₁).andThen fun v w₂ => .ok (.tuple #[tmps.getD u undef, v]) w₂ := by
  simp only [results, h]
  simp [Sem.run_bind, Result.andThen]
/-- what counted answers -/
def CountIs (l : List Ins) (w : World) (e : Ending) (w' : World) : Prop :=
  ((FaultTo l l.length ∧ e = .returned (.tuple #[.int .i64 (5 + sz l), .agg #[.int .i64 0, .int .i64 0]])) ∨ ∃ (i : Nat) (er : Int), FaultAt l i er ∧ e = .returned (.tuple #[.int .i64 0, .agg #[.int .i64 er, .int .i64 i]])) ∧ Below w.heap.size w w'

set_option maxRecDepth 100000 in
set_option maxHeartbeats 1000000 in
theorem counted_any (A : Option Addr) (n c : Nat) (l : List RI) (w : World) (hl : l.length = n) (hn : n ≤ 35184372087808) (hR : RawR w A l) :
    Calls Try.prog 36 #[.slice A n c] w (CountIs (insL l) w) := by
  go_enter Try.func36, Try.ntmps36
  go_wp2
  go_loopw [4, 9] (fun x i wr => ∃ k : Nat, k ≤ n ∧ i = .int .i64 k ∧ x = .int .i64 (5 + (sz ((insL l).take k) : Int)) ∧ FaultTo (insL l) k ∧ Blk wr w.heap.size 29 #[.int .i64 0, .int .i64 0] ∧ Below w.heap.size w wr) (fun _ i _ => n - (intOf i).toNat)
  case atStart => exact ⟨0, by omega, rfl, rfl, FaultTo.zero _, Blk.new _ _ _, (Below.refl _ _).alloc (Nat.le_refl _) _⟩
  case round =>
    obtain ⟨k, hk, rfl, rfl, hF, kb, hb⟩ := hrel
    have hF5 := hF.le (by rw [insL_length]; omega)
    obtain ⟨r0, r2, r3, r4, r5, r6⟩ := kb.store2
    by_cases hlt : k < n
    · have hR1 := hR.below hb
      obtain ⟨b, off, rfl, hb1, hc0, hc1⟩ := hR1.at2 (k := k) (by omega)
      have hsz := sz_take_ri (l := l) (k := k) (by omega)
      have hik := insK_ri (l := l) (k := k) (by omega)
      have hlen := hR.len _ (ri_mem (l := l) (k := k) (by omega))
      generalize hm : (ri l k).1.2.length = m at *
      have hb' := hb.alloc hb.size (.cells #[.int .u16 (ri l k).1.1, .slice (ri l k).2.1 m (ri l k).2.2] 45)
      by_cases h1 : 65535 ≤ m
      · obtain ⟨s0, s1, s2, s3, s4, s5⟩ := (kb.alloc (.cells #[.int .u16 (ri l k).1.1, .slice (ri l k).2.1 m (ri l k).2.2] 45)).store2
        have hd1 : decide ((65535 : Int) ≤ (m : Int)) = true := by simp; omega
        have hw0 : RowKit.wrap64 (1 + (m : Int)) = 1 + (m : Int) := by unfold RowKit.wrap64; omega
        have hw : RowKit.wrap64 (5 + (sz ((insL l).take k) : Int) + (1 + (m : Int))) = 5 + (sz ((insL l).take (k + 1)) : Int) := by unfold RowKit.wrap64; omega
        have H5 := Lib.hid hF5; have Hz := Lib.hid hsz; have H1 := Lib.hid h1; have HL := Lib.hid hlen; clear hF5 hsz h1 hlen
        go_wp2
        refine bodyPost_ret (v := .tuple #[.int .i64 0, .agg #[.int .i64 25, .int .i64 k]]) (by rw [results_tc rfl]; go_simp) rfl ?_
        exact ⟨.inr ⟨k, 25, ⟨by rw [insL_length]; omega, hF, .inl ⟨by rw [hik, hm]; exact H1.out, rfl⟩⟩, rfl⟩, below_put2 hb' (Nat.le_refl _)⟩
      · by_cases h2 : 1048576 < 5 + sz ((insL l).take (k + 1))
        · obtain ⟨s0, s1, s2, s3, s4, s5⟩ := (kb.alloc (.cells #[.int .u16 (ri l k).1.1, .slice (ri l k).2.1 m (ri l k).2.2] 45)).store2
          have hd1 : decide ((65535 : Int) ≤ (m : Int)) = false := by simp; omega
          have hd2 : decide ((1048576 : Int) < 5 + (sz ((insL l).take (k + 1)) : Int)) = true := by simp; omega
          have hw0 : RowKit.wrap64 (1 + (m : Int)) = 1 + (m : Int) := by unfold RowKit.wrap64; omega
          have hw : RowKit.wrap64 (5 + (sz ((insL l).take k) : Int) + (1 + (m : Int))) = 5 + (sz ((insL l).take (k + 1)) : Int) := by unfold RowKit.wrap64; omega
          have H5 := Lib.hid hF5; have Hz := Lib.hid hsz; have H1 := Lib.hid h1; have H2 := Lib.hid h2; have HL := Lib.hid hlen; clear hF5 hsz h1 h2 hlen
          go_wp2
          refine bodyPost_ret (v := .tuple #[.int .i64 0, .agg #[.int .i64 4, .int .i64 k]]) (by rw [results_tc rfl]; go_simp) rfl ?_
          exact ⟨.inr ⟨k, 4, ⟨by rw [insL_length]; omega, hF, .inr ⟨by rw [hik, hm]; have := H1.out; omega, H2.out, rfl⟩⟩, rfl⟩, below_put2 hb' (Nat.le_refl _)⟩
        · have hd1 : decide ((65535 : Int) ≤ (m : Int)) = false := by simp; omega
          have hd2 : decide ((1048576 : Int) < 5 + (sz ((insL l).take (k + 1)) : Int)) = false := by simp; omega
          have hw0 : RowKit.wrap64 (1 + (m : Int)) = 1 + (m : Int) := by unfold RowKit.wrap64; omega
          have hw : RowKit.wrap64 (5 + (sz ((insL l).take k) : Int) + (1 + (m : Int))) = 5 + (sz ((insL l).take (k + 1)) : Int) := by unfold RowKit.wrap64; omega
          have H5 := Lib.hid hF5; have Hz := Lib.hid hsz; have H1 := Lib.hid h1; have H2 := Lib.hid h2; have HL := Lib.hid hlen; clear hF5 hsz h1 h2 hlen
          go_wp2
          go_roundw
          case rel => exact ⟨k + 1, by omega, by go_num, by rw [hw], hF.succ (by rw [hik, hm]; have := H1.out; omega) (by have := H2.out; omega), kb.alloc _, hb'⟩
          case measure => simp [intOf]; omega
    · obtain rfl : k = n := by omega
      rw [List.take_of_length_le (by rw [insL_length]; omega)] at *
      go_wp2
      refine bodyPost_ret (v := .tuple #[.int .i64 (5 + sz (insL l)), .agg #[.int .i64 0, .int .i64 0]]) (by rw [results_tc rfl]; go_simp) rfl ?_
      exact ⟨.inl ⟨by rw [insL_length, hl]; exact hF, rfl⟩, below_put2 hb (Nat.le_refl _)⟩
end Go.Proofs.Ytppkjejdkogfpaa
