/- Walks: frame.Size. -/
import Derived.Test.YtppkjejdkogfpaaCount
namespace Go.Proofs.Ytppkjejdkogfpaa
open Go.RowKit

/-- what Size answers -/
def SizeIs (l : List Ins) (w : World) (e : Ending) (w' : World) : Prop :=
  ((FaultTo l l.length ∧ e = .returned (.tuple #[.int .i64 (5 + sz l), .int .i64 0])) ∨ ∃ (i : Nat) (er : Int), FaultAt l i er ∧ e = .returned (.tuple #[.int .i64 0, .int .i64 er])) ∧ Below w.heap.size w w'

set_option maxRecDepth 100000 in
set_option maxHeartbeats 1000000 in
theorem size_any (A : Option Addr) (n c : Nat) (l : List RI) (w : World) (hl : l.length = n) (hn : n ≤ 35184372087808) (hR : RawR w A l) :
    Calls Try.prog 26 #[.slice A n c] w (SizeIs (insL l) w) := by
  have hc := counted_any A n c l w hl hn hR
  go_enter Try.func26, Try.ntmps26
  go_wp2_with fail
  refine hc.mono ?_
  rintro e w' ⟨h, hb⟩
  rcases h with ⟨hF, rfl⟩ | ⟨i, er, hF, rfl⟩
  · have kb := Blk.new w' 29 #[.int .i64 0, .int .i64 0]
    obtain ⟨r0, r1⟩ := kb.read2
    have hb' := hb.alloc hb.size (.cells #[.int .i64 0, .int .i64 0] 29)
    go_wp2
    go_quiet (fail)
    go_wp2
    (try simp only [Exit.inBlock, Exit.then]); refine bodyPost_ret (results_tmp2 rfl _ _ _) rfl ?_
    exact ⟨.inl ⟨hF, rfl⟩, below_drewN hb' _⟩
  · have kb := Blk.new w' 29 #[.int .i64 er, .int .i64 i]
    obtain ⟨r0, r1⟩ := kb.read2
    have hb' := hb.alloc hb.size (.cells #[.int .i64 er, .int .i64 i] 29)
    go_wp2
    go_quiet (fail)
    go_wp2
    (try simp only [Exit.inBlock, Exit.then]); refine bodyPost_ret (results_tmp2 rfl _ _ _) rfl ?_
    exact ⟨.inr ⟨i, er, hF, rfl⟩, below_drewN hb' _⟩
end Go.Proofs.Ytppkjejdkogfpaa
