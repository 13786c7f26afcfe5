/- The first instruction of an operation from a place on. No program is named. -/
import Derived.Test.YtppkjejdkogfpaaFrameOne
namespace Go.Proofs.Ytppkjejdkogfpaa
open Go.RowKit

def fitsB (op fr : Int) (q : Nat × Ins) : Bool := decide (fr ≤ (q.1 : Int)) && decide (q.2.1 = op)
def findR (op fr : Int) (L : List (Nat × Ins)) : Nat × Bool := match L.find? (fitsB op fr) with
  | none => (0, false)
  | some q => (q.1, true)
theorem findR_none {op fr : Int} {L : List (Nat × Ins)} (h : ∀ q ∈ L, fitsB op fr q = false) : findR op fr L = (0, false) := by
  have e : L.find? (fitsB op fr) = none := List.find?_eq_none.2 (fun q hq => by simp [h q hq])
  simp [findR, e]
theorem findR_some {op fr : Int} {pre rest : List (Nat × Ins)} {q : Nat × Ins} (h : ∀ y ∈ pre, fitsB op fr y = false) (hq : fitsB op fr q = true) : findR op fr (pre ++ q :: rest) = (q.1, true) := by
  have e1 : pre.find? (fitsB op fr) = none := List.find?_eq_none.2 (fun y hy => by simp [h y hy])
  have e : (pre ++ q :: rest).find? (fitsB op fr) = some q := by rw [List.find?_append, e1]; simp [hq]
  simp [findR, e]
end Go.Proofs.Ytppkjejdkogfpaa
