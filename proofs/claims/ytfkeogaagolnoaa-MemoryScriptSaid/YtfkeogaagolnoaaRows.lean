/-
  No cell of these rows narrows 'for every input' (looked for: loops, veiled, ifaces, maps, wideKeys, modest, calm, conditions, laid).
  DERIVED. THE GIVEN ROWS OF THIS SEAT. 4 by the template 'for every input the law returns true; each argument reads behind the call as it read before'; 0 by the template 'total and deterministic' (their statements: YtfkeogaagolnoaaTotals.lean).
  GIVEN WITH THE SEED: the statements are not yours to turn. If you find one false, say at which input.
  Laid BY PROGRAM, IN A SANDBOX (cutbox-rows.mjs): the forced cells as the released guide's own fill.sh prints them over the translation 8dcd69541ede2dff… (all of the seat's roots in one cut). By AI agents, Wed Nov 11 2026. No macro, syntax, notation, axiom, sorry.
-/
import Derived.Test.YtfkeogaagolnoaaChecked
import GoSem.Claim
import GoSem.ClaimJoined
import GoSem.ClaimMapViews
import Derived.JoinedTies
import Derived.KernelRfl
namespace Go.Proofs.Ytfkeogaagolnoaa
/- THE CELL 'sum', in the pinned program and in every row, IS THE sha256 OF THE DUMP (.gsa) THAT YtfkeogaagolnoaaProg.lean LOADS. Nothing in Lean hashes anything: it is a label: what it is worth is what the hold of that sum in a sandbox is worth. -/
noncomputable def Try.pinned : Pinned := { name := "ytfkeogaagolnoaa", sum := "8dcd69541ede2dffc53ef7aba723caf5a5ac4925ba291a027ca82667a3c62cad", checked := Try.checked }
namespace Rows
def none {H : Type} : Left H := { results := [], args := [] }

/-- 'intagliolaw22.MemoryLarge': WHATEVER THE INPUT: true; the input reads as it did. -/
def memoryLargeSpec : ChangeSpec := { name := "memoryLarge", fn := fun _ => fun
  | [d1, d2] => { results := [.lit (.bool true)], args := [d1, d2] }
  | _ => none }
def memoryLargeRow : OpenClaim := { program := "ytfkeogaagolnoaa", sum := "8dcd69541ede2dffc53ef7aba723caf5a5ac4925ba291a027ca82667a3c62cad", func := "intaglio/intagliolaw22.MemoryLarge", spec := "memoryLarge", unfollowed := true, recurses := true, apart := false }
def MemoryLargeSaid : Prop := memoryLargeRow.holds Try.pinned (OpenSpec.ofChange memoryLargeSpec)

/-- ITS FALSE NEIGHBOUR: 'it returns false'. Refute it at one input. -/
def memoryLargeWrong : ChangeSpec := { name := "memoryLarge", fn := fun _ => fun
  | [d1, d2] => { results := [.lit (.bool false)], args := [d1, d2] }
  | _ => none }
def MemoryLargeWrongFalsely : Prop := memoryLargeRow.holds Try.pinned (OpenSpec.ofChange memoryLargeWrong)

/-- 'intagliolaw22.MemoryKeeps': WHATEVER THE INPUT: true; the input reads as it did. -/
def memoryKeepsSpec : ChangeSpec := { name := "memoryKeeps", fn := fun _ => fun
  | [d1, d2, d3, d4] => { results := [.lit (.bool true)], args := [d1, d2, d3, d4] }
  | _ => none }
def memoryKeepsRow : OpenClaim := { program := "ytfkeogaagolnoaa", sum := "8dcd69541ede2dffc53ef7aba723caf5a5ac4925ba291a027ca82667a3c62cad", func := "intaglio/intagliolaw22.MemoryKeeps", spec := "memoryKeeps", unfollowed := true, recurses := true, apart := false }
def MemoryKeepsSaid : Prop := memoryKeepsRow.holds Try.pinned (OpenSpec.ofChange memoryKeepsSpec)

/-- ITS FALSE NEIGHBOUR: 'it returns false'. Refute it at one input. -/
def memoryKeepsWrong : ChangeSpec := { name := "memoryKeeps", fn := fun _ => fun
  | [d1, d2, d3, d4] => { results := [.lit (.bool false)], args := [d1, d2, d3, d4] }
  | _ => none }
def MemoryKeepsWrongFalsely : Prop := memoryKeepsRow.holds Try.pinned (OpenSpec.ofChange memoryKeepsWrong)

/-- 'intagliolaw22.MemoryScript': WHATEVER THE INPUT: true; the input reads as it did. -/
def memoryScriptSpec : ChangeSpec := { name := "memoryScript", fn := fun _ => fun
  | [d] => { results := [.lit (.bool true)], args := [d] }
  | _ => none }
def memoryScriptRow : OpenClaim := { program := "ytfkeogaagolnoaa", sum := "8dcd69541ede2dffc53ef7aba723caf5a5ac4925ba291a027ca82667a3c62cad", func := "intaglio/intagliolaw22.MemoryScript", spec := "memoryScript", unfollowed := true, recurses := true, apart := false }
def MemoryScriptSaid : Prop := memoryScriptRow.holds Try.pinned (OpenSpec.ofChange memoryScriptSpec)

/-- ITS FALSE NEIGHBOUR: 'it returns false'. Refute it at one input. -/
def memoryScriptWrong : ChangeSpec := { name := "memoryScript", fn := fun _ => fun
  | [d] => { results := [.lit (.bool false)], args := [d] }
  | _ => none }
def MemoryScriptWrongFalsely : Prop := memoryScriptRow.holds Try.pinned (OpenSpec.ofChange memoryScriptWrong)

/-- 'intagliolaw22.MemoryNil': WHATEVER THE INPUT: true; the input reads as it did. -/
def memoryNilSpec : ChangeSpec := { name := "memoryNil", fn := fun _ => fun
  | [d1, d2, d3, d4] => { results := [.lit (.bool true)], args := [d1, d2, d3, d4] }
  | _ => none }
def memoryNilRow : OpenClaim := { program := "ytfkeogaagolnoaa", sum := "8dcd69541ede2dffc53ef7aba723caf5a5ac4925ba291a027ca82667a3c62cad", func := "intaglio/intagliolaw22.MemoryNil", spec := "memoryNil", unfollowed := true, recurses := true, apart := false }
def MemoryNilSaid : Prop := memoryNilRow.holds Try.pinned (OpenSpec.ofChange memoryNilSpec)

/-- ITS FALSE NEIGHBOUR: 'it returns false'. Refute it at one input. -/
def memoryNilWrong : ChangeSpec := { name := "memoryNil", fn := fun _ => fun
  | [d1, d2, d3, d4] => { results := [.lit (.bool false)], args := [d1, d2, d3, d4] }
  | _ => none }
def MemoryNilWrongFalsely : Prop := memoryNilRow.holds Try.pinned (OpenSpec.ofChange memoryNilWrong)

/- THE SECOND FORM. 'bulk': how many values and letters a reading holds, each counted each time it is reached (what is shared counts as often as it is met; a slice's spare places count too). A statement '..UptoSaid' is the law's where the arguments, and the package variables that the reading takes, are together of bulk at most 1048576: NARROWER than '..Said'. Prove '..Said' where nothing that the law and all that it calls make is longer than what came in: it says more and counts as full. Else prove '..UptoSaid'. A law counts once. -/
mutual
def uptoBulk {H : Type} : DataW H → Nat
  | .lit (.string bytes) => bytes.length + 1
  | .lit _ => 1
  | .nil => 1
  | .ptr d => uptoBulk d + 1
  | .slice elems spare => uptoBulkAll elems + uptoBulkAll spare + 1
  | .agg parts => uptoBulkAll parts + 1
  | .iface _ d => uptoBulk d + 1
  | .map entries => uptoBulkEntries entries + 1
  | .held _ => 1
def uptoBulkAll {H : Type} : List (DataW H) → Nat
  | [] => 0
  | d :: r => uptoBulk d + uptoBulkAll r
def uptoBulkEntries {H : Type} : List (Lit × DataW H) → Nat
  | [] => 0
  | x :: r => uptoBulkEntry x + uptoBulkEntries r
def uptoBulkEntry {H : Type} : Lit × DataW H → Nat
  | (.string bytes, d) => bytes.length + uptoBulk d + 1
  | (_, d) => uptoBulk d + 1
 end
def uptoSmall : (H : Type) → List (DataW H) → Bool := fun _ ds => decide (uptoBulkAll ds ≤ 1048576)
def OpenSpec.upto (s : _root_.Go.ChangeSpec) : _root_.Go.OpenSpec := { _root_.Go.OpenSpec.ofChange s with cond := some uptoSmall }

/-- 'intagliolaw22.MemoryLarge', WHERE WHAT IT READS IS OF BULK AT MOST 1048576: true; the input reads as it did. -/
def memoryLargeUptoRow : OpenClaim := { program := "ytfkeogaagolnoaa", sum := "8dcd69541ede2dffc53ef7aba723caf5a5ac4925ba291a027ca82667a3c62cad", func := "intaglio/intagliolaw22.MemoryLarge", spec := "memoryLarge", unfollowed := true, recurses := true, apart := false, narrowed := true }
def MemoryLargeUptoSaid : Prop := memoryLargeUptoRow.holds Try.pinned (OpenSpec.upto memoryLargeSpec)

/-- 'intagliolaw22.MemoryKeeps', WHERE WHAT IT READS IS OF BULK AT MOST 1048576: true; the input reads as it did. -/
def memoryKeepsUptoRow : OpenClaim := { program := "ytfkeogaagolnoaa", sum := "8dcd69541ede2dffc53ef7aba723caf5a5ac4925ba291a027ca82667a3c62cad", func := "intaglio/intagliolaw22.MemoryKeeps", spec := "memoryKeeps", unfollowed := true, recurses := true, apart := false, narrowed := true }
def MemoryKeepsUptoSaid : Prop := memoryKeepsUptoRow.holds Try.pinned (OpenSpec.upto memoryKeepsSpec)

/-- 'intagliolaw22.MemoryScript', WHERE WHAT IT READS IS OF BULK AT MOST 1048576: true; the input reads as it did. -/
def memoryScriptUptoRow : OpenClaim := { program := "ytfkeogaagolnoaa", sum := "8dcd69541ede2dffc53ef7aba723caf5a5ac4925ba291a027ca82667a3c62cad", func := "intaglio/intagliolaw22.MemoryScript", spec := "memoryScript", unfollowed := true, recurses := true, apart := false, narrowed := true }
def MemoryScriptUptoSaid : Prop := memoryScriptUptoRow.holds Try.pinned (OpenSpec.upto memoryScriptSpec)

/-- 'intagliolaw22.MemoryNil', WHERE WHAT IT READS IS OF BULK AT MOST 1048576: true; the input reads as it did. -/
def memoryNilUptoRow : OpenClaim := { program := "ytfkeogaagolnoaa", sum := "8dcd69541ede2dffc53ef7aba723caf5a5ac4925ba291a027ca82667a3c62cad", func := "intaglio/intagliolaw22.MemoryNil", spec := "memoryNil", unfollowed := true, recurses := true, apart := false, narrowed := true }
def MemoryNilUptoSaid : Prop := memoryNilUptoRow.holds Try.pinned (OpenSpec.upto memoryNilSpec)

end Rows
end Go.Proofs.Ytfkeogaagolnoaa
