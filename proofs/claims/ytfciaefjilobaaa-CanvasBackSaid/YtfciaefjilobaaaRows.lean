/-
  No cell of these rows narrows 'for every input' (looked for: loops, veiled, ifaces, maps, wideKeys, modest, calm, conditions, laid).
  DERIVED. THE GIVEN ROWS OF THIS SEAT. 8 by the template 'for every input the law returns true; each argument reads behind the call as it read before'; 0 by the template 'total and deterministic' (their statements: YtfciaefjilobaaaTotals.lean).
  GIVEN WITH THE SEED: the statements are not yours to turn. If you find one false, say at which input.
  Laid BY PROGRAM, IN A SANDBOX (cutbox-rows.mjs): the forced cells as the released guide's own fill.sh prints them over the translation 667631a4fd5317b0… (all of the seat's roots in one cut). By AI agents, Wed Nov 11 2026. No macro, syntax, notation, axiom, sorry.
-/
import Derived.Test.YtfciaefjilobaaaChecked
import GoSem.Claim
import GoSem.ClaimJoined
import GoSem.ClaimMapViews
import Derived.JoinedTies
import Derived.KernelRfl
namespace Go.Proofs.Ytfciaefjilobaaa
/- THE CELL 'sum', in the pinned program and in every row, IS THE sha256 OF THE DUMP (.gsa) THAT YtfciaefjilobaaaProg.lean LOADS. Nothing in Lean hashes anything: it is a label: what it is worth is what the hold of that sum in a sandbox is worth. -/
noncomputable def Try.pinned : Pinned := { name := "ytfciaefjilobaaa", sum := "667631a4fd5317b02cbd3192678b23eda55e243c12d302ba9b23427666bcfd7f", checked := Try.checked }
namespace Rows
def none {H : Type} : Left H := { results := [], args := [] }

/-- 'intagliolaw29.CanvasPlots': WHATEVER THE INPUT: true; the input reads as it did. -/
def canvasPlotsSpec : ChangeSpec := { name := "canvasPlots", fn := fun _ => fun
  | [d1, d2, d3] => { results := [.lit (.bool true)], args := [d1, d2, d3] }
  | _ => none }
def canvasPlotsRow : OpenClaim := { program := "ytfciaefjilobaaa", sum := "667631a4fd5317b02cbd3192678b23eda55e243c12d302ba9b23427666bcfd7f", func := "intaglio/intagliolaw29.CanvasPlots", spec := "canvasPlots", apart := false }
def CanvasPlotsSaid : Prop := canvasPlotsRow.holds Try.pinned (OpenSpec.ofChange canvasPlotsSpec)

/-- ITS FALSE NEIGHBOUR: 'it returns false'. Refute it at one input. -/
def canvasPlotsWrong : ChangeSpec := { name := "canvasPlots", fn := fun _ => fun
  | [d1, d2, d3] => { results := [.lit (.bool false)], args := [d1, d2, d3] }
  | _ => none }
def CanvasPlotsWrongFalsely : Prop := canvasPlotsRow.holds Try.pinned (OpenSpec.ofChange canvasPlotsWrong)

/-- 'intagliolaw29.CanvasDrawn': WHATEVER THE INPUT: true; the input reads as it did. -/
def canvasDrawnSpec : ChangeSpec := { name := "canvasDrawn", fn := fun _ => fun
  | [d1, d2, d3] => { results := [.lit (.bool true)], args := [d1, d2, d3] }
  | _ => none }
def canvasDrawnRow : OpenClaim := { program := "ytfciaefjilobaaa", sum := "667631a4fd5317b02cbd3192678b23eda55e243c12d302ba9b23427666bcfd7f", func := "intaglio/intagliolaw29.CanvasDrawn", spec := "canvasDrawn", unfollowed := true, recurses := true, apart := false }
def CanvasDrawnSaid : Prop := canvasDrawnRow.holds Try.pinned (OpenSpec.ofChange canvasDrawnSpec)

/-- ITS FALSE NEIGHBOUR: 'it returns false'. Refute it at one input. -/
def canvasDrawnWrong : ChangeSpec := { name := "canvasDrawn", fn := fun _ => fun
  | [d1, d2, d3] => { results := [.lit (.bool false)], args := [d1, d2, d3] }
  | _ => none }
def CanvasDrawnWrongFalsely : Prop := canvasDrawnRow.holds Try.pinned (OpenSpec.ofChange canvasDrawnWrong)

/-- 'intagliolaw29.CanvasBytes': WHATEVER THE INPUT: true; the input reads as it did. -/
def canvasBytesSpec : ChangeSpec := { name := "canvasBytes", fn := fun _ => fun
  | [d1, d2] => { results := [.lit (.bool true)], args := [d1, d2] }
  | _ => none }
def canvasBytesRow : OpenClaim := { program := "ytfciaefjilobaaa", sum := "667631a4fd5317b02cbd3192678b23eda55e243c12d302ba9b23427666bcfd7f", func := "intaglio/intagliolaw29.CanvasBytes", spec := "canvasBytes", unfollowed := true, recurses := true, apart := false }
def CanvasBytesSaid : Prop := canvasBytesRow.holds Try.pinned (OpenSpec.ofChange canvasBytesSpec)

/-- ITS FALSE NEIGHBOUR: 'it returns false'. Refute it at one input. -/
def canvasBytesWrong : ChangeSpec := { name := "canvasBytes", fn := fun _ => fun
  | [d1, d2] => { results := [.lit (.bool false)], args := [d1, d2] }
  | _ => none }
def CanvasBytesWrongFalsely : Prop := canvasBytesRow.holds Try.pinned (OpenSpec.ofChange canvasBytesWrong)

/-- 'intagliolaw29.CanvasNearest': WHATEVER THE INPUT: true; the input reads as it did. -/
def canvasNearestSpec : ChangeSpec := { name := "canvasNearest", fn := fun _ => fun
  | [d1, d2] => { results := [.lit (.bool true)], args := [d1, d2] }
  | _ => none }
def canvasNearestRow : OpenClaim := { program := "ytfciaefjilobaaa", sum := "667631a4fd5317b02cbd3192678b23eda55e243c12d302ba9b23427666bcfd7f", func := "intaglio/intagliolaw29.CanvasNearest", spec := "canvasNearest", unfollowed := true, recurses := true, apart := false }
def CanvasNearestSaid : Prop := canvasNearestRow.holds Try.pinned (OpenSpec.ofChange canvasNearestSpec)

/-- ITS FALSE NEIGHBOUR: 'it returns false'. Refute it at one input. -/
def canvasNearestWrong : ChangeSpec := { name := "canvasNearest", fn := fun _ => fun
  | [d1, d2] => { results := [.lit (.bool false)], args := [d1, d2] }
  | _ => none }
def CanvasNearestWrongFalsely : Prop := canvasNearestRow.holds Try.pinned (OpenSpec.ofChange canvasNearestWrong)

/-- 'intagliolaw29.CanvasAparts': WHATEVER THE INPUT: true; the input reads as it did. -/
def canvasApartsSpec : ChangeSpec := { name := "canvasAparts", fn := fun _ => fun
  | [d1, d2] => { results := [.lit (.bool true)], args := [d1, d2] }
  | _ => none }
def canvasApartsRow : OpenClaim := { program := "ytfciaefjilobaaa", sum := "667631a4fd5317b02cbd3192678b23eda55e243c12d302ba9b23427666bcfd7f", func := "intaglio/intagliolaw29.CanvasAparts", spec := "canvasAparts", apart := false }
def CanvasApartsSaid : Prop := canvasApartsRow.holds Try.pinned (OpenSpec.ofChange canvasApartsSpec)

/-- ITS FALSE NEIGHBOUR: 'it returns false'. Refute it at one input. -/
def canvasApartsWrong : ChangeSpec := { name := "canvasAparts", fn := fun _ => fun
  | [d1, d2] => { results := [.lit (.bool false)], args := [d1, d2] }
  | _ => none }
def CanvasApartsWrongFalsely : Prop := canvasApartsRow.holds Try.pinned (OpenSpec.ofChange canvasApartsWrong)

/-- 'intagliolaw29.CanvasNil': WHATEVER THE INPUT: true; the input reads as it did. -/
def canvasNilSpec : ChangeSpec := { name := "canvasNil", fn := fun _ => fun
  | [d1, d2, d3] => { results := [.lit (.bool true)], args := [d1, d2, d3] }
  | _ => none }
def canvasNilRow : OpenClaim := { program := "ytfciaefjilobaaa", sum := "667631a4fd5317b02cbd3192678b23eda55e243c12d302ba9b23427666bcfd7f", func := "intaglio/intagliolaw29.CanvasNil", spec := "canvasNil", unfollowed := true, recurses := true, apart := false }
def CanvasNilSaid : Prop := canvasNilRow.holds Try.pinned (OpenSpec.ofChange canvasNilSpec)

/-- ITS FALSE NEIGHBOUR: 'it returns false'. Refute it at one input. -/
def canvasNilWrong : ChangeSpec := { name := "canvasNil", fn := fun _ => fun
  | [d1, d2, d3] => { results := [.lit (.bool false)], args := [d1, d2, d3] }
  | _ => none }
def CanvasNilWrongFalsely : Prop := canvasNilRow.holds Try.pinned (OpenSpec.ofChange canvasNilWrong)

/-- 'intagliolaw29.CanvasReads': WHATEVER THE INPUT: true; the input reads as it did. -/
def canvasReadsSpec : ChangeSpec := { name := "canvasReads", fn := fun _ => fun
  | [d] => { results := [.lit (.bool true)], args := [d] }
  | _ => none }
def canvasReadsRow : OpenClaim := { program := "ytfciaefjilobaaa", sum := "667631a4fd5317b02cbd3192678b23eda55e243c12d302ba9b23427666bcfd7f", func := "intaglio/intagliolaw29.CanvasReads", spec := "canvasReads", apart := false }
def CanvasReadsSaid : Prop := canvasReadsRow.holds Try.pinned (OpenSpec.ofChange canvasReadsSpec)

/-- ITS FALSE NEIGHBOUR: 'it returns false'. Refute it at one input. -/
def canvasReadsWrong : ChangeSpec := { name := "canvasReads", fn := fun _ => fun
  | [d] => { results := [.lit (.bool false)], args := [d] }
  | _ => none }
def CanvasReadsWrongFalsely : Prop := canvasReadsRow.holds Try.pinned (OpenSpec.ofChange canvasReadsWrong)

/-- 'intagliolaw29.CanvasBack': WHATEVER THE INPUT: true; the input reads as it did. -/
def canvasBackSpec : ChangeSpec := { name := "canvasBack", fn := fun _ => fun
  | [d1, d2] => { results := [.lit (.bool true)], args := [d1, d2] }
  | _ => none }
def canvasBackRow : OpenClaim := { program := "ytfciaefjilobaaa", sum := "667631a4fd5317b02cbd3192678b23eda55e243c12d302ba9b23427666bcfd7f", func := "intaglio/intagliolaw29.CanvasBack", spec := "canvasBack", unfollowed := true, recurses := true, apart := false }
def CanvasBackSaid : Prop := canvasBackRow.holds Try.pinned (OpenSpec.ofChange canvasBackSpec)

/-- ITS FALSE NEIGHBOUR: 'it returns false'. Refute it at one input. -/
def canvasBackWrong : ChangeSpec := { name := "canvasBack", fn := fun _ => fun
  | [d1, d2] => { results := [.lit (.bool false)], args := [d1, d2] }
  | _ => none }
def CanvasBackWrongFalsely : Prop := canvasBackRow.holds Try.pinned (OpenSpec.ofChange canvasBackWrong)

/- THE SECOND FORM. 'bulk': how many values and letters a reading holds, each counted each time it is reached (what is shared counts as often as it is met; a slice's spare places count too). A statement '..UptoSaid' is the law's where the arguments, and the package variables that the reading takes, are together of bulk at most 1048576: NARROWER than '..Said'. Prove '..Said' where nothing that the law and all that it calls make is longer than what came in: it says more and counts as full. Else prove '..UptoSaid'. A law counts once. -/
mutual
def uptoBulk {H : Type} : DataW H → Nat
  | .lit (.string bytes) => bytes.length + 1
  | .lit _ => 1
  | .nil => 1
  | .ptr d => uptoBulk d + 1
  | .slice elems spare => uptoBulkAll elems + uptoBulkAll spare + 1
  | .agg parts => uptoBulkAll parts + 1
  | .iface _ d => uptoBulk d + 1
  | .map entries => uptoBulkEntries entries + 1
  | .held _ => 1
def uptoBulkAll {H : Type} : List (DataW H) → Nat
  | [] => 0
  | d :: r => uptoBulk d + uptoBulkAll r
def uptoBulkEntries {H : Type} : List (Lit × DataW H) → Nat
  | [] => 0
  | x :: r => uptoBulkEntry x + uptoBulkEntries r
def uptoBulkEntry {H : Type} : Lit × DataW H → Nat
  | (.string bytes, d) => bytes.length + uptoBulk d + 1
  | (_, d) => uptoBulk d + 1
 end
def uptoSmall : (H : Type) → List (DataW H) → Bool := fun _ ds => decide (uptoBulkAll ds ≤ 1048576)
def OpenSpec.upto (s : _root_.Go.ChangeSpec) : _root_.Go.OpenSpec := { _root_.Go.OpenSpec.ofChange s with cond := some uptoSmall }

/-- 'intagliolaw29.CanvasPlots', WHERE WHAT IT READS IS OF BULK AT MOST 1048576: true; the input reads as it did. -/
def canvasPlotsUptoRow : OpenClaim := { program := "ytfciaefjilobaaa", sum := "667631a4fd5317b02cbd3192678b23eda55e243c12d302ba9b23427666bcfd7f", func := "intaglio/intagliolaw29.CanvasPlots", spec := "canvasPlots", apart := false, narrowed := true }
def CanvasPlotsUptoSaid : Prop := canvasPlotsUptoRow.holds Try.pinned (OpenSpec.upto canvasPlotsSpec)

/-- 'intagliolaw29.CanvasDrawn', WHERE WHAT IT READS IS OF BULK AT MOST 1048576: true; the input reads as it did. -/
def canvasDrawnUptoRow : OpenClaim := { program := "ytfciaefjilobaaa", sum := "667631a4fd5317b02cbd3192678b23eda55e243c12d302ba9b23427666bcfd7f", func := "intaglio/intagliolaw29.CanvasDrawn", spec := "canvasDrawn", unfollowed := true, recurses := true, apart := false, narrowed := true }
def CanvasDrawnUptoSaid : Prop := canvasDrawnUptoRow.holds Try.pinned (OpenSpec.upto canvasDrawnSpec)

/-- 'intagliolaw29.CanvasBytes', WHERE WHAT IT READS IS OF BULK AT MOST 1048576: true; the input reads as it did. -/
def canvasBytesUptoRow : OpenClaim := { program := "ytfciaefjilobaaa", sum := "667631a4fd5317b02cbd3192678b23eda55e243c12d302ba9b23427666bcfd7f", func := "intaglio/intagliolaw29.CanvasBytes", spec := "canvasBytes", unfollowed := true, recurses := true, apart := false, narrowed := true }
def CanvasBytesUptoSaid : Prop := canvasBytesUptoRow.holds Try.pinned (OpenSpec.upto canvasBytesSpec)

/-- 'intagliolaw29.CanvasNearest', WHERE WHAT IT READS IS OF BULK AT MOST 1048576: true; the input reads as it did. -/
def canvasNearestUptoRow : OpenClaim := { program := "ytfciaefjilobaaa", sum := "667631a4fd5317b02cbd3192678b23eda55e243c12d302ba9b23427666bcfd7f", func := "intaglio/intagliolaw29.CanvasNearest", spec := "canvasNearest", unfollowed := true, recurses := true, apart := false, narrowed := true }
def CanvasNearestUptoSaid : Prop := canvasNearestUptoRow.holds Try.pinned (OpenSpec.upto canvasNearestSpec)

/-- 'intagliolaw29.CanvasAparts', WHERE WHAT IT READS IS OF BULK AT MOST 1048576: true; the input reads as it did. -/
def canvasApartsUptoRow : OpenClaim := { program := "ytfciaefjilobaaa", sum := "667631a4fd5317b02cbd3192678b23eda55e243c12d302ba9b23427666bcfd7f", func := "intaglio/intagliolaw29.CanvasAparts", spec := "canvasAparts", apart := false, narrowed := true }
def CanvasApartsUptoSaid : Prop := canvasApartsUptoRow.holds Try.pinned (OpenSpec.upto canvasApartsSpec)

/-- 'intagliolaw29.CanvasNil', WHERE WHAT IT READS IS OF BULK AT MOST 1048576: true; the input reads as it did. -/
def canvasNilUptoRow : OpenClaim := { program := "ytfciaefjilobaaa", sum := "667631a4fd5317b02cbd3192678b23eda55e243c12d302ba9b23427666bcfd7f", func := "intaglio/intagliolaw29.CanvasNil", spec := "canvasNil", unfollowed := true, recurses := true, apart := false, narrowed := true }
def CanvasNilUptoSaid : Prop := canvasNilUptoRow.holds Try.pinned (OpenSpec.upto canvasNilSpec)

/-- 'intagliolaw29.CanvasReads', WHERE WHAT IT READS IS OF BULK AT MOST 1048576: true; the input reads as it did. -/
def canvasReadsUptoRow : OpenClaim := { program := "ytfciaefjilobaaa", sum := "667631a4fd5317b02cbd3192678b23eda55e243c12d302ba9b23427666bcfd7f", func := "intaglio/intagliolaw29.CanvasReads", spec := "canvasReads", apart := false, narrowed := true }
def CanvasReadsUptoSaid : Prop := canvasReadsUptoRow.holds Try.pinned (OpenSpec.upto canvasReadsSpec)

/-- 'intagliolaw29.CanvasBack', WHERE WHAT IT READS IS OF BULK AT MOST 1048576: true; the input reads as it did. -/
def canvasBackUptoRow : OpenClaim := { program := "ytfciaefjilobaaa", sum := "667631a4fd5317b02cbd3192678b23eda55e243c12d302ba9b23427666bcfd7f", func := "intaglio/intagliolaw29.CanvasBack", spec := "canvasBack", unfollowed := true, recurses := true, apart := false, narrowed := true }
def CanvasBackUptoSaid : Prop := canvasBackUptoRow.holds Try.pinned (OpenSpec.upto canvasBackSpec)

end Rows
end Go.Proofs.Ytfciaefjilobaaa
