/-
  No cell of these rows narrows 'for every input' (looked for: loops, veiled, ifaces, maps, wideKeys, modest, calm, conditions, laid).
  DERIVED. THE GIVEN ROWS OF THIS SEAT. 9 by the template 'for every input the law returns true; each argument reads behind the call as it read before'; 0 by the template 'total and deterministic' (their statements: YtmcilcgpaokifaaTotals.lean).
  GIVEN WITH THE SEED: the statements are not yours to turn. If you find one false, say at which input.
  Laid BY PROGRAM, IN A SANDBOX (cutbox-rows.mjs): the forced cells as the released guide's own fill.sh prints them over the translation e48af97e2cebd41c… (all of the seat's roots in one cut). By AI agents, Wed Nov 11 2026. No macro, syntax, notation, axiom, sorry.
-/
import Derived.Test.YtmcilcgpaokifaaChecked
import GoSem.Claim
import GoSem.ClaimJoined
import GoSem.ClaimMapViews
import Derived.JoinedTies
import Derived.KernelRfl
namespace Go.Proofs.Ytmcilcgpaokifaa
/- THE CELL 'sum', in the pinned program and in every row, IS THE sha256 OF THE DUMP (.gsa) THAT YtmcilcgpaokifaaProg.lean LOADS. Nothing in Lean hashes anything: it is a label: what it is worth is what the hold of that sum in a sandbox is worth. -/
noncomputable def Try.pinned : Pinned := { name := "ytmcilcgpaokifaa", sum := "e48af97e2cebd41cedc1fae32f7aaffd5dcd6bb318a4f8d667eb904c05d3e235", checked := Try.checked }
namespace Rows
def none {H : Type} : Left H := { results := [], args := [] }

/-- 'intagliolaw01.WordsJoins': WHATEVER THE INPUT: true; the input reads as it did. -/
def wordsJoinsSpec : ChangeSpec := { name := "wordsJoins", fn := fun _ => fun
  | [d] => { results := [.lit (.bool true)], args := [d] }
  | _ => none }
def wordsJoinsRow : OpenClaim := { program := "ytmcilcgpaokifaa", sum := "e48af97e2cebd41cedc1fae32f7aaffd5dcd6bb318a4f8d667eb904c05d3e235", func := "intaglio/intagliolaw01.WordsJoins", spec := "wordsJoins", apart := false }
def WordsJoinsSaid : Prop := wordsJoinsRow.holds Try.pinned (OpenSpec.ofChange wordsJoinsSpec)

/-- ITS FALSE NEIGHBOUR: 'it returns false'. Refute it at one input. -/
def wordsJoinsWrong : ChangeSpec := { name := "wordsJoins", fn := fun _ => fun
  | [d] => { results := [.lit (.bool false)], args := [d] }
  | _ => none }
def WordsJoinsWrongFalsely : Prop := wordsJoinsRow.holds Try.pinned (OpenSpec.ofChange wordsJoinsWrong)

/-- 'intagliolaw01.WordsTwice': WHATEVER THE INPUT: true; the input reads as it did. -/
def wordsTwiceSpec : ChangeSpec := { name := "wordsTwice", fn := fun _ => fun
  | [d] => { results := [.lit (.bool true)], args := [d] }
  | _ => none }
def wordsTwiceRow : OpenClaim := { program := "ytmcilcgpaokifaa", sum := "e48af97e2cebd41cedc1fae32f7aaffd5dcd6bb318a4f8d667eb904c05d3e235", func := "intaglio/intagliolaw01.WordsTwice", spec := "wordsTwice", apart := false }
def WordsTwiceSaid : Prop := wordsTwiceRow.holds Try.pinned (OpenSpec.ofChange wordsTwiceSpec)

/-- ITS FALSE NEIGHBOUR: 'it returns false'. Refute it at one input. -/
def wordsTwiceWrong : ChangeSpec := { name := "wordsTwice", fn := fun _ => fun
  | [d] => { results := [.lit (.bool false)], args := [d] }
  | _ => none }
def WordsTwiceWrongFalsely : Prop := wordsTwiceRow.holds Try.pinned (OpenSpec.ofChange wordsTwiceWrong)

/-- 'intagliolaw01.WordsWrites': WHATEVER THE INPUT: true; the input reads as it did. -/
def wordsWritesSpec : ChangeSpec := { name := "wordsWrites", fn := fun _ => fun
  | [d] => { results := [.lit (.bool true)], args := [d] }
  | _ => none }
def wordsWritesRow : OpenClaim := { program := "ytmcilcgpaokifaa", sum := "e48af97e2cebd41cedc1fae32f7aaffd5dcd6bb318a4f8d667eb904c05d3e235", func := "intaglio/intagliolaw01.WordsWrites", spec := "wordsWrites", apart := false }
def WordsWritesSaid : Prop := wordsWritesRow.holds Try.pinned (OpenSpec.ofChange wordsWritesSpec)

/-- ITS FALSE NEIGHBOUR: 'it returns false'. Refute it at one input. -/
def wordsWritesWrong : ChangeSpec := { name := "wordsWrites", fn := fun _ => fun
  | [d] => { results := [.lit (.bool false)], args := [d] }
  | _ => none }
def WordsWritesWrongFalsely : Prop := wordsWritesRow.holds Try.pinned (OpenSpec.ofChange wordsWritesWrong)

/-- 'intagliolaw01.WordsSplits': WHATEVER THE INPUT: true; the input reads as it did. -/
def wordsSplitsSpec : ChangeSpec := { name := "wordsSplits", fn := fun _ => fun
  | [d] => { results := [.lit (.bool true)], args := [d] }
  | _ => none }
def wordsSplitsRow : OpenClaim := { program := "ytmcilcgpaokifaa", sum := "e48af97e2cebd41cedc1fae32f7aaffd5dcd6bb318a4f8d667eb904c05d3e235", func := "intaglio/intagliolaw01.WordsSplits", spec := "wordsSplits", apart := false }
def WordsSplitsSaid : Prop := wordsSplitsRow.holds Try.pinned (OpenSpec.ofChange wordsSplitsSpec)

/-- ITS FALSE NEIGHBOUR: 'it returns false'. Refute it at one input. -/
def wordsSplitsWrong : ChangeSpec := { name := "wordsSplits", fn := fun _ => fun
  | [d] => { results := [.lit (.bool false)], args := [d] }
  | _ => none }
def WordsSplitsWrongFalsely : Prop := wordsSplitsRow.holds Try.pinned (OpenSpec.ofChange wordsSplitsWrong)

/-- 'intagliolaw01.WordsTexts': WHATEVER THE INPUT: true; the input reads as it did. -/
def wordsTextsSpec : ChangeSpec := { name := "wordsTexts", fn := fun _ => fun
  | [d] => { results := [.lit (.bool true)], args := [d] }
  | _ => none }
def wordsTextsRow : OpenClaim := { program := "ytmcilcgpaokifaa", sum := "e48af97e2cebd41cedc1fae32f7aaffd5dcd6bb318a4f8d667eb904c05d3e235", func := "intaglio/intagliolaw01.WordsTexts", spec := "wordsTexts", apart := false }
def WordsTextsSaid : Prop := wordsTextsRow.holds Try.pinned (OpenSpec.ofChange wordsTextsSpec)

/-- ITS FALSE NEIGHBOUR: 'it returns false'. Refute it at one input. -/
def wordsTextsWrong : ChangeSpec := { name := "wordsTexts", fn := fun _ => fun
  | [d] => { results := [.lit (.bool false)], args := [d] }
  | _ => none }
def WordsTextsWrongFalsely : Prop := wordsTextsRow.holds Try.pinned (OpenSpec.ofChange wordsTextsWrong)

/-- 'intagliolaw01.WordsBack': WHATEVER THE INPUT: true; the input reads as it did. -/
def wordsBackSpec : ChangeSpec := { name := "wordsBack", fn := fun _ => fun
  | [d1, d2] => { results := [.lit (.bool true)], args := [d1, d2] }
  | _ => none }
def wordsBackRow : OpenClaim := { program := "ytmcilcgpaokifaa", sum := "e48af97e2cebd41cedc1fae32f7aaffd5dcd6bb318a4f8d667eb904c05d3e235", func := "intaglio/intagliolaw01.WordsBack", spec := "wordsBack", apart := false }
def WordsBackSaid : Prop := wordsBackRow.holds Try.pinned (OpenSpec.ofChange wordsBackSpec)

/-- ITS FALSE NEIGHBOUR: 'it returns false'. Refute it at one input. -/
def wordsBackWrong : ChangeSpec := { name := "wordsBack", fn := fun _ => fun
  | [d1, d2] => { results := [.lit (.bool false)], args := [d1, d2] }
  | _ => none }
def WordsBackWrongFalsely : Prop := wordsBackRow.holds Try.pinned (OpenSpec.ofChange wordsBackWrong)

/-- 'intagliolaw01.WordsRead': WHATEVER THE INPUT: true; the input reads as it did. -/
def wordsReadSpec : ChangeSpec := { name := "wordsRead", fn := fun _ => fun
  | [d1, d2] => { results := [.lit (.bool true)], args := [d1, d2] }
  | _ => none }
def wordsReadRow : OpenClaim := { program := "ytmcilcgpaokifaa", sum := "e48af97e2cebd41cedc1fae32f7aaffd5dcd6bb318a4f8d667eb904c05d3e235", func := "intaglio/intagliolaw01.WordsRead", spec := "wordsRead", apart := false }
def WordsReadSaid : Prop := wordsReadRow.holds Try.pinned (OpenSpec.ofChange wordsReadSpec)

/-- ITS FALSE NEIGHBOUR: 'it returns false'. Refute it at one input. -/
def wordsReadWrong : ChangeSpec := { name := "wordsRead", fn := fun _ => fun
  | [d1, d2] => { results := [.lit (.bool false)], args := [d1, d2] }
  | _ => none }
def WordsReadWrongFalsely : Prop := wordsReadRow.holds Try.pinned (OpenSpec.ofChange wordsReadWrong)

/-- 'intagliolaw01.WordsNil': WHATEVER THE INPUT: true; the input reads as it did. -/
def wordsNilSpec : ChangeSpec := { name := "wordsNil", fn := fun _ => fun
  | [d] => { results := [.lit (.bool true)], args := [d] }
  | _ => none }
def wordsNilRow : OpenClaim := { program := "ytmcilcgpaokifaa", sum := "e48af97e2cebd41cedc1fae32f7aaffd5dcd6bb318a4f8d667eb904c05d3e235", func := "intaglio/intagliolaw01.WordsNil", spec := "wordsNil", apart := false }
def WordsNilSaid : Prop := wordsNilRow.holds Try.pinned (OpenSpec.ofChange wordsNilSpec)

/-- ITS FALSE NEIGHBOUR: 'it returns false'. Refute it at one input. -/
def wordsNilWrong : ChangeSpec := { name := "wordsNil", fn := fun _ => fun
  | [d] => { results := [.lit (.bool false)], args := [d] }
  | _ => none }
def WordsNilWrongFalsely : Prop := wordsNilRow.holds Try.pinned (OpenSpec.ofChange wordsNilWrong)

/-- 'intagliolaw01.WordsReader': WHATEVER THE INPUT: true; the input reads as it did. -/
def wordsReaderSpec : ChangeSpec := { name := "wordsReader", fn := fun _ => fun
  | [d1, d2] => { results := [.lit (.bool true)], args := [d1, d2] }
  | _ => none }
def wordsReaderRow : OpenClaim := { program := "ytmcilcgpaokifaa", sum := "e48af97e2cebd41cedc1fae32f7aaffd5dcd6bb318a4f8d667eb904c05d3e235", func := "intaglio/intagliolaw01.WordsReader", spec := "wordsReader", apart := false }
def WordsReaderSaid : Prop := wordsReaderRow.holds Try.pinned (OpenSpec.ofChange wordsReaderSpec)

/-- ITS FALSE NEIGHBOUR: 'it returns false'. Refute it at one input. -/
def wordsReaderWrong : ChangeSpec := { name := "wordsReader", fn := fun _ => fun
  | [d1, d2] => { results := [.lit (.bool false)], args := [d1, d2] }
  | _ => none }
def WordsReaderWrongFalsely : Prop := wordsReaderRow.holds Try.pinned (OpenSpec.ofChange wordsReaderWrong)

/- THE SECOND FORM. 'bulk': how many values and letters a reading holds, each counted each time it is reached (what is shared counts as often as it is met; a slice's spare places count too). A statement '..UptoSaid' is the law's where the arguments, and the package variables that the reading takes, are together of bulk at most 1048576: NARROWER than '..Said'. Prove '..Said' where nothing that the law and all that it calls make is longer than what came in: it says more and counts as full. Else prove '..UptoSaid'. A law counts once. -/
mutual
def uptoBulk {H : Type} : DataW H → Nat
  | .lit (.string bytes) => bytes.length + 1
  | .lit _ => 1
  | .nil => 1
  | .ptr d => uptoBulk d + 1
  | .slice elems spare => uptoBulkAll elems + uptoBulkAll spare + 1
  | .agg parts => uptoBulkAll parts + 1
  | .iface _ d => uptoBulk d + 1
  | .map entries => uptoBulkEntries entries + 1
  | .held _ => 1
def uptoBulkAll {H : Type} : List (DataW H) → Nat
  | [] => 0
  | d :: r => uptoBulk d + uptoBulkAll r
def uptoBulkEntries {H : Type} : List (Lit × DataW H) → Nat
  | [] => 0
  | x :: r => uptoBulkEntry x + uptoBulkEntries r
def uptoBulkEntry {H : Type} : Lit × DataW H → Nat
  | (.string bytes, d) => bytes.length + uptoBulk d + 1
  | (_, d) => uptoBulk d + 1
 end
def uptoSmall : (H : Type) → List (DataW H) → Bool := fun _ ds => decide (uptoBulkAll ds ≤ 1048576)
def OpenSpec.upto (s : _root_.Go.ChangeSpec) : _root_.Go.OpenSpec := { _root_.Go.OpenSpec.ofChange s with cond := some uptoSmall }

/-- 'intagliolaw01.WordsJoins', WHERE WHAT IT READS IS OF BULK AT MOST 1048576: true; the input reads as it did. -/
def wordsJoinsUptoRow : OpenClaim := { program := "ytmcilcgpaokifaa", sum := "e48af97e2cebd41cedc1fae32f7aaffd5dcd6bb318a4f8d667eb904c05d3e235", func := "intaglio/intagliolaw01.WordsJoins", spec := "wordsJoins", apart := false, narrowed := true }
def WordsJoinsUptoSaid : Prop := wordsJoinsUptoRow.holds Try.pinned (OpenSpec.upto wordsJoinsSpec)

/-- 'intagliolaw01.WordsTwice', WHERE WHAT IT READS IS OF BULK AT MOST 1048576: true; the input reads as it did. -/
def wordsTwiceUptoRow : OpenClaim := { program := "ytmcilcgpaokifaa", sum := "e48af97e2cebd41cedc1fae32f7aaffd5dcd6bb318a4f8d667eb904c05d3e235", func := "intaglio/intagliolaw01.WordsTwice", spec := "wordsTwice", apart := false, narrowed := true }
def WordsTwiceUptoSaid : Prop := wordsTwiceUptoRow.holds Try.pinned (OpenSpec.upto wordsTwiceSpec)

/-- 'intagliolaw01.WordsWrites', WHERE WHAT IT READS IS OF BULK AT MOST 1048576: true; the input reads as it did. -/
def wordsWritesUptoRow : OpenClaim := { program := "ytmcilcgpaokifaa", sum := "e48af97e2cebd41cedc1fae32f7aaffd5dcd6bb318a4f8d667eb904c05d3e235", func := "intaglio/intagliolaw01.WordsWrites", spec := "wordsWrites", apart := false, narrowed := true }
def WordsWritesUptoSaid : Prop := wordsWritesUptoRow.holds Try.pinned (OpenSpec.upto wordsWritesSpec)

/-- 'intagliolaw01.WordsSplits', WHERE WHAT IT READS IS OF BULK AT MOST 1048576: true; the input reads as it did. -/
def wordsSplitsUptoRow : OpenClaim := { program := "ytmcilcgpaokifaa", sum := "e48af97e2cebd41cedc1fae32f7aaffd5dcd6bb318a4f8d667eb904c05d3e235", func := "intaglio/intagliolaw01.WordsSplits", spec := "wordsSplits", apart := false, narrowed := true }
def WordsSplitsUptoSaid : Prop := wordsSplitsUptoRow.holds Try.pinned (OpenSpec.upto wordsSplitsSpec)

/-- 'intagliolaw01.WordsTexts', WHERE WHAT IT READS IS OF BULK AT MOST 1048576: true; the input reads as it did. -/
def wordsTextsUptoRow : OpenClaim := { program := "ytmcilcgpaokifaa", sum := "e48af97e2cebd41cedc1fae32f7aaffd5dcd6bb318a4f8d667eb904c05d3e235", func := "intaglio/intagliolaw01.WordsTexts", spec := "wordsTexts", apart := false, narrowed := true }
def WordsTextsUptoSaid : Prop := wordsTextsUptoRow.holds Try.pinned (OpenSpec.upto wordsTextsSpec)

/-- 'intagliolaw01.WordsBack', WHERE WHAT IT READS IS OF BULK AT MOST 1048576: true; the input reads as it did. -/
def wordsBackUptoRow : OpenClaim := { program := "ytmcilcgpaokifaa", sum := "e48af97e2cebd41cedc1fae32f7aaffd5dcd6bb318a4f8d667eb904c05d3e235", func := "intaglio/intagliolaw01.WordsBack", spec := "wordsBack", apart := false, narrowed := true }
def WordsBackUptoSaid : Prop := wordsBackUptoRow.holds Try.pinned (OpenSpec.upto wordsBackSpec)

/-- 'intagliolaw01.WordsRead', WHERE WHAT IT READS IS OF BULK AT MOST 1048576: true; the input reads as it did. -/
def wordsReadUptoRow : OpenClaim := { program := "ytmcilcgpaokifaa", sum := "e48af97e2cebd41cedc1fae32f7aaffd5dcd6bb318a4f8d667eb904c05d3e235", func := "intaglio/intagliolaw01.WordsRead", spec := "wordsRead", apart := false, narrowed := true }
def WordsReadUptoSaid : Prop := wordsReadUptoRow.holds Try.pinned (OpenSpec.upto wordsReadSpec)

/-- 'intagliolaw01.WordsNil', WHERE WHAT IT READS IS OF BULK AT MOST 1048576: true; the input reads as it did. -/
def wordsNilUptoRow : OpenClaim := { program := "ytmcilcgpaokifaa", sum := "e48af97e2cebd41cedc1fae32f7aaffd5dcd6bb318a4f8d667eb904c05d3e235", func := "intaglio/intagliolaw01.WordsNil", spec := "wordsNil", apart := false, narrowed := true }
def WordsNilUptoSaid : Prop := wordsNilUptoRow.holds Try.pinned (OpenSpec.upto wordsNilSpec)

/-- 'intagliolaw01.WordsReader', WHERE WHAT IT READS IS OF BULK AT MOST 1048576: true; the input reads as it did. -/
def wordsReaderUptoRow : OpenClaim := { program := "ytmcilcgpaokifaa", sum := "e48af97e2cebd41cedc1fae32f7aaffd5dcd6bb318a4f8d667eb904c05d3e235", func := "intaglio/intagliolaw01.WordsReader", spec := "wordsReader", apart := false, narrowed := true }
def WordsReaderUptoSaid : Prop := wordsReaderUptoRow.holds Try.pinned (OpenSpec.upto wordsReaderSpec)

end Rows
end Go.Proofs.Ytmcilcgpaokifaa
