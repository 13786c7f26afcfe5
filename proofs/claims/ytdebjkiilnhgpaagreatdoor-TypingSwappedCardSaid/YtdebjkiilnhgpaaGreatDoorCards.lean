/-
  DERIVED. GIVEN WITH THE SEED: THE CARDS: each row of YtdebjkiilnhgpaaGreatDoorRows.lean that lists a variable, with what it lists TIED to the program's text (the seventh form; the later family's looks); each row that meets fmt, with fmt's text TOLD by the authors' own Lean function (tested against real Go, not proved from fmt's source: count such statements apart). THE CARD IS WHAT COUNTS. Prove the row's statement (the work); the ties are given (YtdebjkiilnhgpaaGreatDoorTie.lean); close each card by the builder's one call (the guide's Derived/Test/ToyasCard.lean, 'card_holds'). Laid BY PROGRAM, IN A SANDBOX (cutbox-door.mjs). By AI agents, Wed Nov 11 2026. No macro, syntax, notation, axiom, sorry.
-/
import Derived.Test.YtdebjkiilnhgpaaGreatDoorRows
import GoSem.ClaimSeven
namespace Go.Proofs.YtdebjkiilnhgpaaGreatDoor
namespace Rows

/-- THE TIED CARD OF 'intagliolaw18.TypingFirst'. -/
def typingFirstCard : Claim7 := { stood := { row := typingFirstRow, standIns := [], harness := (true, "34ac130a438f0189c34e3d92b2f564fc9f7de5a320cfaecd236fffeddf2dbbb1"), looks := false }, kinds := [], alts := [], laidByText := true, laidKinds := [.data, .data, .data], laidTests := true, laidLooks := .later }
def TypingFirstCardSaid : Prop := Claim7.holds Tryz.pinned (.plain (OpenSpec.ofChange typingFirstSpec)) typingFirstCard

/-- THE TIED CARD OF 'intagliolaw18.TypingSwapped'. -/
def typingSwappedCard : Claim7 := { stood := { row := typingSwappedRow, standIns := [], harness := (true, "34ac130a438f0189c34e3d92b2f564fc9f7de5a320cfaecd236fffeddf2dbbb1"), looks := false }, kinds := [], alts := [], laidByText := true, laidKinds := [.data, .data, .data], laidTests := true, laidLooks := .later }
def TypingSwappedCardSaid : Prop := Claim7.holds Tryz.pinned (.plain (OpenSpec.ofChange typingSwappedSpec)) typingSwappedCard

/-- THE TIED CARD OF 'intagliolaw18.TypingSizes'. -/
def typingSizesCard : Claim7 := { stood := { row := typingSizesRow, standIns := [], harness := (true, "34ac130a438f0189c34e3d92b2f564fc9f7de5a320cfaecd236fffeddf2dbbb1"), looks := false }, kinds := [], alts := [], laidByText := true, laidKinds := [.data, .data, .data], laidTests := true, laidLooks := .later }
def TypingSizesCardSaid : Prop := Claim7.holds Tryz.pinned (.plain (OpenSpec.ofChange typingSizesSpec)) typingSizesCard

/-- THE TIED CARD OF 'intagliolaw18.TypingRenamed'. -/
def typingRenamedCard : Claim7 := { stood := { row := typingRenamedRow, standIns := [], harness := (true, "34ac130a438f0189c34e3d92b2f564fc9f7de5a320cfaecd236fffeddf2dbbb1"), looks := false }, kinds := [], alts := [], laidByText := true, laidKinds := [.data, .data, .data], laidTests := true, laidLooks := .later }
def TypingRenamedCardSaid : Prop := Claim7.holds Tryz.pinned (.plain (OpenSpec.ofChange typingRenamedSpec)) typingRenamedCard

/-- THE SECOND FORM's CARD OF 'intagliolaw18.TypingFirst'. -/
def typingFirstUptoCard : Claim7 := { stood := { row := typingFirstUptoRow, standIns := [], harness := (true, "34ac130a438f0189c34e3d92b2f564fc9f7de5a320cfaecd236fffeddf2dbbb1"), looks := false }, kinds := [], alts := [], laidByText := true, laidKinds := [.data, .data, .data], laidTests := true, laidLooks := .later }
def TypingFirstUptoCardSaid : Prop := Claim7.holds Tryz.pinned (.plain (OpenSpec.upto typingFirstSpec)) typingFirstUptoCard

/-- THE SECOND FORM's CARD OF 'intagliolaw18.TypingSwapped'. -/
def typingSwappedUptoCard : Claim7 := { stood := { row := typingSwappedUptoRow, standIns := [], harness := (true, "34ac130a438f0189c34e3d92b2f564fc9f7de5a320cfaecd236fffeddf2dbbb1"), looks := false }, kinds := [], alts := [], laidByText := true, laidKinds := [.data, .data, .data], laidTests := true, laidLooks := .later }
def TypingSwappedUptoCardSaid : Prop := Claim7.holds Tryz.pinned (.plain (OpenSpec.upto typingSwappedSpec)) typingSwappedUptoCard

/-- THE SECOND FORM's CARD OF 'intagliolaw18.TypingSizes'. -/
def typingSizesUptoCard : Claim7 := { stood := { row := typingSizesUptoRow, standIns := [], harness := (true, "34ac130a438f0189c34e3d92b2f564fc9f7de5a320cfaecd236fffeddf2dbbb1"), looks := false }, kinds := [], alts := [], laidByText := true, laidKinds := [.data, .data, .data], laidTests := true, laidLooks := .later }
def TypingSizesUptoCardSaid : Prop := Claim7.holds Tryz.pinned (.plain (OpenSpec.upto typingSizesSpec)) typingSizesUptoCard

/-- THE SECOND FORM's CARD OF 'intagliolaw18.TypingRenamed'. -/
def typingRenamedUptoCard : Claim7 := { stood := { row := typingRenamedUptoRow, standIns := [], harness := (true, "34ac130a438f0189c34e3d92b2f564fc9f7de5a320cfaecd236fffeddf2dbbb1"), looks := false }, kinds := [], alts := [], laidByText := true, laidKinds := [.data, .data, .data], laidTests := true, laidLooks := .later }
def TypingRenamedUptoCardSaid : Prop := Claim7.holds Tryz.pinned (.plain (OpenSpec.upto typingRenamedSpec)) typingRenamedUptoCard
end Rows
end Go.Proofs.YtdebjkiilnhgpaaGreatDoor
