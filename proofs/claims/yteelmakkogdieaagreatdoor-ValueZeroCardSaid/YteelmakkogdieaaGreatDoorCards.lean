/-
  DERIVED. GIVEN WITH THE SEED: THE CARDS: each row of YteelmakkogdieaaGreatDoorRows.lean that lists a variable, with what it lists TIED to the program's text (the seventh form; the later family's looks); each row that meets fmt, with fmt's text TOLD by the authors' own Lean function (tested against real Go, not proved from fmt's source: count such statements apart). THE CARD IS WHAT COUNTS. Prove the row's statement (the work); the ties are given (YteelmakkogdieaaGreatDoorTie.lean); close each card by the builder's one call (the guide's Derived/Test/ToyasCard.lean, 'card_holds'). Laid BY PROGRAM, IN A SANDBOX (cutbox-door.mjs). By AI agents, Wed Nov 11 2026. No macro, syntax, notation, axiom, sorry.
-/
import Derived.Test.YteelmakkogdieaaGreatDoorRows
import GoSem.ClaimSeven
namespace Go.Proofs.YteelmakkogdieaaGreatDoor
namespace Rows

/-- THE TIED CARD OF 'intagliolaw18.TypingCheck'. -/
def typingCheckCard : Claim7 := { stood := { row := typingCheckRow, standIns := [], harness := (true, "77d5eced24847e204d63e943f8a78dc3f8b33956cdbf5e4f0964d76674ff370b"), looks := true }, kinds := [], alts := [], laidByText := true, laidKinds := [.data, .data, .data], laidTests := true, laidLooks := .later }
def TypingCheckCardSaid : Prop := Claim7.holds Tryz.pinned (.plain (OpenSpec.ofChange typingCheckSpec)) typingCheckCard

/-- THE TIED CARD OF 'intagliolaw18.TypingFits'. -/
def typingFitsCard : Claim7 := { stood := { row := typingFitsRow, standIns := [], harness := (true, "77d5eced24847e204d63e943f8a78dc3f8b33956cdbf5e4f0964d76674ff370b"), looks := true }, kinds := [], alts := [], laidByText := true, laidKinds := [.data, .data, .data], laidTests := true, laidLooks := .later }
def TypingFitsCardSaid : Prop := Claim7.holds Tryz.pinned (.plain (OpenSpec.ofChange typingFitsSpec)) typingFitsCard

/-- THE TIED CARD OF 'intagliolaw18.TypingOne'. -/
def typingOneCard : Claim7 := { stood := { row := typingOneRow, standIns := [], harness := (true, "77d5eced24847e204d63e943f8a78dc3f8b33956cdbf5e4f0964d76674ff370b"), looks := true }, kinds := [], alts := [], laidByText := true, laidKinds := [.data, .data, .data], laidTests := true, laidLooks := .later }
def TypingOneCardSaid : Prop := Claim7.holds Tryz.pinned (.plain (OpenSpec.ofChange typingOneSpec)) typingOneCard

/-- THE TIED CARD OF 'intagliolaw18.TypingType'. -/
def typingTypeCard : Claim7 := { stood := { row := typingTypeRow, standIns := [], harness := (true, "77d5eced24847e204d63e943f8a78dc3f8b33956cdbf5e4f0964d76674ff370b"), looks := true }, kinds := [], alts := [], laidByText := true, laidKinds := [.data, .data, .data], laidTests := true, laidLooks := .later }
def TypingTypeCardSaid : Prop := Claim7.holds Tryz.pinned (.plain (OpenSpec.ofChange typingTypeSpec)) typingTypeCard

/-- THE TIED CARD OF 'intagliolaw18.TypingFirst'. -/
def typingFirstCard : Claim7 := { stood := { row := typingFirstRow, standIns := [], harness := (true, "77d5eced24847e204d63e943f8a78dc3f8b33956cdbf5e4f0964d76674ff370b"), looks := true }, kinds := [], alts := [], laidByText := true, laidKinds := [.data, .data, .data], laidTests := true, laidLooks := .later }
def TypingFirstCardSaid : Prop := Claim7.holds Tryz.pinned (.plain (OpenSpec.ofChange typingFirstSpec)) typingFirstCard

/-- THE TIED CARD OF 'intagliolaw18.TypingSwapped'. -/
def typingSwappedCard : Claim7 := { stood := { row := typingSwappedRow, standIns := [], harness := (true, "77d5eced24847e204d63e943f8a78dc3f8b33956cdbf5e4f0964d76674ff370b"), looks := true }, kinds := [], alts := [], laidByText := true, laidKinds := [.data, .data, .data], laidTests := true, laidLooks := .later }
def TypingSwappedCardSaid : Prop := Claim7.holds Tryz.pinned (.plain (OpenSpec.ofChange typingSwappedSpec)) typingSwappedCard

/-- THE TIED CARD OF 'intagliolaw18.TypingSizes'. -/
def typingSizesCard : Claim7 := { stood := { row := typingSizesRow, standIns := [], harness := (true, "77d5eced24847e204d63e943f8a78dc3f8b33956cdbf5e4f0964d76674ff370b"), looks := true }, kinds := [], alts := [], laidByText := true, laidKinds := [.data, .data, .data], laidTests := true, laidLooks := .later }
def TypingSizesCardSaid : Prop := Claim7.holds Tryz.pinned (.plain (OpenSpec.ofChange typingSizesSpec)) typingSizesCard

/-- THE TIED CARD OF 'intagliolaw12.ValueZero'. -/
def valueZeroCard : Claim7 := { stood := { row := valueZeroRow, standIns := [], harness := (true, "77d5eced24847e204d63e943f8a78dc3f8b33956cdbf5e4f0964d76674ff370b"), looks := true }, kinds := [], alts := [], laidByText := true, laidKinds := [.data, .data, .data, .sentinel, .sentinel], laidTests := true, laidLooks := .later }
def ValueZeroCardSaid : Prop := Claim7.holds Tryz.pinned (.plain (OpenSpec.ofChange valueZeroSpec)) valueZeroCard

/-- THE TIED CARD OF 'intagliolaw18.TypingRenamed'. -/
def typingRenamedCard : Claim7 := { stood := { row := typingRenamedRow, standIns := [], harness := (true, "77d5eced24847e204d63e943f8a78dc3f8b33956cdbf5e4f0964d76674ff370b"), looks := true }, kinds := [], alts := [], laidByText := true, laidKinds := [.data, .data, .data], laidTests := true, laidLooks := .later }
def TypingRenamedCardSaid : Prop := Claim7.holds Tryz.pinned (.plain (OpenSpec.ofChange typingRenamedSpec)) typingRenamedCard

/-- THE SECOND FORM's CARD OF 'intagliolaw18.TypingCheck'. -/
def typingCheckUptoCard : Claim7 := { stood := { row := typingCheckUptoRow, standIns := [], harness := (true, "77d5eced24847e204d63e943f8a78dc3f8b33956cdbf5e4f0964d76674ff370b"), looks := true }, kinds := [], alts := [], laidByText := true, laidKinds := [.data, .data, .data], laidTests := true, laidLooks := .later }
def TypingCheckUptoCardSaid : Prop := Claim7.holds Tryz.pinned (.plain (OpenSpec.upto typingCheckSpec)) typingCheckUptoCard

/-- THE SECOND FORM's CARD OF 'intagliolaw18.TypingFits'. -/
def typingFitsUptoCard : Claim7 := { stood := { row := typingFitsUptoRow, standIns := [], harness := (true, "77d5eced24847e204d63e943f8a78dc3f8b33956cdbf5e4f0964d76674ff370b"), looks := true }, kinds := [], alts := [], laidByText := true, laidKinds := [.data, .data, .data], laidTests := true, laidLooks := .later }
def TypingFitsUptoCardSaid : Prop := Claim7.holds Tryz.pinned (.plain (OpenSpec.upto typingFitsSpec)) typingFitsUptoCard

/-- THE SECOND FORM's CARD OF 'intagliolaw18.TypingOne'. -/
def typingOneUptoCard : Claim7 := { stood := { row := typingOneUptoRow, standIns := [], harness := (true, "77d5eced24847e204d63e943f8a78dc3f8b33956cdbf5e4f0964d76674ff370b"), looks := true }, kinds := [], alts := [], laidByText := true, laidKinds := [.data, .data, .data], laidTests := true, laidLooks := .later }
def TypingOneUptoCardSaid : Prop := Claim7.holds Tryz.pinned (.plain (OpenSpec.upto typingOneSpec)) typingOneUptoCard

/-- THE SECOND FORM's CARD OF 'intagliolaw18.TypingType'. -/
def typingTypeUptoCard : Claim7 := { stood := { row := typingTypeUptoRow, standIns := [], harness := (true, "77d5eced24847e204d63e943f8a78dc3f8b33956cdbf5e4f0964d76674ff370b"), looks := true }, kinds := [], alts := [], laidByText := true, laidKinds := [.data, .data, .data], laidTests := true, laidLooks := .later }
def TypingTypeUptoCardSaid : Prop := Claim7.holds Tryz.pinned (.plain (OpenSpec.upto typingTypeSpec)) typingTypeUptoCard

/-- THE SECOND FORM's CARD OF 'intagliolaw18.TypingFirst'. -/
def typingFirstUptoCard : Claim7 := { stood := { row := typingFirstUptoRow, standIns := [], harness := (true, "77d5eced24847e204d63e943f8a78dc3f8b33956cdbf5e4f0964d76674ff370b"), looks := true }, kinds := [], alts := [], laidByText := true, laidKinds := [.data, .data, .data], laidTests := true, laidLooks := .later }
def TypingFirstUptoCardSaid : Prop := Claim7.holds Tryz.pinned (.plain (OpenSpec.upto typingFirstSpec)) typingFirstUptoCard

/-- THE SECOND FORM's CARD OF 'intagliolaw18.TypingSwapped'. -/
def typingSwappedUptoCard : Claim7 := { stood := { row := typingSwappedUptoRow, standIns := [], harness := (true, "77d5eced24847e204d63e943f8a78dc3f8b33956cdbf5e4f0964d76674ff370b"), looks := true }, kinds := [], alts := [], laidByText := true, laidKinds := [.data, .data, .data], laidTests := true, laidLooks := .later }
def TypingSwappedUptoCardSaid : Prop := Claim7.holds Tryz.pinned (.plain (OpenSpec.upto typingSwappedSpec)) typingSwappedUptoCard

/-- THE SECOND FORM's CARD OF 'intagliolaw18.TypingSizes'. -/
def typingSizesUptoCard : Claim7 := { stood := { row := typingSizesUptoRow, standIns := [], harness := (true, "77d5eced24847e204d63e943f8a78dc3f8b33956cdbf5e4f0964d76674ff370b"), looks := true }, kinds := [], alts := [], laidByText := true, laidKinds := [.data, .data, .data], laidTests := true, laidLooks := .later }
def TypingSizesUptoCardSaid : Prop := Claim7.holds Tryz.pinned (.plain (OpenSpec.upto typingSizesSpec)) typingSizesUptoCard

/-- THE SECOND FORM's CARD OF 'intagliolaw12.ValueZero'. -/
def valueZeroUptoCard : Claim7 := { stood := { row := valueZeroUptoRow, standIns := [], harness := (true, "77d5eced24847e204d63e943f8a78dc3f8b33956cdbf5e4f0964d76674ff370b"), looks := true }, kinds := [], alts := [], laidByText := true, laidKinds := [.data, .data, .data, .sentinel, .sentinel], laidTests := true, laidLooks := .later }
def ValueZeroUptoCardSaid : Prop := Claim7.holds Tryz.pinned (.plain (OpenSpec.upto valueZeroSpec)) valueZeroUptoCard

/-- THE SECOND FORM's CARD OF 'intagliolaw18.TypingRenamed'. -/
def typingRenamedUptoCard : Claim7 := { stood := { row := typingRenamedUptoRow, standIns := [], harness := (true, "77d5eced24847e204d63e943f8a78dc3f8b33956cdbf5e4f0964d76674ff370b"), looks := true }, kinds := [], alts := [], laidByText := true, laidKinds := [.data, .data, .data], laidTests := true, laidLooks := .later }
def TypingRenamedUptoCardSaid : Prop := Claim7.holds Tryz.pinned (.plain (OpenSpec.upto typingRenamedSpec)) typingRenamedUptoCard
end Rows
end Go.Proofs.YteelmakkogdieaaGreatDoor
