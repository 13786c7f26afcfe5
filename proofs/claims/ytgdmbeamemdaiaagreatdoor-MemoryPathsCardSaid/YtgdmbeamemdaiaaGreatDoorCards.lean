/-
  DERIVED. GIVEN WITH THE SEED: THE CARDS: each row of YtgdmbeamemdaiaaGreatDoorRows.lean that lists a variable, with what it lists TIED to the program's text (the seventh form; the later family's looks); each row that meets fmt, with fmt's text TOLD by the authors' own Lean function (tested against real Go, not proved from fmt's source: count such statements apart). THE CARD IS WHAT COUNTS. Prove the row's statement (the work); the ties are given (YtgdmbeamemdaiaaGreatDoorTie.lean); close each card by the builder's one call (the guide's Derived/Test/ToyasCard.lean, 'card_holds'). Laid BY PROGRAM, IN A SANDBOX (cutbox-door.mjs). By AI agents, Wed Nov 11 2026. No macro, syntax, notation, axiom, sorry.
-/
import Derived.Test.YtgdmbeamemdaiaaGreatDoorRows
import GoSem.ClaimSeven
namespace Go.Proofs.YtgdmbeamemdaiaaGreatDoor
namespace Rows

/-- THE TIED CARD OF 'intagliolaw10.TypesTexts'. -/
def typesTextsCard : Claim7 := { stood := { row := typesTextsRow, standIns := [], harness := (true, "8be59d3d53b555d6b6af6c792abe04b1e2e55b621a79cbc273eebf09ffe34f05"), looks := false }, kinds := [], alts := [], laidByText := true, laidKinds := [.data, .data, .data], laidTests := true, laidLooks := .later }
def TypesTextsCardSaid : Prop := Claim7.holds Tryz.pinned (.plain (OpenSpec.ofChange typesTextsSpec)) typesTextsCard

/-- THE TIED CARD OF 'intagliolaw10.TypesNew'. -/
def typesNewCard : Claim7 := { stood := { row := typesNewRow, standIns := [], harness := (true, "8be59d3d53b555d6b6af6c792abe04b1e2e55b621a79cbc273eebf09ffe34f05"), looks := false }, kinds := [], alts := [], laidByText := true, laidKinds := [.data, .data, .data], laidTests := true, laidLooks := .later }
def TypesNewCardSaid : Prop := Claim7.holds Tryz.pinned (.plain (OpenSpec.ofChange typesNewSpec)) typesNewCard

/-- THE TIED CARD OF 'intagliolaw10.TypesParts'. -/
def typesPartsCard : Claim7 := { stood := { row := typesPartsRow, standIns := [], harness := (true, "8be59d3d53b555d6b6af6c792abe04b1e2e55b621a79cbc273eebf09ffe34f05"), looks := false }, kinds := [], alts := [], laidByText := true, laidKinds := [.data, .data, .data], laidTests := true, laidLooks := .later }
def TypesPartsCardSaid : Prop := Claim7.holds Tryz.pinned (.plain (OpenSpec.ofChange typesPartsSpec)) typesPartsCard

/-- THE TIED CARD OF 'intagliolaw10.TypesAlike'. -/
def typesAlikeCard : Claim7 := { stood := { row := typesAlikeRow, standIns := [], harness := (true, "8be59d3d53b555d6b6af6c792abe04b1e2e55b621a79cbc273eebf09ffe34f05"), looks := false }, kinds := [], alts := [], laidByText := true, laidKinds := [.data, .data, .data], laidTests := true, laidLooks := .later }
def TypesAlikeCardSaid : Prop := Claim7.holds Tryz.pinned (.plain (OpenSpec.ofChange typesAlikeSpec)) typesAlikeCard

/-- THE TIED CARD OF 'intagliolaw10.TypesSizes'. -/
def typesSizesCard : Claim7 := { stood := { row := typesSizesRow, standIns := [], harness := (true, "8be59d3d53b555d6b6af6c792abe04b1e2e55b621a79cbc273eebf09ffe34f05"), looks := false }, kinds := [], alts := [], laidByText := true, laidKinds := [.data, .data, .data], laidTests := true, laidLooks := .later }
def TypesSizesCardSaid : Prop := Claim7.holds Tryz.pinned (.plain (OpenSpec.ofChange typesSizesSpec)) typesSizesCard

/-- THE TIED CARD OF 'intagliolaw10.TypesEqual'. -/
def typesEqualCard : Claim7 := { stood := { row := typesEqualRow, standIns := [], harness := (true, "8be59d3d53b555d6b6af6c792abe04b1e2e55b621a79cbc273eebf09ffe34f05"), looks := false }, kinds := [], alts := [], laidByText := true, laidKinds := [.data, .data, .data], laidTests := true, laidLooks := .later }
def TypesEqualCardSaid : Prop := Claim7.holds Tryz.pinned (.plain (OpenSpec.ofChange typesEqualSpec)) typesEqualCard

/-- THE TIED CARD OF 'intagliolaw10.TypesRenamed'. -/
def typesRenamedCard : Claim7 := { stood := { row := typesRenamedRow, standIns := [], harness := (true, "8be59d3d53b555d6b6af6c792abe04b1e2e55b621a79cbc273eebf09ffe34f05"), looks := false }, kinds := [], alts := [], laidByText := true, laidKinds := [.data, .data, .data], laidTests := true, laidLooks := .later }
def TypesRenamedCardSaid : Prop := Claim7.holds Tryz.pinned (.plain (OpenSpec.ofChange typesRenamedSpec)) typesRenamedCard

/-- THE TIED CARD OF 'intagliolaw10.TypesNil'. -/
def typesNilCard : Claim7 := { stood := { row := typesNilRow, standIns := [], harness := (true, "8be59d3d53b555d6b6af6c792abe04b1e2e55b621a79cbc273eebf09ffe34f05"), looks := false }, kinds := [], alts := [], laidByText := true, laidKinds := [.data, .data, .data], laidTests := true, laidLooks := .later }
def TypesNilCardSaid : Prop := Claim7.holds Tryz.pinned (.plain (OpenSpec.ofChange typesNilSpec)) typesNilCard

/-- THE TIED CARD OF 'intagliolaw22.MemoryChain'. -/
def memoryChainCard : Claim7 := { stood := { row := memoryChainRow, standIns := [], harness := (true, "8be59d3d53b555d6b6af6c792abe04b1e2e55b621a79cbc273eebf09ffe34f05"), looks := false }, kinds := [], alts := [], laidByText := true, laidKinds := [.data, .data, .data], laidTests := true, laidLooks := .later }
def MemoryChainCardSaid : Prop := Claim7.holds Tryz.pinned (.plain (OpenSpec.ofChange memoryChainSpec)) memoryChainCard

/-- THE TIED CARD OF 'intagliolaw22.MemoryPaths'. -/
def memoryPathsCard : Claim7 := { stood := { row := memoryPathsRow, standIns := [], harness := (true, "8be59d3d53b555d6b6af6c792abe04b1e2e55b621a79cbc273eebf09ffe34f05"), looks := false }, kinds := [], alts := [], laidByText := true, laidKinds := [.data, .data, .data], laidTests := true, laidLooks := .later }
def MemoryPathsCardSaid : Prop := Claim7.holds Tryz.pinned (.plain (OpenSpec.ofChange memoryPathsSpec)) memoryPathsCard

/-- THE SECOND FORM's CARD OF 'intagliolaw10.TypesTexts'. -/
def typesTextsUptoCard : Claim7 := { stood := { row := typesTextsUptoRow, standIns := [], harness := (true, "8be59d3d53b555d6b6af6c792abe04b1e2e55b621a79cbc273eebf09ffe34f05"), looks := false }, kinds := [], alts := [], laidByText := true, laidKinds := [.data, .data, .data], laidTests := true, laidLooks := .later }
def TypesTextsUptoCardSaid : Prop := Claim7.holds Tryz.pinned (.plain (OpenSpec.upto typesTextsSpec)) typesTextsUptoCard

/-- THE SECOND FORM's CARD OF 'intagliolaw10.TypesNew'. -/
def typesNewUptoCard : Claim7 := { stood := { row := typesNewUptoRow, standIns := [], harness := (true, "8be59d3d53b555d6b6af6c792abe04b1e2e55b621a79cbc273eebf09ffe34f05"), looks := false }, kinds := [], alts := [], laidByText := true, laidKinds := [.data, .data, .data], laidTests := true, laidLooks := .later }
def TypesNewUptoCardSaid : Prop := Claim7.holds Tryz.pinned (.plain (OpenSpec.upto typesNewSpec)) typesNewUptoCard

/-- THE SECOND FORM's CARD OF 'intagliolaw10.TypesParts'. -/
def typesPartsUptoCard : Claim7 := { stood := { row := typesPartsUptoRow, standIns := [], harness := (true, "8be59d3d53b555d6b6af6c792abe04b1e2e55b621a79cbc273eebf09ffe34f05"), looks := false }, kinds := [], alts := [], laidByText := true, laidKinds := [.data, .data, .data], laidTests := true, laidLooks := .later }
def TypesPartsUptoCardSaid : Prop := Claim7.holds Tryz.pinned (.plain (OpenSpec.upto typesPartsSpec)) typesPartsUptoCard

/-- THE SECOND FORM's CARD OF 'intagliolaw10.TypesAlike'. -/
def typesAlikeUptoCard : Claim7 := { stood := { row := typesAlikeUptoRow, standIns := [], harness := (true, "8be59d3d53b555d6b6af6c792abe04b1e2e55b621a79cbc273eebf09ffe34f05"), looks := false }, kinds := [], alts := [], laidByText := true, laidKinds := [.data, .data, .data], laidTests := true, laidLooks := .later }
def TypesAlikeUptoCardSaid : Prop := Claim7.holds Tryz.pinned (.plain (OpenSpec.upto typesAlikeSpec)) typesAlikeUptoCard

/-- THE SECOND FORM's CARD OF 'intagliolaw10.TypesSizes'. -/
def typesSizesUptoCard : Claim7 := { stood := { row := typesSizesUptoRow, standIns := [], harness := (true, "8be59d3d53b555d6b6af6c792abe04b1e2e55b621a79cbc273eebf09ffe34f05"), looks := false }, kinds := [], alts := [], laidByText := true, laidKinds := [.data, .data, .data], laidTests := true, laidLooks := .later }
def TypesSizesUptoCardSaid : Prop := Claim7.holds Tryz.pinned (.plain (OpenSpec.upto typesSizesSpec)) typesSizesUptoCard

/-- THE SECOND FORM's CARD OF 'intagliolaw10.TypesEqual'. -/
def typesEqualUptoCard : Claim7 := { stood := { row := typesEqualUptoRow, standIns := [], harness := (true, "8be59d3d53b555d6b6af6c792abe04b1e2e55b621a79cbc273eebf09ffe34f05"), looks := false }, kinds := [], alts := [], laidByText := true, laidKinds := [.data, .data, .data], laidTests := true, laidLooks := .later }
def TypesEqualUptoCardSaid : Prop := Claim7.holds Tryz.pinned (.plain (OpenSpec.upto typesEqualSpec)) typesEqualUptoCard

/-- THE SECOND FORM's CARD OF 'intagliolaw10.TypesRenamed'. -/
def typesRenamedUptoCard : Claim7 := { stood := { row := typesRenamedUptoRow, standIns := [], harness := (true, "8be59d3d53b555d6b6af6c792abe04b1e2e55b621a79cbc273eebf09ffe34f05"), looks := false }, kinds := [], alts := [], laidByText := true, laidKinds := [.data, .data, .data], laidTests := true, laidLooks := .later }
def TypesRenamedUptoCardSaid : Prop := Claim7.holds Tryz.pinned (.plain (OpenSpec.upto typesRenamedSpec)) typesRenamedUptoCard

/-- THE SECOND FORM's CARD OF 'intagliolaw10.TypesNil'. -/
def typesNilUptoCard : Claim7 := { stood := { row := typesNilUptoRow, standIns := [], harness := (true, "8be59d3d53b555d6b6af6c792abe04b1e2e55b621a79cbc273eebf09ffe34f05"), looks := false }, kinds := [], alts := [], laidByText := true, laidKinds := [.data, .data, .data], laidTests := true, laidLooks := .later }
def TypesNilUptoCardSaid : Prop := Claim7.holds Tryz.pinned (.plain (OpenSpec.upto typesNilSpec)) typesNilUptoCard

/-- THE SECOND FORM's CARD OF 'intagliolaw22.MemoryChain'. -/
def memoryChainUptoCard : Claim7 := { stood := { row := memoryChainUptoRow, standIns := [], harness := (true, "8be59d3d53b555d6b6af6c792abe04b1e2e55b621a79cbc273eebf09ffe34f05"), looks := false }, kinds := [], alts := [], laidByText := true, laidKinds := [.data, .data, .data], laidTests := true, laidLooks := .later }
def MemoryChainUptoCardSaid : Prop := Claim7.holds Tryz.pinned (.plain (OpenSpec.upto memoryChainSpec)) memoryChainUptoCard

/-- THE SECOND FORM's CARD OF 'intagliolaw22.MemoryPaths'. -/
def memoryPathsUptoCard : Claim7 := { stood := { row := memoryPathsUptoRow, standIns := [], harness := (true, "8be59d3d53b555d6b6af6c792abe04b1e2e55b621a79cbc273eebf09ffe34f05"), looks := false }, kinds := [], alts := [], laidByText := true, laidKinds := [.data, .data, .data], laidTests := true, laidLooks := .later }
def MemoryPathsUptoCardSaid : Prop := Claim7.holds Tryz.pinned (.plain (OpenSpec.upto memoryPathsSpec)) memoryPathsUptoCard
end Rows
end Go.Proofs.YtgdmbeamemdaiaaGreatDoor
