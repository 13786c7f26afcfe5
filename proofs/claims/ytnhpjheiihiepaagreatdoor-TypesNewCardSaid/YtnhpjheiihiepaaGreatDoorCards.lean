/-
  DERIVED. GIVEN WITH THE SEED: THE CARDS: each row of YtnhpjheiihiepaaGreatDoorRows.lean that lists a variable, with what it lists TIED to the program's text (the seventh form; the later family's looks); each row that meets fmt, with fmt's text TOLD by the authors' own Lean function (tested against real Go, not proved from fmt's source: count such statements apart). THE CARD IS WHAT COUNTS. Prove the row's statement (the work); the ties are given (YtnhpjheiihiepaaGreatDoorTie.lean); close each card by the builder's one call (the guide's Derived/Test/ToyasCard.lean, 'card_holds'). Laid BY PROGRAM, IN A SANDBOX (cutbox-door.mjs). By AI agents, Wed Nov 11 2026. No macro, syntax, notation, axiom, sorry.
-/
import Derived.Test.YtnhpjheiihiepaaGreatDoorRows
import GoSem.ClaimSeven
namespace Go.Proofs.YtnhpjheiihiepaaGreatDoor
namespace Rows

/-- THE TIED CARD OF 'intagliolaw10.TypesNew'. -/
def typesNewCard : Claim7 := { stood := { row := typesNewRow, standIns := [], harness := (true, "5a4d8379f45cef200231a89500b3ffb18b5c15ae3db0d8910585ab88aca9edef"), looks := false }, kinds := [], alts := [], laidByText := true, laidKinds := [.data, .data, .data], laidTests := true, laidLooks := .later }
def TypesNewCardSaid : Prop := Claim7.holds Tryz.pinned (.plain (OpenSpec.ofChange typesNewSpec)) typesNewCard

/-- THE TIED CARD OF 'intagliolaw10.TypesParts'. -/
def typesPartsCard : Claim7 := { stood := { row := typesPartsRow, standIns := [], harness := (true, "5a4d8379f45cef200231a89500b3ffb18b5c15ae3db0d8910585ab88aca9edef"), looks := false }, kinds := [], alts := [], laidByText := true, laidKinds := [.data, .data, .data], laidTests := true, laidLooks := .later }
def TypesPartsCardSaid : Prop := Claim7.holds Tryz.pinned (.plain (OpenSpec.ofChange typesPartsSpec)) typesPartsCard

/-- THE TIED CARD OF 'intagliolaw10.TypesAlike'. -/
def typesAlikeCard : Claim7 := { stood := { row := typesAlikeRow, standIns := [], harness := (true, "5a4d8379f45cef200231a89500b3ffb18b5c15ae3db0d8910585ab88aca9edef"), looks := false }, kinds := [], alts := [], laidByText := true, laidKinds := [.data, .data, .data], laidTests := true, laidLooks := .later }
def TypesAlikeCardSaid : Prop := Claim7.holds Tryz.pinned (.plain (OpenSpec.ofChange typesAlikeSpec)) typesAlikeCard

/-- THE TIED CARD OF 'intagliolaw22.MemoryChain'. -/
def memoryChainCard : Claim7 := { stood := { row := memoryChainRow, standIns := [], harness := (true, "5a4d8379f45cef200231a89500b3ffb18b5c15ae3db0d8910585ab88aca9edef"), looks := false }, kinds := [], alts := [], laidByText := true, laidKinds := [.data, .data, .data], laidTests := true, laidLooks := .later }
def MemoryChainCardSaid : Prop := Claim7.holds Tryz.pinned (.plain (OpenSpec.ofChange memoryChainSpec)) memoryChainCard

/-- THE SECOND FORM's CARD OF 'intagliolaw10.TypesNew'. -/
def typesNewUptoCard : Claim7 := { stood := { row := typesNewUptoRow, standIns := [], harness := (true, "5a4d8379f45cef200231a89500b3ffb18b5c15ae3db0d8910585ab88aca9edef"), looks := false }, kinds := [], alts := [], laidByText := true, laidKinds := [.data, .data, .data], laidTests := true, laidLooks := .later }
def TypesNewUptoCardSaid : Prop := Claim7.holds Tryz.pinned (.plain (OpenSpec.upto typesNewSpec)) typesNewUptoCard

/-- THE SECOND FORM's CARD OF 'intagliolaw10.TypesParts'. -/
def typesPartsUptoCard : Claim7 := { stood := { row := typesPartsUptoRow, standIns := [], harness := (true, "5a4d8379f45cef200231a89500b3ffb18b5c15ae3db0d8910585ab88aca9edef"), looks := false }, kinds := [], alts := [], laidByText := true, laidKinds := [.data, .data, .data], laidTests := true, laidLooks := .later }
def TypesPartsUptoCardSaid : Prop := Claim7.holds Tryz.pinned (.plain (OpenSpec.upto typesPartsSpec)) typesPartsUptoCard

/-- THE SECOND FORM's CARD OF 'intagliolaw10.TypesAlike'. -/
def typesAlikeUptoCard : Claim7 := { stood := { row := typesAlikeUptoRow, standIns := [], harness := (true, "5a4d8379f45cef200231a89500b3ffb18b5c15ae3db0d8910585ab88aca9edef"), looks := false }, kinds := [], alts := [], laidByText := true, laidKinds := [.data, .data, .data], laidTests := true, laidLooks := .later }
def TypesAlikeUptoCardSaid : Prop := Claim7.holds Tryz.pinned (.plain (OpenSpec.upto typesAlikeSpec)) typesAlikeUptoCard

/-- THE SECOND FORM's CARD OF 'intagliolaw22.MemoryChain'. -/
def memoryChainUptoCard : Claim7 := { stood := { row := memoryChainUptoRow, standIns := [], harness := (true, "5a4d8379f45cef200231a89500b3ffb18b5c15ae3db0d8910585ab88aca9edef"), looks := false }, kinds := [], alts := [], laidByText := true, laidKinds := [.data, .data, .data], laidTests := true, laidLooks := .later }
def MemoryChainUptoCardSaid : Prop := Claim7.holds Tryz.pinned (.plain (OpenSpec.upto memoryChainSpec)) memoryChainUptoCard
end Rows
end Go.Proofs.YtnhpjheiihiepaaGreatDoor
