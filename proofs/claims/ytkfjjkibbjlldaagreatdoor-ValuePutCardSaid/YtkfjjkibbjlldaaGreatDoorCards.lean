/-
  DERIVED. GIVEN WITH THE SEED: THE CARDS: each row of YtkfjjkibbjlldaaGreatDoorRows.lean that lists a variable, with what it lists TIED to the program's text (the seventh form; the later family's looks); each row that meets fmt, with fmt's text TOLD by the authors' own Lean function (tested against real Go, not proved from fmt's source: count such statements apart). THE CARD IS WHAT COUNTS. Prove the row's statement (the work); the ties are given (YtkfjjkibbjlldaaGreatDoorTie.lean); close each card by the builder's one call (the guide's Derived/Test/ToyasCard.lean, 'card_holds'). Laid BY PROGRAM, IN A SANDBOX (cutbox-door.mjs). By AI agents, Wed Nov 11 2026. No macro, syntax, notation, axiom, sorry.
-/
import Derived.Test.YtkfjjkibbjlldaaGreatDoorRows
import GoSem.ClaimSeven
namespace Go.Proofs.YtkfjjkibbjlldaaGreatDoor
namespace Rows

/-- THE TIED CARD OF 'intagliolaw12.ValueFits'. -/
def valueFitsCard : Claim7 := { stood := { row := valueFitsRow, standIns := [], harness := (true, "68d7aad170c9fd35c1fb46d1ec05e49d65fc061e030df3ac93801d20399168a3"), looks := true }, kinds := [], alts := [], laidByText := true, laidKinds := [.data, .data, .data, .sentinel, .sentinel], laidTests := true, laidLooks := .later }
def ValueFitsCardSaid : Prop := Claim7.holds Tryz.pinned (.plain (OpenSpec.ofChange valueFitsSpec)) valueFitsCard

/-- THE TIED CARD OF 'intagliolaw12.ValueText'. -/
def valueTextCard : Claim7 := { stood := { row := valueTextRow, standIns := [], harness := (true, "68d7aad170c9fd35c1fb46d1ec05e49d65fc061e030df3ac93801d20399168a3"), looks := true }, kinds := [], alts := [], laidByText := true, laidKinds := [.data, .data, .data, .sentinel, .sentinel], laidTests := true, laidLooks := .later }
def ValueTextCardSaid : Prop := Claim7.holds Tryz.pinned (.plain (OpenSpec.ofChange valueTextSpec)) valueTextCard

/-- THE TIED CARD OF 'intagliolaw12.ValueZero'. -/
def valueZeroCard : Claim7 := { stood := { row := valueZeroRow, standIns := [], harness := (true, "68d7aad170c9fd35c1fb46d1ec05e49d65fc061e030df3ac93801d20399168a3"), looks := true }, kinds := [], alts := [], laidByText := true, laidKinds := [.data, .data, .data, .sentinel, .sentinel], laidTests := true, laidLooks := .later }
def ValueZeroCardSaid : Prop := Claim7.holds Tryz.pinned (.plain (OpenSpec.ofChange valueZeroSpec)) valueZeroCard

/-- THE TIED CARD OF 'intagliolaw12.ValueGet'. -/
def valueGetCard : Claim7 := { stood := { row := valueGetRow, standIns := [], harness := (true, "68d7aad170c9fd35c1fb46d1ec05e49d65fc061e030df3ac93801d20399168a3"), looks := true }, kinds := [], alts := [], laidByText := true, laidKinds := [.data, .data, .data, .sentinel, .sentinel], laidTests := true, laidLooks := .later }
def ValueGetCardSaid : Prop := Claim7.holds Tryz.pinned (.plain (OpenSpec.ofChange valueGetSpec)) valueGetCard

/-- THE TIED CARD OF 'intagliolaw12.ValuePut'. -/
def valuePutCard : Claim7 := { stood := { row := valuePutRow, standIns := [], harness := (true, "68d7aad170c9fd35c1fb46d1ec05e49d65fc061e030df3ac93801d20399168a3"), looks := true }, kinds := [], alts := [], laidByText := true, laidKinds := [.data, .data, .data, .sentinel, .sentinel], laidTests := true, laidLooks := .later }
def ValuePutCardSaid : Prop := Claim7.holds Tryz.pinned (.plain (OpenSpec.ofChange valuePutSpec)) valuePutCard

/-- THE SECOND FORM's CARD OF 'intagliolaw12.ValueFits'. -/
def valueFitsUptoCard : Claim7 := { stood := { row := valueFitsUptoRow, standIns := [], harness := (true, "68d7aad170c9fd35c1fb46d1ec05e49d65fc061e030df3ac93801d20399168a3"), looks := true }, kinds := [], alts := [], laidByText := true, laidKinds := [.data, .data, .data, .sentinel, .sentinel], laidTests := true, laidLooks := .later }
def ValueFitsUptoCardSaid : Prop := Claim7.holds Tryz.pinned (.plain (OpenSpec.upto valueFitsSpec)) valueFitsUptoCard

/-- THE SECOND FORM's CARD OF 'intagliolaw12.ValueText'. -/
def valueTextUptoCard : Claim7 := { stood := { row := valueTextUptoRow, standIns := [], harness := (true, "68d7aad170c9fd35c1fb46d1ec05e49d65fc061e030df3ac93801d20399168a3"), looks := true }, kinds := [], alts := [], laidByText := true, laidKinds := [.data, .data, .data, .sentinel, .sentinel], laidTests := true, laidLooks := .later }
def ValueTextUptoCardSaid : Prop := Claim7.holds Tryz.pinned (.plain (OpenSpec.upto valueTextSpec)) valueTextUptoCard

/-- THE SECOND FORM's CARD OF 'intagliolaw12.ValueZero'. -/
def valueZeroUptoCard : Claim7 := { stood := { row := valueZeroUptoRow, standIns := [], harness := (true, "68d7aad170c9fd35c1fb46d1ec05e49d65fc061e030df3ac93801d20399168a3"), looks := true }, kinds := [], alts := [], laidByText := true, laidKinds := [.data, .data, .data, .sentinel, .sentinel], laidTests := true, laidLooks := .later }
def ValueZeroUptoCardSaid : Prop := Claim7.holds Tryz.pinned (.plain (OpenSpec.upto valueZeroSpec)) valueZeroUptoCard

/-- THE SECOND FORM's CARD OF 'intagliolaw12.ValueGet'. -/
def valueGetUptoCard : Claim7 := { stood := { row := valueGetUptoRow, standIns := [], harness := (true, "68d7aad170c9fd35c1fb46d1ec05e49d65fc061e030df3ac93801d20399168a3"), looks := true }, kinds := [], alts := [], laidByText := true, laidKinds := [.data, .data, .data, .sentinel, .sentinel], laidTests := true, laidLooks := .later }
def ValueGetUptoCardSaid : Prop := Claim7.holds Tryz.pinned (.plain (OpenSpec.upto valueGetSpec)) valueGetUptoCard

/-- THE SECOND FORM's CARD OF 'intagliolaw12.ValuePut'. -/
def valuePutUptoCard : Claim7 := { stood := { row := valuePutUptoRow, standIns := [], harness := (true, "68d7aad170c9fd35c1fb46d1ec05e49d65fc061e030df3ac93801d20399168a3"), looks := true }, kinds := [], alts := [], laidByText := true, laidKinds := [.data, .data, .data, .sentinel, .sentinel], laidTests := true, laidLooks := .later }
def ValuePutUptoCardSaid : Prop := Claim7.holds Tryz.pinned (.plain (OpenSpec.upto valuePutSpec)) valuePutUptoCard
end Rows
end Go.Proofs.YtkfjjkibbjlldaaGreatDoor
