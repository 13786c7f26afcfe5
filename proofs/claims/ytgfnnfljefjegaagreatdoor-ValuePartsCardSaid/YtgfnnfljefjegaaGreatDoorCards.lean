/-
  DERIVED. GIVEN WITH THE SEED: THE CARDS: each row of YtgfnnfljefjegaaGreatDoorRows.lean that lists a variable, with what it lists TIED to the program's text (the seventh form; the later family's looks); each row that meets fmt, with fmt's text TOLD by the authors' own Lean function (tested against real Go, not proved from fmt's source: count such statements apart). THE CARD IS WHAT COUNTS. Prove the row's statement (the work); the ties are given (YtgfnnfljefjegaaGreatDoorTie.lean); close each card by the builder's one call (the guide's Derived/Test/ToyasCard.lean, 'card_holds'). Laid BY PROGRAM, IN A SANDBOX (cutbox-door.mjs). By AI agents, Wed Nov 11 2026. No macro, syntax, notation, axiom, sorry.
-/
import Derived.Test.YtgfnnfljefjegaaGreatDoorRows
import GoSem.ClaimSeven
namespace Go.Proofs.YtgfnnfljefjegaaGreatDoor
namespace Rows

/-- THE TIED CARD OF 'intagliolaw12.ValueForth'. -/
def valueForthCard : Claim7 := { stood := { row := valueForthRow, standIns := [], harness := (true, "b94bf2ded74fc3d9102a8cf8938adea111fa1882f06ffaf2927f4704ace3752e"), looks := true }, kinds := [], alts := [], laidByText := true, laidKinds := [.data, .data, .data, .sentinel, .sentinel], laidTests := true, laidLooks := .later }
def ValueForthCardSaid : Prop := Claim7.holds Tryz.pinned (.plain (OpenSpec.ofChange valueForthSpec)) valueForthCard

/-- THE TIED CARD OF 'intagliolaw12.ValueBack'. -/
def valueBackCard : Claim7 := { stood := { row := valueBackRow, standIns := [], harness := (true, "b94bf2ded74fc3d9102a8cf8938adea111fa1882f06ffaf2927f4704ace3752e"), looks := true }, kinds := [], alts := [], laidByText := true, laidKinds := [.data, .data, .data, .sentinel, .sentinel], laidTests := true, laidLooks := .later }
def ValueBackCardSaid : Prop := Claim7.holds Tryz.pinned (.plain (OpenSpec.ofChange valueBackSpec)) valueBackCard

/-- THE TIED CARD OF 'intagliolaw12.ValueParts'. -/
def valuePartsCard : Claim7 := { stood := { row := valuePartsRow, standIns := [], harness := (true, "b94bf2ded74fc3d9102a8cf8938adea111fa1882f06ffaf2927f4704ace3752e"), looks := true }, kinds := [], alts := [], laidByText := true, laidKinds := [.data, .data, .data, .sentinel, .sentinel], laidTests := true, laidLooks := .later }
def ValuePartsCardSaid : Prop := Claim7.holds Tryz.pinned (.plain (OpenSpec.ofChange valuePartsSpec)) valuePartsCard

/-- THE TIED CARD OF 'intagliolaw12.ValueNil'. -/
def valueNilCard : Claim7 := { stood := { row := valueNilRow, standIns := [], harness := (true, "b94bf2ded74fc3d9102a8cf8938adea111fa1882f06ffaf2927f4704ace3752e"), looks := true }, kinds := [], alts := [], laidByText := true, laidKinds := [.data, .data, .data, .sentinel, .sentinel], laidTests := true, laidLooks := .later }
def ValueNilCardSaid : Prop := Claim7.holds Tryz.pinned (.plain (OpenSpec.ofChange valueNilSpec)) valueNilCard

/-- THE SECOND FORM's CARD OF 'intagliolaw12.ValueForth'. -/
def valueForthUptoCard : Claim7 := { stood := { row := valueForthUptoRow, standIns := [], harness := (true, "b94bf2ded74fc3d9102a8cf8938adea111fa1882f06ffaf2927f4704ace3752e"), looks := true }, kinds := [], alts := [], laidByText := true, laidKinds := [.data, .data, .data, .sentinel, .sentinel], laidTests := true, laidLooks := .later }
def ValueForthUptoCardSaid : Prop := Claim7.holds Tryz.pinned (.plain (OpenSpec.upto valueForthSpec)) valueForthUptoCard

/-- THE SECOND FORM's CARD OF 'intagliolaw12.ValueBack'. -/
def valueBackUptoCard : Claim7 := { stood := { row := valueBackUptoRow, standIns := [], harness := (true, "b94bf2ded74fc3d9102a8cf8938adea111fa1882f06ffaf2927f4704ace3752e"), looks := true }, kinds := [], alts := [], laidByText := true, laidKinds := [.data, .data, .data, .sentinel, .sentinel], laidTests := true, laidLooks := .later }
def ValueBackUptoCardSaid : Prop := Claim7.holds Tryz.pinned (.plain (OpenSpec.upto valueBackSpec)) valueBackUptoCard

/-- THE SECOND FORM's CARD OF 'intagliolaw12.ValueParts'. -/
def valuePartsUptoCard : Claim7 := { stood := { row := valuePartsUptoRow, standIns := [], harness := (true, "b94bf2ded74fc3d9102a8cf8938adea111fa1882f06ffaf2927f4704ace3752e"), looks := true }, kinds := [], alts := [], laidByText := true, laidKinds := [.data, .data, .data, .sentinel, .sentinel], laidTests := true, laidLooks := .later }
def ValuePartsUptoCardSaid : Prop := Claim7.holds Tryz.pinned (.plain (OpenSpec.upto valuePartsSpec)) valuePartsUptoCard

/-- THE SECOND FORM's CARD OF 'intagliolaw12.ValueNil'. -/
def valueNilUptoCard : Claim7 := { stood := { row := valueNilUptoRow, standIns := [], harness := (true, "b94bf2ded74fc3d9102a8cf8938adea111fa1882f06ffaf2927f4704ace3752e"), looks := true }, kinds := [], alts := [], laidByText := true, laidKinds := [.data, .data, .data, .sentinel, .sentinel], laidTests := true, laidLooks := .later }
def ValueNilUptoCardSaid : Prop := Claim7.holds Tryz.pinned (.plain (OpenSpec.upto valueNilSpec)) valueNilUptoCard
end Rows
end Go.Proofs.YtgfnnfljefjegaaGreatDoor
