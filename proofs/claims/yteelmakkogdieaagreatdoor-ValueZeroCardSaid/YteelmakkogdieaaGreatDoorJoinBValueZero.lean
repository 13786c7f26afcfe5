/- The card's closed facts of ValueZero, a theorem each. (printed by wip/tools/genjoin.py) -/
import Derived.Carry
import Derived.SevenTiedAt
import Derived.Test.YteelmakkogdieaaGreatDoorCards
import Derived.Test.YteelmakkogdieaaGreatDoorTie
namespace Go.Proofs.YteelmakkogdieaaGreatDoor
open Go.ChangeShapes Go.WideShapes Go.RowKit

theorem cwValueZero : Rows.valueZeroRow.wfByText (OpenSpec.ofChange Rows.valueZeroSpec) = true := by kernel_rfl
theorem cmValueZero : Tryz.prog.mainIs = some (((true, "77d5eced24847e204d63e943f8a78dc3f8b33956cdbf5e4f0964d76674ff370b") : Bool × String).1, ((true, "77d5eced24847e204d63e943f8a78dc3f8b33956cdbf5e4f0964d76674ff370b") : Bool × String).2.toList) := by kernel_rfl
theorem clValueZero : true = Tryz.prog.looks [] := by kernel_rfl
theorem cgValueZero : false = Rows.valueZeroRow.goesBy Tryz.prog := by kernel_rfl
theorem cnValueZero : Tryz.prog.funcNamed "intaglio/intagliolaw12.ValueZero" = some 10 := by kernel_rfl
end Go.Proofs.YteelmakkogdieaaGreatDoor
