/- The closed facts of ValueZero's row, a theorem each. (printed by wip/tools/genjoin.py) -/
import Derived.Carry
import Derived.JoinedOf
import Derived.Test.YteelmakkogdieaaGreatDoorCards
import Derived.Test.YteelmakkogdieaaGreatDoorTie
namespace Go.Proofs.YteelmakkogdieaaGreatDoor
open Go.ChangeShapes Go.WideShapes Go.RowKit

theorem and_tValueZero {a b : Bool} (h : a = true) (k : b = true) : (a && b) = true := by rw [h, k]; rfl
theorem jnValueZero0 : (Rows.valueZeroRow.wf (OpenSpec.ofChange Rows.valueZeroSpec)) = true := by kernel_rfl
theorem jnValueZero1 : (laidOutB Tryz.prog) = true := by kernel_rfl
theorem jnValueZero2 : (mapsRowed Tryz.prog) = true := by kernel_rfl
theorem jnValueZero3 : (Tryz.f10.params.all (Tryz.prog.readableRec ·)) = true := by kernel_rfl
theorem jnValueZero4 : (namedTie Tryz.prog Rows.valueZeroRow.named Rows.valueZeroSpec.vars) = true := by kernel_rfl
theorem jnValueZero5 : ((Rows.valueZeroRow.stops == [])) = true := by kernel_rfl
theorem jnValueZero6 : ((Tryz.prog.stops == [])) = true := by kernel_rfl
theorem jnValueZero7 : ((Rows.valueZeroRow.knobs == [])) = true := by kernel_rfl
theorem jnValueZero8 : ((Tryz.prog.stopKnobs == [])) = true := by kernel_rfl
theorem jnValueZero9 : ((Rows.valueZeroRow.inPlace == Tryz.prog.inPlace 10)) = true := by kernel_rfl
theorem jnValueZero10 : ((Rows.valueZeroRow.unfollowed == Tryz.prog.unfollowed 10)) = true := by kernel_rfl
theorem jnValueZero11 : ((Rows.valueZeroRow.recurses == Tryz.prog.recurses 10)) = true := by kernel_rfl
theorem jnValueZero12 : ((Rows.valueZeroRow.named == Tryz.prog.varsNamed 10)) = true := by kernel_rfl
theorem jnValueZero13 : ((Rows.valueZeroRow.maps == (Tryz.f10.params.toList ++ Rows.valueZeroSpec.plain.varTypes Tryz.prog).any (Tryz.prog.mapsRec ·))) = true := by kernel_rfl
theorem jnValueZero14 : ((Rows.valueZeroRow.ifaces == (Tryz.f10.params.toList ++ Rows.valueZeroSpec.plain.varTypes Tryz.prog).any (Tryz.prog.ifacesRec ·))) = true := by kernel_rfl
theorem jnValueZero15 : ((Rows.valueZeroRow.mapsOut == Tryz.prog.mapsAmong Tryz.f10.resultTypes.toList)) = true := by kernel_rfl
theorem jnValueZero16 : ((Rows.valueZeroRow.loops == (Tryz.f10.params.toList ++ Rows.valueZeroSpec.plain.varTypes Tryz.prog).any (Tryz.prog.loopsFrom ·))) = true := by kernel_rfl
theorem jnValueZero17 : ((Rows.valueZeroRow.wideKeys == (Tryz.f10.params.toList ++ Rows.valueZeroSpec.plain.varTypes Tryz.prog ++ Tryz.f10.resultTypes.toList).any (Tryz.prog.wideKeysFrom ·))) = true := by kernel_rfl
theorem jnValueZero18 : (Rows.valueZeroSpec.vars.all (Tryz.prog.varReadable ·)) = true := by kernel_rfl
theorem jnValueZero19 : (Tryz.f10.resultTypes.all (fun t => Tryz.prog.readableRec t && decide (t < Tryz.prog.types.size))) = true := by kernel_rfl
theorem jnValueZero20 : ((Rows.valueZeroRow.ifacesOut == Tryz.f10.resultTypes.toList.any (Tryz.prog.ifacesRec ·))) = true := by kernel_rfl
theorem jnValueZero21 : ((Rows.valueZeroRow.loopsOut == Tryz.f10.resultTypes.toList.any (Tryz.prog.loopsFrom ·))) = true := by kernel_rfl
theorem jnValueZero22 : ((Rows.valueZeroRow.plainKeys == Tryz.prog.plainKeys)) = true := by kernel_rfl
theorem jnValueZero23 : (Rows.valueZeroRow.shortTexts.isNone) = true := by kernel_rfl
theorem jnValueZero24 : (Tryz.prog.stopsHeard) = true := by kernel_rfl
theorem jnValueZero25 : (Tryz.prog.mayEnter) = true := by kernel_rfl
theorem jnValueZero26 : ((Rows.valueZeroRow.lifted == Tryz.prog.liftsFinal)) = true := by kernel_rfl
theorem jnValueZero27 : ((Tryz.prog.make == some Rows.valueZeroRow.make)) = true := by kernel_rfl
theorem jnValueZero28 : ((Rows.valueZeroRow.kinds == (if Rows.valueZeroRow.domain.isEmpty then [] else Tryz.f10.params.toList.map fun t => match Tryz.prog.underlying t with | some (.int k) => some k | _ => none))) = true := by kernel_rfl
theorem jnValueZero29 : ((Rows.valueZeroRow.pinned == Rows.valueZeroRow.pinnedBy)) = true := by kernel_rfl
theorem jnValueZero30 : ((Rows.valueZeroRow.veiled == (Tryz.f10.params.toList ++ Rows.valueZeroSpec.plain.varTypes Tryz.prog ++ Tryz.f10.resultTypes.toList).any (Tryz.prog.veiledRec ·))) = true := by kernel_rfl
theorem jnValueZero31 : (Rows.valueZeroRow.veiledFits Tryz.prog Tryz.f10.params.toList (Tryz.f10.params.toList ++ Rows.valueZeroSpec.plain.varTypes Tryz.prog ++ Tryz.f10.resultTypes.toList)) = true := by kernel_rfl
set_option maxRecDepth 100000 in
theorem joinedValueZero : joinedFacts Tryz.prog 10 Tryz.f10 Rows.valueZeroSpec Rows.valueZeroRow = true := (and_tValueZero (and_tValueZero (and_tValueZero (and_tValueZero (and_tValueZero (and_tValueZero (and_tValueZero (and_tValueZero (and_tValueZero (and_tValueZero (and_tValueZero (and_tValueZero (and_tValueZero (and_tValueZero (and_tValueZero (and_tValueZero (and_tValueZero (and_tValueZero (and_tValueZero (and_tValueZero (and_tValueZero (and_tValueZero (and_tValueZero (and_tValueZero (and_tValueZero (and_tValueZero (and_tValueZero (and_tValueZero (and_tValueZero (and_tValueZero (and_tValueZero jnValueZero0 jnValueZero1) jnValueZero2) jnValueZero3) jnValueZero4) jnValueZero5) jnValueZero6) jnValueZero7) jnValueZero8) jnValueZero9) jnValueZero10) jnValueZero11) jnValueZero12) jnValueZero13) jnValueZero14) jnValueZero15) jnValueZero16) jnValueZero17) jnValueZero18) jnValueZero19) jnValueZero20) jnValueZero21) jnValueZero22) jnValueZero23) jnValueZero24) jnValueZero25) jnValueZero26) jnValueZero27) jnValueZero28) jnValueZero29) jnValueZero30) jnValueZero31)
end Go.Proofs.YteelmakkogdieaaGreatDoor
