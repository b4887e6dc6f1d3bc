/- The lesser facts of the row of TopText. -/
import Derived.Test.YtmplpcmcbliadaaGreatDoorRows
import Derived.JoinedOf
import Derived.KernelRfl
namespace Go.Proofs.YtmplpcmcbliadaaGreatDoor.topText
open Go
theorem k1 : Rows.topTextRow.wf (OpenSpec.ofChange Rows.topTextSpec) = true := by kernel_rfl
theorem k4 : Tryz.f8.params.all (Tryz.prog.readableRec ·) = true := by kernel_rfl
theorem k5 : namedTie Tryz.prog Rows.topTextRow.named Rows.topTextSpec.vars = true := by kernel_rfl
theorem k6 : (Rows.topTextRow.stops == []) = true := by kernel_rfl
theorem k7 : (Tryz.prog.stops == []) = true := by kernel_rfl
theorem k8 : (Rows.topTextRow.knobs == []) = true := by kernel_rfl
theorem k9 : (Tryz.prog.stopKnobs == []) = true := by kernel_rfl
theorem k14 : (Rows.topTextRow.maps == (Tryz.f8.params.toList ++ Rows.topTextSpec.plain.varTypes Tryz.prog).any (Tryz.prog.mapsRec ·)) = true := by kernel_rfl
theorem k15 : (Rows.topTextRow.ifaces == (Tryz.f8.params.toList ++ Rows.topTextSpec.plain.varTypes Tryz.prog).any (Tryz.prog.ifacesRec ·)) = true := by kernel_rfl
theorem k16 : (Rows.topTextRow.mapsOut == Tryz.prog.mapsAmong Tryz.f8.resultTypes.toList) = true := by kernel_rfl
theorem k17 : (Rows.topTextRow.loops == (Tryz.f8.params.toList ++ Rows.topTextSpec.plain.varTypes Tryz.prog).any (Tryz.prog.loopsFrom ·)) = true := by kernel_rfl
theorem k17b : (Rows.topTextRow.wideKeys == (Tryz.f8.params.toList ++ Rows.topTextSpec.plain.varTypes Tryz.prog ++ Tryz.f8.resultTypes.toList).any (Tryz.prog.wideKeysFrom ·)) = true := by kernel_rfl
theorem k18 : Rows.topTextSpec.vars.all (Tryz.prog.varReadable ·) = true := by kernel_rfl
theorem k19 : Tryz.f8.resultTypes.all (fun t => Tryz.prog.readableRec t && decide (t < Tryz.prog.types.size)) = true := by kernel_rfl
theorem k20 : (Rows.topTextRow.ifacesOut == Tryz.f8.resultTypes.toList.any (Tryz.prog.ifacesRec ·)) = true := by kernel_rfl
theorem k21 : (Rows.topTextRow.loopsOut == Tryz.f8.resultTypes.toList.any (Tryz.prog.loopsFrom ·)) = true := by kernel_rfl
theorem k23 : Rows.topTextRow.shortTexts.isNone = true := by kernel_rfl
theorem k25 : (Rows.topTextRow.kinds == (if Rows.topTextRow.domain.isEmpty then [] else Tryz.f8.params.toList.map fun t => match Tryz.prog.underlying t with | some (.int k) => some k | _ => none)) = true := by kernel_rfl
theorem k26 : (Rows.topTextRow.pinned == Rows.topTextRow.pinnedBy) = true := by kernel_rfl
theorem k27 : (Rows.topTextRow.veiled == (Tryz.f8.params.toList ++ Rows.topTextSpec.plain.varTypes Tryz.prog ++ Tryz.f8.resultTypes.toList).any (Tryz.prog.veiledRec ·)) = true := by kernel_rfl
theorem k28 : Rows.topTextRow.veiledFits Tryz.prog Tryz.f8.params.toList (Tryz.f8.params.toList ++ Rows.topTextSpec.plain.varTypes Tryz.prog ++ Tryz.f8.resultTypes.toList) = true := by kernel_rfl
end Go.Proofs.YtmplpcmcbliadaaGreatDoor.topText
