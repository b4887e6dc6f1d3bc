/- The lesser facts of the row of TopWide. -/
import Derived.Test.YtmplpcmcbliadaaGreatDoorRows
import Derived.JoinedOf
import Derived.KernelRfl
namespace Go.Proofs.YtmplpcmcbliadaaGreatDoor.topWide
open Go
theorem k1 : Rows.topWideRow.wf (OpenSpec.ofChange Rows.topWideSpec) = true := by kernel_rfl
theorem k4 : Tryz.f7.params.all (Tryz.prog.readableRec ·) = true := by kernel_rfl
theorem k5 : namedTie Tryz.prog Rows.topWideRow.named Rows.topWideSpec.vars = true := by kernel_rfl
theorem k6 : (Rows.topWideRow.stops == []) = true := by kernel_rfl
theorem k7 : (Tryz.prog.stops == []) = true := by kernel_rfl
theorem k8 : (Rows.topWideRow.knobs == []) = true := by kernel_rfl
theorem k9 : (Tryz.prog.stopKnobs == []) = true := by kernel_rfl
theorem k14 : (Rows.topWideRow.maps == (Tryz.f7.params.toList ++ Rows.topWideSpec.plain.varTypes Tryz.prog).any (Tryz.prog.mapsRec ·)) = true := by kernel_rfl
theorem k15 : (Rows.topWideRow.ifaces == (Tryz.f7.params.toList ++ Rows.topWideSpec.plain.varTypes Tryz.prog).any (Tryz.prog.ifacesRec ·)) = true := by kernel_rfl
theorem k16 : (Rows.topWideRow.mapsOut == Tryz.prog.mapsAmong Tryz.f7.resultTypes.toList) = true := by kernel_rfl
theorem k17 : (Rows.topWideRow.loops == (Tryz.f7.params.toList ++ Rows.topWideSpec.plain.varTypes Tryz.prog).any (Tryz.prog.loopsFrom ·)) = true := by kernel_rfl
theorem k17b : (Rows.topWideRow.wideKeys == (Tryz.f7.params.toList ++ Rows.topWideSpec.plain.varTypes Tryz.prog ++ Tryz.f7.resultTypes.toList).any (Tryz.prog.wideKeysFrom ·)) = true := by kernel_rfl
theorem k18 : Rows.topWideSpec.vars.all (Tryz.prog.varReadable ·) = true := by kernel_rfl
theorem k19 : Tryz.f7.resultTypes.all (fun t => Tryz.prog.readableRec t && decide (t < Tryz.prog.types.size)) = true := by kernel_rfl
theorem k20 : (Rows.topWideRow.ifacesOut == Tryz.f7.resultTypes.toList.any (Tryz.prog.ifacesRec ·)) = true := by kernel_rfl
theorem k21 : (Rows.topWideRow.loopsOut == Tryz.f7.resultTypes.toList.any (Tryz.prog.loopsFrom ·)) = true := by kernel_rfl
theorem k23 : Rows.topWideRow.shortTexts.isNone = true := by kernel_rfl
theorem k25 : (Rows.topWideRow.kinds == (if Rows.topWideRow.domain.isEmpty then [] else Tryz.f7.params.toList.map fun t => match Tryz.prog.underlying t with | some (.int k) => some k | _ => none)) = true := by kernel_rfl
theorem k26 : (Rows.topWideRow.pinned == Rows.topWideRow.pinnedBy) = true := by kernel_rfl
theorem k27 : (Rows.topWideRow.veiled == (Tryz.f7.params.toList ++ Rows.topWideSpec.plain.varTypes Tryz.prog ++ Tryz.f7.resultTypes.toList).any (Tryz.prog.veiledRec ·)) = true := by kernel_rfl
theorem k28 : Rows.topWideRow.veiledFits Tryz.prog Tryz.f7.params.toList (Tryz.f7.params.toList ++ Rows.topWideSpec.plain.varTypes Tryz.prog ++ Tryz.f7.resultTypes.toList) = true := by kernel_rfl
end Go.Proofs.YtmplpcmcbliadaaGreatDoor.topWide
