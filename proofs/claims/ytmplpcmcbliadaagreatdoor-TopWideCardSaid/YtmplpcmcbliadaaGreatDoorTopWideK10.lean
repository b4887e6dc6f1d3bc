/- A fact of the row of TopWide: k10. -/
import Derived.Test.YtmplpcmcbliadaaGreatDoorRows
import Derived.JoinedOf
import Derived.KernelRfl
namespace Go.Proofs.YtmplpcmcbliadaaGreatDoor.topWide
open Go
theorem k10 : (Rows.topWideRow.inPlace == Tryz.prog.inPlace 7) = true := by kernel_rfl
end Go.Proofs.YtmplpcmcbliadaaGreatDoor.topWide
