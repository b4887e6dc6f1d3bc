/- A fact of the row of TopWide: k24b. -/
import Derived.Test.YtmplpcmcbliadaaGreatDoorRows
import Derived.JoinedOf
import Derived.KernelRfl
namespace Go.Proofs.YtmplpcmcbliadaaGreatDoor.topWide
open Go
theorem k24b : (Rows.topWideRow.lifted == Tryz.prog.liftsFinal) = true := by kernel_rfl
end Go.Proofs.YtmplpcmcbliadaaGreatDoor.topWide
