/- A fact of the row of TopText: k24b. -/
import Derived.Test.YtmplpcmcbliadaaGreatDoorRows
import Derived.JoinedOf
import Derived.KernelRfl
namespace Go.Proofs.YtmplpcmcbliadaaGreatDoor.topText
open Go
theorem k24b : (Rows.topTextRow.lifted == Tryz.prog.liftsFinal) = true := by kernel_rfl
end Go.Proofs.YtmplpcmcbliadaaGreatDoor.topText
