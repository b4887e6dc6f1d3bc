/- A fact of the row of TopText: k24c. -/
import Derived.Test.YtmplpcmcbliadaaGreatDoorRows
import Derived.JoinedOf
import Derived.KernelRfl
namespace Go.Proofs.YtmplpcmcbliadaaGreatDoor.topText
open Go
theorem k24c : (Tryz.prog.make == some Rows.topTextRow.make) = true := by kernel_rfl
end Go.Proofs.YtmplpcmcbliadaaGreatDoor.topText
