/- A fact of the row of TopText: k24. -/
import Derived.Test.YtmplpcmcbliadaaGreatDoorRows
import Derived.JoinedOf
import Derived.KernelRfl
namespace Go.Proofs.YtmplpcmcbliadaaGreatDoor.topText
open Go
theorem k24 : Tryz.prog.mayEnter = true := by kernel_rfl
end Go.Proofs.YtmplpcmcbliadaaGreatDoor.topText
