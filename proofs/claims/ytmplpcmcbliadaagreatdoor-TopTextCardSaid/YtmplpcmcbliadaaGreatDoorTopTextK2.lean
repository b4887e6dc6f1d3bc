/- A fact of the row of TopText: k2. -/
import Derived.Test.YtmplpcmcbliadaaGreatDoorRows
import Derived.JoinedOf
import Derived.KernelRfl
namespace Go.Proofs.YtmplpcmcbliadaaGreatDoor.topText
open Go
theorem k2 : laidOutB Tryz.prog = true := by kernel_rfl
end Go.Proofs.YtmplpcmcbliadaaGreatDoor.topText
