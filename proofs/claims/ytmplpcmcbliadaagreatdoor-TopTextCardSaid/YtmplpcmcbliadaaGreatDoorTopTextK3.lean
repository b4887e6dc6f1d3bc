/- A fact of the row of TopText: k3. -/
import Derived.Test.YtmplpcmcbliadaaGreatDoorRows
import Derived.JoinedOf
import Derived.KernelRfl
namespace Go.Proofs.YtmplpcmcbliadaaGreatDoor.topText
open Go
theorem k3 : mapsRowed Tryz.prog = true := by kernel_rfl
end Go.Proofs.YtmplpcmcbliadaaGreatDoor.topText
