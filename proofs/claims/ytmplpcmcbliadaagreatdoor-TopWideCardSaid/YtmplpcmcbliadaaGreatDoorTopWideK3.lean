/- A fact of the row of TopWide: k3. -/
import Derived.Test.YtmplpcmcbliadaaGreatDoorRows
import Derived.JoinedOf
import Derived.KernelRfl
namespace Go.Proofs.YtmplpcmcbliadaaGreatDoor.topWide
open Go
theorem k3 : mapsRowed Tryz.prog = true := by kernel_rfl
end Go.Proofs.YtmplpcmcbliadaaGreatDoor.topWide
