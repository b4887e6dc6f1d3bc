/- A fact of the row of TopWide: k11. -/
import Derived.Test.YtmplpcmcbliadaaGreatDoorRows
import Derived.JoinedOf
import Derived.KernelRfl
namespace Go.Proofs.YtmplpcmcbliadaaGreatDoor.topWide
open Go
theorem k11 : (Rows.topWideRow.unfollowed == Tryz.prog.unfollowed 7) = true := by kernel_rfl
end Go.Proofs.YtmplpcmcbliadaaGreatDoor.topWide
