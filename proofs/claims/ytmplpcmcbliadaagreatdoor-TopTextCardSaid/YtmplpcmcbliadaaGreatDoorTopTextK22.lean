/- A fact of the row of TopText: k22. -/
import Derived.Test.YtmplpcmcbliadaaGreatDoorRows
import Derived.JoinedOf
import Derived.KernelRfl
namespace Go.Proofs.YtmplpcmcbliadaaGreatDoor.topText
open Go
theorem k22 : (Rows.topTextRow.plainKeys == Tryz.prog.plainKeys) = true := by kernel_rfl
end Go.Proofs.YtmplpcmcbliadaaGreatDoor.topText
