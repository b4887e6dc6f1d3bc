/- A fact of the row of TopText: k12. -/
import Derived.Test.YtmplpcmcbliadaaGreatDoorRows
import Derived.JoinedOf
import Derived.KernelRfl
namespace Go.Proofs.YtmplpcmcbliadaaGreatDoor.topText
open Go
theorem k12 : (Rows.topTextRow.recurses == Tryz.prog.recurses 8) = true := by kernel_rfl
end Go.Proofs.YtmplpcmcbliadaaGreatDoor.topText
