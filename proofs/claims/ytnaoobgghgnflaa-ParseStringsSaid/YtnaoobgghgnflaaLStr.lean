/- The law ParseStrings. -/
import Derived.Test.YtnaoobgghgnflaaLStrO
import Derived.Test.YtnaoobgghgnflaaLStrD
import Derived.Test.YtnaoobgghgnflaaLStrA
namespace Go.Proofs.Ytnaoobgghgnflaa
open Go.RowKit Pl
theorem law_strings {kd : Int} {a1 : Option Addr} {l1 c1 : Nat} {z1 : List Int} {w : World} (f1 : IsRow .u8 w a1 l1 c1 z1) :
    Calls Try.prog 5 #[.int .i64 kd, .slice a1 l1 c1] w fun e w' => e = .returned (.bool true) ∧ Below w.heap.size w w' := by
  obtain ⟨k1, k2, k3, k4, k5, k6⟩ := f1.slAt
  by_cases h1 : bits BinOp.and .i64 kd 3 = 1
  · exact strings_dcs kd h1 a1 l1 c1 (z1.take l1) w k1 (bytes_in k4) k5
  · by_cases h2 : bits BinOp.and .i64 kd 3 = 2
    · exact strings_apc kd h2 a1 l1 c1 (z1.take l1) w k1 (bytes_in k4) k5
    · exact strings_osc kd _ rfl (by simp [h1]) (by simp [h2]) (by simp [h1]) (by simp [h2]) a1 l1 c1 (z1.take l1) w k1 (bytes_in k4) k5
end Go.Proofs.Ytnaoobgghgnflaa
