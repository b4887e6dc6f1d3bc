/- Colours: Percent on both sides. -/
import Derived.Test.YtomcjdonacckfaaOwn
import Derived.Test.YtomcjdonacckfaaVal
import Derived.Test.YtomcjdonacckfaaRows
import Derived.StillTailTactics
import Derived.WalkLawsBesides
namespace Go.Proofs.Ytomcjdonacckfaa
open Go.RowKit
set_option linter.unusedVariables false
set_option linter.unusedSimpArgs false
def pct (v : Int) : Int := if 0 ≤ v ∧ v ≤ 100 then (v * 255 + 50) / 100 else 0
def pctOk (v : Int) : Bool := decide (0 ≤ v ∧ v ≤ 100)
theorem pct_in (v : Int) : 0 ≤ pct v ∧ pct v < 256 := by unfold pct; split <;> omega
theorem i64w {x : Int} (h : -9223372036854775808 ≤ x) (h' : x ≤ 9223372036854775807) : IntKind.i64.wrap x = x := IntWalk.i64_in _ (by omega)
set_option maxRecDepth 100000 in
theorem percent_any (v : Int) (w : World) : Calls Try.prog 13 #[.int .i64 v] w fun e w' => e = .returned (.tuple #[.int .u8 (pct v), .bool (pctOk v)]) ∧ w' = w := by
  by_cases h1 : v < 0
  · rw [show pct v = 0 from if_neg (by omega), show pctOk v = false by unfold pctOk; simp; omega]
    have g1 : decide (v < 0) = true := decide_eq_true h1
    go_enter Try.func13, Try.ntmps13
    go_wp2
    exact bodyPost_ret (v := .tuple #[.int .u8 0, .bool false]) (by simp [results, Try.results13, go_sem]) rfl ⟨rfl, rfl⟩
  have g1 : decide (v < 0) = false := decide_eq_false h1
  by_cases h2 : 100 < v
  · rw [show pct v = 0 from if_neg (by omega), show pctOk v = false by unfold pctOk; simp; omega]
    have g2 : decide (100 < v) = true := decide_eq_true h2
    go_enter Try.func13, Try.ntmps13
    go_wp2
    exact bodyPost_ret (v := .tuple #[.int .u8 0, .bool false]) (by simp [results, Try.results13, go_sem]) rfl ⟨rfl, rfl⟩
  have g2 : decide (100 < v) = false := decide_eq_false h2
  rw [show pct v = (v * 255 + 50) / 100 from if_pos (by omega), show pctOk v = true by unfold pctOk; simp; omega]
  go_enter Try.func13, Try.ntmps13
  go_wp2

  exact bodyPost_ret (v := .tuple #[.int .u8 _, .bool true]) (by simp [results, Try.results13, go_sem]) rfl ⟨rfl, rfl⟩
set_option maxRecDepth 100000 in
theorem rpercent_any (v : Int) (w : World) : Calls Try.prog 14 #[.int .i64 v] w fun e w' => e = .returned (.tuple #[.int .u8 (pct v), .bool (pctOk v)]) ∧ w' = w := by
  by_cases h1 : v < 0
  · rw [show pct v = 0 from if_neg (by omega), show pctOk v = false by unfold pctOk; simp; omega]
    have g1 : decide (v < 0) = true := decide_eq_true h1
    go_enter Try.func14, Try.ntmps14
    go_wp2
    exact bodyPost_ret (v := .tuple #[.int .u8 0, .bool false]) (by simp [results, Try.results14, go_sem]) rfl ⟨rfl, rfl⟩
  have g1 : decide (v < 0) = false := decide_eq_false h1
  by_cases h2 : 100 < v
  · rw [show pct v = 0 from if_neg (by omega), show pctOk v = false by unfold pctOk; simp; omega]
    have g2 : decide (100 < v) = true := decide_eq_true h2
    go_enter Try.func14, Try.ntmps14
    go_wp2
    exact bodyPost_ret (v := .tuple #[.int .u8 0, .bool false]) (by simp [results, Try.results14, go_sem]) rfl ⟨rfl, rfl⟩
  have g2 : decide (100 < v) = false := decide_eq_false h2
  rw [show pct v = (v * 255 + 50) / 100 from if_pos (by omega), show pctOk v = true by unfold pctOk; simp; omega]
  go_enter Try.func14, Try.ntmps14
  go_wp2

  exact bodyPost_ret (v := .tuple #[.int .u8 _, .bool true]) (by simp [results, Try.results14, go_sem]) rfl ⟨rfl, rfl⟩
end Go.Proofs.Ytomcjdonacckfaa
