/- A colour without holes; a number between two. -/
import Derived.Test.YtdjgmhbfohbenaaCols
import Derived.Test.YtdjgmhbfohbenaaFillD
namespace Go.Proofs.Ytdjgmhbfohbenaa
open Go.RowKit Go.Sort Pl
set_option linter.unusedVariables false
set_option linter.unusedSimpArgs false
def rgbaV (c : Rgb) : Value := .agg #[.int .u8 c.r, .int .u8 c.g, .int .u8 c.b, .int .u8 255]
set_option maxRecDepth 100000 in
set_option maxHeartbeats 8000000 in
theorem solid_any (c : Rgb) (w : World) : Calls Try.prog 47 #[rgbV c] w fun e w' => e = .returned (rgbaV c) ∧ Kept (fun _ => False) w w' := by
  obtain ⟨r, g, b⟩ := c
  unfold rgbV rgbaV
  go_enter Try.func47, Try.ntmps47
  go_wp2
  refine bodyPost_ret (v := .agg #[.int .u8 r, .int .u8 g, .int .u8 b, .int .u8 255]) (by simp [results, Try.results47, go_sem]) rfl ⟨rfl, ?_⟩
  first
    | (repeat (first | apply Kept.alloc | apply Kept.drew)); exact Kept.refl _ _
    | skip
set_option maxRecDepth 100000 in
set_option maxHeartbeats 8000000 in
theorem full_any (c : Rgb) (w : World) : Calls Try.prog 39 #[rgbV c] w fun e w' => e = .returned (rgbaV c) ∧ Kept (fun _ => False) w w' := by
  obtain ⟨r, g, b⟩ := c
  unfold rgbV rgbaV
  go_enter Try.func39, Try.ntmps39
  go_wp2
  refine bodyPost_ret (v := .agg #[.int .u8 r, .int .u8 g, .int .u8 b, .int .u8 255]) (by simp [results, Try.results39, go_sem]) rfl ⟨rfl, ?_⟩
  first
    | (repeat (first | apply Kept.alloc | apply Kept.drew)); exact Kept.refl _ _
    | skip
set_option maxRecDepth 100000 in
set_option maxHeartbeats 8000000 in
theorem betw_any (v lo hi : Int) (w : World) : Calls Try.prog 32 #[.int .i64 v, .int .i64 lo, .int .i64 hi] w fun e w' => e = .returned (.bool (decide (lo ≤ v) && decide (v ≤ hi))) ∧ w' = w := by
  by_cases h1 : lo ≤ v
  · have g1 : decide (lo ≤ v) = true := decide_eq_true h1
    by_cases h2 : v ≤ hi
    · have g2 : decide (v ≤ hi) = true := decide_eq_true h2
      rw [g1, g2]
      go_enter Try.func32, Try.ntmps32
      go_wp2
      go_ret
      exact ⟨rfl, rfl⟩
    · have g2 : decide (v ≤ hi) = false := decide_eq_false h2
      rw [g1, g2]
      go_enter Try.func32, Try.ntmps32
      go_wp2
      go_ret
      exact ⟨rfl, rfl⟩
  · have g1 : decide (lo ≤ v) = false := decide_eq_false h1
    rw [g1]
    go_enter Try.func32, Try.ntmps32
    go_wp2
    go_ret
    exact ⟨rfl, rfl⟩
end Go.Proofs.Ytdjgmhbfohbenaa
