/- Colours laid over one another. -/
import Derived.Test.YtdjgmhbfohbenaaRows
import Derived.Test.YtdjgmhbfohbenaaBase
import Derived.WalkLawsBesides
namespace Go.Proofs.Ytdjgmhbfohbenaa
open Go.RowKit 
set_option linter.unusedVariables false
set_option linter.unusedSimpArgs false
/-- One channel of a colour that is laid over another one. -/
def ov (d s a : Int) : Int := (s * a + d * (255 - a) + 127) / 255
theorem ov_bd {d s a : Int} (hd : 0 ≤ d ∧ d ≤ 255) (hs : 0 ≤ s ∧ s ≤ 255) (ha : 0 ≤ a ∧ a ≤ 255) : 0 ≤ s * a ∧ 0 ≤ d * (255 - a) ∧ s * a + d * (255 - a) ≤ 65025 ∧ 0 ≤ ov d s a ∧ ov d s a ≤ 255 := by
  have h1 : 0 ≤ s * a := Int.mul_nonneg hs.1 ha.1
  have h2 : 0 ≤ d * (255 - a) := Int.mul_nonneg hd.1 (by omega)
  have h3 : s * a ≤ 255 * a := Int.mul_le_mul_of_nonneg_right hs.2 ha.1
  have h4 : d * (255 - a) ≤ 255 * (255 - a) := Int.mul_le_mul_of_nonneg_right hd.2 (by omega)
  refine ⟨h1, h2, by omega, ?_, ?_⟩ <;> unfold ov <;> omega
def col (a b c d : Int) : Value := .agg #[.int .u8 a, .int .u8 b, .int .u8 c, .int .u8 d]
set_option maxRecDepth 100000 in
set_option maxHeartbeats 1000000 in
theorem over_any (d0 d1 d2 d3 s0 s1 s2 s3 : Int) (w : World) (hd0 : 0 ≤ d0 ∧ d0 ≤ 255) (hd1 : 0 ≤ d1 ∧ d1 ≤ 255) (hd2 : 0 ≤ d2 ∧ d2 ≤ 255) (hs0 : 0 ≤ s0 ∧ s0 ≤ 255) (hs1 : 0 ≤ s1 ∧ s1 ≤ 255) (hs2 : 0 ≤ s2 ∧ s2 ≤ 255) (hs3 : 0 ≤ s3 ∧ s3 ≤ 255) :
    Calls Try.prog 27 #[col d0 d1 d2 d3, col s0 s1 s2 s3] w fun e w' => e = .returned (col (ov d0 s0 s3) (ov d1 s1 s3) (ov d2 s2 s3) 255) ∧ Kept (fun _ => False) w w' := by
  have b0 := ov_bd hd0 hs0 hs3
  have b1 := ov_bd hd1 hs1 hs3
  have b2 := ov_bd hd2 hs2 hs3
  unfold col
  go_enter Try.func27, Try.ntmps27
  go_wp2
  refine wp_loop_rounds 4 ?_
  rw [rounds_succ]
  go_wp2
  go_region
  go_wp2
  rw [rounds_succ]
  go_wp2
  go_region
  go_wp2
  rw [rounds_succ]
  go_wp2
  go_region
  go_wp2
  rw [rounds_succ]
  go_wp2
  refine bodyPost_ret (v := col (ov d0 s0 s3) (ov d1 s1 s3) (ov d2 s2 s3) 255) (by simp [results, Try.results27, go_sem, col, ov]) rfl ⟨rfl, ?_⟩
  repeat (first | apply Kept.alloc | apply Kept.drew)
  exact Kept.refl _ _
set_option maxRecDepth 100000 in
set_option maxHeartbeats 1000000 in
theorem refOver_any (d0 d1 d2 d3 s0 s1 s2 s3 : Int) (w : World) (hd0 : 0 ≤ d0 ∧ d0 ≤ 255) (hd1 : 0 ≤ d1 ∧ d1 ≤ 255) (hd2 : 0 ≤ d2 ∧ d2 ≤ 255) (hs0 : 0 ≤ s0 ∧ s0 ≤ 255) (hs1 : 0 ≤ s1 ∧ s1 ≤ 255) (hs2 : 0 ≤ s2 ∧ s2 ≤ 255) (hs3 : 0 ≤ s3 ∧ s3 ≤ 255) :
    Calls Try.prog 77 #[col d0 d1 d2 d3, col s0 s1 s2 s3] w fun e w' => e = .returned (col (ov d0 s0 s3) (ov d1 s1 s3) (ov d2 s2 s3) 255) ∧ Kept (fun _ => False) w w' := by
  have b0 := ov_bd hd0 hs0 hs3
  have b1 := ov_bd hd1 hs1 hs3
  have b2 := ov_bd hd2 hs2 hs3
  unfold col
  go_enter Try.func77, Try.ntmps77
  go_wp2
  refine wp_loop_rounds 4 ?_
  rw [rounds_succ]
  go_wp2
  go_region
  go_wp2
  rw [rounds_succ]
  go_wp2
  go_region
  go_wp2
  rw [rounds_succ]
  go_wp2
  go_region
  go_wp2
  rw [rounds_succ]
  go_wp2
  refine bodyPost_ret (v := col (ov d0 s0 s3) (ov d1 s1 s3) (ov d2 s2 s3) 255) (by simp [results, Try.results77, go_sem, col, ov]) rfl ⟨rfl, ?_⟩
  repeat (first | apply Kept.alloc | apply Kept.drew)
  exact Kept.refl _ _
end Go.Proofs.Ytdjgmhbfohbenaa
