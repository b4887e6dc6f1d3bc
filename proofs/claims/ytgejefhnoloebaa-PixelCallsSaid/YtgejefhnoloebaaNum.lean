/- Colours laid over one another, and numbers that are scaled: what these functions compute. -/
import Derived.Test.YtgejefhnoloebaaRows
import Derived.Test.YtgejefhnoloebaaBase
import Derived.WalkLawsBesides
namespace Go.Proofs.Ytgejefhnoloebaa
open Go.RowKit
set_option linter.unusedVariables false
/-- One channel of a colour that is laid over another one. -/
def ov (d s a : Int) : Int := (s * a + d * (255 - a) + 127) / 255
theorem ov_bd {d s a : Int} (hd : 0 ≤ d ∧ d ≤ 255) (hs : 0 ≤ s ∧ s ≤ 255) (ha : 0 ≤ a ∧ a ≤ 255) : 0 ≤ s * a ∧ 0 ≤ d * (255 - a) ∧ s * a + d * (255 - a) ≤ 65025 ∧ 0 ≤ ov d s a ∧ ov d s a ≤ 255 := by
  have h1 : 0 ≤ s * a := Int.mul_nonneg hs.1 ha.1
  have h2 : 0 ≤ d * (255 - a) := Int.mul_nonneg hd.1 (by omega)
  have h3 : s * a ≤ 255 * a := Int.mul_le_mul_of_nonneg_right hs.2 ha.1
  have h4 : d * (255 - a) ≤ 255 * (255 - a) := Int.mul_le_mul_of_nonneg_right hd.2 (by omega)
  refine ⟨h1, h2, by omega, ?_, ?_⟩ <;> unfold ov <;> omega
def col (a b c d : Int) : Value := .agg #[.int .u8 a, .int .u8 b, .int .u8 c, .int .u8 d]
set_option maxRecDepth 100000 in
set_option maxHeartbeats 1000000 in
theorem over_any (d0 d1 d2 d3 s0 s1 s2 s3 : Int) (w : World) (hd0 : 0 ≤ d0 ∧ d0 ≤ 255) (hd1 : 0 ≤ d1 ∧ d1 ≤ 255) (hd2 : 0 ≤ d2 ∧ d2 ≤ 255) (hs0 : 0 ≤ s0 ∧ s0 ≤ 255) (hs1 : 0 ≤ s1 ∧ s1 ≤ 255) (hs2 : 0 ≤ s2 ∧ s2 ≤ 255) (hs3 : 0 ≤ s3 ∧ s3 ≤ 255) :
    Calls Try.prog 11 #[col d0 d1 d2 d3, col s0 s1 s2 s3] w fun e w' => e = .returned (col (ov d0 s0 s3) (ov d1 s1 s3) (ov d2 s2 s3) 255) ∧ Kept (fun _ => False) w w' := by
  have b0 := ov_bd hd0 hs0 hs3
  have b1 := ov_bd hd1 hs1 hs3
  have b2 := ov_bd hd2 hs2 hs3
  unfold col
  go_enter Try.func11, Try.ntmps11
  go_wp2
  refine wp_loop_rounds 4 ?_
  rw [rounds_succ]
  go_wp2
  go_region
  go_wp2
  rw [rounds_succ]
  go_wp2
  go_region
  go_wp2
  rw [rounds_succ]
  go_wp2
  go_region
  go_wp2
  rw [rounds_succ]
  go_wp2
  refine bodyPost_ret (v := col (ov d0 s0 s3) (ov d1 s1 s3) (ov d2 s2 s3) 255) (by simp [results, Try.results11, go_sem, col, ov]) rfl ⟨rfl, ?_⟩
  repeat (first | apply Kept.alloc | apply Kept.drew)
  exact Kept.refl _ _
set_option maxRecDepth 100000 in
set_option maxHeartbeats 1000000 in
theorem refOver_any (d0 d1 d2 d3 s0 s1 s2 s3 : Int) (w : World) (hd0 : 0 ≤ d0 ∧ d0 ≤ 255) (hd1 : 0 ≤ d1 ∧ d1 ≤ 255) (hd2 : 0 ≤ d2 ∧ d2 ≤ 255) (hs0 : 0 ≤ s0 ∧ s0 ≤ 255) (hs1 : 0 ≤ s1 ∧ s1 ≤ 255) (hs2 : 0 ≤ s2 ∧ s2 ≤ 255) (hs3 : 0 ≤ s3 ∧ s3 ≤ 255) :
    Calls Try.prog 12 #[col d0 d1 d2 d3, col s0 s1 s2 s3] w fun e w' => e = .returned (col (ov d0 s0 s3) (ov d1 s1 s3) (ov d2 s2 s3) 255) ∧ Kept (fun _ => False) w w' := by
  have b0 := ov_bd hd0 hs0 hs3
  have b1 := ov_bd hd1 hs1 hs3
  have b2 := ov_bd hd2 hs2 hs3
  unfold col
  go_enter Try.func12, Try.ntmps12
  go_wp2
  refine wp_loop_rounds 4 ?_
  rw [rounds_succ]
  go_wp2
  go_region
  go_wp2
  rw [rounds_succ]
  go_wp2
  go_region
  go_wp2
  rw [rounds_succ]
  go_wp2
  go_region
  go_wp2
  rw [rounds_succ]
  go_wp2
  refine bodyPost_ret (v := col (ov d0 s0 s3) (ov d1 s1 s3) (ov d2 s2 s3) 255) (by simp [results, Try.results12, go_sem, col, ov]) rfl ⟨rfl, ?_⟩
  repeat (first | apply Kept.alloc | apply Kept.drew)
  exact Kept.refl _ _
/-- A number that is scaled. -/
def scaleV (v f t : Int) : Int := if f < 1 ∨ v < 0 ∨ v > f ∨ t < 0 ∨ (0 < v ∧ t > 1073741824 / v) then 0 else (v * t + f / 2) / f
theorem scaleV_0 {v f t : Int} (h : f < 1 ∨ v < 0 ∨ v > f ∨ t < 0 ∨ (0 < v ∧ t > 1073741824 / v)) : scaleV v f t = 0 := if_pos h
theorem scale_bd {v f t : Int} (h0 : 0 ≤ v) (hv : v ≤ f) (ht : 0 ≤ t) (h : 0 < v → t ≤ 1073741824 / v) : 0 ≤ v * t ∧ v * t ≤ 1073741824 := by
  refine ⟨Int.mul_nonneg h0 ht, ?_⟩
  by_cases hv0 : v = 0
  · subst hv0; simp
  · have h1 := h (by omega)
    have h2 := Int.mul_le_mul_of_nonneg_left h1 h0
    have h3 := Int.mul_ediv_self_le (x := 1073741824) (k := v) (by omega)
    omega
theorem scale_le {v f t : Int} (hf : 1 ≤ f) (h0 : 0 ≤ v) (hv : v ≤ f) (ht : 0 ≤ t) : (v * t + f / 2) / f ≤ t := by
  have h1 : v * t ≤ f * t := Int.mul_le_mul_of_nonneg_right hv ht
  have h2 : v * t + f / 2 < (t + 1) * f := by rw [Int.add_mul, Int.mul_comm t f]; omega
  have h3 := Int.ediv_lt_of_lt_mul (show 0 < f by omega) h2
  omega
theorem scaleV_bd {v f t : Int} : 0 ≤ scaleV v f t := by
  unfold scaleV
  split
  · omega
  · have h0 : 0 ≤ v * t := Int.mul_nonneg (by omega) (by omega)
    exact Int.ediv_nonneg (by omega) (by omega)
set_option maxRecDepth 100000 in
set_option maxHeartbeats 1000000 in
theorem scaleInt (v f t : Int) (w : World) (hv : -9223372036854775808 ≤ v ∧ v ≤ 9223372036854775807) (hf : -9223372036854775808 ≤ f ∧ f ≤ 9223372036854775807) (ht : -9223372036854775808 ≤ t ∧ t ≤ 9223372036854775807) :
    Calls Try.prog 13 #[.int .i64 v, .int .i64 f, .int .i64 t] w fun e w' => e = .returned (.int .i64 (scaleV v f t)) ∧ w = w' := by
  by_cases h : f < 1 ∨ v < 0 ∨ v > f ∨ t < 0 ∨ (0 < v ∧ t > 1073741824 / v)
  · rw [scaleV_0 h]
    by_cases h1 : f < 1
    · go_enter Try.func13, Try.ntmps13
      go_wp2
      go_ret
      exact ⟨rfl, rfl⟩
    by_cases h2 : v < 0
    · go_enter Try.func13, Try.ntmps13
      go_wp2
      go_ret
      exact ⟨rfl, rfl⟩
    by_cases h3 : v > f
    · go_enter Try.func13, Try.ntmps13
      go_wp2
      go_ret
      exact ⟨rfl, rfl⟩
    by_cases h4 : t < 0
    · go_enter Try.func13, Try.ntmps13
      go_wp2
      go_ret
      exact ⟨rfl, rfl⟩
    obtain ⟨h5, h6⟩ : 0 < v ∧ 1073741824 / v < t := by omega
    clear h
    have h5' : v ≠ 0 := by omega
    go_enter Try.func13, Try.ntmps13
    go_wp2
    go_ret
    exact ⟨rfl, rfl⟩
  · have e : scaleV v f t = (v * t + f / 2) / f := if_neg h
    rw [e]
    have hf1 : 1 ≤ f := by omega
    have hv1 : 0 ≤ v := by omega
    have hv2 : v ≤ f := by omega
    have ht1 : 0 ≤ t := by omega
    have hb := scale_bd hv1 hv2 ht1 (fun h0 => by omega)
    have hq : 0 ≤ (v * t + f / 2) / f := Int.ediv_nonneg (by omega) (by omega)
    have hq2 : (v * t + f / 2) / f ≤ v * t + f / 2 := Int.ediv_le_self _ (by omega)
    have h6 : ¬ 0 < v ∨ (0 < v ∧ t ≤ 1073741824 / v) := by omega
    clear h e
    rcases h6 with h6 | ⟨h6, h7⟩
    · go_enter Try.func13, Try.ntmps13
      go_wp2
      go_ret
      exact ⟨rfl, rfl⟩
    · have h5' : v ≠ 0 := by omega
      go_enter Try.func13, Try.ntmps13
      go_wp2
      go_ret
      exact ⟨rfl, rfl⟩
set_option maxRecDepth 100000 in
set_option maxHeartbeats 1000000 in
theorem refScale (v f t : Int) (w : World) (hv : -9223372036854775808 ≤ v ∧ v ≤ 9223372036854775807) (hf : -9223372036854775808 ≤ f ∧ f ≤ 9223372036854775807) (ht : -9223372036854775808 ≤ t ∧ t ≤ 9223372036854775807) :
    Calls Try.prog 14 #[.int .i64 v, .int .i64 f, .int .i64 t] w fun e w' => e = .returned (.int .i64 (scaleV v f t)) ∧ w = w' := by
  by_cases h : f < 1 ∨ v < 0 ∨ v > f ∨ t < 0 ∨ (0 < v ∧ t > 1073741824 / v)
  · rw [scaleV_0 h]
    by_cases h1 : f < 1
    · go_enter Try.func14, Try.ntmps14
      go_wp2
      go_ret
      exact ⟨rfl, rfl⟩
    by_cases h2 : v < 0
    · go_enter Try.func14, Try.ntmps14
      go_wp2
      go_ret
      exact ⟨rfl, rfl⟩
    by_cases h3 : v > f
    · go_enter Try.func14, Try.ntmps14
      go_wp2
      go_ret
      exact ⟨rfl, rfl⟩
    by_cases h4 : t < 0
    · go_enter Try.func14, Try.ntmps14
      go_wp2
      go_ret
      exact ⟨rfl, rfl⟩
    obtain ⟨h5, h6⟩ : 0 < v ∧ 1073741824 / v < t := by omega
    clear h
    have h5' : v ≠ 0 := by omega
    go_enter Try.func14, Try.ntmps14
    go_wp2
    go_ret
    exact ⟨rfl, rfl⟩
  · have e : scaleV v f t = (v * t + f / 2) / f := if_neg h
    rw [e]
    have hf1 : 1 ≤ f := by omega
    have hv1 : 0 ≤ v := by omega
    have hv2 : v ≤ f := by omega
    have ht1 : 0 ≤ t := by omega
    have hb := scale_bd hv1 hv2 ht1 (fun h0 => by omega)
    have hq : 0 ≤ (v * t + f / 2) / f := Int.ediv_nonneg (by omega) (by omega)
    have hq2 : (v * t + f / 2) / f ≤ v * t + f / 2 := Int.ediv_le_self _ (by omega)
    have h6 : ¬ 0 < v ∨ (0 < v ∧ t ≤ 1073741824 / v) := by omega
    clear h e
    rcases h6 with h6 | ⟨h6, h7⟩
    · go_enter Try.func14, Try.ntmps14
      go_wp2
      go_ret
      exact ⟨rfl, rfl⟩
    · have h5' : v ≠ 0 := by omega
      go_enter Try.func14, Try.ntmps14
      go_wp2
      go_ret
      exact ⟨rfl, rfl⟩
set_option maxRecDepth 100000 in
set_option maxHeartbeats 1000000 in
theorem scaleU8 (v f t : Int) (w : World) (hv : 0 ≤ v ∧ v ≤ 255) (hf : 0 ≤ f ∧ f ≤ 255) (ht : 0 ≤ t ∧ t ≤ 255) :
    Calls Try.prog 15 #[.int .u8 v, .int .u8 f, .int .u8 t] w fun e w' => e = .returned (.int .u8 (scaleV v f t)) ∧ w = w' := by
  by_cases h : f < 1 ∨ v < 0 ∨ v > f ∨ t < 0 ∨ (0 < v ∧ t > 1073741824 / v)
  · rw [scaleV_0 h]
    by_cases h1 : f < 1
    · go_enter Try.func15, Try.ntmps15
      go_wp2
      go_ret
      exact ⟨rfl, rfl⟩
    by_cases h2 : v < 0
    · go_enter Try.func15, Try.ntmps15
      go_wp2
      go_ret
      exact ⟨rfl, rfl⟩
    by_cases h3 : v > f
    · go_enter Try.func15, Try.ntmps15
      go_wp2
      go_ret
      exact ⟨rfl, rfl⟩
    by_cases h4 : t < 0
    · go_enter Try.func15, Try.ntmps15
      go_wp2
      go_ret
      exact ⟨rfl, rfl⟩
    obtain ⟨h5, h6⟩ : 0 < v ∧ 1073741824 / v < t := by omega
    clear h
    have h5' : v ≠ 0 := by omega
    go_enter Try.func15, Try.ntmps15
    go_wp2
    go_ret
    exact ⟨rfl, rfl⟩
  · have e : scaleV v f t = (v * t + f / 2) / f := if_neg h
    rw [e]
    have hf1 : 1 ≤ f := by omega
    have hv1 : 0 ≤ v := by omega
    have hv2 : v ≤ f := by omega
    have ht1 : 0 ≤ t := by omega
    have hb := scale_bd hv1 hv2 ht1 (fun h0 => by omega)
    have hq : 0 ≤ (v * t + f / 2) / f := Int.ediv_nonneg (by omega) (by omega)
    have hq3 := scale_le hf1 hv1 hv2 ht1
    have hq2 : (v * t + f / 2) / f ≤ v * t + f / 2 := Int.ediv_le_self _ (by omega)
    have h6 : ¬ 0 < v ∨ (0 < v ∧ t ≤ 1073741824 / v) := by omega
    clear h e
    rcases h6 with h6 | ⟨h6, h7⟩
    · go_enter Try.func15, Try.ntmps15
      go_wp2
      go_ret
      exact ⟨rfl, rfl⟩
    · have h5' : v ≠ 0 := by omega
      go_enter Try.func15, Try.ntmps15
      go_wp2
      go_ret
      exact ⟨rfl, rfl⟩
set_option maxRecDepth 100000 in
set_option maxHeartbeats 1000000 in
theorem scaleU16 (v f t : Int) (w : World) (hv : 0 ≤ v ∧ v ≤ 65535) (hf : 0 ≤ f ∧ f ≤ 65535) (ht : 0 ≤ t ∧ t ≤ 65535) :
    Calls Try.prog 16 #[.int .u16 v, .int .u16 f, .int .u16 t] w fun e w' => e = .returned (.int .u16 (scaleV v f t)) ∧ w = w' := by
  by_cases h : f < 1 ∨ v < 0 ∨ v > f ∨ t < 0 ∨ (0 < v ∧ t > 1073741824 / v)
  · rw [scaleV_0 h]
    by_cases h1 : f < 1
    · go_enter Try.func16, Try.ntmps16
      go_wp2
      go_ret
      exact ⟨rfl, rfl⟩
    by_cases h2 : v < 0
    · go_enter Try.func16, Try.ntmps16
      go_wp2
      go_ret
      exact ⟨rfl, rfl⟩
    by_cases h3 : v > f
    · go_enter Try.func16, Try.ntmps16
      go_wp2
      go_ret
      exact ⟨rfl, rfl⟩
    by_cases h4 : t < 0
    · go_enter Try.func16, Try.ntmps16
      go_wp2
      go_ret
      exact ⟨rfl, rfl⟩
    obtain ⟨h5, h6⟩ : 0 < v ∧ 1073741824 / v < t := by omega
    clear h
    have h5' : v ≠ 0 := by omega
    go_enter Try.func16, Try.ntmps16
    go_wp2
    go_ret
    exact ⟨rfl, rfl⟩
  · have e : scaleV v f t = (v * t + f / 2) / f := if_neg h
    rw [e]
    have hf1 : 1 ≤ f := by omega
    have hv1 : 0 ≤ v := by omega
    have hv2 : v ≤ f := by omega
    have ht1 : 0 ≤ t := by omega
    have hb := scale_bd hv1 hv2 ht1 (fun h0 => by omega)
    have hq : 0 ≤ (v * t + f / 2) / f := Int.ediv_nonneg (by omega) (by omega)
    have hq3 := scale_le hf1 hv1 hv2 ht1
    have hq2 : (v * t + f / 2) / f ≤ v * t + f / 2 := Int.ediv_le_self _ (by omega)
    have h6 : ¬ 0 < v ∨ (0 < v ∧ t ≤ 1073741824 / v) := by omega
    clear h e
    rcases h6 with h6 | ⟨h6, h7⟩
    · go_enter Try.func16, Try.ntmps16
      go_wp2
      go_ret
      exact ⟨rfl, rfl⟩
    · have h5' : v ≠ 0 := by omega
      go_enter Try.func16, Try.ntmps16
      go_wp2
      go_ret
      exact ⟨rfl, rfl⟩
end Go.Proofs.Ytgejefhnoloebaa
