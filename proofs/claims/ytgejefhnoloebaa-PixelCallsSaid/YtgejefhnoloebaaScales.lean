/- PixelScales: the walk of the law. -/
import Derived.Test.YtgejefhnoloebaaKnown
namespace Go.Proofs.Ytgejefhnoloebaa
open Go.RowKit
set_option linter.unusedVariables false
theorem scaleV_le {v f t : Int} (ht : 0 ≤ t) : scaleV v f t ≤ t := by
  unfold scaleV
  split
  · exact ht
  · exact scale_le (by omega) (by omega) (by omega) ht
theorem int_of_wf {n : Int} (h : (Lit.int .i64 n).wf = true) : -9223372036854775808 ≤ n ∧ n ≤ 9223372036854775807 := by
  simp [Lit.wf, IntKind.min, IntKind.max, IntKind.signed, IntKind.bits] at h
  omega
theorem byte_of_wf {n : Int} (h : (Lit.int .u8 n).wf = true) : 0 ≤ n ∧ n ≤ 255 := by
  simp [Lit.wf, IntKind.min, IntKind.max, IntKind.signed, IntKind.bits] at h
  omega
set_option maxRecDepth 100000 in
set_option maxHeartbeats 1000000 in
theorem scales_go (v f t : Int) (w : World) (hv : -9223372036854775808 ≤ v ∧ v ≤ 9223372036854775807) (hf : -9223372036854775808 ≤ f ∧ f ≤ 9223372036854775807) (ht : -9223372036854775808 ≤ t ∧ t ≤ 9223372036854775807) :
    Calls Try.prog 4 #[.int .i64 v, .int .i64 f, .int .i64 t] w fun e w' => e = .returned (.bool true) ∧ Kept (fun _ => False) w w' := by
  have a1 := Int.emod_nonneg v (show (256 : Int) ≠ 0 by decide)
  have a2 := Int.emod_lt_of_pos v (show (0 : Int) < 256 by decide)
  have a3 := Int.emod_nonneg f (show (256 : Int) ≠ 0 by decide)
  have a4 := Int.emod_lt_of_pos f (show (0 : Int) < 256 by decide)
  have a5 := Int.emod_nonneg t (show (256 : Int) ≠ 0 by decide)
  have a6 := Int.emod_lt_of_pos t (show (0 : Int) < 256 by decide)
  have b1 := Int.emod_nonneg v (show (65536 : Int) ≠ 0 by decide)
  have b2 := Int.emod_lt_of_pos v (show (0 : Int) < 65536 by decide)
  have b3 := Int.emod_nonneg f (show (65536 : Int) ≠ 0 by decide)
  have b4 := Int.emod_lt_of_pos f (show (0 : Int) < 65536 by decide)
  have b5 := Int.emod_nonneg t (show (65536 : Int) ≠ 0 by decide)
  have b6 := Int.emod_lt_of_pos t (show (0 : Int) < 65536 by decide)
  have s1 := scaleV_bd (v := v % 65536) (f := f % 65536) (t := t % 65536)
  have s2 := scaleV_le (v := v % 65536) (f := f % 65536) (t := t % 65536) b5
  have s3 := scaleV_bd (v := v % 256) (f := f % 256) (t := t % 256)
  have s4 := scaleV_le (v := v % 256) (f := f % 256) (t := t % 256) a5
  have u1 := IntKind.wrap_u16 v
  have u2 := IntKind.wrap_u16 f
  have u3 := IntKind.wrap_u16 t
  go_enter Try.func4, Try.ntmps4
  go_wp2_with fail
  refine (known_any _).mono ?_; rintro e w0 ⟨rfl, hk0⟩
  go_wp2_with fail
  refine (scaleInt v f t _ hv hf ht).mono ?_; rintro e w' ⟨rfl, rfl⟩
  go_wp2_with fail
  refine (refScale v f t _ hv hf ht).mono ?_; rintro e w' ⟨rfl, rfl⟩
  go_wp2_with fail
  refine (refScale _ _ _ _ (by omega) (by omega) (by omega)).mono ?_; rintro e w' ⟨rfl, rfl⟩
  go_wp2_with fail
  refine (refScale _ _ _ _ (by omega) (by omega) (by omega)).mono ?_; rintro e w' ⟨rfl, rfl⟩
  go_wp2_with fail
  refine (scaleU8 _ _ _ _ (by omega) (by omega) (by omega)).mono ?_; rintro e w' ⟨rfl, rfl⟩
  go_wp2_with fail
  refine (scaleU16 _ _ _ _ (by omega) (by omega) (by omega)).mono ?_; rintro e w' ⟨rfl, rfl⟩
  go_wp2
  go_ret
  exact ⟨rfl, hk0⟩
theorem scales_any {a0 a1 a2 : Int} {w : World} (f0 : (Lit.int .i64 a0).wf = true) (f1 : (Lit.int .i64 a1).wf = true) (f2 : (Lit.int .i64 a2).wf = true) :
    Calls Try.prog 4 #[.int .i64 a0, .int .i64 a1, .int .i64 a2] w fun e w' => e = .returned (.bool true) ∧ Below w.heap.size w w' :=
  (scales_go a0 a1 a2 w (int_of_wf f0) (int_of_wf f1) (int_of_wf f2)).mono fun e w' h => ⟨h.1, h.2.below⟩
end Go.Proofs.Ytgejefhnoloebaa
