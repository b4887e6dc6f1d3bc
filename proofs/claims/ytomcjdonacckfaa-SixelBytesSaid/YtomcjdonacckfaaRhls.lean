/- A colour by its hue, lightness, saturation: the document's. -/
import Derived.Test.YtomcjdonacckfaaHuev
namespace Go.Proofs.Ytomcjdonacckfaa
open Go.RowKit
set_option linter.unusedVariables false
set_option linter.unusedSimpArgs false
set_option maxRecDepth 100000 in
set_option maxHeartbeats 4000000 in
theorem rhls_0 (h l s T A B c x m : Int) (w : World) (h1 : 0 ≤ h ∧ h ≤ 360) (h2 : 0 ≤ l ∧ l ≤ 100) (h3 : 0 ≤ s ∧ s ≤ 100) (hT : (h + 240) % 360 = T) (hq : T / 60 = 0)
    (hA : (if 2 * l - 100 < 100 - 2 * l then 100 - 2 * l else 2 * l - 100) = A) (hB : 60 - T % 120 = B) (hc : (100 - A) * s = c) (hx : c * (60 - B) / 60 = x) (hm : 100 * l - c / 2 = m) :
    Calls Try.prog 12 #[.int .i64 h, .int .i64 l, .int .i64 s] w fun e w' => e = .returned (.tuple #[tri (hv c m) (hv x m) (hv 0 m), .bool true]) ∧ Kept (fun _ => False) w w' := by
  have hT0 : 0 ≤ T ∧ T < 360 := by omega
  have hA0 : 0 ≤ A ∧ A ≤ 100 ∧ 100 - A ≤ 2 * l ∧ 100 - A ≤ 200 - 2 * l := by rw [← hA]; split <;> omega
  have hB0 : 0 ≤ B ∧ B ≤ 60 := by omega
  have hc1 : 0 ≤ (100 - A) * s := Int.mul_nonneg (by omega) (by omega)
  have hc2 : (100 - A) * s ≤ (100 - A) * 100 := Int.mul_le_mul_of_nonneg_left (by omega) (by omega)
  rw [hc] at hc1 hc2
  have hx1 : 0 ≤ c * (60 - B) := Int.mul_nonneg (by omega) (by omega)
  have hx2 : c * (60 - B) ≤ c * 60 := Int.mul_le_mul_of_nonneg_left (by omega) (by omega)
  obtain ⟨y, hy⟩ : ∃ y, c * (60 - B) = y := ⟨_, rfl⟩
  rw [hy] at hx hx1 hx2
  have hx0 : 0 ≤ x ∧ x ≤ c := by omega
  have hm0 : 0 ≤ m ∧ c + m ≤ 10000 ∧ m ≤ 10000 := by omega
  have hAh := Lib.hid hA0
  clear hA0
  have g1 : decide (h < 0) = false := decide_eq_false (by omega)
  have g2 : decide (360 < h) = false := decide_eq_false (by omega)
  have g3 : decide (l < 0) = false := decide_eq_false (by omega)
  have g4 : decide (100 < l) = false := decide_eq_false (by omega)
  have g5 : decide (s < 0) = false := decide_eq_false (by omega)
  have g6 : decide (100 < s) = false := decide_eq_false (by omega)
  go_enter Try.func12, Try.ntmps12
  have hP : (2 * l - 100 < 0 ∧ -(2 * l - 100) = A ∧ A < 9223372036854775807) ∨ (0 ≤ 2 * l - 100 ∧ 2 * l - 100 = A) := by
    have h := hAh.out
    split at hA <;> omega
  have hQ : (T % 120 - 60 < 0 ∧ -(T % 120 - 60) = B ∧ B < 9223372036854775807) ∨ (0 ≤ T % 120 - 60 ∧ T % 120 - 60 = B) := by omega
  have HP := Lib.hid hP
  have HQ := Lib.hid hQ
  clear hP hQ
  go_wp2_with fail
  refine (size_any _ A _ HP.out).mono ?_; rintro e w1 ⟨rfl, rfl⟩
  go_wp2_with fail
  refine (size_any _ B _ HQ.out).mono ?_; rintro e w1 ⟨rfl, rfl⟩
  go_wp2
  refine wp_loop_rounds 4 ?_
  rw [rounds_succ]
  go_wp2
  rw [rounds_succ]
  go_wp2
  rw [rounds_succ]
  go_wp2
  rw [rounds_succ]
  go_wp2
  refine bodyPost_ret (v := .tuple #[tri (hv c m) (hv x m) (hv 0 m), .bool true]) (by simp [results, Try.results12, go_sem, tri, hv]) rfl ⟨rfl, ?_⟩
  exact Kept.alloc (Kept.alloc (Kept.alloc (Kept.refl _ _) _) _) _

set_option maxRecDepth 100000 in
set_option maxHeartbeats 4000000 in
theorem rhls_1 (h l s T A B c x m : Int) (w : World) (h1 : 0 ≤ h ∧ h ≤ 360) (h2 : 0 ≤ l ∧ l ≤ 100) (h3 : 0 ≤ s ∧ s ≤ 100) (hT : (h + 240) % 360 = T) (hq : T / 60 = 1)
    (hA : (if 2 * l - 100 < 100 - 2 * l then 100 - 2 * l else 2 * l - 100) = A) (hB : T % 120 - 60 = B) (hc : (100 - A) * s = c) (hx : c * (60 - B) / 60 = x) (hm : 100 * l - c / 2 = m) :
    Calls Try.prog 12 #[.int .i64 h, .int .i64 l, .int .i64 s] w fun e w' => e = .returned (.tuple #[tri (hv x m) (hv c m) (hv 0 m), .bool true]) ∧ Kept (fun _ => False) w w' := by
  have hT0 : 0 ≤ T ∧ T < 360 := by omega
  have hA0 : 0 ≤ A ∧ A ≤ 100 ∧ 100 - A ≤ 2 * l ∧ 100 - A ≤ 200 - 2 * l := by rw [← hA]; split <;> omega
  have hB0 : 0 ≤ B ∧ B ≤ 60 := by omega
  have hc1 : 0 ≤ (100 - A) * s := Int.mul_nonneg (by omega) (by omega)
  have hc2 : (100 - A) * s ≤ (100 - A) * 100 := Int.mul_le_mul_of_nonneg_left (by omega) (by omega)
  rw [hc] at hc1 hc2
  have hx1 : 0 ≤ c * (60 - B) := Int.mul_nonneg (by omega) (by omega)
  have hx2 : c * (60 - B) ≤ c * 60 := Int.mul_le_mul_of_nonneg_left (by omega) (by omega)
  obtain ⟨y, hy⟩ : ∃ y, c * (60 - B) = y := ⟨_, rfl⟩
  rw [hy] at hx hx1 hx2
  have hx0 : 0 ≤ x ∧ x ≤ c := by omega
  have hm0 : 0 ≤ m ∧ c + m ≤ 10000 ∧ m ≤ 10000 := by omega
  have hAh := Lib.hid hA0
  clear hA0
  have g1 : decide (h < 0) = false := decide_eq_false (by omega)
  have g2 : decide (360 < h) = false := decide_eq_false (by omega)
  have g3 : decide (l < 0) = false := decide_eq_false (by omega)
  have g4 : decide (100 < l) = false := decide_eq_false (by omega)
  have g5 : decide (s < 0) = false := decide_eq_false (by omega)
  have g6 : decide (100 < s) = false := decide_eq_false (by omega)
  go_enter Try.func12, Try.ntmps12
  have hP : (2 * l - 100 < 0 ∧ -(2 * l - 100) = A ∧ A < 9223372036854775807) ∨ (0 ≤ 2 * l - 100 ∧ 2 * l - 100 = A) := by
    have h := hAh.out
    split at hA <;> omega
  have hQ : (T % 120 - 60 < 0 ∧ -(T % 120 - 60) = B ∧ B < 9223372036854775807) ∨ (0 ≤ T % 120 - 60 ∧ T % 120 - 60 = B) := by omega
  have HP := Lib.hid hP
  have HQ := Lib.hid hQ
  clear hP hQ
  go_wp2_with fail
  refine (size_any _ A _ HP.out).mono ?_; rintro e w1 ⟨rfl, rfl⟩
  go_wp2_with fail
  refine (size_any _ B _ (.inr ⟨hB0.1, rfl⟩)).mono ?_; rintro e w1 ⟨rfl, rfl⟩
  go_wp2
  refine wp_loop_rounds 4 ?_
  rw [rounds_succ]
  go_wp2
  rw [rounds_succ]
  go_wp2
  rw [rounds_succ]
  go_wp2
  rw [rounds_succ]
  go_wp2
  refine bodyPost_ret (v := .tuple #[tri (hv x m) (hv c m) (hv 0 m), .bool true]) (by simp [results, Try.results12, go_sem, tri, hv]) rfl ⟨rfl, ?_⟩
  exact Kept.alloc (Kept.alloc (Kept.alloc (Kept.refl _ _) _) _) _

set_option maxRecDepth 100000 in
set_option maxHeartbeats 4000000 in
theorem rhls_2 (h l s T A B c x m : Int) (w : World) (h1 : 0 ≤ h ∧ h ≤ 360) (h2 : 0 ≤ l ∧ l ≤ 100) (h3 : 0 ≤ s ∧ s ≤ 100) (hT : (h + 240) % 360 = T) (hq : T / 60 = 2)
    (hA : (if 2 * l - 100 < 100 - 2 * l then 100 - 2 * l else 2 * l - 100) = A) (hB : 60 - T % 120 = B) (hc : (100 - A) * s = c) (hx : c * (60 - B) / 60 = x) (hm : 100 * l - c / 2 = m) :
    Calls Try.prog 12 #[.int .i64 h, .int .i64 l, .int .i64 s] w fun e w' => e = .returned (.tuple #[tri (hv 0 m) (hv c m) (hv x m), .bool true]) ∧ Kept (fun _ => False) w w' := by
  have hT0 : 0 ≤ T ∧ T < 360 := by omega
  have hA0 : 0 ≤ A ∧ A ≤ 100 ∧ 100 - A ≤ 2 * l ∧ 100 - A ≤ 200 - 2 * l := by rw [← hA]; split <;> omega
  have hB0 : 0 ≤ B ∧ B ≤ 60 := by omega
  have hc1 : 0 ≤ (100 - A) * s := Int.mul_nonneg (by omega) (by omega)
  have hc2 : (100 - A) * s ≤ (100 - A) * 100 := Int.mul_le_mul_of_nonneg_left (by omega) (by omega)
  rw [hc] at hc1 hc2
  have hx1 : 0 ≤ c * (60 - B) := Int.mul_nonneg (by omega) (by omega)
  have hx2 : c * (60 - B) ≤ c * 60 := Int.mul_le_mul_of_nonneg_left (by omega) (by omega)
  obtain ⟨y, hy⟩ : ∃ y, c * (60 - B) = y := ⟨_, rfl⟩
  rw [hy] at hx hx1 hx2
  have hx0 : 0 ≤ x ∧ x ≤ c := by omega
  have hm0 : 0 ≤ m ∧ c + m ≤ 10000 ∧ m ≤ 10000 := by omega
  have hAh := Lib.hid hA0
  clear hA0
  have g1 : decide (h < 0) = false := decide_eq_false (by omega)
  have g2 : decide (360 < h) = false := decide_eq_false (by omega)
  have g3 : decide (l < 0) = false := decide_eq_false (by omega)
  have g4 : decide (100 < l) = false := decide_eq_false (by omega)
  have g5 : decide (s < 0) = false := decide_eq_false (by omega)
  have g6 : decide (100 < s) = false := decide_eq_false (by omega)
  go_enter Try.func12, Try.ntmps12
  have hP : (2 * l - 100 < 0 ∧ -(2 * l - 100) = A ∧ A < 9223372036854775807) ∨ (0 ≤ 2 * l - 100 ∧ 2 * l - 100 = A) := by
    have h := hAh.out
    split at hA <;> omega
  have hQ : (T % 120 - 60 < 0 ∧ -(T % 120 - 60) = B ∧ B < 9223372036854775807) ∨ (0 ≤ T % 120 - 60 ∧ T % 120 - 60 = B) := by omega
  have HP := Lib.hid hP
  have HQ := Lib.hid hQ
  clear hP hQ
  go_wp2_with fail
  refine (size_any _ A _ HP.out).mono ?_; rintro e w1 ⟨rfl, rfl⟩
  go_wp2_with fail
  refine (size_any _ B _ HQ.out).mono ?_; rintro e w1 ⟨rfl, rfl⟩
  go_wp2
  refine wp_loop_rounds 4 ?_
  rw [rounds_succ]
  go_wp2
  rw [rounds_succ]
  go_wp2
  rw [rounds_succ]
  go_wp2
  rw [rounds_succ]
  go_wp2
  refine bodyPost_ret (v := .tuple #[tri (hv 0 m) (hv c m) (hv x m), .bool true]) (by simp [results, Try.results12, go_sem, tri, hv]) rfl ⟨rfl, ?_⟩
  exact Kept.alloc (Kept.alloc (Kept.alloc (Kept.refl _ _) _) _) _

set_option maxRecDepth 100000 in
set_option maxHeartbeats 4000000 in
theorem rhls_3 (h l s T A B c x m : Int) (w : World) (h1 : 0 ≤ h ∧ h ≤ 360) (h2 : 0 ≤ l ∧ l ≤ 100) (h3 : 0 ≤ s ∧ s ≤ 100) (hT : (h + 240) % 360 = T) (hq : T / 60 = 3)
    (hA : (if 2 * l - 100 < 100 - 2 * l then 100 - 2 * l else 2 * l - 100) = A) (hB : T % 120 - 60 = B) (hc : (100 - A) * s = c) (hx : c * (60 - B) / 60 = x) (hm : 100 * l - c / 2 = m) :
    Calls Try.prog 12 #[.int .i64 h, .int .i64 l, .int .i64 s] w fun e w' => e = .returned (.tuple #[tri (hv 0 m) (hv x m) (hv c m), .bool true]) ∧ Kept (fun _ => False) w w' := by
  have hT0 : 0 ≤ T ∧ T < 360 := by omega
  have hA0 : 0 ≤ A ∧ A ≤ 100 ∧ 100 - A ≤ 2 * l ∧ 100 - A ≤ 200 - 2 * l := by rw [← hA]; split <;> omega
  have hB0 : 0 ≤ B ∧ B ≤ 60 := by omega
  have hc1 : 0 ≤ (100 - A) * s := Int.mul_nonneg (by omega) (by omega)
  have hc2 : (100 - A) * s ≤ (100 - A) * 100 := Int.mul_le_mul_of_nonneg_left (by omega) (by omega)
  rw [hc] at hc1 hc2
  have hx1 : 0 ≤ c * (60 - B) := Int.mul_nonneg (by omega) (by omega)
  have hx2 : c * (60 - B) ≤ c * 60 := Int.mul_le_mul_of_nonneg_left (by omega) (by omega)
  obtain ⟨y, hy⟩ : ∃ y, c * (60 - B) = y := ⟨_, rfl⟩
  rw [hy] at hx hx1 hx2
  have hx0 : 0 ≤ x ∧ x ≤ c := by omega
  have hm0 : 0 ≤ m ∧ c + m ≤ 10000 ∧ m ≤ 10000 := by omega
  have hAh := Lib.hid hA0
  clear hA0
  have g1 : decide (h < 0) = false := decide_eq_false (by omega)
  have g2 : decide (360 < h) = false := decide_eq_false (by omega)
  have g3 : decide (l < 0) = false := decide_eq_false (by omega)
  have g4 : decide (100 < l) = false := decide_eq_false (by omega)
  have g5 : decide (s < 0) = false := decide_eq_false (by omega)
  have g6 : decide (100 < s) = false := decide_eq_false (by omega)
  go_enter Try.func12, Try.ntmps12
  have hP : (2 * l - 100 < 0 ∧ -(2 * l - 100) = A ∧ A < 9223372036854775807) ∨ (0 ≤ 2 * l - 100 ∧ 2 * l - 100 = A) := by
    have h := hAh.out
    split at hA <;> omega
  have hQ : (T % 120 - 60 < 0 ∧ -(T % 120 - 60) = B ∧ B < 9223372036854775807) ∨ (0 ≤ T % 120 - 60 ∧ T % 120 - 60 = B) := by omega
  have HP := Lib.hid hP
  have HQ := Lib.hid hQ
  clear hP hQ
  go_wp2_with fail
  refine (size_any _ A _ HP.out).mono ?_; rintro e w1 ⟨rfl, rfl⟩
  go_wp2_with fail
  refine (size_any _ B _ (.inr ⟨hB0.1, rfl⟩)).mono ?_; rintro e w1 ⟨rfl, rfl⟩
  go_wp2
  refine wp_loop_rounds 4 ?_
  rw [rounds_succ]
  go_wp2
  rw [rounds_succ]
  go_wp2
  rw [rounds_succ]
  go_wp2
  rw [rounds_succ]
  go_wp2
  refine bodyPost_ret (v := .tuple #[tri (hv 0 m) (hv x m) (hv c m), .bool true]) (by simp [results, Try.results12, go_sem, tri, hv]) rfl ⟨rfl, ?_⟩
  exact Kept.alloc (Kept.alloc (Kept.alloc (Kept.refl _ _) _) _) _

set_option maxRecDepth 100000 in
set_option maxHeartbeats 4000000 in
theorem rhls_4 (h l s T A B c x m : Int) (w : World) (h1 : 0 ≤ h ∧ h ≤ 360) (h2 : 0 ≤ l ∧ l ≤ 100) (h3 : 0 ≤ s ∧ s ≤ 100) (hT : (h + 240) % 360 = T) (hq : T / 60 = 4)
    (hA : (if 2 * l - 100 < 100 - 2 * l then 100 - 2 * l else 2 * l - 100) = A) (hB : 60 - T % 120 = B) (hc : (100 - A) * s = c) (hx : c * (60 - B) / 60 = x) (hm : 100 * l - c / 2 = m) :
    Calls Try.prog 12 #[.int .i64 h, .int .i64 l, .int .i64 s] w fun e w' => e = .returned (.tuple #[tri (hv x m) (hv 0 m) (hv c m), .bool true]) ∧ Kept (fun _ => False) w w' := by
  have hT0 : 0 ≤ T ∧ T < 360 := by omega
  have hA0 : 0 ≤ A ∧ A ≤ 100 ∧ 100 - A ≤ 2 * l ∧ 100 - A ≤ 200 - 2 * l := by rw [← hA]; split <;> omega
  have hB0 : 0 ≤ B ∧ B ≤ 60 := by omega
  have hc1 : 0 ≤ (100 - A) * s := Int.mul_nonneg (by omega) (by omega)
  have hc2 : (100 - A) * s ≤ (100 - A) * 100 := Int.mul_le_mul_of_nonneg_left (by omega) (by omega)
  rw [hc] at hc1 hc2
  have hx1 : 0 ≤ c * (60 - B) := Int.mul_nonneg (by omega) (by omega)
  have hx2 : c * (60 - B) ≤ c * 60 := Int.mul_le_mul_of_nonneg_left (by omega) (by omega)
  obtain ⟨y, hy⟩ : ∃ y, c * (60 - B) = y := ⟨_, rfl⟩
  rw [hy] at hx hx1 hx2
  have hx0 : 0 ≤ x ∧ x ≤ c := by omega
  have hm0 : 0 ≤ m ∧ c + m ≤ 10000 ∧ m ≤ 10000 := by omega
  have hAh := Lib.hid hA0
  clear hA0
  have g1 : decide (h < 0) = false := decide_eq_false (by omega)
  have g2 : decide (360 < h) = false := decide_eq_false (by omega)
  have g3 : decide (l < 0) = false := decide_eq_false (by omega)
  have g4 : decide (100 < l) = false := decide_eq_false (by omega)
  have g5 : decide (s < 0) = false := decide_eq_false (by omega)
  have g6 : decide (100 < s) = false := decide_eq_false (by omega)
  go_enter Try.func12, Try.ntmps12
  have hP : (2 * l - 100 < 0 ∧ -(2 * l - 100) = A ∧ A < 9223372036854775807) ∨ (0 ≤ 2 * l - 100 ∧ 2 * l - 100 = A) := by
    have h := hAh.out
    split at hA <;> omega
  have hQ : (T % 120 - 60 < 0 ∧ -(T % 120 - 60) = B ∧ B < 9223372036854775807) ∨ (0 ≤ T % 120 - 60 ∧ T % 120 - 60 = B) := by omega
  have HP := Lib.hid hP
  have HQ := Lib.hid hQ
  clear hP hQ
  go_wp2_with fail
  refine (size_any _ A _ HP.out).mono ?_; rintro e w1 ⟨rfl, rfl⟩
  go_wp2_with fail
  refine (size_any _ B _ HQ.out).mono ?_; rintro e w1 ⟨rfl, rfl⟩
  go_wp2
  refine wp_loop_rounds 4 ?_
  rw [rounds_succ]
  go_wp2
  rw [rounds_succ]
  go_wp2
  rw [rounds_succ]
  go_wp2
  rw [rounds_succ]
  go_wp2
  refine bodyPost_ret (v := .tuple #[tri (hv x m) (hv 0 m) (hv c m), .bool true]) (by simp [results, Try.results12, go_sem, tri, hv]) rfl ⟨rfl, ?_⟩
  exact Kept.alloc (Kept.alloc (Kept.alloc (Kept.refl _ _) _) _) _

set_option maxRecDepth 100000 in
set_option maxHeartbeats 4000000 in
theorem rhls_5 (h l s T A B c x m : Int) (w : World) (h1 : 0 ≤ h ∧ h ≤ 360) (h2 : 0 ≤ l ∧ l ≤ 100) (h3 : 0 ≤ s ∧ s ≤ 100) (hT : (h + 240) % 360 = T) (hq : T / 60 = 5)
    (hA : (if 2 * l - 100 < 100 - 2 * l then 100 - 2 * l else 2 * l - 100) = A) (hB : T % 120 - 60 = B) (hc : (100 - A) * s = c) (hx : c * (60 - B) / 60 = x) (hm : 100 * l - c / 2 = m) :
    Calls Try.prog 12 #[.int .i64 h, .int .i64 l, .int .i64 s] w fun e w' => e = .returned (.tuple #[tri (hv c m) (hv 0 m) (hv x m), .bool true]) ∧ Kept (fun _ => False) w w' := by
  have hT0 : 0 ≤ T ∧ T < 360 := by omega
  have hA0 : 0 ≤ A ∧ A ≤ 100 ∧ 100 - A ≤ 2 * l ∧ 100 - A ≤ 200 - 2 * l := by rw [← hA]; split <;> omega
  have hB0 : 0 ≤ B ∧ B ≤ 60 := by omega
  have hc1 : 0 ≤ (100 - A) * s := Int.mul_nonneg (by omega) (by omega)
  have hc2 : (100 - A) * s ≤ (100 - A) * 100 := Int.mul_le_mul_of_nonneg_left (by omega) (by omega)
  rw [hc] at hc1 hc2
  have hx1 : 0 ≤ c * (60 - B) := Int.mul_nonneg (by omega) (by omega)
  have hx2 : c * (60 - B) ≤ c * 60 := Int.mul_le_mul_of_nonneg_left (by omega) (by omega)
  obtain ⟨y, hy⟩ : ∃ y, c * (60 - B) = y := ⟨_, rfl⟩
  rw [hy] at hx hx1 hx2
  have hx0 : 0 ≤ x ∧ x ≤ c := by omega
  have hm0 : 0 ≤ m ∧ c + m ≤ 10000 ∧ m ≤ 10000 := by omega
  have hAh := Lib.hid hA0
  clear hA0
  have g1 : decide (h < 0) = false := decide_eq_false (by omega)
  have g2 : decide (360 < h) = false := decide_eq_false (by omega)
  have g3 : decide (l < 0) = false := decide_eq_false (by omega)
  have g4 : decide (100 < l) = false := decide_eq_false (by omega)
  have g5 : decide (s < 0) = false := decide_eq_false (by omega)
  have g6 : decide (100 < s) = false := decide_eq_false (by omega)
  go_enter Try.func12, Try.ntmps12
  have hP : (2 * l - 100 < 0 ∧ -(2 * l - 100) = A ∧ A < 9223372036854775807) ∨ (0 ≤ 2 * l - 100 ∧ 2 * l - 100 = A) := by
    have h := hAh.out
    split at hA <;> omega
  have hQ : (T % 120 - 60 < 0 ∧ -(T % 120 - 60) = B ∧ B < 9223372036854775807) ∨ (0 ≤ T % 120 - 60 ∧ T % 120 - 60 = B) := by omega
  have HP := Lib.hid hP
  have HQ := Lib.hid hQ
  clear hP hQ
  go_wp2_with fail
  refine (size_any _ A _ HP.out).mono ?_; rintro e w1 ⟨rfl, rfl⟩
  go_wp2_with fail
  refine (size_any _ B _ (.inr ⟨hB0.1, rfl⟩)).mono ?_; rintro e w1 ⟨rfl, rfl⟩
  go_wp2
  refine wp_loop_rounds 4 ?_
  rw [rounds_succ]
  go_wp2
  rw [rounds_succ]
  go_wp2
  rw [rounds_succ]
  go_wp2
  rw [rounds_succ]
  go_wp2
  refine bodyPost_ret (v := .tuple #[tri (hv c m) (hv 0 m) (hv x m), .bool true]) (by simp [results, Try.results12, go_sem, tri, hv]) rfl ⟨rfl, ?_⟩
  exact Kept.alloc (Kept.alloc (Kept.alloc (Kept.refl _ _) _) _) _

set_option maxRecDepth 100000 in
set_option maxHeartbeats 4000000 in
theorem rhls_out (h l s : Int) (w : World) (hb : hlsOk h l s = false) : Calls Try.prog 12 #[.int .i64 h, .int .i64 l, .int .i64 s] w fun e w' => e = .returned (.tuple #[tri 0 0 0, .bool false]) ∧ Kept (fun _ => False) w w' := by
  have hb' : ¬ (0 ≤ h ∧ h ≤ 360 ∧ 0 ≤ l ∧ l ≤ 100 ∧ 0 ≤ s ∧ s ≤ 100) := by simpa [hlsOk] using hb
  by_cases c0 : h < 0
  · have g0 : decide (h < 0) = true := decide_eq_true c0
    clear hb hb'
    go_enter Try.func12, Try.ntmps12
    go_wp2
    refine bodyPost_ret (v := .tuple #[tri 0 0 0, .bool false]) (by simp [results, Try.results12, go_sem, tri]) rfl ⟨rfl, ?_⟩
    exact Kept.alloc (Kept.refl _ _) _
  have g0 : decide (h < 0) = false := decide_eq_false c0
  by_cases c1 : 360 < h
  · have g1 : decide (360 < h) = true := decide_eq_true c1
    clear hb hb'
    go_enter Try.func12, Try.ntmps12
    go_wp2
    refine bodyPost_ret (v := .tuple #[tri 0 0 0, .bool false]) (by simp [results, Try.results12, go_sem, tri]) rfl ⟨rfl, ?_⟩
    exact Kept.alloc (Kept.refl _ _) _
  have g1 : decide (360 < h) = false := decide_eq_false c1
  by_cases c2 : l < 0
  · have g2 : decide (l < 0) = true := decide_eq_true c2
    clear hb hb'
    go_enter Try.func12, Try.ntmps12
    go_wp2
    refine bodyPost_ret (v := .tuple #[tri 0 0 0, .bool false]) (by simp [results, Try.results12, go_sem, tri]) rfl ⟨rfl, ?_⟩
    exact Kept.alloc (Kept.refl _ _) _
  have g2 : decide (l < 0) = false := decide_eq_false c2
  by_cases c3 : 100 < l
  · have g3 : decide (100 < l) = true := decide_eq_true c3
    clear hb hb'
    go_enter Try.func12, Try.ntmps12
    go_wp2
    refine bodyPost_ret (v := .tuple #[tri 0 0 0, .bool false]) (by simp [results, Try.results12, go_sem, tri]) rfl ⟨rfl, ?_⟩
    exact Kept.alloc (Kept.refl _ _) _
  have g3 : decide (100 < l) = false := decide_eq_false c3
  by_cases c4 : s < 0
  · have g4 : decide (s < 0) = true := decide_eq_true c4
    clear hb hb'
    go_enter Try.func12, Try.ntmps12
    go_wp2
    refine bodyPost_ret (v := .tuple #[tri 0 0 0, .bool false]) (by simp [results, Try.results12, go_sem, tri]) rfl ⟨rfl, ?_⟩
    exact Kept.alloc (Kept.refl _ _) _
  have g4 : decide (s < 0) = false := decide_eq_false c4
  by_cases c5 : 100 < s
  · have g5 : decide (100 < s) = true := decide_eq_true c5
    clear hb hb'
    go_enter Try.func12, Try.ntmps12
    go_wp2
    refine bodyPost_ret (v := .tuple #[tri 0 0 0, .bool false]) (by simp [results, Try.results12, go_sem, tri]) rfl ⟨rfl, ?_⟩
    exact Kept.alloc (Kept.refl _ _) _
  have g5 : decide (100 < s) = false := decide_eq_false c5
  exact absurd (by omega) hb'
theorem rhls_any (h l s : Int) (w : World) : Calls Try.prog 12 #[.int .i64 h, .int .i64 l, .int .i64 s] w fun e w' => e = .returned (.tuple #[hls h l s, .bool (hlsOk h l s)]) ∧ Kept (fun _ => False) w w' := by
  by_cases hb : hlsOk h l s = true
  · have hb' : 0 ≤ h ∧ h ≤ 360 ∧ 0 ≤ l ∧ l ≤ 100 ∧ 0 ≤ s ∧ s ≤ 100 := by simpa [hlsOk] using hb
    obtain ⟨h1, h1', h2, h2', h3, h3'⟩ := hb'
    have hA : (if 2 * l - 100 < 100 - 2 * l then 100 - 2 * l else 2 * l - 100) = max (2 * l - 100) (100 - 2 * l) := by split <;> omega
    rw [hb, hls, if_pos hb]
    unfold hue
    by_cases q0 : (h + 240) % 360 / 60 = 0
    · simp only [q0]
      exact rhls_0 h l s _ _ _ _ _ _ w ⟨h1, h1'⟩ ⟨h2, h2'⟩ ⟨h3, h3'⟩ rfl q0 hA (by omega) rfl rfl rfl
    by_cases q1 : (h + 240) % 360 / 60 = 1
    · simp only [q1]
      exact rhls_1 h l s _ _ _ _ _ _ w ⟨h1, h1'⟩ ⟨h2, h2'⟩ ⟨h3, h3'⟩ rfl q1 hA (by omega) rfl rfl rfl
    by_cases q2 : (h + 240) % 360 / 60 = 2
    · simp only [q2]
      exact rhls_2 h l s _ _ _ _ _ _ w ⟨h1, h1'⟩ ⟨h2, h2'⟩ ⟨h3, h3'⟩ rfl q2 hA (by omega) rfl rfl rfl
    by_cases q3 : (h + 240) % 360 / 60 = 3
    · simp only [q3]
      exact rhls_3 h l s _ _ _ _ _ _ w ⟨h1, h1'⟩ ⟨h2, h2'⟩ ⟨h3, h3'⟩ rfl q3 hA (by omega) rfl rfl rfl
    by_cases q4 : (h + 240) % 360 / 60 = 4
    · simp only [q4]
      exact rhls_4 h l s _ _ _ _ _ _ w ⟨h1, h1'⟩ ⟨h2, h2'⟩ ⟨h3, h3'⟩ rfl q4 hA (by omega) rfl rfl rfl
    by_cases q5 : (h + 240) % 360 / 60 = 5
    · simp only [q5]
      exact rhls_5 h l s _ _ _ _ _ _ w ⟨h1, h1'⟩ ⟨h2, h2'⟩ ⟨h3, h3'⟩ rfl q5 hA (by omega) rfl rfl rfl
    omega
  · have hb' : hlsOk h l s = false := by simpa using hb
    rw [hb', hls, hb', if_neg (by simp)]
    exact rhls_out h l s w hb'
end Go.Proofs.Ytomcjdonacckfaa
