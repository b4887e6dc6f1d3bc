/- Small functions of rows of PNG: what they compute. -/
import Derived.Test.YtgpgjpmgnbaneaaPlain
import Derived.Test.YtgpgjpmgnbaneaaClone
import Derived.WalkLawsBesides
namespace Go.Proofs.Ytgpgjpmgnbaneaa
open Go.RowKit Pl
set_option linter.unusedVariables false
theorem int_of_wf {n : Int} (h : (Lit.int .i64 n).wf = true) : -9223372036854775808 ≤ n ∧ n ≤ 9223372036854775807 := by
  simp [Lit.wf, IntKind.min, IntKind.max, IntKind.signed, IntKind.bits] at h
  omega
theorem u8_of_wf {n : Int} (h : (Lit.int .u8 n).wf = true) : 0 ≤ n ∧ n < 256 := by
  simp [Lit.wf, IntKind.min, IntKind.max, IntKind.signed, IntKind.bits] at h
  omega
theorem bytes_of_wf {xs : List Int} (h : ∀ n ∈ xs, (Lit.int .u8 n).wf = true) : Pl.Bytes xs := fun n hn => u8_of_wf (h n hn)
theorem mul_bd {a b A B : Int} (h0 : 0 ≤ a) (h1 : a ≤ A) (h2 : 0 ≤ b) (h3 : b ≤ B) : 0 ≤ a * b ∧ a * b ≤ A * B :=
  ⟨Int.mul_nonneg h0 h2, Int.mul_le_mul h1 h3 h2 (Int.le_trans h0 h1)⟩
set_option maxRecDepth 100000 in
set_option maxHeartbeats 1000000 in
theorem isDepth_any (d : Int) (w : World) : Calls Try.prog 24 #[.int .i64 d] w fun e w' => e = .returned (.bool (depthB d)) ∧ w = w' := by
  by_cases h : d = 1 ∨ d = 2 ∨ d = 4 ∨ d = 8 ∨ d = 16
  · rcases h with rfl | rfl | rfl | rfl | rfl
    all_goals
      go_enter Try.func24, Try.ntmps24
      go_wp2
      go_ret
      exact ⟨rfl, rfl⟩
  · have hf : depthB d = false := decide_eq_false h
    have h1 : ¬ d = 1 := by omega
    have h2 : ¬ d = 2 := by omega
    have h4 : ¬ d = 4 := by omega
    have h8 : ¬ d = 8 := by omega
    have h16 : ¬ d = 16 := by omega
    have HF := Lib.hid hf
    clear h hf
    go_enter Try.func24, Try.ntmps24
    go_wp2
    go_ret
    exact ⟨ret_bool (by rw [HF.out]; simp [h1, h2, h4, h8, h16]), rfl⟩
set_option maxRecDepth 100000 in
set_option maxHeartbeats 1000000 in
theorem refDepth_any (d : Int) (w : World) : Calls Try.prog 25 #[.int .i64 d] w fun e w' => e = .returned (.bool (depthB d)) ∧ w = w' := by
  by_cases h : d = 1 ∨ d = 2 ∨ d = 4 ∨ d = 8 ∨ d = 16
  · rcases h with rfl | rfl | rfl | rfl | rfl
    all_goals
      go_enter Try.func25, Try.ntmps25
      go_wp2
      go_ret
      exact ⟨rfl, rfl⟩
  · have hf : depthB d = false := decide_eq_false h
    have h1 : ¬ d = 1 := by omega
    have h2 : ¬ d = 2 := by omega
    have h4 : ¬ d = 4 := by omega
    have h8 : ¬ d = 8 := by omega
    have h16 : ¬ d = 16 := by omega
    have HF := Lib.hid hf
    clear h hf
    go_enter Try.func25, Try.ntmps25
    go_wp2
    go_ret
    exact ⟨ret_bool (by rw [HF.out]; simp [h1, h2, h4, h8, h16]), rfl⟩
set_option maxRecDepth 100000 in
set_option maxHeartbeats 1000000 in
theorem isSide_any (n : Int) (w : World) : Calls Try.prog 26 #[.int .i64 n] w fun e w' => e = .returned (.bool (decide (1 ≤ n ∧ n ≤ 16384))) ∧ w = w' := by
  by_cases h1 : 1 ≤ n
  · by_cases h2 : n ≤ 16384
    · have hf : decide (1 ≤ n ∧ n ≤ 16384) = true := decide_eq_true ⟨h1, h2⟩
      have g1 : decide (1 ≤ n) = true := decide_eq_true h1
      have g2 : decide (n ≤ 16384) = true := decide_eq_true h2
      rw [hf]
      clear hf
      go_enter Try.func26, Try.ntmps26
      go_wp2
      go_ret
      exact ⟨rfl, rfl⟩
    · have hf : decide (1 ≤ n ∧ n ≤ 16384) = false := decide_eq_false (by omega)
      have g1 : decide (1 ≤ n) = true := decide_eq_true h1
      have g2 : decide (n ≤ 16384) = false := decide_eq_false h2
      rw [hf]
      clear hf
      go_enter Try.func26, Try.ntmps26
      go_wp2
      go_ret
      exact ⟨rfl, rfl⟩
  · have hf : decide (1 ≤ n ∧ n ≤ 16384) = false := decide_eq_false (by omega)
    have g1 : decide (1 ≤ n) = false := decide_eq_false h1
    rw [hf]
    clear hf
    go_enter Try.func26, Try.ntmps26
    go_wp2
    go_ret
    exact ⟨rfl, rfl⟩
set_option maxRecDepth 100000 in
set_option maxHeartbeats 1000000 in
theorem far_any (p x : Int) (w : World) (hp : -256 ≤ p ∧ p ≤ 512) (hx : 0 ≤ x ∧ x < 256) : Calls Try.prog 23 #[.int .i64 p, .int .i64 x] w fun e w' => e = .returned (.int .i64 (farI p x)) ∧ w = w' := by
  by_cases h1 : p < x
  · have e1 : farI p x = x - p := if_pos h1
    have g1 : decide (p < x) = true := decide_eq_true h1
    have HE := Lib.hid e1
    clear e1
    go_enter Try.func23, Try.ntmps23
    go_wp2
    go_ret
    exact ⟨ret_int (by rw [HE.out]), rfl⟩
  · have e1 : farI p x = p - x := if_neg h1
    have g1 : decide (p < x) = false := decide_eq_false h1
    have HE := Lib.hid e1
    clear e1
    go_enter Try.func23, Try.ntmps23
    go_wp2
    go_ret
    exact ⟨ret_int (by rw [HE.out]), rfl⟩
set_option maxRecDepth 100000 in
set_option maxHeartbeats 1000000 in
theorem near_any (a b c x : Int) (p q r : Addr) (w : World) (ha : 0 ≤ a ∧ a < 256) (hb : 0 ≤ b ∧ b < 256) (hc : 0 ≤ c ∧ c < 256) (hx : 0 ≤ x ∧ x < 256)
    (h1 : w.cell? p = some (.int .u8 a)) (h2 : w.cell? q = some (.int .u8 b)) (h3 : w.cell? r = some (.int .u8 c)) :
    Calls Try.prog 22 #[.int .u8 x, .pointer (some p), .pointer (some q), .pointer (some r)] w fun e w' => e = .returned (.int .i64 (nearI a b c x)) ∧ w = w' := by
  go_enter Try.func22, Try.ntmps22
  go_wp2
  all_goals
    go_ret
    exact ⟨ret_int (by unfold nearI; omega), rfl⟩
def rowI (w s d : Int) : Int := if 1 ≤ w ∧ w ≤ 16384 ∧ 1 ≤ s ∧ s ≤ 4 ∧ depthB d = true then (w * s * d + 7) / 8 else 0
set_option maxRecDepth 100000 in
set_option maxHeartbeats 2000000 in
theorem row_any (x s d : Int) (w : World) : Calls Try.prog 13 #[.int .i64 x, .int .i64 s, .int .i64 d] w fun e w' => e = .returned (.int .i64 (rowI x s d)) ∧ w = w' := by
  by_cases h1 : x < 1
  · have gh1 : decide (x < 1) = true := decide_eq_true h1
    have e0 : rowI x s d = 0 := if_neg (by omega)
    have HE := Lib.hid e0
    clear e0
    go_enter Try.func13, Try.ntmps13
    go_wp2
    go_ret
    exact ⟨ret_int HE.out.symm, rfl⟩
  have gh1 : decide (x < 1) = false := decide_eq_false h1
  by_cases h2 : 16384 < x
  · have gh2 : decide (16384 < x) = true := decide_eq_true h2
    have e0 : rowI x s d = 0 := if_neg (by omega)
    have HE := Lib.hid e0
    clear e0
    go_enter Try.func13, Try.ntmps13
    go_wp2
    go_ret
    exact ⟨ret_int HE.out.symm, rfl⟩
  have gh2 : decide (16384 < x) = false := decide_eq_false h2
  by_cases h3 : s < 1
  · have gh3 : decide (s < 1) = true := decide_eq_true h3
    have e0 : rowI x s d = 0 := if_neg (by omega)
    have HE := Lib.hid e0
    clear e0
    go_enter Try.func13, Try.ntmps13
    go_wp2
    go_ret
    exact ⟨ret_int HE.out.symm, rfl⟩
  have gh3 : decide (s < 1) = false := decide_eq_false h3
  by_cases h4 : 4 < s
  · have gh4 : decide (4 < s) = true := decide_eq_true h4
    have e0 : rowI x s d = 0 := if_neg (by omega)
    have HE := Lib.hid e0
    clear e0
    go_enter Try.func13, Try.ntmps13
    go_wp2
    go_ret
    exact ⟨ret_int HE.out.symm, rfl⟩
  have gh4 : decide (4 < s) = false := decide_eq_false h4
  by_cases hd : depthB d = true
  · have e0 : rowI x s d = (x * s * d + 7) / 8 := if_pos (by refine ⟨by omega, by omega, by omega, by omega, hd⟩)
    have hdd := depthB_or hd
    obtain ⟨p1, p2⟩ := mul_bd (show 0 ≤ x by omega) (show x ≤ 16384 by omega) (show 0 ≤ s by omega) (show s ≤ 4 by omega)
    obtain ⟨q1, q2⟩ := mul_bd p1 p2 (show 0 ≤ d by omega) (show d ≤ 16 by omega)
    have HE := Lib.hid e0
    clear e0 hdd
    go_enter Try.func13, Try.ntmps13
    go_wp2_with (go_at_call 24; refine (isDepth_any d _).mono ?_; rintro e w' ⟨rfl, rfl⟩)
    go_ret
    exact ⟨ret_int HE.out.symm, rfl⟩
  · have hd := Bool.eq_false_iff.2 hd
    have e0 : rowI x s d = 0 := if_neg (by intro h; rw [hd] at h; simp at h)
    have HE := Lib.hid e0
    clear e0
    go_enter Try.func13, Try.ntmps13
    go_wp2_with (go_at_call 24; refine (isDepth_any d _).mono ?_; rintro e w' ⟨rfl, rfl⟩)
    go_ret
    exact ⟨ret_int HE.out.symm, rfl⟩
set_option maxRecDepth 100000 in
set_option maxHeartbeats 2000000 in
theorem refRow_any (x s d : Int) (w : World) : Calls Try.prog 14 #[.int .i64 x, .int .i64 s, .int .i64 d] w fun e w' => e = .returned (.int .i64 (rowI x s d)) ∧ w = w' := by
  by_cases h1 : x < 1
  · have gh1 : decide (x < 1) = true := decide_eq_true h1
    have e0 : rowI x s d = 0 := if_neg (by omega)
    have HE := Lib.hid e0
    clear e0
    go_enter Try.func14, Try.ntmps14
    go_wp2
    go_ret
    exact ⟨ret_int HE.out.symm, rfl⟩
  have gh1 : decide (x < 1) = false := decide_eq_false h1
  by_cases h2 : 16384 < x
  · have gh2 : decide (16384 < x) = true := decide_eq_true h2
    have e0 : rowI x s d = 0 := if_neg (by omega)
    have HE := Lib.hid e0
    clear e0
    go_enter Try.func14, Try.ntmps14
    go_wp2
    go_ret
    exact ⟨ret_int HE.out.symm, rfl⟩
  have gh2 : decide (16384 < x) = false := decide_eq_false h2
  by_cases h3 : s < 1
  · have gh3 : decide (s < 1) = true := decide_eq_true h3
    have e0 : rowI x s d = 0 := if_neg (by omega)
    have HE := Lib.hid e0
    clear e0
    go_enter Try.func14, Try.ntmps14
    go_wp2
    go_ret
    exact ⟨ret_int HE.out.symm, rfl⟩
  have gh3 : decide (s < 1) = false := decide_eq_false h3
  by_cases h4 : 4 < s
  · have gh4 : decide (4 < s) = true := decide_eq_true h4
    have e0 : rowI x s d = 0 := if_neg (by omega)
    have HE := Lib.hid e0
    clear e0
    go_enter Try.func14, Try.ntmps14
    go_wp2
    go_ret
    exact ⟨ret_int HE.out.symm, rfl⟩
  have gh4 : decide (4 < s) = false := decide_eq_false h4
  by_cases hd : depthB d = true
  · have e0 : rowI x s d = (x * s * d + 7) / 8 := if_pos (by refine ⟨by omega, by omega, by omega, by omega, hd⟩)
    have hdd := depthB_or hd
    obtain ⟨p1, p2⟩ := mul_bd (show 0 ≤ x by omega) (show x ≤ 16384 by omega) (show 0 ≤ s by omega) (show s ≤ 4 by omega)
    obtain ⟨q1, q2⟩ := mul_bd p1 p2 (show 0 ≤ d by omega) (show d ≤ 16 by omega)
    have HE := Lib.hid e0
    clear e0 hdd
    go_enter Try.func14, Try.ntmps14
    go_wp2_with (go_at_call 25; refine (refDepth_any d _).mono ?_; rintro e w' ⟨rfl, rfl⟩)
    go_ret
    exact ⟨ret_int HE.out.symm, rfl⟩
  · have hd := Bool.eq_false_iff.2 hd
    have e0 : rowI x s d = 0 := if_neg (by intro h; rw [hd] at h; simp at h)
    have HE := Lib.hid e0
    clear e0
    go_enter Try.func14, Try.ntmps14
    go_wp2_with (go_at_call 25; refine (refDepth_any d _).mono ?_; rintro e w' ⟨rfl, rfl⟩)
    go_ret
    exact ⟨ret_int HE.out.symm, rfl⟩
def chkB (kind : Int) (l1 l2 : Nat) (step : Int) : Bool := decide (0 ≤ kind ∧ kind ≤ 4 ∧ 1 ≤ step ∧ step ≤ 8 ∧ (l2 = 0 ∨ l2 = l1))
set_option maxRecDepth 100000 in
set_option maxHeartbeats 2000000 in
theorem check_any (kind step : Int) (a1 a2 : Option Addr) (l1 c1 l2 c2 : Nat) (w : World) : Calls Try.prog 27 #[.int .i64 kind, .slice a1 l1 c1, .slice a2 l2 c2, .int .i64 step] w fun e w' => e = .returned (.bool (chkB kind l1 l2 step)) ∧ w = w' := by
  by_cases h1 : 0 ≤ kind
  case neg =>
    have gh1 : decide (0 ≤ kind) = false := decide_eq_false h1
    have he : chkB kind l1 l2 step = false := decide_eq_false (by omega)
    have HE := Lib.hid he
    clear he
    go_enter Try.func27, Try.ntmps27
    go_wp2
    go_ret
    exact ⟨ret_bool HE.out.symm, rfl⟩
  have gh1 : decide (0 ≤ kind) = true := decide_eq_true h1
  by_cases h2 : kind ≤ 4
  case neg =>
    have gh2 : decide (kind ≤ 4) = false := decide_eq_false h2
    have he : chkB kind l1 l2 step = false := decide_eq_false (by omega)
    have HE := Lib.hid he
    clear he
    go_enter Try.func27, Try.ntmps27
    go_wp2
    go_ret
    exact ⟨ret_bool HE.out.symm, rfl⟩
  have gh2 : decide (kind ≤ 4) = true := decide_eq_true h2
  by_cases h3 : 1 ≤ step
  case neg =>
    have gh3 : decide (1 ≤ step) = false := decide_eq_false h3
    have he : chkB kind l1 l2 step = false := decide_eq_false (by omega)
    have HE := Lib.hid he
    clear he
    go_enter Try.func27, Try.ntmps27
    go_wp2
    go_ret
    exact ⟨ret_bool HE.out.symm, rfl⟩
  have gh3 : decide (1 ≤ step) = true := decide_eq_true h3
  by_cases h4 : step ≤ 8
  case neg =>
    have gh4 : decide (step ≤ 8) = false := decide_eq_false h4
    have he : chkB kind l1 l2 step = false := decide_eq_false (by omega)
    have HE := Lib.hid he
    clear he
    go_enter Try.func27, Try.ntmps27
    go_wp2
    go_ret
    exact ⟨ret_bool HE.out.symm, rfl⟩
  have gh4 : decide (step ≤ 8) = true := decide_eq_true h4
  by_cases h5 : l2 = 0
  · subst h5
    have he : chkB kind l1 0 step = true := decide_eq_true ⟨h1, h2, h3, h4, .inl rfl⟩
    have HE := Lib.hid he
    clear he
    go_enter Try.func27, Try.ntmps27
    go_wp2
    go_ret
    exact ⟨ret_bool HE.out.symm, rfl⟩
  have k5 : ¬ (l2 : Int) = 0 := by omega
  by_cases h6 : l2 = l1
  · subst h6
    have he : chkB kind l2 l2 step = true := decide_eq_true ⟨h1, h2, h3, h4, .inr rfl⟩
    have HE := Lib.hid he
    clear he
    go_enter Try.func27, Try.ntmps27
    go_wp2
    go_ret
    exact ⟨ret_bool HE.out.symm, rfl⟩
  have k6 : ¬ (l2 : Int) = l1 := by omega
  have he : chkB kind l1 l2 step = false := decide_eq_false (by omega)
  have HE := Lib.hid he
  clear he
  go_enter Try.func27, Try.ntmps27
  go_wp2
  go_ret
  exact ⟨ret_bool (by rw [HE.out]; simp [h5, k6]), rfl⟩
end Go.Proofs.Ytgpgjpmgnbaneaa
