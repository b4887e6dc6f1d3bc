/- The small functions of both sides: flags, colours, what may be. -/
import Derived.Test.YtdcbaobipogmnaaRows
import Derived.Test.YtdcbaobipogmnaaApp
import Derived.Test.YtdcbaobipogmnaaPlain
namespace Go.Proofs.Ytdcbaobipogmnaa
open Go.RowKit Pl
set_option linter.unusedVariables false

set_option maxRecDepth 100000 in
set_option maxHeartbeats 1000000 in
theorem flag_any (n : Int) (w : World) :
    Calls Try.prog 20 #[.int .i64 n] w fun e w' => e = .returned (.int .i64 (flagN n)) ∧ w = w' := by
  by_cases h1 : n = 1
  · subst h1
    go_enter Try.func20, Try.ntmps20
    go_wp2
    go_ret
    exact ⟨rfl, rfl⟩
  by_cases h2 : n = 2
  · subst h2
    go_enter Try.func20, Try.ntmps20
    go_wp2
    go_ret
    exact ⟨rfl, rfl⟩
  by_cases h3 : n = 3
  · subst h3
    go_enter Try.func20, Try.ntmps20
    go_wp2
    go_ret
    exact ⟨rfl, rfl⟩
  by_cases h4 : n = 4
  · subst h4
    go_enter Try.func20, Try.ntmps20
    go_wp2
    go_ret
    exact ⟨rfl, rfl⟩
  by_cases h5 : n = 5
  · subst h5
    go_enter Try.func20, Try.ntmps20
    go_wp2
    go_ret
    exact ⟨rfl, rfl⟩
  by_cases h7 : n = 7
  · subst h7
    go_enter Try.func20, Try.ntmps20
    go_wp2
    go_ret
    exact ⟨rfl, rfl⟩
  by_cases h8 : n = 8
  · subst h8
    go_enter Try.func20, Try.ntmps20
    go_wp2
    go_ret
    exact ⟨rfl, rfl⟩
  by_cases h9 : n = 9
  · subst h9
    go_enter Try.func20, Try.ntmps20
    go_wp2
    go_ret
    exact ⟨rfl, rfl⟩
  have e : flagN n = 0 := by unfold flagN; repeat (rw [if_neg (by assumption)])
  rw [e]
  have q1 : (n == 1) = false := by simp; omega
  have q2 : (n == 2) = false := by simp; omega
  have q3 : (n == 3) = false := by simp; omega
  have q4 : (n == 4) = false := by simp; omega
  have q5 : (n == 5) = false := by simp; omega
  have q7 : (n == 7) = false := by simp; omega
  have q8 : (n == 8) = false := by simp; omega
  have q9 : (n == 9) = false := by simp; omega
  clear e h1 h2 h3 h4 h5 h7 h8 h9
  go_enter Try.func20, Try.ntmps20
  go_wp2
  go_ret
  exact ⟨rfl, rfl⟩
set_option maxRecDepth 100000 in
set_option maxHeartbeats 1000000 in
theorem color_any (c : Int) (w : World) :
    Calls Try.prog 26 #[.int .i64 c] w fun e w' => e = .returned (.bool (colB c)) ∧ w = w' := by
  by_cases h0 : c = 0
  · subst h0
    go_enter Try.func26, Try.ntmps26
    go_wp2
    go_ret
    exact ⟨rfl, rfl⟩
  have q0 : (c == 0) = false := by simp; exact h0
  by_cases k0 : c < 0
  · go_enter Try.func26, Try.ntmps26
    go_wp2
    go_ret
    exact ⟨ret_bool (by unfold colB; first | exact (decide_eq_true (by omega)).symm | exact (decide_eq_false (by omega)).symm | exact decide_eq_decide.2 (by omega)), rfl⟩
  by_cases k1 : c < 16777216
  · go_enter Try.func26, Try.ntmps26
    go_wp2
    go_ret
    exact ⟨ret_bool (by unfold colB; first | exact (decide_eq_true (by omega)).symm | exact (decide_eq_false (by omega)).symm | exact decide_eq_decide.2 (by omega)), rfl⟩
  by_cases k2 : c < 16777472
  · go_enter Try.func26, Try.ntmps26
    go_wp2
    go_ret
    exact ⟨ret_bool (by unfold colB; first | exact (decide_eq_true (by omega)).symm | exact (decide_eq_false (by omega)).symm | exact decide_eq_decide.2 (by omega)), rfl⟩
  by_cases k3 : c < 33554432
  · go_enter Try.func26, Try.ntmps26
    go_wp2
    go_ret
    exact ⟨ret_bool (by unfold colB; first | exact (decide_eq_true (by omega)).symm | exact (decide_eq_false (by omega)).symm | exact decide_eq_decide.2 (by omega)), rfl⟩
  by_cases k4 : c < 50331648
  · go_enter Try.func26, Try.ntmps26
    go_wp2
    go_ret
    exact ⟨ret_bool (by unfold colB; first | exact (decide_eq_true (by omega)).symm | exact (decide_eq_false (by omega)).symm | exact decide_eq_decide.2 (by omega)), rfl⟩
  go_enter Try.func26, Try.ntmps26
  go_wp2
  go_ret
  exact ⟨ret_bool (by unfold colB; first | exact (decide_eq_true (by omega)).symm | exact (decide_eq_false (by omega)).symm | exact decide_eq_decide.2 (by omega)), rfl⟩
set_option maxRecDepth 100000 in
set_option maxHeartbeats 1000000 in
theorem rcolor_any (c : Int) (w : World) :
    Calls Try.prog 27 #[.int .i64 c] w fun e w' => e = .returned (.bool (colB c)) ∧ w = w' := by
  by_cases h0 : c = 0
  · subst h0
    go_enter Try.func27, Try.ntmps27
    go_wp2
    go_ret
    exact ⟨rfl, rfl⟩
  have q0 : (c == 0) = false := by simp; exact h0
  by_cases k0 : c < 0
  · go_enter Try.func27, Try.ntmps27
    go_wp2
    go_ret
    exact ⟨ret_bool (by unfold colB; first | exact (decide_eq_true (by omega)).symm | exact (decide_eq_false (by omega)).symm | exact decide_eq_decide.2 (by omega)), rfl⟩
  by_cases k1 : c < 16777216
  · go_enter Try.func27, Try.ntmps27
    go_wp2
    go_ret
    exact ⟨ret_bool (by unfold colB; first | exact (decide_eq_true (by omega)).symm | exact (decide_eq_false (by omega)).symm | exact decide_eq_decide.2 (by omega)), rfl⟩
  by_cases k2 : c < 16777472
  · go_enter Try.func27, Try.ntmps27
    go_wp2
    go_ret
    exact ⟨ret_bool (by unfold colB; first | exact (decide_eq_true (by omega)).symm | exact (decide_eq_false (by omega)).symm | exact decide_eq_decide.2 (by omega)), rfl⟩
  by_cases k3 : c < 33554432
  · go_enter Try.func27, Try.ntmps27
    go_wp2
    go_ret
    exact ⟨ret_bool (by unfold colB; first | exact (decide_eq_true (by omega)).symm | exact (decide_eq_false (by omega)).symm | exact decide_eq_decide.2 (by omega)), rfl⟩
  by_cases k4 : c < 50331648
  · go_enter Try.func27, Try.ntmps27
    go_wp2
    go_ret
    exact ⟨ret_bool (by unfold colB; first | exact (decide_eq_true (by omega)).symm | exact (decide_eq_false (by omega)).symm | exact decide_eq_decide.2 (by omega)), rfl⟩
  go_enter Try.func27, Try.ntmps27
  go_wp2
  go_ret
  exact ⟨ret_bool (by unfold colB; first | exact (decide_eq_true (by omega)).symm | exact (decide_eq_false (by omega)).symm | exact decide_eq_decide.2 (by omega)), rfl⟩
set_option maxRecDepth 100000 in
set_option maxHeartbeats 1000000 in
theorem byte_any (c : Int) (w : World) :
    Calls Try.prog 29 #[.int .i64 c] w fun e w' => e = .returned (.bool (byteB c)) ∧ w = w' := by
  by_cases k0 : c < 0
  · go_enter Try.func29, Try.ntmps29
    go_wp2
    go_ret
    exact ⟨ret_bool (by unfold byteB; first | exact (decide_eq_true (by omega)).symm | exact (decide_eq_false (by omega)).symm | exact decide_eq_decide.2 (by omega)), rfl⟩
  by_cases k1 : 255 < c
  · go_enter Try.func29, Try.ntmps29
    go_wp2
    go_ret
    exact ⟨ret_bool (by unfold byteB; first | exact (decide_eq_true (by omega)).symm | exact (decide_eq_false (by omega)).symm | exact decide_eq_decide.2 (by omega)), rfl⟩
  go_enter Try.func29, Try.ntmps29
  go_wp2
  go_ret
  exact ⟨ret_bool (by unfold byteB; first | exact (decide_eq_true (by omega)).symm | exact (decide_eq_false (by omega)).symm | exact decide_eq_decide.2 (by omega)), rfl⟩
set_option maxRecDepth 100000 in
set_option maxHeartbeats 1000000 in
theorem rbyte_any (c : Int) (w : World) :
    Calls Try.prog 30 #[.int .i64 c] w fun e w' => e = .returned (.bool (byteB c)) ∧ w = w' := by
  by_cases k0 : c < 0
  · go_enter Try.func30, Try.ntmps30
    go_wp2
    go_ret
    exact ⟨ret_bool (by unfold byteB; first | exact (decide_eq_true (by omega)).symm | exact (decide_eq_false (by omega)).symm | exact decide_eq_decide.2 (by omega)), rfl⟩
  by_cases k1 : 255 < c
  · go_enter Try.func30, Try.ntmps30
    go_wp2
    go_ret
    exact ⟨ret_bool (by unfold byteB; first | exact (decide_eq_true (by omega)).symm | exact (decide_eq_false (by omega)).symm | exact decide_eq_decide.2 (by omega)), rfl⟩
  go_enter Try.func30, Try.ntmps30
  go_wp2
  go_ret
  exact ⟨ret_bool (by unfold byteB; first | exact (decide_eq_true (by omega)).symm | exact (decide_eq_false (by omega)).symm | exact decide_eq_decide.2 (by omega)), rfl⟩
set_option maxRecDepth 100000 in
set_option maxHeartbeats 1000000 in
theorem colour_any (n : Int) (w : World) :
    Calls Try.prog 22 #[.int .i64 n] w fun e w' => e = .returned (.tuple #[.int .i64 (colN n), .bool (foreB n)]) ∧ w = w' := by
  by_cases k0 : n < 30
  · have ec : colN n = -1 := by unfold colN; (repeat (first | rw [if_pos (by omega)] | rw [if_neg (by omega)]))
    have ef : foreB n = false := by unfold foreB; first | exact decide_eq_true (by omega) | exact decide_eq_false (by omega)
    rw [ec, ef]
    clear ec ef
    go_enter Try.func22, Try.ntmps22
    go_wp2
    go_ret2
    exact ⟨rfl, rfl⟩
  by_cases k1 : n ≤ 37
  · have ec : colN n = n - 30 := by unfold colN; (repeat (first | rw [if_pos (by omega)] | rw [if_neg (by omega)]))
    have ef : foreB n = true := by unfold foreB; first | exact decide_eq_true (by omega) | exact decide_eq_false (by omega)
    rw [ec, ef]
    clear ec ef
    go_enter Try.func22, Try.ntmps22
    go_wp2
    go_ret2
    exact ⟨rfl, rfl⟩
  by_cases k2 : n < 40
  · have ec : colN n = -1 := by unfold colN; (repeat (first | rw [if_pos (by omega)] | rw [if_neg (by omega)]))
    have ef : foreB n = false := by unfold foreB; first | exact decide_eq_true (by omega) | exact decide_eq_false (by omega)
    rw [ec, ef]
    clear ec ef
    go_enter Try.func22, Try.ntmps22
    go_wp2
    go_ret2
    exact ⟨rfl, rfl⟩
  by_cases k3 : n ≤ 47
  · have ec : colN n = n - 40 := by unfold colN; (repeat (first | rw [if_pos (by omega)] | rw [if_neg (by omega)]))
    have ef : foreB n = false := by unfold foreB; first | exact decide_eq_true (by omega) | exact decide_eq_false (by omega)
    rw [ec, ef]
    clear ec ef
    go_enter Try.func22, Try.ntmps22
    go_wp2
    go_ret2
    exact ⟨rfl, rfl⟩
  by_cases k4 : n < 90
  · have ec : colN n = -1 := by unfold colN; (repeat (first | rw [if_pos (by omega)] | rw [if_neg (by omega)]))
    have ef : foreB n = false := by unfold foreB; first | exact decide_eq_true (by omega) | exact decide_eq_false (by omega)
    rw [ec, ef]
    clear ec ef
    go_enter Try.func22, Try.ntmps22
    go_wp2
    go_ret2
    exact ⟨rfl, rfl⟩
  by_cases k5 : n ≤ 97
  · have ec : colN n = n - 82 := by unfold colN; (repeat (first | rw [if_pos (by omega)] | rw [if_neg (by omega)]))
    have ef : foreB n = true := by unfold foreB; first | exact decide_eq_true (by omega) | exact decide_eq_false (by omega)
    rw [ec, ef]
    clear ec ef
    go_enter Try.func22, Try.ntmps22
    go_wp2
    go_ret2
    exact ⟨rfl, rfl⟩
  by_cases k6 : n < 100
  · have ec : colN n = -1 := by unfold colN; (repeat (first | rw [if_pos (by omega)] | rw [if_neg (by omega)]))
    have ef : foreB n = false := by unfold foreB; first | exact decide_eq_true (by omega) | exact decide_eq_false (by omega)
    rw [ec, ef]
    clear ec ef
    go_enter Try.func22, Try.ntmps22
    go_wp2
    go_ret2
    exact ⟨rfl, rfl⟩
  by_cases k7 : n ≤ 107
  · have ec : colN n = n - 92 := by unfold colN; (repeat (first | rw [if_pos (by omega)] | rw [if_neg (by omega)]))
    have ef : foreB n = false := by unfold foreB; first | exact decide_eq_true (by omega) | exact decide_eq_false (by omega)
    rw [ec, ef]
    clear ec ef
    go_enter Try.func22, Try.ntmps22
    go_wp2
    go_ret2
    exact ⟨rfl, rfl⟩
  have ec : colN n = -1 := by unfold colN; (repeat (first | rw [if_pos (by omega)] | rw [if_neg (by omega)]))
  have ef : foreB n = false := by unfold foreB; first | exact decide_eq_true (by omega) | exact decide_eq_false (by omega)
  rw [ec, ef]
  clear ec ef
  go_enter Try.func22, Try.ntmps22
  go_wp2
  go_ret2
  exact ⟨rfl, rfl⟩
set_option maxRecDepth 100000 in
set_option maxHeartbeats 1000000 in
theorem flag2_any (n : Int) (w : World) :
    Calls Try.prog 23 #[.int .i64 n] w fun e w' => e = .returned (.tuple #[.int .i64 (flag2 n), .bool (onB n)]) ∧ w = w' := by
  by_cases h1 : n = 1
  · subst h1
    go_enter Try.func23, Try.ntmps23
    go_wp2
    go_ret2
    exact ⟨rfl, rfl⟩
  by_cases h2 : n = 2
  · subst h2
    go_enter Try.func23, Try.ntmps23
    go_wp2
    go_ret2
    exact ⟨rfl, rfl⟩
  by_cases h3 : n = 3
  · subst h3
    go_enter Try.func23, Try.ntmps23
    go_wp2
    go_ret2
    exact ⟨rfl, rfl⟩
  by_cases h23 : n = 23
  · subst h23
    go_enter Try.func23, Try.ntmps23
    go_wp2
    go_ret2
    exact ⟨rfl, rfl⟩
  by_cases h4 : n = 4
  · subst h4
    go_enter Try.func23, Try.ntmps23
    go_wp2
    go_ret2
    exact ⟨rfl, rfl⟩
  by_cases h24 : n = 24
  · subst h24
    go_enter Try.func23, Try.ntmps23
    go_wp2
    go_ret2
    exact ⟨rfl, rfl⟩
  by_cases h5 : n = 5
  · subst h5
    go_enter Try.func23, Try.ntmps23
    go_wp2
    go_ret2
    exact ⟨rfl, rfl⟩
  by_cases h25 : n = 25
  · subst h25
    go_enter Try.func23, Try.ntmps23
    go_wp2
    go_ret2
    exact ⟨rfl, rfl⟩
  by_cases h7 : n = 7
  · subst h7
    go_enter Try.func23, Try.ntmps23
    go_wp2
    go_ret2
    exact ⟨rfl, rfl⟩
  by_cases h27 : n = 27
  · subst h27
    go_enter Try.func23, Try.ntmps23
    go_wp2
    go_ret2
    exact ⟨rfl, rfl⟩
  by_cases h8 : n = 8
  · subst h8
    go_enter Try.func23, Try.ntmps23
    go_wp2
    go_ret2
    exact ⟨rfl, rfl⟩
  by_cases h28 : n = 28
  · subst h28
    go_enter Try.func23, Try.ntmps23
    go_wp2
    go_ret2
    exact ⟨rfl, rfl⟩
  by_cases h9 : n = 9
  · subst h9
    go_enter Try.func23, Try.ntmps23
    go_wp2
    go_ret2
    exact ⟨rfl, rfl⟩
  by_cases h29 : n = 29
  · subst h29
    go_enter Try.func23, Try.ntmps23
    go_wp2
    go_ret2
    exact ⟨rfl, rfl⟩
  by_cases h22 : n = 22
  · subst h22
    go_enter Try.func23, Try.ntmps23
    go_wp2
    go_ret2
    exact ⟨rfl, rfl⟩
  have e : flag2 n = 0 := by
    unfold flag2
    rw [if_neg h22]
    split
    · unfold flagN; repeat (rw [if_neg (by assumption)])
    · rw [if_neg (by omega)]
  have eo : onB n = false := decide_eq_false (by omega)
  rw [e, eo]
  have q1 : (n == 1) = false := by simp; omega
  have q2 : (n == 2) = false := by simp; omega
  have q3 : (n == 3) = false := by simp; omega
  have q23 : (n == 23) = false := by simp; omega
  have q4 : (n == 4) = false := by simp; omega
  have q24 : (n == 24) = false := by simp; omega
  have q5 : (n == 5) = false := by simp; omega
  have q25 : (n == 25) = false := by simp; omega
  have q7 : (n == 7) = false := by simp; omega
  have q27 : (n == 27) = false := by simp; omega
  have q8 : (n == 8) = false := by simp; omega
  have q28 : (n == 28) = false := by simp; omega
  have q9 : (n == 9) = false := by simp; omega
  have q29 : (n == 29) = false := by simp; omega
  have q22 : (n == 22) = false := by simp; omega
  clear e eo h1 h2 h3 h23 h4 h24 h5 h25 h7 h27 h8 h28 h9 h29 h22
  go_enter Try.func23, Try.ntmps23
  go_wp2
  go_ret2
  exact ⟨rfl, rfl⟩
end Go.Proofs.Ytdcbaobipogmnaa
