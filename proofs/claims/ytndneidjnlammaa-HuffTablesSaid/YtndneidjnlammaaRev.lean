/- Reverse, and known: the examples of the chapter. -/
import Derived.Test.YtndneidjnlammaaDone
namespace Go.Proofs.Ytndneidjnlammaa
open Go.RowKit Pl
set_option linter.unusedVariables false
/-- So many bits, the other way round. -/
def rev (v : Nat) : Nat → Nat
  | 0 => 0
  | k + 1 => 2 * rev v k + v / 2 ^ k % 2
theorem rev_lt (v k : Nat) : rev v k < 2 ^ k := by
  induction k with
  | zero => simp [rev]
  | succ k ih => simp only [rev, Nat.pow_succ]; omega
def revV (v : Nat) (n : Int) : Nat := if n < 0 ∨ 32 < n then 0 else rev v n.toNat
set_option maxRecDepth 100000 in
set_option maxHeartbeats 1000000 in
theorem reverse_no (v n : Int) (w : World) (hn : n < 0 ∨ 32 < n) :
    Calls Try.prog 34 #[.int .u32 v, .int .i64 n] w fun e w' => e = .returned (.int .u32 0) ∧ w = w' := by
  by_cases h1 : n < 0
  · clear hn
    go_enter Try.func34, Try.ntmps34
    go_wp2
    go_ret
    exact ⟨rfl, rfl⟩
  · have h2 : 32 < n := by omega
    clear hn
    go_enter Try.func34, Try.ntmps34
    go_wp2
    go_ret
    exact ⟨rfl, rfl⟩
set_option maxRecDepth 100000 in
set_option maxHeartbeats 1000000 in
theorem reverse_yes (v n : Nat) (w : World) (hv : v < 4294967296) (hn : n ≤ 32) :
    Calls Try.prog 34 #[.int .u32 v, .int .i64 n] w fun e w' => e = .returned (.int .u32 (rev v n : Int)) ∧ w = w' := by
  have ht1 : decide ((n : Int) < 0) = false := by simp
  have ht2 : decide (32 < (n : Int)) = false := by simp; omega
  go_enter Try.func34, Try.ntmps34
  go_wp2
  go_loop [0, 5, 13] (fun x o i => ∃ k : Nat, k ≤ n ∧ i = .int .i64 k ∧ x = .int .u32 (v / 2 ^ k : Nat) ∧ o = .int .u32 (rev v k : Int)) (fun _ _ i => n - (intOf i).toNat)
  case atStart => exact ⟨0, by omega, rfl, by simp, rfl⟩
  case round =>
    obtain ⟨k, hk, rfl, rfl, rfl⟩ := hrel
    by_cases hkn : k < n
    · have hx : v / 2 ^ k ≤ v := Nat.div_le_self _ _
      have hr := rev_lt v k
      have hr2 : 2 ^ k ≤ 2 ^ 31 := pow_le (by omega)
      have hnx : v / 2 ^ (k + 1) = v / 2 ^ k / 2 := by rw [Nat.pow_succ, Nat.div_div_eq_div_mul]
      have hrs : rev v (k + 1) = 2 * rev v k + v / 2 ^ k % 2 := rfl
      obtain ⟨x, hxe⟩ : ∃ x, x = v / 2 ^ k := ⟨_, rfl⟩
      obtain ⟨o, hoe⟩ : ∃ o, o = rev v k := ⟨_, rfl⟩
      rw [← hxe] at hx hnx hrs ⊢
      rw [← hoe] at hr hrs ⊢
      have HN := Lib.hid hnx
      have HR := Lib.hid hrs
      have e1 : bits BinOp.and IntKind.u32 (x : Int) 1 = ((x % 2 : Nat) : Int) := by rw [show (1 : Int) = ((1 : Nat) : Int) from rfl, u32_and_nat _ _ (by omega) (by omega), nat_mask1]
      have e2 : bits BinOp.or IntKind.u32 ((o : Int) * 2) ((x : Int) % 2) = ((2 * o + x % 2 : Nat) : Int) := by
        rw [show ((o : Int) * 2) = ((o * 2 : Nat) : Int) by omega, show ((x : Int) % 2) = ((x % 2 : Nat) : Int) by omega, u32_or_nat _ _ (by omega) (by omega), nat_join 1 _ _ (by omega) (by omega)]
        omega
      clear hxe hoe hnx hrs
      go_wp2
      go_round
      case rel => exact ⟨k + 1, by omega, by go_num, vint (by rw [HN.out]; omega), vint (by rw [HR.out]; first | rfl | omega)⟩
      case measure => simp [intOf]; omega
    · obtain rfl : k = n := by omega
      go_wp2
      go_ret
      exact ⟨rfl, rfl⟩
set_option maxRecDepth 100000 in
set_option maxHeartbeats 1000000 in
theorem refReverse_no (v n : Int) (w : World) (hn : n < 0 ∨ 32 < n) :
    Calls Try.prog 28 #[.int .u32 v, .int .i64 n] w fun e w' => e = .returned (.int .u32 0) ∧ w = w' := by
  by_cases h1 : n < 0
  · clear hn
    go_enter Try.func28, Try.ntmps28
    go_wp2
    go_ret
    exact ⟨rfl, rfl⟩
  · have h2 : 32 < n := by omega
    clear hn
    go_enter Try.func28, Try.ntmps28
    go_wp2
    go_ret
    exact ⟨rfl, rfl⟩
set_option maxRecDepth 100000 in
set_option maxHeartbeats 1000000 in
theorem refReverse_yes (v n : Nat) (w : World) (hv : v < 4294967296) (hn : n ≤ 32) :
    Calls Try.prog 28 #[.int .u32 v, .int .i64 n] w fun e w' => e = .returned (.int .u32 (rev v n : Int)) ∧ w = w' := by
  have ht1 : decide ((n : Int) < 0) = false := by simp
  have ht2 : decide (32 < (n : Int)) = false := by simp; omega
  go_enter Try.func28, Try.ntmps28
  go_wp2
  go_loop [5, 6] (fun o i => ∃ k : Nat, k ≤ n ∧ i = .int .i64 k ∧ o = .int .u32 (rev v k : Int)) (fun _ i => n - (intOf i).toNat)
  case atStart => exact ⟨0, by omega, rfl, rfl⟩
  case round =>
    obtain ⟨k, hk, rfl, rfl⟩ := hrel
    by_cases hkn : k < n
    · have hx : v / 2 ^ k ≤ v := Nat.div_le_self _ _
      have hr := rev_lt v k
      have hr2 : 2 ^ k ≤ 2 ^ 31 := pow_le (by omega)
      have hrs : rev v (k + 1) = 2 * rev v k + v / 2 ^ k % 2 := rfl
      obtain ⟨o, hoe⟩ : ∃ o, o = rev v k := ⟨_, rfl⟩
      rw [← hoe] at hr hrs ⊢
      have HR := Lib.hid hrs
      have ec : ((v : Int) / 2 ^ k) = ((v / 2 ^ k : Nat) : Int) := by simp
      have e1 : bits BinOp.and IntKind.u32 ((v : Int) / 2 ^ k) 1 = ((v / 2 ^ k % 2 : Nat) : Int) := by rw [ec, show (1 : Int) = ((1 : Nat) : Int) from rfl, u32_and_nat _ _ (by omega) (by omega), nat_mask1]
      have e2 : bits BinOp.or IntKind.u32 ((o : Int) * 2) ((v : Int) / 2 ^ k % 2) = ((2 * o + v / 2 ^ k % 2 : Nat) : Int) := by
        rw [ec, show ((o : Int) * 2) = ((o * 2 : Nat) : Int) by omega, show (((v / 2 ^ k : Nat) : Int) % 2) = ((v / 2 ^ k % 2 : Nat) : Int) by omega, u32_or_nat _ _ (by omega) (by omega), nat_join 1 _ _ (by omega) (by omega)]
        omega
      clear hoe hrs ec
      go_wp2
      go_round
      case rel =>
        refine ⟨k + 1, by omega, by go_num, vint ?_⟩
        rw [HR.out]
        simp
      case measure => simp [intOf]; omega
    · obtain rfl : k = n := by omega
      go_wp2
      go_ret
      exact ⟨rfl, rfl⟩

theorem reverse_any (v : Nat) (n : Int) (w : World) (hv : v < 4294967296) :
    Calls Try.prog 34 #[.int .u32 v, .int .i64 n] w fun e w' => e = .returned (.int .u32 (revV v n : Int)) ∧ w = w' := by
  by_cases h : n < 0 ∨ 32 < n
  · rw [show ((revV v n : Nat) : Int) = 0 by unfold revV; rw [if_pos h]; rfl]
    exact reverse_no _ n w h
  · obtain ⟨k, rfl⟩ : ∃ k : Nat, n = k := ⟨n.toNat, by omega⟩
    rw [show revV v k = rev v k by unfold revV; rw [if_neg h]; rfl]
    exact reverse_yes v k w hv (by omega)
theorem refReverse_any (v : Nat) (n : Int) (w : World) (hv : v < 4294967296) :
    Calls Try.prog 28 #[.int .u32 v, .int .i64 n] w fun e w' => e = .returned (.int .u32 (revV v n : Int)) ∧ w = w' := by
  by_cases h : n < 0 ∨ 32 < n
  · rw [show ((revV v n : Nat) : Int) = 0 by unfold revV; rw [if_pos h]; rfl]
    exact refReverse_no _ n w h
  · obtain ⟨k, rfl⟩ : ∃ k : Nat, n = k := ⟨n.toNat, by omega⟩
    rw [show revV v k = rev v k by unfold revV; rw [if_neg h]; rfl]
    exact refReverse_yes v k w hv (by omega)
theorem rev_top (v k : Nat) : rev v (k + 1) = rev (v / 2) k + v % 2 * 2 ^ k := by
  induction k generalizing v with
  | zero => simp [rev]
  | succ k ih =>
    rw [rev, ih v, show v / 2 ^ (k + 1) = v / 2 / 2 ^ k by rw [Nat.pow_succ, Nat.div_div_eq_div_mul, Nat.mul_comm]]
    rw [rev, Nat.pow_succ, ← Nat.mul_assoc]
    omega
theorem rev_rev (v n : Nat) : rev (rev v n) n = v % 2 ^ n := by
  induction n with
  | zero => simp [rev, Nat.mod_one]
  | succ k ih =>
    rw [rev_top, show rev v (k + 1) = 2 * rev v k + v / 2 ^ k % 2 from rfl, show (2 * rev v k + v / 2 ^ k % 2) / 2 = rev v k by omega, show (2 * rev v k + v / 2 ^ k % 2) % 2 = v / 2 ^ k % 2 by omega, ih, Nat.mod_pow_succ, Nat.mul_comm (2 ^ k)]
theorem revV_yes {v n : Nat} (h : n ≤ 32) : revV v n = rev v n := by unfold revV; rw [if_neg (by omega)]; rfl
theorem revV_lt (v : Nat) (n : Int) : revV v n < 4294967296 := by
  unfold revV
  by_cases h : n < 0 ∨ 32 < n
  · rw [if_pos h]; omega
  · rw [if_neg h]
    have := rev_lt v n.toNat
    have h2 : 2 ^ n.toNat ≤ 2 ^ 32 := pow_le (by omega)
    omega
end Go.Proofs.Ytndneidjnlammaa
