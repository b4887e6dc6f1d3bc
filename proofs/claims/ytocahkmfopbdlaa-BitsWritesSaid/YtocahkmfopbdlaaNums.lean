import Derived.Test.YtocahkmfopbdlaaRefMul
namespace Go.Proofs.Ytocahkmfopbdlaa
open Go.RowKit Pl
set_option linter.unusedVariables false
/-- The number that four bytes make, the first one highest. -/
def bigOf (xs : List Int) : Int := bits BinOp.or IntKind.u32 (bits BinOp.or IntKind.u32 (bits BinOp.or IntKind.u32 (xs.getD 0 0 * 16777216) (xs.getD 1 0 * 65536)) (xs.getD 2 0 * 256)) (xs.getD 3 0)
def bigV (xs : List Int) : Int := if xs.length < 4 then 0 else bigOf xs
set_option maxRecDepth 100000 in
set_option maxHeartbeats 1000000 in
theorem big_yes (b off len cap : Nat) (xs : List Int) (w : World) (hs : SlAt .u8 w (some ⟨b, off, none⟩) len xs) (h4 : 4 ≤ len) (hl : len ≤ 9223372036854775807) (hb : Bytes xs) :
    Calls Try.prog 19 #[.slice (some ⟨b, off, none⟩) len cap] w fun e w' => e = .returned (.int .u32 (bigOf xs)) ∧ ∃ n, w' = w.drewN n := by
  have hxl := hs.1
  obtain ⟨b', off', he, hc⟩ := hs.2.resolve_left (by omega)
  cases he
  obtain ⟨z0, h0, e0, -⟩ := hb.at (k := 0) (by omega)
  obtain ⟨z1, h1, e1, -⟩ := hb.at (k := 1) (by omega)
  obtain ⟨z2, h2, e2, -⟩ := hb.at (k := 2) (by omega)
  obtain ⟨z3, h3, e3, -⟩ := hb.at (k := 3) (by omega)
  have c0 := hc 0 (by omega)
  have c1 := hc 1 (by omega)
  have c2 := hc 2 (by omega)
  have c3 := hc 3 (by omega)
  rw [e0, Nat.add_zero] at c0
  rw [e1] at c1
  rw [e2] at c2
  rw [e3] at c3
  have hV : bigOf xs = bits BinOp.or IntKind.u32 (bits BinOp.or IntKind.u32 (bits BinOp.or IntKind.u32 ((z0 : Int) * 16777216) ((z1 : Int) * 65536)) ((z2 : Int) * 256)) (z3 : Int) := by unfold bigOf; rw [e0, e1, e2, e3]
  have HV := Lib.hid hV
  clear hV
  have hcl : (3 : Int) < (len : Int) := by omega
  have hcl2 : (2 : Int) < (len : Int) := by omega
  have hcl1 : (1 : Int) < (len : Int) := by omega
  have hcl0 : (0 : Int) < (len : Int) := by omega
  have hn0 : 0 < len := by omega
  have hn1 : 1 < len := by omega
  have hn2 : 2 < len := by omega
  have hn3 : 3 < len := by omega
  clear hc hs e0 e1 e2 e3 hxl
  go_enter Try.func19, Try.ntmps19
  go_wp2
  go_quiet (fail)
  go_wp2
  go_ret
  exact ⟨ret_int HV.out.symm, _, rfl⟩
set_option maxRecDepth 100000 in
set_option maxHeartbeats 1000000 in
theorem refBig_yes (b off len cap : Nat) (xs : List Int) (w : World) (hs : SlAt .u8 w (some ⟨b, off, none⟩) len xs) (h4 : 4 ≤ len) (hl : len ≤ 9223372036854775807) (hb : Bytes xs) :
    Calls Try.prog 20 #[.slice (some ⟨b, off, none⟩) len cap] w fun e w' => e = .returned (.int .u32 (bigOf xs)) ∧ ∃ n, w' = w.drewN n := by
  have hxl := hs.1
  obtain ⟨b', off', he, hc⟩ := hs.2.resolve_left (by omega)
  cases he
  obtain ⟨z0, h0, e0, -⟩ := hb.at (k := 0) (by omega)
  obtain ⟨z1, h1, e1, -⟩ := hb.at (k := 1) (by omega)
  obtain ⟨z2, h2, e2, -⟩ := hb.at (k := 2) (by omega)
  obtain ⟨z3, h3, e3, -⟩ := hb.at (k := 3) (by omega)
  have c0 := hc 0 (by omega)
  have c1 := hc 1 (by omega)
  have c2 := hc 2 (by omega)
  have c3 := hc 3 (by omega)
  rw [e0, Nat.add_zero] at c0
  rw [e1] at c1
  rw [e2] at c2
  rw [e3] at c3
  have hV : bigOf xs = bits BinOp.or IntKind.u32 (bits BinOp.or IntKind.u32 (bits BinOp.or IntKind.u32 ((z0 : Int) * 16777216) ((z1 : Int) * 65536)) ((z2 : Int) * 256)) (z3 : Int) := by unfold bigOf; rw [e0, e1, e2, e3]
  have HV := Lib.hid hV
  clear hV
  have hcl : (3 : Int) < (len : Int) := by omega
  have hcl2 : (2 : Int) < (len : Int) := by omega
  have hcl1 : (1 : Int) < (len : Int) := by omega
  have hcl0 : (0 : Int) < (len : Int) := by omega
  have hn0 : 0 < len := by omega
  have hn1 : 1 < len := by omega
  have hn2 : 2 < len := by omega
  have hn3 : 3 < len := by omega
  clear hc hs e0 e1 e2 e3 hxl
  go_enter Try.func20, Try.ntmps20
  go_wp2
  go_quiet (fail)
  go_wp2
  go_ret
  exact ⟨ret_int HV.out.symm, _, rfl⟩
set_option maxRecDepth 100000 in
set_option maxHeartbeats 1000000 in
theorem big_no (a : Option Addr) (len cap : Nat) (w : World) (h4 : len < 4) :
    Calls Try.prog 19 #[.slice a len cap] w fun e w' => e = .returned (.int .u32 0) ∧ w = w' := by
  go_enter Try.func19, Try.ntmps19
  go_wp2
  go_ret
  exact ⟨rfl, rfl⟩
set_option maxRecDepth 100000 in
set_option maxHeartbeats 1000000 in
theorem refBig_no (a : Option Addr) (len cap : Nat) (w : World) (h4 : len < 4) :
    Calls Try.prog 20 #[.slice a len cap] w fun e w' => e = .returned (.int .u32 0) ∧ w = w' := by
  go_enter Try.func20, Try.ntmps20
  go_wp2
  go_ret
  exact ⟨rfl, rfl⟩
set_option maxRecDepth 100000 in
set_option maxHeartbeats 1000000 in
theorem refReverse_no (v n : Int) (w : World) (hn : n < 0 ∨ 32 < n) :
    Calls Try.prog 22 #[.int .u32 v, .int .i64 n] w fun e w' => e = .returned (.int .u32 0) ∧ w = w' := by
  by_cases h1 : n < 0
  · clear hn
    go_enter Try.func22, Try.ntmps22
    go_wp2
    go_ret
    exact ⟨rfl, rfl⟩
  · have h2 : 32 < n := by omega
    clear hn
    go_enter Try.func22, Try.ntmps22
    go_wp2
    go_ret
    exact ⟨rfl, rfl⟩
set_option maxRecDepth 100000 in
set_option maxHeartbeats 1000000 in
theorem refReverse_yes (v n : Nat) (w : World) (hv : v < 4294967296) (hn : n ≤ 32) :
    Calls Try.prog 22 #[.int .u32 v, .int .i64 n] w fun e w' => e = .returned (.int .u32 (rev v n : Int)) ∧ w = w' := by
  have ht1 : decide ((n : Int) < 0) = false := by simp
  have ht2 : decide (32 < (n : Int)) = false := by simp; omega
  go_enter Try.func22, Try.ntmps22
  go_wp2
  go_loop [5, 6] (fun o i => ∃ k : Nat, k ≤ n ∧ i = .int .i64 k ∧ o = .int .u32 (rev v k : Int)) (fun _ i => n - (intOf i).toNat)
  case atStart => exact ⟨0, by omega, rfl, rfl⟩
  case round =>
    obtain ⟨k, hk, rfl, rfl⟩ := hrel
    by_cases hkn : k < n
    · have hx : v / 2 ^ k ≤ v := Nat.div_le_self _ _
      have hr := rev_lt v k
      have hr2 : 2 ^ k ≤ 2 ^ 31 := pow_le (by omega)
      have hrs : rev v (k + 1) = 2 * rev v k + v / 2 ^ k % 2 := rfl
      obtain ⟨o, hoe⟩ : ∃ o, o = rev v k := ⟨_, rfl⟩
      rw [← hoe] at hr hrs ⊢
      have HR := Lib.hid hrs
      have ec : ((v : Int) / 2 ^ k) = ((v / 2 ^ k : Nat) : Int) := by simp
      have e1 : bits BinOp.and IntKind.u32 ((v : Int) / 2 ^ k) 1 = ((v / 2 ^ k % 2 : Nat) : Int) := by rw [ec, show (1 : Int) = ((1 : Nat) : Int) from rfl, u32_and_nat _ _ (by omega) (by omega), nat_mask1]
      have e2 : bits BinOp.or IntKind.u32 ((o : Int) * 2) ((v : Int) / 2 ^ k % 2) = ((2 * o + v / 2 ^ k % 2 : Nat) : Int) := by
        rw [ec, show ((o : Int) * 2) = ((o * 2 : Nat) : Int) by omega, show (((v / 2 ^ k : Nat) : Int) % 2) = ((v / 2 ^ k % 2 : Nat) : Int) by omega, u32_or_nat _ _ (by omega) (by omega), nat_join 1 _ _ (by omega) (by omega)]
        omega
      clear hoe hrs ec
      go_wp2
      go_round
      case rel =>
        refine ⟨k + 1, by omega, by go_num, vint ?_⟩
        rw [HR.out]
        simp
      case measure => simp [intOf]; omega
    · obtain rfl : k = n := by omega
      go_wp2
      go_ret
      exact ⟨rfl, rfl⟩

theorem big_any (a : Option Addr) (len cap : Nat) (xs : List Int) (w : World) (hs : SlAt .u8 w a len xs) (hl : len ≤ 9223372036854775807) (hb : Bytes xs) :
    Calls Try.prog 19 #[.slice a len cap] w fun e w' => e = .returned (.int .u32 (bigV xs)) ∧ ∃ n, w' = w.drewN n := by
  have hx := hs.1
  by_cases h4 : len < 4
  · rw [show bigV xs = 0 by unfold bigV; rw [if_pos (by omega)]]
    exact (big_no a len cap w h4).mono fun _ _ h => ⟨h.1, 0, h.2 ▸ rfl⟩
  · rw [show bigV xs = bigOf xs by unfold bigV; rw [if_neg (by omega)]]
    obtain ⟨b, off, rfl, -⟩ := hs.2.resolve_left (by omega)
    exact big_yes b off len cap xs w hs (by omega) hl hb
theorem refBig_any (a : Option Addr) (len cap : Nat) (xs : List Int) (w : World) (hs : SlAt .u8 w a len xs) (hl : len ≤ 9223372036854775807) (hb : Bytes xs) :
    Calls Try.prog 20 #[.slice a len cap] w fun e w' => e = .returned (.int .u32 (bigV xs)) ∧ ∃ n, w' = w.drewN n := by
  have hx := hs.1
  by_cases h4 : len < 4
  · rw [show bigV xs = 0 by unfold bigV; rw [if_pos (by omega)]]
    exact (refBig_no a len cap w h4).mono fun _ _ h => ⟨h.1, 0, h.2 ▸ rfl⟩
  · rw [show bigV xs = bigOf xs by unfold bigV; rw [if_neg (by omega)]]
    obtain ⟨b, off, rfl, -⟩ := hs.2.resolve_left (by omega)
    exact refBig_yes b off len cap xs w hs (by omega) hl hb
theorem reverse_any (v : Nat) (n : Int) (w : World) (hv : v < 4294967296) :
    Calls Try.prog 21 #[.int .u32 v, .int .i64 n] w fun e w' => e = .returned (.int .u32 (revV v n : Int)) ∧ w = w' := by
  by_cases h : n < 0 ∨ 32 < n
  · rw [show ((revV v n : Nat) : Int) = 0 by unfold revV; rw [if_pos h]; rfl]
    exact reverse_no _ n w h
  · obtain ⟨k, rfl⟩ : ∃ k : Nat, n = k := ⟨n.toNat, by omega⟩
    rw [show revV v k = rev v k by unfold revV; rw [if_neg h]; rfl]
    exact reverse_yes v k w hv (by omega)
theorem refReverse_any (v : Nat) (n : Int) (w : World) (hv : v < 4294967296) :
    Calls Try.prog 22 #[.int .u32 v, .int .i64 n] w fun e w' => e = .returned (.int .u32 (revV v n : Int)) ∧ w = w' := by
  by_cases h : n < 0 ∨ 32 < n
  · rw [show ((revV v n : Nat) : Int) = 0 by unfold revV; rw [if_pos h]; rfl]
    exact refReverse_no _ n w h
  · obtain ⟨k, rfl⟩ : ∃ k : Nat, n = k := ⟨n.toNat, by omega⟩
    rw [show revV v k = rev v k by unfold revV; rw [if_neg h]; rfl]
    exact refReverse_yes v k w hv (by omega)
theorem rev_top (v k : Nat) : rev v (k + 1) = rev (v / 2) k + v % 2 * 2 ^ k := by
  induction k generalizing v with
  | zero => simp [rev]
  | succ k ih =>
    rw [rev, ih v, show v / 2 ^ (k + 1) = v / 2 / 2 ^ k by rw [Nat.pow_succ, Nat.div_div_eq_div_mul, Nat.mul_comm]]
    rw [rev, Nat.pow_succ, ← Nat.mul_assoc]
    omega
theorem rev_rev (v n : Nat) : rev (rev v n) n = v % 2 ^ n := by
  induction n with
  | zero => simp [rev, Nat.mod_one]
  | succ k ih =>
    rw [rev_top, show rev v (k + 1) = 2 * rev v k + v / 2 ^ k % 2 from rfl, show (2 * rev v k + v / 2 ^ k % 2) / 2 = rev v k by omega, show (2 * rev v k + v / 2 ^ k % 2) % 2 = v / 2 ^ k % 2 by omega, ih, Nat.mod_pow_succ, Nat.mul_comm (2 ^ k)]
theorem revV_yes {v n : Nat} (h : n ≤ 32) : revV v n = rev v n := by unfold revV; rw [if_neg (by omega)]; rfl
theorem revV_lt (v : Nat) (n : Int) : revV v n < 4294967296 := by
  unfold revV
  by_cases h : n < 0 ∨ 32 < n
  · rw [if_pos h]; omega
  · rw [if_neg h]
    have := rev_lt v n.toNat
    have h2 : 2 ^ n.toNat ≤ 2 ^ 32 := pow_le (by omega)
    omega
end Go.Proofs.Ytocahkmfopbdlaa
