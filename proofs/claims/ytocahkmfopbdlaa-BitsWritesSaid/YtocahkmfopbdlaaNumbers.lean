import Derived.Test.YtocahkmfopbdlaaNums
import Derived.Test.YtocahkmfopbdlaaProducts
namespace Go.Proofs.Ytocahkmfopbdlaa
open Go.RowKit Pl
set_option linter.unusedVariables false
theorem revV_revV (v : Nat) {n : Nat} (h : n ≤ 32) : revV (revV v n) n = v % 2 ^ n := by rw [revV_yes h, revV_yes h, rev_rev]
theorem rr32 {v : Nat} (h : v < 4294967296) : revV (revV v 32) 32 = v := by
  have := revV_revV v (n := 32) (by omega)
  rw [Nat.mod_eq_of_lt (by omega)] at this
  exact this
set_option maxRecDepth 100000 in
set_option maxHeartbeats 2000000 in
theorem numbers_go (a0 a1 : Option Addr) (len0 cap0 len1 cap1 v : Nat) (n : Int) (xs0 xs1 : List Int) (w : World)
    (s0 : SlAt .i64 w a0 len0 xs0) (l0 : len0 ≤ 9223372036854775807) (b0 : ∀ n ∈ xs0, -9223372036854775808 ≤ n ∧ n ≤ 9223372036854775807) (k0 : ∀ b off, 0 < len0 → a0 = some ⟨b, off, none⟩ → b < w.heap.size)
    (s1 : SlAt .u8 w a1 len1 xs1) (l1 : len1 ≤ 9223372036854775807) (b1 : Bytes xs1) (k1 : ∀ b off, 0 < len1 → a1 = some ⟨b, off, none⟩ → b < w.heap.size)
    (hv : v < 4294967296) (hn : -9223372036854775808 ≤ n ∧ n ≤ 9223372036854775807) :
    Calls Try.prog 5 #[.slice a0 len0 cap0, .slice a1 len1 cap1, .int .u32 v, .int .i64 n] w fun e w' => e = .returned (.bool true) ∧ Kept (fun _ => False) w w' := by
  have S0 := Lib.hid s0
  have S1 := Lib.hid s1
  have R1 := Lib.hid (revV_lt v n)
  clear s0 s1
  by_cases g0 : 400 < len0
  · have d0 : decide (400 < (len0 : Int)) = true := by simp; omega
    go_enter Try.func5, Try.ntmps5
    go_wp2_with fail
    refine (known_any _).mono ?_; rintro e w0 ⟨rfl, hk0⟩
    go_wp2
    go_ret
    exact ⟨rfl, hk0⟩
  by_cases g1 : 400 < len1
  · have d0 : decide (400 < (len0 : Int)) = false := by simp; omega
    have d1 : decide (400 < (len1 : Int)) = true := by simp; omega
    go_enter Try.func5, Try.ntmps5
    go_wp2_with fail
    refine (known_any _).mono ?_; rintro e w0 ⟨rfl, hk0⟩
    go_wp2
    go_ret
    exact ⟨rfl, hk0⟩
  have d0 : decide (400 < (len0 : Int)) = false := by simp; omega
  have d1 : decide (400 < (len1 : Int)) = false := by simp; omega
  go_enter Try.func5, Try.ntmps5
  go_wp2_with fail
  refine (known_any _).mono ?_; rintro e w0 ⟨rfl, hk0⟩
  have S0 := Lib.hid (S0.out.kept hk0 (fun _ _ _ _ => id))
  have S1 := Lib.hid (S1.out.kept hk0 (fun _ _ _ _ => id))
  go_wp2_with fail
  refine (mul_any _ _ _ xs0 _ S0.out l0 b0).mono ?_; rintro e w' ⟨rfl, rfl⟩
  go_wp2_with fail
  refine (refMul_any _ _ _ xs0 _ S0.out l0 b0).mono ?_; rintro e w1 ⟨rfl, hm⟩
  have hk1 : Kept (fun _ => False) w0 w1 := by obtain ⟨m, rfl⟩ := hm; exact (Kept.refl _ _).drewN _
  clear hm
  have S1 := Lib.hid (S1.out.kept hk1 (fun _ _ _ _ => id))
  go_wp2_with fail
  refine (big_any _ _ _ xs1 _ S1.out l1 b1).mono ?_; rintro e w2 ⟨rfl, hm⟩
  have hk2 : Kept (fun _ => False) w1 w2 := by obtain ⟨m, rfl⟩ := hm; exact (Kept.refl _ _).drewN _
  clear hm
  have S1 := Lib.hid (S1.out.kept hk2 (fun _ _ _ _ => id))
  go_wp2_with fail
  refine (refBig_any _ _ _ xs1 _ S1.out l1 b1).mono ?_; rintro e w3 ⟨rfl, hm⟩
  have hk3 : Kept (fun _ => False) w2 w3 := by obtain ⟨m, rfl⟩ := hm; exact (Kept.refl _ _).drewN _
  clear hm
  have hk4 : Kept (fun _ => False) w w3 := ((hk0.then hk1).then hk2).then hk3
  clear hk0 hk1 hk2 hk3
  go_wp2_with fail
  refine (reverse_any v n _ hv).mono ?_; rintro e w' ⟨rfl, rfl⟩
  go_wp2_with fail
  refine (refReverse_any v n _ hv).mono ?_; rintro e w' ⟨rfl, rfl⟩
  by_cases h1 : n < 1
  · have hz : revV v n = 0 := by
      unfold revV
      by_cases h : n < 0 ∨ 32 < n
      · rw [if_pos h]
      · rw [if_neg h, show n.toNat = 0 by omega]; rfl
    have d2 : decide (n < 1) = true := by simp; omega
    go_wp2_with fail
    refine (reverse_any v n _ hv).mono ?_; rintro e w' ⟨rfl, rfl⟩
    rw [hz]
    go_wp2
    go_ret
    exact ⟨rfl, hk4⟩
  have d2 : decide (n < 1) = false := by simp; omega
  by_cases h2 : 32 < n
  · have hz : revV v n = 0 := by
      unfold revV
      rw [if_pos (by omega)]
    have d3 : decide (32 < n) = true := by simp; omega
    go_wp2_with fail
    refine (reverse_any v n _ hv).mono ?_; rintro e w' ⟨rfl, rfl⟩
    rw [hz]
    go_wp2
    go_ret
    exact ⟨rfl, hk4⟩
  have d3 : decide (32 < n) = false := by simp; omega
  obtain ⟨k, rfl⟩ : ∃ k : Nat, n = k := ⟨n.toNat, by omega⟩
  by_cases h3 : k < 32
  · have hp : 2 ^ k ≤ 2 ^ 31 := pow_le (by omega)
    have hp0 : 0 < 2 ^ k := Nat.pow_pos (by omega)
    have hmask : bits BinOp.and IntKind.u32 (v : Int) ((2 ^ k - 1) % 4294967296) = ((v % 2 ^ k : Nat) : Int) := by
      rw [show (((2 : Int) ^ k - 1) % 4294967296) = ((2 ^ k - 1 : Nat) : Int) by rw [show (2 : Int) ^ k = ((2 ^ k : Nat) : Int) by simp]; omega, u32_and_nat _ _ (by omega) (by omega), Nat.and_two_pow_sub_one_eq_mod]
    have d4 : decide ((k : Int) < 32) = true := by simp; omega
    have hvm : v % 2 ^ k < 4294967296 := by have := Nat.mod_le v (2 ^ k); omega
    have hq : revV (revV (v % 2 ^ k) k) k = v % 2 ^ k := by rw [revV_revV _ (by omega), Nat.mod_mod]
    obtain ⟨u, hu⟩ : ∃ u, v % 2 ^ k = u := ⟨_, rfl⟩
    rw [hu] at hmask hvm hq
    clear hp hp0 hu
    go_wp2_with fail
    refine (reverse_any u k _ hvm).mono ?_; rintro e w' ⟨rfl, rfl⟩
    go_wp2_with fail
    have hb := reverse_any (revV u k) k w3 (revV_lt _ _)
    rw [hq] at hb
    refine hb.mono ?_; rintro e w' ⟨rfl, rfl⟩
    go_wp2
    go_ret
    exact ⟨rfl, hk4⟩
  · obtain rfl : k = 32 := by omega
    have d4 : decide (((32 : Nat) : Int) < 32) = false := rfl
    go_wp2_with fail
    refine (reverse_any v 32 _ hv).mono ?_; rintro e w' ⟨rfl, rfl⟩
    go_wp2_with fail
    have hb := reverse_any (revV v 32) 32 w3 (revV_lt _ _)
    rw [show revV (revV v 32) 32 = v from rr32 hv] at hb
    refine hb.mono ?_; rintro e w' ⟨rfl, rfl⟩
    go_wp2
    go_ret
    exact ⟨rfl, hk4⟩
theorem u32_of_wf {n : Int} (h : (Lit.int .u32 n).wf = true) : 0 ≤ n ∧ n < 4294967296 := by
  simp [Lit.wf, IntKind.min, IntKind.max, IntKind.signed, IntKind.bits] at h
  omega
theorem u8_of_wf {n : Int} (h : (Lit.int .u8 n).wf = true) : 0 ≤ n ∧ n < 256 := by
  simp [Lit.wf, IntKind.min, IntKind.max, IntKind.signed, IntKind.bits] at h
  omega
theorem bytes_of_wf {xs : List Int} (h : ∀ n ∈ xs, (Lit.int .u8 n).wf = true) : Bytes xs := fun n hn => u8_of_wf (h n hn)
theorem numbers_any {a0 a1 : Option Addr} {len0 cap0 len1 cap1 : Nat} {zs0 zs1 : List Int} {v n : Int} {w : World}
    (f0 : IsRow .i64 w a0 len0 cap0 zs0) (f1 : IsRow .u8 w a1 len1 cap1 zs1) (f2 : (Lit.int .u32 v).wf = true) (f3 : (Lit.int .i64 n).wf = true) :
    Calls Try.prog 5 #[.slice a0 len0 cap0, .slice a1 len1 cap1, .int .u32 v, .int .i64 n] w fun e w' => e = .returned (.bool true) ∧ Below w.heap.size w w' := by
  obtain ⟨s0, c0, m0, b0, l0, -⟩ := f0.slAt
  obtain ⟨s1, c1, m1, b1, l1, -⟩ := f1.slAt
  have h2 := u32_of_wf f2
  obtain ⟨u, rfl⟩ : ∃ u : Nat, v = u := ⟨v.toNat, by omega⟩
  exact (numbers_go a0 a1 len0 cap0 len1 cap1 u n _ _ w s0 (by omega) (fun x hx => int_of_wf (b0 x hx)) l0 s1 (by omega) (bytes_of_wf b1) l1 (by omega) (int_of_wf f3)).mono fun _ _ h => ⟨h.1, h.2.below⟩
end Go.Proofs.Ytocahkmfopbdlaa
