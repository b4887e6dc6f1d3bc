/- Samples of a row, put together again, are its bits. -/
import Derived.Test.YtgpgjpmgnbaneaaKnown
namespace Go.Proofs.Ytgpgjpmgnbaneaa
open Go.RowKit Pl
set_option linter.unusedVariables false

set_option maxRecDepth 100000 in
set_option maxHeartbeats 8000000 in
theorem bits_go1 (a : Option Addr) (len cap d : Nat) (xs : List Int) (w : World) (hl : len ≤ 2048) (hs : SlAt .u8 w a len xs) (hb : Pl.Bytes xs) (hd : depthB d = true) (hv : d = 1) :
    Calls Try.prog 6 #[.slice a len cap, .int .i64 d] w fun e w' => e = .returned (.bool true) ∧ Kept (fun _ => False) w w' := by
  have g1 : decide (2048 < (len : Int)) = false := decide_eq_false (by omega)
  have hxl := hs.1
  have hdn := depthB_nat hd
  have hd1 : 1 ≤ d := by omega
  have hd16 : d ≤ 16 := by omega
  obtain ⟨n, hn⟩ : ∃ n, 8 * len / d = n := ⟨_, rfl⟩
  have hni : 8 * (len : Int) / (d : Int) = (n : Int) := by rw [← hn]; simp
  have hnd : n * d ≤ 8 * len := by rw [← hn]; exact Nat.div_mul_le_self _ _
  have hn1 : n ≤ 16384 := by
    have : n * 1 ≤ n * d := Nat.mul_le_mul_left n hd1
    omega
  have c0 : codeS len d n = 0 := by
    unfold codeS
    rw [if_neg (by rw [hd]; simp), hni, if_neg (by omega)]
  have c2 : codeS len d ((n : Int) + 1) = 2 := by
    unfold codeS
    rw [if_neg (by rw [hd]; simp; omega), hni, if_pos (by omega)]
  have r0 : resS xs d n = smps (nats xs) d n := by unfold resS; rw [hxl, if_pos c0]; simp
  have m16 : ((d : Int) != 16) = true ∨ d = 16 := by
    by_cases h : d = 16
    · exact .inr h
    · exact .inl (by simp; omega)
  have g3 : ¬ (d : Int) = 0 := by omega
  have g4 : ¬ (d : Int) = -1 := by omega
  have g5 : 0 ≤ 8 * (len : Int) := by omega

  have HS := Lib.hid hs
  have C0 := Lib.hid c0
  have C2 := Lib.hid c2
  have R0 := Lib.hid r0
  have HD := Lib.hid hd
  clear hs c0 c2 r0 hn hxl m16 hd
  have q1 : ((d : Int) != 1) = false := by simp; omega
  clear hdn hv
  go_enter Try.func6, Try.ntmps6
  go_wp2_with fail
  refine (known_any _).mono ?_; rintro e w0 ⟨rfl, hk0⟩
  have HS0 := Lib.hid (HS.out.kept hk0 (fun _ _ _ _ => id))
  go_wp2_with fail
  refine (samples_any a len cap d n xs _ hl HS0.out hb).mono ?_
  rw [C0.out, R0.out]
  rintro e w1 ⟨v1, rfl, ho1, hk1, -⟩
  have HS1 := Lib.hid (HS0.out.kept hk1 (fun _ _ _ _ => id))
  have hkw := hk0.then hk1
  obtain ⟨a1, c1, rfl, hs1, -⟩ := ho1.shape
  rw [smps_length] at hs1 ⊢
  have H1 := Lib.hid hs1
  clear ho1 hs1 hk0 hk1 HS HS0
  go_wp2_with fail
  go_loopw [8] (fun i wr => ∃ k : Nat, k ≤ n ∧ i = .int .i64 k ∧ wr = w1) (fun i _ => n - (intOf i).toNat)
  case atStart => exact ⟨0, by omega, rfl, rfl⟩
  case round =>
    obtain ⟨k, hk, rfl, rfl⟩ := hrel
    by_cases hkn : k < n
    · have hpk : (k + 1) * d ≤ n * d := Nat.mul_le_mul_right d hkn
      obtain ⟨p, hp⟩ : ∃ p, k * d = p := ⟨_, rfl⟩
      have hpd : p + d ≤ 8 * len := by rw [Nat.add_mul, hp] at hpk; omega
      have hpi : (k : Int) * (d : Int) = (p : Int) := by rw [← hp]; simp
      obtain ⟨b1, o1, rfl, hc1⟩ := H1.out.2.resolve_left (by omega)
      have y1 := hc1 k hkn
      rw [smps_get _ _ _ _ hkn, hp] at y1
      have hsl := smp_lt (nats xs) p d
      obtain ⟨z, hz⟩ : ∃ z, smp (nats xs) p d = z := ⟨_, rfl⟩
      rw [hz] at y1 hsl
      have hpow : 2 ^ d ≤ 2 ^ 16 := Nat.pow_le_pow_right (by omega) hd16
      have hshl : IntKind.i64.wrap (2 ^ d) = (2 : Int) ^ d := by
        rw [show (2 : Int) ^ d = ((2 ^ d : Nat) : Int) by simp]; exact IntWalk.i64_in _ (by omega)
      have hge : decide ((2 : Int) ^ d ≤ (z : Int)) = false := decide_eq_false (by
        rw [show (2 : Int) ^ d = ((2 ^ d : Nat) : Int) by simp]; omega)
      have hz0 : decide ((z : Int) < 0) = false := decide_eq_false (by omega)
      have hmin : min d 64 = d := by omega
      have HZ := Lib.hid hz
      obtain ⟨b, off, rfl, hc⟩ := HS1.out.2.resolve_left (by omega)
      have HC := Lib.hid hc
      clear hp hpk hc1 hz hpow hsl hc
      go_wp2_with fail
      go_loop [9, 10] (fun v m => ∃ q : Nat, q ≤ d ∧ m = .int .i64 q ∧ v = .int .i64 (smp (nats xs) p q : Int)) (fun _ m => d - (intOf m).toNat)
      case atStart => exact ⟨0, by omega, rfl, rfl⟩
      case round =>
        obtain ⟨q, hq, rfl, rfl⟩ := hrel
        by_cases hqd : q < d
        · obtain ⟨at_, hat⟩ : ∃ z, p + q = z := ⟨_, rfl⟩
          have hati : (p : Int) + (q : Int) = (at_ : Int) := by omega
          have hatl : at_ < 8 * len := by omega
          have hss : smp (nats xs) p (q + 1) = 2 * smp (nats xs) p q + bitAt (nats xs) at_ := by rw [← hat]; rfl
          have hb16 := smp_lt16 (nats xs) p q (by omega)
          obtain ⟨s, hse⟩ : ∃ s, smp (nats xs) p q = s := ⟨_, rfl⟩
          rw [hse] at hss hb16 ⊢
          unfold bitAt at hss
          obtain ⟨j, hj⟩ : ∃ j, at_ / 8 = j := ⟨_, rfl⟩
          obtain ⟨r, hr⟩ : ∃ r, at_ % 8 = r := ⟨_, rfl⟩
          obtain ⟨sh, hsh⟩ : ∃ sh, 7 - r = sh := ⟨_, rfl⟩
          have x0 := HC.out j (by omega)
          rw [nats_get hb] at x0
          have l0 := nats_lt hb j
          rw [hj, hr, hsh] at hss
          obtain ⟨y, hy⟩ : ∃ y, (nats xs).getD j 0 = y := ⟨_, rfl⟩
          rw [hy] at x0 l0 hss
          have hys : y / 2 ^ sh ≤ y := Nat.div_le_self _ _
          obtain ⟨yq, hyq⟩ : ∃ yq, y / 2 ^ sh = yq := ⟨_, rfl⟩
          have hyqi : (y : Int) / 2 ^ sh = (yq : Int) := by rw [← hyq]; simp
          rw [hyq] at hss hys
          have hand : bits BinOp.and IntKind.i64 (yq : Int) 1 = ((yq % 2 : Nat) : Int) := by
            rw [show (1 : Int) = ((1 : Nat) : Int) from rfl, i64_and_nat _ _ (by omega) (by omega), Nat.and_one_is_mod]
          obtain ⟨bt, hbt⟩ : ∃ bt, yq % 2 = bt := ⟨_, rfl⟩
          rw [hbt] at hss hand
          have hji : (at_ : Int) / 8 = (j : Int) := by omega
          have hri2 : (at_ : Int) % 8 = (r : Int) := by omega
          have hshi : (7 : Int) - (r : Int) = (sh : Int) := by omega
          have s14 : min sh 8 = sh := by omega
          have s15 : j < len := by omega
          have s16 : (p : Int) ≤ 20000 := by omega
          have s17 : (q : Int) ≤ 16 := by omega
          have s18 : bt < 2 := by omega
          have HV := Lib.hid hss
          clear hat hj hr hsh hse hy hyq hbt hss
          go_wp2
          go_round
          case rel => exact ⟨q + 1, by omega, by go_num, vint (by rw [HV.out]; omega)⟩
          case measure => simp [intOf]; omega
        · obtain rfl : q = d := by omega
          rw [HZ.out]
          go_wp2
          go_roundw
          case rel => exact ⟨k + 1, by omega, by go_num, by first | trivial | rfl⟩
          case measure => simp [intOf]; omega
    · obtain rfl : k = n := by omega
      go_wp2_with fail
      refine (samples_any a len cap d ((k : Int) + 1) xs _ hl HS1.out hb).mono ?_
      rw [C2.out]
      rintro e w2 ⟨v2, rfl, -, hk2, -⟩
      go_wp2
      go_ret
      exact ⟨rfl, hkw.then hk2⟩
set_option maxRecDepth 100000 in
set_option maxHeartbeats 8000000 in
theorem bits_go2 (a : Option Addr) (len cap d : Nat) (xs : List Int) (w : World) (hl : len ≤ 2048) (hs : SlAt .u8 w a len xs) (hb : Pl.Bytes xs) (hd : depthB d = true) (hv : d = 2) :
    Calls Try.prog 6 #[.slice a len cap, .int .i64 d] w fun e w' => e = .returned (.bool true) ∧ Kept (fun _ => False) w w' := by
  have g1 : decide (2048 < (len : Int)) = false := decide_eq_false (by omega)
  have hxl := hs.1
  have hdn := depthB_nat hd
  have hd1 : 1 ≤ d := by omega
  have hd16 : d ≤ 16 := by omega
  obtain ⟨n, hn⟩ : ∃ n, 8 * len / d = n := ⟨_, rfl⟩
  have hni : 8 * (len : Int) / (d : Int) = (n : Int) := by rw [← hn]; simp
  have hnd : n * d ≤ 8 * len := by rw [← hn]; exact Nat.div_mul_le_self _ _
  have hn1 : n ≤ 16384 := by
    have : n * 1 ≤ n * d := Nat.mul_le_mul_left n hd1
    omega
  have c0 : codeS len d n = 0 := by
    unfold codeS
    rw [if_neg (by rw [hd]; simp), hni, if_neg (by omega)]
  have c2 : codeS len d ((n : Int) + 1) = 2 := by
    unfold codeS
    rw [if_neg (by rw [hd]; simp; omega), hni, if_pos (by omega)]
  have r0 : resS xs d n = smps (nats xs) d n := by unfold resS; rw [hxl, if_pos c0]; simp
  have m16 : ((d : Int) != 16) = true ∨ d = 16 := by
    by_cases h : d = 16
    · exact .inr h
    · exact .inl (by simp; omega)
  have g3 : ¬ (d : Int) = 0 := by omega
  have g4 : ¬ (d : Int) = -1 := by omega
  have g5 : 0 ≤ 8 * (len : Int) := by omega

  have HS := Lib.hid hs
  have C0 := Lib.hid c0
  have C2 := Lib.hid c2
  have R0 := Lib.hid r0
  have HD := Lib.hid hd
  clear hs c0 c2 r0 hn hxl m16 hd
  have q1 : ((d : Int) != 1) = true := by simp; omega
  have q2 : ((d : Int) != 2) = false := by simp; omega
  clear hdn hv
  go_enter Try.func6, Try.ntmps6
  go_wp2_with fail
  refine (known_any _).mono ?_; rintro e w0 ⟨rfl, hk0⟩
  have HS0 := Lib.hid (HS.out.kept hk0 (fun _ _ _ _ => id))
  go_wp2_with fail
  refine (samples_any a len cap d n xs _ hl HS0.out hb).mono ?_
  rw [C0.out, R0.out]
  rintro e w1 ⟨v1, rfl, ho1, hk1, -⟩
  have HS1 := Lib.hid (HS0.out.kept hk1 (fun _ _ _ _ => id))
  have hkw := hk0.then hk1
  obtain ⟨a1, c1, rfl, hs1, -⟩ := ho1.shape
  rw [smps_length] at hs1 ⊢
  have H1 := Lib.hid hs1
  clear ho1 hs1 hk0 hk1 HS HS0
  go_wp2_with fail
  go_loopw [8] (fun i wr => ∃ k : Nat, k ≤ n ∧ i = .int .i64 k ∧ wr = w1) (fun i _ => n - (intOf i).toNat)
  case atStart => exact ⟨0, by omega, rfl, rfl⟩
  case round =>
    obtain ⟨k, hk, rfl, rfl⟩ := hrel
    by_cases hkn : k < n
    · have hpk : (k + 1) * d ≤ n * d := Nat.mul_le_mul_right d hkn
      obtain ⟨p, hp⟩ : ∃ p, k * d = p := ⟨_, rfl⟩
      have hpd : p + d ≤ 8 * len := by rw [Nat.add_mul, hp] at hpk; omega
      have hpi : (k : Int) * (d : Int) = (p : Int) := by rw [← hp]; simp
      obtain ⟨b1, o1, rfl, hc1⟩ := H1.out.2.resolve_left (by omega)
      have y1 := hc1 k hkn
      rw [smps_get _ _ _ _ hkn, hp] at y1
      have hsl := smp_lt (nats xs) p d
      obtain ⟨z, hz⟩ : ∃ z, smp (nats xs) p d = z := ⟨_, rfl⟩
      rw [hz] at y1 hsl
      have hpow : 2 ^ d ≤ 2 ^ 16 := Nat.pow_le_pow_right (by omega) hd16
      have hshl : IntKind.i64.wrap (2 ^ d) = (2 : Int) ^ d := by
        rw [show (2 : Int) ^ d = ((2 ^ d : Nat) : Int) by simp]; exact IntWalk.i64_in _ (by omega)
      have hge : decide ((2 : Int) ^ d ≤ (z : Int)) = false := decide_eq_false (by
        rw [show (2 : Int) ^ d = ((2 ^ d : Nat) : Int) by simp]; omega)
      have hz0 : decide ((z : Int) < 0) = false := decide_eq_false (by omega)
      have hmin : min d 64 = d := by omega
      have HZ := Lib.hid hz
      obtain ⟨b, off, rfl, hc⟩ := HS1.out.2.resolve_left (by omega)
      have HC := Lib.hid hc
      clear hp hpk hc1 hz hpow hsl hc
      go_wp2_with fail
      go_loop [9, 10] (fun v m => ∃ q : Nat, q ≤ d ∧ m = .int .i64 q ∧ v = .int .i64 (smp (nats xs) p q : Int)) (fun _ m => d - (intOf m).toNat)
      case atStart => exact ⟨0, by omega, rfl, rfl⟩
      case round =>
        obtain ⟨q, hq, rfl, rfl⟩ := hrel
        by_cases hqd : q < d
        · obtain ⟨at_, hat⟩ : ∃ z, p + q = z := ⟨_, rfl⟩
          have hati : (p : Int) + (q : Int) = (at_ : Int) := by omega
          have hatl : at_ < 8 * len := by omega
          have hss : smp (nats xs) p (q + 1) = 2 * smp (nats xs) p q + bitAt (nats xs) at_ := by rw [← hat]; rfl
          have hb16 := smp_lt16 (nats xs) p q (by omega)
          obtain ⟨s, hse⟩ : ∃ s, smp (nats xs) p q = s := ⟨_, rfl⟩
          rw [hse] at hss hb16 ⊢
          unfold bitAt at hss
          obtain ⟨j, hj⟩ : ∃ j, at_ / 8 = j := ⟨_, rfl⟩
          obtain ⟨r, hr⟩ : ∃ r, at_ % 8 = r := ⟨_, rfl⟩
          obtain ⟨sh, hsh⟩ : ∃ sh, 7 - r = sh := ⟨_, rfl⟩
          have x0 := HC.out j (by omega)
          rw [nats_get hb] at x0
          have l0 := nats_lt hb j
          rw [hj, hr, hsh] at hss
          obtain ⟨y, hy⟩ : ∃ y, (nats xs).getD j 0 = y := ⟨_, rfl⟩
          rw [hy] at x0 l0 hss
          have hys : y / 2 ^ sh ≤ y := Nat.div_le_self _ _
          obtain ⟨yq, hyq⟩ : ∃ yq, y / 2 ^ sh = yq := ⟨_, rfl⟩
          have hyqi : (y : Int) / 2 ^ sh = (yq : Int) := by rw [← hyq]; simp
          rw [hyq] at hss hys
          have hand : bits BinOp.and IntKind.i64 (yq : Int) 1 = ((yq % 2 : Nat) : Int) := by
            rw [show (1 : Int) = ((1 : Nat) : Int) from rfl, i64_and_nat _ _ (by omega) (by omega), Nat.and_one_is_mod]
          obtain ⟨bt, hbt⟩ : ∃ bt, yq % 2 = bt := ⟨_, rfl⟩
          rw [hbt] at hss hand
          have hji : (at_ : Int) / 8 = (j : Int) := by omega
          have hri2 : (at_ : Int) % 8 = (r : Int) := by omega
          have hshi : (7 : Int) - (r : Int) = (sh : Int) := by omega
          have s14 : min sh 8 = sh := by omega
          have s15 : j < len := by omega
          have s16 : (p : Int) ≤ 20000 := by omega
          have s17 : (q : Int) ≤ 16 := by omega
          have s18 : bt < 2 := by omega
          have HV := Lib.hid hss
          clear hat hj hr hsh hse hy hyq hbt hss
          go_wp2
          go_round
          case rel => exact ⟨q + 1, by omega, by go_num, vint (by rw [HV.out]; omega)⟩
          case measure => simp [intOf]; omega
        · obtain rfl : q = d := by omega
          rw [HZ.out]
          go_wp2
          go_roundw
          case rel => exact ⟨k + 1, by omega, by go_num, by first | trivial | rfl⟩
          case measure => simp [intOf]; omega
    · obtain rfl : k = n := by omega
      go_wp2_with fail
      refine (samples_any a len cap d ((k : Int) + 1) xs _ hl HS1.out hb).mono ?_
      rw [C2.out]
      rintro e w2 ⟨v2, rfl, -, hk2, -⟩
      go_wp2
      go_ret
      exact ⟨rfl, hkw.then hk2⟩
set_option maxRecDepth 100000 in
set_option maxHeartbeats 8000000 in
theorem bits_go4 (a : Option Addr) (len cap d : Nat) (xs : List Int) (w : World) (hl : len ≤ 2048) (hs : SlAt .u8 w a len xs) (hb : Pl.Bytes xs) (hd : depthB d = true) (hv : d = 4) :
    Calls Try.prog 6 #[.slice a len cap, .int .i64 d] w fun e w' => e = .returned (.bool true) ∧ Kept (fun _ => False) w w' := by
  have g1 : decide (2048 < (len : Int)) = false := decide_eq_false (by omega)
  have hxl := hs.1
  have hdn := depthB_nat hd
  have hd1 : 1 ≤ d := by omega
  have hd16 : d ≤ 16 := by omega
  obtain ⟨n, hn⟩ : ∃ n, 8 * len / d = n := ⟨_, rfl⟩
  have hni : 8 * (len : Int) / (d : Int) = (n : Int) := by rw [← hn]; simp
  have hnd : n * d ≤ 8 * len := by rw [← hn]; exact Nat.div_mul_le_self _ _
  have hn1 : n ≤ 16384 := by
    have : n * 1 ≤ n * d := Nat.mul_le_mul_left n hd1
    omega
  have c0 : codeS len d n = 0 := by
    unfold codeS
    rw [if_neg (by rw [hd]; simp), hni, if_neg (by omega)]
  have c2 : codeS len d ((n : Int) + 1) = 2 := by
    unfold codeS
    rw [if_neg (by rw [hd]; simp; omega), hni, if_pos (by omega)]
  have r0 : resS xs d n = smps (nats xs) d n := by unfold resS; rw [hxl, if_pos c0]; simp
  have m16 : ((d : Int) != 16) = true ∨ d = 16 := by
    by_cases h : d = 16
    · exact .inr h
    · exact .inl (by simp; omega)
  have g3 : ¬ (d : Int) = 0 := by omega
  have g4 : ¬ (d : Int) = -1 := by omega
  have g5 : 0 ≤ 8 * (len : Int) := by omega

  have HS := Lib.hid hs
  have C0 := Lib.hid c0
  have C2 := Lib.hid c2
  have R0 := Lib.hid r0
  have HD := Lib.hid hd
  clear hs c0 c2 r0 hn hxl m16 hd
  have q1 : ((d : Int) != 1) = true := by simp; omega
  have q2 : ((d : Int) != 2) = true := by simp; omega
  have q4 : ((d : Int) != 4) = false := by simp; omega
  clear hdn hv
  go_enter Try.func6, Try.ntmps6
  go_wp2_with fail
  refine (known_any _).mono ?_; rintro e w0 ⟨rfl, hk0⟩
  have HS0 := Lib.hid (HS.out.kept hk0 (fun _ _ _ _ => id))
  go_wp2_with fail
  refine (samples_any a len cap d n xs _ hl HS0.out hb).mono ?_
  rw [C0.out, R0.out]
  rintro e w1 ⟨v1, rfl, ho1, hk1, -⟩
  have HS1 := Lib.hid (HS0.out.kept hk1 (fun _ _ _ _ => id))
  have hkw := hk0.then hk1
  obtain ⟨a1, c1, rfl, hs1, -⟩ := ho1.shape
  rw [smps_length] at hs1 ⊢
  have H1 := Lib.hid hs1
  clear ho1 hs1 hk0 hk1 HS HS0
  go_wp2_with fail
  go_loopw [8] (fun i wr => ∃ k : Nat, k ≤ n ∧ i = .int .i64 k ∧ wr = w1) (fun i _ => n - (intOf i).toNat)
  case atStart => exact ⟨0, by omega, rfl, rfl⟩
  case round =>
    obtain ⟨k, hk, rfl, rfl⟩ := hrel
    by_cases hkn : k < n
    · have hpk : (k + 1) * d ≤ n * d := Nat.mul_le_mul_right d hkn
      obtain ⟨p, hp⟩ : ∃ p, k * d = p := ⟨_, rfl⟩
      have hpd : p + d ≤ 8 * len := by rw [Nat.add_mul, hp] at hpk; omega
      have hpi : (k : Int) * (d : Int) = (p : Int) := by rw [← hp]; simp
      obtain ⟨b1, o1, rfl, hc1⟩ := H1.out.2.resolve_left (by omega)
      have y1 := hc1 k hkn
      rw [smps_get _ _ _ _ hkn, hp] at y1
      have hsl := smp_lt (nats xs) p d
      obtain ⟨z, hz⟩ : ∃ z, smp (nats xs) p d = z := ⟨_, rfl⟩
      rw [hz] at y1 hsl
      have hpow : 2 ^ d ≤ 2 ^ 16 := Nat.pow_le_pow_right (by omega) hd16
      have hshl : IntKind.i64.wrap (2 ^ d) = (2 : Int) ^ d := by
        rw [show (2 : Int) ^ d = ((2 ^ d : Nat) : Int) by simp]; exact IntWalk.i64_in _ (by omega)
      have hge : decide ((2 : Int) ^ d ≤ (z : Int)) = false := decide_eq_false (by
        rw [show (2 : Int) ^ d = ((2 ^ d : Nat) : Int) by simp]; omega)
      have hz0 : decide ((z : Int) < 0) = false := decide_eq_false (by omega)
      have hmin : min d 64 = d := by omega
      have HZ := Lib.hid hz
      obtain ⟨b, off, rfl, hc⟩ := HS1.out.2.resolve_left (by omega)
      have HC := Lib.hid hc
      clear hp hpk hc1 hz hpow hsl hc
      go_wp2_with fail
      go_loop [9, 10] (fun v m => ∃ q : Nat, q ≤ d ∧ m = .int .i64 q ∧ v = .int .i64 (smp (nats xs) p q : Int)) (fun _ m => d - (intOf m).toNat)
      case atStart => exact ⟨0, by omega, rfl, rfl⟩
      case round =>
        obtain ⟨q, hq, rfl, rfl⟩ := hrel
        by_cases hqd : q < d
        · obtain ⟨at_, hat⟩ : ∃ z, p + q = z := ⟨_, rfl⟩
          have hati : (p : Int) + (q : Int) = (at_ : Int) := by omega
          have hatl : at_ < 8 * len := by omega
          have hss : smp (nats xs) p (q + 1) = 2 * smp (nats xs) p q + bitAt (nats xs) at_ := by rw [← hat]; rfl
          have hb16 := smp_lt16 (nats xs) p q (by omega)
          obtain ⟨s, hse⟩ : ∃ s, smp (nats xs) p q = s := ⟨_, rfl⟩
          rw [hse] at hss hb16 ⊢
          unfold bitAt at hss
          obtain ⟨j, hj⟩ : ∃ j, at_ / 8 = j := ⟨_, rfl⟩
          obtain ⟨r, hr⟩ : ∃ r, at_ % 8 = r := ⟨_, rfl⟩
          obtain ⟨sh, hsh⟩ : ∃ sh, 7 - r = sh := ⟨_, rfl⟩
          have x0 := HC.out j (by omega)
          rw [nats_get hb] at x0
          have l0 := nats_lt hb j
          rw [hj, hr, hsh] at hss
          obtain ⟨y, hy⟩ : ∃ y, (nats xs).getD j 0 = y := ⟨_, rfl⟩
          rw [hy] at x0 l0 hss
          have hys : y / 2 ^ sh ≤ y := Nat.div_le_self _ _
          obtain ⟨yq, hyq⟩ : ∃ yq, y / 2 ^ sh = yq := ⟨_, rfl⟩
          have hyqi : (y : Int) / 2 ^ sh = (yq : Int) := by rw [← hyq]; simp
          rw [hyq] at hss hys
          have hand : bits BinOp.and IntKind.i64 (yq : Int) 1 = ((yq % 2 : Nat) : Int) := by
            rw [show (1 : Int) = ((1 : Nat) : Int) from rfl, i64_and_nat _ _ (by omega) (by omega), Nat.and_one_is_mod]
          obtain ⟨bt, hbt⟩ : ∃ bt, yq % 2 = bt := ⟨_, rfl⟩
          rw [hbt] at hss hand
          have hji : (at_ : Int) / 8 = (j : Int) := by omega
          have hri2 : (at_ : Int) % 8 = (r : Int) := by omega
          have hshi : (7 : Int) - (r : Int) = (sh : Int) := by omega
          have s14 : min sh 8 = sh := by omega
          have s15 : j < len := by omega
          have s16 : (p : Int) ≤ 20000 := by omega
          have s17 : (q : Int) ≤ 16 := by omega
          have s18 : bt < 2 := by omega
          have HV := Lib.hid hss
          clear hat hj hr hsh hse hy hyq hbt hss
          go_wp2
          go_round
          case rel => exact ⟨q + 1, by omega, by go_num, vint (by rw [HV.out]; omega)⟩
          case measure => simp [intOf]; omega
        · obtain rfl : q = d := by omega
          rw [HZ.out]
          go_wp2
          go_roundw
          case rel => exact ⟨k + 1, by omega, by go_num, by first | trivial | rfl⟩
          case measure => simp [intOf]; omega
    · obtain rfl : k = n := by omega
      go_wp2_with fail
      refine (samples_any a len cap d ((k : Int) + 1) xs _ hl HS1.out hb).mono ?_
      rw [C2.out]
      rintro e w2 ⟨v2, rfl, -, hk2, -⟩
      go_wp2
      go_ret
      exact ⟨rfl, hkw.then hk2⟩
set_option maxRecDepth 100000 in
set_option maxHeartbeats 8000000 in
theorem bits_go8 (a : Option Addr) (len cap d : Nat) (xs : List Int) (w : World) (hl : len ≤ 2048) (hs : SlAt .u8 w a len xs) (hb : Pl.Bytes xs) (hd : depthB d = true) (hv : d = 8) :
    Calls Try.prog 6 #[.slice a len cap, .int .i64 d] w fun e w' => e = .returned (.bool true) ∧ Kept (fun _ => False) w w' := by
  have g1 : decide (2048 < (len : Int)) = false := decide_eq_false (by omega)
  have hxl := hs.1
  have hdn := depthB_nat hd
  have hd1 : 1 ≤ d := by omega
  have hd16 : d ≤ 16 := by omega
  obtain ⟨n, hn⟩ : ∃ n, 8 * len / d = n := ⟨_, rfl⟩
  have hni : 8 * (len : Int) / (d : Int) = (n : Int) := by rw [← hn]; simp
  have hnd : n * d ≤ 8 * len := by rw [← hn]; exact Nat.div_mul_le_self _ _
  have hn1 : n ≤ 16384 := by
    have : n * 1 ≤ n * d := Nat.mul_le_mul_left n hd1
    omega
  have c0 : codeS len d n = 0 := by
    unfold codeS
    rw [if_neg (by rw [hd]; simp), hni, if_neg (by omega)]
  have c2 : codeS len d ((n : Int) + 1) = 2 := by
    unfold codeS
    rw [if_neg (by rw [hd]; simp; omega), hni, if_pos (by omega)]
  have r0 : resS xs d n = smps (nats xs) d n := by unfold resS; rw [hxl, if_pos c0]; simp
  have m16 : ((d : Int) != 16) = true ∨ d = 16 := by
    by_cases h : d = 16
    · exact .inr h
    · exact .inl (by simp; omega)
  have g3 : ¬ (d : Int) = 0 := by omega
  have g4 : ¬ (d : Int) = -1 := by omega
  have g5 : 0 ≤ 8 * (len : Int) := by omega

  have HS := Lib.hid hs
  have C0 := Lib.hid c0
  have C2 := Lib.hid c2
  have R0 := Lib.hid r0
  have HD := Lib.hid hd
  clear hs c0 c2 r0 hn hxl m16 hd
  have q1 : ((d : Int) != 1) = true := by simp; omega
  have q2 : ((d : Int) != 2) = true := by simp; omega
  have q4 : ((d : Int) != 4) = true := by simp; omega
  have q8 : ((d : Int) != 8) = false := by simp; omega
  clear hdn hv
  go_enter Try.func6, Try.ntmps6
  go_wp2_with fail
  refine (known_any _).mono ?_; rintro e w0 ⟨rfl, hk0⟩
  have HS0 := Lib.hid (HS.out.kept hk0 (fun _ _ _ _ => id))
  go_wp2_with fail
  refine (samples_any a len cap d n xs _ hl HS0.out hb).mono ?_
  rw [C0.out, R0.out]
  rintro e w1 ⟨v1, rfl, ho1, hk1, -⟩
  have HS1 := Lib.hid (HS0.out.kept hk1 (fun _ _ _ _ => id))
  have hkw := hk0.then hk1
  obtain ⟨a1, c1, rfl, hs1, -⟩ := ho1.shape
  rw [smps_length] at hs1 ⊢
  have H1 := Lib.hid hs1
  clear ho1 hs1 hk0 hk1 HS HS0
  go_wp2_with fail
  go_loopw [8] (fun i wr => ∃ k : Nat, k ≤ n ∧ i = .int .i64 k ∧ wr = w1) (fun i _ => n - (intOf i).toNat)
  case atStart => exact ⟨0, by omega, rfl, rfl⟩
  case round =>
    obtain ⟨k, hk, rfl, rfl⟩ := hrel
    by_cases hkn : k < n
    · have hpk : (k + 1) * d ≤ n * d := Nat.mul_le_mul_right d hkn
      obtain ⟨p, hp⟩ : ∃ p, k * d = p := ⟨_, rfl⟩
      have hpd : p + d ≤ 8 * len := by rw [Nat.add_mul, hp] at hpk; omega
      have hpi : (k : Int) * (d : Int) = (p : Int) := by rw [← hp]; simp
      obtain ⟨b1, o1, rfl, hc1⟩ := H1.out.2.resolve_left (by omega)
      have y1 := hc1 k hkn
      rw [smps_get _ _ _ _ hkn, hp] at y1
      have hsl := smp_lt (nats xs) p d
      obtain ⟨z, hz⟩ : ∃ z, smp (nats xs) p d = z := ⟨_, rfl⟩
      rw [hz] at y1 hsl
      have hpow : 2 ^ d ≤ 2 ^ 16 := Nat.pow_le_pow_right (by omega) hd16
      have hshl : IntKind.i64.wrap (2 ^ d) = (2 : Int) ^ d := by
        rw [show (2 : Int) ^ d = ((2 ^ d : Nat) : Int) by simp]; exact IntWalk.i64_in _ (by omega)
      have hge : decide ((2 : Int) ^ d ≤ (z : Int)) = false := decide_eq_false (by
        rw [show (2 : Int) ^ d = ((2 ^ d : Nat) : Int) by simp]; omega)
      have hz0 : decide ((z : Int) < 0) = false := decide_eq_false (by omega)
      have hmin : min d 64 = d := by omega
      have HZ := Lib.hid hz
      obtain ⟨b, off, rfl, hc⟩ := HS1.out.2.resolve_left (by omega)
      have HC := Lib.hid hc
      clear hp hpk hc1 hz hpow hsl hc
      go_wp2_with fail
      go_loop [9, 10] (fun v m => ∃ q : Nat, q ≤ d ∧ m = .int .i64 q ∧ v = .int .i64 (smp (nats xs) p q : Int)) (fun _ m => d - (intOf m).toNat)
      case atStart => exact ⟨0, by omega, rfl, rfl⟩
      case round =>
        obtain ⟨q, hq, rfl, rfl⟩ := hrel
        by_cases hqd : q < d
        · obtain ⟨at_, hat⟩ : ∃ z, p + q = z := ⟨_, rfl⟩
          have hati : (p : Int) + (q : Int) = (at_ : Int) := by omega
          have hatl : at_ < 8 * len := by omega
          have hss : smp (nats xs) p (q + 1) = 2 * smp (nats xs) p q + bitAt (nats xs) at_ := by rw [← hat]; rfl
          have hb16 := smp_lt16 (nats xs) p q (by omega)
          obtain ⟨s, hse⟩ : ∃ s, smp (nats xs) p q = s := ⟨_, rfl⟩
          rw [hse] at hss hb16 ⊢
          unfold bitAt at hss
          obtain ⟨j, hj⟩ : ∃ j, at_ / 8 = j := ⟨_, rfl⟩
          obtain ⟨r, hr⟩ : ∃ r, at_ % 8 = r := ⟨_, rfl⟩
          obtain ⟨sh, hsh⟩ : ∃ sh, 7 - r = sh := ⟨_, rfl⟩
          have x0 := HC.out j (by omega)
          rw [nats_get hb] at x0
          have l0 := nats_lt hb j
          rw [hj, hr, hsh] at hss
          obtain ⟨y, hy⟩ : ∃ y, (nats xs).getD j 0 = y := ⟨_, rfl⟩
          rw [hy] at x0 l0 hss
          have hys : y / 2 ^ sh ≤ y := Nat.div_le_self _ _
          obtain ⟨yq, hyq⟩ : ∃ yq, y / 2 ^ sh = yq := ⟨_, rfl⟩
          have hyqi : (y : Int) / 2 ^ sh = (yq : Int) := by rw [← hyq]; simp
          rw [hyq] at hss hys
          have hand : bits BinOp.and IntKind.i64 (yq : Int) 1 = ((yq % 2 : Nat) : Int) := by
            rw [show (1 : Int) = ((1 : Nat) : Int) from rfl, i64_and_nat _ _ (by omega) (by omega), Nat.and_one_is_mod]
          obtain ⟨bt, hbt⟩ : ∃ bt, yq % 2 = bt := ⟨_, rfl⟩
          rw [hbt] at hss hand
          have hji : (at_ : Int) / 8 = (j : Int) := by omega
          have hri2 : (at_ : Int) % 8 = (r : Int) := by omega
          have hshi : (7 : Int) - (r : Int) = (sh : Int) := by omega
          have s14 : min sh 8 = sh := by omega
          have s15 : j < len := by omega
          have s16 : (p : Int) ≤ 20000 := by omega
          have s17 : (q : Int) ≤ 16 := by omega
          have s18 : bt < 2 := by omega
          have HV := Lib.hid hss
          clear hat hj hr hsh hse hy hyq hbt hss
          go_wp2
          go_round
          case rel => exact ⟨q + 1, by omega, by go_num, vint (by rw [HV.out]; omega)⟩
          case measure => simp [intOf]; omega
        · obtain rfl : q = d := by omega
          rw [HZ.out]
          go_wp2
          go_roundw
          case rel => exact ⟨k + 1, by omega, by go_num, by first | trivial | rfl⟩
          case measure => simp [intOf]; omega
    · obtain rfl : k = n := by omega
      go_wp2_with fail
      refine (samples_any a len cap d ((k : Int) + 1) xs _ hl HS1.out hb).mono ?_
      rw [C2.out]
      rintro e w2 ⟨v2, rfl, -, hk2, -⟩
      go_wp2
      go_ret
      exact ⟨rfl, hkw.then hk2⟩
set_option maxRecDepth 100000 in
set_option maxHeartbeats 8000000 in
theorem bits_go16 (a : Option Addr) (len cap d : Nat) (xs : List Int) (w : World) (hl : len ≤ 2048) (hs : SlAt .u8 w a len xs) (hb : Pl.Bytes xs) (hd : depthB d = true) (hv : d = 16) :
    Calls Try.prog 6 #[.slice a len cap, .int .i64 d] w fun e w' => e = .returned (.bool true) ∧ Kept (fun _ => False) w w' := by
  have g1 : decide (2048 < (len : Int)) = false := decide_eq_false (by omega)
  have hxl := hs.1
  have hdn := depthB_nat hd
  have hd1 : 1 ≤ d := by omega
  have hd16 : d ≤ 16 := by omega
  obtain ⟨n, hn⟩ : ∃ n, 8 * len / d = n := ⟨_, rfl⟩
  have hni : 8 * (len : Int) / (d : Int) = (n : Int) := by rw [← hn]; simp
  have hnd : n * d ≤ 8 * len := by rw [← hn]; exact Nat.div_mul_le_self _ _
  have hn1 : n ≤ 16384 := by
    have : n * 1 ≤ n * d := Nat.mul_le_mul_left n hd1
    omega
  have c0 : codeS len d n = 0 := by
    unfold codeS
    rw [if_neg (by rw [hd]; simp), hni, if_neg (by omega)]
  have c2 : codeS len d ((n : Int) + 1) = 2 := by
    unfold codeS
    rw [if_neg (by rw [hd]; simp; omega), hni, if_pos (by omega)]
  have r0 : resS xs d n = smps (nats xs) d n := by unfold resS; rw [hxl, if_pos c0]; simp
  have m16 : ((d : Int) != 16) = true ∨ d = 16 := by
    by_cases h : d = 16
    · exact .inr h
    · exact .inl (by simp; omega)
  have g3 : ¬ (d : Int) = 0 := by omega
  have g4 : ¬ (d : Int) = -1 := by omega
  have g5 : 0 ≤ 8 * (len : Int) := by omega

  have HS := Lib.hid hs
  have C0 := Lib.hid c0
  have C2 := Lib.hid c2
  have R0 := Lib.hid r0
  have HD := Lib.hid hd
  clear hs c0 c2 r0 hn hxl m16 hd
  have q1 : ((d : Int) != 1) = true := by simp; omega
  have q2 : ((d : Int) != 2) = true := by simp; omega
  have q4 : ((d : Int) != 4) = true := by simp; omega
  have q8 : ((d : Int) != 8) = true := by simp; omega
  have q16 : ((d : Int) != 16) = false := by simp; omega
  clear hdn hv
  go_enter Try.func6, Try.ntmps6
  go_wp2_with fail
  refine (known_any _).mono ?_; rintro e w0 ⟨rfl, hk0⟩
  have HS0 := Lib.hid (HS.out.kept hk0 (fun _ _ _ _ => id))
  go_wp2_with fail
  refine (samples_any a len cap d n xs _ hl HS0.out hb).mono ?_
  rw [C0.out, R0.out]
  rintro e w1 ⟨v1, rfl, ho1, hk1, -⟩
  have HS1 := Lib.hid (HS0.out.kept hk1 (fun _ _ _ _ => id))
  have hkw := hk0.then hk1
  obtain ⟨a1, c1, rfl, hs1, -⟩ := ho1.shape
  rw [smps_length] at hs1 ⊢
  have H1 := Lib.hid hs1
  clear ho1 hs1 hk0 hk1 HS HS0
  go_wp2_with fail
  go_loopw [8] (fun i wr => ∃ k : Nat, k ≤ n ∧ i = .int .i64 k ∧ wr = w1) (fun i _ => n - (intOf i).toNat)
  case atStart => exact ⟨0, by omega, rfl, rfl⟩
  case round =>
    obtain ⟨k, hk, rfl, rfl⟩ := hrel
    by_cases hkn : k < n
    · have hpk : (k + 1) * d ≤ n * d := Nat.mul_le_mul_right d hkn
      obtain ⟨p, hp⟩ : ∃ p, k * d = p := ⟨_, rfl⟩
      have hpd : p + d ≤ 8 * len := by rw [Nat.add_mul, hp] at hpk; omega
      have hpi : (k : Int) * (d : Int) = (p : Int) := by rw [← hp]; simp
      obtain ⟨b1, o1, rfl, hc1⟩ := H1.out.2.resolve_left (by omega)
      have y1 := hc1 k hkn
      rw [smps_get _ _ _ _ hkn, hp] at y1
      have hsl := smp_lt (nats xs) p d
      obtain ⟨z, hz⟩ : ∃ z, smp (nats xs) p d = z := ⟨_, rfl⟩
      rw [hz] at y1 hsl
      have hpow : 2 ^ d ≤ 2 ^ 16 := Nat.pow_le_pow_right (by omega) hd16
      have hshl : IntKind.i64.wrap (2 ^ d) = (2 : Int) ^ d := by
        rw [show (2 : Int) ^ d = ((2 ^ d : Nat) : Int) by simp]; exact IntWalk.i64_in _ (by omega)
      have hge : decide ((2 : Int) ^ d ≤ (z : Int)) = false := decide_eq_false (by
        rw [show (2 : Int) ^ d = ((2 ^ d : Nat) : Int) by simp]; omega)
      have hz0 : decide ((z : Int) < 0) = false := decide_eq_false (by omega)
      have hmin : min d 64 = d := by omega
      have HZ := Lib.hid hz
      obtain ⟨b, off, rfl, hc⟩ := HS1.out.2.resolve_left (by omega)
      have HC := Lib.hid hc
      clear hp hpk hc1 hz hpow hsl hc
      go_wp2_with fail
      go_loop [9, 10] (fun v m => ∃ q : Nat, q ≤ d ∧ m = .int .i64 q ∧ v = .int .i64 (smp (nats xs) p q : Int)) (fun _ m => d - (intOf m).toNat)
      case atStart => exact ⟨0, by omega, rfl, rfl⟩
      case round =>
        obtain ⟨q, hq, rfl, rfl⟩ := hrel
        by_cases hqd : q < d
        · obtain ⟨at_, hat⟩ : ∃ z, p + q = z := ⟨_, rfl⟩
          have hati : (p : Int) + (q : Int) = (at_ : Int) := by omega
          have hatl : at_ < 8 * len := by omega
          have hss : smp (nats xs) p (q + 1) = 2 * smp (nats xs) p q + bitAt (nats xs) at_ := by rw [← hat]; rfl
          have hb16 := smp_lt16 (nats xs) p q (by omega)
          obtain ⟨s, hse⟩ : ∃ s, smp (nats xs) p q = s := ⟨_, rfl⟩
          rw [hse] at hss hb16 ⊢
          unfold bitAt at hss
          obtain ⟨j, hj⟩ : ∃ j, at_ / 8 = j := ⟨_, rfl⟩
          obtain ⟨r, hr⟩ : ∃ r, at_ % 8 = r := ⟨_, rfl⟩
          obtain ⟨sh, hsh⟩ : ∃ sh, 7 - r = sh := ⟨_, rfl⟩
          have x0 := HC.out j (by omega)
          rw [nats_get hb] at x0
          have l0 := nats_lt hb j
          rw [hj, hr, hsh] at hss
          obtain ⟨y, hy⟩ : ∃ y, (nats xs).getD j 0 = y := ⟨_, rfl⟩
          rw [hy] at x0 l0 hss
          have hys : y / 2 ^ sh ≤ y := Nat.div_le_self _ _
          obtain ⟨yq, hyq⟩ : ∃ yq, y / 2 ^ sh = yq := ⟨_, rfl⟩
          have hyqi : (y : Int) / 2 ^ sh = (yq : Int) := by rw [← hyq]; simp
          rw [hyq] at hss hys
          have hand : bits BinOp.and IntKind.i64 (yq : Int) 1 = ((yq % 2 : Nat) : Int) := by
            rw [show (1 : Int) = ((1 : Nat) : Int) from rfl, i64_and_nat _ _ (by omega) (by omega), Nat.and_one_is_mod]
          obtain ⟨bt, hbt⟩ : ∃ bt, yq % 2 = bt := ⟨_, rfl⟩
          rw [hbt] at hss hand
          have hji : (at_ : Int) / 8 = (j : Int) := by omega
          have hri2 : (at_ : Int) % 8 = (r : Int) := by omega
          have hshi : (7 : Int) - (r : Int) = (sh : Int) := by omega
          have s14 : min sh 8 = sh := by omega
          have s15 : j < len := by omega
          have s16 : (p : Int) ≤ 20000 := by omega
          have s17 : (q : Int) ≤ 16 := by omega
          have s18 : bt < 2 := by omega
          have HV := Lib.hid hss
          clear hat hj hr hsh hse hy hyq hbt hss
          go_wp2
          go_round
          case rel => exact ⟨q + 1, by omega, by go_num, vint (by rw [HV.out]; omega)⟩
          case measure => simp [intOf]; omega
        · obtain rfl : q = d := by omega
          rw [HZ.out]
          go_wp2
          go_roundw
          case rel => exact ⟨k + 1, by omega, by go_num, by first | trivial | rfl⟩
          case measure => simp [intOf]; omega
    · obtain rfl : k = n := by omega
      go_wp2_with fail
      refine (samples_any a len cap d ((k : Int) + 1) xs _ hl HS1.out hb).mono ?_
      rw [C2.out]
      rintro e w2 ⟨v2, rfl, -, hk2, -⟩
      go_wp2
      go_ret
      exact ⟨rfl, hkw.then hk2⟩
theorem bits_go (a : Option Addr) (len cap d : Nat) (xs : List Int) (w : World) (hl : len ≤ 2048) (hs : SlAt .u8 w a len xs) (hb : Pl.Bytes xs) (hd : depthB d = true) :
    Calls Try.prog 6 #[.slice a len cap, .int .i64 d] w fun e w' => e = .returned (.bool true) ∧ Kept (fun _ => False) w w' := by
  rcases depthB_nat hd with h | h | h | h | h
  · exact bits_go1 a len cap d xs w hl hs hb hd h
  · exact bits_go2 a len cap d xs w hl hs hb hd h
  · exact bits_go4 a len cap d xs w hl hs hb hd h
  · exact bits_go8 a len cap d xs w hl hs hb hd h
  · exact bits_go16 a len cap d xs w hl hs hb hd h
set_option maxRecDepth 100000 in
set_option maxHeartbeats 4000000 in
theorem bits_early (a : Option Addr) (len cap : Nat) (d : Int) (w : World) (h : 2048 < len ∨ (len ≤ 2048 ∧ depthB d = false)) :
    Calls Try.prog 6 #[.slice a len cap, .int .i64 d] w fun e w' => e = .returned (.bool true) ∧ Kept (fun _ => False) w w' := by
  rcases h with h | ⟨h1, h⟩
  · have g1 : decide (2048 < (len : Int)) = true := decide_eq_true (by omega)
    go_enter Try.func6, Try.ntmps6
    go_wp2_with fail
    refine (known_any _).mono ?_; rintro e w0 ⟨rfl, hk0⟩
    go_wp2
    go_ret
    exact ⟨rfl, hk0⟩
  · have g1 : decide (2048 < (len : Int)) = false := decide_eq_false (by omega)
    have hh := of_decide_eq_false h
    have h1 : (d != 1) = true := by simp; omega
    have h2 : (d != 2) = true := by simp; omega
    have h4 : (d != 4) = true := by simp; omega
    have h8 : (d != 8) = true := by simp; omega
    have h16 : (d != 16) = true := by simp; omega
    clear hh h
    go_enter Try.func6, Try.ntmps6
    go_wp2_with fail
    refine (known_any _).mono ?_; rintro e w0 ⟨rfl, hk0⟩
    go_wp2
    go_ret
    exact ⟨rfl, hk0⟩
theorem law_bits {a : Option Addr} {len cap : Nat} {zs : List Int} {d : Int} {w : World} (f0 : IsRow .u8 w a len cap zs) (f1 : (Lit.int .i64 d).wf = true) :
    Calls Try.prog 6 #[.slice a len cap, .int .i64 d] w fun e w' => e = .returned (.bool true) ∧ Below w.heap.size w w' := by
  refine Calls.mono (R := fun e w' => e = .returned (.bool true) ∧ Kept (fun _ => False) w w') ?_ fun _ _ h => ⟨h.1, h.2.below⟩
  obtain ⟨s, -, -, b, -, -⟩ := f0.slAt
  by_cases h : 2048 < len
  · exact bits_early a len cap d w (.inl h)
  · cases hd : depthB d with
    | false => exact bits_early a len cap d w (.inr ⟨by omega, hd⟩)
    | true =>
      obtain ⟨n, rfl⟩ : ∃ n : Nat, d = n := ⟨d.toNat, by have := depthB_or hd; omega⟩
      exact bits_go a len cap n _ w (by omega) s (bytes_of_wf b) hd
end Go.Proofs.Ytgpgjpmgnbaneaa
