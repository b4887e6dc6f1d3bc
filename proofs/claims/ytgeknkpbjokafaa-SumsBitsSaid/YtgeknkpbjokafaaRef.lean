/- The reference CRC: what it computes. -/
import Derived.Test.YtgeknkpbjokafaaSum
namespace Go.Proofs.Ytgeknkpbjokafaa
open Go.RowKit Pl
set_option linter.unusedVariables false
theorem cbn_succ (j x : Nat) : cbn (j + 1) x = cb (cbn j x) := by rw [cbn_add]; rfl
theorem crcs_succ' {x : Nat} {xs : List Int} {k z : Nat} (hk : k < xs.length) (hz : xs.getD k 0 = (z : Int)) :
    crcs x (nats (xs.take (k + 1))) = cbn 8 (crcs x (nats (xs.take k)) ^^^ z) := by
  rw [nats_succ hk hz, crcs_append]
  rfl
set_option maxHeartbeats 1000000 in
theorem refCrc (len cap : Nat) (a0 : Option Addr) (xs : List Int) (w : World) (hs : SlAt .u8 w a0 len xs)
    (hlen : len ≤ 9223372036854775807) (hr : Bytes xs) :
    Calls Try.prog 12 #[.slice a0 len cap] w fun e w' => e = .returned (.int .u32 (crcV (crcs 4294967295 (nats xs)) : Int)) ∧ w = w' := by
  have hzl : xs.length = len := hs.1
  go_enter Try.func12, Try.ntmps12
  go_wp2
  go_loop [3, 4] (fun s i => ∃ k : Nat, k ≤ len ∧ i = .int .i64 k ∧ s = .int .u32 (crcs 4294967295 (nats (xs.take k)) : Int))
     (fun _ i => len - (intOf i).toNat)
  case atStart => exact ⟨0, Nat.zero_le _, rfl, rfl⟩
  case round =>
    obtain ⟨k, hk, rfl, hs1⟩ := hrel
    have hyb : crcs 4294967295 (nats (xs.take k)) < 4294967296 := crcs_lt _ (by decide) ((hr.take k).nats)
    obtain ⟨y, hy⟩ : ∃ y, y = crcs 4294967295 (nats (xs.take k)) := ⟨_, rfl⟩
    rw [← hy] at hs1 hyb
    have HY := Lib.hid hy
    subst hs1
    clear hy
    by_cases hlt' : k < len
    · obtain ⟨z, hzb, hz1⟩ := hr.at (k := k) (by omega)
      obtain ⟨b, off, rfl, hc⟩ := hs.2.resolve_left (by omega)
      have hcell : w.cell? ⟨b, off + k, none⟩ = some (.int .u8 (z : Int)) := by rw [hc k hlt', hz1]
      have HZ := Lib.hid hz1
      have HS := crcs_succ' (x := 4294967295) (xs := xs) (k := k) (by omega) hz1
      rw [← HY.out] at HS
      obtain ⟨y1, h1⟩ : ∃ y1, y1 = y ^^^ z := ⟨_, rfl⟩
      have hb1 : y1 < 4294967296 := by rw [h1]; exact Nat.xor_lt_two_pow (n := 32) hyb (by omega)
      have e1 : bits BinOp.xor IntKind.u32 (y : Int) (z : Int) = (y1 : Int) := by rw [h1]; exact u32_xor_nat _ _ hyb (by omega)
      rw [← h1] at HS
      have HS := Lib.hid HS
      clear h1 hz1 hc hs
      go_wp2
      go_loop [3, 5] (fun s i => ∃ j : Nat, j ≤ 8 ∧ i = .int .i64 j ∧ s = .int .u32 (cbn j y1 : Int)) (fun _ i => 8 - (intOf i).toNat)
      case atStart => exact ⟨0, Nat.zero_le _, rfl, rfl⟩
      case round =>
        obtain ⟨j, hj, rfl, hs1⟩ := hrel
        have hub : cbn j y1 < 4294967296 := cbn_lt j hb1
        have hsc := cbn_succ j y1
        obtain ⟨u, hu⟩ : ∃ u, u = cbn j y1 := ⟨_, rfl⟩
        rw [← hu] at hs1 hub hsc
        have HU := Lib.hid hu
        have HSC := Lib.hid hsc
        subst hs1
        clear hu hsc e1
        have e2 : bits BinOp.and IntKind.u32 (u : Int) 1 = ((u % 2 : Nat) : Int) := by rw [show (1 : Int) = ((1 : Nat) : Int) from rfl, u32_and_nat _ _ hub (by omega), nat_mask1]
        have e3 : bits BinOp.xor IntKind.u32 ((u : Int) / 2) 3988292384 = ((u / 2 ^^^ 0xEDB88320 : Nat) : Int) := by
          rw [show ((u : Int) / 2) = ((u / 2 : Nat) : Int) by omega]; exact u32_xor_nat _ _ (by omega) (by decide)
        by_cases hj8 : j < 8
        · by_cases hodd : u % 2 = 1
          · have hod : ((u : Int) % 2 == 1) = true := by simp; omega
            go_wp2
            go_round
            case rel => exact ⟨j + 1, by omega, by go_num, by rw [HSC.out]; simp [cb, hodd]⟩
            case measure => simp [intOf]; omega
          · have hod : ((u : Int) % 2 == 1) = false := by simp; omega
            go_wp2
            go_round
            case rel => exact ⟨j + 1, by omega, by go_num, by rw [HSC.out]; simp [cb, hodd]⟩
            case measure => simp [intOf]; omega
        · obtain rfl : j = 8 := by omega
          go_wp2
          go_round
          case rel => exact ⟨k + 1, by omega, by go_num, by rw [HS.out, HU.out]⟩
          case measure => simp [intOf]; omega
    · obtain rfl : k = len := by omega
      have hxs : xs.take k = xs := List.take_of_length_le (by omega)
      go_wp2
      go_ret
      exact ⟨ret_int (by rw [show crcs 4294967295 (nats xs) = y by rw [HY.out, hxs]]; exact u32_xor_nat 4294967295 _ (by omega) hyb), rfl⟩
end Go.Proofs.Ytgeknkpbjokafaa
