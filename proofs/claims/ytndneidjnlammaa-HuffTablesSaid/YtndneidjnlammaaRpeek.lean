import Derived.Test.YtndneidjnlammaaRref
namespace Go.Proofs.Ytndneidjnlammaa
open Go.RowKit Pl
set_option linter.unusedVariables false
theorem bit_eq (l : List Nat) (h : Small l) (i : Nat) (hi : i / 8 < l.length) : bitsOf l i 1 = l.getD (i / 8) 0 / 2 ^ (i % 8) % 2 := by
  rw [← peek_eq l h i 1 1 (by omega) (by omega)]
  congr 2
  rw [show (l.drop (i / 8)).take 1 = [l.getD (i / 8) 0] by
    rw [List.drop_eq_getElem_cons hi, List.take_succ_cons, List.take_zero]
    simp [List.getD_eq_getElem?_getD, hi]]
  simp [val]
theorem emod32 (y : Nat) (h : y < 4294967296) : (y : Int) % 4294967296 = y := by omega
theorem bits_succ (l : List Nat) (at_ k : Nat) : bitsOf l at_ (k + 1) = bitsOf l at_ k + bitsOf l (at_ + k) 1 * 2 ^ k := by
  unfold bitsOf
  rw [Nat.mod_pow_succ, Nat.div_div_eq_div_mul, ← Nat.pow_add, Nat.pow_one, Nat.mul_comm (2 ^ k)]
set_option maxRecDepth 100000 in
set_option maxHeartbeats 1000000 in
theorem refBit_any (q : Nat) (a : Option Addr) (len cap at_ i : Nat) (xs : List Int) (w : World) (h : RfAt w q a len cap xs at_) (hi : i < 8 * len) :
    Calls Try.prog 37 #[.pointer (some ⟨q, 0, none⟩), .int .i64 i] w fun e w' => e = .returned (.int .u32 (bitsOf (nats xs) i 1 : Int)) ∧ w = w' := by
  obtain ⟨h1, h2, h3, h4, h5, h6, h7, h8, h9⟩ := h
  have hxl := h2.1
  obtain ⟨⟨c0, -⟩, c1, -⟩ := blk2 h1
  obtain ⟨b, off, rfl, hc⟩ := h2.2.resolve_left (by omega)
  obtain ⟨z, hz, ez, hzn⟩ := h5.at (k := i / 8) (by omega)
  have hcell := hc (i / 8) (by omega)
  rw [ez] at hcell
  have hbe := bit_eq (nats xs) (bytes_small h5) i (by simp [nats]; omega)
  rw [List.getD_eq_getElem?_getD, hzn, Option.getD_some] at hbe
  have hx : z / 2 ^ (i % 8) ≤ z := Nat.div_le_self _ _
  have q1 : (i : Int) / 8 < (len : Int) := by omega
  have q2 : ((i : Int) / 8).toNat = i / 8 := by omega
  have q3 : ((i : Int) % 8).toNat = i % 8 := by omega
  have ec : ((z : Int) / 2 ^ (i % 8)) = ((z / 2 ^ (i % 8) : Nat) : Int) := by simp
  have e1 : bits BinOp.and IntKind.u32 ((z : Int) / 2 ^ (i % 8) % 4294967296) 1 = ((z / 2 ^ (i % 8) % 2 : Nat) : Int) := by rw [ec, emod32 _ (Nat.lt_of_le_of_lt hx (by omega)), show (1 : Int) = ((1 : Nat) : Int) from rfl, u32_and_nat _ _ (by omega) (by omega), nat_mask1]
  rw [hbe]
  clear h1 h2 h3 h4 h5 hc ez hzn hbe ec hx hxl
  go_enter Try.func37, Try.ntmps37
  go_wp2
  go_ret
  exact ⟨rfl, rfl⟩
set_option maxRecDepth 100000 in
set_option maxHeartbeats 1000000 in
theorem refPeek_yes (q : Nat) (a : Option Addr) (len cap at_ n : Nat) (xs : List Int) (w : World) (h : RfAt w q a len cap xs at_) (hn : n ≤ 32) (hl : at_ + n ≤ 8 * len) :
    Calls Try.prog 35 #[.pointer (some ⟨q, 0, none⟩), .int .i64 n] w fun e w' => e = .returned (.tuple #[.int .u32 (bitsOf (nats xs) at_ n : Int), .bool true]) ∧ ∃ n, w' = w.drewN n := by
  have hl4 : len ≤ 400 := h.2.2.2.2.2.2.1
  obtain ⟨⟨c0, -⟩, c1, -⟩ := blk2 h.1
  have H := Lib.hid h
  clear h
  have ht : decide ((8 * (len : Int) - at_) < (n : Int)) = false := by simp; omega
  have ht1 : decide ((n : Int) < 0) = false := by simp
  have ht2 : decide (32 < (n : Int)) = false := by simp; omega
  go_enter Try.func35, Try.ntmps35
  go_wp2_with (go_at_call 36; refine (refLeft_any q a len cap at_ xs _ H.out).mono ?_; rintro e w' ⟨rfl, m0, rfl⟩)
  have H2 := Lib.hid (H.out.kept ((Kept.refl (fun _ => False) w).drewN m0) id (fun _ _ _ _ => id))
  go_loop [6, 7] (fun o i => ∃ k : Nat, k ≤ n ∧ i = .int .i64 k ∧ o = .int .u32 (bitsOf (nats xs) at_ k : Int)) (fun _ i => n - (intOf i).toNat)
  case atStart => exact ⟨0, by omega, rfl, vint (by simp [bitsOf, Nat.mod_one])⟩
  case round =>
    obtain ⟨k, hk, rfl, rfl⟩ := hrel
    by_cases hkn : k < n
    · have hs := bits_succ (nats xs) at_ k
      have ho := bitsOf_lt (nats xs) at_ k
      have hp : 2 ^ k ≤ 2 ^ 31 := pow_le (by omega)
      have hb1 := bitsOf_lt (nats xs) (at_ + k) 1
      have hcall := refBit_any q a len cap at_ (at_ + k) xs (w.drewN m0) H2.out (by omega)
      obtain ⟨o, hoe⟩ : ∃ o, bitsOf (nats xs) at_ k = o := ⟨_, rfl⟩
      obtain ⟨b, hbe⟩ : ∃ b, bitsOf (nats xs) (at_ + k) 1 = b := ⟨_, rfl⟩
      rw [hoe] at hs ho ⊢
      rw [hbe] at hs hb1 hcall
      have HN := Lib.hid hs
      have hb2 : b * 2 ^ k ≤ 2 ^ 31 := by
        have : b * 2 ^ k ≤ 1 * 2 ^ k := Nat.mul_le_mul_right _ (by omega)
        omega
      obtain ⟨c, hc⟩ : ∃ c, at_ + k = c := ⟨_, rfl⟩
      have e1 : (at_ : Int) + k = (c : Int) := by omega
      have hcb : c ≤ 3300 := by omega
      rw [hc] at hcall
      have e2 : bits BinOp.or IntKind.u32 (o : Int) ((b : Int) * 2 ^ k % 4294967296) = ((o + b * 2 ^ k : Nat) : Int) := by
        rw [show (b : Int) * 2 ^ k % 4294967296 = ((b * 2 ^ k : Nat) : Int) by rw [show (b : Int) * 2 ^ k = ((b * 2 ^ k : Nat) : Int) by simp]; omega, u32_or_nat _ _ (by omega) (by omega), or_shift _ _ _ ho]
      have HC := Lib.hid hcall
      clear hs hcall hoe hbe hc
      go_wp2_with fail
      refine HC.out.mono ?_
      rintro e w' ⟨rfl, rfl⟩
      go_wp2
      go_round
      case rel => exact ⟨k + 1, by omega, by go_num, vint (by rw [HN.out]; simp)⟩
      case measure => simp [intOf]; omega
    · obtain rfl : k = n := by omega
      go_wp2
      go_ret2
      exact ⟨rfl, _, rfl⟩
end Go.Proofs.Ytndneidjnlammaa
