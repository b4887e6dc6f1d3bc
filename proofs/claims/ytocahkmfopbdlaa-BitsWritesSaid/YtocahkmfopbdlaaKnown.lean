/- Reverse, and known: the examples of the chapter. -/
import Derived.Test.YtocahkmfopbdlaaDone
namespace Go.Proofs.Ytocahkmfopbdlaa
open Go.RowKit Pl
set_option linter.unusedVariables false
/-- So many bits, the other way round. -/
def rev (v : Nat) : Nat → Nat
  | 0 => 0
  | k + 1 => 2 * rev v k + v / 2 ^ k % 2
theorem rev_lt (v k : Nat) : rev v k < 2 ^ k := by
  induction k with
  | zero => simp [rev]
  | succ k ih => simp only [rev, Nat.pow_succ]; omega
def revV (v : Nat) (n : Int) : Nat := if n < 0 ∨ 32 < n then 0 else rev v n.toNat
set_option maxRecDepth 100000 in
set_option maxHeartbeats 1000000 in
theorem reverse_no (v n : Int) (w : World) (hn : n < 0 ∨ 32 < n) :
    Calls Try.prog 21 #[.int .u32 v, .int .i64 n] w fun e w' => e = .returned (.int .u32 0) ∧ w = w' := by
  by_cases h1 : n < 0
  · clear hn
    go_enter Try.func21, Try.ntmps21
    go_wp2
    go_ret
    exact ⟨rfl, rfl⟩
  · have h2 : 32 < n := by omega
    clear hn
    go_enter Try.func21, Try.ntmps21
    go_wp2
    go_ret
    exact ⟨rfl, rfl⟩
set_option maxRecDepth 100000 in
set_option maxHeartbeats 1000000 in
theorem reverse_yes (v n : Nat) (w : World) (hv : v < 4294967296) (hn : n ≤ 32) :
    Calls Try.prog 21 #[.int .u32 v, .int .i64 n] w fun e w' => e = .returned (.int .u32 (rev v n : Int)) ∧ w = w' := by
  have ht1 : decide ((n : Int) < 0) = false := by simp
  have ht2 : decide (32 < (n : Int)) = false := by simp; omega
  go_enter Try.func21, Try.ntmps21
  go_wp2
  go_loop [0, 5, 13] (fun x o i => ∃ k : Nat, k ≤ n ∧ i = .int .i64 k ∧ x = .int .u32 (v / 2 ^ k : Nat) ∧ o = .int .u32 (rev v k : Int)) (fun _ _ i => n - (intOf i).toNat)
  case atStart => exact ⟨0, by omega, rfl, by simp, rfl⟩
  case round =>
    obtain ⟨k, hk, rfl, rfl, rfl⟩ := hrel
    by_cases hkn : k < n
    · have hx : v / 2 ^ k ≤ v := Nat.div_le_self _ _
      have hr := rev_lt v k
      have hr2 : 2 ^ k ≤ 2 ^ 31 := pow_le (by omega)
      have hnx : v / 2 ^ (k + 1) = v / 2 ^ k / 2 := by rw [Nat.pow_succ, Nat.div_div_eq_div_mul]
      have hrs : rev v (k + 1) = 2 * rev v k + v / 2 ^ k % 2 := rfl
      obtain ⟨x, hxe⟩ : ∃ x, x = v / 2 ^ k := ⟨_, rfl⟩
      obtain ⟨o, hoe⟩ : ∃ o, o = rev v k := ⟨_, rfl⟩
      rw [← hxe] at hx hnx hrs ⊢
      rw [← hoe] at hr hrs ⊢
      have HN := Lib.hid hnx
      have HR := Lib.hid hrs
      have e1 : bits BinOp.and IntKind.u32 (x : Int) 1 = ((x % 2 : Nat) : Int) := by rw [show (1 : Int) = ((1 : Nat) : Int) from rfl, u32_and_nat _ _ (by omega) (by omega), nat_mask1]
      have e2 : bits BinOp.or IntKind.u32 ((o : Int) * 2) ((x : Int) % 2) = ((2 * o + x % 2 : Nat) : Int) := by
        rw [show ((o : Int) * 2) = ((o * 2 : Nat) : Int) by omega, show ((x : Int) % 2) = ((x % 2 : Nat) : Int) by omega, u32_or_nat _ _ (by omega) (by omega), nat_join 1 _ _ (by omega) (by omega)]
        omega
      clear hxe hoe hnx hrs
      go_wp2
      go_round
      case rel => exact ⟨k + 1, by omega, by go_num, vint (by rw [HN.out]; omega), vint (by rw [HR.out]; first | rfl | omega)⟩
      case measure => simp [intOf]; omega
    · obtain rfl : k = n := by omega
      go_wp2
      go_ret
      exact ⟨rfl, rfl⟩
set_option maxRecDepth 100000 in
set_option maxHeartbeats 2000000 in
theorem known_any (w : World) : Calls Try.prog 9 #[] w fun e w' => e = .returned (.bool true) ∧ Kept (fun _ => False) w w' := by
  go_enter Try.func9, Try.ntmps9
  go_wp2_with fail
  refine (newReader _ _ _ [181, 3] _ (slAt_blk (blk_new _ _) rfl rfl) (fun h => by cases h) (by decide) (by unfold Bytes; decide)).mono ?_
  rintro e w1 ⟨p, o, rfl, hr, hp, ho, hk1⟩
  have HR := Lib.hid hr
  have hkw1 : Kept (fun _ => False) w w1 := ((Kept.refl _ _).alloc _).then hk1
  have hz1 := hk1.size
  simp only [World.size_alloc] at hz1 hp ho
  clear hr hk1
  go_wp2_with fail
  refine (newWriter _).mono ?_
  rintro e w2 ⟨q, rfl, hw, hq, hk2⟩
  have hpl : p < w1.heap.size := by obtain ⟨v, h1, -⟩ := HR.out; exact lt_of_blk h1
  have hol : ∀ b, o = some b → b < w1.heap.size := by obtain ⟨v, h1, h2, h3, -⟩ := HR.out; intro b hb; exact (World.ownsRow.lt h2 b (h3.trans hb)).2
  have HR := Lib.hid (HR.out.kept hk2 id (fun _ _ => id))
  have HW := Lib.hid hw
  have hkw2 := hkw1.then hk2
  clear hw hk2
  go_wp2_with fail
  refine (rbits_yes p o _ 0 3 _ HR.out (by omega) (by simp)).mono ?_
  rw [show ((bitsOf (nats [181, 3]) 0 3 : Nat) : Int) = 5 by decide +kernel]
  rintro e w3 ⟨rfl, hr, hk3⟩
  have HR := Lib.hid hr
  have HW := Lib.hid (HW.out.kept hk3 (by omega) (fun _ h => by cases h))
  have hkw3 : Kept (fun _ => False) w w3 := hkw2.trans (hk3.mono (fun i _ h => Or.inr (by have : i = p := h; omega)))
  clear hr hk3
  go_wp2_with fail
  refine (rbits_yes p o _ _ 7 _ HR.out (by omega) (by simp)).mono ?_
  rw [show ((bitsOf (nats [181, 3]) (0 + 3) 7 : Nat) : Int) = 118 by decide +kernel]
  rintro e w4 ⟨rfl, hr, hk3⟩
  have HR := Lib.hid hr
  have HW := Lib.hid (HW.out.kept hk3 (by omega) (fun _ h => by cases h))
  have hkw4 : Kept (fun _ => False) w w4 := hkw3.trans (hk3.mono (fun i _ h => Or.inr (by have : i = p := h; omega)))
  clear hr hk3
  go_wp2_with fail
  refine (rbits_no p o _ _ 9 _ HR.out (by simp)).mono ?_
  rintro e w5 ⟨rfl, hm⟩
  have hk5 : Kept (fun _ => False) w4 w5 := by obtain ⟨m, rfl⟩ := hm; exact (Kept.refl _ _).drewN _
  have HW := Lib.hid (HW.out.kept hk5 id (fun _ _ => id))
  have hkw5 := hkw4.then hk5
  clear hm hk5
  go_wp2_with fail
  refine (wbits_yes q none 0 0 5 3 _ HW.out (by omega) (by omega) (by omega) (by omega)).mono ?_
  rintro e w6 ⟨rfl, o6, hw, hk6, ho6⟩
  have HW := Lib.hid hw
  have hkw6 : Kept (fun _ => False) w w6 := hkw5.trans (hk6.mono (fun i _ h => Or.inr (by rcases h with h | h; omega; cases h)))
  clear hw hk6
  go_wp2_with fail
  refine (mul_any _ _ _ [3, 4] _ (slAt_blk (blk_new _ _) rfl rfl) (by decide) (by decide)).mono ?_
  rw [show mulGo 1 [3, 4] = (12, true) by decide +kernel]
  rintro e w' ⟨rfl, rfl⟩
  have hkw7 := hkw6.alloc (.cells #[.int .i64 3, .int .i64 4] 3)
  have HW := Lib.hid (HW.out.kept ((Kept.refl (fun _ => False) w6).alloc (.cells #[.int .i64 3, .int .i64 4] 3)) id (fun _ _ => id))
  go_wp2_with fail
  refine (done_any q o6 _ _ _ HW.out (by omega)).mono ?_
  rintro e w8 ⟨v, ds, rfl, hd, hdb, hdv, hdl, hk8, -⟩
  have hkw8 := hkw7.then hk8
  have hds : ds = [5] := by
    have h1 : ds.length = 1 := by simpa using hdl
    match ds, h1 with
    | [x], _ =>
      have h2 := hdb x (by simp)
      have h3 : val (nats [x]) = 5 := by simpa using hdv
      simp [nats, val] at h3
      have : x = 5 := by omega
      rw [this]
  subst hds
  obtain ⟨a, cap, rfl, hsl, -⟩ := hd.shape
  have hcv := run_str (P := Try.prog) (dst := 9) (cap := cap) Try.underlying29 Try.underlying5 Try.underlying9 hsl
  rw [show strOfNums [5] = ⟨#[5]⟩ from rfl] at hcv
  simp only [List.length_singleton] at hcv
  clear hk8 hd hdb hdv hdl
  go_wp2_with fail
  refine (reverse_yes 1 4 _ (by omega) (by omega)).mono ?_
  rw [show ((rev 1 4 : Nat) : Int) = 8 by decide +kernel]
  rintro e w' ⟨rfl, rfl⟩
  go_wp2
  go_ret
  exact ⟨rfl, hkw8⟩
end Go.Proofs.Ytocahkmfopbdlaa
