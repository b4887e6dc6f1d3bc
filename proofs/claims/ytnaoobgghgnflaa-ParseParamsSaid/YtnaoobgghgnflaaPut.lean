/- The decoders: what they tell of each byte, of the end, of all bytes. -/
import Derived.Test.YtnaoobgghgnflaaDec
namespace Go.Proofs.Ytnaoobgghgnflaa
open Go.RowKit Pl
set_option linter.unusedVariables false
theorem or_join (x y k : Nat) (hy : y < 2 ^ k) : x * 2 ^ k ||| y = x * 2 ^ k + y := by
  rw [Nat.mul_comm, ← Nat.two_pow_add_eq_or_of_lt hy]
theorem i32_or_nat (a b : Nat) (ha : a < 2147483648) (hb : b < 2147483648) : bits .or .i32 (a : Int) (b : Int) = ((a ||| b : Nat) : Int) := by
  have hx : a ||| b < 2 ^ 31 := Nat.or_lt_two_pow (by omega) (by omega)
  show IntKind.i32.wrap ((BitVec.ofInt 32 (a : Int) ||| BitVec.ofInt 32 (b : Int)).toNat : Int) = _
  rw [BitVec.toNat_or, BitVec.ofInt_natCast, BitVec.ofInt_natCast, BitVec.toNat_ofNat, BitVec.toNat_ofNat, Nat.mod_eq_of_lt (show a < 2 ^ 32 by omega), Nat.mod_eq_of_lt (show b < 2 ^ 32 by omega), IntKind.wrap_i32]
  omega
set_option maxRecDepth 100000 in
set_option maxHeartbeats 2000000 in
theorem put_a (p b : Nat) (s : St) (w : World) (h : DecAt w p s) (hb : b < 256) (hl : s.left = 0) :
    Calls Try.prog 45 #[.pointer (some ⟨p, 0, none⟩), .int .u8 b] w (BeginPost .i32 21 DecAt p (put s b) w) := by
  have e1 : put s b = first b := if_pos hl
  rw [e1]
  obtain ⟨r, lo, hi, h1, -, -⟩ := h
  rw [hl] at h1
  obtain ⟨⟨c0, f0⟩, ⟨c1, f1⟩, ⟨c2, f2⟩, c3, f3⟩ := blk4 h1
  have H := Lib.hid h1
  clear h1 e1 hl
  go_enter Try.func45, Try.ntmps45
  go_wp2_with fail
  refine (begin_any p b (r) (((0 : Nat) : Int)) (lo) (hi) _ H.out hb).mono ?_
  rintro e w1 ⟨v, rfl, h1, h2, h3, h4⟩
  go_wp2
  go_ret
  exact ⟨v, rfl, h1, h2, h3, h4⟩
set_option maxRecDepth 100000 in
set_option maxHeartbeats 4000000 in
theorem put_blo (p b : Nat) (s : St) (w : World) (h : DecAt w p s) (hb : b < 256) (hl : s.left ≠ 0) (hc : b < s.lo) :
    Calls Try.prog 45 #[.pointer (some ⟨p, 0, none⟩), .int .u8 b] w (BeginPost .i32 21 DecAt p (put s b) w) := by
  have e1 : put s b = ((first b).1, bad :: (first b).2) := by
    unfold put; rw [if_neg hl, if_pos (by omega)]
  rw [e1]
  obtain ⟨r, lo, hi, h1, h2, -⟩ := h
  obtain ⟨rfl, rfl, rfl⟩ := h2 (by omega)
  have hpw : p < w.heap.size := lt_of_blk h1
  have hl0 : ¬ (s.left : Int) = 0 := by omega
  have g1 : decide (b < s.lo) = true := decide_eq_true (by omega)
  obtain ⟨⟨c0, f0⟩, ⟨c1, f1⟩, ⟨c2, f2⟩, c3, f3⟩ := blk4 h1
  have H := Lib.hid h1
  have hfl := first_len b
  clear h1 e1 h2 hc hl
  obtain ⟨i0, hi, hz0, hz1, hz2⟩ := info_parts Try.infoI32
  have HI := Lib.hid (And.intro hi (And.intro hz0 (And.intro hz1 hz2)))
  clear hi hz0 hz1 hz2
  go_enter Try.func45, Try.ntmps45
  go_wp2_with (first
    | (go_at_call 48; refine (begin_any p b (0) (0) (0) (0) _ (by (repeat (first | with_reducible exact H.out | with_reducible apply blk_alloc | with_reducible apply blk4_s0 | with_reducible apply blk4_s1 | with_reducible apply blk4_s2 | with_reducible apply blk4_s3))) hb).mono ?_; rintro e w3 ⟨v, rfl, hd3, ho3, hk3, hf3⟩; obtain ⟨a3, cp3, rfl, hs3, -, -, hn3, -⟩ := ho3.shape; have HS3 := Lib.hid hs3; have HN3 := Lib.hid hn3; have HD3 := Lib.hid hd3; have HF3 := Lib.hid hf3; have HL3 := Lib.hid ((Own.lit .i32 (e := 21) _ w.heap.size [65533] _ 1 (by simp) rfl rfl (by omega)).kept hk3 (fun b' hb' hh => by have h9 := Option.some.inj hb'; have h8 : w.heap.size = b' := h9; have h7 : b' = p := hh; omega)); clear ho3 hs3 hn3 hd3 hf3)
    | (at_builtin; refine wpList_appInts rfl (.tmp 30) (.tmp 33) 56 rfl 21 .i32 i0 (.int .i32 0) 4 Try.underlying56 HI.out.1 HI.out.2.1 HI.out.2.2.1 HI.out.2.2.2 rfl (.slice (some ⟨w.heap.size, 0, none⟩) 1 1) [65533] rfl HL3.out a3 (first b).2.length cp3 (first b).2 rfl HN3.out HS3.out (by simp; omega) (by simp [maxLen]; omega) ?_; intro v5 w5 ho5 hk5 hpr5; obtain ⟨a5, cp5, rfl, -⟩ := ho5.shape; have HO5 := Lib.hid ho5; have HP5 := Lib.hid hpr5; clear ho5 hpr5))
  go_ret
  have hkA : Kept (· = p) w w3 := Kept.then (by (repeat (first | with_reducible exact Kept.refl _ _ | with_reducible apply Kept.alloc | with_reducible apply Kept.setAt))) hk3
  have hkB : Kept (· = p) w _ := hkA.trans (hk5.mono (fun i _ hi => Or.inr (by have h9 := Option.some.inj hi; have h8 : w.heap.size = i := h9; omega)))
  refine ⟨_, rfl, HD3.out.kept hk5 (fun hh => by have h9 := Option.some.inj hh; have h8 : w.heap.size = p := h9; omega), HO5.out, hkB, fun b' hb' => ?_⟩
  have hz3 := hkA.size
  rcases HP5.out with h | h
  · have hb2 := h.symm.trans hb'; have h9 := Option.some.inj hb2; have h8 : w.heap.size = b' := h9; omega
  · have hb2 := h.symm.trans hb'; have h9 := Option.some.inj hb2; omega
set_option maxRecDepth 100000 in
set_option maxHeartbeats 4000000 in
theorem put_bhi (p b : Nat) (s : St) (w : World) (h : DecAt w p s) (hb : b < 256) (hl : s.left ≠ 0) (hc : ¬ b < s.lo ∧ s.hi < b) :
    Calls Try.prog 45 #[.pointer (some ⟨p, 0, none⟩), .int .u8 b] w (BeginPost .i32 21 DecAt p (put s b) w) := by
  have e1 : put s b = ((first b).1, bad :: (first b).2) := by
    unfold put; rw [if_neg hl, if_pos (by omega)]
  rw [e1]
  obtain ⟨r, lo, hi, h1, h2, -⟩ := h
  obtain ⟨rfl, rfl, rfl⟩ := h2 (by omega)
  have hpw : p < w.heap.size := lt_of_blk h1
  have hl0 : ¬ (s.left : Int) = 0 := by omega
  have g1 : decide (b < s.lo) = false := decide_eq_false (by omega)
  have g2 : decide (s.hi < b) = true := decide_eq_true (by omega)
  obtain ⟨⟨c0, f0⟩, ⟨c1, f1⟩, ⟨c2, f2⟩, c3, f3⟩ := blk4 h1
  have H := Lib.hid h1
  have hfl := first_len b
  clear h1 e1 h2 hc hl
  obtain ⟨i0, hi, hz0, hz1, hz2⟩ := info_parts Try.infoI32
  have HI := Lib.hid (And.intro hi (And.intro hz0 (And.intro hz1 hz2)))
  clear hi hz0 hz1 hz2
  go_enter Try.func45, Try.ntmps45
  go_wp2_with (first
    | (go_at_call 48; refine (begin_any p b (0) (0) (0) (0) _ (by (repeat (first | with_reducible exact H.out | with_reducible apply blk_alloc | with_reducible apply blk4_s0 | with_reducible apply blk4_s1 | with_reducible apply blk4_s2 | with_reducible apply blk4_s3))) hb).mono ?_; rintro e w3 ⟨v, rfl, hd3, ho3, hk3, hf3⟩; obtain ⟨a3, cp3, rfl, hs3, -, -, hn3, -⟩ := ho3.shape; have HS3 := Lib.hid hs3; have HN3 := Lib.hid hn3; have HD3 := Lib.hid hd3; have HF3 := Lib.hid hf3; have HL3 := Lib.hid ((Own.lit .i32 (e := 21) _ w.heap.size [65533] _ 1 (by simp) rfl rfl (by omega)).kept hk3 (fun b' hb' hh => by have h9 := Option.some.inj hb'; have h8 : w.heap.size = b' := h9; have h7 : b' = p := hh; omega)); clear ho3 hs3 hn3 hd3 hf3)
    | (at_builtin; refine wpList_appInts rfl (.tmp 30) (.tmp 33) 56 rfl 21 .i32 i0 (.int .i32 0) 4 Try.underlying56 HI.out.1 HI.out.2.1 HI.out.2.2.1 HI.out.2.2.2 rfl (.slice (some ⟨w.heap.size, 0, none⟩) 1 1) [65533] rfl HL3.out a3 (first b).2.length cp3 (first b).2 rfl HN3.out HS3.out (by simp; omega) (by simp [maxLen]; omega) ?_; intro v5 w5 ho5 hk5 hpr5; obtain ⟨a5, cp5, rfl, -⟩ := ho5.shape; have HO5 := Lib.hid ho5; have HP5 := Lib.hid hpr5; clear ho5 hpr5))
  go_ret
  have hkA : Kept (· = p) w w3 := Kept.then (by (repeat (first | with_reducible exact Kept.refl _ _ | with_reducible apply Kept.alloc | with_reducible apply Kept.setAt))) hk3
  have hkB : Kept (· = p) w _ := hkA.trans (hk5.mono (fun i _ hi => Or.inr (by have h9 := Option.some.inj hi; have h8 : w.heap.size = i := h9; omega)))
  refine ⟨_, rfl, HD3.out.kept hk5 (fun hh => by have h9 := Option.some.inj hh; have h8 : w.heap.size = p := h9; omega), HO5.out, hkB, fun b' hb' => ?_⟩
  have hz3 := hkA.size
  rcases HP5.out with h | h
  · have hb2 := h.symm.trans hb'; have h9 := Option.some.inj hb2; have h8 : w.heap.size = b' := h9; omega
  · have hb2 := h.symm.trans hb'; have h9 := Option.some.inj hb2; omega
set_option maxRecDepth 100000 in
set_option maxHeartbeats 4000000 in
theorem put_c (p b : Nat) (s : St) (w : World) (h : DecAt w p s) (hb : b < 256) (hl : s.left = 1) (hlo : ¬ (b < s.lo ∨ s.hi < b)) :
    Calls Try.prog 45 #[.pointer (some ⟨p, 0, none⟩), .int .u8 b] w (BeginPost .i32 21 DecAt p (put s b) w) := by
  have hok : OkS s := by obtain ⟨_, _, _, _, _, h⟩ := h; exact h
  have hpv := put_v hok (by omega) b
  have hpo := put_ok hok b
  have e1 : put s b = (⟨0, 0, 0, 0⟩, [((s.v * 64 + b % 64 : Nat) : Int)]) := by
    unfold put; rw [if_neg (by omega), if_neg hlo, if_pos hl]
  rw [e1] at hpo ⊢
  have OK := Lib.hid hpo
  obtain ⟨r, lo, hi, h1, h2, -⟩ := h
  obtain ⟨rfl, rfl, rfl⟩ := h2 (by omega)
  have hl0 : ¬ (s.left : Int) = 0 := by omega
  have hl3 : s.left ≤ 3 := hok.1
  have g1 : decide (b < s.lo) = false := decide_eq_false (by omega)
  have g2 : decide (s.hi < b) = false := decide_eq_false (by omega)
  have hand : bits BinOp.and IntKind.u8 (b : Int) 63 = ((b % 64 : Nat) : Int) := by
    rw [show (63 : Int) = ((63 : Nat) : Int) from rfl, u8_and_nat _ _ (by omega) (by omega), show 63 = 2 ^ 6 - 1 by decide, Nat.and_two_pow_sub_one_eq_mod]
  have hor : bits BinOp.or IntKind.i32 ((s.v : Int) * 64) ((b % 64 : Nat) : Int) = ((s.v * 64 + b % 64 : Nat) : Int) := by
    rw [show (s.v : Int) * 64 = ((s.v * 64 : Nat) : Int) by omega, i32_or_nat _ _ (by omega) (by omega), show s.v * 64 = s.v * 2 ^ 6 by rfl, or_join _ _ 6 (by omega)]
  have hv0 : s.v * 64 < 2097152 := by omega
  obtain ⟨⟨c0, f0⟩, ⟨c1, f1⟩, ⟨c2, f2⟩, c3, f3⟩ := blk4 h1
  have H := Lib.hid h1
  have hl1 : (s.left : Int) = 1 := by omega
  clear h1 e1 h2 hlo hpo hok
  go_enter Try.func45, Try.ntmps45
  go_wp2
  go_ret
  have hle : ((s.left - 1 : Nat) : Int) = (s.left : Int) - 1 := by omega
  refine ⟨_, rfl, ⟨(s.v : Int) * 64 + (b : Int) % 64, 128, 191, ?_, ?_, OK.out⟩, Own.lit .i32 _ _ [((s.v * 64 + b % 64 : Nat) : Int)] _ 1 (by simp) (by simp) rfl (by omega), ?_, (fun b' hb' => by have h9 := Option.some.inj hb'; simp at h9; omega)⟩
  · show _ = some (Obj.cells #[.int .i32 ((s.v : Int) * 64 + (b : Int) % 64), .int .i64 0, .int .u8 128, .int .u8 191] 49 (0, 0))
    skip
    (repeat (first | with_reducible exact H.out | with_reducible apply blk_alloc | with_reducible apply blk4_s0 | with_reducible apply blk4_s1 | with_reducible apply blk4_s2 | with_reducible apply blk4_s3))
  · intro h0; first | (simp at h0; done) | exact ⟨by show _ = ((s.v * 64 + b % 64 : Nat) : Int); omega, rfl, rfl⟩
  · (repeat (first | with_reducible exact Kept.refl _ _ | with_reducible apply Kept.alloc | with_reducible apply Kept.setAt))
set_option maxRecDepth 100000 in
set_option maxHeartbeats 4000000 in
theorem put_d (p b : Nat) (s : St) (w : World) (h : DecAt w p s) (hb : b < 256) (hl : 2 ≤ s.left) (hlo : ¬ (b < s.lo ∨ s.hi < b)) :
    Calls Try.prog 45 #[.pointer (some ⟨p, 0, none⟩), .int .u8 b] w (BeginPost .i32 21 DecAt p (put s b) w) := by
  have hok : OkS s := by obtain ⟨_, _, _, _, _, h⟩ := h; exact h
  have hpv := put_v hok (by omega) b
  have hpo := put_ok hok b
  have e1 : put s b = (⟨s.left - 1, s.v * 64 + b % 64, 128, 191⟩, []) := by
    unfold put; rw [if_neg (by omega), if_neg hlo, if_neg (by omega)]
  rw [e1] at hpo ⊢
  have OK := Lib.hid hpo
  obtain ⟨r, lo, hi, h1, h2, -⟩ := h
  obtain ⟨rfl, rfl, rfl⟩ := h2 (by omega)
  have hl0 : ¬ (s.left : Int) = 0 := by omega
  have hl3 : s.left ≤ 3 := hok.1
  have g1 : decide (b < s.lo) = false := decide_eq_false (by omega)
  have g2 : decide (s.hi < b) = false := decide_eq_false (by omega)
  have hand : bits BinOp.and IntKind.u8 (b : Int) 63 = ((b % 64 : Nat) : Int) := by
    rw [show (63 : Int) = ((63 : Nat) : Int) from rfl, u8_and_nat _ _ (by omega) (by omega), show 63 = 2 ^ 6 - 1 by decide, Nat.and_two_pow_sub_one_eq_mod]
  have hor : bits BinOp.or IntKind.i32 ((s.v : Int) * 64) ((b % 64 : Nat) : Int) = ((s.v * 64 + b % 64 : Nat) : Int) := by
    rw [show (s.v : Int) * 64 = ((s.v * 64 : Nat) : Int) by omega, i32_or_nat _ _ (by omega) (by omega), show s.v * 64 = s.v * 2 ^ 6 by rfl, or_join _ _ 6 (by omega)]
  have hv0 : s.v * 64 < 2097152 := by omega
  obtain ⟨⟨c0, f0⟩, ⟨c1, f1⟩, ⟨c2, f2⟩, c3, f3⟩ := blk4 h1
  have H := Lib.hid h1
  have g3 : decide ((0 : Int) < (s.left : Int) - 1) = true := decide_eq_true (by omega)
  clear h1 e1 h2 hlo hpo hok
  go_enter Try.func45, Try.ntmps45
  go_wp2
  go_ret
  have hle : ((s.left - 1 : Nat) : Int) = (s.left : Int) - 1 := by omega
  refine ⟨_, rfl, ⟨(s.v : Int) * 64 + (b : Int) % 64, 128, 191, ?_, ?_, OK.out⟩, Own.nil _ _ _, ?_, (fun b' hb' => by cases hb')⟩
  · show _ = some (Obj.cells #[.int .i32 ((s.v : Int) * 64 + (b : Int) % 64), .int .i64 ((s.left - 1 : Nat) : Int), .int .u8 128, .int .u8 191] 49 (0, 0))
    rw [hle]
    (repeat (first | with_reducible exact H.out | with_reducible apply blk_alloc | with_reducible apply blk4_s0 | with_reducible apply blk4_s1 | with_reducible apply blk4_s2 | with_reducible apply blk4_s3))
  · intro h0; first | (simp at h0; done) | exact ⟨by show _ = ((s.v * 64 + b % 64 : Nat) : Int); omega, rfl, rfl⟩
  · (repeat (first | with_reducible exact Kept.refl _ _ | with_reducible apply Kept.alloc | with_reducible apply Kept.setAt))
theorem put_any (p b : Nat) (s : St) (w : World) (h : DecAt w p s) (hb : b < 256) :
    Calls Try.prog 45 #[.pointer (some ⟨p, 0, none⟩), .int .u8 b] w (BeginPost .i32 21 DecAt p (put s b) w) := by
  by_cases h0 : s.left = 0
  · exact put_a p b s w h hb h0
  by_cases h1 : b < s.lo
  · exact put_blo p b s w h hb h0 h1
  by_cases h2 : s.hi < b
  · exact put_bhi p b s w h hb h0 ⟨h1, h2⟩
  by_cases h3 : s.left = 1
  · exact put_c p b s w h hb h3 (by omega)
  · exact put_d p b s w h hb (by omega) (by omega)
set_option maxRecDepth 100000 in
set_option maxHeartbeats 1000000 in
theorem waits_any (p : Nat) (s : St) (w : World) (h : DecAt w p s) :
    Calls Try.prog 19 #[.pointer (some ⟨p, 0, none⟩)] w fun en w' => en = .returned (.bool (decide (0 < s.left))) ∧ w = w' := by
  obtain ⟨r, lo, hi, h1, h2, -⟩ := h
  obtain ⟨⟨c0, f0⟩, ⟨c1, f1⟩, ⟨c2, f2⟩, c3, f3⟩ := blk4 h1
  clear h1 h2
  go_enter Try.func19, Try.ntmps19
  go_wp2
  go_ret
  exact ⟨ret_bool (by simp), rfl⟩
set_option maxRecDepth 100000 in
set_option maxHeartbeats 2000000 in
theorem fin_any (p : Nat) (s : St) (w : World) (h : DecAt w p s) :
    Calls Try.prog 33 #[.pointer (some ⟨p, 0, none⟩)] w (BeginPost .i32 21 DecAt p (s0, fin s) w) := by
  have HD := Lib.hid h
  obtain ⟨r, lo, hi, h1, h2, -⟩ := h
  have hpw : p < w.heap.size := lt_of_blk h1
  obtain ⟨⟨c0, f0⟩, ⟨c1, f1⟩, ⟨c2, f2⟩, c3, f3⟩ := blk4 h1
  have H := Lib.hid h1
  clear h1 h2
  by_cases hl : s.left = 0
  · have e1 : fin s = [] := if_pos hl
    have g1 : decide (0 < s.left) = false := decide_eq_false (by omega)
    rw [e1]
    clear e1
    go_enter Try.func33, Try.ntmps33
    go_wp2_with (go_at_call 19; refine (waits_any p s _ HD.out).mono ?_; rintro e w' ⟨rfl, rfl⟩)
    go_ret
    refine ⟨_, rfl, ⟨0, 0, 0, ?_, fun h => absurd h (by simp [s0]), ok0⟩, Own.nil _ _ _, ?_, (fun b' hb' => by cases hb')⟩
    · show _ = some (Obj.cells #[.int .i32 0, .int .i64 0, .int .u8 0, .int .u8 0] 49 (0, 0))
      (repeat (first | with_reducible exact H.out | with_reducible apply blk_alloc | with_reducible apply blk4_s0 | with_reducible apply blk4_s1 | with_reducible apply blk4_s2 | with_reducible apply blk4_s3))
    · (repeat (first | with_reducible exact Kept.refl _ _ | with_reducible apply Kept.alloc | with_reducible apply Kept.setAt))
  · have e1 : fin s = [bad] := if_neg hl
    have g1 : decide (0 < s.left) = true := decide_eq_true (by omega)
    rw [e1]
    clear e1
    go_enter Try.func33, Try.ntmps33
    go_wp2_with (go_at_call 19; refine (waits_any p s _ HD.out).mono ?_; rintro e w' ⟨rfl, rfl⟩)
    go_ret
    refine ⟨_, rfl, ⟨0, 0, 0, ?_, fun h => absurd h (by simp [s0]), ok0⟩, Own.lit .i32 _ _ [bad] _ 1 (by simp) rfl rfl (by omega), ?_, (fun b' hb' => by have h9 := Option.some.inj hb'; simp at h9; omega)⟩
    · show _ = some (Obj.cells #[.int .i32 0, .int .i64 0, .int .u8 0, .int .u8 0] 49 (0, 0))
      (repeat (first | with_reducible exact H.out | with_reducible apply blk_alloc | with_reducible apply blk4_s0 | with_reducible apply blk4_s1 | with_reducible apply blk4_s2 | with_reducible apply blk4_s3))
    · (repeat (first | with_reducible exact Kept.refl _ _ | with_reducible apply Kept.alloc | with_reducible apply Kept.setAt))
end Go.Proofs.Ytnaoobgghgnflaa
