/- The decoders: what they tell of a byte where nothing waits. -/
import Derived.Test.YtnaoobgghgnflaaRows
import Derived.Test.YtnaoobgghgnflaaPlain
import Derived.Test.YtnaoobgghgnflaaApp
import Derived.WalkLawsBesides
import Derived.IntWalk
namespace Go.Proofs.Ytnaoobgghgnflaa
open Go.RowKit Pl
set_option linter.unusedVariables false
theorem Try.infoI32 : (Try.prog.info? 21).map (fun i => (i.zero, i.size, i.bytes)) = some (some (.int .i32 0), 1, 4) := by kernel_rfl
theorem Try.infoInt : (Try.prog.info? 3).map (fun i => (i.zero, i.size, i.bytes)) = some (some (.int .i64 0), 1, 8) := by kernel_rfl
section
variable {w : World} {b : Nat} {x y z u : Value} {t : TypeId}
theorem blk4 (h : w.heap[b]? = some (.cells #[x, y, z, u] t (0, 0))) :
    (w.cell? ⟨b, 0, none⟩ = some x ∧ w.frozen? ⟨b, 0, none⟩ = false) ∧ (w.cell? ⟨b, 1, none⟩ = some y ∧ w.frozen? ⟨b, 1, none⟩ = false) ∧ (w.cell? ⟨b, 2, none⟩ = some z ∧ w.frozen? ⟨b, 2, none⟩ = false) ∧ (w.cell? ⟨b, 3, none⟩ = some u ∧ w.frozen? ⟨b, 3, none⟩ = false) :=
  ⟨⟨blk_cell h 0, blk_free h 0⟩, ⟨blk_cell h 1, blk_free h 1⟩, ⟨blk_cell h 2, blk_free h 2⟩, blk_cell h 3, blk_free h 3⟩
theorem blk4_s0 (h : w.heap[b]? = some (.cells #[x, y, z, u] t (0, 0))) (v : Value) : (w.setCell ⟨b, 0, none⟩ v).heap[b]? = some (.cells #[v, y, z, u] t (0, 0)) := by simpa using blk_set h 0 v
theorem blk4_s1 (h : w.heap[b]? = some (.cells #[x, y, z, u] t (0, 0))) (v : Value) : (w.setCell ⟨b, 1, none⟩ v).heap[b]? = some (.cells #[x, v, z, u] t (0, 0)) := by simpa using blk_set h 1 v
theorem blk4_s2 (h : w.heap[b]? = some (.cells #[x, y, z, u] t (0, 0))) (v : Value) : (w.setCell ⟨b, 2, none⟩ v).heap[b]? = some (.cells #[x, y, v, u] t (0, 0)) := by simpa using blk_set h 2 v
theorem blk4_s3 (h : w.heap[b]? = some (.cells #[x, y, z, u] t (0, 0))) (v : Value) : (w.setCell ⟨b, 3, none⟩ v).heap[b]? = some (.cells #[x, y, z, v] t (0, 0)) := by simpa using blk_set h 3 v
end
theorem vint {k : IntKind} {a b : Int} (h : a = b) : Value.int k a = .int k b := by rw [h]
/-- A literal of numbers is a slice of the call's own. -/
theorem Own.lit (k : IntKind) {e : TypeId} (w : World) (g : Nat) (xs : List Int) (C : Array Value) (n : Nat) (hg : g = w.heap.size) (hC : C = (xs.map (Value.int k)).toArray) (hn : xs.length = n) (hm : n ≤ 1000) : Own k e (w.alloc (.cells C e)) (.slice (some ⟨g, 0, none⟩) n n) xs := by
  subst hC hn hg
  refine ⟨by simp, .inr ⟨w.heap.size, xs.length, (xs.map (Value.int k)).toArray, rfl, Nat.zero_le _, blk_new w _, Nat.le_refl _, by unfold maxLen; omega, by simp, by simp [List.take_of_length_le]⟩⟩
theorem i64_and_nat (a b : Nat) (ha : a < 9223372036854775808) (hb : b < 9223372036854775808) : bits .and .i64 (a : Int) (b : Int) = ((a &&& b : Nat) : Int) := by
  have hx : a &&& b < 2 ^ 63 := Nat.and_lt_two_pow _ (by omega)
  show IntKind.i64.wrap ((BitVec.ofInt 64 (a : Int) &&& BitVec.ofInt 64 (b : Int)).toNat : Int) = _
  rw [BitVec.toNat_and, BitVec.ofInt_natCast, BitVec.ofInt_natCast, BitVec.toNat_ofNat, BitVec.toNat_ofNat, Nat.mod_eq_of_lt (show a < 2 ^ 64 by omega), Nat.mod_eq_of_lt (show b < 2 ^ 64 by omega)]
  exact IntWalk.i64_in _ (by omega)
theorem Kept.setAt {a w : World} {p : Nat} (h : Kept (· = p) a w) (i : Nat) (v : Value) : Kept (· = p) a (w.setCell ⟨p, i, none⟩ v) := h.setCell (p := ⟨p, i, none⟩) (.inl rfl) v
/-- The decoder at block p; the reference's. -/
def DecAt (w : World) (p : Nat) (s : St) : Prop :=
  ∃ r lo hi : Int, w.heap[p]? = some (.cells #[.int .i32 r, .int .i64 (s.left : Int), .int .u8 lo, .int .u8 hi] 49 (0, 0)) ∧ (0 < s.left → r = s.v ∧ lo = s.lo ∧ hi = s.hi) ∧ OkS s
theorem DecAt.kept {S : Nat → Prop} {w w' : World} {p : Nat} {s : St} (h : DecAt w p s) (hk : Kept S w w') (hp : ¬ S p) : DecAt w' p s := by
  obtain ⟨r, lo, hi, h1, h2⟩ := h
  exact ⟨r, lo, hi, hk.blk h1 hp, h2⟩
theorem DecAt.lt {w : World} {p : Nat} {s : St} (h : DecAt w p s) : p < w.heap.size := by
  obtain ⟨r, lo, hi, h1, h2⟩ := h
  exact lt_of_blk h1
def BeginPost (k : IntKind) (e : TypeId) (At : World → Nat → St → Prop) (p : Nat) (res : St × List Int) (w : World) (en : Ending) (w' : World) : Prop :=
  ∃ v, en = .returned v ∧ At w' p res.1 ∧ Own k e w' v res.2 ∧ Kept (· = p) w w' ∧ ∀ b, v.ownBlock = some b → w.heap.size ≤ b
set_option maxRecDepth 100000 in
set_option maxHeartbeats 2000000 in
theorem begin_a (p b : Nat) (x0 x1 x2 x3 : Int) (w : World) (h : w.heap[p]? = some (.cells #[.int .i32 x0, .int .i64 x1, .int .u8 x2, .int .u8 x3] 49 (0, 0))) (hb : b < 128) :
    Calls Try.prog 48 #[.pointer (some ⟨p, 0, none⟩), .int .u8 b] w (BeginPost .i32 21 DecAt p (first b) w) := by
  have e1 : first b = (⟨0, 0, 0, 0⟩, [(b : Int)]) := by
    unfold first
    rw [if_pos hb]
  have hok := first_ok b
  rw [e1] at hok ⊢
  have OK := Lib.hid hok
  clear e1 hok
  have lt128 : decide ((b : Int) < (128 : Int)) = true := decide_eq_true (by omega)
  obtain ⟨⟨c0, f0⟩, ⟨c1, f1⟩, ⟨c2, f2⟩, c3, f3⟩ := blk4 h
  have H := Lib.hid h
  clear h
  go_enter Try.func48, Try.ntmps48
  go_wp2
  go_ret
  refine ⟨_, rfl, ⟨0, 128, 191, ?_, ?_, OK.out⟩, Own.lit .i32 _ _ [(b : Int)] _ 1 (by simp) rfl rfl (by omega), ?_, (fun b' hb' => by have h9 := Option.some.inj hb'; simp at h9; omega)⟩
  · show _ = some (Obj.cells #[.int .i32 (0), .int .i64 0, .int .u8 128, .int .u8 191] 49 (0, 0))
    (repeat (first | with_reducible exact H.out | with_reducible apply blk_alloc | with_reducible apply blk4_s0 | with_reducible apply blk4_s1 | with_reducible apply blk4_s2 | with_reducible apply blk4_s3))
  · intro h0; first | (simp at h0; done) | exact ⟨rfl, rfl, rfl⟩ | (refine ⟨?_, ?_, ?_⟩ <;> simp)
  · (repeat (first | with_reducible exact Kept.refl _ _ | with_reducible apply Kept.alloc | with_reducible apply Kept.setAt))
set_option maxRecDepth 100000 in
set_option maxHeartbeats 2000000 in
theorem begin_b (p b : Nat) (x0 x1 x2 x3 : Int) (w : World) (h : w.heap[p]? = some (.cells #[.int .i32 x0, .int .i64 x1, .int .u8 x2, .int .u8 x3] 49 (0, 0))) (hb : 194 ≤ b ∧ b ≤ 223) :
    Calls Try.prog 48 #[.pointer (some ⟨p, 0, none⟩), .int .u8 b] w (BeginPost .i32 21 DecAt p (first b) w) := by
  have e1 : first b = (⟨1, b % 32, 128, 191⟩, []) := by
    unfold first
    rw [if_neg (by omega), if_pos (by omega)]
  have hok := first_ok b
  rw [e1] at hok ⊢
  have OK := Lib.hid hok
  clear e1 hok
  have lt128 : decide ((b : Int) < (128 : Int)) = false := decide_eq_false (by omega)
  have ge194 : decide ((194 : Int) ≤ (b : Int)) = true := decide_eq_true (by omega)
  have le223 : decide ((b : Int) ≤ (223 : Int)) = true := decide_eq_true (by omega)
  have n224 : ¬ (b : Int) = 224 := by omega
  have n237 : ¬ (b : Int) = 237 := by omega
  have n240 : ¬ (b : Int) = 240 := by omega
  have n244 : ¬ (b : Int) = 244 := by omega
  have hand : bits BinOp.and IntKind.u8 (b : Int) 31 = ((b % 32 : Nat) : Int) := by
    rw [show (31 : Int) = ((31 : Nat) : Int) from rfl, u8_and_nat _ _ (by omega) (by omega), show 31 = 2 ^ 5 - 1 by decide, Nat.and_two_pow_sub_one_eq_mod]
  obtain ⟨⟨c0, f0⟩, ⟨c1, f1⟩, ⟨c2, f2⟩, c3, f3⟩ := blk4 h
  have H := Lib.hid h
  clear h
  go_enter Try.func48, Try.ntmps48
  go_wp2
  go_ret
  refine ⟨_, rfl, ⟨(b : Int) % 32, 128, 191, ?_, ?_, OK.out⟩, Own.nil _ _ _, ?_, (fun b' hb' => by cases hb')⟩
  · show _ = some (Obj.cells #[.int .i32 ((b : Int) % 32), .int .i64 1, .int .u8 128, .int .u8 191] 49 (0, 0))
    (repeat (first | with_reducible exact H.out | with_reducible apply blk_alloc | with_reducible apply blk4_s0 | with_reducible apply blk4_s1 | with_reducible apply blk4_s2 | with_reducible apply blk4_s3))
  · intro h0; first | (simp at h0; done) | exact ⟨rfl, rfl, rfl⟩ | (refine ⟨?_, ?_, ?_⟩ <;> simp)
  · (repeat (first | with_reducible exact Kept.refl _ _ | with_reducible apply Kept.alloc | with_reducible apply Kept.setAt))
set_option maxRecDepth 100000 in
set_option maxHeartbeats 2000000 in
theorem begin_c (p b : Nat) (x0 x1 x2 x3 : Int) (w : World) (h : w.heap[p]? = some (.cells #[.int .i32 x0, .int .i64 x1, .int .u8 x2, .int .u8 x3] 49 (0, 0))) (hb : (225 ≤ b ∧ b ≤ 236) ∨ (238 ≤ b ∧ b ≤ 239)) :
    Calls Try.prog 48 #[.pointer (some ⟨p, 0, none⟩), .int .u8 b] w (BeginPost .i32 21 DecAt p (first b) w) := by
  have e1 : first b = (⟨2, b % 16, 128, 191⟩, []) := by
    unfold first
    rw [if_neg (by omega), if_neg (by omega), if_pos (by omega), if_neg (by omega), if_neg (by omega)]
  have hok := first_ok b
  rw [e1] at hok ⊢
  have OK := Lib.hid hok
  clear e1 hok
  have lt128 : decide ((b : Int) < (128 : Int)) = false := decide_eq_false (by omega)
  have ge194 : decide ((194 : Int) ≤ (b : Int)) = true := decide_eq_true (by omega)
  have le223 : decide ((b : Int) ≤ (223 : Int)) = false := decide_eq_false (by omega)
  have ge224 : decide ((224 : Int) ≤ (b : Int)) = true := decide_eq_true (by omega)
  have le239 : decide ((b : Int) ≤ (239 : Int)) = true := decide_eq_true (by omega)
  have n224 : ¬ (b : Int) = 224 := by omega
  have n237 : ¬ (b : Int) = 237 := by omega
  have n240 : ¬ (b : Int) = 240 := by omega
  have n244 : ¬ (b : Int) = 244 := by omega
  have hand : bits BinOp.and IntKind.u8 (b : Int) 15 = ((b % 16 : Nat) : Int) := by
    rw [show (15 : Int) = ((15 : Nat) : Int) from rfl, u8_and_nat _ _ (by omega) (by omega), show 15 = 2 ^ 4 - 1 by decide, Nat.and_two_pow_sub_one_eq_mod]
  obtain ⟨⟨c0, f0⟩, ⟨c1, f1⟩, ⟨c2, f2⟩, c3, f3⟩ := blk4 h
  have H := Lib.hid h
  clear h
  go_enter Try.func48, Try.ntmps48
  go_wp2
  go_ret
  refine ⟨_, rfl, ⟨(b : Int) % 16, 128, 191, ?_, ?_, OK.out⟩, Own.nil _ _ _, ?_, (fun b' hb' => by cases hb')⟩
  · show _ = some (Obj.cells #[.int .i32 ((b : Int) % 16), .int .i64 2, .int .u8 128, .int .u8 191] 49 (0, 0))
    (repeat (first | with_reducible exact H.out | with_reducible apply blk_alloc | with_reducible apply blk4_s0 | with_reducible apply blk4_s1 | with_reducible apply blk4_s2 | with_reducible apply blk4_s3))
  · intro h0; first | (simp at h0; done) | exact ⟨rfl, rfl, rfl⟩ | (refine ⟨?_, ?_, ?_⟩ <;> simp)
  · (repeat (first | with_reducible exact Kept.refl _ _ | with_reducible apply Kept.alloc | with_reducible apply Kept.setAt))
set_option maxRecDepth 100000 in
set_option maxHeartbeats 2000000 in
theorem begin_d (p b : Nat) (x0 x1 x2 x3 : Int) (w : World) (h : w.heap[p]? = some (.cells #[.int .i32 x0, .int .i64 x1, .int .u8 x2, .int .u8 x3] 49 (0, 0))) (hb : 241 ≤ b ∧ b ≤ 243) :
    Calls Try.prog 48 #[.pointer (some ⟨p, 0, none⟩), .int .u8 b] w (BeginPost .i32 21 DecAt p (first b) w) := by
  have e1 : first b = (⟨3, b % 8, 128, 191⟩, []) := by
    unfold first
    rw [if_neg (by omega), if_neg (by omega), if_neg (by omega), if_pos (by omega), if_neg (by omega), if_neg (by omega)]
  have hok := first_ok b
  rw [e1] at hok ⊢
  have OK := Lib.hid hok
  clear e1 hok
  have lt128 : decide ((b : Int) < (128 : Int)) = false := decide_eq_false (by omega)
  have ge194 : decide ((194 : Int) ≤ (b : Int)) = true := decide_eq_true (by omega)
  have le223 : decide ((b : Int) ≤ (223 : Int)) = false := decide_eq_false (by omega)
  have ge224 : decide ((224 : Int) ≤ (b : Int)) = true := decide_eq_true (by omega)
  have le239 : decide ((b : Int) ≤ (239 : Int)) = false := decide_eq_false (by omega)
  have ge240 : decide ((240 : Int) ≤ (b : Int)) = true := decide_eq_true (by omega)
  have le244 : decide ((b : Int) ≤ (244 : Int)) = true := decide_eq_true (by omega)
  have n224 : ¬ (b : Int) = 224 := by omega
  have n237 : ¬ (b : Int) = 237 := by omega
  have n240 : ¬ (b : Int) = 240 := by omega
  have n244 : ¬ (b : Int) = 244 := by omega
  have hand : bits BinOp.and IntKind.u8 (b : Int) 7 = ((b % 8 : Nat) : Int) := by
    rw [show (7 : Int) = ((7 : Nat) : Int) from rfl, u8_and_nat _ _ (by omega) (by omega), show 7 = 2 ^ 3 - 1 by decide, Nat.and_two_pow_sub_one_eq_mod]
  obtain ⟨⟨c0, f0⟩, ⟨c1, f1⟩, ⟨c2, f2⟩, c3, f3⟩ := blk4 h
  have H := Lib.hid h
  clear h
  go_enter Try.func48, Try.ntmps48
  go_wp2
  go_ret
  refine ⟨_, rfl, ⟨(b : Int) % 8, 128, 191, ?_, ?_, OK.out⟩, Own.nil _ _ _, ?_, (fun b' hb' => by cases hb')⟩
  · show _ = some (Obj.cells #[.int .i32 ((b : Int) % 8), .int .i64 3, .int .u8 128, .int .u8 191] 49 (0, 0))
    (repeat (first | with_reducible exact H.out | with_reducible apply blk_alloc | with_reducible apply blk4_s0 | with_reducible apply blk4_s1 | with_reducible apply blk4_s2 | with_reducible apply blk4_s3))
  · intro h0; first | (simp at h0; done) | exact ⟨rfl, rfl, rfl⟩ | (refine ⟨?_, ?_, ?_⟩ <;> simp)
  · (repeat (first | with_reducible exact Kept.refl _ _ | with_reducible apply Kept.alloc | with_reducible apply Kept.setAt))
set_option maxRecDepth 100000 in
set_option maxHeartbeats 2000000 in
theorem begin_e (p b : Nat) (x0 x1 x2 x3 : Int) (w : World) (h : w.heap[p]? = some (.cells #[.int .i32 x0, .int .i64 x1, .int .u8 x2, .int .u8 x3] 49 (0, 0))) (hb : 128 ≤ b ∧ b < 194) :
    Calls Try.prog 48 #[.pointer (some ⟨p, 0, none⟩), .int .u8 b] w (BeginPost .i32 21 DecAt p (first b) w) := by
  have e1 : first b = (⟨0, 0, 0, 0⟩, [bad]) := by
    unfold first
    rw [if_neg (by omega), if_neg (by omega), if_neg (by omega), if_neg (by omega)]
  have hok := first_ok b
  rw [e1] at hok ⊢
  have OK := Lib.hid hok
  clear e1 hok
  have lt128 : decide ((b : Int) < (128 : Int)) = false := decide_eq_false (by omega)
  have ge194 : decide ((194 : Int) ≤ (b : Int)) = false := decide_eq_false (by omega)
  have ge224 : decide ((224 : Int) ≤ (b : Int)) = false := decide_eq_false (by omega)
  have ge240 : decide ((240 : Int) ≤ (b : Int)) = false := decide_eq_false (by omega)
  obtain ⟨⟨c0, f0⟩, ⟨c1, f1⟩, ⟨c2, f2⟩, c3, f3⟩ := blk4 h
  have H := Lib.hid h
  clear h
  go_enter Try.func48, Try.ntmps48
  go_wp2
  go_ret
  refine ⟨_, rfl, ⟨0, 128, 191, ?_, ?_, OK.out⟩, Own.lit .i32 _ _ [bad] _ 1 (by simp) rfl rfl (by omega), ?_, (fun b' hb' => by have h9 := Option.some.inj hb'; simp at h9; omega)⟩
  · show _ = some (Obj.cells #[.int .i32 (0), .int .i64 0, .int .u8 128, .int .u8 191] 49 (0, 0))
    (repeat (first | with_reducible exact H.out | with_reducible apply blk_alloc | with_reducible apply blk4_s0 | with_reducible apply blk4_s1 | with_reducible apply blk4_s2 | with_reducible apply blk4_s3))
  · intro h0; first | (simp at h0; done) | exact ⟨rfl, rfl, rfl⟩ | (refine ⟨?_, ?_, ?_⟩ <;> simp)
  · (repeat (first | with_reducible exact Kept.refl _ _ | with_reducible apply Kept.alloc | with_reducible apply Kept.setAt))
set_option maxRecDepth 100000 in
set_option maxHeartbeats 2000000 in
theorem begin_f (p b : Nat) (x0 x1 x2 x3 : Int) (w : World) (h : w.heap[p]? = some (.cells #[.int .i32 x0, .int .i64 x1, .int .u8 x2, .int .u8 x3] 49 (0, 0))) (hb : 245 ≤ b ∧ b < 256) :
    Calls Try.prog 48 #[.pointer (some ⟨p, 0, none⟩), .int .u8 b] w (BeginPost .i32 21 DecAt p (first b) w) := by
  have e1 : first b = (⟨0, 0, 0, 0⟩, [bad]) := by
    unfold first
    rw [if_neg (by omega), if_neg (by omega), if_neg (by omega), if_neg (by omega)]
  have hok := first_ok b
  rw [e1] at hok ⊢
  have OK := Lib.hid hok
  clear e1 hok
  have lt128 : decide ((b : Int) < (128 : Int)) = false := decide_eq_false (by omega)
  have ge194 : decide ((194 : Int) ≤ (b : Int)) = true := decide_eq_true (by omega)
  have le223 : decide ((b : Int) ≤ (223 : Int)) = false := decide_eq_false (by omega)
  have ge224 : decide ((224 : Int) ≤ (b : Int)) = true := decide_eq_true (by omega)
  have le239 : decide ((b : Int) ≤ (239 : Int)) = false := decide_eq_false (by omega)
  have ge240 : decide ((240 : Int) ≤ (b : Int)) = true := decide_eq_true (by omega)
  have le244 : decide ((b : Int) ≤ (244 : Int)) = false := decide_eq_false (by omega)
  obtain ⟨⟨c0, f0⟩, ⟨c1, f1⟩, ⟨c2, f2⟩, c3, f3⟩ := blk4 h
  have H := Lib.hid h
  clear h
  go_enter Try.func48, Try.ntmps48
  go_wp2
  go_ret
  refine ⟨_, rfl, ⟨0, 128, 191, ?_, ?_, OK.out⟩, Own.lit .i32 _ _ [bad] _ 1 (by simp) rfl rfl (by omega), ?_, (fun b' hb' => by have h9 := Option.some.inj hb'; simp at h9; omega)⟩
  · show _ = some (Obj.cells #[.int .i32 (0), .int .i64 0, .int .u8 128, .int .u8 191] 49 (0, 0))
    (repeat (first | with_reducible exact H.out | with_reducible apply blk_alloc | with_reducible apply blk4_s0 | with_reducible apply blk4_s1 | with_reducible apply blk4_s2 | with_reducible apply blk4_s3))
  · intro h0; first | (simp at h0; done) | exact ⟨rfl, rfl, rfl⟩ | (refine ⟨?_, ?_, ?_⟩ <;> simp)
  · (repeat (first | with_reducible exact Kept.refl _ _ | with_reducible apply Kept.alloc | with_reducible apply Kept.setAt))
set_option maxRecDepth 100000 in
set_option maxHeartbeats 2000000 in
theorem begin_v224 (p : Nat) (x0 x1 x2 x3 : Int) (w : World) (h : w.heap[p]? = some (.cells #[.int .i32 x0, .int .i64 x1, .int .u8 x2, .int .u8 x3] 49 (0, 0))) :
    Calls Try.prog 48 #[.pointer (some ⟨p, 0, none⟩), .int .u8 224] w (BeginPost .i32 21 DecAt p (first 224) w) := by
  have e1 : first 224 = (⟨2, 0, 160, 191⟩, []) := rfl
  have hok := first_ok 224
  rw [e1] at hok ⊢
  have OK := Lib.hid hok
  clear e1 hok
  have hand : bits BinOp.and IntKind.u8 224 15 = 0 := by decide
  obtain ⟨⟨c0, f0⟩, ⟨c1, f1⟩, ⟨c2, f2⟩, c3, f3⟩ := blk4 h
  have H := Lib.hid h
  clear h
  go_enter Try.func48, Try.ntmps48
  go_wp2
  go_ret
  refine ⟨_, rfl, ⟨0, 160, 191, ?_, ?_, OK.out⟩, Own.nil _ _ _, ?_, (fun b' hb' => by cases hb')⟩
  · show _ = some (Obj.cells #[.int .i32 (0), .int .i64 2, .int .u8 160, .int .u8 191] 49 (0, 0))
    (repeat (first | with_reducible exact H.out | with_reducible apply blk_alloc | with_reducible apply blk4_s0 | with_reducible apply blk4_s1 | with_reducible apply blk4_s2 | with_reducible apply blk4_s3))
  · intro h0; first | (simp at h0; done) | exact ⟨rfl, rfl, rfl⟩ | (refine ⟨?_, ?_, ?_⟩ <;> simp)
  · (repeat (first | with_reducible exact Kept.refl _ _ | with_reducible apply Kept.alloc | with_reducible apply Kept.setAt))
set_option maxRecDepth 100000 in
set_option maxHeartbeats 2000000 in
theorem begin_v237 (p : Nat) (x0 x1 x2 x3 : Int) (w : World) (h : w.heap[p]? = some (.cells #[.int .i32 x0, .int .i64 x1, .int .u8 x2, .int .u8 x3] 49 (0, 0))) :
    Calls Try.prog 48 #[.pointer (some ⟨p, 0, none⟩), .int .u8 237] w (BeginPost .i32 21 DecAt p (first 237) w) := by
  have e1 : first 237 = (⟨2, 13, 128, 159⟩, []) := rfl
  have hok := first_ok 237
  rw [e1] at hok ⊢
  have OK := Lib.hid hok
  clear e1 hok
  have hand : bits BinOp.and IntKind.u8 237 15 = 13 := by decide
  obtain ⟨⟨c0, f0⟩, ⟨c1, f1⟩, ⟨c2, f2⟩, c3, f3⟩ := blk4 h
  have H := Lib.hid h
  clear h
  go_enter Try.func48, Try.ntmps48
  go_wp2
  go_ret
  refine ⟨_, rfl, ⟨13, 128, 159, ?_, ?_, OK.out⟩, Own.nil _ _ _, ?_, (fun b' hb' => by cases hb')⟩
  · show _ = some (Obj.cells #[.int .i32 (13), .int .i64 2, .int .u8 128, .int .u8 159] 49 (0, 0))
    (repeat (first | with_reducible exact H.out | with_reducible apply blk_alloc | with_reducible apply blk4_s0 | with_reducible apply blk4_s1 | with_reducible apply blk4_s2 | with_reducible apply blk4_s3))
  · intro h0; first | (simp at h0; done) | exact ⟨rfl, rfl, rfl⟩ | (refine ⟨?_, ?_, ?_⟩ <;> simp)
  · (repeat (first | with_reducible exact Kept.refl _ _ | with_reducible apply Kept.alloc | with_reducible apply Kept.setAt))
set_option maxRecDepth 100000 in
set_option maxHeartbeats 2000000 in
theorem begin_v240 (p : Nat) (x0 x1 x2 x3 : Int) (w : World) (h : w.heap[p]? = some (.cells #[.int .i32 x0, .int .i64 x1, .int .u8 x2, .int .u8 x3] 49 (0, 0))) :
    Calls Try.prog 48 #[.pointer (some ⟨p, 0, none⟩), .int .u8 240] w (BeginPost .i32 21 DecAt p (first 240) w) := by
  have e1 : first 240 = (⟨3, 0, 144, 191⟩, []) := rfl
  have hok := first_ok 240
  rw [e1] at hok ⊢
  have OK := Lib.hid hok
  clear e1 hok
  have hand : bits BinOp.and IntKind.u8 240 7 = 0 := by decide
  obtain ⟨⟨c0, f0⟩, ⟨c1, f1⟩, ⟨c2, f2⟩, c3, f3⟩ := blk4 h
  have H := Lib.hid h
  clear h
  go_enter Try.func48, Try.ntmps48
  go_wp2
  go_ret
  refine ⟨_, rfl, ⟨0, 144, 191, ?_, ?_, OK.out⟩, Own.nil _ _ _, ?_, (fun b' hb' => by cases hb')⟩
  · show _ = some (Obj.cells #[.int .i32 (0), .int .i64 3, .int .u8 144, .int .u8 191] 49 (0, 0))
    (repeat (first | with_reducible exact H.out | with_reducible apply blk_alloc | with_reducible apply blk4_s0 | with_reducible apply blk4_s1 | with_reducible apply blk4_s2 | with_reducible apply blk4_s3))
  · intro h0; first | (simp at h0; done) | exact ⟨rfl, rfl, rfl⟩ | (refine ⟨?_, ?_, ?_⟩ <;> simp)
  · (repeat (first | with_reducible exact Kept.refl _ _ | with_reducible apply Kept.alloc | with_reducible apply Kept.setAt))
set_option maxRecDepth 100000 in
set_option maxHeartbeats 2000000 in
theorem begin_v244 (p : Nat) (x0 x1 x2 x3 : Int) (w : World) (h : w.heap[p]? = some (.cells #[.int .i32 x0, .int .i64 x1, .int .u8 x2, .int .u8 x3] 49 (0, 0))) :
    Calls Try.prog 48 #[.pointer (some ⟨p, 0, none⟩), .int .u8 244] w (BeginPost .i32 21 DecAt p (first 244) w) := by
  have e1 : first 244 = (⟨3, 4, 128, 143⟩, []) := rfl
  have hok := first_ok 244
  rw [e1] at hok ⊢
  have OK := Lib.hid hok
  clear e1 hok
  have hand : bits BinOp.and IntKind.u8 244 7 = 4 := by decide
  obtain ⟨⟨c0, f0⟩, ⟨c1, f1⟩, ⟨c2, f2⟩, c3, f3⟩ := blk4 h
  have H := Lib.hid h
  clear h
  go_enter Try.func48, Try.ntmps48
  go_wp2
  go_ret
  refine ⟨_, rfl, ⟨4, 128, 143, ?_, ?_, OK.out⟩, Own.nil _ _ _, ?_, (fun b' hb' => by cases hb')⟩
  · show _ = some (Obj.cells #[.int .i32 (4), .int .i64 3, .int .u8 128, .int .u8 143] 49 (0, 0))
    (repeat (first | with_reducible exact H.out | with_reducible apply blk_alloc | with_reducible apply blk4_s0 | with_reducible apply blk4_s1 | with_reducible apply blk4_s2 | with_reducible apply blk4_s3))
  · intro h0; first | (simp at h0; done) | exact ⟨rfl, rfl, rfl⟩ | (refine ⟨?_, ?_, ?_⟩ <;> simp)
  · (repeat (first | with_reducible exact Kept.refl _ _ | with_reducible apply Kept.alloc | with_reducible apply Kept.setAt))
theorem begin_any (p b : Nat) (x0 x1 x2 x3 : Int) (w : World) (h : w.heap[p]? = some (.cells #[.int .i32 x0, .int .i64 x1, .int .u8 x2, .int .u8 x3] 49 (0, 0))) (hb : b < 256) :
    Calls Try.prog 48 #[.pointer (some ⟨p, 0, none⟩), .int .u8 b] w (BeginPost .i32 21 DecAt p (first b) w) := by
  by_cases h1 : b < 128
  · exact begin_a p b x0 x1 x2 x3 w h h1
  by_cases h2 : 194 ≤ b ∧ b ≤ 223
  · exact begin_b p b x0 x1 x2 x3 w h h2
  by_cases h3 : (225 ≤ b ∧ b ≤ 236) ∨ (238 ≤ b ∧ b ≤ 239)
  · exact begin_c p b x0 x1 x2 x3 w h h3
  by_cases h4 : 241 ≤ b ∧ b ≤ 243
  · exact begin_d p b x0 x1 x2 x3 w h h4
  by_cases h5 : 128 ≤ b ∧ b < 194
  · exact begin_e p b x0 x1 x2 x3 w h h5
  by_cases h6 : 245 ≤ b ∧ b < 256
  · exact begin_f p b x0 x1 x2 x3 w h h6
  rcases (show b = 224 ∨ b = 237 ∨ b = 240 ∨ b = 244 by omega) with rfl | rfl | rfl | rfl
  · exact begin_v224 p x0 x1 x2 x3 w h
  · exact begin_v237 p x0 x1 x2 x3 w h
  · exact begin_v240 p x0 x1 x2 x3 w h
  · exact begin_v244 p x0 x1 x2 x3 w h
end Go.Proofs.Ytnaoobgghgnflaa
