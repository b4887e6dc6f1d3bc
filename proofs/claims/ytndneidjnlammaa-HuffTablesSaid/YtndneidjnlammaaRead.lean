/- A reader: how many bits are left, the next ones. -/
import Derived.Test.YtndneidjnlammaaPlain
import Derived.Test.YtndneidjnlammaaClone
namespace Go.Proofs.Ytndneidjnlammaa
open Go.RowKit Pl
set_option linter.unusedVariables false
def Bytes (xs : List Int) : Prop := ∀ n ∈ xs, 0 ≤ n ∧ n < 256
def nats (xs : List Int) : List Nat := xs.map Int.toNat
theorem bytes_small {xs : List Int} (h : Bytes xs) : Small (nats xs) := by
  intro n hn
  simp only [nats, List.mem_map] at hn
  obtain ⟨a, ha, rfl⟩ := hn
  have := h a ha
  omega
theorem nats_length (xs : List Int) : (nats xs).length = xs.length := by simp [nats]
theorem Bytes.at {xs : List Int} (h : Bytes xs) {k : Nat} (hk : k < xs.length) : ∃ z : Nat, z < 256 ∧ xs.getD k 0 = (z : Int) ∧ (nats xs)[k]? = some z := by
  have h1 := h (xs[k]) (List.getElem_mem hk)
  refine ⟨(xs[k]).toNat, by omega, ?_, by simp [nats, hk]⟩
  simp [hk]
  omega
theorem pow_le {a b : Nat} (h : a ≤ b) : 2 ^ a ≤ 2 ^ b := Nat.pow_le_pow_right (by omega) h
theorem or_put (x z s : Nat) (hx : x < 2 ^ s) (hs : z * 2 ^ s < 2 ^ 64) (hx2 : s ≤ 64) : bits BinOp.or IntKind.u64 (x : Int) (IntKind.u64.wrap ((z : Int) * 2 ^ s)) = ((x + z * 2 ^ s : Nat) : Int) := by
  have e : ((z : Int) * 2 ^ s) = ((z * 2 ^ s : Nat) : Int) := by simp
  have h2 : x < 2 ^ 64 := Nat.lt_of_lt_of_le hx (pow_le hx2)
  have w : IntKind.u64.wrap ((z * 2 ^ s : Nat) : Int) = ((z * 2 ^ s : Nat) : Int) := by rw [IntKind.wrap_u64]; omega
  rw [e, w, u64_or_nat _ _ (by omega) (by omega), or_shift _ _ _ hx]
theorem mask_and (x n : Nat) (hx : x < 2 ^ 64) (hn : n ≤ 32) : bits BinOp.and IntKind.u64 (x : Int) (IntKind.u64.wrap (IntKind.u64.wrap (2 ^ n) - 1)) = ((x % 2 ^ n : Nat) : Int) := by
  have h1 : 2 ^ n ≤ 2 ^ 32 := pow_le hn
  have h0 : 0 < 2 ^ n := Nat.two_pow_pos n
  have e : ((2 : Int) ^ n) = ((2 ^ n : Nat) : Int) := by simp
  have w1 : IntKind.u64.wrap ((2 : Int) ^ n) = ((2 ^ n : Nat) : Int) := by rw [e, IntKind.wrap_u64]; omega
  have w2 : IntKind.u64.wrap (((2 ^ n : Nat) : Int) - 1) = ((2 ^ n - 1 : Nat) : Int) := by rw [IntKind.wrap_u64]; omega
  rw [w1, w2, u64_and_nat _ _ (by omega) (by omega), and_mask]
theorem peek_last (x f n : Nat) (hx : x < 2 ^ 64) (hn : n ≤ 32) : bits BinOp.and IntKind.u64 ((x : Int) / 2 ^ f) (IntKind.u64.wrap (IntKind.u64.wrap (2 ^ n) - 1)) % 4294967296 = ((x / 2 ^ f % 2 ^ n : Nat) : Int) := by
  have e : ((x : Int) / 2 ^ f) = ((x / 2 ^ f : Nat) : Int) := by simp
  have h1 : x / 2 ^ f ≤ x := Nat.div_le_self _ _
  have h2 : x / 2 ^ f % 2 ^ n < 2 ^ n := Nat.mod_lt _ (Nat.two_pow_pos n)
  have h3 : 2 ^ n ≤ 2 ^ 32 := pow_le hn
  rw [e, mask_and _ _ (by omega) hn]
  omega
theorem val_step {l : List Nat} {j k z : Nat} (h : l[j + k]? = some z) : val ((l.drop j).take (k + 1)) = val ((l.drop j).take k) + z * 2 ^ (8 * k) := by
  have h1 : (l.drop j)[k]? = some z := by rw [List.getElem?_drop]; exact h
  obtain ⟨hk, he⟩ := List.getElem?_eq_some_iff.1 h1
  rw [List.take_succ_eq_append_getElem hk, val_append, he, List.length_take, Nat.min_eq_left (by omega), pow256]
  simp only [val]
  rw [Nat.mul_zero, Nat.add_zero, Nat.mul_comm]
theorem ret2 {a b : Value} {c : Value} (h : a = b) : Ending.returned (.tuple #[a, c]) = .returned (.tuple #[b, c]) := by rw [h]
theorem vint {k : IntKind} {a b : Int} (h : a = b) : Value.int k a = .int k b := by rw [h]
def rdBlk (v : Value) (at_ : Nat) : Obj := .cells #[v, .int .i64 (at_ : Int)] 66 (0, 0)
/-- A reader at block p: its bytes, in block o, and how many bits were passed. -/
def RdAt (w : World) (p : Nat) (o : Option Nat) (bs : List Int) (at_ : Nat) : Prop :=
  ∃ v, w.heap[p]? = some (rdBlk v at_) ∧ Own .u8 5 w v bs ∧ v.ownBlock = o ∧ o ≠ some p ∧ Bytes bs ∧ at_ ≤ 8 * bs.length ∧ bs.length ≤ 70368744177664
theorem RdAt.kept {S : Nat → Prop} {w w' : World} {p : Nat} {o : Option Nat} {bs : List Int} {at_ : Nat} (h : RdAt w p o bs at_) (hk : Kept S w w') (hp : ¬ S p) (ho : ∀ b, o = some b → ¬ S b) : RdAt w' p o bs at_ := by
  obtain ⟨v, h1, h2, h3, h4, h5, h6, h7⟩ := h
  exact ⟨v, hk.blk h1 hp, h2.kept hk (fun b hb => ho b (h3 ▸ hb)), h3, h4, h5, h6, h7⟩
set_option maxRecDepth 100000 in
set_option maxHeartbeats 1000000 in
theorem left_any (p : Nat) (o : Option Nat) (bs : List Int) (at_ : Nat) (w : World) (h : RdAt w p o bs at_) :
    Calls Try.prog 23 #[.pointer (some ⟨p, 0, none⟩)] w fun e w' => e = .returned (.int .i64 (8 * (bs.length : Int) - at_)) ∧ ∃ n, w' = w.drewN n := by
  obtain ⟨v, h1, h2, h3, h4, h5, h6, h7⟩ := h
  obtain ⟨a, cap, rfl, -⟩ := h2.shape
  obtain ⟨⟨c0, -⟩, c1, -⟩ := blk2 h1
  clear h1 h2 h3 h4 h5
  go_enter Try.func23, Try.ntmps23
  go_wp2
  go_quiet (fail)
  go_wp2
  go_ret
  exact ⟨ret_int (by omega), _, rfl⟩
set_option maxRecDepth 100000 in
set_option maxHeartbeats 1000000 in
theorem peek_no (p : Nat) (o : Option Nat) (bs : List Int) (at_ : Nat) (n : Int) (w : World) (h : RdAt w p o bs at_) (hn : n < 0 ∨ 32 < n ∨ 8 * (bs.length : Int) - at_ < n) :
    Calls Try.prog 30 #[.pointer (some ⟨p, 0, none⟩), .int .i64 n] w fun e w' => e = .returned (.tuple #[.int .u32 0, .bool false]) ∧ ∃ n, w' = w.drewN n := by
  have H := Lib.hid h
  clear h
  by_cases h1 : n < 0
  · clear hn
    go_enter Try.func30, Try.ntmps30
    go_wp2
    go_ret2
    exact ⟨rfl, 0, rfl⟩
  by_cases h2 : 32 < n
  · clear hn
    go_enter Try.func30, Try.ntmps30
    go_wp2
    go_ret2
    exact ⟨rfl, 0, rfl⟩
  have h3 : 8 * (bs.length : Int) - at_ < n := by omega
  clear hn
  go_enter Try.func30, Try.ntmps30
  go_wp2_with (go_at_call 23; refine (left_any p o bs at_ _ H.out).mono ?_; rintro e w' ⟨rfl, m, rfl⟩)
  go_ret2
  exact ⟨rfl, _, rfl⟩
set_option maxRecDepth 100000 in
set_option maxHeartbeats 1000000 in
theorem peek_yes (p : Nat) (o : Option Nat) (bs : List Int) (at_ n : Nat) (w : World) (h : RdAt w p o bs at_) (hn : n ≤ 32) (hl : at_ + n ≤ 8 * bs.length) :
    Calls Try.prog 30 #[.pointer (some ⟨p, 0, none⟩), .int .i64 n] w fun e w' => e = .returned (.tuple #[.int .u32 (bitsOf (nats bs) at_ n : Int), .bool true]) ∧ ∃ n, w' = w.drewN n := by
  have H := Lib.hid h
  obtain ⟨v, h1, h2, h3, h4, h5, h6, h7⟩ := h
  obtain ⟨a, cap, rfl, hsl, hcap, hcm, -⟩ := h2.shape
  obtain ⟨⟨c0, -⟩, c1, -⟩ := blk2 h1
  clear h1 h2 h3 h4
  have ht : decide ((8 * (bs.length : Int) - at_) < (n : Int)) = false := by simp; omega
  have ht1 : decide ((n : Int) < 0) = false := by simp
  have ht2 : decide (32 < (n : Int)) = false := by simp; omega
  obtain ⟨m, hm⟩ : ∃ m : Nat, m = (at_ % 8 + n + 7) / 8 := ⟨_, rfl⟩
  have hm1 : at_ % 8 + n ≤ 8 * m := by omega
  have hm2 : 8 * m ≤ at_ % 8 + n + 7 := by omega
  have hm3 : m ≤ 5 := by omega
  have hml : at_ / 8 + m ≤ bs.length := by omega
  have hmi : ((at_ : Int) % 8 + n + 7) / 8 = (m : Int) := by omega
  clear hm
  go_enter Try.func30, Try.ntmps30
  go_wp2_with (go_at_call 23; refine (left_any p o bs at_ _ H.out).mono ?_; rintro e w' ⟨rfl, m0, rfl⟩)
  go_loopw [6, 31] (fun v i wr => ∃ k d : Nat, k ≤ m ∧ i = .int .i64 k ∧ v = .int .u64 (val (((nats bs).drop (at_ / 8)).take k) : Int) ∧ wr = w.drewN d) (fun _ i _ => m - (intOf i).toNat)
  case atStart => exact ⟨0, m0, by omega, rfl, rfl, rfl⟩
  case round =>
    obtain ⟨k, d, hk, rfl, rfl, rfl⟩ := hrel
    by_cases hkm : k < m
    · obtain ⟨z, hz, hzg, hzn⟩ := h5.at (k := at_ / 8 + k) (by omega)
      obtain ⟨b, off, rfl, hc⟩ := hsl.2.resolve_left (by omega)
      have hcell := hc (at_ / 8 + k) (by omega)
      rw [hzg] at hcell
      obtain ⟨x, hx⟩ : ∃ x, x = val (((nats bs).drop (at_ / 8)).take k) := ⟨_, rfl⟩
      rw [← hx]
      have HX := Lib.hid hx
      have HZ := Lib.hid hzn
      clear hx hzg hzn hc hsl ht ht1 ht2
      go_wp2
      have q0 : IntKind.i64.wrap ((at_ : Int) / 8) = (at_ : Int) / 8 := IntWalk.i64_in _ (by omega)
      have q1 : IntKind.i64.wrap ((at_ : Int) / 8 + k) = (at_ : Int) / 8 + k := IntWalk.i64_in _ (by omega)
      have q2 : 0 ≤ (at_ : Int) / 8 + k := by omega
      have q3 : ((at_ : Int) / 8 + k).toNat = at_ / 8 + k := by omega
      have q4 : (at_ : Int) / 8 + k < (bs.length : Int) := by omega
      have q5 : IntKind.i64.wrap (8 * (k : Int)) = 8 * k := IntWalk.i64_in _ (by omega)
      go_quiet (fail)
      clear q0 q1 q2 q3 q4 q5
      go_wp2
      go_roundw
      case rel =>
        refine ⟨k + 1, _, by omega, by go_num, ?_, rfl⟩
        have hxl : x < 2 ^ (8 * k) := by
          rw [HX.out, ← pow256]
          have h1 := val_lt _ (((bytes_small h5).drop (at_ / 8)).take k)
          have h2 : (((nats bs).drop (at_ / 8)).take k).length = k := by simp [nats_length]; omega
          rwa [h2] at h1
        have hzs : z * 2 ^ (8 * k) < 2 ^ 64 := Nat.lt_of_lt_of_le (Nat.mul_lt_mul_of_lt_of_le hz (pow_le (show 8 * k ≤ 32 by omega)) (by decide)) (by decide)
        exact vint (by rw [or_put x z (8 * k) hxl hzs (by omega), val_step HZ.out, HX.out])
      case measure => simp [intOf]; omega
    · obtain rfl : k = m := by omega
      have hv : val (((nats bs).drop (at_ / 8)).take k) / 2 ^ (at_ % 8) % 2 ^ n = bitsOf (nats bs) at_ n := peek_eq _ (bytes_small h5) _ _ _ hm1 (by rw [nats_length]; omega)
      obtain ⟨x, hx⟩ : ∃ x, x = val (((nats bs).drop (at_ / 8)).take k) := ⟨_, rfl⟩
      rw [← hx] at hv ⊢
      have HV := Lib.hid hv
      have HX := Lib.hid hx
      clear hx hv
      go_wp2
      go_quiet (fail)
      go_wp2
      go_ret2
      have hxl : x < 2 ^ 64 := by
        have h1 := val_lt _ (((bytes_small h5).drop (at_ / 8)).take k)
        have h2 : (((nats bs).drop (at_ / 8)).take k).length = k := by simp [nats_length]; omega
        rw [h2, ← HX.out, pow256] at h1
        exact Nat.lt_of_lt_of_le h1 (pow_le (by omega))
      exact ⟨ret2 (vint (by rw [peek_last x _ n hxl hn, HV.out])), _, World.drewN_drewN _ _ _⟩
end Go.Proofs.Ytndneidjnlammaa
