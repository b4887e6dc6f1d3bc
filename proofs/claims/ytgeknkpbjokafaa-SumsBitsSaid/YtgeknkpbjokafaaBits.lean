/- SumsBits: the walk of the law. -/
import Derived.Test.YtgeknkpbjokafaaAhead
namespace Go.Proofs.Ytgeknkpbjokafaa
open Go.RowKit Pl
set_option linter.unusedVariables false
theorem rem_cases' (c m : Int) (hm : 0 < m) (hcl : -9223372036854775808 ≤ c) : ∃ n : Nat, (n : Int) < m ∧ ((0 ≤ c ∧ c % m = (n : Int)) ∨ (c < 0 ∧ c.tmod m = (n : Int) - m) ∨ (c < 0 ∧ c.tmod m = (n : Int))) := by
  obtain ⟨n, hn, h | ⟨h1, h2, h3⟩ | h⟩ := rem_cases c m hm hcl
  · exact ⟨n, hn, .inl h⟩
  · exact ⟨(m - n).toNat, by omega, .inr (.inl ⟨h1, by omega⟩)⟩
  · exact ⟨n, hn, .inr (.inr h)⟩
theorem xor_bit (z m : Nat) (hz : z < 256) (hm : m < 8) : bits BinOp.xor IntKind.u8 (z : Int) ((2 : Int) ^ m % 256) = ((z ^^^ 2 ^ m : Nat) : Int) ∧ z ^^^ 2 ^ m < 256 ∧ z ≠ z ^^^ 2 ^ m := by
  have hp : 2 ^ m < 256 := Nat.pow_lt_pow_right (by omega) hm
  have hp0 : 0 < 2 ^ m := Nat.two_pow_pos m
  refine ⟨?_, Nat.xor_lt_two_pow (n := 8) hz hp, fun h => ?_⟩
  · rw [← u8_xor_nat z (2 ^ m) hz hp]
    congr 1
    have : ((2 : Int) ^ m) = ((2 ^ m : Nat) : Int) := by simp
    rw [this]; omega
  · have h2 := congrArg (z ^^^ ·) h
    simp only [← Nat.xor_assoc, Nat.xor_self, Nat.zero_xor] at h2
    omega
theorem slAt_set {k : IntKind} {w : World} {g i : Nat} {xs : List Int} {v : Int} (hc : ∀ j, j < xs.length → w.cell? ⟨g, j, none⟩ = some (.int k (xs.getD j 0))) (hi : i < xs.length) :
    SlAt k (w.setCell ⟨g, i, none⟩ (.int k v)) (some ⟨g, 0, none⟩) xs.length (xs.set i v) := by
  refine ⟨by simp, .inr ⟨g, 0, rfl, fun j hj => ?_⟩⟩
  rw [Nat.zero_add]
  by_cases h : i = j
  · subst h
    rw [World.cell?_setCell_same _ _ _ (hc i hi)]
    simp [hj]
  · rw [World.cell?_setCell_other _ _ _ _ (by simp), hc j hj]
    simp [h]
theorem nats_set (xs : List Int) (i v : Nat) : nats (xs.set i (v : Int)) = (nats xs).set i v := by
  unfold nats; rw [List.map_set]; rfl
theorem crcV_ne {a b : Nat} (h : a ≠ b) : ((crcV a : Nat) : Int) ≠ (crcV b : Int) := by
  intro he
  have h1 : crcV a = crcV b := by omega
  unfold crcV at h1
  rw [Nat.xor_comm _ a, Nat.xor_comm _ b] at h1
  exact h (xor_cancel h1)
theorem adlV_ne {a b : Nat × Nat} (ha : a.1 < 65521) (hb : b.1 < 65521) (h : a.1 ≠ b.1) : ((adlV a : Nat) : Int) ≠ (adlV b : Int) := by
  unfold adlV; omega
theorem Own.shape1 {k : IntKind} {e : TypeId} {w : World} {v : Value} {xs : List Int} (h : Own k e w v xs) (h0 : 0 < xs.length) : ∃ g cap, v = .slice (some ⟨g, 0, none⟩) xs.length cap ∧ xs.length ≤ cap ∧ g < w.heap.size ∧
    (∀ j, j < xs.length → w.cell? ⟨g, j, none⟩ = some (.int k (xs.getD j 0))) ∧ ∀ j, w.frozen? ⟨g, j, none⟩ = false := by
  obtain ⟨a, cap, hv, hs, hc, -, -, -⟩ := h.shape
  obtain ⟨h1, h2⟩ := h
  rcases h2 with ⟨rfl, h3⟩ | ⟨g, cap', cur, rfl, -, hg, hn, -, hcs, ht⟩
  · omega
  · refine ⟨g, cap', rfl, hn, lt_of_blk hg, fun j hj => ?_, fun j => blk_free hg j⟩
    cases hv
    obtain ⟨b, off, he, hcell⟩ := hs.2.resolve_left (by omega)
    cases he
    simpa using hcell j hj
set_option maxRecDepth 100000 in
set_option maxHeartbeats 2000000 in
theorem bits_go (b off len cap : Nat) (xs : List Int) (bit : Int) (w : World)
    (hs : SlAt .u8 w (some ⟨b, off, none⟩) len xs) (hc : len ≤ cap) (hcm : cap ≤ 9223372036854775807) (hb : Bytes xs) (hbl : b < w.heap.size)
    (hl : len ≤ 8192) (hl0 : 0 < len) (hbit : -9223372036854775808 ≤ bit ∧ bit ≤ 9223372036854775807) :
    Calls Try.prog 4 #[.slice (some ⟨b, off, none⟩) len cap, .int .i64 bit] w fun e w' => e = .returned (.bool true) ∧ Kept (fun _ => False) w w' := by
  have hzl : xs.length = len := hs.1
  obtain ⟨i0, hi, hz0, hz1, hz2⟩ := info_parts Try.info5
  have hd1 : decide (8192 < (len : Int)) = false := by simp; omega
  have hd2 : ((len : Int) == 0) = false := by simp; omega
  have hm8 : 0 < 8 * (len : Int) := by omega
  obtain ⟨n, hn1, hcase⟩ := rem_cases' bit (8 * (len : Int)) hm8 hbit.1
  have hrl : n < 8 * len := by omega
  clear hn1
  rcases hcase with ⟨hc0, hn'⟩ | ⟨hc0, hn'⟩ | ⟨hc0, hn'⟩
  all_goals
    go_enter Try.func4, Try.ntmps4
    go_wp2_with (first
      | (go_at_call 6; refine (known_any _).mono ?_; rintro e w0 ⟨rfl, hk0⟩; have hs0 := (hs.kept hk0 (fun _ _ _ _ => id)).kept ((Kept.refl (fun _ => False) _).alloc (.cells #[] 5)) (fun _ _ _ _ => id); have hz0' := hk0.size)
      | (at_builtin; go_loud (refine wpList_appInts rfl (.tmp 28) (.tmp 29) 22 rfl 5 .u8 i0 (.int .u8 0) 1 Try.underlying22 hi hz0 hz1 hz2 rfl (.slice (some ⟨w0.heap.size, 0, none⟩) 0 0) [] rfl (Own.new .u8 w0) (some ⟨b, off, none⟩) len cap xs rfl (fun h => by cases h) hs0 (by simp; omega) (by simp [maxLen]; omega) ?_); intro v5 w5 ho5 hk5 hpr5; rw [List.nil_append] at ho5; obtain ⟨g, cap5, rfl, hcap5, hg5, hc5, hf5⟩ := ho5.shape1 (by omega); have hci := hc5 (n / 8) (by omega); have hfi := hf5 (n / 8); obtain ⟨z, hzb, hz1'⟩ := hb.at (k := n / 8) (by omega); rw [hz1'] at hci; have HC := Lib.hid hc5; have HF := Lib.hid hf5; have HZ := Lib.hid hz1'; clear hc5 hf5 hz1'))
    obtain ⟨ex, hv1, hv2⟩ := xor_bit z (n % 8) hzb (by omega)
    rw [ex]
    obtain ⟨v, hv⟩ : ∃ v, v = z ^^^ 2 ^ (n % 8) := ⟨_, rfl⟩
    rw [← hv] at hv1 hv2 ⊢
    clear hv ex
    have hge : w0.heap.size ≤ g := by
      rcases hpr5 with h | h
      · cases h; exact Nat.le_refl _
      · have h2 := Option.some.inj h; simp at h2; omega
    have hsx := slAt_set (v := (v : Int)) HC.out (show n / 8 < xs.length by omega)
    have hk6 : Kept (fun _ => False) w (w5.setCell ⟨g, n / 8, none⟩ (.int .u8 (v : Int))) := by
      have h1 : Kept (fun k => w0.heap.size ≤ k) w0 w5 := ((Kept.refl _ w0).alloc _).then (hk5.mono (fun k _ h => by cases h; exact Nat.le_refl _))
      exact (hk0.trans (h1.mono (by omega))).setCell (.inr (by show w.heap.size ≤ g; omega)) _
    have hgw : g < (w5.setCell ⟨g, n / 8, none⟩ (.int .u8 (v : Int))).heap.size := by simpa using hg5
    have hzn : (nats xs)[n / 8]? = some z := by
      have h1 : n / 8 < xs.length := by omega
      have h2 : xs[n / 8] = (z : Int) := by simpa [h1] using HZ.out
      simp [nats, h1, h2]
    obtain ⟨hzl2, hzn2⟩ := List.getElem?_eq_some_iff.1 hzn
    have C1 := crcV_ne (crcs_set (nats xs) (n / 8) v 4294967295 hzl2 (by decide) hb.nats hv1 (by rw [hzn2]; exact hv2))
    have A1 := adlV_ne (adls_lt (nats xs) (s := (1, 0)) (by decide) (by decide)).1 (adls_lt ((nats xs).set (n / 8) v) (s := (1, 0)) (by decide) (by decide)).1 (adls_set (nats xs) (n / 8) v (1, 0) (by decide) hzl2 (by rw [hzn2]; exact hzb) hv1 (by rw [hzn2]; exact hv2))
    rw [← nats_set] at C1 A1
    have C1 : (((crcV (crcs 4294967295 (nats xs)) : Nat) : Int) == (crcV (crcs 4294967295 (nats (xs.set (n / 8) (v : Int)))) : Int)) = false := by simpa using C1
    have A1 : (((adlV (adls (1, 0) (nats xs)) : Nat) : Int) == (adlV (adls (1, 0) (nats (xs.set (n / 8) (v : Int)))) : Int)) = false := by simpa using A1
    have hbx : Bytes (xs.set (n / 8) (v : Int)) := fun q hq => by
      rcases List.mem_or_eq_of_mem_set hq with h | rfl
      · exact hb q h
      · omega
    rw [hzl] at hsx
    have C1 := Lib.hid C1
    have A1 := Lib.hid A1
    clear hzn hzn2 hzl2 hk5 hpr5 ho5 hci hfi hs0 hk0 hv2
    generalize w5.setCell ⟨g, n / 8, none⟩ (.int .u8 (v : Int)) = w6 at *
    generalize xs.set (n / 8) (v : Int) = xs' at *
    have hne6 : ∀ b off, 0 < len → (some ⟨g, 0, none⟩ : Option Addr) = some ⟨b, off, none⟩ → b < w6.heap.size := fun b off _ h => by cases h; exact hgw
    go_wp2_with fail
    refine (newCrc' _).mono ?_; rintro e w7 ⟨p, rfl, hp0, hp1, hpb, hk1⟩
    have hkw7 := hk6.then hk1
    have hsx7 := hsx.kept hk1 (fun _ _ _ _ => id)
    have HP := Lib.hid hpb
    have hz7 := hk1.size
    have hz6 := hk6.size
    clear hpb hk1 hk6 hsx
    go_wp2_with fail
    refine (crcOf1 p _ _ _ _ xs _ HP.out (by decide) (hs.kept hkw7 (fun _ _ _ _ => id)) (by omega) hb (fun b' off' h0 h => by cases h; omega)).mono ?_
    rintro e w8 ⟨rfl, -, hk8⟩
    have hkw8 : Kept (fun _ => False) w w8 := hkw7.trans (hk8.mono (by omega))
    have hsx8 := hsx7.kept hk8 (fun b' off' h0 h => by have := hne6 b' off' h0 h; omega)
    have hz8 := hk8.size
    clear hk8 hsx7 hkw7 HP
    go_wp2_with fail
    refine (newCrc' _).mono ?_; rintro e w9 ⟨p2, rfl, hp20, hp21, hpb, hk1⟩
    have hkw9 := hkw8.then hk1
    have hsx9 := hsx8.kept hk1 (fun _ _ _ _ => id)
    have HP := Lib.hid hpb
    have hz9 := hk1.size
    clear hpb hk1 hkw8 hsx8
    go_wp2_with fail
    refine (crcOf1 p2 _ _ _ _ xs' _ HP.out (by decide) hsx9 (by omega) hbx (fun b' off' h0 h => by have := hne6 b' off' h0 h; omega)).mono ?_
    rintro e w10 ⟨rfl, -, hk8⟩
    have hkw10 : Kept (fun _ => False) w w10 := hkw9.trans (hk8.mono (by omega))
    have hsx10 := hsx9.kept hk8 (fun b' off' h0 h => by have := hne6 b' off' h0 h; omega)
    have hz10 := hk8.size
    clear hk8 hsx9 hkw9 HP
    have C1' := C1.out
    go_wp2_with fail
    refine (newAdler' _).mono ?_; rintro e w11 ⟨q, rfl, hq0, hq1, hpb, hk1⟩
    have hkw11 := hkw10.then hk1
    have hsx11 := hsx10.kept hk1 (fun _ _ _ _ => id)
    have HP := Lib.hid hpb
    have hz11 := hk1.size
    clear hpb hk1 hkw10 hsx10
    go_wp2_with fail
    refine (adlerOf1 q _ _ _ _ xs _ HP.out (by decide) (by decide) (hs.kept hkw11 (fun _ _ _ _ => id)) (by omega) hb (fun b' off' h0 h => by cases h; omega)).mono ?_
    rintro e w12 ⟨rfl, -, hk8⟩
    have hkw12 : Kept (fun _ => False) w w12 := hkw11.trans (hk8.mono (by omega))
    have hsx12 := hsx11.kept hk8 (fun b' off' h0 h => by have := hne6 b' off' h0 h; omega)
    have hz12 := hk8.size
    clear hk8 hsx11 hkw11 HP
    go_wp2_with fail
    refine (newAdler' _).mono ?_; rintro e w13 ⟨q2, rfl, hq20, hq21, hpb, hk1⟩
    have hkw13 := hkw12.then hk1
    have hsx13 := hsx12.kept hk1 (fun _ _ _ _ => id)
    have HP := Lib.hid hpb
    have hz13 := hk1.size
    clear hpb hk1 hkw12 hsx12
    go_wp2_with fail
    refine (adlerOf1 q2 _ _ _ _ xs' _ HP.out (by decide) (by decide) hsx13 (by omega) hbx (fun b' off' h0 h => by have := hne6 b' off' h0 h; omega)).mono ?_
    rintro e w14 ⟨rfl, -, hk8⟩
    have hkw14 : Kept (fun _ => False) w w14 := hkw13.trans (hk8.mono (by omega))
    clear hk8 hsx13 hkw13 HP
    have A1' := A1.out
    go_wp2
    go_ret
    exact ⟨ret_bool (by rw [bne, bne, C1.out, A1.out]; rfl), hkw14⟩
end Go.Proofs.Ytgeknkpbjokafaa
namespace Go.Proofs.Ytgeknkpbjokafaa
open Go.RowKit Pl
set_option maxHeartbeats 1000000 in
theorem bits_big (a0 : Option Addr) (len cap : Nat) (bit : Int) (w : World) (hc : len ≤ 9223372036854775807) (h : 8192 < len ∨ len = 0) :
    Calls Try.prog 4 #[.slice a0 len cap, .int .i64 bit] w fun e w' => e = .returned (.bool true) ∧ Kept (fun _ => False) w w' := by
  rcases h with h | rfl
  · go_enter Try.func4, Try.ntmps4
    go_wp2_with (go_at_call 6; refine (known_any _).mono ?_; rintro e w0 ⟨rfl, hk0⟩)
    go_ret
    exact ⟨rfl, hk0⟩
  · go_enter Try.func4, Try.ntmps4
    go_wp2_with (go_at_call 6; refine (known_any _).mono ?_; rintro e w0 ⟨rfl, hk0⟩)
    go_ret
    exact ⟨rfl, hk0⟩
theorem bits_any {a0 : Option Addr} {len0 cap0 : Nat} {z0 : List Int} {a1 : Int} {w : World} (w0 : IsRow .u8 w a0 len0 cap0 z0) (w1 : (Lit.int .i64 a1).wf = true) :
    Calls Try.prog 4 #[.slice a0 len0 cap0, .int .i64 a1] w fun e w' => e = .returned (.bool true) ∧ Below w.heap.size w w' := by
  obtain ⟨s0, c0, m0, b0, l0, n0⟩ := w0.slAt
  have h1 := ints_of_wf (xs := [a1]) (by simpa using w1) a1 (by simp)
  refine Calls.mono (R := fun e w' => e = .returned (.bool true) ∧ Kept (fun _ => False) w w') ?_ fun e w' h => ⟨h.1, h.2.below⟩
  by_cases h : 8192 < len0 ∨ len0 = 0
  · exact bits_big _ _ _ _ w (by omega) h
  · have s1 := s0
    obtain ⟨b, off, rfl, -⟩ := s0.2.resolve_left (by omega)
    exact bits_go b off _ _ _ _ w s1 c0 m0 (bytes_of_wf b0) (l0 b off (by omega) rfl) (by omega) (by omega) h1
end Go.Proofs.Ytgeknkpbjokafaa
