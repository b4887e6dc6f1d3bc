import Derived.Test.YtocahkmfopbdlaaRbytes
import Derived.Test.YtocahkmfopbdlaaWbytes
import Derived.Test.YtocahkmfopbdlaaNumbers
namespace Go.Proofs.Ytocahkmfopbdlaa
open Go.RowKit Pl
set_option linter.unusedVariables false
theorem val_inj : ∀ {l l' : List Nat}, Small l → Small l' → l.length = l'.length → val l = val l' → l = l'
  | [], [], _, _, _, _ => rfl
  | a :: l, b :: l', h, h', hl, hv => by
    have h1 := h a (by simp)
    have h2 := h' b (by simp)
    simp only [val] at hv
    have e1 : a = b := by omega
    have e2 : val l = val l' := by omega
    rw [e1, val_inj (fun x hx => h x (by simp [hx])) (fun x hx => h' x (by simp [hx])) (by simpa using hl) e2]
theorem xor_low (r y k : Nat) (h : r < 2 ^ k) : r ^^^ (y * 2 ^ k + r) = y * 2 ^ k := by
  rw [Nat.mul_comm y, Nat.two_pow_add_eq_or_of_lt h]
  apply Nat.eq_of_testBit_eq
  intro i
  rw [Nat.testBit_xor, Nat.testBit_or, Nat.testBit_two_pow_mul]
  by_cases hi : k ≤ i
  · have : r.testBit i = false := Nat.testBit_lt_two_pow (Nat.lt_of_lt_of_le h (Nat.pow_le_pow_right (by omega) hi))
    simp [this, hi]
  · simp [hi]
/-- What the three writings leave, taken apart again. -/
theorem three (V1 X A n : Nat) (hV : V1 < 2 ^ A) (hX : X < 2 ^ n) (Y : Nat) : (V1 + X * 2 ^ A + Y * 2 ^ (A + n)) / 2 ^ A % 2 ^ n = X ∧ (V1 + X * 2 ^ A + Y * 2 ^ (A + n)) / 2 ^ (A + n) = Y := by
  have hA : 0 < 2 ^ A := Nat.pow_pos (by omega)
  have hn : 0 < 2 ^ n := Nat.pow_pos (by omega)
  have e : V1 + X * 2 ^ A + Y * 2 ^ (A + n) = V1 + 2 ^ A * (X + 2 ^ n * Y) := by
    rw [Nat.mul_add, Nat.pow_add, Nat.mul_comm X, Nat.mul_comm Y, Nat.mul_assoc, Nat.add_assoc]
  have h1 : (V1 + X * 2 ^ A + Y * 2 ^ (A + n)) / 2 ^ A = X + 2 ^ n * Y := by
    rw [e, Nat.add_mul_div_left _ _ hA, Nat.div_eq_of_lt hV, Nat.zero_add]
  constructor
  · rw [h1, Nat.add_mul_mod_self_left, Nat.mod_eq_of_lt hX]
  · rw [Nat.pow_add, ← Nat.div_div_eq_div_mul, ← Nat.pow_add, h1, Nat.add_mul_div_left _ _ hn, Nat.div_eq_of_lt hX, Nat.zero_add]
theorem nats_inj {l l' : List Int} (h : Bytes l) (h' : Bytes l') (e : nats l = nats l') : l = l' := by
  have hl : l.length = l'.length := by have := congrArg List.length e; simpa [nats] using this
  apply List.ext_getElem hl
  intro i h1 h2
  have e1 : (nats l)[i]'(by simpa [nats] using h1) = (nats l')[i]'(by simpa [nats] using h2) := by simp [e]
  simp only [nats, List.getElem_map] at e1
  have a1 := h _ (List.getElem_mem h1)
  have a2 := h' _ (List.getElem_mem h2)
  omega
theorem nats_small {xs : List Int} (h : Bytes xs) : Small (nats xs) := bytes_small h
theorem parts_of {ds xs : List Int} {len k1 k2 v1 v2 : Nat} (hd : Bytes ds) (hb : Bytes xs) (hxs : xs.length = len) (hl : (k1 + 7) / 8 + len ≤ ds.length) (hk1 : k1 ≤ 32)
    (hv : val (nats ds) = v1 % 2 ^ k1 + val (nats xs) * 2 ^ (8 * ((k1 + 7) / 8)) + v2 % 2 ^ k2 * 2 ^ (8 * ((k1 + 7) / 8) + 8 * len)) :
    (ds.drop ((k1 + 7) / 8)).take len = xs ∧ bitsOf (nats ds) (8 * ((k1 + 7) / 8) + 8 * len) k2 = v2 % 2 ^ k2 := by
  have hX : val (nats xs) < 2 ^ (8 * len) := by
    have := val_lt _ (nats_small hb)
    rw [pow256, show (nats xs).length = len by simp [nats, hxs]] at this
    exact this
  have hV : v1 % 2 ^ k1 < 2 ^ (8 * ((k1 + 7) / 8)) := Nat.lt_of_lt_of_le (Nat.mod_lt _ (Nat.pow_pos (by omega))) (Nat.pow_le_pow_right (by omega) (by omega))
  obtain ⟨t1, t2⟩ := three _ _ _ (8 * len) hV hX (v2 % 2 ^ k2)
  rw [← hv] at t1 t2
  constructor
  · have hbt : Bytes ((ds.drop ((k1 + 7) / 8)).take len) := fun x hx => hd x (List.mem_of_mem_drop (List.mem_of_mem_take hx))
    apply nats_inj hbt hb
    have e : nats ((ds.drop ((k1 + 7) / 8)).take len) = ((nats ds).drop ((k1 + 7) / 8)).take len := by simp [nats]
    have hdl : (nats ds).length = ds.length := by simp [nats]
    refine val_inj (nats_small hbt) (nats_small hb) (by simp [nats, hxs]; omega) ?_
    rw [e, val_take _ ((nats_small hd).drop _) len (by simp [hdl]; omega), val_drop _ (nats_small hd) _ (by omega), pow256, pow256]
    exact t1
  · unfold bitsOf
    rw [t2, Nat.mod_mod]
set_option maxRecDepth 100000 in
set_option maxHeartbeats 2000000 in
theorem bytes_go (v1 k1 v2 k2 len cap : Nat) (a : Option Addr) (xs : List Int) (w : World) (hv1 : v1 < 4294967296) (hv2 : v2 < 4294967296) (h11 : 1 ≤ k1) (h12 : k1 ≤ 32) (h21 : 1 ≤ k2) (h22 : k2 ≤ 32) (hl : len ≤ 400)
    (hs : SlAt .u8 w a len xs) (hnl : a = none → len = 0 ∧ cap = 0) (hb : Bytes xs) (hlt : ∀ b off, 0 < len → a = some ⟨b, off, none⟩ → b < w.heap.size) :
    Calls Try.prog 8 #[.int .u32 v1, .int .i64 k1, .slice a len cap, .int .u32 v2, .int .i64 k2] w fun e w' => e = .returned (.bool true) ∧ Kept (fun _ => False) w w' := by
  have g1 : decide ((k1 : Int) < 1) = false := by simp; omega
  have g2 : decide (32 < (k1 : Int)) = false := by simp; omega
  have g3 : decide ((k2 : Int) < 1) = false := by simp; omega
  have g4 : decide (32 < (k2 : Int)) = false := by simp; omega
  have g5 : decide (400 < (len : Int)) = false := by simp; omega
  have HS := Lib.hid hs
  clear hs
  go_enter Try.func8, Try.ntmps8
  go_wp2_with fail
  refine (known_any _).mono ?_; rintro e w0 ⟨rfl, hk0⟩
  have HS := Lib.hid (HS.out.kept hk0 (fun _ _ _ _ => id))
  have hz0 := hk0.size
  go_wp2_with fail
  refine (newWriter _).mono ?_
  rintro e w1 ⟨p, rfl, hw, hp, hk1⟩
  have HW := Lib.hid hw
  have HS := Lib.hid (HS.out.kept hk1 (fun _ _ _ _ => id))
  have hkw1 := hk0.then hk1
  clear hw hk0 hk1
  go_wp2_with fail
  refine (wbits_yes p none 0 0 v1 k1 _ HW.out (by omega) (by omega) (by omega) (by omega)).mono ?_
  rintro e w2 ⟨rfl, o2, hw, hk2, ho2⟩
  have hof2 : ∀ b, o2 = some b → w1.heap.size ≤ b := by
    intro b hb
    rcases ho2 with h | ⟨b', h, hb'⟩
    · rw [h] at hb; cases hb
    · rw [h] at hb; cases hb; exact hb'
  have hpw : w.heap.size ≤ p := by omega
  have hw1s := hkw1.size
  have HS := Lib.hid (HS.out.kept hk2 (fun b off h0 he hh => by
    have := hlt b off h0 he
    rcases hh with h | h
    · omega
    · cases h))
  have hkw2 : Kept (fun _ => False) w w2 := hkw1.trans (hk2.mono (fun i _ h => Or.inr (by rcases h with h | h; omega; cases h)))
  have HW := Lib.hid hw
  have hz2 := hk2.size
  clear hw hk2 ho2 hkw1
  go_wp2_with fail
  refine (wbytes_any p o2 _ _ a len cap xs _ HW.out (by omega) HS.out hnl (by omega) hb (fun b off h0 he => ⟨by have := hlt b off h0 he; omega, fun h => by have := hlt b off h0 he; have := hof2 b h; omega⟩)).mono ?_
  rintro e w3 ⟨rfl, o3, hw, hk3, ho3⟩
  have hof3 : ∀ b, o3 = some b → w.heap.size ≤ b := by
    intro b hb
    rcases ho3 with h | ⟨b', h, hb'⟩
    · rw [h] at hb; have := hof2 b hb; omega
    · rw [h] at hb; cases hb; omega
  have hbad : ∀ i, (i = p ∨ o2 = some i) → w.heap.size ≤ i := fun i h => by
    rcases h with h | h
    · omega
    · have := hof2 i h; omega
  have HS := Lib.hid (HS.out.kept hk3 (fun b off h0 he hh => by
    have := hlt b off h0 he
    have := hbad b hh
    omega))
  have hkw3 : Kept (fun _ => False) w w3 := hkw2.trans (hk3.mono (fun i _ h => Or.inr (hbad i h)))
  have HW := Lib.hid hw
  have hz3 := hk3.size
  clear hw hk3 ho3 hkw2 hbad
  go_wp2_with fail
  refine (wbits_yes p o3 _ _ v2 k2 _ HW.out (by omega) (by omega) (by omega) (by omega)).mono ?_
  rintro e w4 ⟨rfl, o4, hw, hk4, -⟩
  have hbad : ∀ i, (i = p ∨ o3 = some i) → w.heap.size ≤ i := fun i h => by
    rcases h with h | h
    · omega
    · have := hof3 i h; omega
  have HS := Lib.hid (HS.out.kept hk4 (fun b off h0 he hh => by
    have := hlt b off h0 he
    have := hbad b hh
    omega))
  have hkw4 : Kept (fun _ => False) w w4 := hkw3.trans (hk4.mono (fun i _ h => Or.inr (hbad i h)))
  have HW := Lib.hid hw
  have hz4 := hk4.size
  clear hw hk4 hkw3 hbad
  go_wp2_with fail
  refine (done_any p o4 _ _ _ HW.out (by omega)).mono ?_
  rintro e w5 ⟨v, ds, rfl, hd, hdb, hdv, hdl, hk5, -⟩
  have HS := Lib.hid (HS.out.kept hk5 (fun _ _ _ _ => id))
  have hkw5 := hkw4.then hk5
  obtain ⟨a5, cap5, rfl, hsl5, hc5, hc5m, hn5, -⟩ := hd.shape
  have HD := Lib.hid hsl5
  have hz5 := hk5.size
  have hdl' : ds.length = ((k1 + 7) / 8) + len + (k2 + 7) / 8 := by simp at hdl; omega
  have hdl3 : ds.length ≤ 500 := by omega
  have hdl4 : 0 < ds.length := by omega
  have HDL := Lib.hid hdl'
  have HDV := Lib.hid hdv
  clear hk5 hd hkw4 hsl5 hdl hdv hdl'
  go_wp2_with fail
  refine (newReader a5 ds.length cap5 ds _ HD.out hn5 (by omega) hdb).mono ?_
  rintro e w6 ⟨q, oq, rfl, hr, hq, hoq, hk6⟩
  have HS := Lib.hid (HS.out.kept hk6 (fun _ _ _ _ => id))
  have hkw6 := hkw5.then hk6
  have HR := Lib.hid hr
  clear hr hk6 hkw5
  go_wp2_with fail
  refine (rbits_yes q oq ds 0 k1 _ HR.out (by omega) (by have := HDL.out; omega)).mono ?_
  rintro e w7 ⟨rfl, hr, hk7⟩
  have hqw : w.heap.size ≤ q := by omega
  have HS := Lib.hid (HS.out.kept hk7 (fun b off h0 he hh => by
    have := hlt b off h0 he
    have hh' : b = q := hh
    omega))
  have hkw7 : Kept (fun _ => False) w w7 := hkw6.trans (hk7.mono (fun i _ h => Or.inr (by have : i = q := h; omega)))
  have HR := Lib.hid hr
  clear hr hk7 hkw6
  have hkeep : ∀ wa wb, Kept (· = q) wa wb → SlAt .u8 wa a len xs → SlAt .u8 wb a len xs := fun wa wb hk h => h.kept hk (fun b off h0 he hh => by
    have := hlt b off h0 he
    have hh' : b = q := hh
    omega)
  have hkq : ∀ wa wb, Kept (fun _ => False) w wa → Kept (· = q) wa wb → Kept (fun _ => False) w wb := fun wa wb h hk => h.trans (hk.mono (fun i _ h => Or.inr (by have : i = q := h; omega)))
  have hxs : xs.length = len := HS.out.1
  clear hz0 hz2 hz3 hz4 hz5 hof2 hof3 hw1s hp hpw hlt HW HD hc5 hc5m hn5 hqw hq hoq
  rw [Nat.zero_add] at HR
  by_cases h8 : k1 % 8 = 0
  · have e8 : (k1 : Int) % 8 = 0 := by omega
    go_wp2_with fail
    refine (rbytes_yes q oq ds k1 (k1 / 8) 1 _ HR.out (by omega) (by have := HDL.out; omega) hdl4).mono ?_
    rintro e w8 ⟨v8, rfl, -, hr, hk8, -⟩
    have hkw8 := hkq _ _ hkw7 hk8
    have HR := Lib.hid hr
    have HS := Lib.hid (hkeep _ _ hk8 HS.out)
    clear hr hk8 hkw7
    go_wp2_with fail
    refine (ralign_any q oq ds _ _ HR.out).mono ?_
    rw [show (8 - (k1 + 8 * 1) % 8) % 8 = 0 by omega]
    rintro e w9 ⟨rfl, hr, hk9⟩
    have hkw9 := hkq _ _ hkw8 hk9
    have HR := Lib.hid hr
    have HS := Lib.hid (hkeep _ _ hk9 HS.out)
    clear hr hk9 hkw8
    go_wp2_with fail
    refine (rbytes_yes q oq ds _ (k1 / 8 + 1) len _ HR.out (by omega) (by have := HDL.out; omega) hdl4).mono ?_
    rintro e w10 ⟨v10, rfl, ho10, hr, hk10, -⟩
    have hkw10 := hkq _ _ hkw9 hk10
    have HR := Lib.hid hr
    obtain ⟨a10, cap10, rfl, hsl10, -⟩ := ho10.shape
    clear hr hk10 hkw9 ho10
    go_wp2_with fail
    refine (peek_no q oq ds _ k2 _ HR.out (by have := HDL.out; omega)).mono ?_
    rintro e w11 ⟨rfl, hm⟩
    have hk11 : Kept (fun _ => False) w10 w11 := by obtain ⟨m, rfl⟩ := hm; exact (Kept.refl _ _).drewN _
    have hkw11 := hkw10.then hk11
    have HR := Lib.hid (HR.out.kept hk11 id (fun _ _ => id))
    clear hm hk11 hkw10
    go_wp2_with fail
    refine (rbits_no q oq ds _ k2 _ HR.out (by have := HDL.out; omega)).mono ?_
    rintro e w12 ⟨rfl, hm⟩
    have hk12 : Kept (fun _ => False) w11 w12 := by obtain ⟨m, rfl⟩ := hm; exact (Kept.refl _ _).drewN _
    have hkw12 := hkw11.then hk12
    clear hm hk12 hkw11
    go_wp2
    go_ret
    exact ⟨rfl, hkw12⟩
  · have e8 : ¬ (k1 : Int) % 8 = 0 := by omega
    obtain ⟨s, hs⟩ : ∃ s, (8 - k1 % 8) % 8 = s := ⟨_, rfl⟩
    have e9 : (8 : Int) - (k1 : Int) % 8 = s := by omega
    go_wp2_with fail
    refine (rbytes_no q oq ds k1 1 _ HR.out (by omega) h8).mono ?_
    rintro e w' ⟨rfl, rfl⟩
    go_wp2_with fail
    refine (ralign_any q oq ds _ _ HR.out).mono ?_
    rw [hs]
    rintro e w9 ⟨rfl, hr, hk9⟩
    have hkw9 := hkq _ _ hkw7 hk9
    have HR := Lib.hid hr
    have HS := Lib.hid (hkeep _ _ hk9 HS.out)
    clear hr hk9 hkw7
    go_wp2_with fail
    refine (rbytes_yes q oq ds _ ((k1 + 7) / 8) len _ HR.out (by omega) (by have := HDL.out; omega) hdl4).mono ?_
    rintro e w10 ⟨v10, rfl, ho10, hr, hk10, hfr⟩
    have hqlt : q < w9.heap.size := by obtain ⟨_, h1, -⟩ := HR.out; exact lt_of_blk h1
    have hkw10 := hkq _ _ hkw9 hk10
    have HR := Lib.hid hr
    have HS := Lib.hid (hkeep _ _ hk10 HS.out)
    have hxz := xor_low (v2 % 2 ^ k2) (v2 / 2 ^ k2) k2 (Nat.mod_lt _ (Nat.pow_pos (by omega)))
    rw [show v2 / 2 ^ k2 * 2 ^ k2 + v2 % 2 ^ k2 = v2 by have := Nat.div_add_mod v2 (2 ^ k2); rw [Nat.mul_comm]; exact this] at hxz
    have hrl : v2 % 2 ^ k2 < 4294967296 := by have := Nat.mod_le v2 (2 ^ k2); omega
    have hzl : v2 / 2 ^ k2 * 2 ^ k2 < 4294967296 := by have := Nat.div_mul_le_self v2 (2 ^ k2); omega
    have hz0 : v2 / 2 ^ k2 * 2 ^ k2 * 2 ^ (32 - k2) % 4294967296 = 0 := by
      rw [Nat.mul_assoc, ← Nat.pow_add, show k2 + (32 - k2) = 32 by omega]; omega
    obtain ⟨r, hr⟩ : ∃ r, v2 % 2 ^ k2 = r := ⟨_, rfl⟩
    obtain ⟨z, hz⟩ : ∃ z, v2 / 2 ^ k2 * 2 ^ k2 = z := ⟨_, rfl⟩
    obtain ⟨j, hj⟩ : ∃ j, 32 - k2 = j := ⟨_, rfl⟩
    rw [hr, hz] at hxz
    rw [hr] at hrl
    rw [hz] at hzl hz0
    rw [hj] at hz0
    have hjz : (32 : Int) - (k2 : Int) = (j : Int) := by omega
    have hj31 : j ≤ 31 := by omega
    have hxx : bits BinOp.xor IntKind.u32 (r : Int) (v2 : Int) = (z : Int) := by
      rw [u32_xor_nat _ _ hrl hv2, hxz]
    have hzi : (z : Int) * 2 ^ j % 4294967296 = 0 := by
      have : ((z * 2 ^ j % 4294967296 : Nat) : Int) = 0 := by rw [hz0]; rfl
      simpa using this
    obtain ⟨q1, q2⟩ : (ds.drop ((k1 + 7) / 8)).take len = xs ∧ bitsOf (nats ds) (k1 + s + 8 * len) k2 = r := by
      rw [← hr, show k1 + s + 8 * len = 8 * ((k1 + 7) / 8) + 8 * len by omega]
      refine parts_of hdb hb hxs (by have := HDL.out; omega) (v1 := v1) h12 ?_
      rw [HDV.out, Nat.zero_add, Nat.zero_add, Nat.pow_zero, Nat.mul_one]
    clear hr hz hj hxz hz0
    rw [q1] at ho10
    obtain ⟨a10, cap10, rfl, hsl10, -, -, -, hab10⟩ := ho10.shape
    have hne10 : ∀ b off, a10 = some ⟨b, off, none⟩ → b ≠ q := fun b off he => by have := hfr b (hab10 b off he); omega
    rw [hxs] at hsl10
    have HSL := Lib.hid hsl10
    clear hr hk10 hkw9 ho10 hsl10 hab10 hfr
    go_wp2_with fail
    refine (peek_yes q oq ds _ k2 _ HR.out (by omega) (by have := HDL.out; omega)).mono ?_
    rw [q2]
    rintro e w11 ⟨rfl, hm⟩
    have hk11 : Kept (fun _ => False) w10 w11 := by obtain ⟨m, rfl⟩ := hm; exact (Kept.refl _ _).drewN _
    have hkw11 := hkw10.then hk11
    have HR := Lib.hid (HR.out.kept hk11 id (fun _ _ => id))
    have HSL := Lib.hid (HSL.out.kept hk11 (fun _ _ _ _ => id))
    have HS := Lib.hid (HS.out.kept hk11 (fun _ _ _ _ => id))
    clear hm hk11 hkw10
    go_wp2_with fail
    refine (rbits_yes q oq ds _ k2 _ HR.out (by omega) (by have := HDL.out; omega)).mono ?_
    rw [q2]
    rintro e w12 ⟨rfl, -, hk12⟩
    have hkw12 := hkq _ _ hkw11 hk12
    have hs12 := hkeep _ _ hk12 HS.out
    have hs10 := HSL.out.kept hk12 (fun b off _ he hh => hne10 b off he hh)
    have hcv1 := run_str (P := Try.prog) (dst := 9) (cap := cap10) Try.underlying29 Try.underlying5 Try.underlying9 hs10
    have hcv2 := run_str (P := Try.prog) (dst := 9) (cap := cap) Try.underlying29 Try.underlying5 Try.underlying9 hs12
    obtain ⟨str, hstr⟩ : ∃ str, strOfNums xs = str := ⟨_, rfl⟩
    rw [hstr] at hcv1 hcv2
    clear hk12 hstr q2 hs12 hs10
    go_wp2
    go_ret
    refine ⟨ret_bool ?_, hkw12⟩
    simp [e8]
set_option maxRecDepth 100000 in
set_option maxHeartbeats 2000000 in
theorem bytes_early (v1 n1 v2 n2 : Int) (len cap : Nat) (a : Option Addr) (w : World)
    (h : n1 < 1 ∨ (1 ≤ n1 ∧ 32 < n1) ∨ (1 ≤ n1 ∧ n1 ≤ 32 ∧ n2 < 1) ∨ (1 ≤ n1 ∧ n1 ≤ 32 ∧ 1 ≤ n2 ∧ 32 < n2) ∨ (1 ≤ n1 ∧ n1 ≤ 32 ∧ 1 ≤ n2 ∧ n2 ≤ 32 ∧ 400 < len)) :
    Calls Try.prog 8 #[.int .u32 v1, .int .i64 n1, .slice a len cap, .int .u32 v2, .int .i64 n2] w fun e w' => e = .returned (.bool true) ∧ Kept (fun _ => False) w w' := by
  rcases h with h | ⟨h1, h⟩ | ⟨h1, h2, h⟩ | ⟨h1, h2, h3, h⟩ | ⟨h1, h2, h3, h4, h⟩
  · have g1 : decide (n1 < 1) = true := by simp; omega
    go_enter Try.func8, Try.ntmps8
    go_wp2_with fail
    refine (known_any _).mono ?_; rintro e w0 ⟨rfl, hk0⟩
    go_wp2
    go_ret
    exact ⟨rfl, hk0⟩
  · have g1 : decide (n1 < 1) = false := by simp; omega
    have g2 : decide (32 < n1) = true := by simp; omega
    go_enter Try.func8, Try.ntmps8
    go_wp2_with fail
    refine (known_any _).mono ?_; rintro e w0 ⟨rfl, hk0⟩
    go_wp2
    go_ret
    exact ⟨rfl, hk0⟩
  · have g1 : decide (n1 < 1) = false := by simp; omega
    have g2 : decide (32 < n1) = false := by simp; omega
    have g3 : decide (n2 < 1) = true := by simp; omega
    go_enter Try.func8, Try.ntmps8
    go_wp2_with fail
    refine (known_any _).mono ?_; rintro e w0 ⟨rfl, hk0⟩
    go_wp2
    go_ret
    exact ⟨rfl, hk0⟩
  · have g1 : decide (n1 < 1) = false := by simp; omega
    have g2 : decide (32 < n1) = false := by simp; omega
    have g3 : decide (n2 < 1) = false := by simp; omega
    have g4 : decide (32 < n2) = true := by simp; omega
    go_enter Try.func8, Try.ntmps8
    go_wp2_with fail
    refine (known_any _).mono ?_; rintro e w0 ⟨rfl, hk0⟩
    go_wp2
    go_ret
    exact ⟨rfl, hk0⟩
  · have g1 : decide (n1 < 1) = false := by simp; omega
    have g2 : decide (32 < n1) = false := by simp; omega
    have g3 : decide (n2 < 1) = false := by simp; omega
    have g4 : decide (32 < n2) = false := by simp; omega
    have g5 : decide (400 < (len : Int)) = true := by simp; omega
    go_enter Try.func8, Try.ntmps8
    go_wp2_with fail
    refine (known_any _).mono ?_; rintro e w0 ⟨rfl, hk0⟩
    go_wp2
    go_ret
    exact ⟨rfl, hk0⟩
theorem bytes_any {a : Option Addr} {len cap : Nat} {zs : List Int} {v1 n1 v2 n2 : Int} {w : World}
    (f0 : (Lit.int .u32 v1).wf = true) (f1 : (Lit.int .i64 n1).wf = true) (f2 : IsRow .u8 w a len cap zs) (f3 : (Lit.int .u32 v2).wf = true) (f4 : (Lit.int .i64 n2).wf = true) :
    Calls Try.prog 8 #[.int .u32 v1, .int .i64 n1, .slice a len cap, .int .u32 v2, .int .i64 n2] w fun e w' => e = .returned (.bool true) ∧ Below w.heap.size w w' := by
  obtain ⟨s, c, m, b, l, hn⟩ := f2.slAt
  have q1 := u32_of_wf f0
  have q2 := u32_of_wf f3
  refine Calls.mono (R := fun e w' => e = .returned (.bool true) ∧ Kept (fun _ => False) w w') ?_ fun _ _ h => ⟨h.1, h.2.below⟩
  by_cases h : 1 ≤ n1 ∧ n1 ≤ 32 ∧ 1 ≤ n2 ∧ n2 ≤ 32 ∧ len ≤ 400
  · obtain ⟨h1, h2, h3, h4, h5⟩ := h
    obtain ⟨x1, rfl⟩ : ∃ u : Nat, v1 = u := ⟨v1.toNat, by omega⟩
    obtain ⟨x2, rfl⟩ : ∃ u : Nat, v2 = u := ⟨v2.toNat, by omega⟩
    obtain ⟨k1, rfl⟩ : ∃ u : Nat, n1 = u := ⟨n1.toNat, by omega⟩
    obtain ⟨k2, rfl⟩ : ∃ u : Nat, n2 = u := ⟨n2.toNat, by omega⟩
    exact bytes_go x1 k1 x2 k2 len cap a _ w (by omega) (by omega) (by omega) (by omega) (by omega) (by omega) h5 s hn (bytes_of_wf b) l
  · exact bytes_early v1 n1 v2 n2 len cap a w (by omega)
end Go.Proofs.Ytocahkmfopbdlaa
