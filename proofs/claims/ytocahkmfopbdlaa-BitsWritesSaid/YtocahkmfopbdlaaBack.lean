/- Numbers of some bits go to bytes and back. -/
import Derived.Test.YtocahkmfopbdlaaPuts
import Derived.Test.YtocahkmfopbdlaaRany
import Derived.Test.YtocahkmfopbdlaaNumbers
import Derived.StillTailTactics
namespace Go.Proofs.Ytocahkmfopbdlaa
open Go.RowKit Pl
set_option linter.unusedVariables false
/-- How many bits a put of n bits takes. -/
def widI (n : Int) : Nat := if 1 ≤ n ∧ n ≤ 32 then n.toNat else 0
theorem widI_le (n : Int) : widI n ≤ 32 := by unfold widI; split <;> omega
theorem wbits_any (p : Nat) (o : Option Nat) (V L v : Nat) (n : Int) (w : World) (h : WrAt w p o V L) (hv : v < 4294967296) (hL : L ≤ 1099511627776) :
    Calls Try.prog 12 #[.pointer (some ⟨p, 0, none⟩), .int .u32 v, .int .i64 n] w fun e w' => e = .returned (.tuple #[]) ∧ ∃ o', WrAt w' p o' (V + v % 2 ^ widI n * 2 ^ L) (L + widI n) ∧ Kept (fun i => i = p ∨ o = some i) w w' ∧ (o' = o ∨ ∃ b, o' = some b ∧ w.heap.size ≤ b) := by
  by_cases hn : 1 ≤ n ∧ n ≤ 32
  · obtain ⟨k, rfl⟩ : ∃ k : Nat, n = k := ⟨n.toNat, by omega⟩
    have e : widI k = k := by unfold widI; rw [if_pos hn]; omega
    rw [e]
    exact wbits_yes p o V L v k w h hv (by omega) (by omega) hL
  · have e : widI n = 0 := by unfold widI; rw [if_neg hn]
    rw [e]
    refine (wbits_no p v n w (by omega)).mono ?_
    rintro e w' ⟨rfl, rfl⟩
    exact ⟨rfl, o, by simpa [Nat.mod_one] using h, Kept.refl _ _, .inl rfl⟩
def packL (R : Nat → PutR) : Nat → Nat
  | 0 => 0
  | k + 1 => packL R k + widI (R k).N
def packV (R : Nat → PutR) : Nat → Nat
  | 0 => 0
  | k + 1 => packV R k + (R k).V.toNat % 2 ^ widI (R k).N * 2 ^ packL R k
theorem packL_le (R : Nat → PutR) (k : Nat) : packL R k ≤ 32 * k := by
  induction k with
  | zero => simp [packL]
  | succ k ih => have := widI_le (R k).N; simp only [packL]; omega
theorem packV_lt (R : Nat → PutR) (k : Nat) : packV R k < 2 ^ packL R k := by
  induction k with
  | zero => simp [packV, packL]
  | succ k ih =>
    simp only [packV, packL, Nat.pow_add]
    have h := Nat.mod_lt (R k).V.toNat (Nat.two_pow_pos (widI (R k).N))
    have h2 : ((R k).V.toNat % 2 ^ widI (R k).N + 1) * 2 ^ packL R k ≤ 2 ^ widI (R k).N * 2 ^ packL R k := Nat.mul_le_mul_right _ h
    rw [Nat.add_mul, Nat.one_mul] at h2
    rw [Nat.mul_comm (2 ^ packL R k)]
    omega
theorem pack_ext (R : Nat → PutR) (k j : Nat) : packL R k ≤ packL R (k + j) ∧ ∃ r, packV R (k + j) = packV R k + 2 ^ packL R k * r := by
  induction j with
  | zero => exact ⟨Nat.le_refl _, 0, by simp⟩
  | succ j ih =>
    obtain ⟨h1, r, h2⟩ := ih
    refine ⟨by rw [← Nat.add_assoc]; simp only [packL]; omega, r + (R (k + j)).V.toNat % 2 ^ widI (R (k + j)).N * 2 ^ (packL R (k + j) - packL R k), ?_⟩
    rw [← Nat.add_assoc]
    simp only [packV]
    rw [h2, Nat.mul_add, Nat.add_assoc]
    congr 2
    rw [Nat.mul_left_comm, ← Nat.pow_add, show packL R k + (packL R (k + j) - packL R k) = packL R (k + j) by omega]
theorem pack_at (R : Nat → PutR) (k len : Nat) (h : k < len) (l : List Nat) (hl : val l = packV R len) : bitsOf l (packL R k) (widI (R k).N) = (R k).V.toNat % 2 ^ widI (R k).N := by
  obtain ⟨-, r, hr⟩ := pack_ext R (k + 1) (len - (k + 1))
  rw [show k + 1 + (len - (k + 1)) = len by omega] at hr
  unfold bitsOf
  rw [hl, hr]
  simp only [packV, packL, Nat.pow_add]
  have h1 := packV_lt R k
  rw [show packV R k + (R k).V.toNat % 2 ^ widI (R k).N * 2 ^ packL R k + 2 ^ packL R k * 2 ^ widI (R k).N * r = packV R k + 2 ^ packL R k * ((R k).V.toNat % 2 ^ widI (R k).N + 2 ^ widI (R k).N * r) by
    rw [Nat.mul_add, ← Nat.mul_assoc, Nat.add_assoc, Nat.mul_comm ((R k).V.toNat % 2 ^ widI (R k).N)]]
  rw [Nat.add_mul_div_left _ _ (Nat.two_pow_pos _), Nat.div_eq_of_lt h1, Nat.zero_add, Nat.add_mul_mod_self_left, Nat.mod_mod]
set_option maxRecDepth 100000 in
set_option maxHeartbeats 8000000 in
theorem back_go (len cap : Nat) (a : Option Addr) (R : Nat → PutR) (w : World) (hp : IsPuts w a len R) (hl : len ≤ 9223372036854775807) :
    Calls Try.prog 3 #[.slice a len cap] w fun e w' => e = .returned (.bool true) ∧ Kept (fun _ => False) w w' := by
  have HP := Lib.hid hp
  clear hp
  go_enter Try.func3, Try.ntmps3
  go_wp2_with fail
  refine (known_any _).mono ?_; rintro e w0 ⟨rfl, hk0⟩
  have HP0 := Lib.hid (HP.out.kept hk0 (fun _ _ => id))
  have hz0 := hk0.size
  go_wp2_with fail
  refine (few_any a len cap R _ HP0.out hl).mono ?_
  rintro e w' ⟨b, rfl, hb, rfl⟩
  cases b with
  | false =>
    go_wp2
    go_ret
    exact ⟨rfl, hk0⟩
  | true =>
  have hfew := hb rfl
  have hlen : len ≤ 1024 := by
    have : ∀ k, 4 * k ≤ sumL R k := by
      intro k
      induction k with
      | zero => simp
      | succ k ih => simp only [sumL]; omega
    have := this len
    omega
  clear hb hfew
  go_wp2_with fail
  refine (newWriter _).mono ?_
  rintro e w1 ⟨p, rfl, hw, hp0, hk1⟩
  have hkw1 := hk0.then hk1
  have hz1 := hk1.size
  have HW1 := Lib.hid hw
  have keep : ∀ wa wb (o : Option Nat), (∀ b, o = some b → w.heap.size ≤ b) → Kept (fun _ => False) w wa → Kept (fun i => i = p ∨ o = some i) wa wb → Kept (fun _ => False) w wb := fun wa wb o ho h hk =>
    h.trans (hk.mono (fun i _ h => Or.inr (by rcases h with h | h; omega; exact ho i h)))
  have KP := Lib.hid keep
  clear keep hw hk1
  go_wp2_with fail
  go_loopw [4] (fun i wr => ∃ (k : Nat) (o : Option Nat), k ≤ len ∧ i = .int .i64 k ∧ WrAt wr p o (packV R k) (packL R k) ∧ (∀ b, o = some b → w.heap.size ≤ b) ∧ Kept (fun _ => False) w wr) (fun i _ => len - (intOf i).toNat)
  case atStart => exact ⟨0, none, by omega, rfl, HW1.out, (fun b h => by cases h), hkw1⟩
  case round =>
    obtain ⟨k, o, hk, rfl, hw, ho, hkw⟩ := hrel
    have HW := Lib.hid hw
    have hLk := packL_le R k
    by_cases hkl : k < len
    · obtain ⟨lb, loff, rfl, hlb, hc⟩ := HP.out.resolve_left (by omega)
      obtain ⟨-, c1, c2, -, -, -, wv, -⟩ := hc k hkl
      have hv := u32_of_wf wv
      obtain ⟨v, hve⟩ : ∃ v : Nat, (R k).V = v := ⟨(R k).V.toNat, by omega⟩
      have hvt : (R k).V.toNat = v := by omega
      obtain ⟨n, hne⟩ : ∃ n, (R k).N = n := ⟨_, rfl⟩
      have hsV : packV R (k + 1) = packV R k + v % 2 ^ widI n * 2 ^ packL R k := by simp only [packV, hvt, hne]
      have hsL : packL R (k + 1) = packL R k + widI n := by simp only [packL, hne]
      have c1 := hkw.cell c1 id
      have c2 := hkw.cell c2 id
      rw [hne] at c1
      rw [hve] at c2
      have hv32 : v < 4294967296 := by omega
      have HSV := Lib.hid hsV
      have HSL := Lib.hid hsL
      have HO := Lib.hid ho
      have hzr := hkw.size
      clear hw hc hve hvt hne hsV hsL ho wv hv
      go_wp2
      go_still_tail 11, (by kernel_rfl)
      change wpList _ _ _ _ _ wr.drew
      obtain ⟨wd, hwd⟩ : ∃ wd, wr.drew = wd := ⟨_, rfl⟩
      have HWd := Lib.hid (by rw [← hwd]; exact HW.out : WrAt wd p o (packV R k) (packL R k))
      have hkd : Kept (fun _ => False) w wd := by rw [← hwd]; exact hkw.drew
      rw [hwd]
      clear hwd c1 c2
      go_wp2_with fail
      refine (wbits_any p o _ _ v n _ HWd.out hv32 (by omega)).mono ?_
      rintro e w4 ⟨rfl, o', hw4, hk4, ho4⟩
      have hkw4 := KP.out _ _ _ HO.out hkd hk4
      have hzd := hkd.size
      go_wp2
      go_roundw
      case rel =>
        refine ⟨k + 1, o', by omega, by go_num, by rw [HSV.out, HSL.out]; exact hw4, ?_, hkw4⟩
        intro b hb
        rcases ho4 with h | ⟨b', h, hb'⟩
        · exact HO.out b (h ▸ hb)
        · rw [h] at hb; cases hb; omega
      case measure => simp [intOf]; omega
    · obtain rfl : k = len := by omega
      clear hw
      have HO := Lib.hid ho
      clear ho
      go_wp2_with fail
      refine (done_any p o _ _ _ HW.out (by omega)).mono ?_
      rintro e w2 ⟨v, ds, rfl, hd, hdb, hdv, hdl, hk2, -⟩
      obtain ⟨a5, cap5, rfl, hsl5, hc5, hc5m, hn5, -⟩ := hd.shape
      have HD := Lib.hid hsl5
      have HDV := Lib.hid hdv
      have hkw2 := hkw.then hk2
      have hdl2 : packL R k ≤ 8 * ds.length ∧ 8 * ds.length < packL R k + 8 := by omega
      have hdl3 : ds.length ≤ 70368744177664 := by omega
      clear hd hsl5 hdv hdl hk2
      go_wp2_with fail
      refine (newReader a5 ds.length cap5 ds _ HD.out hn5 hdl3 hdb).mono ?_
      rintro e w3 ⟨q, oq, rfl, hr, hq, -, hk3⟩
      have hkw3 := hkw2.then hk3
      have HR3 := Lib.hid hr
      have hz2 := hkw2.size
      have keepQ : ∀ wa wb, Kept (fun _ => False) w wa → Kept (· = q) wa wb → Kept (fun _ => False) w wb := fun wa wb h hk => h.trans (hk.mono (fun i _ h => Or.inr (by have : i = q := h; omega)))
      have KQ := Lib.hid keepQ
      clear hr hk3 keepQ hdb HW hkw hkw2 hkw1
      go_wp2_with fail
      go_loopw [6] (fun i wr => ∃ j : Nat, j ≤ k ∧ i = .int .i64 j ∧ RdAt wr q oq ds (packL R j) ∧ Kept (fun _ => False) w wr) (fun i _ => k - (intOf i).toNat)
      case atStart => exact ⟨0, by omega, rfl, HR3.out, hkw3⟩
      case round =>
        obtain ⟨j, hj, rfl, hr, hkw⟩ := hrel
        have HR := Lib.hid hr
        by_cases hjk : j < k
        · obtain ⟨lb, loff, rfl, hlb, hc⟩ := HP.out.resolve_left (by omega)
          obtain ⟨-, c1, c2, -, -, -, wv, -⟩ := hc j hjk
          have hv := u32_of_wf wv
          obtain ⟨v, hve⟩ : ∃ v : Nat, (R j).V = v := ⟨(R j).V.toNat, by omega⟩
          have hvt : (R j).V.toNat = v := by omega
          obtain ⟨n, hne⟩ : ∃ n, (R j).N = n := ⟨_, rfl⟩
          have hsL : packL R (j + 1) = packL R j + widI n := by simp only [packL, hne]
          have hat := pack_at R j k hjk (nats ds) HDV.out
          have hmono := (pack_ext R (j + 1) (k - (j + 1))).1
          rw [show j + 1 + (k - (j + 1)) = k by omega] at hmono
          rw [hne, hvt] at hat
          have c1 := hkw.cell c1 id
          have c2 := hkw.cell c2 id
          rw [hne] at c1
          rw [hve] at c2
          have hv32 : v < 4294967296 := by omega
          have HSL := Lib.hid hsL
          have hmm : packL R j + widI n ≤ 8 * ds.length := by omega
          clear hr hc hve hvt hne hsL wv hv
          by_cases n1 : n < 1
          · have g1 : decide (n < 1) = true := by simp; omega
            have e0 : widI n = 0 := by unfold widI; rw [if_neg (by omega)]
            rw [e0] at HSL
            clear hat e0
            go_wp2
            go_roundw
            case rel => exact ⟨j + 1, by omega, by go_num, by rw [HSL.out]; exact HR.out, hkw⟩
            case measure => simp [intOf]; omega
          have g1 : decide (n < 1) = false := by simp; omega
          by_cases n2 : 32 < n
          · have g2 : decide (32 < n) = true := by simp; omega
            have e0 : widI n = 0 := by unfold widI; rw [if_neg (by omega)]
            rw [e0] at HSL
            clear hat e0
            go_wp2
            go_roundw
            case rel => exact ⟨j + 1, by omega, by go_num, by rw [HSL.out]; exact HR.out, hkw⟩
            case measure => simp [intOf]; omega
          have g2 : decide (32 < n) = false := by simp; omega
          obtain ⟨m, rfl⟩ : ∃ m : Nat, n = m := ⟨n.toNat, by omega⟩
          have e0 : widI m = m := by unfold widI; rw [if_pos (by omega)]; omega
          rw [e0] at HSL hat hmm
          clear e0
          have hcall := rbits_yes q oq ds (packL R j) m wr HR.out (by omega) hmm
          rw [hat] at hcall
          have HC := Lib.hid hcall
          have hkeepC : ∀ wb, Kept (· = q) wr wb → wb.cell? ⟨lb, loff + j * 4 + 2, none⟩ = some (.int .u32 v) := fun wb hk => hk.cell c2 (fun hh => by have h1 : lb = q := hh; omega)
          have KC := Lib.hid hkeepC
          clear hat hcall hkeepC c2
          go_wp2_with fail
          refine HC.out.mono ?_
          rintro e w4 ⟨rfl, hr4, hk4⟩
          have c2 := KC.out _ hk4
          have hkw4 := KQ.out _ _ hkw hk4
          have HR4 := Lib.hid hr4
          clear hr4 hk4
          by_cases n3 : m < 32
          · have hp : 2 ^ m ≤ 2 ^ 31 := pow_le (by omega)
            have hp0 : 0 < 2 ^ m := Nat.pow_pos (by omega)
            have hmask : bits BinOp.and IntKind.u32 (v : Int) ((2 ^ m - 1) % 4294967296) = ((v % 2 ^ m : Nat) : Int) := by
              rw [show (((2 : Int) ^ m - 1) % 4294967296) = ((2 ^ m - 1 : Nat) : Int) by rw [show (2 : Int) ^ m = ((2 ^ m : Nat) : Int) by simp]; omega, u32_and_nat _ _ (by omega) (by omega), Nat.and_two_pow_sub_one_eq_mod]
            have d4 : decide ((m : Int) < 32) = true := by simp; omega
            obtain ⟨u, hu⟩ : ∃ u, v % 2 ^ m = u := ⟨_, rfl⟩
            rw [hu] at hmask ⊢
            clear hp hp0 hu
            go_wp2
            go_roundw
            case rel => exact ⟨j + 1, by omega, by go_num, by rw [HSL.out]; exact HR4.out, hkw4⟩
            case measure => simp [intOf]; omega
          · obtain rfl : m = 32 := by omega
            have d4 : decide (((32 : Nat) : Int) < 32) = false := rfl
            have hvv : v % 2 ^ 32 = v := Nat.mod_eq_of_lt hv32
            rw [hvv]
            clear hvv
            go_wp2
            go_roundw
            case rel => exact ⟨j + 1, by omega, by go_num, by rw [HSL.out]; exact HR4.out, hkw4⟩
            case measure => simp [intOf]; omega
        · obtain rfl : j = k := by omega
          have g9 : decide (8 * (ds.length : Int) - (packL R j : Int) < 8) = true := by simp; omega
          clear hr
          go_wp2_with fail
          refine (left_any q oq ds _ _ HR.out).mono ?_
          rintro e w5 ⟨rfl, hm⟩
          have hkw5 : Kept (fun _ => False) w w5 := by obtain ⟨m, rfl⟩ := hm; exact hkw.drewN _
          go_wp2
          go_ret
          exact ⟨rfl, hkw5⟩
theorem back_any {a : Option Addr} {len cap : Nat} {R : Nat → PutR} {w : World} (f0 : IsPuts w a len R ∧ len ≤ cap ∧ cap ≤ maxLen) :
    Calls Try.prog 3 #[.slice a len cap] w fun e w' => e = .returned (.bool true) ∧ Below w.heap.size w w' := by
  obtain ⟨h1, h2, h3⟩ := f0
  unfold maxLen at h3
  exact (back_go len cap a R w h1 (by omega)).mono fun _ _ h => ⟨h.1, h.2.below⟩
end Go.Proofs.Ytocahkmfopbdlaa
