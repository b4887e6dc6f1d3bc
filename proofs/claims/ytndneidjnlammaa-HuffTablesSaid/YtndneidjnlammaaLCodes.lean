/- The law HuffCodes: none begins another. -/
import Derived.Test.YtndneidjnlammaaKnown
import Derived.ProofKit
import Derived.OpenShut
namespace Go.Proofs.Ytndneidjnlammaa
open Go.RowKit Go.ChangeShapes Go.WideShapes Pl
set_option linter.unusedVariables false
set_option linter.unusedSimpArgs false
theorem u8_of_wf {n : Int} (h : (Lit.int .u8 n).wf = true) : 0 ≤ n ∧ n < 256 := by
  simp [Lit.wf, IntKind.min, IntKind.max, IntKind.signed, IntKind.bits] at h
  omega
theorem int_of_wf {n : Int} (h : (Lit.int .i64 n).wf = true) : -9223372036854775808 ≤ n ∧ n ≤ 9223372036854775807 := by
  simp [Lit.wf, IntKind.min, IntKind.max, IntKind.signed, IntKind.bits] at h
  omega
/-- A slice of bytes that comes in, as a list of natural numbers. -/
theorem row_ints {w : World} {a : Option Addr} {len cap : Nat} {zs : List Int} (h : IsRow .u8 w a len cap zs) :
    ∃ bs : List Nat, SlAt .u8 w a len (ints bs) ∧ (∀ c ∈ bs, c < 256) ∧ bs.length = len ∧ len ≤ cap ∧ cap ≤ 9223372036854775807 ∧ (∀ b off, 0 < len → a = some ⟨b, off, none⟩ → b < w.heap.size) ∧ (a = none → len = 0 ∧ cap = 0) := by
  obtain ⟨h1, h2, h3, h4, h5, h6⟩ := h.slAt
  have e : zs.take len = ints ((zs.take len).map Int.toNat) := by
    unfold ints
    rw [List.map_map]
    have : ∀ n ∈ zs.take len, ((fun (n : Nat) => (n : Int)) ∘ Int.toNat) n = id n := by
      intro n hn
      have h9 := u8_of_wf (h4 n hn)
      simp; omega
    rw [List.map_congr_left this]; simp
  refine ⟨(zs.take len).map Int.toNat, by rw [← e]; exact h1, ?_, ?_, h2, h3, h5, h6⟩
  · intro c hc
    obtain ⟨n, hn, rfl⟩ := List.mem_map.1 hc
    have h9 := u8_of_wf (h4 n hn)
    omega
  · have := h1.1
    simp at this ⊢; omega

theorem rev_head (n d v : Nat) : rev v (n + d) % 2 ^ n = rev (v / 2 ^ d) n := by
  induction d generalizing v with
  | zero => rw [Nat.add_zero, Nat.pow_zero, Nat.div_one]; exact Nat.mod_eq_of_lt (rev_lt v n)
  | succ d ih =>
    rw [← Nat.add_assoc, rev_top, Nat.pow_add, ← Nat.mul_assoc, Nat.mul_comm (v % 2) (2 ^ n), Nat.mul_assoc, Nat.add_mul_mod_self_left, ih, Nat.div_div_eq_div_mul, Nat.pow_succ, Nat.mul_comm 2]
theorem rev_inj {x y n : Nat} (hx : x < 2 ^ n) (hy : y < 2 ^ n) (h : rev x n = rev y n) : x = y := by
  have h1 := rev_rev x n
  have h2 := rev_rev y n
  rw [Nat.mod_eq_of_lt hx] at h1
  rw [Nat.mod_eq_of_lt hy] at h2
  rw [← h1, ← h2, h]
theorem fst_far (ls : List Nat) (n d : Nat) : (fst ls n + cnt ls n) * 2 ^ (d + 1) ≤ fst ls (n + d + 1) := by
  induction d with
  | zero => rw [fst, Nat.pow_succ, Nat.pow_zero]; omega
  | succ d ih => rw [show n + (d + 1) + 1 = (n + d + 1) + 1 by omega, fst, Nat.pow_succ, ← Nat.mul_assoc]; omega
theorem part_len (ls : List Nat) (s : Nat) (hs : s < ls.length) (hc : ∀ c ∈ ls, c ≤ 15) : codeV ls s = rev (codeL ls s) (ls.getD s 0) ∧ lenV ls s = ls.getD s 0 := by
  by_cases h0 : ls.getD s 0 = 0
  · have e1 : hasCode ls (s : Int) = false := decide_eq_false (by rw [Int.toNat_natCast, h0]; omega)
    unfold codeV lenV
    rw [e1, h0]
    exact ⟨rfl, rfl⟩
  · have e1 : hasCode ls (s : Int) = true := decide_eq_true (by rw [Int.toNat_natCast]; omega)
    unfold codeV lenV
    rw [e1, Int.toNat_natCast]
    exact ⟨rfl, rfl⟩
theorem codeL_lt {ls : List Nat} (hr : room ls ≤ 32768) (hc : ∀ c ∈ ls, c ≤ 15) {s k : Nat} (h : ls[s]? = some k) (hk : 1 ≤ k) : codeL ls s < 2 ^ k := by
  have h1 := (code_rng h hk).2
  have h2 := fst_le hr k (hc k (List.mem_of_getElem? h))
  omega
/-- None begins another. -/
theorem none_begins {ls : List Nat} (hr : room ls ≤ 32768) (hc : ∀ c ∈ ls, c ≤ 15) {i k : Nat} (hi : i < ls.length) (hk : k < ls.length) (hne : i ≠ k) (hn : lenV ls i ≠ 0) (hm : lenV ls i ≤ lenV ls k) : codeV ls k % 2 ^ (lenV ls i) ≠ codeV ls i := by
  obtain ⟨e1, e2⟩ := part_len ls i hi hc
  obtain ⟨e3, e4⟩ := part_len ls k hk hc
  rw [e2] at hn hm ⊢
  rw [e4] at hm
  rw [e1, e3]
  obtain ⟨n, hN⟩ : ∃ n, ls.getD i 0 = n := ⟨_, rfl⟩
  obtain ⟨m, hM⟩ : ∃ m, ls.getD k 0 = m := ⟨_, rfl⟩
  rw [hN] at hn hm ⊢
  rw [hM] at hm ⊢
  have g1 : ls[i]? = some n := by rw [← hN, List.getD_eq_getElem?_getD, List.getElem?_eq_getElem hi]; rfl
  have g2 : ls[k]? = some m := by rw [← hM, List.getD_eq_getElem?_getD, List.getElem?_eq_getElem hk]; rfl
  obtain ⟨d, rfl⟩ : ∃ d, m = n + d := ⟨m - n, by omega⟩
  rw [rev_head]
  intro h
  have h1 := code_rng g1 (by omega)
  have h2 := code_rng g2 (by omega)
  have h3 : codeL ls k / 2 ^ d < 2 ^ n := by
    have := codeL_lt hr hc g2 (by omega)
    rw [Nat.pow_add, Nat.mul_comm] at this
    exact Nat.div_lt_of_lt_mul this
  have h4 := rev_inj h3 (codeL_lt hr hc g1 (by omega)) h
  cases d with
  | zero =>
    rw [Nat.pow_zero, Nat.div_one] at h4
    exact hne (code_inj g1 g2 (by omega) h4.symm)
  | succ d =>
    have h5 := fst_far ls n d
    have h6 : fst ls n + cnt ls n ≤ codeL ls k / 2 ^ (d + 1) := by
      rw [Nat.le_div_iff_mul_le (Nat.two_pow_pos _)]
      exact Nat.le_trans h5 h2.1
    omega
theorem mask_nat (x n : Nat) (hx : x < 4294967296) (hn : n ≤ 15) : bits BinOp.and IntKind.u32 (x : Int) ((2 : Int) ^ n - 1) = ((x % 2 ^ n : Nat) : Int) := by
  have hp : 2 ^ n ≤ 2 ^ 15 := Nat.pow_le_pow_right (n := 2) (by omega) hn
  have hp0 := Nat.two_pow_pos n
  have e0 : ((2 : Int) ^ n - 1) = ((2 ^ n - 1 : Nat) : Int) := by
    have : ((2 ^ n : Nat) : Int) = (2 : Int) ^ n := by norm_cast
    omega
  rw [e0]
  show IntKind.u32.wrap ((BitVec.ofInt 32 (x : Int) &&& BitVec.ofInt 32 ((2 ^ n - 1 : Nat) : Int)).toNat : Int) = _
  rw [BitVec.toNat_and, BitVec.toNat_ofInt, BitVec.toNat_ofInt]
  obtain ⟨P, hP⟩ : ∃ P, 2 ^ n - 1 = P := ⟨_, rfl⟩
  rw [hP]
  have e1 : (((x : Int) % ((2 ^ 32 : Nat) : Int)).toNat) = x := by omega
  have e2 : (((P : Int) % ((2 ^ 32 : Nat) : Int)).toNat) = P := by omega
  rw [e1, e2, ← hP, and_mask]
  exact IntWalk.u32_in _ (by have := Nat.mod_le x (2 ^ n); omega)
set_option maxRecDepth 100000 in
set_option maxHeartbeats 16000000 in
theorem codes_go (a0 : Option Addr) (len cap : Nat) (ls : List Nat) (W : World) (hs : SlAt .u8 W a0 len (ints ls)) (hb : ∀ c ∈ ls, c < 256) (hnil : a0 = none → len = 0 ∧ cap = 0) :
    Calls Try.prog 3 #[.slice a0 len cap] W fun e w' => e = .returned (.bool true) ∧ Kept (fun _ => False) W w' := by
  have hll : ls.length = len := by rw [← hs.1, ints_length]
  have H := Lib.hid (And.intro hs (And.intro hb (And.intro hll hnil)))
  by_cases hlen : 60 < len
  · have g0 : decide ((60 : Int) < (len : Int)) = true := decide_eq_true (by omega)
    have g0' : decide (60 < len) = true := decide_eq_true (by omega)
    clear hs hb hll hnil
    go_enter Try.func3, Try.ntmps3
    go_wp2_with fail
    refine (known_any W).mono ?_
    rintro e w1 ⟨rfl, hk1⟩
    go_wp2
    exact bodyPost_ret (v := .bool true) (by simp [results, Try.results3, go_sem]) rfl ⟨rfl, hk1⟩
  have g0 : decide ((60 : Int) < (len : Int)) = false := decide_eq_false (by omega)
  have g0' : decide (60 < len) = false := decide_eq_false (by omega)
  clear hs hb hll hnil
  go_enter Try.func3, Try.ntmps3
  go_wp2_with fail
  refine (known_any W).mono ?_
  rintro e w1 ⟨rfl, hk1⟩
  have HK1 := Lib.hid hk1
  clear hk1
  go_wp2_with fail
  refine (new_any a0 len cap ls w1 (H.out.1.kept HK1.out (fun _ _ _ _ => id)) H.out.2.1 (by omega) H.out.2.2.2).mono ?_
  rintro e w2 (⟨h0, rfl, hk2⟩ | ⟨h0, a, sv, cv, la, lc, rfl, hT, hk2, -⟩)
  · have g1 : ((newE ls : Int) == 0) = false := by simp; omega
    obtain ⟨E, hE⟩ : ∃ E, newE ls = E := ⟨_, rfl⟩
    rw [hE] at g1 ⊢
    have HK2 := Lib.hid (HK1.out.then hk2)
    clear hk2 h0 hE
    go_wp2
    exact bodyPost_ret (v := .bool true) (by simp [results, Try.results3, go_sem]) rfl ⟨rfl, HK2.out⟩
  have hc15 : ∀ c ∈ ls, c ≤ 15 := fun c hc => by
    rcases Nat.lt_or_ge 15 c with h | h
    · have := any_of hc h; omega
    · exact h
  have hok : okTab ls = true := by
    have h1 := any_no hc15
    rw [h0] at h1
    cases ho : okTab ls with
    | true => rfl
    | false => rw [ho] at h1; cases h1
  have hr := okTab_le hok
  have HP := Lib.hid (And.intro hT (And.intro hc15 (And.intro hr hok)))
  have HK2 := Lib.hid (HK1.out.then hk2)
  clear hT hc15 hr hok hk2 h0
  go_wp2
  go_loopg [5] (len + 1) (fun gg iv wr => ∃ i : Nat, len + 1 ≤ gg + i ∧ i ≤ len ∧ iv = .int .i64 (i : Int) ∧ Kept (fun _ => False) w2 wr)
  case atStart => exact ⟨0, by omega, by omega, rfl, Kept.refl _ _⟩
  case round =>
    obtain ⟨i, hgg, hil, rfl, hkr⟩ := hrel
    have HKR := Lib.hid hkr
    clear hkr
    by_cases hi : i < len
    · have gi : decide ((i : Int) < (len : Int)) = true := decide_eq_true (by omega)
      have gi' : decide (i < len) = true := decide_eq_true hi
      go_wp2_with fail
      refine (code_any wr a _ _ ls _ sv cv la lc (HP.out.1.grow HKR.out) HP.out.2.1 (by have := H.out.2.2.1; omega) (i : Int)).mono ?_
      rintro e w3 ⟨rfl, hk3⟩
      have hpl := part_len ls i (by rw [H.out.2.2.1]; exact hi) HP.out.2.1
      have HK3 := Lib.hid (HKR.out.then hk3)
      obtain ⟨A, hA⟩ : ∃ A, codeV ls i = A := ⟨_, rfl⟩
      obtain ⟨n, hn⟩ : ∃ n, lenV ls i = n := ⟨_, rfl⟩
      rw [hA, hn] at hpl ⊢
      obtain ⟨c, hcc⟩ : ∃ c, ls[i]? = some c := ⟨_, List.getElem?_eq_getElem (by rw [H.out.2.2.1]; exact hi)⟩
      have hnc : n = c := by rw [hpl.2, List.getD_eq_getElem?_getD, hcc]; rfl
      have hn15 : n ≤ 15 := by rw [hnc]; exact HP.out.2.1 c (List.mem_of_getElem? hcc)
      have hs3 := (H.out.1.kept HK2.out (fun _ _ _ _ => id)).kept HK3.out (fun _ _ _ _ => id)
      obtain ⟨b, off, rfl, hcell⟩ := hs3.2.resolve_left (by omega)
      have hci := hcell i hi
      rw [ints_at hcc, ← hnc] at hci
      have wn : IntKind.i64.wrap (n : Int) = (n : Int) := IntWalk.i64_in _ (by omega)
      have HI := Lib.hid (And.intro hA hn)
      clear hcell hs3 hpl hk3 hcc hnc hA hn
      obtain ⟨G, hG⟩ : ∃ G, gk = G := ⟨_, rfl⟩
      go_wp2
      go_loopg [8] (len + 1) (fun gg kv wr => ∃ k : Nat, len + 1 ≤ gg + k ∧ k ≤ len ∧ kv = .int .i64 (k : Int) ∧ Kept (fun _ => False) w2 wr)
      case atStart => exact ⟨0, by omega, by omega, rfl, HK3.out⟩
      case round =>
        obtain ⟨k, hgg2, hkl, rfl, hkr⟩ := hrel
        have HKR := Lib.hid hkr
        clear hkr
        by_cases hk : k < len
        · have gk0 : decide ((k : Int) < (len : Int)) = true := decide_eq_true (by omega)
          have gk0' : decide (k < len) = true := decide_eq_true hk
          go_wp2_with fail
          refine (code_any wr a _ _ ls _ sv cv la lc (HP.out.1.grow HKR.out) HP.out.2.1 (by have := H.out.2.2.1; omega) (k : Int)).mono ?_
          rintro e w4 ⟨rfl, hk4⟩
          have HK4 := Lib.hid (HKR.out.then hk4)
          have hnb := fun h1 h2 h3 => none_begins (ls := ls) (i := i) (k := k) HP.out.2.2.1 HP.out.2.1 (by rw [H.out.2.2.1]; exact hi) (by rw [H.out.2.2.1]; exact hk) h1 h2 h3
          have hBb : codeV ls k < 32768 := by
            rw [(part_len ls k (by rw [H.out.2.2.1]; exact hk) HP.out.2.1).1]
            refine rev_u32 _ _ ?_
            rw [List.getD_eq_getElem?_getD, List.getElem?_eq_getElem (by rw [H.out.2.2.1]; exact hk)]
            exact HP.out.2.1 _ (List.getElem_mem _)
          obtain ⟨B, hB⟩ : ∃ B, codeV ls k = B := ⟨_, rfl⟩
          obtain ⟨m, hm⟩ : ∃ m, lenV ls k = m := ⟨_, rfl⟩
          rw [HI.out.1, HI.out.2, hB, hm] at hnb
          rw [hB] at hBb
          rw [hB, hm]
          clear hk4 hB hm
          by_cases c1 : i = k
          · subst c1
            clear hnb
            go_wp2
            go_roundg (gk - 1)
            case rel => exact ⟨i + 1, by omega, by omega, by simp, HK4.out⟩
            case measure => omega
          have b1 : ((i : Int) == (k : Int)) = false := by simp; omega
          by_cases c2 : n = 0
          · subst c2
            clear hnb
            go_wp2
            go_roundg (gk - 1)
            case rel => exact ⟨k + 1, by omega, by omega, by simp, HK4.out⟩
            case measure => omega
          have b2 : ((n : Int) == 0) = false := by simp; omega
          by_cases c3 : m < n
          · have b3 : decide (m < n) = true := decide_eq_true c3
            have b3' : decide ((m : Int) < (n : Int)) = true := decide_eq_true (by omega)
            clear hnb
            go_wp2
            go_roundg (gk - 1)
            case rel => exact ⟨k + 1, by omega, by omega, by simp, HK4.out⟩
            case measure => omega
          have b3 : decide (m < n) = false := decide_eq_false c3
          have b3' : decide ((m : Int) < (n : Int)) = false := decide_eq_false (by omega)
          have hne := hnb c1 c2 (by omega)
          have mk := mask_nat B n (by omega) hn15
          obtain ⟨M, hM⟩ : ∃ M, B % 2 ^ n = M := ⟨_, rfl⟩
          rw [hM] at hne mk
          have b4 : ((M : Int) == (A : Int)) = false := by simp; omega
          have hp : 2 ^ n ≤ 2 ^ 15 := Nat.pow_le_pow_right (n := 2) (by omega) hn15
          have hp0 := Nat.two_pow_pos n
          have ep : ((2 ^ n : Nat) : Int) = (2 : Int) ^ n := by norm_cast
          have w1' : IntKind.u32.wrap ((2 : Int) ^ n) = (2 : Int) ^ n := IntWalk.u32_in _ (by omega)
          have w2' : IntKind.u32.wrap ((2 : Int) ^ n - 1) = (2 : Int) ^ n - 1 := IntWalk.u32_in _ (by omega)
          clear hnb hM hne ep hp hp0
          go_wp2
          go_roundg (gk - 1)
          case rel => exact ⟨k + 1, by omega, by omega, by simp, HK4.out⟩
          case measure => omega
        · obtain rfl : k = len := by omega
          go_wp2
          go_roundg (G - 1)
          case rel => exact ⟨i + 1, by omega, by omega, by simp, HKR.out⟩
          case measure => omega
    · obtain rfl : i = len := by omega
      have hsr := (H.out.1.kept HK2.out (fun _ _ _ _ => id)).kept HKR.out (fun _ _ _ _ => id)
      have HS := Lib.hid hsr
      clear hsr
      have hcm : complete ls ≤ 0 := by
        have := HP.out.2.2.1
        unfold complete
        split
        · omega
        · rw [if_neg (by omega)]; omega
      have hca := fun w' h => complete_any a0 i cap ls w' h H.out.2.1 (by omega)
      have hcb := fun w' h => rcomplete_any a0 i cap ls w' h H.out.2.1 (by omega)
      obtain ⟨C, hC⟩ : ∃ C, complete ls = C := ⟨_, rfl⟩
      rw [hC] at hca hcb hcm
      have b1 : decide (C ≤ 0) = true := decide_eq_true hcm
      have b2 : (C == C) = true := by simp
      have HCA := Lib.hid (And.intro hca hcb)
      clear hca hcb hC
      go_wp2_with fail
      refine (HCA.out.1 wr HS.out).mono ?_
      rintro e w' ⟨rfl, rfl⟩
      go_wp2_with fail
      refine (HCA.out.1 _ HS.out).mono ?_
      rintro e w' ⟨rfl, rfl⟩
      go_wp2_with fail
      refine (HCA.out.2 _ HS.out).mono ?_
      rintro e w' ⟨rfl, rfl⟩
      go_wp2
      exact bodyPost_ret (v := .bool true) (by simp [results, Try.results3, go_sem]) rfl ⟨rfl, HK2.out.then HKR.out⟩
theorem law_codes {a0 : Option Addr} {l0 c0 : Nat} {z0 : List Int} {w : World} (f0 : IsRow .u8 w a0 l0 c0 z0) :
    Calls Try.prog 3 #[.slice a0 l0 c0] w fun e w' => e = .returned (.bool true) ∧ Below w.heap.size w w' := by
  obtain ⟨bs, s0, b0, -, k0, m0, n0, e0⟩ := row_ints f0
  exact (codes_go a0 l0 c0 bs w s0 b0 e0).mono (fun e w' ⟨h1, h2⟩ => ⟨h1, h2.below⟩)
end Go.Proofs.Ytndneidjnlammaa
