/- Symbols laid one behind the other, and read again: in plain Lean. -/
import Derived.Test.YtndneidjnlammaaLCodes
namespace Go.Proofs.Ytndneidjnlammaa
open Pl
set_option linter.unusedVariables false
set_option linter.unusedSimpArgs false
/-- A symbol's code is read, whatever stands behind it. -/
theorem read_sym {ls : List Nat} (hr : room ls ≤ 32768) (hc : ∀ c ∈ ls, c ≤ 15) {s n : Nat} (h : ls[s]? = some n) (hn : 1 ≤ n) (bit : Nat → Nat) (avail : Nat) (ha : n ≤ avail) (hb : ∀ k, k < n → bit k = codeL ls s / 2 ^ (n - 1 - k) % 2) : readV ls bit avail = ⟨s, n, 0⟩ := by
  have hn15 := hc n (List.mem_of_getElem? h)
  have hmx := mx_ge (List.mem_of_getElem? h)
  have hrng := code_rng h hn
  have key : ∀ d f, d < n → d < f → dec ls bit avail f (n - (d + 1)) (codeL ls s / 2 ^ (d + 1)) = ⟨s, n, 0⟩ := by
    intro d
    induction d with
    | zero =>
      intro f h1 h2
      obtain ⟨g, rfl⟩ : ∃ g, f = g + 1 := ⟨f - 1, by omega⟩
      have hk := hb (n - 1) (by omega)
      rw [show n - 1 - (n - 1) = 0 by omega, Nat.pow_zero, Nat.div_one] at hk
      rw [dec, if_neg (by omega), if_neg (by omega), show n - (0 + 1) = n - 1 by omega, hk, show n - 1 + 1 = n by omega, show 2 * (codeL ls s / 2 ^ (0 + 1)) + codeL ls s % 2 = codeL ls s by simp; omega, if_pos hrng.2, srt_code h ⟨hn, hn15⟩]
    | succ d ih =>
      intro f h1 h2
      obtain ⟨g, rfl⟩ : ∃ g, f = g + 1 := ⟨f - 1, by omega⟩
      have hk := hb (n - (d + 1 + 1)) (by omega)
      rw [show n - 1 - (n - (d + 1 + 1)) = d + 1 by omega] at hk
      have hc2 : 2 * (codeL ls s / 2 ^ (d + 1 + 1)) + codeL ls s / 2 ^ (d + 1) % 2 = codeL ls s / 2 ^ (d + 1) := by
        rw [Nat.pow_succ 2 (d + 1), ← Nat.div_div_eq_div_mul]; omega
      have hfar := fst_far ls (n - (d + 1)) d
      rw [show n - (d + 1) + d + 1 = n by omega] at hfar
      have hge : fst ls (n - (d + 1)) + cnt ls (n - (d + 1)) ≤ codeL ls s / 2 ^ (d + 1) := by
        rw [Nat.le_div_iff_mul_le (Nat.two_pow_pos _)]
        exact Nat.le_trans hfar hrng.1
      rw [dec, if_neg (by omega), if_neg (by omega), hk, hc2, show n - (d + 1 + 1) + 1 = n - (d + 1) by omega, if_neg (by omega)]
      exact ih g (by omega) (by omega)
  have h0 := key (n - 1) 16 (by omega) (by omega)
  rw [show n - 1 + 1 = n by omega, Nat.sub_self, Nat.div_eq_of_lt (codeL_lt hr hc h hn)] at h0
  exact h0
theorem rev_bit (n v j : Nat) (h : j < n) : rev v n / 2 ^ j % 2 = v / 2 ^ (n - 1 - j) % 2 := by
  induction n generalizing j with
  | zero => omega
  | succ n ih =>
    rw [rev]
    cases j with
    | zero => rw [Nat.pow_zero, Nat.div_one]; simp
    | succ j =>
      rw [Nat.pow_succ, Nat.mul_comm (2 ^ j) 2, ← Nat.div_div_eq_div_mul, show (2 * rev v n + v / 2 ^ n % 2) / 2 = rev v n by omega, ih j (by omega), show n + 1 - 1 - (j + 1) = n - 1 - j by omega]
/-- What is laid for symbols, and how many bits. -/
def encV (ls : List Nat) : List Nat → Nat
  | [] => 0
  | s :: r => rev (codeL ls s) (ls.getD s 0) + encV ls r * 2 ^ ls.getD s 0
def encL (ls : List Nat) : List Nat → Nat
  | [] => 0
  | s :: r => ls.getD s 0 + encL ls r
theorem encL_app (ls x y : List Nat) : encL ls (x ++ y) = encL ls x + encL ls y := by
  induction x with
  | nil => simp [encL]
  | cons s r ih => rw [List.cons_append, encL, encL, ih]; omega
theorem encV_lt (ls x : List Nat) : encV ls x < 2 ^ encL ls x := by
  induction x with
  | nil => simp [encV, encL]
  | cons s r ih =>
    have h1 := rev_lt (codeL ls s) (ls.getD s 0)
    rw [encV, encL, Nat.pow_add]
    calc rev (codeL ls s) (ls.getD s 0) + encV ls r * 2 ^ ls.getD s 0 < 2 ^ ls.getD s 0 + encV ls r * 2 ^ ls.getD s 0 := by omega
      _ = (encV ls r + 1) * 2 ^ ls.getD s 0 := by rw [Nat.add_mul]; omega
      _ ≤ 2 ^ encL ls r * 2 ^ ls.getD s 0 := Nat.mul_le_mul_right _ ih
      _ = 2 ^ ls.getD s 0 * 2 ^ encL ls r := Nat.mul_comm _ _
theorem encV_app (ls x y : List Nat) : encV ls (x ++ y) = encV ls x + encV ls y * 2 ^ encL ls x := by
  induction x with
  | nil => simp [encV, encL]
  | cons s r ih =>
    rw [List.cons_append, encV, encV, encL, ih, Nat.add_mul, Nat.mul_assoc, ← Nat.pow_add, Nat.add_comm (encL ls r)]
    omega
theorem encV_one (ls : List Nat) (s : Nat) : encV ls [s] = rev (codeL ls s) (ls.getD s 0) ∧ encL ls [s] = ls.getD s 0 := by simp [encV, encL]
theorem encV_drop (ls x y : List Nat) : encV ls (x ++ y) / 2 ^ encL ls x = encV ls y := by
  rw [encV_app, Nat.add_mul_div_right _ _ (Nat.two_pow_pos _), Nat.div_eq_of_lt (encV_lt ls x), Nat.zero_add]
/-- The next symbol of what was laid. -/
theorem read_next {ls : List Nat} (hr : room ls ≤ 32768) (hc : ∀ c ∈ ls, c ≤ 15) {s n : Nat} (h : ls[s]? = some n) (hn : 1 ≤ n) (x r : List Nat) (bs : List Int) (hv : val (nats bs) = encV ls (x ++ s :: r)) (hl : encL ls (x ++ s :: r) ≤ 8 * bs.length) :
    readV ls (bitAt bs (encL ls x)) (8 * bs.length - encL ls x) = ⟨s, n, 0⟩ := by
  have hgd : ls.getD s 0 = n := by rw [List.getD_eq_getElem?_getD, h]; rfl
  rw [encL_app, encL, hgd] at hl
  refine read_sym hr hc h hn _ _ (by omega) (fun k hk => ?_)
  unfold bitAt bitsOf
  rw [hv, Nat.pow_add, ← Nat.div_div_eq_div_mul, encV_drop, encV, hgd, Nat.pow_one, ← rev_bit n _ k hk]
  obtain ⟨d, rfl⟩ : ∃ d, n = k + (d + 1) := ⟨n - k - 1, by omega⟩
  have e : encV ls r * 2 ^ (k + (d + 1)) = 2 ^ k * (2 * (encV ls r * 2 ^ d)) := by rw [Nat.pow_add, Nat.pow_succ]; ac_rfl
  rw [e, Nat.add_mul_div_left _ _ (Nat.two_pow_pos _), Nat.add_mul_mod_self_left]
end Go.Proofs.Ytndneidjnlammaa
