/- Codes by their lengths, in plain Lean. -/
import Derived.Test.YtndneidjnlammaaRoom
namespace Go.Proofs.Ytndneidjnlammaa
open Pl
set_option linter.unusedVariables false
set_option linter.unusedSimpArgs false
/-- How many codes of a length there are. -/
def cnt (ls : List Nat) (k : Nat) : Nat := if k = 0 then 0 else ls.count k
/-- The first code of a length. -/
def fst (ls : List Nat) : Nat → Nat
  | 0 => 0
  | k + 1 => 2 * (fst ls k + cnt ls k)
def part (ls : List Nat) : Nat → Nat
  | 0 => 0
  | k + 1 => part ls k + cnt ls (k + 1) * 2 ^ (15 - (k + 1))
theorem fst_part (ls : List Nat) (k : Nat) (hk : k ≤ 15) : (fst ls k + cnt ls k) * 2 ^ (15 - k) = part ls k := by
  induction k with
  | zero => simp [fst, part, cnt]
  | succ k ih =>
    rw [fst, part, ← ih (by omega), Nat.add_mul]
    congr 1
    rw [show 15 - k = (15 - (k + 1)) + 1 by omega, Nat.pow_succ, Nat.mul_comm 2, Nat.mul_assoc]
    congr 1
    rw [Nat.mul_comm]
theorem cnt_cons (a : Nat) (ls : List Nat) (k : Nat) : cnt (a :: ls) (k + 1) = cnt ls (k + 1) + if a = k + 1 then 1 else 0 := by
  have e : ∀ l : List Nat, cnt l (k + 1) = l.count (k + 1) := fun l => rfl
  rw [e, e, List.count_cons]
  by_cases h : a = k + 1
  · subst h; simp
  · simp [h]
theorem part_cons (a : Nat) (ls : List Nat) (k : Nat) (hk : k ≤ 15) : part (a :: ls) k = part ls k + if 1 ≤ a ∧ a ≤ k then 2 ^ (15 - a) else 0 := by
  induction k with
  | zero => rw [part, part, if_neg (by omega)]
  | succ k ih =>
    rw [part, part, ih (by omega), cnt_cons]
    obtain ⟨p, hp⟩ : ∃ p, part ls k = p := ⟨_, rfl⟩
    obtain ⟨c, hc⟩ : ∃ c, cnt ls (k + 1) = c := ⟨_, rfl⟩
    rw [hp, hc]
    by_cases h1 : a = k + 1
    · subst h1
      rw [if_neg (fun h => by omega), if_pos rfl, if_pos ⟨by omega, Nat.le_refl _⟩, Nat.add_mul, Nat.one_mul]
      omega
    · rw [if_neg h1, Nat.add_zero]
      by_cases h2 : 1 ≤ a ∧ a ≤ k
      · rw [if_pos h2, if_pos ⟨h2.1, by omega⟩]
        omega
      · rw [if_neg h2, if_neg (fun h => h2 ⟨h.1, by omega⟩)]
        omega
theorem part_room (ls : List Nat) : part ls 15 = room ls := by
  induction ls with
  | nil => decide
  | cons a l ih =>
    have h1 : room (a :: l) = unit a + room l := by simp [room]
    rw [part_cons a l 15 (Nat.le_refl _), h1, ih]
    unfold unit
    omega
theorem part_mono (ls : List Nat) (k d : Nat) : part ls k ≤ part ls (k + d) := by
  induction d with
  | zero => exact Nat.le_refl _
  | succ d ih => rw [← Nat.add_assoc, part]; omega
/-- Codes of a length fit. -/
theorem fst_le {ls : List Nat} (h : room ls ≤ 32768) (k : Nat) (hk : k ≤ 15) : fst ls k + cnt ls k ≤ 2 ^ k := by
  have h1 := fst_part ls k hk
  have h2 := part_mono ls k (15 - k)
  rw [show k + (15 - k) = 15 by omega, part_room] at h2
  have h3 : (fst ls k + cnt ls k) * 2 ^ (15 - k) ≤ 2 ^ k * 2 ^ (15 - k) := by
    rw [h1, ← Nat.pow_add, show k + (15 - k) = 15 by omega]
    omega
  exact Nat.le_of_mul_le_mul_right h3 (Nat.two_pow_pos _)
theorem fst_full {ls : List Nat} (h : room ls = 32768) : fst ls 15 + cnt ls 15 = 32768 := by
  have h1 := fst_part ls 15 (Nat.le_refl _)
  rw [part_room, h] at h1
  simpa using h1
/-- The code of a symbol. -/
def rank (ls : List Nat) (s k : Nat) : Nat := (ls.take s).count k
def codeL (ls : List Nat) (s : Nat) : Nat := if ls.getD s 0 = 0 then 0 else fst ls (ls.getD s 0) + rank ls s (ls.getD s 0)
theorem rank_succ {ls : List Nat} {s c : Nat} (h : ls[s]? = some c) (k : Nat) : rank ls (s + 1) k = rank ls s k + if c = k then 1 else 0 := by
  unfold rank
  rw [List.take_add_one, h, List.count_append]
  simp [List.count_cons, List.count_nil]
theorem rank_all (ls : List Nat) (s k : Nat) (h : ls.length ≤ s) : rank ls s k = ls.count k := by unfold rank; rw [List.take_of_length_le h]
theorem rank_lt {ls : List Nat} {s k : Nat} (h : ls[s]? = some k) : rank ls s k < ls.count k := by
  have h1 := rank_succ h k
  rw [if_pos rfl] at h1
  have h2 : rank ls (s + 1) k ≤ ls.count k := by
    unfold rank
    exact List.Sublist.count_le _ (List.take_sublist _ _)
  omega
theorem rank_mono {ls : List Nat} {s t : Nat} (h : s ≤ t) (k : Nat) : rank ls s k ≤ rank ls t k := by
  unfold rank
  rw [show s = min s t by omega, ← List.take_take]
  exact List.Sublist.count_le _ (List.take_sublist _ _)
/-- The symbols of a length. -/
def syms (ls : List Nat) (k n : Nat) : List Nat := (List.range n).filter (fun s => decide (ls.getD s 0 = k))
def srt (ls : List Nat) : Nat → List Nat
  | 0 => []
  | k + 1 => srt ls k ++ syms ls (k + 1) ls.length
theorem syms_succ (ls : List Nat) (k n : Nat) : syms ls k (n + 1) = syms ls k n ++ if ls.getD n 0 = k then [n] else [] := by
  unfold syms
  rw [List.range_succ, List.filter_append]
  congr 1
  by_cases h : ls.getD n 0 = k
  · rw [if_pos h, List.filter_cons, if_pos (by rw [h]; simp), List.filter_nil]
  · rw [if_neg h, List.filter_cons, if_neg (by simpa using h), List.filter_nil]
theorem syms_len (ls : List Nat) (k : Nat) (n : Nat) (hn : n ≤ ls.length) : (syms ls k n).length = rank ls n k := by
  induction n with
  | zero => simp [syms, rank]
  | succ n ih =>
    have hc : ls[n]? = some (ls.getD n 0) := by rw [List.getD_eq_getElem?_getD, List.getElem?_eq_getElem (by omega)]; rfl
    rw [syms_succ, List.length_append, ih (by omega), rank_succ hc]
    split <;> simp
theorem syms_at {ls : List Nat} {s k : Nat} (h : ls[s]? = some k) (n : Nat) (hn : s < n) (hnl : n ≤ ls.length) : (syms ls k n)[rank ls s k]? = some s := by
  induction n with
  | zero => omega
  | succ n ih =>
    rw [syms_succ]
    by_cases hs : s = n
    · subst hs
      have e : ls.getD s 0 = k := by rw [List.getD_eq_getElem?_getD, h]; rfl
      rw [if_pos e, List.getElem?_append_right (by rw [syms_len ls k s (by omega)]; exact Nat.le_refl _), syms_len ls k s (by omega), Nat.sub_self]
      rfl
    · rw [List.getElem?_append_left]
      · exact ih (by omega) (by omega)
      · have := ih (by omega) (by omega)
        exact (List.getElem?_eq_some_iff.1 this).1
def before (ls : List Nat) : Nat → Nat
  | 0 => 0
  | k + 1 => before ls k + cnt ls k
theorem srt_len (ls : List Nat) (k : Nat) : (srt ls k).length = before ls (k + 1) := by
  induction k with
  | zero => simp [srt, before, cnt]
  | succ k ih =>
    rw [srt, List.length_append, ih, syms_len ls (k + 1) _ (Nat.le_refl _), rank_all ls _ _ (Nat.le_refl _)]
    rfl
theorem srt_pre (ls : List Nat) (k d : Nat) : ∃ t, srt ls (k + d) = srt ls k ++ t := by
  induction d with
  | zero => exact ⟨[], by simp⟩
  | succ d ih =>
    obtain ⟨t, h⟩ := ih
    exact ⟨t ++ syms ls (k + d + 1) ls.length, by rw [← Nat.add_assoc, srt, h, List.append_assoc]⟩
/-- Where a symbol stands among the sorted ones. -/
theorem srt_at {ls : List Nat} {s k : Nat} (h : ls[s]? = some k) (hk : 1 ≤ k ∧ k ≤ 15) : (srt ls 15)[before ls k + rank ls s k]? = some s := by
  have hs : s < ls.length := (List.getElem?_eq_some_iff.1 h).1
  obtain ⟨t, ht⟩ := srt_pre ls k (15 - k)
  rw [show k + (15 - k) = 15 by omega] at ht
  obtain ⟨j, rfl⟩ : ∃ j, k = j + 1 := ⟨k - 1, by omega⟩
  rw [ht, srt, List.append_assoc]
  have hl := srt_len ls j
  have h1 := syms_at h ls.length hs (Nat.le_refl _)
  have h2 := (List.getElem?_eq_some_iff.1 h1).1
  rw [List.getElem?_append_right (by omega), hl, show before ls (j + 1) + rank ls s (j + 1) - before ls (j + 1) = rank ls s (j + 1) by omega, List.getElem?_append_left h2]
  exact h1
/-- Of a length and a number there is a symbol. -/
theorem sym_of (ls : List Nat) (k i : Nat) (hi : i < ls.count k) : ∃ s, ls[s]? = some k ∧ rank ls s k = i := by
  have key : ∀ n, n ≤ ls.length → i < rank ls n k → ∃ s, s < n ∧ ls[s]? = some k ∧ rank ls s k = i := by
    intro n
    induction n with
    | zero => intro _ h; simp [rank] at h
    | succ n ih =>
      intro hn h
      have hc : ls[n]? = some (ls.getD n 0) := by rw [List.getD_eq_getElem?_getD, List.getElem?_eq_getElem (by omega)]; rfl
      rw [rank_succ hc] at h
      by_cases h1 : i < rank ls n k
      · obtain ⟨s, h2, h3, h4⟩ := ih (by omega) h1
        exact ⟨s, by omega, h3, h4⟩
      · split at h
        · rename_i he
          exact ⟨n, by omega, by rw [hc, he], by omega⟩
        · omega
  obtain ⟨s, -, h1, h2⟩ := key ls.length (Nat.le_refl _) (by rw [rank_all ls _ _ (Nat.le_refl _)]; exact hi)
  exact ⟨s, h1, h2⟩
/-- Tables that may be: complete ones, one code of one bit, none. -/
def okTab (ls : List Nat) : Bool := decide (room ls = 32768 ∨ room ls = 0 ∨ (room ls = 16384 ∧ cnt ls 1 = 1))
theorem okTab_le {ls : List Nat} (h : okTab ls = true) : room ls ≤ 32768 := by
  have := of_decide_eq_true h
  omega
end Go.Proofs.Ytndneidjnlammaa
