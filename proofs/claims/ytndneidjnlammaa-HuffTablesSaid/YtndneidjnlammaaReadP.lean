/- A symbol read, in plain Lean. -/
import Derived.Test.YtndneidjnlammaaTells
namespace Go.Proofs.Ytndneidjnlammaa
open Pl
set_option linter.unusedVariables false
set_option linter.unusedSimpArgs false
/-- What a read gives: the symbol, how many bits it took, the error. -/
structure Rd where
  sym : Nat
  used : Nat
  err : Nat
/-- k bits are read, of them the code is c. -/
def dec (ls : List Nat) (bit : Nat → Nat) (avail : Nat) : Nat → Nat → Nat → Rd
  | 0, _, _ => ⟨0, 0, 3⟩
  | f + 1, k, c =>
    if mx ls ≤ k then ⟨0, 0, 3⟩
    else if avail ≤ k then ⟨0, 0, 2⟩
    else if 2 * c + bit k < fst ls (k + 1) + cnt ls (k + 1) then ⟨(srt ls 15).getD (before ls (k + 1) + (2 * c + bit k) - fst ls (k + 1)) 0, k + 1, 0⟩
    else dec ls bit avail f (k + 1) (2 * c + bit k)
def readV (ls : List Nat) (bit : Nat → Nat) (avail : Nat) : Rd := dec ls bit avail 16 0 0
theorem mx_ge {ls : List Nat} {c : Nat} (h : c ∈ ls) : c ≤ mx ls := by
  have key : ∀ (l : List Nat) (m : Nat), m ≤ l.foldl max m ∧ ∀ c ∈ l, c ≤ l.foldl max m := by
    intro l
    induction l with
    | nil => intro m; exact ⟨Nat.le_refl _, fun c hc => by cases hc⟩
    | cons a l ih =>
      intro m
      obtain ⟨h1, h2⟩ := ih (max m a)
      refine ⟨Nat.le_trans (Nat.le_max_left _ _) h1, fun c hc => ?_⟩
      rcases List.mem_cons.1 hc with rfl | h
      · exact Nat.le_trans (Nat.le_max_right _ _) h1
      · exact h2 c h
  exact (key ls 0).2 c h
theorem cnt_zero {ls : List Nat} {k : Nat} (h : mx ls < k) : cnt ls k = 0 := by
  unfold cnt
  split
  · rfl
  · rw [List.count_eq_zero]
    intro hm
    have := mx_ge hm
    omega
theorem part_top {ls : List Nat} {k : Nat} (hk : k ≤ 15) (h : mx ls ≤ k) : part ls k = room ls := by
  rw [← part_room]
  have key : ∀ d, k + d ≤ 15 → part ls (k + d) = part ls k := by
    intro d
    induction d with
    | zero => intro _; rfl
    | succ d ih =>
      intro hd
      rw [← Nat.add_assoc, part, ih (by omega), cnt_zero (by omega), Nat.zero_mul, Nat.add_zero]
  have := key (15 - k) (by omega)
  rw [show k + (15 - k) = 15 by omega] at this
  exact this.symm
/-- Of a complete table no code is left over behind the longest length. -/
theorem full_top {ls : List Nat} (h : room ls = 32768) {k : Nat} (hk : k ≤ 15) (hm : mx ls ≤ k) : fst ls k + cnt ls k = 2 ^ k := by
  have h1 := fst_part ls k hk
  rw [part_top hk hm, h] at h1
  have h2 : (fst ls k + cnt ls k) * 2 ^ (15 - k) = 2 ^ k * 2 ^ (15 - k) := by
    rw [h1, ← Nat.pow_add, show k + (15 - k) = 15 by omega]
  exact Nat.eq_of_mul_eq_mul_right (Nat.two_pow_pos _) h2
/-- Is there a longer code, or this one, that begins so? -/
def openB (ls : List Nat) (c n : Nat) : Bool := (List.range ls.length).any (fun i => decide (n ≤ ls.getD i 0 ∧ 0 < ls.getD i 0 ∧ codeL ls i / 2 ^ (ls.getD i 0 - n) = c))
theorem openB_of {ls : List Nat} {c n s k : Nat} (h : ls[s]? = some k) (h1 : n ≤ k) (h2 : 0 < k) (h3 : codeL ls s / 2 ^ (k - n) = c) : openB ls c n = true := by
  unfold openB
  rw [List.any_eq_true]
  have hgd : ls.getD s 0 = k := by rw [List.getD_eq_getElem?_getD, h]; rfl
  exact ⟨s, List.mem_range.2 (List.getElem?_eq_some_iff.1 h).1, decide_eq_true (by rw [hgd]; exact ⟨h1, h2, h3⟩)⟩
/-- Of a length and a number of its codes there is the symbol. -/
theorem sym_code {ls : List Nat} {k c : Nat} (hk : 1 ≤ k) (h1 : fst ls k ≤ c) (h2 : c < fst ls k + cnt ls k) : ∃ s, ls[s]? = some k ∧ codeL ls s = c ∧ rank ls s k = c - fst ls k := by
  have hc : cnt ls k = ls.count k := by unfold cnt; rw [if_neg (by omega)]
  obtain ⟨s, h3, h4⟩ := sym_of ls k (c - fst ls k) (by omega)
  refine ⟨s, h3, ?_, h4⟩
  have hgd : ls.getD s 0 = k := by rw [List.getD_eq_getElem?_getD, h3]; rfl
  unfold codeL
  rw [hgd, if_neg (by omega), h4]
  omega
theorem open_full {ls : List Nat} (h : room ls = 32768) {n c : Nat} (hn : n ≤ 15) (hc : c < 2 ^ n) (hun : fst ls n + cnt ls n ≤ c) : openB ls c n = true := by
  have key : ∀ d, n + d ≤ 15 → openB ls c n = true ∨ fst ls (n + d) + cnt ls (n + d) ≤ c * 2 ^ d := by
    intro d
    induction d with
    | zero => intro _; right; simpa using hun
    | succ d ih =>
      intro hd
      rcases ih (by omega) with h1 | h1
      · exact .inl h1
      · have h2 : fst ls (n + (d + 1)) ≤ c * 2 ^ (d + 1) := by
          rw [← Nat.add_assoc, fst, Nat.pow_succ, ← Nat.mul_assoc]
          omega
        by_cases h3 : c * 2 ^ (d + 1) < fst ls (n + (d + 1)) + cnt ls (n + (d + 1))
        · left
          obtain ⟨s, h4, h5, -⟩ := sym_code (by omega) h2 h3
          refine openB_of h4 (by omega) (by omega) ?_
          rw [h5, show n + (d + 1) - n = d + 1 by omega, Nat.mul_div_cancel _ (Nat.two_pow_pos _)]
        · exact .inr (by omega)
  rcases key (15 - n) (by omega) with h1 | h1
  · exact h1
  · rw [show n + (15 - n) = 15 by omega, fst_full h] at h1
    have h2 : c * 2 ^ (15 - n) < 2 ^ n * 2 ^ (15 - n) := Nat.mul_lt_mul_of_pos_right hc (Nat.two_pow_pos _)
    rw [← Nat.pow_add, show n + (15 - n) = 15 by omega] at h2
    have h3 : (2 : Nat) ^ 15 = 32768 := by decide
    omega
theorem room_zero_all {ls : List Nat} (hls : ∀ c ∈ ls, c ≤ 15) (h : room ls = 0) : ∀ c ∈ ls, c = 0 := by
  induction ls with
  | nil => intro c hc; cases hc
  | cons a l ih =>
    intro c hc
    rw [room_cons] at h
    have ha : a = 0 := by
      rcases Nat.eq_zero_or_pos a with h1 | h1
      · exact h1
      · have := unit_pos (c := a) ⟨h1, hls a (by simp)⟩; omega
    rcases List.mem_cons.1 hc with rfl | h1
    · exact ha
    · exact ih (fun x hx => hls x (by simp [hx])) (by omega) c h1
theorem open_none {ls : List Nat} (h : ∀ c ∈ ls, c = 0) (c n : Nat) : openB ls c n = false := by
  cases ho : openB ls c n with
  | false => rfl
  | true =>
    unfold openB at ho
    rw [List.any_eq_true] at ho
    obtain ⟨i, hi, h1⟩ := ho
    have h2 := (of_decide_eq_true h1).2.1
    have hl := List.mem_range.1 hi
    have : ls.getD i 0 ∈ ls := by rw [List.getD_eq_getElem?_getD, List.getElem?_eq_getElem hl]; exact List.getElem_mem hl
    have := h _ this
    omega
/-- One code of one bit: all others have none. -/
theorem half_all {ls : List Nat} (hls : ∀ c ∈ ls, c ≤ 15) (h1 : room ls = 16384) (h2 : cnt ls 1 = 1) : ∀ c ∈ ls, c = 0 ∨ c = 1 := by
  have key : ∀ (l : List Nat), (∀ c ∈ l, c ≤ 15) → 16384 * cnt l 1 ≤ room l ∧ (room l = 16384 * cnt l 1 → ∀ c ∈ l, c = 0 ∨ c = 1) := by
    intro l
    induction l with
    | nil => intro _; exact ⟨Nat.le_refl _, fun _ c hc => by cases hc⟩
    | cons a l ih =>
      intro h
      have ha := h a (by simp)
      obtain ⟨i1, i2⟩ := ih (fun c hc => h c (by simp [hc]))
      have e : cnt (a :: l) 1 = cnt l 1 + if a = 1 then 1 else 0 := cnt_cons a l 0
      have e1 : unit 1 = 16384 := by decide
      rw [room_cons, e]
      by_cases a1 : a = 1
      · subst a1
        rw [if_pos rfl, e1]
        refine ⟨by omega, fun h9 c hc => ?_⟩
        rcases List.mem_cons.1 hc with rfl | h3
        · exact .inr rfl
        · exact i2 (by omega) c h3
      · rw [if_neg a1]
        by_cases a0 : a = 0
        · subst a0
          have : unit 0 = 0 := by decide
          refine ⟨by omega, fun h9 c hc => ?_⟩
          rcases List.mem_cons.1 hc with rfl | h3
          · exact .inl rfl
          · exact i2 (by omega) c h3
        · have := unit_pos (c := a) ⟨by omega, ha⟩
          exact ⟨by omega, fun h9 => by omega⟩
  exact (key ls hls).2 (by omega)
/-- A code is left open just as long as the program goes on. -/
theorem open_iff {ls : List Nat} (hls : ∀ c ∈ ls, c ≤ 15) (hok : okTab ls = true) {n c : Nat} (hn : n ≤ 15) (hc : c < 2 ^ n) (hun : fst ls n + cnt ls n ≤ c) : openB ls c n = !decide (mx ls ≤ n) := by
  rcases of_decide_eq_true hok with h | h | ⟨h, h'⟩
  · have hm : ¬ mx ls ≤ n := by
      intro hm
      have := full_top h hn hm
      omega
    rw [open_full h hn hc hun, decide_eq_false hm]; rfl
  · have hz := room_zero_all hls h
    have hm : mx ls ≤ n := Nat.le_trans (mx_le (B := 0) (fun c hc => by have := hz c hc; omega)) (Nat.zero_le _)
    rw [open_none hz, decide_eq_true hm]; rfl
  · have hz := half_all hls h h'
    have hm1 : mx ls ≤ 1 := mx_le (fun c hc => by have := hz c hc; omega)
    have h1m : 1 ≤ mx ls := by
      have : 0 < ls.count 1 := by have : cnt ls 1 = ls.count 1 := rfl; omega
      exact mx_ge (List.count_pos_iff.1 this)
    obtain ⟨s, hs1, hs2, -⟩ := sym_code (ls := ls) (k := 1) (c := 0) (by omega) (by have e : fst ls 1 = 0 := rfl; omega) (by
      have e : fst ls 1 = 0 := by show 2 * (fst ls 0 + cnt ls 0) = 0; rfl
      omega)
    by_cases hn0 : n = 0
    · subst hn0
      have : c = 0 := by have : (2 : Nat) ^ 0 = 1 := rfl; omega
      subst this
      rw [openB_of hs1 (by omega) (by omega) (by simp [hs2]), decide_eq_false (by omega)]; rfl
    · have hm : mx ls ≤ n := by omega
      rw [decide_eq_true hm]
      cases ho : openB ls c n with
      | false => rfl
      | true =>
        exfalso
        unfold openB at ho
        rw [List.any_eq_true] at ho
        obtain ⟨i, hi, h1⟩ := ho
        obtain ⟨g1, g2, g3⟩ := of_decide_eq_true h1
        have hl := List.mem_range.1 hi
        have hmem : ls.getD i 0 ∈ ls := by rw [List.getD_eq_getElem?_getD, List.getElem?_eq_getElem hl]; exact List.getElem_mem hl
        have hg : ls.getD i 0 = 1 := by rcases hz _ hmem with h | h; omega; exact h
        have hgs : ls[i]? = some 1 := by rw [← hg, List.getD_eq_getElem?_getD, List.getElem?_eq_getElem hl]; rfl
        obtain rfl : n = 1 := by omega
        have hr := rank_lt hgs
        have e1 : cnt ls 1 = ls.count 1 := rfl
        have e : fst ls 1 = 0 := rfl
        rw [hg] at g3
        unfold codeL at g3
        rw [hg, if_neg (by omega), e] at g3
        simp at g3
        omega
/-- The symbol of a code. -/
theorem srt_code {ls : List Nat} {s k : Nat} (h : ls[s]? = some k) (hk : 1 ≤ k ∧ k ≤ 15) : (srt ls 15).getD (before ls k + codeL ls s - fst ls k) 0 = s := by
  have hgd : ls.getD s 0 = k := by rw [List.getD_eq_getElem?_getD, h]; rfl
  have h1 := srt_at h hk
  unfold codeL
  rw [hgd, if_neg (by omega), show before ls k + (fst ls k + rank ls s k) - fst ls k = before ls k + rank ls s k by omega, List.getD_eq_getElem?_getD, h1]
  rfl
theorem code_rng {ls : List Nat} {s k : Nat} (h : ls[s]? = some k) (hk : 1 ≤ k) : fst ls k ≤ codeL ls s ∧ codeL ls s < fst ls k + cnt ls k := by
  have hgd : ls.getD s 0 = k := by rw [List.getD_eq_getElem?_getD, h]; rfl
  have h1 := rank_lt h
  have hc : cnt ls k = ls.count k := by unfold cnt; rw [if_neg (by omega)]
  unfold codeL
  rw [hgd, if_neg (by omega)]
  omega
/-- Two symbols of one length have two codes. -/
theorem code_inj {ls : List Nat} {s t k : Nat} (hs : ls[s]? = some k) (ht : ls[t]? = some k) (hk : 1 ≤ k) (h : codeL ls s = codeL ls t) : s = t := by
  have g1 : ls.getD s 0 = k := by rw [List.getD_eq_getElem?_getD, hs]; rfl
  have g2 : ls.getD t 0 = k := by rw [List.getD_eq_getElem?_getD, ht]; rfl
  unfold codeL at h
  rw [g1, g2, if_neg (by omega), if_neg (by omega)] at h
  have h1 := rank_succ hs k
  have h2 := rank_succ ht k
  rw [if_pos rfl] at h1 h2
  rcases Nat.lt_trichotomy s t with h3 | h3 | h3
  · have := rank_mono (ls := ls) (show s + 1 ≤ t from h3) k; omega
  · exact h3
  · have := rank_mono (ls := ls) (show t + 1 ≤ s from h3) k; omega
end Go.Proofs.Ytndneidjnlammaa
