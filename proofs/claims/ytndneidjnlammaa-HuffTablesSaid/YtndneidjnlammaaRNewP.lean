/- The document's table made: New. -/
import Derived.Test.YtndneidjnlammaaNewT
namespace Go.Proofs.Ytndneidjnlammaa
open Go.RowKit Pl
set_option linter.unusedVariables false
set_option linter.unusedSimpArgs false
attribute [local go_sem] growOp growUpon sameUpon
def nz (ls : List Nat) : Nat := (ls.filter (fun c => decide (0 < c))).length
def lastNz (ls : List Nat) : Nat := ls.foldl (fun o c => if 0 < c then c else o) 0
theorem snoc_ind {P : List Nat → Prop} (h0 : P []) (h1 : ∀ l c, P l → P (l ++ [c])) : ∀ l, P l := by
  intro l
  rw [← List.reverse_reverse l]
  induction l.reverse with
  | nil => exact h0
  | cons a t ih => rw [List.reverse_cons]; exact h1 _ _ ih
theorem nz_snoc (l : List Nat) (c : Nat) : nz (l ++ [c]) = nz l + if 0 < c then 1 else 0 := by
  unfold nz
  rw [List.filter_append, List.length_append]
  congr 1
  by_cases h : 0 < c
  · simp [h]
  · simp [h]
theorem lastNz_snoc (l : List Nat) (c : Nat) : lastNz (l ++ [c]) = if 0 < c then c else lastNz l := by simp [lastNz]
theorem nz_le (l : List Nat) : nz l ≤ l.length := List.length_filter_le _ _
theorem unit_pos {c : Nat} (h : 1 ≤ c ∧ c ≤ 15) : 1 ≤ unit c := by unfold unit; rw [if_pos h]; exact Nat.two_pow_pos _
theorem room_cons (a : Nat) (l : List Nat) : room (a :: l) = unit a + room l := by simp [room]
theorem nz_cons (a : Nat) (l : List Nat) : nz (a :: l) = (if 0 < a then 1 else 0) + nz l := by
  unfold nz
  rw [List.filter_cons]
  by_cases h : 0 < a
  · simp [h]; omega
  · simp [h]
theorem nz_room (l : List Nat) (h : ∀ c ∈ l, c ≤ 15) : nz l ≤ room l ∧ (nz l = 0 → room l = 0) := by
  induction l with
  | nil => exact ⟨Nat.le_refl _, fun _ => rfl⟩
  | cons a l ih =>
    have ha := h a (by simp)
    obtain ⟨i1, i2⟩ := ih (fun c hc => h c (by simp [hc]))
    rw [nz_cons, room_cons]
    by_cases h0 : 0 < a
    · have := unit_pos (c := a) ⟨h0, ha⟩
      rw [if_pos h0]
      exact ⟨by omega, fun h => by omega⟩
    · rw [if_neg h0, unit_out (by omega)]
      exact ⟨by omega, fun h => by have := i2 (by omega); omega⟩
/-- Of lengths that take half of all: one code of one bit, and no other. -/
theorem half_one (l : List Nat) (h : ∀ c ∈ l, c ≤ 15) : (nz l = 1 ∧ lastNz l = 1) ↔ (room l = 16384 ∧ cnt l 1 = 1) := by
  have e1 : unit 1 = 16384 := by decide
  have key : ∀ (l : List Nat), (∀ c ∈ l, c ≤ 15) → 16384 * cnt l 1 + (nz l - cnt l 1) ≤ room l ∧ cnt l 1 ≤ nz l := by
    intro l
    induction l with
    | nil => intro _; exact ⟨by decide, Nat.le_refl _⟩
    | cons a l ih =>
      intro h
      have ha := h a (by simp)
      obtain ⟨i1, i2⟩ := ih (fun c hc => h c (by simp [hc]))
      rw [nz_cons, room_cons, cnt_cons a l 0]
      by_cases h1 : a = 1
      · subst h1
        rw [if_pos rfl, if_pos (by omega), e1]
        have e : cnt l (0 + 1) = cnt l 1 := rfl
        rw [e]
        exact ⟨by omega, by omega⟩
      · rw [if_neg h1]
        have e : cnt l (0 + 1) = cnt l 1 := rfl
        rw [e]
        by_cases h0 : 0 < a
        · have := unit_pos (c := a) ⟨h0, ha⟩
          rw [if_pos h0]
          exact ⟨by omega, by omega⟩
        · rw [if_neg h0]
          exact ⟨by omega, by omega⟩
  have last : ∀ (l : List Nat), nz l = 1 → cnt l 1 = 1 → lastNz l = 1 := by
    refine snoc_ind (by intro h; cases h) ?_
    · intro l c ih h1 h2
      rw [nz_snoc] at h1
      rw [cnt_snoc] at h2
      rw [lastNz_snoc]
      by_cases h0 : 0 < c
      · rw [if_pos h0] at h1 ⊢
        have h3 : nz l = 0 := by omega
        have h4 : cnt l 1 ≤ nz l := by
          have : ∀ l : List Nat, cnt l 1 ≤ nz l := by
            intro l
            induction l with
            | nil => exact Nat.le_refl _
            | cons a l ih =>
              rw [nz_cons, cnt_cons a l 0]
              have e : cnt l (0 + 1) = cnt l 1 := rfl
              rw [e]
              by_cases h1 : a = 1
              · subst h1; rw [if_pos rfl, if_pos (by omega)]; omega
              · rw [if_neg h1]; omega
          exact this l
        by_cases h5 : c = 1
        · exact h5
        · rw [if_neg (by omega)] at h2
          omega
      · rw [if_neg h0] at h1 ⊢
        rw [if_neg (by omega)] at h2
        exact ih (by omega) (by omega)
  have only : ∀ (l : List Nat), nz l = 1 → lastNz l = 1 → room l = 16384 ∧ cnt l 1 = 1 := by
    refine snoc_ind (by intro h; cases h) ?_
    · intro l c ih h1 h2
      rw [nz_snoc] at h1
      rw [lastNz_snoc] at h2
      rw [room_snoc, cnt_snoc]
      by_cases h0 : 0 < c
      · rw [if_pos h0] at h1 h2
        subst h2
        have h3 : nz l = 0 := by omega
        have h4 : ∀ l : List Nat, nz l = 0 → room l = 0 ∧ cnt l 1 = 0 := by
          intro l
          induction l with
          | nil => intro _; exact ⟨rfl, rfl⟩
          | cons a l ih =>
            intro h
            rw [nz_cons] at h
            have ha : ¬ 0 < a := by intro h9; rw [if_pos h9] at h; omega
            rw [if_neg ha] at h
            obtain ⟨i1, i2⟩ := ih (by omega)
            have e : cnt l (0 + 1) = cnt l 1 := rfl
            rw [room_cons, cnt_cons a l 0, unit_out (by omega), if_neg (by omega), e]
            omega
        obtain ⟨i1, i2⟩ := h4 l h3
        rw [e1, if_pos ⟨by omega, rfl⟩]
        omega
      · rw [if_neg h0] at h1 h2
        obtain ⟨i1, i2⟩ := ih (by omega) h2
        rw [unit_out (by omega), if_neg (by omega)]
        omega
  constructor
  · rintro ⟨h1, h2⟩; exact only l h1 h2
  · rintro ⟨h1, h2⟩
    obtain ⟨k1, k2⟩ := key l h
    rw [h1, h2] at k1
    have h3 : nz l = 1 := by omega
    exact ⟨h3, last l h3 h2⟩
/-- The document's condition is the program's. -/
theorem ok_ref (l : List Nat) (h : ∀ c ∈ l, c ≤ 15) : okTab l = !(decide (0 < complete l) || (decide (complete l < 0) && (decide (0 < nz l) && !(decide (nz l = 1) && decide (lastNz l = 1))))) := by
  have h1 := nz_room l h
  have h2 := half_one l h
  unfold okTab complete
  by_cases a1 : room l < 32768
  · rw [if_pos a1]
    by_cases a2 : 0 < nz l
    · by_cases a3 : nz l = 1 ∧ lastNz l = 1
      · obtain ⟨b1, b2⟩ := h2.1 a3
        simp [a3.1, a3.2, b1, b2]
      · have a4 : ¬ (room l = 16384 ∧ cnt l 1 = 1) := fun h => a3 (h2.2 h)
        have a5 : ¬ room l = 0 := by omega
        have a6 : ¬ room l = 32768 := by omega
        simp only [a2, a5, a6, a4, or_self, decide_false]
        by_cases a7 : nz l = 1
        · have a8 : ¬ lastNz l = 1 := fun h => a3 ⟨a7, h⟩
          simp [a8]
        · simp [a7]
    · have a5 : room l = 0 := h1.2 (by omega)
      simp [a2, a5]
  · rw [if_neg a1]
    by_cases a2 : 32768 < room l
    · rw [if_pos a2]
      have b1 : ¬ room l = 32768 := by omega
      have b2 : ¬ room l = 0 := by omega
      have b3 : ¬ room l = 16384 := by omega
      simp [b1, b2, b3]
    · rw [if_neg a2]
      have b1 : room l = 32768 := by omega
      simp [b1]
end Go.Proofs.Ytndneidjnlammaa
