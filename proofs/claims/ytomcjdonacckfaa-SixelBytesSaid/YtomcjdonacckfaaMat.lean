/- Rows of bytes by a function; a picture that is made larger. -/
import Derived.Test.YtomcjdonacckfaaNum
import Derived.Test.YtomcjdonacckfaaCopy
import Derived.StillTailTactics
import Derived.Deep.LoopGhost
namespace Go.Proofs.Ytomcjdonacckfaa
open Go.RowKit
set_option linter.unusedVariables false
set_option linter.unusedSimpArgs false
theorem list_ext {a b : List Int} (h : a.length = b.length) (h2 : ∀ j, j < a.length → a.getD j 0 = b.getD j 0) : a = b := by
  apply List.ext_getElem h
  intro j h3 h4
  have := h2 j h3
  simpa [h3, h4] using this
def tab (n : Nat) (f : Nat → Int) : List Int := (List.range n).map f
theorem tab_length (n : Nat) (f : Nat → Int) : (tab n f).length = n := by simp [tab]
theorem tab_get {n : Nat} {f : Nat → Int} {j : Nat} (h : j < n) : (tab n f).getD j 0 = f j := by simp [tab, h]
theorem tab_ext {n : Nat} {f g : Nat → Int} (h : ∀ j, j < n → f j = g j) : tab n f = tab n g := by
  apply list_ext (by simp [tab])
  intro j hj
  rw [tab_length] at hj
  rw [tab_get hj, tab_get hj, h j hj]
theorem tab_zero (n : Nat) : List.replicate n 0 = tab n (fun _ => 0) := by
  apply list_ext (by simp [tab])
  intro j hj
  have hj' : j < n := by simpa using hj
  rw [tab_get hj']; simp [hj']
theorem tab_self (p : List Int) (n : Nat) (h : p.length = n) : tab n (fun i => p.getD i 0) = p := by
  apply list_ext (by rw [tab_length]; omega)
  intro j hj
  rw [tab_length] at hj
  rw [tab_get hj]
/-- The byte i of a picture W1 wide, of which y rows are those of a picture p, W0 wide. -/
def growF (p : List Int) (W0 W1 y i : Nat) : Int := if i / (4 * W1) < y ∧ i % (4 * W1) < 4 * W0 then p.getD (4 * W0 * (i / (4 * W1)) + i % (4 * W1)) 0 else 0
theorem grow_row (p : List Int) (W0 W1 H1 y : Nat) (hW : W0 ≤ W1) (h1 : 1 ≤ W1) (hy : y < H1) :
    spl (tab (4 * W1 * H1) (growF p W0 W1 y)) (4 * W1 * y) (tab (4 * W0) (fun x => p.getD (4 * W0 * y + x) 0)) = tab (4 * W1 * H1) (growF p W0 W1 (y + 1)) := by
  have hle : 4 * W1 * y + 4 * W0 ≤ 4 * W1 * H1 := by
    have : 4 * W1 * (y + 1) ≤ 4 * W1 * H1 := Nat.mul_le_mul_left _ hy
    rw [Nat.mul_add, Nat.mul_one] at this
    omega
  have hl : 4 * W1 * y + (tab (4 * W0) (fun x => p.getD (4 * W0 * y + x) 0)).length ≤ (tab (4 * W1 * H1) (growF p W0 W1 y)).length := by rw [tab_length, tab_length]; exact hle
  apply list_ext (by rw [spl_length hl, tab_length, tab_length])
  intro j hj
  rw [spl_length hl, tab_length] at hj
  rw [spl_get hl, tab_length, tab_get hj, tab_get hj]
  have hd := Nat.div_add_mod j (4 * W1)
  have hm := Nat.mod_lt j (show 0 < 4 * W1 by omega)
  obtain ⟨q, hq⟩ : ∃ q, j / (4 * W1) = q := ⟨_, rfl⟩
  obtain ⟨r, hr⟩ : ∃ r, j % (4 * W1) = r := ⟨_, rfl⟩
  unfold growF
  rw [hq, hr] at hd ⊢
  rw [hr] at hm
  by_cases hqy : q = y
  · subst hqy
    by_cases hr2 : r < 4 * W0
    · rw [if_pos (by omega), if_pos (by omega), show j - 4 * W1 * q = r by omega, tab_get hr2]
    · rw [if_neg (by omega), if_neg (by omega), if_neg (by omega)]
  · have hn : ¬ (4 * W1 * y ≤ j ∧ j < 4 * W1 * y + 4 * W0) := by
      rintro ⟨a1, a2⟩
      rcases Nat.lt_or_ge q y with h | h
      · have : 4 * W1 * (q + 1) ≤ 4 * W1 * y := Nat.mul_le_mul_left _ h
        rw [Nat.mul_add, Nat.mul_one] at this
        omega
      · have : 4 * W1 * (y + 1) ≤ 4 * W1 * q := Nat.mul_le_mul_left _ (by omega)
        rw [Nat.mul_add, Nat.mul_one] at this
        omega
    rw [if_neg hn]
    by_cases hc : q < y ∧ r < 4 * W0
    · rw [if_pos hc, if_pos (by omega)]
    · rw [if_neg hc, if_neg (by omega)]
theorem grow_start (p : List Int) (W0 W1 n : Nat) : List.replicate n 0 = tab n (growF p W0 W1 0) := by
  rw [tab_zero]
  exact tab_ext fun j _ => by unfold growF; rw [if_neg (fun h => Nat.not_lt_zero _ h.1)]
/-- A picture made larger. -/
def grown (p : List Int) (W0 H0 W1 H1 : Nat) : List Int := tab (4 * W1 * H1) (growF p W0 W1 H0)
theorem grown_length (p : List Int) (W0 H0 W1 H1 : Nat) : (grown p W0 H0 W1 H1).length = 4 * W1 * H1 := tab_length _ _
theorem row_of_p (p : List Int) (W0 y : Nat) (h : 4 * W0 * y + 4 * W0 ≤ p.length) : (p.drop (4 * W0 * y)).take (4 * W0) = tab (4 * W0) (fun x => p.getD (4 * W0 * y + x) 0) := by
  apply list_ext (by rw [tab_length]; simp; omega)
  intro j hj
  have hj' : j < 4 * W0 := by simp at hj; omega
  rw [tab_get hj']
  simp only [List.getD_eq_getElem?_getD, List.getElem?_take_of_lt hj', List.getElem?_drop]
end Go.Proofs.Ytomcjdonacckfaa
