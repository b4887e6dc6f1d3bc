/- The picture in the end, in plain Lean. -/
import Derived.Test.YtomcjdonacckfaaNewD
namespace Go.Proofs.Ytomcjdonacckfaa
set_option linter.unusedVariables false
/-- Pixels ahead of the k-th that are clear have the colour c. -/
def fillF (p : List Int) (c : List Int) (k i : Nat) : Int := if i / 4 < k ∧ p.getD (4 * (i / 4) + 3) 0 = 0 then c.getD (i % 4) 0 else p.getD i 0
theorem fill_start (p : List Int) (c : List Int) (n : Nat) (h : p.length = n) : tab n (fillF p c 0) = p := by
  rw [← tab_self p n h]
  refine tab_ext fun j _ => ?_
  unfold fillF
  rw [if_neg (fun h => Nat.not_lt_zero _ h.1), tab_self p n h]
theorem fill_keep (p : List Int) (c : List Int) (n k : Nat) (h : p.getD (4 * k + 3) 0 ≠ 0) : tab n (fillF p c k) = tab n (fillF p c (k + 1)) := by
  refine tab_ext fun j _ => ?_
  unfold fillF
  by_cases hk : j / 4 = k
  · rw [hk, if_neg (fun h2 => h h2.2), if_neg (fun h2 => h h2.2)]
  · by_cases h1 : j / 4 < k ∧ p.getD (4 * (j / 4) + 3) 0 = 0
    · rw [if_pos h1, if_pos ⟨by omega, h1.2⟩]
    · rw [if_neg h1, if_neg (fun h2 => h1 ⟨by omega, h2.2⟩)]
theorem fill_step (p : List Int) (c0 c1 c2 c3 : Int) (n k : Nat) (hk : 4 * k + 4 ≤ n) (h : p.getD (4 * k + 3) 0 = 0) :
    spl (tab n (fillF p [c0, c1, c2, c3] k)) (4 * k) [c0, c1, c2, c3] = tab n (fillF p [c0, c1, c2, c3] (k + 1)) := by
  have hl : 4 * k + [c0, c1, c2, c3].length ≤ (tab n (fillF p [c0, c1, c2, c3] k)).length := by rw [tab_length]; exact hk
  apply list_ext (by rw [spl_length hl, tab_length, tab_length])
  intro j hj
  rw [spl_length hl, tab_length] at hj
  rw [spl_get hl, tab_get hj, tab_get hj]
  unfold fillF
  simp only [List.length_cons, List.length_nil]
  by_cases hq : j / 4 = k
  · rw [if_pos (by omega), hq, if_pos ⟨by omega, h⟩, show j - 4 * k = j % 4 by omega]
  · rw [if_neg (by omega)]
    by_cases h1 : j / 4 < k ∧ p.getD (4 * (j / 4) + 3) 0 = 0
    · rw [if_pos h1, if_pos ⟨by omega, h1.2⟩]
    · rw [if_neg h1, if_neg (fun h2 => h1 ⟨by omega, h2.2⟩)]
/-- The pixel that is looked at is as it was. -/
theorem fill_at (p : List Int) (c : List Int) (n k : Nat) (hk : 4 * k + 4 ≤ n) : (tab n (fillF p c k)).getD (4 * k + 3) 0 = p.getD (4 * k + 3) 0 := by
  rw [tab_get (by omega)]
  unfold fillF
  rw [if_neg (by omega)]
/-- The picture with its clear pixels filled. -/
def filled (p : List Int) (c : List Int) : List Int := tab p.length (fillF p c (p.length / 4))
structure Ended where
  d : Dec
  w : Int
  h : Int
  p : List Int
  e : Int
/-- What End tells. -/
def Dec.fin (d : Dec) : Ended :=
  let d1 := if d.full = false ∧ d.over = false then d.done d.w.toNat d.h.toNat else d
  if d1.full = true then ⟨d1, 0, 0, [], 6⟩
  else if d1.w = 0 ∨ d1.over = true then ⟨{ d1 with over := true }, 0, 0, [], 7⟩
  else ⟨{ d1 with over := true }, d1.w, d1.h, if d1.clear = true then d1.p else filled d1.p [d1.l.getD 0 0, d1.l.getD 1 0, d1.l.getD 2 0, 255], 0⟩
end Go.Proofs.Ytomcjdonacckfaa
