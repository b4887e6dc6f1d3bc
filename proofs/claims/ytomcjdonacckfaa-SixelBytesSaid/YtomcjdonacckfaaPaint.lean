/- The dots of a sixel in plain Lean. -/
import Derived.Test.YtomcjdonacckfaaMat
namespace Go.Proofs.Ytomcjdonacckfaa
set_option linter.unusedVariables false
/-- Is the pixel drawn when k rows are, and of the next one all ahead of x? -/
def painted (v Y X wN k x px py : Nat) : Prop := Y ≤ py ∧ v / 2 ^ (py - Y) % 2 = 1 ∧ py < 16384 ∧ X ≤ px ∧ ((py - Y < k ∧ px < wN) ∨ (py - Y = k ∧ px < x))
instance (v Y X wN k x px py : Nat) : Decidable (painted v Y X wN k x px py) := by unfold painted; infer_instance
def paintF (p : List Int) (W1 v Y X wN : Nat) (c : List Int) (k x i : Nat) : Int := if painted v Y X wN k x (i / 4 % W1) (i / 4 / W1) then c.getD (i % 4) 0 else p.getD i 0
theorem paint_start (p : List Int) (W1 v Y X wN : Nat) (c : List Int) (n : Nat) (h : p.length = n) : tab n (paintF p W1 v Y X wN c 0 X) = p := by
  rw [← tab_self p n h]
  refine tab_ext fun j _ => ?_
  unfold paintF
  rw [if_neg (by unfold painted; omega), tab_self p n h]
theorem paint_skip (p : List Int) (W1 v Y X wN : Nat) (c : List Int) (n k : Nat) (h : ¬ (v / 2 ^ k % 2 = 1 ∧ Y + k < 16384)) : tab n (paintF p W1 v Y X wN c k X) = tab n (paintF p W1 v Y X wN c (k + 1) X) := by
  refine tab_ext fun j _ => ?_
  unfold paintF
  have e : painted v Y X wN k X (j / 4 % W1) (j / 4 / W1) ↔ painted v Y X wN (k + 1) X (j / 4 % W1) (j / 4 / W1) := by
    unfold painted
    generalize j / 4 % W1 = px
    generalize j / 4 / W1 = py
    constructor
    · rintro ⟨a1, a2, a3, a4, a5⟩
      exact ⟨a1, a2, a3, a4, by omega⟩
    · rintro ⟨a1, a2, a3, a4, a5⟩
      refine ⟨a1, a2, a3, a4, ?_⟩
      by_cases hk : py - Y = k
      · rw [hk] at a2
        exact absurd ⟨a2, by omega⟩ h
      · omega
  by_cases hh : painted v Y X wN k X (j / 4 % W1) (j / 4 / W1)
  · rw [if_pos hh, if_pos (e.1 hh)]
  · rw [if_neg hh, if_neg (fun h2 => hh (e.2 h2))]
theorem paint_end (p : List Int) (W1 v Y X wN : Nat) (c : List Int) (n k x : Nat) (hx : x = wN ∨ (x = X ∧ wN ≤ X)) : tab n (paintF p W1 v Y X wN c k x) = tab n (paintF p W1 v Y X wN c (k + 1) X) := by
  refine tab_ext fun j _ => ?_
  unfold paintF
  have e : painted v Y X wN k x (j / 4 % W1) (j / 4 / W1) ↔ painted v Y X wN (k + 1) X (j / 4 % W1) (j / 4 / W1) := by
    unfold painted
    generalize j / 4 % W1 = px
    generalize j / 4 / W1 = py
    constructor <;> (rintro ⟨a1, a2, a3, a4, a5⟩; exact ⟨a1, a2, a3, a4, by omega⟩)
  by_cases hh : painted v Y X wN k x (j / 4 % W1) (j / 4 / W1)
  · rw [if_pos hh, if_pos (e.1 hh)]
  · rw [if_neg hh, if_neg (fun h2 => hh (e.2 h2))]
theorem paint_step (p : List Int) (W1 H1 v Y X wN : Nat) (c0 c1 c2 c3 : Int) (k x : Nat) (hx : x < W1) (hxw : x < wN) (hX : X ≤ x) (hb : v / 2 ^ k % 2 = 1) (hy : Y + k < 16384) (hyH : Y + k < H1) :
    spl (tab (4 * W1 * H1) (paintF p W1 v Y X wN [c0, c1, c2, c3] k x)) (4 * ((Y + k) * W1 + x)) [c0, c1, c2, c3] = tab (4 * W1 * H1) (paintF p W1 v Y X wN [c0, c1, c2, c3] k (x + 1)) := by
  have hle : 4 * ((Y + k) * W1 + x) + 4 ≤ 4 * W1 * H1 := by
    have h1 : (Y + k + 1) * W1 ≤ H1 * W1 := Nat.mul_le_mul_right _ hyH
    rw [Nat.add_mul, Nat.one_mul] at h1
    rw [Nat.mul_assoc, Nat.mul_comm W1 H1]
    omega
  have hl : 4 * ((Y + k) * W1 + x) + [c0, c1, c2, c3].length ≤ (tab (4 * W1 * H1) (paintF p W1 v Y X wN [c0, c1, c2, c3] k x)).length := by rw [tab_length]; exact hle
  apply list_ext (by rw [spl_length hl, tab_length, tab_length])
  intro j hj
  rw [spl_length hl, tab_length] at hj
  rw [spl_get hl, tab_get hj, tab_get hj]
  unfold paintF
  have h4 : j = 4 * (j / 4) + j % 4 := (Nat.div_add_mod j 4).symm
  have h5 : j % 4 < 4 := Nat.mod_lt _ (by omega)
  obtain ⟨q, hq⟩ : ∃ q, j / 4 = q := ⟨_, rfl⟩
  obtain ⟨r, hr⟩ : ∃ r, j % 4 = r := ⟨_, rfl⟩
  rw [hq, hr] at h4 ⊢
  rw [hr] at h5
  obtain ⟨Q, hQ⟩ : ∃ Q, (Y + k) * W1 + x = Q := ⟨_, rfl⟩
  rw [hQ]
  simp only [List.length_cons, List.length_nil]
  by_cases hqQ : q = Q
  · subst hqQ
    have e1 : q % W1 = x := by rw [← hQ, Nat.mul_comm, Nat.mul_add_mod, Nat.mod_eq_of_lt hx]
    have e2 : q / W1 = Y + k := by rw [← hQ, Nat.mul_comm, Nat.mul_add_div (by omega), Nat.div_eq_of_lt hx, Nat.add_zero]
    rw [if_pos (by omega), e1, e2, if_pos, show j - 4 * q = r by omega]
    refine ⟨by omega, ?_, hy, hX, by omega⟩
    rw [show Y + k - Y = k by omega]; exact hb
  · rw [if_neg (by omega)]
    have hdm := Nat.div_add_mod q W1
    have hne : ¬ (q / W1 = Y + k ∧ q % W1 = x) := by
      rintro ⟨a1, a2⟩
      apply hqQ
      rw [← hQ, ← a1, ← a2, Nat.mul_comm]
      exact hdm.symm
    have e : painted v Y X wN k x (q % W1) (q / W1) ↔ painted v Y X wN k (x + 1) (q % W1) (q / W1) := by
      unfold painted
      revert hne
      generalize q % W1 = px
      generalize q / W1 = py
      intro hne
      constructor <;> (rintro ⟨a1, a2, a3, a4, a5⟩; exact ⟨a1, a2, a3, a4, by omega⟩)
    by_cases hh : painted v Y X wN k x (q % W1) (q / W1)
    · rw [if_pos hh, if_pos (e.1 hh)]
    · rw [if_neg hh, if_neg (fun h2 => hh (e.2 h2))]
/-- A picture with the dots of a sixel. -/
def paint (p : List Int) (W1 H1 v Y X wN : Nat) (c : List Int) : List Int := tab (4 * W1 * H1) (paintF p W1 v Y X wN c 6 X)
theorem paint_length (p : List Int) (W1 H1 v Y X wN : Nat) (c : List Int) : (paint p W1 H1 v Y X wN c).length = 4 * W1 * H1 := tab_length _ _
end Go.Proofs.Ytomcjdonacckfaa
