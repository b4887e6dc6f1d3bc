/- One matrix laid over another, in plain Lean. -/
import Derived.Test.YtdjgmhbfohbenaaPix
namespace Go.Proofs.Ytdjgmhbfohbenaa
open Go.RowKit Go.Sort
set_option linter.unusedVariables false
set_option linter.unusedSimpArgs false
/-- What is drawn where: sides, the place, the part that lies within. -/
structure Spot where
  W : Nat
  SW : Nat
  x : Int
  y : Int
  x0 : Nat
  x1 : Nat
  y0 : Nat
  y1 : Nat
def Spot.inside (t : Spot) (P : Nat) : Prop := t.x0 ≤ P % t.W ∧ P % t.W < t.x1 ∧ t.y0 ≤ P / t.W ∧ P / t.W < t.y1
instance (t : Spot) (P : Nat) : Decidable (t.inside P) := by unfold Spot.inside; exact inferInstance
def Spot.src (t : Spot) (P : Nat) : Nat := (((P / t.W : Nat) : Int) - t.y).toNat * t.SW + (((P % t.W : Nat) : Int) - t.x).toNat
def overK (p s : List Int) (P Q k : Nat) : Int := if k = 3 then 255 else ov (p.getD (4 * P + k) 0) (s.getD (4 * Q + k) 0) (s.getD (4 * Q + 3) 0)
def Spot.done (t : Spot) (Y X P : Nat) : Prop := P / t.W < Y ∨ (P / t.W = Y ∧ P % t.W < X)
instance (t : Spot) (Y X P : Nat) : Decidable (t.done Y X P) := by unfold Spot.done; exact inferInstance
def drawD (t : Spot) (p s : List Int) (Y X q : Nat) : Int := if t.inside (q / 4) ∧ t.done Y X (q / 4) then overK p s (q / 4) (t.src (q / 4)) (q % 4) else p.getD q 0
def drawF (t : Spot) (p s : List Int) (q : Nat) : Int := if t.inside (q / 4) then overK p s (q / 4) (t.src (q / 4)) (q % 4) else p.getD q 0
theorem drawD_start (t : Spot) (p s : List Int) (n : Nat) (hp : p.length = n) : tab n (drawD t p s t.y0 t.x0) = p := by
  refine list_ext (by rw [tab_length, hp]) (fun j hj => ?_)
  rw [tab_length] at hj
  rw [tab_get hj]
  unfold drawD
  rw [if_neg]
  rintro ⟨h1, h2⟩
  unfold Spot.inside at h1
  unfold Spot.done at h2
  omega
theorem drawD_end (t : Spot) (p s : List Int) (n X Y : Nat) (hY : t.y1 ≤ Y) : tab n (drawD t p s Y X) = tab n (drawF t p s) := by
  refine tab_ext fun j hj => ?_
  unfold drawD drawF
  by_cases h : t.inside (j / 4)
  · have h2 : t.done Y X (j / 4) := by unfold Spot.inside at h; unfold Spot.done; omega
    rw [if_pos ⟨h, h2⟩, if_pos h]
  · rw [if_neg (fun h2 => h h2.1), if_neg h]
theorem drawD_row (t : Spot) (p s : List Int) (n X Y : Nat) (hX : t.x1 ≤ X) : tab n (drawD t p s Y X) = tab n (drawD t p s (Y + 1) t.x0) := by
  refine tab_ext fun j hj => ?_
  unfold drawD
  by_cases h : t.inside (j / 4)
  · by_cases h2 : t.done Y X (j / 4)
    · have h3 : t.done (Y + 1) t.x0 (j / 4) := by unfold Spot.inside at h; unfold Spot.done at *; omega
      rw [if_pos ⟨h, h2⟩, if_pos ⟨h, h3⟩]
    · have h3 : ¬ t.done (Y + 1) t.x0 (j / 4) := by unfold Spot.inside at h; unfold Spot.done at *; omega
      rw [if_neg (fun h4 => h2 h4.2), if_neg (fun h4 => h3 h4.2)]
  · rw [if_neg (fun h2 => h h2.1), if_neg (fun h2 => h h2.1)]
theorem pos_of {W x y : Nat} (hx : x < W) : (y * W + x) / W = y ∧ (y * W + x) % W = x := by
  have hW : 0 < W := by omega
  exact ⟨by rw [Nat.add_comm, Nat.mul_comm, Nat.add_mul_div_left _ _ hW, Nat.div_eq_of_lt hx]; omega, by rw [Nat.add_comm, Nat.mul_comm, Nat.add_mul_mod_self_left, Nat.mod_eq_of_lt hx]⟩
theorem unpos {W P : Nat} {Y X : Nat} (h1 : P / W = Y) (h2 : P % W = X) : P = Y * W + X := by
  rw [← h1, ← h2, Nat.mul_comm]; exact (Nat.div_add_mod P W).symm
theorem drawD_get (t : Spot) (p s : List Int) (n X Y k : Nat) (hX : X < t.W) (hk : k < 4) (hn : 4 * (Y * t.W + X) + 4 ≤ n) : (tab n (drawD t p s Y X)).getD (4 * (Y * t.W + X) + k) 0 = p.getD (4 * (Y * t.W + X) + k) 0 := by
  rw [tab_get (by omega)]
  unfold drawD
  obtain ⟨e1, e2⟩ := pos_of (y := Y) hX
  rw [show (4 * (Y * t.W + X) + k) / 4 = Y * t.W + X by omega]
  rw [if_neg]
  rintro ⟨-, h⟩
  unfold Spot.done at h
  rw [e1, e2] at h
  omega
theorem drawD_step (t : Spot) (p s : List Int) (n X Y : Nat) (hX : X < t.W) (h0 : t.x0 ≤ X) (h1 : X < t.x1) (h2 : t.y0 ≤ Y) (h3 : Y < t.y1) (hn : 4 * (Y * t.W + X) + 4 ≤ n) (Q : Nat) (hQ : Q = ((Y : Int) - t.y).toNat * t.SW + ((X : Int) - t.x).toNat) (ys : List Int) (hl : ys.length = 4)
    (hy : ∀ k, k < 4 → ys.getD k 0 = overK p s (Y * t.W + X) Q k) :
    spl (tab n (drawD t p s Y X)) (4 * (Y * t.W + X)) ys = tab n (drawD t p s Y (X + 1)) := by
  rw [spl_tab (by omega)]
  obtain ⟨e1, e2⟩ := pos_of (y := Y) hX
  have hsrc : t.src (Y * t.W + X) = Q := by unfold Spot.src; rw [e1, e2, hQ]
  refine tab_ext fun j hj => ?_
  by_cases hj4 : j / 4 = Y * t.W + X
  · rw [if_pos (by omega), hy _ (by omega)]
    unfold drawD
    rw [hj4, hsrc, if_pos]
    · congr 1; omega
    · unfold Spot.inside Spot.done; rw [e1, e2]; omega
  · rw [if_neg (by omega)]
    unfold drawD
    by_cases hi : t.inside (j / 4)
    · by_cases hd : t.done Y X (j / 4)
      · have hd2 : t.done Y (X + 1) (j / 4) := by unfold Spot.done at *; omega
        rw [if_pos ⟨hi, hd⟩, if_pos ⟨hi, hd2⟩]
      · have hd2 : ¬ t.done Y (X + 1) (j / 4) := by
          intro h
          apply hj4
          unfold Spot.done at h hd
          exact unpos (by omega) (by omega)
        rw [if_neg (fun h => hd h.2), if_neg (fun h => hd2 h.2)]
    · rw [if_neg (fun h => hi h.1), if_neg (fun h => hi h.1)]
end Go.Proofs.Ytdjgmhbfohbenaa
