/- Parts of matrices, in plain Lean: what is cut out, what is filled. -/
import Derived.Test.YtdjgmhbfohbenaaLay
namespace Go.Proofs.Ytdjgmhbfohbenaa
open Go.RowKit Go.Sort
set_option linter.unusedVariables false
set_option linter.unusedSimpArgs false
/-- A part painted pixel by pixel: pixel P, byte k gets K P k. -/
def paintD (t : Spot) (p : List Int) (K : Nat → Nat → Int) (Y X q : Nat) : Int := if t.inside (q / 4) ∧ t.done Y X (q / 4) then K (q / 4) (q % 4) else p.getD q 0
def paintF (t : Spot) (p : List Int) (K : Nat → Nat → Int) (q : Nat) : Int := if t.inside (q / 4) then K (q / 4) (q % 4) else p.getD q 0
theorem paintD_start (t : Spot) (p : List Int) (K : Nat → Nat → Int) (n : Nat) (hp : p.length = n) : tab n (paintD t p K t.y0 t.x0) = p := by
  refine list_ext (by rw [tab_length, hp]) (fun j hj => ?_)
  rw [tab_length] at hj
  rw [tab_get hj]
  unfold paintD
  rw [if_neg]
  rintro ⟨h1, h2⟩
  unfold Spot.inside at h1
  unfold Spot.done at h2
  omega
theorem paintD_end (t : Spot) (p : List Int) (K : Nat → Nat → Int) (n X Y : Nat) (hY : t.y1 ≤ Y) : tab n (paintD t p K Y X) = tab n (paintF t p K) := by
  refine tab_ext fun j hj => ?_
  unfold paintD paintF
  by_cases h : t.inside (j / 4)
  · have h2 : t.done Y X (j / 4) := by unfold Spot.inside at h; unfold Spot.done; omega
    rw [if_pos ⟨h, h2⟩, if_pos h]
  · rw [if_neg (fun h2 => h h2.1), if_neg h]
theorem paintD_row (t : Spot) (p : List Int) (K : Nat → Nat → Int) (n X Y : Nat) (hX : t.x1 ≤ X) : tab n (paintD t p K Y X) = tab n (paintD t p K (Y + 1) t.x0) := by
  refine tab_ext fun j hj => ?_
  unfold paintD
  by_cases h : t.inside (j / 4)
  · by_cases h2 : t.done Y X (j / 4)
    · have h3 : t.done (Y + 1) t.x0 (j / 4) := by unfold Spot.inside at h; unfold Spot.done at *; omega
      rw [if_pos ⟨h, h2⟩, if_pos ⟨h, h3⟩]
    · have h3 : ¬ t.done (Y + 1) t.x0 (j / 4) := by unfold Spot.inside at h; unfold Spot.done at *; omega
      rw [if_neg (fun h4 => h2 h4.2), if_neg (fun h4 => h3 h4.2)]
  · rw [if_neg (fun h2 => h h2.1), if_neg (fun h2 => h h2.1)]
theorem paintD_step (t : Spot) (p : List Int) (K : Nat → Nat → Int) (n X Y : Nat) (hX : X < t.W) (h0 : t.x0 ≤ X) (h1 : X < t.x1) (h2 : t.y0 ≤ Y) (h3 : Y < t.y1) (hn : 4 * (Y * t.W + X) + 4 ≤ n) (ys : List Int) (hl : ys.length = 4)
    (hy : ∀ k, k < 4 → ys.getD k 0 = K (Y * t.W + X) k) :
    spl (tab n (paintD t p K Y X)) (4 * (Y * t.W + X)) ys = tab n (paintD t p K Y (X + 1)) := by
  rw [spl_tab (by omega)]
  obtain ⟨e1, e2⟩ := pos_of (y := Y) hX
  refine tab_ext fun j hj => ?_
  by_cases hj4 : j / 4 = Y * t.W + X
  · rw [if_pos (by omega), hy _ (by omega)]
    unfold paintD
    rw [hj4, if_pos]
    · congr 1; omega
    · unfold Spot.inside Spot.done; rw [e1, e2]; omega
  · rw [if_neg (by omega)]
    unfold paintD
    by_cases hi : t.inside (j / 4)
    · by_cases hd : t.done Y X (j / 4)
      · have hd2 : t.done Y (X + 1) (j / 4) := by unfold Spot.done at *; omega
        rw [if_pos ⟨hi, hd⟩, if_pos ⟨hi, hd2⟩]
      · have hd2 : ¬ t.done Y (X + 1) (j / 4) := by
          intro h
          apply hj4
          unfold Spot.done at h hd
          exact unpos (by omega) (by omega)
        rw [if_neg (fun h => hd h.2), if_neg (fun h => hd2 h.2)]
    · rw [if_neg (fun h => hi h.1), if_neg (fun h => hi h.1)]
/-- Byte k of pixel P of a part that is C wide and begins at x0, y0 of p, W wide. -/
def cutK (W x0 y0 C : Nat) (p : List Int) (P k : Nat) : Int := p.getD (4 * ((P / C + y0) * W + (P % C + x0)) + k) 0
def cutF (W x0 y0 C : Nat) (p : List Int) (q : Nat) : Int := cutK W x0 y0 C p (q / 4) (q % 4)
theorem tab_app {n m : Nat} {f : Nat → Int} {ys : List Int} (h : ys.length = m) (hy : ∀ j, j < m → ys.getD j 0 = f (n + j)) : tab n f ++ ys = tab (n + m) f := by
  refine list_ext (by simp [tab, h]) (fun j hj => ?_)
  rw [List.length_append, tab_length, h] at hj
  rw [tab_get hj]
  by_cases h1 : j < n
  · rw [← tab_get (f := f) h1]
    rw [List.getD_eq_getElem?_getD, List.getD_eq_getElem?_getD, List.getElem?_append_left (by rw [tab_length]; exact h1)]
  · have := hy (j - n) (by omega)
    rw [show n + (j - n) = j by omega] at this
    rw [← this, List.getD_eq_getElem?_getD, List.getD_eq_getElem?_getD, List.getElem?_append_right (by rw [tab_length]; omega), tab_length]
theorem cut_row {W x0 y0 C r j : Nat} (hj : j < 4 * C) (p : List Int) : cutF W x0 y0 C p (4 * C * r + j) = p.getD (4 * ((r + y0) * W + x0) + j) 0 := by
  unfold cutF cutK
  have hC : 0 < C := by omega
  have e1 : (4 * C * r + j) / 4 = r * C + j / 4 := by rw [Nat.mul_assoc, show C * r = r * C from Nat.mul_comm ..]; omega
  have e2 : (4 * C * r + j) % 4 = j % 4 := by rw [Nat.mul_assoc]; omega
  obtain ⟨e3, e4⟩ := pos_of (W := C) (x := j / 4) (y := r) (by omega)
  rw [e1, e2, e3, e4]
  congr 1
  omega
theorem paintF_all {C H x0 y0 W : Nat} (p z : List Int) : tab (4 * (C * H)) (paintF ⟨C, 0, 0, 0, 0, C, 0, H⟩ z (cutK W x0 y0 C p)) = tab (4 * (C * H)) (cutF W x0 y0 C p) := by
  refine tab_ext fun j hj => ?_
  unfold paintF cutF
  have hC : 0 < C := Nat.pos_of_ne_zero (by rintro rfl; simp at hj)
  have hP : j / 4 < C * H := by omega
  rw [if_pos]
  refine ⟨Nat.zero_le _, Nat.mod_lt _ hC, Nat.zero_le _, ?_⟩
  exact Nat.div_lt_of_lt_mul hP
end Go.Proofs.Ytdjgmhbfohbenaa
