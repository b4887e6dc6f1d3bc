/- Both glyphs are the same, in plain Lean. -/
import Derived.Test.YtdjgmhbfohbenaaRGlyD
namespace Go.Proofs.Ytdjgmhbfohbenaa
open Go.RowKit Go.Sort Pl
set_option linter.unusedVariables false
set_option linter.unusedSimpArgs false
theorem rgb_getD (c : Rgb) (k : Nat) : [c.r, c.g, c.b, 255].getD k 0 = [c.r, c.g, c.b, 255].getD k 0 := rfl
def InR (W : Nat) (x y bw bh : Int) (j : Nat) : Prop := x ≤ ((j / 4 % W : Nat) : Int) ∧ ((j / 4 % W : Nat) : Int) < x + bw ∧ y ≤ ((j / 4 / W : Nat) : Int) ∧ ((j / 4 / W : Nat) : Int) < y + bh
instance (W : Nat) (x y bw bh : Int) (j : Nat) : Decidable (InR W x y bw bh j) := inferInstanceAs (Decidable (_ ∧ _))
theorem px_lt {W H j : Nat} (hj : j < 4 * (W * H)) : j / 4 % W < W ∧ j / 4 / W < H := by
  have hW : 0 < W := Nat.pos_of_ne_zero (by rintro rfl; simp at hj)
  exact ⟨Nat.mod_lt _ hW, Nat.div_lt_of_lt_mul (by omega)⟩
theorem fillP_get {W H : Nat} {x y bw bh c0 c1 c2 c3 : Int} {n : Nat} {P : List Int} {j : Nat} (hn : n = 4 * (W * H)) (hj : j < n) : (fillP W H x y bw bh c0 c1 c2 c3 n P).getD j 0 = if InR W x y bw bh j then [c0, c1, c2, c3].getD (j % 4) 0 else P.getD j 0 := by
  subst hn
  obtain ⟨h1, h2⟩ := px_lt hj
  unfold fillP
  rw [tab_get hj]
  unfold paintF
  have hiff : Spot.inside (fspot W H x y bw bh) (j / 4) ↔ InR W x y bw bh j := by
    unfold InR Spot.inside fspot
    simp only
    obtain ⟨X, hX⟩ : ∃ X, j / 4 % W = X := ⟨_, rfl⟩
    obtain ⟨Y, hY⟩ : ∃ Y, j / 4 / W = Y := ⟨_, rfl⟩
    rw [hX] at h1
    rw [hY] at h2
    rw [hX, hY]
    omega
  by_cases h : InR W x y bw bh j
  · rw [if_pos h, if_pos (hiff.2 h)]
  · rw [if_neg h, if_neg (fun h2 => h (hiff.1 h2))]
theorem inR_whole {W H j : Nat} (hj : j < 4 * (W * H)) : InR W 0 0 W H j := by
  obtain ⟨h1, h2⟩ := px_lt hj
  refine ⟨Int.natCast_nonneg _, ?_, Int.natCast_nonneg _, ?_⟩
  · rw [Int.zero_add]; exact Int.ofNat_lt.2 h1
  · rw [Int.zero_add]; exact Int.ofNat_lt.2 h2
theorem layL_get {W H : Nat} {x y bw bh : Int} {c : Rgb} {P : List Int} {j : Nat} (hj : j < 4 * (W * H)) : (layL W H x y bw bh c P).getD j 0 = if InR W x y bw bh j then [c.r, c.g, c.b, 255].getD (j % 4) 0 else P.getD j 0 := fillP_get rfl hj
theorem layL_len (W H : Nat) (x y bw bh : Int) (c : Rgb) (P : List Int) : (layL W H x y bw bh c P).length = 4 * (W * H) := fillP_length ..
theorem boxS_len {L : Int → Int → Int → Int → Rgb → List Int → List Int} {n : Nat} (hL : ∀ x y bw bh c P, (L x y bw bh c P).length = n) (r w h : Int) (a : Look) {P : List Int} (hP : P.length = n) : (boxS L r w h a P).length = n := by
  unfold boxS
  simp only
  repeat' split
  all_goals first | exact hL .. | exact hP
/-- What a byte of a glyph's box is, over what was there. -/
theorem box_get {W : Nat} {L : Int → Int → Int → Int → Rgb → List Int → List Int} {ox oy : Int} {r : Int} {w h : Int} {a : Look} {P : List Int} {j : Nat} (hw : 1 ≤ w) (hh : 1 ≤ h)
    (hL : ∀ (x y bw bh : Int) (c : Rgb) (P : List Int), (L x y bw bh c P).getD j 0 = if InR W (ox + x) (oy + y) bw bh j then [c.r, c.g, c.b, 255].getD (j % 4) 0 else P.getD j 0)
    (hX : ox ≤ ((j / 4 % W : Nat) : Int)) (hX2 : ((j / 4 % W : Nat) : Int) < ox + w) (hY : oy ≤ ((j / 4 / W : Nat) : Int)) (hY2 : ((j / 4 / W : Nat) : Int) < oy + h) :
    (boxS L r w h a P).getD j 0 = if kindI r w h a.fl (((j / 4 % W : Nat) : Int) - ox) (((j / 4 / W : Nat) : Int) - oy) = 1 then [(colors a).1.r, (colors a).1.g, (colors a).1.b, 255].getD (j % 4) 0 else if kindI r w h a.fl (((j / 4 % W : Nat) : Int) - ox) (((j / 4 / W : Nat) : Int) - oy) = 2 then [(colors a).2.r, (colors a).2.g, (colors a).2.b, 255].getD (j % 4) 0 else P.getD j 0 := by
  obtain ⟨X, hXX⟩ : ∃ X : Int, ((j / 4 % W : Nat) : Int) = X := ⟨_, rfl⟩
  obtain ⟨Y, hYY⟩ : ∃ Y : Int, ((j / 4 / W : Nat) : Int) = Y := ⟨_, rfl⟩
  unfold InR at hL
  rw [hXX] at hX hX2
  rw [hYY] at hY hY2
  simp only [hXX, hYY] at hL ⊢
  unfold boxS
  simp only
  obtain ⟨VF, hVF⟩ : ∃ v, [(colors a).1.r, (colors a).1.g, (colors a).1.b, 255].getD (j % 4) 0 = v := ⟨_, rfl⟩
  obtain ⟨VB, hVB⟩ : ∃ v, [(colors a).2.r, (colors a).2.g, (colors a).2.b, 255].getD (j % 4) 0 = v := ⟨_, rfl⟩
  obtain ⟨m1, hm1⟩ : ∃ m, r % ((w + 1) / 2) = m := ⟨_, rfl⟩
  obtain ⟨m2, hm2⟩ : ∃ m, r / 256 % ((h + 1) / 2) = m := ⟨_, rfl⟩
  have hl : lineB a.fl h (Y - oy) ↔ (hasB a.fl 8 = true ∧ Y - oy = h - 1) ∨ (hasB a.fl 128 = true ∧ Y - oy = h / 2) := Iff.rfl
  have ho : outB r w h (X - ox) (Y - oy) ↔ (r ≤ 32 ∨ X - ox - w / 4 < 0 ∨ Y - oy - h / 4 < 0 ∨ (w + 1) / 2 ≤ X - ox - w / 4 ∨ (h + 1) / 2 ≤ Y - oy - h / 4) := Iff.rfl
  have he : eyeB r w h (X - ox) (Y - oy) ↔ (2 < (w + 1) / 2 ∧ 2 < (h + 1) / 2 ∧ X - ox - w / 4 = m1 ∧ Y - oy - h / 4 = m2) := by unfold eyeB; rw [hm1, hm2]
  rw [hm1, hm2]
  by_cases k1 : lineB a.fl h (Y - oy)
  · rw [kind_line k1, if_pos (show (1 : Int) = 1 from rfl)]
    rw [hl] at k1
    clear hl ho he
    by_cases s1 : hasB a.fl 128 = true
    · rw [if_pos s1, hL, hVF]
      by_cases s2 : Y - oy = h / 2
      · rw [if_pos (by omega)]
      · rw [if_neg (by omega)]
        have k2 : hasB a.fl 8 = true ∧ Y - oy = h - 1 := k1.resolve_right (fun h => s2 h.2)
        rw [if_pos k2.1, hL, hVF, if_pos (by omega)]
    · rw [if_neg s1]
      have k2 : hasB a.fl 8 = true ∧ Y - oy = h - 1 := k1.resolve_right (fun h => s1 h.1)
      rw [if_pos k2.1, hL, hVF, if_pos (by omega)]
  · have n1 : ∀ P', (if hasB a.fl 8 = true then L 0 (h - 1) w 1 (colors a).1 P' else P').getD j 0 = P'.getD j 0 := by
      intro P'
      by_cases s1 : hasB a.fl 8 = true
      · rw [if_pos s1, hL, if_neg]
        intro q
        exact k1 (hl.2 (.inl ⟨s1, by omega⟩))
      · rw [if_neg s1]
    have n2 : ∀ P', (if hasB a.fl 128 = true then L 0 (h / 2) w 1 (colors a).1 P' else P').getD j 0 = P'.getD j 0 := by
      intro P'
      by_cases s1 : hasB a.fl 128 = true
      · rw [if_pos s1, hL, if_neg]
        intro q
        exact k1 (hl.2 (.inr ⟨s1, by omega⟩))
      · rw [if_neg s1]
    rw [n2, n1]
    by_cases k2 : outB r w h (X - ox) (Y - oy)
    · rw [kind_out k1 k2, if_neg (show ¬ ((0 : Int) = 1) by decide), if_neg (show ¬ ((0 : Int) = 2) by decide)]
      rw [ho] at k2
      by_cases c32 : 32 < r
      · have b1 : 0 ≤ m1 ∧ m1 < (w + 1) / 2 := by rw [← hm1]; exact ⟨Int.emod_nonneg _ (by omega), Int.emod_lt_of_pos _ (by omega)⟩
        have b2 : 0 ≤ m2 ∧ m2 < (h + 1) / 2 := by rw [← hm2]; exact ⟨Int.emod_nonneg _ (by omega), Int.emod_lt_of_pos _ (by omega)⟩
        rw [if_pos c32]
        by_cases cb : 2 < (w + 1) / 2 ∧ 2 < (h + 1) / 2
        · rw [if_pos cb, hL, if_neg (by omega), hL, if_neg (by omega)]
        · rw [if_neg cb, hL, if_neg (by omega)]
      · rw [if_neg c32]
    · have c32 : 32 < r := by rw [ho] at k2; omega
      rw [if_pos c32]
      by_cases k3 : eyeB r w h (X - ox) (Y - oy)
      · rw [kind_eye k1 k2 k3, if_neg (show ¬ ((2 : Int) = 1) by decide), if_pos (show (2 : Int) = 2 from rfl)]
        rw [he] at k3
        rw [if_pos ⟨k3.1, k3.2.1⟩, hL, hVB, if_pos (by omega)]
      · rw [kind_box k1 k2 k3, if_pos (show (1 : Int) = 1 from rfl)]
        rw [he] at k3
        rw [ho] at k2
        by_cases cb : 2 < (w + 1) / 2 ∧ 2 < (h + 1) / 2
        · rw [if_pos cb, hL, if_neg (by omega), hL, hVF, if_pos (by omega)]
        · rw [if_neg cb, hL, hVF, if_pos (by omega)]
theorem gly_same (W H : Nat) (r : Int) (a : Look) (hw : 1 ≤ W) (hh : 1 ≤ H) : glyP W H r a = rglyP W H r a := by
  have hl : (glyP W H r a).length = 4 * (W * H) := by unfold glyP; exact boxS_len (fun x y bw bh c P => layL_len ..) _ _ _ _ (layL_len ..)
  refine list_ext (by rw [hl]; unfold rglyP; rw [tab_length]) (fun j hj => ?_)
  rw [hl] at hj
  obtain ⟨h1, h2⟩ := px_lt hj
  unfold glyP rglyP
  rw [box_get (W := W) (ox := 0) (oy := 0) (by omega) (by omega) (fun x y bw bh c P => by rw [layL_get hj, Int.zero_add, Int.zero_add]) (inR_whole hj).1 (inR_whole hj).2.1 (inR_whole hj).2.2.1 (inR_whole hj).2.2.2]
  rw [layL_get hj, if_pos (inR_whole hj)]
  rw [tab_get hj]
  unfold paintF
  rw [if_pos (show Spot.inside _ _ from ⟨Nat.zero_le _, h1, Nat.zero_le _, h2⟩)]
  unfold glyK
  simp only [Int.sub_zero]
  split
  · rfl
  · split <;> rfl
end Go.Proofs.Ytdjgmhbfohbenaa
