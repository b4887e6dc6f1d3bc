/- A part cut out and drawn again; cut out of what was filled: in plain Lean. -/
import Derived.Test.YtgejefhnoloebaaFill
namespace Go.Proofs.Ytgejefhnoloebaa
open Go.RowKit Go.Sort
set_option linter.unusedVariables false
set_option linter.unusedSimpArgs false
/-- The two ways a part may be: none, or one that lies within. -/
theorem cutM_cases (W H : Nat) (x y cw ch : Int) (p : List Int) :
    (cutM W H x y cw ch p = (0, 0, []) ∧ ((partS x cw W).2.toNat ≤ (partS x cw W).1.toNat ∨ (partS y ch H).2.toNat ≤ (partS y ch H).1.toNat)) ∨
    ∃ x0 y0 C D : Nat, 0 < C ∧ 0 < D ∧ partS x cw W = ((x0 : Int), ((x0 + C : Nat) : Int)) ∧ partS y ch H = ((y0 : Int), ((y0 + D : Nat) : Int)) ∧ x0 + C ≤ W ∧ y0 + D ≤ H ∧ cutM W H x y cw ch p = (C, D, tab (4 * (C * D)) (cutF W x0 y0 C p)) := by
  have bx := partS_bd x cw W (by omega)
  have by' := partS_bd y ch H (by omega)
  obtain ⟨x0, hx0⟩ : ∃ k : Nat, (partS x cw W).1 = (k : Int) := ⟨_, Int.eq_ofNat_of_zero_le bx.1 |>.choose_spec⟩
  obtain ⟨x1, hx1⟩ : ∃ k : Nat, (partS x cw W).2 = (k : Int) := ⟨_, Int.eq_ofNat_of_zero_le bx.2.2.1 |>.choose_spec⟩
  obtain ⟨y0, hy0⟩ : ∃ k : Nat, (partS y ch H).1 = (k : Int) := ⟨_, Int.eq_ofNat_of_zero_le by'.1 |>.choose_spec⟩
  obtain ⟨y1, hy1⟩ : ∃ k : Nat, (partS y ch H).2 = (k : Int) := ⟨_, Int.eq_ofNat_of_zero_le by'.2.2.1 |>.choose_spec⟩
  unfold cutM
  simp only
  rw [hx0, hx1, hy0, hy1]
  simp only [Int.toNat_natCast]
  by_cases h : x1 ≤ x0 ∨ y1 ≤ y0
  · rw [if_pos h]; exact .inl ⟨rfl, h⟩
  · rw [if_neg h]
    refine .inr ⟨x0, y0, x1 - x0, y1 - y0, by omega, by omega, Prod.ext hx0 ?_, Prod.ext hy0 ?_, by omega, by omega, rfl⟩
    · rw [hx1]; simp only; congr 1; omega
    · rw [hy1]; simp only; congr 1; omega
theorem cutM_right {W H : Nat} {x y cw ch : Int} {p : List Int} (hr : sizeB W H = true) :
    (cutM W H x y cw ch p).1 ≤ W ∧ (cutM W H x y cw ch p).2.1 ≤ H ∧ (cutM W H x y cw ch p).2.2.length = 4 * ((cutM W H x y cw ch p).1 * (cutM W H x y cw ch p).2.1) ∧ rightM ⟨(cutM W H x y cw ch p).1, (cutM W H x y cw ch p).2.1, (cutM W H x y cw ch p).2.2⟩ = true := by
  obtain ⟨a1, a2, a3, a4, a5, a6, -⟩ := sizeB_t hr
  rcases cutM_cases W H x y cw ch p with ⟨h, -⟩ | ⟨x0, y0, C, D, hC, hD, -, -, hx, hy, h⟩
  · rw [h]; exact ⟨by simp, by simp, rfl, by decide⟩
  · rw [h]
    refine ⟨by simp only; omega, by simp only; omega, tab_length _ _, ?_⟩
    unfold rightM sizeB
    rw [Bool.and_eq_true]
    have h1 : C * D ≤ W * H := Nat.mul_le_mul (by omega) (by omega)
    have h2 : (C : Int) * (D : Int) = ((C * D : Nat) : Int) := by simp
    have h3 : (W : Int) * (H : Int) = ((W * H : Nat) : Int) := by simp
    refine ⟨decide_eq_true ?_, decide_eq_true ?_⟩
    · refine Or.inr ⟨by simp only; omega, by simp only; omega, by simp only; omega, by simp only; omega, ?_⟩
      simp only
      rw [h2]
      rw [h3] at a6
      omega
    · simp only
      rw [tab_length, Int.mul_assoc, h2]
      simp
theorem cutM_bytes {W H : Nat} {x y cw ch : Int} {p : List Int} (hb : IsBytes p) : IsBytes (cutM W H x y cw ch p).2.2 := by
  rcases cutM_cases W H x y cw ch p with ⟨h, -⟩ | ⟨x0, y0, C, D, hC, hD, -, -, hx, hy, h⟩
  · rw [h]; intro n hn; cases hn
  · rw [h]
    intro n hn
    simp only [tab, List.mem_map, List.mem_range] at hn
    obtain ⟨q, -, rfl⟩ := hn
    exact getD_byte hb _
/-- The sides of what is cut out do not hang on the bytes. -/
theorem cutM_sides (W H : Nat) (x y cw ch : Int) (p q : List Int) : (cutM W H x y cw ch p).1 = (cutM W H x y cw ch q).1 ∧ (cutM W H x y cw ch p).2.1 = (cutM W H x y cw ch q).2.1 := by
  unfold cutM; simp only; split <;> exact ⟨rfl, rfl⟩
theorem draw_cut {W H : Nat} {x y cw ch : Int} {p : List Int} {n : Nat} (hs : sizeB W H = true) (hn : n = 4 * (W * H)) (hp : p.length = n) (hb : IsBytes p) (ho : ∀ k, k < W * H → p.getD (4 * k + 3) 0 = 255) (hx : 0 ≤ x) (hy : 0 ≤ y) :
    tab n (drawF (spotOf W H (cutM W H x y cw ch p).1 (cutM W H x y cw ch p).2.1 x y) p (cutM W H x y cw ch p).2.2) = p := by
  obtain ⟨a1, a2, a3, a4, a5, a6, -⟩ := sizeB_t hs
  refine list_ext (by rw [tab_length, hp]) (fun j hj => ?_)
  rw [tab_length] at hj
  rw [tab_get hj]
  rcases cutM_cases W H x y cw ch p with ⟨h, -⟩ | ⟨x0, y0, C, D, hC, hD, h1, h2, hxW, hyH, h⟩
  · rw [h]
    unfold drawF
    rw [if_neg]
    unfold Spot.inside spotOf
    simp only
    rw [partS_no (by omega)]
    simp
  · rw [h]
    unfold drawF
    split
    · rename_i hin
      have hxlt : x < W := by
        rcases Int.lt_or_le x W with h9 | h9
        · exact h9
        · rw [partS_no (by omega)] at h1; have := (Prod.ext_iff.1 h1).2; simp only at this; omega
      have hylt : y < H := by
        rcases Int.lt_or_le y H with h9 | h9
        · exact h9
        · rw [partS_no (by omega)] at h2; have := (Prod.ext_iff.1 h2).2; simp only at this; omega
      have hcw : 1 ≤ cw := by
        rcases Int.lt_or_le cw 1 with h9 | h9
        · rw [partS_no (by omega)] at h1; have := (Prod.ext_iff.1 h1).2; simp only at this; omega
        · exact h9
      have hch : 1 ≤ ch := by
        rcases Int.lt_or_le ch 1 with h9 | h9
        · rw [partS_no (by omega)] at h2; have := (Prod.ext_iff.1 h2).2; simp only at this; omega
        · exact h9
      rw [partS_yes (by omega)] at h1 h2
      obtain ⟨h11, h12⟩ := Prod.ext_iff.1 h1
      obtain ⟨h21, h22⟩ := Prod.ext_iff.1 h2
      simp only at h11 h12 h21 h22
      have ex : x = (x0 : Int) := by omega
      have ey : y = (y0 : Int) := by omega
      subst ex
      subst ey
      unfold Spot.inside spotOf at hin
      simp only at hin
      rw [partS_yes (at' := (x0 : Int)) (n := (C : Int)) (by omega), partS_yes (at' := (y0 : Int)) (n := (D : Int)) (by omega)] at hin
      simp only at hin
      obtain ⟨P, hP⟩ : ∃ P, j / 4 = P := ⟨_, rfl⟩
      have hPn : P < W * H := by omega
      obtain ⟨k, hk⟩ : ∃ k, j % 4 = k := ⟨_, rfl⟩
      have hjk : j = 4 * P + k := by omega
      have hk4 : k < 4 := by omega
      rw [hP] at hin
      have i1 : x0 ≤ P % W := by omega
      have i2 : P % W < x0 + C := by omega
      have i3 : y0 ≤ P / W := by omega
      have i4 : P / W < y0 + D := by omega
      have hPd : P / W * W + P % W = P := by rw [Nat.mul_comm]; exact Nat.div_add_mod P W
      obtain ⟨X, hX⟩ : ∃ X, P % W - x0 = X := ⟨_, rfl⟩
      obtain ⟨Y, hY⟩ : ∃ Y, P / W - y0 = Y := ⟨_, rfl⟩
      have hsrc : Spot.src (spotOf W H C D x0 y0) P = Y * C + X := by
        unfold Spot.src spotOf
        simp only
        rw [show ((P / W : Nat) : Int) - (y0 : Int) = (Y : Int) by omega, show ((P % W : Nat) : Int) - (x0 : Int) = (X : Int) by omega, Int.toNat_natCast, Int.toNat_natCast]
      have hfi := fit_idx (W := C) (H := D) (x := X) (y := Y) (by omega) (by omega)
      have hcut : ∀ k, k < 4 → (tab (4 * (C * D)) (cutF W x0 y0 C p)).getD (4 * (Y * C + X) + k) 0 = p.getD (4 * P + k) 0 := by
        intro k hk
        rw [tab_get (by omega)]
        unfold cutF cutK
        obtain ⟨e3, e4⟩ := pos_of (W := C) (x := X) (y := Y) (by omega)
        rw [show (4 * (Y * C + X) + k) / 4 = Y * C + X by omega, show (4 * (Y * C + X) + k) % 4 = k by omega, e3, e4, show Y + y0 = P / W by omega, show X + x0 = P % W by omega, hPd]
      rw [hP, hk, hsrc, hjk]
      unfold overK
      rw [hcut 3 (by omega), ho P hPn]
      split
      · rename_i h3; rw [h3]; exact (ho P hPn).symm
      · rw [hcut k hk4]
        have := getD_byte hb (4 * P + k)
        unfold ov
        omega
    · rfl
theorem cut_fill {W H : Nat} {x y cw ch : Int} {p : List Int} {n : Nat} {c0 c1 c2 c3 : Int} (hn : n = 4 * (W * H)) :
    ∀ i, i < (cutM W H x y cw ch (fillL W H x y cw ch p c0 c1 c2 c3 n)).2.2.length → (cutM W H x y cw ch (fillL W H x y cw ch p c0 c1 c2 c3 n)).2.2.getD i 0 = [c0, c1, c2, c3].getD (i % 4) 0 := by
  rcases cutM_cases W H x y cw ch (fillL W H x y cw ch p c0 c1 c2 c3 n) with ⟨h, -⟩ | ⟨x0, y0, C, D, hC, hD, h1, h2, hxW, hyH, h⟩
  · rw [h]; intro i hi; cases hi
  · rw [h]
    simp only
    intro i hi
    rw [tab_length] at hi
    rw [tab_get hi]
    unfold cutF cutK fillL
    rw [h1, h2]
    simp only [Int.toNat_natCast]
    have m1 : i / 4 % C < C := Nat.mod_lt _ hC
    have m2 : i / 4 / C < D := Nat.div_lt_of_lt_mul (by omega)
    obtain ⟨u, hu⟩ : ∃ u, i / 4 % C = u := ⟨_, rfl⟩
    obtain ⟨v, hv⟩ : ∃ v, i / 4 / C = v := ⟨_, rfl⟩
    rw [hu] at m1 ⊢
    rw [hv] at m2 ⊢
    have hfi := fit_idx (W := W) (H := H) (x := u + x0) (y := v + y0) (by omega) (by omega)
    obtain ⟨e3, e4⟩ := pos_of (W := W) (x := u + x0) (y := v + y0) (by omega)
    obtain ⟨Q, hQ⟩ : ∃ Q, (v + y0) * W + (u + x0) = Q := ⟨_, rfl⟩
    rw [hQ] at hfi e3 e4 ⊢
    rw [tab_get (by omega)]
    unfold paintF
    rw [show (4 * Q + i % 4) / 4 = Q by omega, show (4 * Q + i % 4) % 4 = i % 4 by omega, if_pos]
    unfold Spot.inside
    simp only
    rw [e3, e4]
    omega
end Go.Proofs.Ytgejefhnoloebaa
