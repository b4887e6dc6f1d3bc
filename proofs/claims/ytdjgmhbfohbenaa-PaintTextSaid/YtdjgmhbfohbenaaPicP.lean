/- A scene's picture, pixel by pixel, in plain Lean. -/
import Derived.Test.YtdjgmhbfohbenaaKnown
namespace Go.Proofs.Ytdjgmhbfohbenaa
open Go.RowKit Go.Sort Pl
set_option linter.unusedVariables false
set_option linter.unusedSimpArgs false
theorem cell_iff {X cw col : Nat} (hcw : 0 < cw) : (col * cw ≤ X ∧ X < col * cw + cw) ↔ X / cw = col := by
  constructor
  · rintro ⟨h1, h2⟩
    exact Nat.div_eq_of_lt_le h1 (by rw [Nat.succ_mul]; exact h2)
  · rintro rfl
    exact ⟨Nat.div_mul_le_self X cw, Nat.lt_div_mul_add hcw⟩
theorem rowF_get {step : Nat → Nat → List Int → List Int} {j R C : Nat} {F : Int → Int} (hs : ∀ row col P, (step row col P).getD j 0 = if row = R ∧ col = C then F (P.getD j 0) else P.getD j 0) (row : Nat) :
    ∀ (k : Nat) (P : List Int), (rowF step row k P).getD j 0 = if row = R ∧ C < k then F (P.getD j 0) else P.getD j 0
  | 0, P => by rw [if_neg (by omega)]; rfl
  | k + 1, P => by
    show (step row k (rowF step row k P)).getD j 0 = _
    rw [hs, rowF_get hs row k P]
    by_cases h : row = R ∧ k = C
    · rw [if_pos h, if_neg (by omega), if_pos (by omega)]
    · rw [if_neg h]
      by_cases h2 : row = R ∧ C < k
      · rw [if_pos h2, if_pos (by omega)]
      · rw [if_neg h2, if_neg (by omega)]
theorem eachF_get {step : Nat → Nat → List Int → List Int} {j R C : Nat} {F : Int → Int} (hs : ∀ row col P, (step row col P).getD j 0 = if row = R ∧ col = C then F (P.getD j 0) else P.getD j 0) (cols : Nat) (hC : C < cols) :
    ∀ (k : Nat) (P : List Int), (eachF step cols k P).getD j 0 = if R < k then F (P.getD j 0) else P.getD j 0
  | 0, P => by rw [if_neg (by omega)]; rfl
  | k + 1, P => by
    show (rowF step k cols (eachF step cols k P)).getD j 0 = _
    rw [rowF_get hs, eachF_get hs cols hC k P]
    by_cases h : k = R
    · rw [if_pos ⟨h, hC⟩, if_neg (by omega), if_pos (by omega)]
    · rw [if_neg (fun h2 => h h2.1)]
      by_cases h2 : R < k
      · rw [if_pos h2, if_pos (by omega)]
      · rw [if_neg h2, if_neg (by omega)]
/-- The parts of a box lie within it. -/
theorem box_out {W : Nat} {L : Int → Int → Int → Int → Rgb → List Int → List Int} {ox oy : Int} {r : Int} {w h : Int} {a : Look} {P : List Int} {j : Nat} (hw : 1 ≤ w) (hh : 1 ≤ h)
    (hL : ∀ (x y bw bh : Int) (c : Rgb) (P : List Int), (L x y bw bh c P).getD j 0 = if InR W (ox + x) (oy + y) bw bh j then [c.r, c.g, c.b, 255].getD (j % 4) 0 else P.getD j 0)
    (hn : ¬ (ox ≤ ((j / 4 % W : Nat) : Int) ∧ ((j / 4 % W : Nat) : Int) < ox + w ∧ oy ≤ ((j / 4 / W : Nat) : Int) ∧ ((j / 4 / W : Nat) : Int) < oy + h)) : (boxS L r w h a P).getD j 0 = P.getD j 0 := by
  obtain ⟨X, hXX⟩ : ∃ X : Int, ((j / 4 % W : Nat) : Int) = X := ⟨_, rfl⟩
  obtain ⟨Y, hYY⟩ : ∃ Y : Int, ((j / 4 / W : Nat) : Int) = Y := ⟨_, rfl⟩
  unfold InR at hL
  simp only [hXX, hYY] at hL hn
  have key : ∀ (x y bw bh : Int) (c : Rgb) (P : List Int), 0 ≤ x → 0 ≤ y → x + bw ≤ w → y + bh ≤ h → (L x y bw bh c P).getD j 0 = P.getD j 0 := by
    intro x y bw bh c P h1 h2 h3 h4
    rw [hL, if_neg (by omega)]
  unfold boxS
  simp only
  obtain ⟨m1, hm1⟩ : ∃ m, r % ((w + 1) / 2) = m := ⟨_, rfl⟩
  obtain ⟨m2, hm2⟩ : ∃ m, r / 256 % ((h + 1) / 2) = m := ⟨_, rfl⟩
  have b1 : 0 ≤ m1 ∧ m1 < (w + 1) / 2 := by rw [← hm1]; exact ⟨Int.emod_nonneg _ (by omega), Int.emod_lt_of_pos _ (by omega)⟩
  have b2 : 0 ≤ m2 ∧ m2 < (h + 1) / 2 := by rw [← hm2]; exact ⟨Int.emod_nonneg _ (by omega), Int.emod_lt_of_pos _ (by omega)⟩
  rw [hm1, hm2]
  have n2 : ∀ P', (if hasB a.fl 128 = true then L 0 (h / 2) w 1 (colors a).1 P' else P').getD j 0 = P'.getD j 0 := by
    intro P'
    split
    · exact key _ _ _ _ _ _ (by omega) (by omega) (by omega) (by omega)
    · rfl
  have n1 : ∀ P', (if hasB a.fl 8 = true then L 0 (h - 1) w 1 (colors a).1 P' else P').getD j 0 = P'.getD j 0 := by
    intro P'
    split
    · exact key _ _ _ _ _ _ (by omega) (by omega) (by omega) (by omega)
    · rfl
  rw [n2, n1]
  split
  · split
    · rw [key _ _ _ _ _ _ (by omega) (by omega) (by omega) (by omega), key _ _ _ _ _ _ (by omega) (by omega) (by omega) (by omega)]
    · rw [key _ _ _ _ _ _ (by omega) (by omega) (by omega) (by omega)]
  · rfl
/-- What a glyph makes of a byte. -/
noncomputable def glyB (w h : Int) (c : Cl) (x y : Int) (k : Nat) (v : Int) : Int :=
  if c.r = 0 then v else if kindI c.r w h c.a.fl x y = 1 then [(colors c.a).1.r, (colors c.a).1.g, (colors c.a).1.b, 255].getD k 0 else if kindI c.r w h c.a.fl x y = 2 then [(colors c.a).2.r, (colors c.a).2.g, (colors c.a).2.b, 255].getD k 0 else v
def bakB (c : Cl) (k : Nat) : Int := [(colors c.a).2.r, (colors c.a).2.g, (colors c.a).2.b, 255].getD k 0
section
variable {s : Sc} {ls : List (List Cl)} {W H : Nat} {j : Nat}
theorem gro_get (hcw : 0 < s.cw) (hch : 0 < s.ch) (hW : W = s.cols * s.cw) (hH : H = s.rows * s.ch) (hj : j < 4 * (W * H)) (P : List Int) :
    (eachF (groF s ls W H) s.cols s.rows P).getD j 0 = bakB (cellS ls (j / 4 / W / s.ch) (j / 4 % W / s.cw)) (j % 4) := by
  obtain ⟨h1, h2⟩ := px_lt hj
  have hC : j / 4 % W / s.cw < s.cols := Nat.div_lt_of_lt_mul (by rw [Nat.mul_comm, ← hW]; exact h1)
  have hR : j / 4 / W / s.ch < s.rows := Nat.div_lt_of_lt_mul (by rw [Nat.mul_comm, ← hH]; exact h2)
  rw [eachF_get (R := j / 4 / W / s.ch) (C := j / 4 % W / s.cw) (F := fun _ => bakB (cellS ls (j / 4 / W / s.ch) (j / 4 % W / s.cw)) (j % 4)) (fun row col P => ?_) _ hC, if_pos hR]
  unfold groF
  rw [layL_get hj]
  have hiff : InR W ((col * s.cw : Nat) : Int) ((row * s.ch : Nat) : Int) s.cw s.ch j ↔ row = j / 4 / W / s.ch ∧ col = j / 4 % W / s.cw := by
    unfold InR
    rw [eq_comm (a := row), eq_comm (a := col), ← cell_iff hch, ← cell_iff hcw]
    omega
  by_cases h : row = j / 4 / W / s.ch ∧ col = j / 4 % W / s.cw
  · rw [if_pos (hiff.2 h), if_pos h, h.1, h.2]; rfl
  · rw [if_neg (fun h3 => h (hiff.1 h3)), if_neg h]
theorem gls_get (hcw : 0 < s.cw) (hch : 0 < s.ch) (hW : W = s.cols * s.cw) (hH : H = s.rows * s.ch) (hk : ∀ row col, (cellS ls row col).k = 0) (hj : j < 4 * (W * H)) (P : List Int) :
    (eachF (glsF s ls W H) s.cols s.rows P).getD j 0 = glyB s.cw s.ch (cellS ls (j / 4 / W / s.ch) (j / 4 % W / s.cw)) (((j / 4 % W : Nat) : Int) - ((j / 4 % W / s.cw * s.cw : Nat) : Int)) (((j / 4 / W : Nat) : Int) - ((j / 4 / W / s.ch * s.ch : Nat) : Int)) (j % 4) (P.getD j 0) := by
  obtain ⟨h1, h2⟩ := px_lt hj
  have hC : j / 4 % W / s.cw < s.cols := Nat.div_lt_of_lt_mul (by rw [Nat.mul_comm, ← hW]; exact h1)
  have hR : j / 4 / W / s.ch < s.rows := Nat.div_lt_of_lt_mul (by rw [Nat.mul_comm, ← hH]; exact h2)
  rw [eachF_get (R := j / 4 / W / s.ch) (C := j / 4 % W / s.cw) (F := glyB s.cw s.ch (cellS ls (j / 4 / W / s.ch) (j / 4 % W / s.cw)) (((j / 4 % W : Nat) : Int) - ((j / 4 % W / s.cw * s.cw : Nat) : Int)) (((j / 4 / W : Nat) : Int) - ((j / 4 / W / s.ch * s.ch : Nat) : Int)) (j % 4)) (fun row col P => ?_) _ hC, if_pos hR]
  unfold glsF
  have hkk := hk row col
  have hgw : glsW s (cellS ls row col) col = s.cw := by unfold glsW; rw [if_neg (by omega)]
  rw [hgw]
  have hL : ∀ (x y bw bh : Int) (c : Rgb) (P : List Int), (glsL W H (col * s.cw) (row * s.ch) x y bw bh c P).getD j 0 = if InR W (((col * s.cw : Nat) : Int) + x) (((row * s.ch : Nat) : Int) + y) bw bh j then [c.r, c.g, c.b, 255].getD (j % 4) 0 else P.getD j 0 := fun x y bw bh c P => by unfold glsL; exact layL_get hj
  by_cases h : row = j / 4 / W / s.ch ∧ col = j / 4 % W / s.cw
  · rw [if_pos h]
    have g1 := (cell_iff (X := j / 4 / W) hch).2 h.1.symm
    have g2 := (cell_iff (X := j / 4 % W) hcw).2 h.2.symm
    rw [← h.1, ← h.2]
    by_cases hr : (cellS ls row col).r = 0
    · rw [if_pos (.inl hr)]
      unfold glyB
      rw [if_pos hr]
    · rw [if_neg (by omega), box_get (by omega) (by omega) hL (by omega) (by omega) (by omega) (by omega)]
      unfold glyB
      rw [if_neg hr]
  · rw [if_neg h]
    split
    · rfl
    · refine box_out (W := W) (ox := ((col * s.cw : Nat) : Int)) (oy := ((row * s.ch : Nat) : Int)) (by omega) (by omega) hL ?_
      intro hi
      apply h
      exact ⟨((cell_iff hch).1 (by omega)).symm, ((cell_iff hcw).1 (by omega)).symm⟩
end
end Go.Proofs.Ytdjgmhbfohbenaa
