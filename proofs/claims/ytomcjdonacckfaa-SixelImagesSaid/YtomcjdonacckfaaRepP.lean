/- A sixel that is repeated, in plain Lean. -/
import Derived.Test.YtomcjdonacckfaaLawsP
namespace Go.Proofs.Ytomcjdonacckfaa
set_option linter.unusedVariables false
set_option linter.unusedSimpArgs false
/-- The same decoder with other numbers. -/
def Dec.other (d : Dec) (x : List Int) (y : Int) : Dec := { d with n := x, v := y }
/-- The same, but for numbers that no command waits for. -/
def Sim (d e : Dec) : Prop := e = d ∨ (d.cmd = 0 ∧ ∃ x y, e = d.other x y)
theorem grow_other (d : Dec) (x : List Int) (y : Int) (W0 H0 W1 H1 : Nat) : (d.other x y).grow W0 H0 W1 H1 = (d.grow W0 H0 W1 H1).other x y := by
  unfold Dec.grow
  split
  · rfl
  · split <;> rename_i h1 h2
    · rw [if_pos (show d.most / 4 / (H1 : Int) < (W1 : Int) from h2)]; rfl
    · rw [if_neg (show ¬ d.most / 4 / (H1 : Int) < (W1 : Int) from h2)]; rfl
theorem sixel_other (d : Dec) (x : List Int) (y : Int) (v n X Y W0 H0 K : Nat) : (d.other x y).sixel v n X Y W0 H0 K = (d.sixel v n X Y W0 H0 K).other x y := by
  unfold Dec.sixel
  split
  · rfl
  · rw [grow_other]
    have e : growOk (d.other x y) W0 H0 (max (wAt v Y X n 6) W0) (max (hAt v Y X 6) H0) = growOk d W0 H0 (max (wAt v Y X n 6) W0) (max (hAt v Y X 6) H0) := rfl
    rw [e]
    split <;> rfl
theorem grow_cmd (d : Dec) (W0 H0 W1 H1 : Nat) : (d.grow W0 H0 W1 H1).cmd = d.cmd := by unfold Dec.grow; split; rfl; split <;> rfl
theorem sixel_cmd (d : Dec) (v n X Y W0 H0 K : Nat) : (d.sixel v n X Y W0 H0 K).cmd = d.cmd := by
  unfold Dec.sixel
  split
  · rfl
  · split
    · exact grow_cmd _ _ _ _ _
    · exact grow_cmd d _ _ _ _
theorem sim_byte {d e : Dec} (h : Sim d e) (c : Nat) : Sim (d.byte c) (e.byte c) := by
  rcases h with rfl | ⟨h0, x, y, rfl⟩
  · exact .inl rfl
  · unfold Dec.byte
    have e1 : (d.other x y).full = d.full := rfl
    have e2 : (d.other x y).over = d.over := rfl
    rw [e1, e2]
    split
    · rw [sig_plain h0, sig_plain (show (d.other x y).cmd = 0 from h0)]
      unfold Dec.plainSign
      split
      · right
        refine ⟨(sixel_cmd _ _ _ _ _ _ _ _).trans h0, x, y, ?_⟩
        exact sixel_other { d with rep := 0 } x y (c - 63) (max d.rep 1).toNat d.x.toNat d.y.toNat d.w.toNat d.h.toNat d.now.toNat
      · split
        · left; rfl
        · right
          split
          · exact ⟨h0, x, y, rfl⟩
          · split <;> exact ⟨h0, x, y, rfl⟩
    · exact .inr ⟨h0, x, y, rfl⟩
theorem sim_feed {d e : Dec} (h : Sim d e) (l : List Nat) : Sim (d.feed l) (e.feed l) := by
  induction l generalizing d e with
  | nil => exact h
  | cons c l ih => exact ih (sim_byte h c)
theorem sim_fin {d e : Dec} (h : Sim d e) : e.fin.w = d.fin.w ∧ e.fin.h = d.fin.h ∧ e.fin.p = d.fin.p ∧ e.fin.e = d.fin.e := by
  rcases h with rfl | ⟨h0, x, y, rfl⟩
  · exact ⟨rfl, rfl, rfl, rfl⟩
  · have f1 : d.fin1 = d := by unfold Dec.fin1; split; unfold Dec.done; rw [if_pos h0]; rfl
    have f2 : (d.other x y).fin1 = d.other x y := by unfold Dec.fin1; split; unfold Dec.done; rw [if_pos (show (d.other x y).cmd = 0 from h0)]; rfl
    rw [fin_eq, fin_eq, f1, f2]
    have e1 : (d.other x y).full = d.full := rfl
    have e2 : (d.other x y).w = d.w := rfl
    have e3 : (d.other x y).over = d.over := rfl
    rw [e1, e2, e3]
    split
    · exact ⟨rfl, rfl, rfl, rfl⟩
    · split <;> exact ⟨rfl, rfl, rfl, rfl⟩
/-- A picture of one sixel, k wide. -/
def barP (v : Nat) (c : List Int) (k h : Nat) : List Int := tab (4 * k * h) (fun i => if v / 2 ^ (i / 4 / k) % 2 = 1 then c.getD (i % 4) 0 else 0)
theorem grown_nil (k h i : Nat) (hi : i < 4 * k * h) : (grown [] 0 0 k h).getD i 0 = 0 := by
  unfold grown
  rw [tab_get hi]
  unfold growF
  rw [if_neg (by omega)]
theorem bar_first (v k h : Nat) (hk : 1 ≤ k) (hh : h ≤ 6) (c : List Int) : paint (grown [] 0 0 k h) k h v 0 0 k c = barP v c k h := by
  unfold paint barP
  refine tab_ext fun i hi => ?_
  unfold paintF
  have hpy : i / 4 / k < h := by
    rw [Nat.div_div_eq_div_mul, Nat.div_lt_iff_lt_mul (by omega), Nat.mul_comm]; exact hi
  have hpx : i / 4 % k < k := Nat.mod_lt _ (by omega)
  rw [grown_nil k h i hi]
  have e : painted v 0 0 k 6 0 (i / 4 % k) (i / 4 / k) ↔ v / 2 ^ (i / 4 / k) % 2 = 1 := by
    unfold painted
    rw [Nat.sub_zero]
    revert hpy hpx
    generalize i / 4 % k = px
    generalize i / 4 / k = py
    intro hpy hpx
    constructor
    · rintro ⟨-, h2, -⟩; exact h2
    · intro h2; exact ⟨by omega, h2, by omega, by omega, by omega⟩
  by_cases hb : v / 2 ^ (i / 4 / k) % 2 = 1
  · rw [if_pos (e.2 hb), if_pos hb]
  · rw [if_neg (fun h => hb (e.1 h)), if_neg hb]
theorem bar_next (v k h : Nat) (hk : 1 ≤ k) (hh : h ≤ 6) (c : List Int) : paint (grown (barP v c k h) k h (k + 1) h) (k + 1) h v 0 k (k + 1) c = barP v c (k + 1) h := by
  unfold paint
  show _ = tab (4 * (k + 1) * h) _
  refine tab_ext fun i hi => ?_
  unfold paintF
  have hpy : i / 4 / (k + 1) < h := by
    rw [Nat.div_div_eq_div_mul, Nat.div_lt_iff_lt_mul (by omega), Nat.mul_comm]; exact hi
  have hpx : i / 4 % (k + 1) < k + 1 := Nat.mod_lt _ (by omega)
  obtain ⟨q, hq⟩ : ∃ q, i / 4 = q := ⟨_, rfl⟩
  obtain ⟨r, hr⟩ : ∃ r, i % 4 = r := ⟨_, rfl⟩
  have hir : i = 4 * q + r := by omega
  have hr4 : r < 4 := by omega
  rw [hq] at hpy hpx ⊢
  rw [hr]
  obtain ⟨px, hpxe⟩ : ∃ px, q % (k + 1) = px := ⟨_, rfl⟩
  obtain ⟨py, hpye⟩ : ∃ py, q / (k + 1) = py := ⟨_, rfl⟩
  have hqd : q = (k + 1) * py + px := by rw [← hpxe, ← hpye]; exact (Nat.div_add_mod q (k + 1)).symm
  rw [hpye] at hpy
  rw [hpxe] at hpx
  rw [hpxe, hpye]
  have e : painted v 0 k (k + 1) 6 k px py ↔ (px = k ∧ v / 2 ^ py % 2 = 1) := by
    unfold painted
    rw [Nat.sub_zero]
    constructor
    · rintro ⟨-, h2, -, h4, -⟩; exact ⟨by omega, h2⟩
    · rintro ⟨h1, h2⟩; exact ⟨by omega, h2, by omega, by omega, by omega⟩
  have hg : (grown (barP v c k h) k h (k + 1) h).getD i 0 = if px < k then (barP v c k h).getD (4 * (k * py + px) + r) 0 else 0 := by
    unfold grown
    rw [tab_get hi]
    unfold growF
    have d1 : i / (4 * (k + 1)) = py := by rw [← Nat.div_div_eq_div_mul, hq, hpye]
    have d2 : i % (4 * (k + 1)) = 4 * px + r := by
      have h9 := Nat.div_add_mod i (4 * (k + 1))
      rw [d1] at h9
      have h8 : 4 * (k + 1) * py = 4 * ((k + 1) * py) := Nat.mul_assoc _ _ _
      omega
    rw [d1, d2]
    by_cases h1 : px < k
    · rw [if_pos ⟨hpy, by omega⟩, if_pos h1]
      congr 1
      rw [Nat.mul_add, Nat.mul_assoc]; omega
    · rw [if_neg (by omega), if_neg h1]
  rw [hg]
  by_cases hp : px = k
  · by_cases hb : v / 2 ^ py % 2 = 1
    · rw [if_pos (e.2 ⟨hp, hb⟩), if_pos hb]
    · rw [if_neg (fun h => hb (e.1 h).2), if_neg (by omega), if_neg hb]
  · have hpk : px < k := by omega
    rw [if_neg (fun h => hp (e.1 h).1), if_pos hpk]
    unfold barP
    have hlt : 4 * (k * py + px) + r < 4 * k * h := by
      have h1 : k * (py + 1) ≤ k * h := Nat.mul_le_mul_left _ hpy
      rw [Nat.mul_add, Nat.mul_one] at h1
      rw [Nat.mul_assoc]; omega
    rw [tab_get hlt, show (4 * (k * py + px) + r) / 4 = k * py + px by omega, show (4 * (k * py + px) + r) % 4 = r by omega, Nat.mul_add_div (by omega), Nat.div_eq_of_lt hpk, Nat.add_zero]
/-- One sixel, k times, on a decoder that is new. -/
theorem hAt_x (v k : Nat) (hk : k < 16384) : ∀ j, hAt v 0 k j = hAt v 0 0 j
  | 0 => rfl
  | j + 1 => by
    unfold hAt
    rw [hAt_x v k hk j]
    have e : dotOn v 0 k j ↔ dotOn v 0 0 j := by unfold dotOn; constructor <;> (rintro ⟨h1, h2, h3⟩; exact ⟨h1, h2, by omega⟩)
    by_cases h : dotOn v 0 0 j
    · rw [if_pos h, if_pos (e.2 h)]
    · rw [if_neg h, if_neg (fun h2 => h (e.1 h2))]
theorem hAt_six (v j : Nat) : hAt v 0 0 j ≤ j := by
  induction j with
  | zero => exact Nat.le_refl _
  | succ j ih => unfold hAt; split <;> omega
/-- A decoder that holds one bar. -/
def Dec.bar (d : Dec) (v k h : Nat) (c : List Int) : Dec := if h = 0 then { d with x := (k : Int) } else { d with w := (k : Int), h := (h : Int), drawn := true, p := barP v c k h, x := (k : Int) }
theorem bar_start (d : Dec) (hx : d.x = 0) (hw : d.w = 0) (hh : d.h = 0) (hp : d.p = []) (hdr : d.drawn = false) (hm : d.most = 65536) (v k K : Nat) (hk : 1 ≤ k ∧ k ≤ 200) (c : List Int) (hc : [d.l.getD (3 * K) 0, d.l.getD (3 * K + 1) 0, d.l.getD (3 * K + 2) 0, 255] = c) :
    d.sixel v k 0 0 0 0 K = d.bar v k (hAt v 0 0 6) c := by
  have h6 := hAt_six v 6
  unfold Dec.sixel Dec.bar
  by_cases h0 : hAt v 0 0 6 = 0
  · rw [if_pos h0, if_pos h0]
    unfold Dec.sixelNew
    have e1 : wAt v 0 0 k 6 = 0 := by unfold wAt; rw [if_pos h0]
    have e2 : paint d.p 0 0 v 0 0 0 [d.l.getD (3 * K) 0, d.l.getD (3 * K + 1) 0, d.l.getD (3 * K + 2) 0, 255] = d.p := by rw [hp]; rfl
    rw [e1, e2, h0, hdr, show min (0 + k) 1048576 = k by omega]
    simp [← hdr]
  · rw [if_neg h0, if_neg h0]
    have e1 : wAt v 0 0 k 6 = k := by unfold wAt; rw [if_neg h0]; omega
    obtain ⟨h, hh'⟩ : ∃ h, hAt v 0 0 6 = h := ⟨_, rfl⟩
    rw [e1, hh', Nat.max_eq_left (Nat.zero_le _), Nat.max_eq_left (Nat.zero_le _)]
    rw [hh'] at h0 h6
    have hq : ((65536 : Int) / 4 / (h : Int)) = ((16384 / h : Nat) : Int) := by simp
    have hq2 : k ≤ 16384 / h := by rw [Nat.le_div_iff_mul_le (by omega)]; have : k * h ≤ 200 * 6 := Nat.mul_le_mul hk.2 h6; omega
    have g1 : growOk d 0 0 k h = true := by unfold growOk; rw [if_neg (by omega), hm, hq]; exact decide_eq_true (by omega)
    have g2 : d.grow 0 0 k h = { d with w := (k : Int), h := (h : Int), p := grown [] 0 0 k h } := by unfold Dec.grow; rw [if_neg (by omega), hm, hq, if_neg (by omega), hp]
    rw [g1, if_neg (by decide), g2]
    unfold Dec.sixelNew
    rw [e1, hc, hh', show min (0 + k) 1048576 = k by omega]
    have e3 : paint (grown [] 0 0 k h) k h v 0 0 k c = barP v c k h := bar_first v k h hk.1 h6 c
    show ({ d with w := (k : Int), h := (h : Int), drawn := d.drawn || decide (h ≠ 0), p := paint (grown [] 0 0 k h) k h v 0 0 k c, x := (k : Int) } : Dec) = _
    rw [e3, show (d.drawn || decide (h ≠ 0)) = true by simp [h0]]
theorem bar_step (d : Dec) (hm : d.most = 65536) (hw : d.w = 0) (hh : d.h = 0) (hp : d.p = []) (hdr : d.drawn = false) (v k K : Nat) (hk : 1 ≤ k ∧ k < 200) (c : List Int) (hc : [d.l.getD (3 * K) 0, d.l.getD (3 * K + 1) 0, d.l.getD (3 * K + 2) 0, 255] = c) {e : Dec} (he : d.bar v k (hAt v 0 0 6) c = e) :
    e.sixel v 1 k 0 e.w.toNat e.h.toNat K = d.bar v (k + 1) (hAt v 0 0 6) c := by
  have h6 := hAt_six v 6
  have hx := hAt_x v k (by omega) 6
  unfold Dec.bar at he ⊢
  by_cases h0 : hAt v 0 0 6 = 0
  · rw [if_pos h0] at he ⊢
    subst he
    unfold Dec.sixel
    rw [hx, if_pos h0]
    unfold Dec.sixelNew
    have e1 : wAt v 0 k 1 6 = 0 := by unfold wAt; rw [hx, if_pos h0]
    rw [hx, h0, e1]
    show ({ d with x := _, drawn := d.drawn || decide (0 ≠ 0), p := paint d.p d.w.toNat d.h.toNat v 0 k 0 _ } : Dec) = _
    rw [hw, hh, hp, hdr, show min (k + 1) 1048576 = k + 1 from Nat.min_eq_left (by omega)]
    have e2 : ∀ c : List Int, paint [] (0 : Int).toNat (0 : Int).toNat v 0 k 0 c = [] := fun c => rfl
    rw [e2]
    simp [hp, hdr]
  · rw [if_neg h0] at he ⊢
    obtain ⟨h, hh'⟩ : ∃ h, hAt v 0 0 6 = h := ⟨_, rfl⟩
    rw [hh'] at h0 h6 he hx ⊢
    have ew : e.w = (k : Int) := by rw [← he]
    have eh : e.h = (h : Int) := by rw [← he]
    have em : e.most = 65536 := by rw [← he]; exact hm
    have ep : e.p = barP v c k h := by rw [← he]
    have el : e.l = d.l := by rw [← he]
    unfold Dec.sixel
    have e1 : wAt v 0 k 1 6 = k + 1 := by unfold wAt; rw [hx, if_neg h0]; exact Nat.min_eq_left (by omega)
    rw [ew, eh, Int.toNat_natCast, Int.toNat_natCast, hx, if_neg h0, e1, Nat.max_eq_left (by omega : k ≤ k + 1), Nat.max_self]
    have hq : ((65536 : Int) / 4 / (h : Int)) = ((16384 / h : Nat) : Int) := by simp
    have hq2 : k + 1 ≤ 16384 / h := by rw [Nat.le_div_iff_mul_le (by omega)]; have : (k + 1) * h ≤ 200 * 6 := Nat.mul_le_mul (by omega) h6; omega
    have g1 : growOk e k h (k + 1) h = true := by unfold growOk; rw [if_neg (by omega), em, hq]; exact decide_eq_true (by omega)
    have g2 : e.grow k h (k + 1) h = { e with w := ((k + 1 : Nat) : Int), h := (h : Int), p := grown (barP v c k h) k h (k + 1) h } := by unfold Dec.grow; rw [if_neg (by omega), em, hq, if_neg (by omega), ep]
    rw [g1, if_neg (by decide), g2]
    unfold Dec.sixelNew
    have hce : [e.l.getD (3 * K) 0, e.l.getD (3 * K + 1) 0, e.l.getD (3 * K + 2) 0, 255] = c := by rw [el]; exact hc
    rw [e1, hx, hce, show min (k + 1) 1048576 = k + 1 from Nat.min_eq_left (by omega)]
    have e3 : paint (grown (barP v c k h) k h (k + 1) h) (k + 1) h v 0 k (k + 1) c = barP v c (k + 1) h := bar_next v k h hk.1 h6 c
    show ({ e with w := ((k + 1 : Nat) : Int), h := (h : Int), drawn := e.drawn || decide (h ≠ 0), p := paint (grown (barP v c k h) k h (k + 1) h) (k + 1) h v 0 k (k + 1) c, x := ((k + 1 : Nat) : Int) } : Dec) = _
    rw [e3, show (e.drawn || decide (h ≠ 0)) = true by simp [h0], ← he]
/-- The law: written once with a number, or so often. -/
theorem rep_sim (n v : Nat) (hn : 1 ≤ n ∧ n ≤ 200) (hv : v < 64) : Sim ((Dec.new true 65536 256).feed (List.replicate n (63 + v))) (((Dec.new true 65536 256).feed (33 :: digs n)).feed [63 + v]) := by
  obtain ⟨D, hD⟩ : ∃ D, Dec.new true 65536 256 = D := ⟨_, rfl⟩
  obtain ⟨R, hR⟩ : ∃ R, regs 256 = R := ⟨_, rfl⟩
  have hnew : D = ⟨true, 65536, R, 0, 0, 0, 0, 0, [], false, false, false, false, 0, [], 0, 0⟩ := by rw [← hD]; unfold Dec.new; rw [hR]
  rw [hD]
  clear hD hR
  have k1 : D.x = 0 := by rw [hnew]
  have k2 : D.y = 0 := by rw [hnew]
  have k3 : D.w = 0 := by rw [hnew]
  have k4 : D.h = 0 := by rw [hnew]
  have k5 : D.rep = 0 := by rw [hnew]
  have k6 : D.now = 0 := by rw [hnew]
  have k7 : D.most = 65536 := by rw [hnew]
  have k8 : D.cmd = 0 := by rw [hnew]
  have k9 : D.p = [] := by rw [hnew]
  have k10 : D.full = false := by rw [hnew]
  have k11 : D.over = false := by rw [hnew]
  have k12 : D.drawn = false := by rw [hnew]
  have k13 : ({ D with rep := 0 } : Dec) = D := by rw [hnew]
  obtain ⟨c, hc⟩ : ∃ c, [D.l.getD (3 * 0) 0, D.l.getD (3 * 0 + 1) 0, D.l.getD (3 * 0 + 2) 0, 255] = c := ⟨_, rfl⟩
  obtain ⟨h, hh⟩ : ∃ h, hAt v 0 0 6 = h := ⟨_, rfl⟩
  -- the sign written so often
  have key : ∀ k, 1 ≤ k → k ≤ n → D.feed (List.replicate k (63 + v)) = D.bar v k h c := by
    intro k
    induction k with
    | zero => intro h; omega
    | succ k ih =>
      intro _ hkn
      rw [List.replicate_succ', feed_append, feed_cons, feed_nil]
      by_cases hk0 : k = 0
      · subst hk0
        show D.byte (63 + v) = _
        rw [byte_of (by omega) k10 k11, sig_plain k8]
        unfold Dec.plainSign
        rw [if_pos (by omega), k13, k1, k2, k3, k4, k5, k6, show 63 + v - 63 = v by omega]
        have h9 := bar_start D k1 k3 k4 k9 k12 k7 v 1 0 (by omega) c hc
        rw [hh] at h9
        exact h9
      · rw [ih (by omega) (by omega)]
        obtain ⟨E, hE⟩ : ∃ E, D.bar v k h c = E := ⟨_, rfl⟩
        have m1 : E.x = (k : Int) := by rw [← hE]; unfold Dec.bar; split <;> rfl
        have m2 : E.y = 0 := by rw [← hE]; unfold Dec.bar; split <;> exact k2
        have m5 : E.rep = 0 := by rw [← hE]; unfold Dec.bar; split <;> exact k5
        have m6 : E.now = 0 := by rw [← hE]; unfold Dec.bar; split <;> exact k6
        have m8 : E.cmd = 0 := by rw [← hE]; unfold Dec.bar; split <;> exact k8
        have m10 : E.full = false := by rw [← hE]; unfold Dec.bar; split <;> exact k10
        have m11 : E.over = false := by rw [← hE]; unfold Dec.bar; split <;> exact k11
        have m13 : ({ E with rep := 0 } : Dec) = E := by cases E; simp only at m5; rw [m5]
        have h9 := bar_step D k7 k3 k4 k9 k12 v k 0 (by omega) c hc (e := E) (by rw [hh]; exact hE)
        rw [hh] at h9
        rw [hE, byte_of (by omega) m10 m11, sig_plain m8]
        unfold Dec.plainSign
        rw [if_pos (by omega), m13, m1, m2, m5, m6, show 63 + v - 63 = v by omega, Int.toNat_natCast]
        exact h9
  rw [key n hn.1 (Nat.le_refl _)]
  -- the sign with a number
  rw [feed_cmd D 33 (by omega) k8 k10 k11]
  have hdg := feed_digs D 33 (by omega) [] k10 k11 n
  rw [Nat.min_eq_left (by omega : n ≤ 65535)] at hdg
  rw [hdg]
  have hdn : (D.at 33 [] (n : Int)).done (D.at 33 [] (n : Int)).w.toNat (D.at 33 [] (n : Int)).h.toNat = { D with rep := (n : Int), cmd := 0, n := [(n : Int)], v := 0 } := by
    unfold Dec.done
    rw [at_cmd, if_neg (show ¬ ((33 : Nat) : Int) = 0 by decide), if_pos (show ((33 : Nat) : Int) = 33 from rfl)]
    show ({ D with rep := max (n : Int) 1, cmd := 0, n := [(n : Int)], v := 0 } : Dec) = _
    rw [show max (n : Int) 1 = (n : Int) by omega]
  rw [feed_ends (D.at 33 [] (n : Int)) (show ¬ ((33 : Nat) : Int) = 0 by decide) k10 k11 (63 + v) (by omega) (by omega) (by omega) [] hdn k10, feed_nil]
  unfold Dec.plainSign
  rw [if_pos (by omega)]
  show Sim (D.bar v n h c) (({ D with rep := 0, cmd := 0, n := [(n : Int)], v := 0 } : Dec).sixel (63 + v - 63) (max (n : Int) 1).toNat D.x.toNat D.y.toNat D.w.toNat D.h.toNat D.now.toNat)
  have e0 : ({ D with rep := 0, cmd := 0, n := [(n : Int)], v := 0 } : Dec) = D.other [(n : Int)] 0 := by rw [hnew]; rfl
  rw [e0, sixel_other, k1, k2, k3, k4, k6, show 63 + v - 63 = v by omega, show (max (n : Int) 1).toNat = n by omega]
  have h9 := bar_start D k1 k3 k4 k9 k12 k7 v n 0 hn c hc
  rw [hh] at h9
  have h10 : D.sixel v n (0 : Int).toNat (0 : Int).toNat (0 : Int).toNat (0 : Int).toNat (0 : Int).toNat = D.bar v n h c := h9
  rw [h10]
  right
  refine ⟨?_, _, _, rfl⟩
  unfold Dec.bar
  split <;> exact k8
end Go.Proofs.Ytomcjdonacckfaa
