/- An image of dots in plain Lean: its sixels, what a decoder makes of them. -/
import Derived.Test.YtomcjdonacckfaaRepP
namespace Go.Proofs.Ytomcjdonacckfaa
set_option linter.unusedVariables false
set_option linter.unusedSimpArgs false
/-- The bits of one sixel: k dots down from (x, y). -/
def vAt (on : Nat → Bool) (w h y x : Nat) : Nat → Nat
  | 0 => 0
  | k + 1 => vAt on w h y x k + (if y + k < h ∧ on ((y + k) * w + x) = true then 2 ^ k else 0)
theorem vAt_lt (on : Nat → Bool) (w h y x k : Nat) : vAt on w h y x k < 2 ^ k := by
  induction k with
  | zero => exact Nat.one_pos
  | succ k ih => rw [vAt, Nat.pow_succ]; split <;> omega
theorem vAt_bit (on : Nat → Bool) (w h y x k j : Nat) (hj : j < k) : vAt on w h y x k / 2 ^ j % 2 = 1 ↔ (y + j < h ∧ on ((y + j) * w + x) = true) := by
  induction k with
  | zero => omega
  | succ k ih =>
    have hlt := vAt_lt on w h y x k
    rw [vAt]
    by_cases hjk : j = k
    · subst hjk
      split
      · rename_i hc
        rw [Nat.add_div_right _ (Nat.two_pow_pos j), Nat.div_eq_of_lt hlt]
        exact ⟨fun _ => hc, fun _ => rfl⟩
      · rename_i hc
        rw [Nat.add_zero, Nat.div_eq_of_lt hlt]
        exact ⟨fun h => by omega, fun h => absurd h hc⟩
    · rw [← ih (by omega)]
      split
      · have e : 2 ^ k = 2 ^ j * (2 * 2 ^ (k - j - 1)) := by rw [← Nat.pow_succ', ← Nat.pow_add]; congr 1; omega
        rw [e, Nat.add_mul_div_left _ _ (Nat.two_pow_pos j)]
        omega
      · rw [Nat.add_zero]
theorem vAt_stop (on : Nat → Bool) (w h y x k : Nat) (hk : h ≤ y + k) (d : Nat) : vAt on w h y x (k + d) = vAt on w h y x k := by
  induction d with
  | zero => rfl
  | succ d ih => rw [← Nat.add_assoc, vAt, if_neg (by omega), ih, Nat.add_zero]
/-- The signs of a row of sixels, of x of them. -/
def rowT (on : Nat → Bool) (w h b : Nat) : Nat → List Nat
  | 0 => []
  | x + 1 => rowT on w h b x ++ [63 + vAt on w h (6 * b) x 6]
def bandT (on : Nat → Bool) (w h : Nat) : Nat → List Nat
  | 0 => []
  | b + 1 => bandT on w h b ++ rowT on w h b w ++ [45]
/-- The picture when b rows of sixels are done, and x sixels of the next one. -/
def imgF (on : Nat → Bool) (w b x : Nat) (c : List Int) (i : Nat) : Int := if on (i / 4) = true ∧ (i / 4 / w / 6 < b ∨ (i / 4 / w / 6 = b ∧ i / 4 % w < x)) then c.getD (i % 4) 0 else 0
structure Img (on : Nat → Bool) (W0 H0 : Nat) (L c : List Int) (b X0 : Nat) (d : Dec) : Prop where
  w : d.w = (W0 : Int)
  h : d.h = (H0 : Int)
  x : d.x = (X0 : Int)
  y : d.y = ((6 * b : Nat) : Int)
  p : d.p = tab (4 * W0 * H0) (imgF on W0 b X0 c)
  cmd : d.cmd = 0
  full : d.full = false
  over : d.over = false
  rep : d.rep = 0
  now : d.now = 1
  l : d.l = L
  clear : d.clear = true
theorem hAt_le_h (on : Nat → Bool) (w h y x X : Nat) : ∀ k, k ≤ 6 → hAt (vAt on w h y x 6) y X k ≤ h
  | 0, _ => Nat.zero_le _
  | k + 1, hk => by
    unfold hAt
    split
    · rename_i hd
      have := (vAt_bit on w h y x 6 k (by omega)).1 hd.1
      omega
    · exact hAt_le_h on w h y x X k (by omega)
theorem img_step {on : Nat → Bool} {w h : Nat} {L c : List Int} {b x : Nat} {d : Dec} (hd : Img on w h L c b x d) (hx : x < w) (hw : w ≤ 40) (hh : h ≤ 40) (hb : 6 * b < h) (hc : [L.getD 3 0, L.getD 4 0, L.getD 5 0, 255] = c) :
    Img on w h L c b (x + 1) (d.byte (63 + vAt on w h (6 * b) x 6)) := by
  have hv := vAt_lt on w h (6 * b) x 6
  have hbit := fun j hj => vAt_bit on w h (6 * b) x 6 j hj
  have hhh := hAt_le_h on w h (6 * b) x x 6 (Nat.le_refl _)
  obtain ⟨v, hve⟩ : ∃ v, vAt on w h (6 * b) x 6 = v := ⟨_, rfl⟩
  rw [hve] at hv hbit hhh ⊢
  have hv64 : v < 64 := hv
  rw [byte_of (by omega) hd.full hd.over, sig_plain hd.cmd]
  unfold Dec.plainSign
  have hrep : ({ d with rep := 0 } : Dec) = d := by have h9 := hd.rep; cases d; simp only at h9; rw [h9]
  rw [if_pos (by omega), hrep, hd.x, hd.y, hd.w, hd.h, hd.rep, hd.now, show 63 + v - 63 = v by omega]
  rw [Int.toNat_natCast, Int.toNat_natCast, Int.toNat_natCast, Int.toNat_natCast, show (max (0 : Int) 1).toNat = 1 by decide, show (1 : Int).toNat = 1 by decide]
  have hcL : [d.l.getD (3 * 1) 0, d.l.getD (3 * 1 + 1) 0, d.l.getD (3 * 1 + 2) 0, 255] = c := by rw [hd.l]; exact hc
  -- the picture
  have hpic : ∀ wN, (wN = x + 1 ∨ (wN = 0 ∧ v = 0)) → paint d.p w h v (6 * b) x wN c = tab (4 * w * h) (imgF on w b (x + 1) c) := by
    intro wN hwN
    unfold paint
    refine tab_ext fun i hi => ?_
    unfold paintF
    rw [hd.p, tab_get hi]
    unfold imgF
    have hpy : i / 4 / w < h := by
      rw [Nat.div_div_eq_div_mul, Nat.div_lt_iff_lt_mul (by omega), Nat.mul_comm]; exact hi
    have hpx : i / 4 % w < w := Nat.mod_lt _ (by omega)
    obtain ⟨q, hq⟩ : ∃ q, i / 4 = q := ⟨_, rfl⟩
    rw [hq] at hpy hpx ⊢
    have hqd := Nat.div_add_mod q w
    obtain ⟨px, hpxe⟩ : ∃ px, q % w = px := ⟨_, rfl⟩
    obtain ⟨py, hpye⟩ : ∃ py, q / w = py := ⟨_, rfl⟩
    rw [hpye] at hpy
    rw [hpxe] at hpx
    rw [hpxe, hpye] at hqd ⊢
    by_cases hin : px = x ∧ py / 6 = b
    · obtain ⟨rfl, hpb⟩ := hin
      have hbj := hbit (py - 6 * b) (by omega)
      rw [show 6 * b + (py - 6 * b) = py by omega, show py * w + px = q by rw [Nat.mul_comm]; exact hqd] at hbj
      by_cases hon : on q = true
      · have h1 := hbj.2 ⟨hpy, hon⟩
        have hv0 : v ≠ 0 := by intro h0; rw [h0, Nat.zero_div] at h1; omega
        have hwx : wN = px + 1 := by rcases hwN with h | h; exact h; exact absurd h.2 hv0
        have e : painted v (6 * b) px wN 6 px px py := by
          unfold painted
          exact ⟨by omega, h1, by omega, by omega, by omega⟩
        rw [if_pos e, if_pos ⟨hon, by omega⟩]
      · have e : ¬ painted v (6 * b) px wN 6 px px py := by
          unfold painted
          rintro ⟨-, h2, -⟩
          exact hon (hbj.1 h2).2
        rw [if_neg e, if_neg (fun h => hon h.1), if_neg (fun h => hon h.1)]
    · have e : ¬ painted v (6 * b) x wN 6 x px py := by
        unfold painted
        rintro ⟨h1, h2, h3, h4, h5⟩
        apply hin
        rcases hwN with h | h
        · omega
        · omega
      rw [if_neg e]
      by_cases h1 : on q = true ∧ (py / 6 < b ∨ (py / 6 = b ∧ px < x))
      · rw [if_pos h1, if_pos ⟨h1.1, by omega⟩]
      · rw [if_neg h1, if_neg (fun h2 => h1 ⟨h2.1, by omega⟩)]
  unfold Dec.sixel
  by_cases h0 : hAt v (6 * b) x 6 = 0
  · rw [if_pos h0]
    have hv0 : v = 0 := by
      refine Nat.eq_of_testBit_eq fun j => ?_
      rw [Nat.zero_testBit]
      by_cases hj : j < 6
      · cases ht : v.testBit j with
        | false => rfl
        | true =>
          rw [Nat.testBit_eq_decide_div_mod_eq] at ht
          have h1 := of_decide_eq_true ht
          have := dot_in (v := v) (Y := 6 * b) (X := x) (k := j) ⟨h1, by omega, by omega⟩ hj
          omega
      · exact Nat.testBit_lt_two_pow (Nat.lt_of_lt_of_le hv (Nat.pow_le_pow_right (by omega) (by omega)))
    unfold Dec.sixelNew
    have e1 : wAt v (6 * b) x 1 6 = 0 := by unfold wAt; rw [if_pos h0]
    rw [e1, hcL]
    exact ⟨hd.w, hd.h, by show ((min (x + 1) 1048576 : Nat) : Int) = _; rw [Nat.min_eq_left (by omega)], hd.y, hpic 0 (.inr ⟨rfl, hv0⟩), hd.cmd, hd.full, hd.over, hd.rep, hd.now, hd.l, hd.clear⟩
  · rw [if_neg h0]
    have e1 : wAt v (6 * b) x 1 6 = x + 1 := by unfold wAt; rw [if_neg h0]; exact Nat.min_eq_left (by omega)
    rw [e1, Nat.max_eq_right (by omega : x + 1 ≤ w), Nat.max_eq_right hhh]
    have g1 : growOk d w h w h = true := by unfold growOk; rw [if_pos ⟨rfl, rfl⟩]
    have g2 : d.grow w h w h = d := by unfold Dec.grow; rw [if_pos ⟨rfl, rfl⟩]
    rw [g1, if_neg (by decide), g2]
    unfold Dec.sixelNew
    rw [e1, hcL]
    exact ⟨hd.w, hd.h, by show ((min (x + 1) 1048576 : Nat) : Int) = _; rw [Nat.min_eq_left (by omega)], hd.y, hpic (x + 1) (.inl rfl), hd.cmd, hd.full, hd.over, hd.rep, hd.now, hd.l, hd.clear⟩
theorem img_minus {on : Nat → Bool} {w h : Nat} {L c : List Int} {b : Nat} {d : Dec} (hd : Img on w h L c b w d) (hw : 1 ≤ w ∧ w ≤ 40) (hh : h ≤ 40) (hb : 6 * b < h) : Img on w h L c (b + 1) 0 (d.byte 45) := by
  rw [byte_of (by omega) hd.full hd.over, sig_plain hd.cmd]
  unfold Dec.plainSign
  rw [if_neg (by omega), if_neg (by omega), if_pos rfl]
  refine ⟨hd.w, hd.h, rfl, ?_, ?_, hd.cmd, hd.full, hd.over, rfl, hd.now, hd.l, hd.clear⟩
  · show min (d.y + 6) 1048576 = _
    rw [hd.y]; omega
  · show d.p = _
    rw [hd.p]
    refine tab_ext fun i hi => ?_
    unfold imgF
    have hpx : i / 4 % w < w := Nat.mod_lt _ (by omega)
    by_cases h1 : on (i / 4) = true ∧ (i / 4 / w / 6 < b ∨ (i / 4 / w / 6 = b ∧ i / 4 % w < w))
    · rw [if_pos h1, if_pos ⟨h1.1, by omega⟩]
    · rw [if_neg h1, if_neg (fun h2 => h1 ⟨h2.1, by omega⟩)]
theorem img_row {on : Nat → Bool} {w h : Nat} {L c : List Int} {b : Nat} {d : Dec} (hd : Img on w h L c b 0 d) (hw : 1 ≤ w ∧ w ≤ 40) (hh : h ≤ 40) (hb : 6 * b < h) (hc : [L.getD 3 0, L.getD 4 0, L.getD 5 0, 255] = c) (x : Nat) (hx : x ≤ w) :
    Img on w h L c b x (d.feed (rowT on w h b x)) := by
  induction x with
  | zero => exact hd
  | succ x ih =>
    rw [rowT, feed_append, feed_cons, feed_nil]
    exact img_step (ih (by omega)) (by omega) hw.2 hh hb hc
theorem img_bands {on : Nat → Bool} {w h : Nat} {L c : List Int} {d : Dec} (hd : Img on w h L c 0 0 d) (hw : 1 ≤ w ∧ w ≤ 40) (hh : h ≤ 40) (hc : [L.getD 3 0, L.getD 4 0, L.getD 5 0, 255] = c) (b : Nat) (hb : 6 * b < h + 6) :
    Img on w h L c b 0 (d.feed (bandT on w h b)) := by
  induction b with
  | zero => exact hd
  | succ b ih =>
    rw [bandT, feed_append, feed_append, feed_cons, feed_nil]
    exact img_minus (img_row (ih (by omega)) hw hh (by omega) hc w (Nat.le_refl _)) hw hh (by omega)
/-- The signs of the whole image. -/
def imgSigns (on : Nat → Bool) (w h red B : Nat) : List Nat := sizeSigns 1 1 w h ++ (35 :: (digs 1 ++ 59 :: (digs 2 ++ 59 :: (digs red ++ 59 :: (digs 0 ++ 59 :: (digs 0 ++ bandT on w h B))))))
theorem bandT_head (on : Nat → Bool) (w h B : Nat) (hw : 1 ≤ w) (hB : 1 ≤ B) : ∃ v x, v < 64 ∧ bandT on w h B = (63 + v) :: x := by
  have hrow : ∀ b x, 1 ≤ x → ∃ v t, v < 64 ∧ rowT on w h b x = (63 + v) :: t := by
    intro b x
    induction x with
    | zero => intro h; omega
    | succ x ih =>
      intro _
      rw [rowT]
      by_cases h0 : x = 0
      · subst h0
        exact ⟨vAt on w h (6 * b) 0 6, [], vAt_lt _ _ _ _ _ _, rfl⟩
      · obtain ⟨v, t, h1, h2⟩ := ih (by omega)
        exact ⟨v, _, h1, by rw [h2]; rfl⟩
  induction B with
  | zero => omega
  | succ B ih =>
    rw [bandT]
    by_cases h0 : B = 0
    · subst h0
      obtain ⟨v, t, h1, h2⟩ := hrow 0 w hw
      exact ⟨v, _, h1, by rw [h2]; rfl⟩
    · obtain ⟨v, x, h1, h2⟩ := ih (by omega)
      exact ⟨v, _, h1, by rw [h2]; rfl⟩
theorem img_feed (on : Nat → Bool) (w h red B : Nat) (hw : 1 ≤ w ∧ w ≤ 40) (hh : 1 ≤ h ∧ h ≤ 40) (hr : 1 ≤ red ∧ red ≤ 100) (hB1 : h ≤ 6 * B) (hB2 : 6 * B < h + 6) {d : Dec} (hd : (Dec.new true ((4 * w * h : Nat) : Int) 256).feed (imgSigns on w h red B) = d) :
    d.full = false ∧ d.fin.e = 0 ∧ d.fin.w = (w : Int) ∧ d.fin.h = (h : Int) ∧ d.fin.p = tab (4 * w * h) (fun i => if on (i / 4) = true then [pct red, 0, 0, 255].getD (i % 4) 0 else 0) := by
  obtain ⟨R, hR⟩ : ∃ R, regs 256 = R := ⟨_, rfl⟩
  have hRl : R.length = 768 := by rw [← hR]; exact regs_length 256
  obtain ⟨M, hM⟩ : ∃ M : Nat, 4 * w * h = M := ⟨_, rfl⟩
  obtain ⟨D, hD⟩ : ∃ D, Dec.new true (M : Int) 256 = D := ⟨_, rfl⟩
  have hnew : D = ⟨true, (M : Int), R, 0, 0, 0, 0, 0, [], false, false, false, false, 0, [], 0, 0⟩ := by rw [← hD]; unfold Dec.new; rw [hR]
  rw [hM, hD] at hd
  have k8 : D.cmd = 0 := by rw [hnew]
  have k10 : D.full = false := by rw [hnew]
  have k11 : D.over = false := by rw [hnew]
  unfold imgSigns at hd
  rw [feed_size D 1 1 w h k8 k10 k11 (by omega) (by omega) (by omega) (by omega)] at hd
  -- the size
  obtain ⟨E, hE⟩ : ∃ E : Dec, (⟨true, (M : Int), R, 0, 0, 0, (w : Int), (h : Int), grown [] 0 0 w h, false, false, false, false, 0, [((1 : Nat) : Int), ((1 : Nat) : Int), (w : Int), (h : Int)], 0, 0⟩ : Dec) = E := ⟨_, rfl⟩
  have hdn : (D.at 34 [((1 : Nat) : Int), ((1 : Nat) : Int), (w : Int)] (h : Int)).done (D.at 34 [((1 : Nat) : Int), ((1 : Nat) : Int), (w : Int)] (h : Int)).w.toNat (D.at 34 [((1 : Nat) : Int), ((1 : Nat) : Int), (w : Int)] (h : Int)).h.toNat = E := by
    rw [done_size_eq D 1 1 w h (by rw [hnew]) (by rw [hnew]) (by omega) (by omega)]
    rw [show (D.at 34 [((1 : Nat) : Int), ((1 : Nat) : Int), (w : Int)] (h : Int)).w.toNat = 0 by rw [hnew]; rfl, show (D.at 34 [((1 : Nat) : Int), ((1 : Nat) : Int), (w : Int)] (h : Int)).h.toNat = 0 by rw [hnew]; rfl, Nat.max_eq_left (Nat.zero_le _), Nat.max_eq_left (Nat.zero_le _)]
    unfold Dec.grow
    rw [if_neg (by omega)]
    have hmost : ({ D with rep := 0, cmd := 0, n := [((1 : Nat) : Int), ((1 : Nat) : Int), (w : Int), (h : Int)], v := 0 } : Dec).most = (M : Int) := by rw [hnew]
    have hq : (M : Int) / 4 / (h : Int) = (w : Int) := by
      have e : M / 4 / h = w := by rw [← hM, Nat.mul_assoc, Nat.mul_div_cancel_left _ (by omega), Nat.mul_div_cancel _ (by omega)]
      rw [← e]; simp
    rw [hmost, hq, if_neg (by omega), ← hE, hnew]
  have kE8 : E.full = false := by rw [← hE]
  have kE9 : E.over = false := by rw [← hE]
  have kE10 : E.cmd = 0 := by rw [← hE]
  rw [feed_ends (D.at 34 [((1 : Nat) : Int), ((1 : Nat) : Int), (w : Int)] (h : Int)) (show ¬ ((34 : Nat) : Int) = 0 by decide) k10 k11 35 (by omega) (by omega) (by omega) _ hdn kE8] at hd
  have hps : E.plainSign 35 = E.at 35 [] 0 := by unfold Dec.plainSign; rw [if_neg (by omega), if_pos (by omega)]; rfl
  rw [hps] at hd
  rw [feed_part E 35 (by omega) [] [((1 : Nat) : Int)] (by simp) kE8 kE9 1 (by omega) rfl, feed_part E 35 (by omega) _ [((1 : Nat) : Int), ((2 : Nat) : Int)] (by simp) kE8 kE9 2 (by omega) rfl, feed_part E 35 (by omega) _ [((1 : Nat) : Int), ((2 : Nat) : Int), (red : Int)] (by simp) kE8 kE9 red (by omega) rfl,
    feed_part E 35 (by omega) _ [((1 : Nat) : Int), ((2 : Nat) : Int), (red : Int), ((0 : Nat) : Int)] (by simp) kE8 kE9 0 (by omega) rfl, feed_num E 35 (by omega) _ kE8 kE9 0 (by omega)] at hd
  -- the colour
  have p1 : pctOk red = true := decide_eq_true (by omega)
  have p0 : pct 0 = 0 := by decide
  have p2 : pctOk 0 = true := by decide
  obtain ⟨L, hL⟩ : ∃ L, setReg R 1 [pct red, 0, 0] = L := ⟨_, rfl⟩
  obtain ⟨F, hF⟩ : ∃ F : Dec, (⟨true, (M : Int), L, 1, 0, 0, (w : Int), (h : Int), grown [] 0 0 w h, false, false, false, false, 0, [1, 2, (red : Int), 0, 0], 0, 0⟩ : Dec) = F := ⟨_, rfl⟩
  have hdc : (E.at 35 [((1 : Nat) : Int), ((2 : Nat) : Int), (red : Int), ((0 : Nat) : Int)] ((0 : Nat) : Int)).done (E.at 35 [((1 : Nat) : Int), ((2 : Nat) : Int), (red : Int), ((0 : Nat) : Int)] ((0 : Nat) : Int)).w.toNat (E.at 35 [((1 : Nat) : Int), ((2 : Nat) : Int), (red : Int), ((0 : Nat) : Int)] ((0 : Nat) : Int)).h.toNat = F := by
    rw [done_color_eq _ _ _ (by simp)]
    obtain ⟨U, hU⟩ : ∃ U : Dec, ({ E with rep := 0, cmd := 0, n := [((1 : Nat) : Int), ((2 : Nat) : Int), (red : Int), ((0 : Nat) : Int)] ++ [((0 : Nat) : Int)], v := 0 } : Dec) = U := ⟨_, rfl⟩
    rw [hU]
    have n0 : U.n.getD 0 0 = 1 := by rw [← hU]; rfl
    have n1 : U.n.getD 1 0 = 2 := by rw [← hU]; rfl
    have n2 : U.n.getD 2 0 = (red : Int) := by rw [← hU]; rfl
    have n3 : U.n.getD 3 0 = 0 := by rw [← hU]; rfl
    have n4 : U.n.getD 4 0 = 0 := by rw [← hU]; rfl
    have nl : U.n.length = 5 := by rw [← hU]; rfl
    have hc : colOf U = ([pct red, 0, 0], true) := by
      unfold colOf
      rw [n1, n2, n3, n4, p1, p2, p0, if_neg (by decide), if_pos rfl]
      rfl
    unfold Dec.color
    rw [n0, nl, hc, if_neg (by omega), if_neg (by rintro (h | h); omega; cases h), show (1 : Int).toNat = 1 from rfl]
    show ({ U with now := 1, l := setReg U.l 1 [pct red, 0, 0] } : Dec) = _
    rw [← hF, ← hL, ← hU, ← hE]
    rfl
  have kF8 : F.full = false := by rw [← hF]
  have kF9 : F.over = false := by rw [← hF]
  have kF10 : F.cmd = 0 := by rw [← hF]
  obtain ⟨v0, t0, hv0, hbt⟩ := bandT_head on w h B hw.1 (by omega)
  rw [hbt, feed_ends (E.at 35 [((1 : Nat) : Int), ((2 : Nat) : Int), (red : Int), ((0 : Nat) : Int)] ((0 : Nat) : Int)) (show ¬ ((35 : Nat) : Int) = 0 by decide) kE8 kE9 (63 + v0) (by omega) (by omega) (by omega) _ hdc kF8] at hd
  have hd2 : F.feed (bandT on w h B) = d := by
    rw [hbt, feed_cons, byte_of (by omega) kF8 kF9, sig_plain kF10]; exact hd
  have q0 : L.getD 3 0 = pct red := by rw [← hL]; unfold setReg; simp [List.getElem?_set, hRl]
  have q1 : L.getD 4 0 = 0 := by rw [← hL]; unfold setReg; simp [List.getElem?_set, hRl]
  have q2 : L.getD 5 0 = 0 := by rw [← hL]; unfold setReg; simp [List.getElem?_set, hRl]
  have hI0 : Img on w h L [pct red, 0, 0, 255] 0 0 F := by
    refine ⟨by rw [← hF], by rw [← hF], by rw [← hF]; rfl, by rw [← hF]; rfl, ?_, kF10, kF8, kF9, by rw [← hF], by rw [← hF], by rw [← hF], by rw [← hF]⟩
    have ep : F.p = grown [] 0 0 w h := by rw [← hF]
    rw [ep]
    unfold grown
    refine tab_ext fun i hi => ?_
    unfold growF imgF
    rw [if_neg (fun h => Nat.not_lt_zero _ h.1), if_neg (fun h => h.2.elim (Nat.not_lt_zero _) (fun h => Nat.not_lt_zero _ h.2))]
  have hI := img_bands hI0 hw hh.2 (by rw [q0, q1, q2]) B hB2
  rw [hd2] at hI
  have f1 : d.fin1 = d := by unfold Dec.fin1; rw [if_pos ⟨hI.full, hI.over⟩]; unfold Dec.done; rw [if_pos hI.cmd]
  rw [fin_main f1 hI.full (by rw [hI.w]; omega) hI.over, if_pos hI.clear]
  refine ⟨hI.full, rfl, hI.w, hI.h, ?_⟩
  show d.p = _
  rw [hI.p]
  refine tab_ext fun i hi => ?_
  unfold imgF
  have hpy : i / 4 / w < h := by
    rw [Nat.div_div_eq_div_mul, Nat.div_lt_iff_lt_mul (by omega), Nat.mul_comm]; exact hi
  by_cases hon : on (i / 4) = true
  · rw [if_pos ⟨hon, by omega⟩, if_pos hon]
  · rw [if_neg (fun h => hon h.1), if_neg hon]
end Go.Proofs.Ytomcjdonacckfaa
