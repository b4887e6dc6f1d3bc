/- What the laws' images come to, in plain Lean: a size that is asked for, a register that is set. -/
import Derived.Test.YtomcjdonacckfaaEndD
import Derived.Test.YtomcjdonacckfaaFeedP
namespace Go.Proofs.Ytomcjdonacckfaa
set_option linter.unusedVariables false
set_option linter.unusedSimpArgs false
/-- The signs that ask for a size. -/
def sizeSigns (a b w h : Nat) : List Nat := 34 :: (digs a ++ 59 :: (digs b ++ 59 :: (digs w ++ 59 :: digs h)))
theorem feed_size (d : Dec) (a b w h : Nat) (h0 : d.cmd = 0) (hf : d.full = false) (ho : d.over = false) (ha : a ≤ 65535) (hb : b ≤ 65535) (hw : w ≤ 65535) (hh : h ≤ 65535) (x : List Nat) :
    d.feed (sizeSigns a b w h ++ x) = (d.at 34 [(a : Int), (b : Int), (w : Int)] (h : Int)).feed x := by
  unfold sizeSigns
  simp only [List.append_assoc, List.cons_append]
  rw [feed_cmd d 34 (by omega) h0 hf ho, feed_part d 34 (by omega) [] [(a : Int)] (by simp) hf ho a ha rfl, feed_part d 34 (by omega) _ [(a : Int), (b : Int)] (by simp) hf ho b hb rfl, feed_part d 34 (by omega) _ [(a : Int), (b : Int), (w : Int)] (by simp) hf ho w hw rfl, feed_num d 34 (by omega) _ hf ho h hh]
/-- The size that is asked for is done. -/
theorem done_size_eq (d : Dec) (a b w h : Nat) (hdr : d.drawn = false) (hdn : d.down = false) (hw : 1 ≤ w ∧ w ≤ 16384) (hh : 1 ≤ h ∧ h ≤ 16384) (W0 H0 : Nat) :
    (d.at 34 [(a : Int), (b : Int), (w : Int)] (h : Int)).done W0 H0 = ({ d with rep := 0, cmd := 0, n := [(a : Int), (b : Int), (w : Int), (h : Int)], v := 0 } : Dec).grow W0 H0 (max w W0) (max h H0) := by
  have e : (d.at 34 [(a : Int), (b : Int), (w : Int)] (h : Int)).cmdOff = { d with rep := 0, cmd := 0, n := [(a : Int), (b : Int), (w : Int), (h : Int)], v := 0 } := rfl
  unfold Dec.done
  rw [at_cmd, if_neg (show ¬ ((34 : Nat) : Int) = 0 by decide), if_neg (show ¬ ((34 : Nat) : Int) = 33 by decide), if_neg (show ¬ ((34 : Nat) : Int) = 35 by decide), if_pos (show ((34 : Nat) : Int) = 34 from rfl), e]
  rw [if_pos ?_]
  · rfl
  · exact ⟨show (1 : Int) ≤ (w : Int) by omega, show (w : Int) ≤ 16384 by omega, show (1 : Int) ≤ (h : Int) by omega, show (h : Int) ≤ 16384 by omega, hdr, hdn⟩
/-- A new decoder that is asked for a size, and then for a register. -/
theorem rooms_feed (M w h : Nat) (hw : 1 ≤ w ∧ w ≤ 300) (hh : 1 ≤ h ∧ h ≤ 300) (less : Nat) (hl : less ≤ 4 * w * h) (hM : M = 4 * w * h - less) {d : Dec} (hd : (Dec.new false M 256).feed (sizeSigns 0 0 w h ++ [35]) = d) :
    if 0 < less then d.full = true ∧ d.fin.e = 6 ∧ d.fin.p = [] else d.full = false ∧ d.fin.e = 0 ∧ d.fin.w = (w : Int) ∧ d.fin.h = (h : Int) := by
  rw [feed_size (Dec.new false M 256) 0 0 w h rfl rfl rfl (by omega) (by omega) (by omega) (by omega)] at hd
  obtain ⟨D, hD⟩ : ∃ D, ((Dec.new false M 256).at 34 [((0 : Nat) : Int), ((0 : Nat) : Int), (w : Int)] (h : Int)).done ((Dec.new false M 256).at 34 [((0 : Nat) : Int), ((0 : Nat) : Int), (w : Int)] (h : Int)).w.toNat ((Dec.new false M 256).at 34 [((0 : Nat) : Int), ((0 : Nat) : Int), (w : Int)] (h : Int)).h.toNat = D := ⟨_, rfl⟩
  have hD2 := hD
  rw [done_size_eq (Dec.new false M 256) 0 0 w h rfl rfl (by omega) (by omega)] at hD2
  rw [show ((Dec.new false M 256).at 34 [((0 : Nat) : Int), ((0 : Nat) : Int), (w : Int)] (h : Int)).w.toNat = 0 from rfl, show ((Dec.new false M 256).at 34 [((0 : Nat) : Int), ((0 : Nat) : Int), (w : Int)] (h : Int)).h.toNat = 0 from rfl, Nat.max_eq_left (Nat.zero_le _), Nat.max_eq_left (Nat.zero_le _)] at hD2
  unfold Dec.grow at hD2
  rw [if_neg (by omega)] at hD2
  have hmost : ({ Dec.new false M 256 with rep := 0, cmd := 0, n := [((0 : Nat) : Int), ((0 : Nat) : Int), (w : Int), (h : Int)], v := 0 } : Dec).most = (M : Int) := rfl
  rw [hmost] at hD2
  have hq : (M : Int) / 4 / (h : Int) = ((M / 4 / h : Nat) : Int) := by simp
  rw [hq] at hD2
  have hf0 : ((Dec.new false M 256).at 34 [((0 : Nat) : Int), ((0 : Nat) : Int), (w : Int)] (h : Int)).full = false := rfl
  have ho0 : ((Dec.new false M 256).at 34 [((0 : Nat) : Int), ((0 : Nat) : Int), (w : Int)] (h : Int)).over = false := rfl
  by_cases hz : 0 < less
  · rw [if_pos hz]
    have hlt : M / 4 / h < w := by
      rw [Nat.div_lt_iff_lt_mul (by omega), Nat.div_lt_iff_lt_mul (by omega)]
      rw [hM, Nat.mul_comm (w * h) 4, ← Nat.mul_assoc]
      omega
    rw [if_pos (by omega)] at hD2
    have hfull : D.full = true := by rw [← hD2]
    have hd2 : d = D := by
      rw [← hd, feed_cons, feed_nil, byte_of (d := (Dec.new false M 256).at 34 [((0 : Nat) : Int), ((0 : Nat) : Int), (w : Int)] (h : Int)) (by omega) hf0 ho0]
      unfold Dec.sig
      rw [hD, at_cmd, if_neg (show ¬ ((34 : Nat) : Int) = 0 by decide), if_neg (by omega), if_neg (by omega), if_pos hfull]
    subst hd2
    have h1 : d.fin1 = d := by unfold Dec.fin1; rw [if_neg (by rw [hfull]; simp)]
    rw [fin_full h1 hfull]
    exact ⟨hfull, rfl, rfl⟩
  · rw [if_neg hz]
    have hge : ¬ M / 4 / h < w := by
      rw [Nat.div_lt_iff_lt_mul (by omega), Nat.div_lt_iff_lt_mul (by omega)]
      rw [hM, Nat.mul_comm (w * h) 4, ← Nat.mul_assoc]
      omega
    rw [if_neg (by omega)] at hD2
    have hfull : D.full = false := by rw [← hD2]; rfl
    rw [feed_ends _ (show ¬ ((34 : Nat) : Int) = 0 by decide) hf0 ho0 35 (by omega) (by omega) (by omega) [] hD hfull, feed_nil] at hd
    have hd3 : d = D.at 35 [] 0 := by rw [← hd]; unfold Dec.plainSign; rw [if_neg (by omega), if_pos (by omega)]; rfl
    have hDo : D.over = false := by rw [← hD2]; rfl
    have h1 : d.fin1 = { D with rep := 0, cmd := 0, n := [0], v := 0, now := 0 } := by
      unfold Dec.fin1
      rw [hd3, if_pos ⟨show D.full = false from hfull, show D.over = false from hDo⟩, done_color_eq D [] 0 (by decide)]
      rfl
    have hw1 : ({ D with rep := 0, cmd := 0, n := [0], v := 0, now := 0 } : Dec).w = (w : Int) := by show D.w = _; rw [← hD2]
    have hh1 : ({ D with rep := 0, cmd := 0, n := [0], v := 0, now := 0 } : Dec).h = (h : Int) := by show D.h = _; rw [← hD2]
    rw [fin_main h1 hfull (by rw [hw1]; omega) hDo]
    exact ⟨by rw [hd3]; exact hfull, rfl, hw1, hh1⟩
/-- The signs that set a register and draw one dot. -/
def regSigns (n r g b : Nat) : List Nat := 35 :: (digs n ++ 59 :: (digs 2 ++ 59 :: (digs r ++ 59 :: (digs g ++ 59 :: (digs b ++ [64])))))
theorem dot_pic (N : Nat) (L ns : List Int) (x0 x1 x2 : Int) (h0 : L.getD (3 * N) 0 = x0) (h1 : L.getD (3 * N + 1) 0 = x1) (h2 : L.getD (3 * N + 2) 0 = x2) {d : Dec} (hd : (⟨true, 100, L, (N : Int), 0, 0, 0, 0, [], false, false, false, false, 0, ns, 0, 0⟩ : Dec).plainSign 64 = d) :
    d.full = false ∧ d.over = false ∧ d.l = L ∧ d.cmd = 0 ∧ d.w = 1 ∧ d.h = 1 ∧ d.clear = true ∧ d.p = [x0, x1, x2, 255] := by
  obtain ⟨E, hE⟩ : ∃ E : Dec, (⟨true, 100, L, (N : Int), 0, 0, 0, 0, [], false, false, false, false, 0, ns, 0, 0⟩ : Dec) = E := ⟨_, rfl⟩
  have k1 : E.x = 0 := by rw [← hE]
  have k2 : E.y = 0 := by rw [← hE]
  have k3 : E.w = 0 := by rw [← hE]
  have k4 : E.h = 0 := by rw [← hE]
  have k5 : E.rep = 0 := by rw [← hE]
  have k6 : E.now = (N : Int) := by rw [← hE]
  have k7 : E.most = 100 := by rw [← hE]
  have k8 : E.l = L := by rw [← hE]
  have k9 : E.p = [] := by rw [← hE]
  have k10 : ({ E with rep := 0 } : Dec) = E := by rw [← hE]
  have g1 : growOk E 0 0 1 1 = true := by unfold growOk; rw [if_neg (by decide), k7]; decide
  have g2 : E.grow 0 0 1 1 = { E with w := ((1 : Nat) : Int), h := ((1 : Nat) : Int), p := grown [] 0 0 1 1 } := by
    unfold Dec.grow; rw [if_neg (by decide), k7, if_neg (by decide), k9]
  rw [hE] at hd
  unfold Dec.plainSign at hd
  rw [if_pos (by omega), k10, k1, k2, k3, k4, k5, k6] at hd
  unfold Dec.sixel at hd
  rw [show hAt (64 - 63) (0 : Int).toNat (0 : Int).toNat 6 = 1 by decide, show wAt (64 - 63) (0 : Int).toNat (0 : Int).toNat (max (0 : Int) 1).toNat 6 = 1 by decide, if_neg (by decide)] at hd
  rw [show max 1 (0 : Int).toNat = 1 by decide, show (0 : Int).toNat = 0 by decide, g1, if_neg (by decide), g2] at hd
  unfold Dec.sixelNew at hd
  rw [Int.toNat_natCast, k8, h0, h1, h2] at hd
  rw [← hd]
  refine ⟨?_, ?_, rfl, ?_, rfl, rfl, ?_, ?_⟩
  · show E.full = false; rw [← hE]
  · show E.over = false; rw [← hE]
  · show E.cmd = 0; rw [← hE]
  · show E.clear = true; rw [← hE]
  · show paint (grown [] 0 0 1 1) 1 1 (64 - 63) 0 0 (wAt (64 - 63) 0 0 (max (0 : Int) 1).toNat 6) [x0, x1, x2, 255] = _
    rw [show wAt (64 - 63) 0 0 (max (0 : Int) 1).toNat 6 = 1 by decide]
    rfl
theorem regs_feed (n r g b : Nat) (hn : n < 256) (hr : r ≤ 100) (hg : g ≤ 100) (hb : b ≤ 100) {d : Dec} (hd : (Dec.new true 100 256).feed (regSigns n r g b) = d) :
    d.full = false ∧ d.l = setReg (regs 256) n [pct r, pct g, pct b] ∧ d.fin.e = 0 ∧ d.fin.p = [pct r, pct g, pct b, 255] := by
  unfold regSigns at hd
  obtain ⟨R, hR⟩ : ∃ R, regs 256 = R := ⟨_, rfl⟩
  have hlen : R.length = 768 := by rw [← hR]; exact regs_length 256
  have hnew : Dec.new true 100 256 = ⟨true, 100, R, 0, 0, 0, 0, 0, [], false, false, false, false, 0, [], 0, 0⟩ := by unfold Dec.new; rw [hR]
  rw [hR]
  rw [hnew, feed_cmd _ 35 (by omega) rfl rfl rfl, feed_part _ 35 (by omega) [] [(n : Int)] (by simp) rfl rfl n (by omega) rfl, feed_part _ 35 (by omega) _ [(n : Int), ((2 : Nat) : Int)] (by simp) rfl rfl 2 (by omega) rfl, feed_part _ 35 (by omega) _ [(n : Int), ((2 : Nat) : Int), (r : Int)] (by simp) rfl rfl r (by omega) rfl,
    feed_part _ 35 (by omega) _ [(n : Int), ((2 : Nat) : Int), (r : Int), (g : Int)] (by simp) rfl rfl g (by omega) rfl, feed_num _ 35 (by omega) _ rfl rfl b (by omega)] at hd
  have p1 : pctOk r = true := decide_eq_true (by omega)
  have p2 : pctOk g = true := decide_eq_true (by omega)
  have p3 : pctOk b = true := decide_eq_true (by omega)
  obtain ⟨L, hL⟩ : ∃ L, setReg (R) n [pct r, pct g, pct b] = L := ⟨_, rfl⟩
  have hDn : ((⟨true, 100, R, 0, 0, 0, 0, 0, [], false, false, false, false, 0, [], 0, 0⟩ : Dec).at 35 [(n : Int), ((2 : Nat) : Int), (r : Int), (g : Int)] (b : Int)).done 0 0 = ⟨true, 100, L, (n : Int), 0, 0, 0, 0, [], false, false, false, false, 0, [(n : Int), 2, (r : Int), (g : Int), (b : Int)], 0, 0⟩ := by
    rw [done_color_eq _ _ _ (by simp)]
    obtain ⟨E, hE⟩ : ∃ E : Dec, (⟨true, 100, R, 0, 0, 0, 0, 0, [], false, false, false, false, 0, [(n : Int), 2, (r : Int), (g : Int), (b : Int)], 0, 0⟩ : Dec) = E := ⟨_, rfl⟩
    show (⟨true, 100, R, 0, 0, 0, 0, 0, [], false, false, false, false, 0, [(n : Int), 2, (r : Int), (g : Int), (b : Int)], 0, 0⟩ : Dec).color = _
    rw [hE]
    have n0 : E.n.getD 0 0 = (n : Int) := by rw [← hE]; rfl
    have n1 : E.n.getD 1 0 = 2 := by rw [← hE]; rfl
    have n2 : E.n.getD 2 0 = (r : Int) := by rw [← hE]; rfl
    have n3 : E.n.getD 3 0 = (g : Int) := by rw [← hE]; rfl
    have n4 : E.n.getD 4 0 = (b : Int) := by rw [← hE]; rfl
    have nl : E.n.length = 5 := by rw [← hE]; rfl
    have hc : colOf E = ([pct r, pct g, pct b], true) := by
      unfold colOf
      rw [n1, n2, n3, n4, p1, p2, p3, if_neg (by decide), if_pos rfl]
      rfl
    unfold Dec.color
    rw [n0, nl, hc, if_neg (by omega), if_neg (by rintro (h | h); omega; cases h), Int.toNat_natCast]
    show ({ E with now := (n : Int), l := setReg E.l n [pct r, pct g, pct b] } : Dec) = _
    rw [← hL, ← hE]
  rw [feed_ends _ (show ¬ ((35 : Nat) : Int) = 0 by decide) rfl rfl 64 (by omega) (by omega) (by omega) [] hDn rfl, feed_nil] at hd
  have q0 : L.getD (3 * n) 0 = pct r := by rw [← hL]; unfold setReg; simp [List.getElem?_set, hlen, show 3 * n < 768 by omega]
  have q1 : L.getD (3 * n + 1) 0 = pct g := by rw [← hL]; unfold setReg; simp [List.getElem?_set, hlen, show 3 * n + 1 < 768 by omega]
  have q2 : L.getD (3 * n + 2) 0 = pct b := by rw [← hL]; unfold setReg; simp [List.getElem?_set, hlen, show 3 * n + 2 < 768 by omega]
  obtain ⟨e1, e2, e3, e4, e5, e6, e7, e8⟩ := dot_pic n L _ _ _ _ q0 q1 q2 hd
  have h1 : d.fin1 = d := by
    unfold Dec.fin1; rw [if_pos ⟨e1, e2⟩]; unfold Dec.done; rw [if_pos e4]
  rw [fin_main h1 e1 (by rw [e5]; decide) e2, if_pos e7]
  exact ⟨e1, by rw [e3, hL], rfl, e8⟩
theorem reg_mine (n : Nat) (hn : n < 256) (c0 c1 c2 : Int) : (setReg (regs 256) n [c0, c1, c2]).getD (3 * n) 0 = c0 ∧ (setReg (regs 256) n [c0, c1, c2]).getD (3 * n + 1) 0 = c1 ∧ (setReg (regs 256) n [c0, c1, c2]).getD (3 * n + 2) 0 = c2 := by
  have hlen : (regs 256).length = 768 := regs_length 256
  unfold setReg
  refine ⟨?_, ?_, ?_⟩
  · simp [List.getElem?_set, hlen, show 3 * n < 768 by omega]
  · simp [List.getElem?_set, hlen, show 3 * n + 1 < 768 by omega]
  · simp [List.getElem?_set, hlen, show 3 * n + 2 < 768 by omega]
theorem setReg_other (R : List Int) (n m j : Nat) (c : List Int) (h : n ≠ m) (hj : j < 3) : (setReg R n c).getD (3 * m + j) 0 = R.getD (3 * m + j) 0 := by
  unfold setReg
  simp only [List.getD_eq_getElem?_getD]
  rw [List.getElem?_set_ne (by omega), List.getElem?_set_ne (by omega), List.getElem?_set_ne (by omega)]
theorem regs_at (k m j : Nat) (hm : m < k) (hk : k ≤ 256) (hj : j < 3) : (regs k).getD (3 * m + j) 0 = (firstL m).getD j 0 := by
  induction k with
  | zero => omega
  | succ k ih =>
    rw [regs]
    by_cases h : k = m
    · subst h
      have hlen := regs_length k
      unfold setReg
      rcases (show j = 0 ∨ j = 1 ∨ j = 2 by omega) with rfl | rfl | rfl
      · simp [List.getElem?_set, hlen, show 3 * k < 768 by omega]
      · simp [List.getElem?_set, hlen, show 3 * k + 1 < 768 by omega]
      · simp [List.getElem?_set, hlen, show 3 * k + 2 < 768 by omega]
    · rw [setReg_other _ _ _ _ _ h hj]
      exact ih (by omega) (by omega)
end Go.Proofs.Ytomcjdonacckfaa
