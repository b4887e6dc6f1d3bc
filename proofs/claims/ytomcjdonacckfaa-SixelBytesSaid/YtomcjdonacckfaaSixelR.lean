/- One sixel of the document's, so many times. -/
import Derived.Test.YtomcjdonacckfaaSixelD
import Derived.Test.YtomcjdonacckfaaGrowYR
namespace Go.Proofs.Ytomcjdonacckfaa.R
open Go.Proofs.Ytomcjdonacckfaa Go.RowKit
set_option linter.unusedVariables false
set_option linter.unusedSimpArgs false
attribute [local go_sem] growOp growUpon sameUpon
theorem dgrow_any (G : Nat → Prop) (d : Dec) (W : World) (a w0 h0 W0 H0 W1 H1 M : Nat) (h : DOwn G W a d) (hpk : PicOk d W0 H0 M) (hf : d.full = false) (hp1 : Picks w0 W0 W1) (hp2 : Picks h0 H0 H1) (hw0 : 1 ≤ w0) (hh0 : 1 ≤ h0 ∧ h0 ≤ 16384) :
    Calls Try.prog 47 #[.pointer (some ⟨a, 0, none⟩), .int .i64 w0, .int .i64 h0] W fun e w' => e = .returned (.bool (growOk d W0 H0 W1 H1)) ∧ Turn G W w' a (d.grow W0 H0 W1 H1) := by
  by_cases he : W1 = W0 ∧ H1 = H0
  · have e1 : growOk d W0 H0 W1 H1 = true := by unfold growOk; rw [if_pos he]
    have e2 : d.grow W0 H0 W1 H1 = d := by unfold Dec.grow; rw [if_pos he]
    rw [e1, e2]
    exact grow_same G d W a w0 h0 W0 H0 W1 H1 h hpk.w hpk.h hp1 hp2 he
  · have hH : 1 ≤ H1 ∧ H1 ≤ 16384 := by have := hpk.hb; rcases hp2 with h | h <;> omega
    obtain ⟨K1, hK1⟩ : ∃ K1, M / 4 = K1 := ⟨_, rfl⟩
    obtain ⟨K2, hK2⟩ : ∃ K2, K1 / H1 = K2 := ⟨_, rfl⟩
    have hdiv : d.most / 4 / (H1 : Int) = (K2 : Int) := by
      rw [hpk.most, show (M : Int) / 4 = (K1 : Int) by omega, ← hK2]
      rfl
    by_cases hlt : K2 < W1
    · have e1 : growOk d W0 H0 W1 H1 = false := by unfold growOk; rw [if_neg he, hdiv]; exact decide_eq_false (by omega)
      have e2 : d.grow W0 H0 W1 H1 = { d with full := true, p := [] } := by unfold Dec.grow; rw [if_neg he, hdiv, if_pos (by omega)]
      rw [e1, e2]
      exact grow_full G d W a w0 h0 W0 H0 W1 H1 M K1 K2 h hpk.w hpk.h hpk.most hp1 hp2 he hH hpk.M hK1 hK2 hlt
    · have e1 : growOk d W0 H0 W1 H1 = true := by unfold growOk; rw [if_neg he, hdiv]; exact decide_eq_true (by omega)
      have e2 : d.grow W0 H0 W1 H1 = { d with w := W1, h := H1, p := grown d.p W0 H0 W1 H1 } := by unfold Dec.grow; rw [if_neg he, hdiv, if_neg (by omega)]
      rw [e1, e2]
      exact grow_yes G d W a w0 h0 W0 H0 W1 H1 M K1 K2 h hpk.w hpk.h hpk.most hp1 hp2 he hH hpk.M hK1 hK2 (by omega) hw0 (hpk.p hf)

def wFar (v y x n k : Nat) : Nat := if hAt v y x k = 0 then 0 else x + n
theorem wFar_yes {v y x k : Nat} (h : dotOn v y x k) (n : Nat) : hAt v y x (k + 1) = y + k + 1 ∧ wFar v y x n (k + 1) = x + n := by
  have e : hAt v y x (k + 1) = y + k + 1 := by unfold hAt; rw [if_pos h]
  exact ⟨e, by unfold wFar; rw [e, if_neg (by omega)]⟩
theorem wFar_no {v y x k : Nat} (h : ¬ dotOn v y x k) (n : Nat) : hAt v y x (k + 1) = hAt v y x k ∧ wFar v y x n (k + 1) = wFar v y x n k := by
  have e : hAt v y x (k + 1) = hAt v y x k := by rw [hAt, if_neg h]
  exact ⟨e, by unfold wFar; rw [e]⟩
/-- The state while dots are laid. -/
def Pst (U : World) (a g NN pc q9 : Nat) (d : Dec) (pv nv : Value) (C : Array Value) (w : World) (L : List Int) : Prop :=
  pv = .slice (some ⟨g, 0, none⟩) NN pc ∧ Own .u8 5 w pv L ∧ DBlk w a d pv nv ∧ w.heap[q9]? = some (.cells C 23 (0, 0)) ∧ Kept (fun i => i = g) U w ∧ g ≠ a ∧ g ≠ q9
theorem Pst.drew {U : World} {a g NN pc q9 : Nat} {d : Dec} {pv nv : Value} {C : Array Value} {w : World} {L : List Int} (h : Pst U a g NN pc q9 d pv nv C w L) : Pst U a g NN pc q9 d pv nv C w.drew L := by
  obtain ⟨h1, h2, h3, h4, h5, h6, h7⟩ := h
  have hk := (Kept.refl (fun _ => False) w).drew
  exact ⟨h1, h2.kept hk (fun _ _ => id), h3.kept hk id, hk.blk h4 id, h5.drew, h6, h7⟩
theorem Pst.set {U : World} {a g NN pc q9 : Nat} {d : Dec} {pv nv : Value} {C : Array Value} {w : World} {L : List Int} (h : Pst U a g NN pc q9 d pv nv C w L) {i : Nat} (hi : i < NN) (v : Int) : Pst U a g NN pc q9 d pv nv C (w.setCell ⟨g, i, none⟩ (.int .u8 v)) (L.set i v) := by
  obtain ⟨h1, h2, h3, h4, h5, h6, h7⟩ := h
  have hk : Kept (fun j => j = g) w (w.setCell ⟨g, i, none⟩ (.int .u8 v)) := (Kept.refl (fun j => j = g) w).setCell (p := ⟨g, i, none⟩) (.inl rfl) _
  subst h1
  exact ⟨rfl, h2.set hi v, h3.kept hk (fun h => h6 h.symm), hk.blk h4 (fun h => h7 h.symm), h5.then hk, h6, h7⟩
theorem set4_spl (L : List Int) (o : Nat) (c0 c1 c2 c3 : Int) (h : o + 4 ≤ L.length) : (((L.set o c0).set (o + 1) c1).set (o + 2) c2).set (o + 3) c3 = spl L o [c0, c1, c2, c3] := by
  apply List.ext_getElem?
  intro j
  unfold spl
  simp only [List.getElem?_set, List.length_set, List.append_assoc, List.length_cons, List.length_nil]
  by_cases h0 : j < o
  · rw [if_neg (by omega), if_neg (by omega), if_neg (by omega), if_neg (by omega), List.getElem?_append_left (by simp; omega), List.getElem?_take, if_pos h0]
  · rw [List.getElem?_append_right (by simp; omega), List.length_take, Nat.min_eq_left (by omega)]
    by_cases h1 : j < o + 4
    · obtain ⟨k, rfl⟩ : ∃ k, j = o + k := ⟨j - o, by omega⟩
      have hk : k < 4 := by omega
      rw [Nat.add_sub_cancel_left]
      rcases k with _ | _ | _ | _ | k
      · rw [if_neg (by omega), if_neg (by omega), if_neg (by omega), if_pos (by omega), if_pos (by omega)]; rfl
      · rw [if_neg (by omega), if_neg (by omega), if_pos (by omega), if_pos (by omega)]; rfl
      · rw [if_neg (by omega), if_pos (by omega), if_pos (by omega)]; rfl
      · rw [if_pos (by omega), if_pos (by omega)]; rfl
      · omega
    · rw [if_neg (by omega), if_neg (by omega), if_neg (by omega), if_neg (by omega), List.getElem?_append_right (by simp; omega), List.getElem?_drop]
      congr 1
      simp; omega
set_option maxRecDepth 100000 in
set_option maxHeartbeats 32000000 in
theorem sixel_any (G : Nat → Prop) (d : Dec) (W : World) (a v n X Y W0 H0 M K : Nat) (hd : DOwn G W a d) (hpk : PicOk d W0 H0 M) (hf : d.full = false) (hv : v < 64) (hn : 1 ≤ n ∧ n ≤ 65535) (hx : d.x = (X : Int)) (hy : d.y = (Y : Int)) (hX : X ≤ 1048576) (hY : Y ≤ 1048576) (hnow : d.now = (K : Int)) (hK : K < 256) :
    Calls Try.prog 44 #[.pointer (some ⟨a, 0, none⟩), .int .i64 v, .int .i64 n] W fun e w' => e = .returned (.tuple #[]) ∧ Turn G W w' a (d.sixel v n X Y W0 H0 K) := by
  have HD := Lib.hid hd
  obtain ⟨pv, nv, hb, -⟩ := hd
  have HB := Lib.hid hb
  have HPK := Lib.hid (And.intro hpk (And.intro hf (And.intro hx (And.intro hy hnow))))
  have hL := hb.1
  have HL := Lib.hid hL
  obtain ⟨c0, hc0⟩ : ∃ c, d.l.getD (3 * K) 0 = c := ⟨_, rfl⟩
  obtain ⟨c1, hc1⟩ : ∃ c, d.l.getD (3 * K + 1) 0 = c := ⟨_, rfl⟩
  obtain ⟨c2, hc2⟩ : ∃ c, d.l.getD (3 * K + 2) 0 = c := ⟨_, rfl⟩
  have HC := Lib.hid (And.intro hc0 (And.intro hc1 hc2))
  clear hc0 hc1 hc2
  obtain ⟨RES, hRES⟩ : ∃ R, d.sixel v n X Y W0 H0 K = R := ⟨_, rfl⟩
  rw [hRES]
  have HRES := Lib.hid hRES
  obtain ⟨cx, -⟩ := hb.fx
  obtain ⟨cy, -⟩ := hb.fy
  rw [hx] at cx
  rw [hy] at cy
  clear hRES hb hpk hf hnow hL hx hy
  go_enter Try.func44, Try.ntmps44
  go_wp2
  go_loopg [6, 7, 8] 6 (fun gg wv hv' kv wr => ∃ k : Nat, 6 ≤ gg + k ∧ k ≤ 6 ∧ kv = .int .i64 (k : Int) ∧ wv = .int .i64 (wFar v Y X n k : Nat) ∧ hv' = .int .i64 (hAt v Y X k : Nat) ∧ W = wr)
  case atStart => exact ⟨0, by omega, by omega, rfl, rfl, rfl, rfl⟩
  case round =>
    obtain ⟨k, hgg, hk6, rfl, rfl, rfl, rfl⟩ := hrel
    by_cases hk : k < 6
    · have gk0 : decide (k < 6) = true := decide_eq_true hk
      have gk1 : decide ((k : Int) < 6) = true := decide_eq_true (by omega)
      obtain ⟨r, hr⟩ : ∃ r, v / 2 ^ k = r := ⟨_, rfl⟩
      have hr64 : r < 64 := by rw [← hr]; exact Nat.lt_of_le_of_lt (Nat.div_le_self _ _) hv
      have sh0 : min k 64 = k := by omega
      have sh1 : (v : Int) / 2 ^ k = (r : Int) := by rw [← hr]; simp
      have nk : ¬ (k : Int) < 0 := by omega
      have kw : IntKind.u64.wrap (k : Int) = (k : Int) := IntWalk.u64_in _ (by omega)
      have a1 := i64_and1 r hr64
      obtain ⟨b, hb⟩ : ∃ b, r % 2 = b := ⟨_, rfl⟩
      rw [hb] at a1
      have wr1 : IntKind.i64.wrap (r : Int) = (r : Int) := IntWalk.i64_in _ (by omega)
      have wk : IntKind.i64.wrap ((k : Int) + 1) = (k : Int) + 1 := IntWalk.i64_in _ (by omega)
      have wy : IntKind.i64.wrap ((Y : Int) + (k : Int)) = (Y : Int) + (k : Int) := IntWalk.i64_in _ (by omega)
      have wy1 : IntKind.i64.wrap ((Y : Int) + (k : Int) + 1) = (Y : Int) + (k : Int) + 1 := IntWalk.i64_in _ (by omega)
      have wx : IntKind.i64.wrap ((X : Int) + (n : Int)) = (X : Int) + (n : Int) := IntWalk.i64_in _ (by omega)
      by_cases hon : dotOn v Y X k
      · obtain ⟨e1, e2⟩ := wFar_yes hon n
        have e0 : ((b : Int) == 1) = true := by simp; have := hon.1; omega
        have g2 : decide ((Y : Int) + (k : Int) < 16384) = true := decide_eq_true (by have := hon.2.1; omega)
        have g3 : decide (X < 16384) = true := decide_eq_true hon.2.2
        have g3' : decide ((X : Int) < 16384) = true := decide_eq_true (by have := hon.2.2; omega)
        have HE := Lib.hid (And.intro e1 e2)
        clear hon e1 e2 hr hb
        go_wp2
        go_roundg (gk - 1)
        case rel => exact ⟨k + 1, by omega, by omega, by simp, by rw [HE.out.2]; simp, by rw [HE.out.1]; simp, rfl⟩
        case measure => omega
      · obtain ⟨e1, e2⟩ := wFar_no hon n
        have HE := Lib.hid (And.intro e1 e2)
        have hc : b = 0 ∨ (b = 1 ∧ 16384 ≤ Y + k) ∨ (b = 1 ∧ Y + k < 16384 ∧ 16384 ≤ X) := by
          unfold dotOn at hon
          rw [hr, hb] at hon
          omega
        clear hon e1 e2 hr hb
        rcases hc with rfl | ⟨rfl, hc⟩ | ⟨rfl, hc, hc2⟩
        · go_wp2
          go_roundg (gk - 1)
          case rel => exact ⟨k + 1, by omega, by omega, by simp, by rw [HE.out.2], by rw [HE.out.1], rfl⟩
          case measure => omega
        · have g2 : decide ((Y : Int) + (k : Int) < 16384) = false := decide_eq_false (by omega)
          go_wp2
          go_roundg (gk - 1)
          case rel => exact ⟨k + 1, by omega, by omega, by simp, by rw [HE.out.2], by rw [HE.out.1], rfl⟩
          case measure => omega
        · have g2 : decide ((Y : Int) + (k : Int) < 16384) = true := decide_eq_true (by omega)
          have g3 : decide (X < 16384) = false := decide_eq_false (by omega)
          go_wp2
          go_roundg (gk - 1)
          case rel => exact ⟨k + 1, by omega, by omega, by simp, by rw [HE.out.2], by rw [HE.out.1], rfl⟩
          case measure => omega
    · obtain rfl : k = 6 := by omega
      have gk0 : decide (6 < 6) = false := by decide
      have h16 := hAt_le v Y X 6 (by omega)
      have HDOT := Lib.hid (fun j (hj : j < 6) (h : dotOn v Y X j) => dot_in h hj)
      obtain ⟨hh, hhE⟩ : ∃ hh, hAt v Y X 6 = hh := ⟨_, rfl⟩
      obtain ⟨wF, hwF⟩ : ∃ wF, wFar v Y X n 6 = wF := ⟨_, rfl⟩
      obtain ⟨wN, hwN⟩ : ∃ wN, wAt v Y X n 6 = wN := ⟨_, rfl⟩
      rw [hhE, hwF]
      rw [hhE] at h16 HDOT
      have hwNe : wN = if hh = 0 then 0 else min (X + n) 16384 := by rw [← hwN, ← hhE]; rfl
      have hwFe : wF = if hh = 0 then 0 else X + n := by rw [← hwF, ← hhE]; rfl
      have HW := Lib.hid (And.intro hhE (And.intro hwN hwNe))
      have HWF := Lib.hid hwFe
      clear hk hhE hwN hwNe hwF hwFe cx cy
      by_cases h0 : hh = 0
      · subst h0
        have hwz : wN = 0 := by have := HW.out.2.2; simpa using this
        have hwz2 : wF = 0 := by have := HWF.out; simpa using this
        obtain ⟨db, hdb⟩ : ∃ db, d.drawn = db := ⟨_, rfl⟩
        obtain ⟨d1, hd1⟩ : ∃ d1, d = d1 := ⟨_, rfl⟩
        obtain ⟨W1, hW1⟩ : ∃ W1, W0 = W1 := ⟨_, rfl⟩
        obtain ⟨H1, hH1⟩ : ∃ H1, H0 = H1 := ⟨_, rfl⟩
        have HP1 := Lib.hid (show PicOk d1 W1 H1 M ∧ d1.full = false ∧ d1.l = d.l ∧ d1.now = (K : Int) ∧ d1.x = (X : Int) ∧ d1.y = (Y : Int) ∧ d1.drawn = db from by subst hd1 hW1 hH1; exact ⟨HPK.out.1, HPK.out.2.1, rfl, HPK.out.2.2.2.2, HPK.out.2.2.1, HPK.out.2.2.2.1, hdb⟩)
        have HT4 := Lib.hid (show Turn G W W a d1 by subst hd1; exact Turn.refl HD.out)
        have HLIM := Lib.hid (show (∀ j, j < 6 → dotOn v Y X j → Y + j < H1) ∧ wN ≤ W1 ∧ wN ≤ 16384 from ⟨fun j hj h => by have := HDOT.out j hj h; omega, by omega, by omega⟩)
        have HRS := Lib.hid (show RES = { d1 with drawn := db, p := paint d1.p W1 H1 v Y X wN [c0, c1, c2, 255], x := ((min (X + n) 1048576 : Nat) : Int) } from by
          rw [← HRES.out]; unfold Dec.sixel Dec.sixelNew; rw [HW.out.1, HW.out.2.1, if_pos rfl, HC.out.1, HC.out.2.1, HC.out.2.2, hd1, hW1, hH1]; rw [hd1] at hdb; simp [hdb])
        clear hd1 hW1 hH1 hdb
        subst hwz hwz2
        have hT4 := HT4.out
        obtain ⟨G4, ⟨pv4, nv4, hb4, hp4, hn4, o1, o2, o3, hG4⟩, hs4, hk4⟩ := hT4
        have HO4 := Lib.hid (And.intro hp4 (And.intro hn4 (And.intro o1 (And.intro o2 (And.intro o3 (And.intro hG4 (And.intro hs4 hk4)))))))
        have hb1 : DBlk W a { d1 with drawn := db } pv4 nv4 := by
          have h9 : { d1 with drawn := db } = d1 := by have := HP1.out.2.2.2.2.2.2; cases d1; simp_all
          rw [h9]; exact hb4
        have HV1 := Lib.hid (And.intro hb1 (And.intro hp4 (And.intro hn4 hk4)))
        obtain ⟨WR, hWR⟩ : ∃ WR, WR = W.drew := ⟨_, rfl⟩
        have hkR : Kept (fun _ => False) W WR := by rw [hWR]; exact (Kept.refl _ _).drew
        have hbR := hb1.kept hkR id
        obtain ⟨z0, -⟩ := hbR.fnow
        have z0' : WR.cell? ⟨a, 772, none⟩ = some (.int .i64 (K : Int)) := by have h9 := z0; rw [show ({ d1 with drawn := db } : Dec).now = (K : Int) from HP1.out.2.2.2.1] at h9; exact h9
        have hLL : ({ d1 with drawn := db } : Dec).l = d.l := HP1.out.2.2.1
        have R0 : WR.cell? ⟨a, 2 + K * 3, none⟩ = some (.int .u8 c0) := by have h9 := (hbR.reg (3 * K) (by omega)).1; rw [hLL, HC.out.1] at h9; rw [Nat.mul_comm K 3]; exact h9
        have R1 : WR.cell? ⟨a, 2 + K * 3 + 1, none⟩ = some (.int .u8 c1) := by have h9 := (hbR.reg (3 * K + 1) (by omega)).1; rw [hLL, HC.out.2.1] at h9; rw [Nat.mul_comm K 3]; exact h9
        have R2 : WR.cell? ⟨a, 2 + K * 3 + 2, none⟩ = some (.int .u8 c2) := by have h9 := (hbR.reg (3 * K + 2) (by omega)).1; rw [hLL, HC.out.2.2] at h9; rw [Nat.mul_comm K 3]; exact h9
        have X0 := cell_regrown z0'
        have X1 := cell_regrown R0
        have X2 := cell_regrown R1
        have X3 := cell_regrown R2
        obtain ⟨RA, hRA⟩ : ∃ R : Value → World → Prop, R = fun v w' => ∃ q, v = .pointer (some ⟨q, 0, none⟩) ∧ WR.heap.size ≤ q ∧ w'.heap[q]? = some (.cells #[.int .u8 0, .int .u8 0, .int .u8 0] 23 (0, 0)) := ⟨_, rfl⟩
        have HRA := Lib.hid hRA
        have HWR := Lib.hid hWR
        have HKR := Lib.hid hkR
        have HYd := Lib.hid (show d1.y = (Y : Int) from by first | exact HP1.out.2.2.2.2.2.1 | exact HP1.out.2.2.2.2.2)
        have kk1 : (K : Int) < 256 := by omega
        clear hb4 hp4 hn4 o1 o2 o3 hG4 hs4 hk4 hb1 hWR hkR hbR z0 hLL hRA
        go_wp2
        refine wp_region_grow #[0, 0, 2, 6, 14, 1, 33, 127, 255, 0, 1023] 10 [] (fun i => if i = 9 then some RA else none) (by kernel_rfl) rfl (by kernel_rfl) (fun i hi => by cases hi) (fun _ _ _ _ _ h => h) ?_
        rintro _ rfl
        rw [← HWR.out]
        simp only [List.take_succ_cons, List.take_zero, List.drop_succ_cons, List.drop_zero, number, Nat.reduceAdd]
        repeat (refine wpGrow_step (fun K hK => ?_); go_simp; refine hK _ _ ?_; clear hK K)
        refine wpGrow_step (fun K hK => ?_)
        go_simp
        refine ⟨fun w' hg => ⟨(Kept.refl _ _).alloc _, by rw [HRA.out]; exact ⟨_, rfl, hg.old.size, blk_new _ _⟩⟩, fun v9 wa hv9 _ => ?_⟩
        rw [HRA.out] at hv9
        obtain ⟨Q9, rfl, hq9, hqb⟩ := hv9
        refine hK _ _ ?_; clear hK K
        refine wpGrow_nil ?_
        intro w9 hk9 hω
        have hqb9 : w9.heap[Q9]? = _ := Kept.blk (show Kept _ wa w9 from hω 9) hqb id
        obtain ⟨U1, U2, U3, f1, f2, f3, ⟨e1, e1'⟩, ⟨e2, e2'⟩, ⟨e3, e3'⟩, hcV, hkV⟩ := store3 hqb9 (.int .u8 c0) (.int .u8 c1) (.int .u8 c2)
        clear hω z0' R0 R1 R2 X0 X1 X2 X3
        go_wp2
        have hq9' : W.heap.size ≤ Q9 := by rw [HWR.out] at hq9; exact hq9
        have kU : Kept (fun j => j = Q9) W U3 := ((HKR.out.then hk9).mono fun _ _ h => h.elim).then hkV
        have hbU := HV1.out.1.kept kU (fun (h : a = Q9) => by have := HV1.out.1.lt; omega)
        have hpU : Own .u8 5 U3 pv4 d1.p := HV1.out.2.1.kept kU (fun b hb (hS : b = Q9) => by have := HV1.out.2.1.lt b hb; omega)
        have hnU : Own .i64 3 U3 nv4 d1.n := HV1.out.2.2.1.kept kU (fun b hb (hS : b = Q9) => by have := HV1.out.2.2.1.lt b hb; omega)
        have hkGU : Kept G W U3 := HV1.out.2.2.2.trans (kU.mono fun i _ (hi : i = Q9) => Or.inr (by have := HV1.out.2.2.2.size; omega))
        have hQpv : pv4.ownBlock ≠ some Q9 := fun h => by have := HV1.out.2.1.lt Q9 h; omega
        have HU := Lib.hid (And.intro hbU (And.intro hpU (And.intro hnU (And.intro hkGU (And.intro hcV hQpv)))))
        obtain ⟨NN, hNN⟩ : ∃ NN, 4 * W1 * H1 = NN := ⟨_, rfl⟩
        have hPl : d1.p.length = NN := by rw [HP1.out.1.p HP1.out.2.1, hNN]
        have HN := Lib.hid (And.intro hNN hPl)
        clear hq9' kU hbU hpU hnU hkGU hQpv hNN hPl hcV hkV hk9 hqb9 hqb hq9 f1 f2 f3 e1 e1' e2 e2' e3 e3'
        try clear cd cd' hV1
        go_loopg [10, 11, 12] 6 (fun gg kv _ _ wr => ∃ k : Nat, 6 ≤ gg + k ∧ k ≤ 6 ∧ kv = .int .i64 (k : Int) ∧ Own .u8 5 wr pv4 (tab NN (paintF d1.p W1 v Y X 0 [c0, c1, c2, 255] k X)) ∧ Kept (fun i => pv4.ownBlock = some i) U3 wr)
        case atStart => exact ⟨0, by omega, by omega, rfl, by rw [paint_start _ _ _ _ _ _ _ _ HN.out.2]; exact HU.out.2.1, Kept.refl _ _⟩
        case round =>
          obtain ⟨k, hgg, hk6, rfl, ho, hk⟩ := hrel
          have HO := Lib.hid (And.intro ho hk)
          have hbr := HU.out.1.kept hk HO4.out.2.2.1
          clear ho hk
          by_cases hk : k < 6
          · have gk0 : decide (k < 6) = true := decide_eq_true hk
            have cx : wr.cell? ⟨a, 770, none⟩ = some (.int .i64 (X : Int)) := by rw [← HP1.out.2.2.2.2.1]; exact hbr.fx.1
            have cy : wr.cell? ⟨a, 771, none⟩ = some (.int .i64 (Y : Int)) := by rw [← HYd.out]; exact hbr.fy.1
            clear hbr
            obtain ⟨r, hr⟩ : ∃ r, v / 2 ^ k = r := ⟨_, rfl⟩
            have hr64 : r < 64 := by rw [← hr]; exact Nat.lt_of_le_of_lt (Nat.div_le_self _ _) hv
            have sh0 : min k 64 = k := by omega
            have sh1 : (v : Int) / 2 ^ k = (r : Int) := by rw [← hr]; simp
            have nk : ¬ (k : Int) < 0 := by omega
            have kw : IntKind.u64.wrap (k : Int) = (k : Int) := IntWalk.u64_in _ (by omega)
            have a1 := i64_and1 r hr64
            obtain ⟨b, hb⟩ : ∃ b, r % 2 = b := ⟨_, rfl⟩
            rw [hb] at a1
            have wr1 : IntKind.i64.wrap (r : Int) = (r : Int) := IntWalk.i64_in _ (by omega)
            have wk : IntKind.i64.wrap ((k : Int) + 1) = (k : Int) + 1 := IntWalk.i64_in _ (by omega)
            have wy : IntKind.i64.wrap ((Y : Int) + (k : Int)) = (Y : Int) + (k : Int) := IntWalk.i64_in _ (by omega)
            by_cases hin : v / 2 ^ k % 2 = 1 ∧ Y + k < 16384
            · obtain rfl : b = 1 := by have := hin.1; rw [hr] at this; omega
              have g5 : decide (16384 ≤ (Y : Int) + (k : Int)) = false := decide_eq_false (by have := hin.2; omega)
              have HIN := Lib.hid hin
              clear hin hr hb
              obtain ⟨gkO, hgkO⟩ : ∃ g, g = gk := ⟨_, rfl⟩
              go_wp2
              go_loopg [11, 12] (0 - X) (fun gg xv _ wx => ∃ x : Nat, X ≤ x ∧ 0 ≤ gg + x ∧ (x ≤ 0 ∨ x = X) ∧ xv = .int .i64 (x : Int) ∧ Own .u8 5 wx pv4 (tab NN (paintF d1.p W1 v Y X 0 [c0, c1, c2, 255] k x)) ∧ Kept (fun i => pv4.ownBlock = some i) U3 wx)
              case atStart => exact ⟨X, Nat.le_refl _, by omega, .inr rfl, rfl, HO.out.1, HO.out.2⟩
              case round =>
                obtain ⟨x, hXx, hgx, hxc, rfl, hox, hkx⟩ := hrel
                have HOX := Lib.hid (And.intro hox hkx)
                clear hox hkx
                by_cases hxw : x < 0
                · exact absurd hxw (Nat.not_lt_zero _)
                · have gx : decide (x < 0) = false := decide_eq_false hxw
                  have ho2 : Own .u8 5 wr pv4 (tab NN (paintF d1.p W1 v Y X 0 [c0, c1, c2, 255] (k + 1) X)) := by rw [← paint_end _ _ _ _ _ _ _ _ _ x (by omega)]; exact HOX.out.1
                  have HO2 := Lib.hid ho2
                  clear ho2
                  go_wp2
                  go_roundg (gkO - 1)
                  case rel => exact ⟨k + 1, by omega, by omega, by simp, HO2.out, HOX.out.2⟩
                  case measure => omega
            · have ho2 : Own .u8 5 wr pv4 (tab NN (paintF d1.p W1 v Y X 0 [c0, c1, c2, 255] (k + 1) X)) := by rw [← paint_skip _ _ _ _ _ _ _ _ _ hin]; exact HO.out.1
              have HO2 := Lib.hid ho2
              clear ho2
              have hc : b = 0 ∨ (b = 1 ∧ 16384 ≤ Y + k) := by rw [hr] at hin; omega
              clear hin hr hb
              rcases hc with rfl | ⟨rfl, hc⟩
              · go_wp2
                go_roundg (gk - 1)
                case rel => exact ⟨k + 1, by omega, by omega, by simp, HO2.out, HO.out.2⟩
                case measure => omega
              · have g5 : decide (16384 ≤ (Y : Int) + (k : Int)) = true := decide_eq_true (by omega)
                go_wp2
                go_roundg (gk - 1)
                case rel => exact ⟨k + 1, by omega, by omega, by simp, HO2.out, HO.out.2⟩
                case measure => omega
          · obtain rfl : k = 6 := by omega
            have gk0 : decide (6 < 6) = false := by decide
            have hT := turn_w (d := { d1 with drawn := db }) HU.out.1 HU.out.2.2.1 HO4.out.2.2.1 HO4.out.2.2.2.1 HO4.out.2.2.2.2.1 HO4.out.2.2.2.2.2.1 HO.out.2 HO.out.1
            have hT2 := Turn.then HO4.out.2.2.2.2.2.2.1 HU.out.2.2.2.1 hT
            have cx' := hbr.fx.2
            have cx : wr.cell? ⟨a, 770, none⟩ = some (.int .i64 (X : Int)) := by rw [← HP1.out.2.2.2.2.1]; exact hbr.fx.1
            have wx : IntKind.i64.wrap ((X : Int) + (n : Int)) = (X : Int) + (n : Int) := IntWalk.i64_in _ (by omega)
            obtain ⟨V5, hV5⟩ : ∃ V, wr.setCell ⟨a, 770, none⟩ (.int .i64 ((X : Int) + (n : Int))) = V := ⟨_, rfl⟩
            have hb5 := hbr.sx ((X : Int) + (n : Int))
            rw [hV5] at hb5
            obtain ⟨cx5, cx5'⟩ := hb5.fx
            have hT5 := hT2.set (fun _ _ h => h.sx ((X : Int) + (n : Int))) rfl rfl
            rw [hV5] at hT5
            by_cases hfar : 1048576 < X + n
            · have gf : decide ((1048576 : Int) < (X : Int) + (n : Int)) = true := decide_eq_true (by omega)
              have hT6 := hT5.set (fun _ _ h => h.sx (1048576 : Int)) rfl rfl
              have HTF := Lib.hid hT6
              have HMN := Lib.hid (show min (X + n) 1048576 = 1048576 by omega)
              clear hT hT2 hT5 hT6 hbr hb5 hk
              go_wp2
              all_goals try go_end0
              refine ⟨rfl, ?_⟩
              rw [HRS.out, HMN.out]
              have h9 := HTF.out
              unfold paint
              rw [HN.out.1]
              exact h9
            · have gf : decide ((1048576 : Int) < (X : Int) + (n : Int)) = false := decide_eq_false (by omega)
              have HTF := Lib.hid hT5
              have HMN := Lib.hid (show ((min (X + n) 1048576 : Nat) : Int) = (X : Int) + (n : Int) by omega)
              clear hT hT2 hT5 hbr hb5 hk
              go_wp2
              all_goals try go_end0
              refine ⟨rfl, ?_⟩
              rw [HRS.out, HMN.out]
              have h9 := HTF.out
              unfold paint
              rw [HN.out.1]
              exact h9
      · have hwN1 : 1 ≤ wN ∧ wN ≤ 16384 := by have := HW.out.2.2; rw [if_neg h0] at this; omega
        have hwF1 : wF = X + n ∧ wN = min wF 16384 := by have := HW.out.2.2; have h2 := HWF.out; rw [if_neg h0] at this h2; omega
        have g9 : decide (0 < hh) = true := decide_eq_true (by omega)
        obtain ⟨W1, hW1⟩ : ∃ W1, max wN W0 = W1 := ⟨_, rfl⟩
        obtain ⟨H1, hH1⟩ : ∃ H1, max hh H0 = H1 := ⟨_, rfl⟩
        have hp1 : Picks wN W0 W1 := by rw [← hW1]; exact picks_max _ _
        have hp2 : Picks hh H0 H1 := by rw [← hH1]; exact picks_max _ _
        have hwl : wN ≤ W1 ∧ hh ≤ H1 := by omega
        have HMX := Lib.hid (And.intro hW1 hH1)
        have HPP := Lib.hid (And.intro hp1 hp2)
        have HGR := Lib.hid (dgrow_any G d W a wN hh W0 H0 W1 H1 M HD.out HPK.out.1 HPK.out.2.1 hp1 hp2 (by omega) (by omega))
        clear hW1 hH1 hp1 hp2
        obtain ⟨ok, hok⟩ : ∃ ok, growOk d W0 H0 W1 H1 = ok := ⟨_, rfl⟩
        rw [hok] at HGR
        have HOK := Lib.hid hok
        clear hok
        by_cases hcap : 16384 < wF
        · have gc : decide (16384 < wF) = true := decide_eq_true hcap
          have gc' : decide ((16384 : Int) < (wF : Int)) = true := decide_eq_true (by omega)
          obtain rfl : wN = 16384 := by omega
          clear hwF1 hcap
          go_wp2_with fail
          refine HGR.out.mono ?_
          rintro e w4 ⟨rfl, hT4⟩
          have HTG := Lib.hid hT4
          clear hT4
          cases ok with
          | false =>
            have HRS := Lib.hid (show RES = d.grow W0 H0 W1 H1 from by
              rw [← HRES.out]; unfold Dec.sixel; rw [HW.out.1, HW.out.2.1, if_neg h0, HMX.out.1, HMX.out.2, HOK.out, if_pos rfl])
            go_wp2
            exact bodyPost_ret (results_none rfl _ _ _) rfl ⟨rfl, by rw [HRS.out]; exact HTG.out⟩
          | true =>
            obtain ⟨q1, q2, q3, q4, q5, q6, q7⟩ := grow_pic HPK.out.1 HPK.out.2.1 HPP.out.1 HPP.out.2 hwN1 ⟨by omega, h16⟩ HOK.out
            have HRS0 := Lib.hid (show RES = { d.grow W0 H0 W1 H1 with drawn := true, p := paint (d.grow W0 H0 W1 H1).p W1 H1 v Y X 16384 [c0, c1, c2, 255], x := ((min (X + n) 1048576 : Nat) : Int) } from by
              rw [← HRES.out]; unfold Dec.sixel Dec.sixelNew; rw [HW.out.1, HW.out.2.1, if_neg h0, HMX.out.1, HMX.out.2, HOK.out, if_neg (by simp), HC.out.1, HC.out.2.1, HC.out.2.2]; simp [h0])
            obtain ⟨d1, hd1⟩ : ∃ d1, d.grow W0 H0 W1 H1 = d1 := ⟨_, rfl⟩
            rw [hd1] at q1 q2 q3 q4 q5 q6 q7 HTG HRS0
            have HRS := Lib.hid HRS0.out
            have HT4 := Lib.hid HTG.out
            have HP1 := Lib.hid (show PicOk d1 W1 H1 M ∧ d1.full = false ∧ d1.l = d.l ∧ d1.now = (K : Int) ∧ d1.x = (X : Int) ∧ d1.y = (Y : Int) from ⟨q1, q2, q3, by rw [q4]; exact HPK.out.2.2.2.2, by rw [q5]; exact HPK.out.2.2.1, by rw [q6]; exact HPK.out.2.2.2.1⟩)
            have HLIM := Lib.hid (show (∀ j, j < 6 → dotOn v Y X j → Y + j < H1) ∧ 16384 ≤ W1 ∧ 16384 ≤ 16384 from ⟨fun j hj h => by have := HDOT.out j hj h; omega, by omega, by omega⟩)
            clear q1 q2 q3 q4 q5 q6 q7 hd1 HGR HTG HRS0
            have hT4 := HT4.out
            obtain ⟨G4, ⟨pv4, nv4, hb4, hp4, hn4, o1, o2, o3, hG4⟩, hs4, hk4⟩ := hT4
            have HO4 := Lib.hid (And.intro hp4 (And.intro hn4 (And.intro o1 (And.intro o2 (And.intro o3 (And.intro hG4 (And.intro hs4 hk4)))))))
            have cd := hb4.fdrawn.1
            have cd' := hb4.fdrawn.2
            obtain ⟨V1, hV1⟩ : ∃ V, w4.setCell ⟨a, 776, none⟩ (.bool true) = V := ⟨_, rfl⟩
            have kV1 : Kept (fun j => j = a) w4 V1 := by rw [← hV1]; exact (Kept.refl (fun j => j = a) w4).setCell (p := ⟨a, 776, none⟩) (.inl rfl) _
            have hb1 : DBlk V1 a { d1 with drawn := true } pv4 nv4 := by rw [← hV1]; exact hb4.sdrawn true
            have hp1 : Own .u8 5 V1 pv4 d1.p := hp4.kept kV1 (fun b hb (hS : b = a) => o1 (by rw [hb, hS]))
            have hn1 : Own .i64 3 V1 nv4 d1.n := hn4.kept kV1 (fun b hb (hS : b = a) => o2 (by rw [hb, hS]))
            have hkG : Kept G W V1 := hk4.trans (kV1.mono fun i _ (hi : i = a) => by rw [hi]; exact hs4 a ((hG4 a).2 (.inl rfl)))
            have HV1 := Lib.hid (And.intro hb1 (And.intro hp1 (And.intro hn1 hkG)))
            clear hp1 hn1 hkG kV1
            obtain ⟨WR, hWR⟩ : ∃ WR, WR = V1.drew := ⟨_, rfl⟩
            have hkR : Kept (fun _ => False) V1 WR := by rw [hWR]; exact (Kept.refl _ _).drew
            have hbR := hb1.kept hkR id
            obtain ⟨z0, -⟩ := hbR.fnow
            have z0' : WR.cell? ⟨a, 772, none⟩ = some (.int .i64 (K : Int)) := by have h9 := z0; rw [show ({ d1 with drawn := true } : Dec).now = (K : Int) from HP1.out.2.2.2.1] at h9; exact h9
            have hLL : ({ d1 with drawn := true } : Dec).l = d.l := HP1.out.2.2.1
            have R0 : WR.cell? ⟨a, 2 + K * 3, none⟩ = some (.int .u8 c0) := by have h9 := (hbR.reg (3 * K) (by omega)).1; rw [hLL, HC.out.1] at h9; rw [Nat.mul_comm K 3]; exact h9
            have R1 : WR.cell? ⟨a, 2 + K * 3 + 1, none⟩ = some (.int .u8 c1) := by have h9 := (hbR.reg (3 * K + 1) (by omega)).1; rw [hLL, HC.out.2.1] at h9; rw [Nat.mul_comm K 3]; exact h9
            have R2 : WR.cell? ⟨a, 2 + K * 3 + 2, none⟩ = some (.int .u8 c2) := by have h9 := (hbR.reg (3 * K + 2) (by omega)).1; rw [hLL, HC.out.2.2] at h9; rw [Nat.mul_comm K 3]; exact h9
            have X0 := cell_regrown z0'
            have X1 := cell_regrown R0
            have X2 := cell_regrown R1
            have X3 := cell_regrown R2
            obtain ⟨RA, hRA⟩ : ∃ R : Value → World → Prop, R = fun v w' => ∃ q, v = .pointer (some ⟨q, 0, none⟩) ∧ WR.heap.size ≤ q ∧ w'.heap[q]? = some (.cells #[.int .u8 0, .int .u8 0, .int .u8 0] 23 (0, 0)) := ⟨_, rfl⟩
            have HRA := Lib.hid hRA
            have HWR := Lib.hid hWR
            have HKR := Lib.hid hkR
            have HYd := Lib.hid (show d1.y = (Y : Int) from by first | exact HP1.out.2.2.2.2.2.1 | exact HP1.out.2.2.2.2.2)
            have kk1 : (K : Int) < 256 := by omega
            clear hb4 hp4 hn4 o1 o2 o3 hG4 hs4 hk4 hb1 hWR hkR hbR z0 hLL hRA
            go_wp2
            refine wp_region_grow #[0, 0, 2, 6, 14, 1, 33, 127, 255, 0, 1023] 10 [] (fun i => if i = 9 then some RA else none) (by kernel_rfl) rfl (by kernel_rfl) (fun i hi => by cases hi) (fun _ _ _ _ _ h => h) ?_
            rintro _ rfl
            rw [← HWR.out]
            simp only [List.take_succ_cons, List.take_zero, List.drop_succ_cons, List.drop_zero, number, Nat.reduceAdd]
            repeat (refine wpGrow_step (fun K hK => ?_); go_simp; refine hK _ _ ?_; clear hK K)
            refine wpGrow_step (fun K hK => ?_)
            go_simp
            refine ⟨fun w' hg => ⟨(Kept.refl _ _).alloc _, by rw [HRA.out]; exact ⟨_, rfl, hg.old.size, blk_new _ _⟩⟩, fun v9 wa hv9 _ => ?_⟩
            rw [HRA.out] at hv9
            obtain ⟨Q9, rfl, hq9, hqb⟩ := hv9
            refine hK _ _ ?_; clear hK K
            refine wpGrow_nil ?_
            intro w9 hk9 hω
            have hqb9 : w9.heap[Q9]? = _ := Kept.blk (show Kept _ wa w9 from hω 9) hqb id
            obtain ⟨U1, U2, U3, f1, f2, f3, ⟨e1, e1'⟩, ⟨e2, e2'⟩, ⟨e3, e3'⟩, hcV, hkV⟩ := store3 hqb9 (.int .u8 c0) (.int .u8 c1) (.int .u8 c2)
            clear hω z0' R0 R1 R2 X0 X1 X2 X3
            go_wp2
            have hq9' : V1.heap.size ≤ Q9 := by rw [HWR.out] at hq9; exact hq9
            have kU : Kept (fun j => j = Q9) V1 U3 := ((HKR.out.then hk9).mono fun _ _ h => h.elim).then hkV
            have hbU := HV1.out.1.kept kU (fun (h : a = Q9) => by have := HV1.out.1.lt; omega)
            have hpU : Own .u8 5 U3 pv4 d1.p := HV1.out.2.1.kept kU (fun b hb (hS : b = Q9) => by have := HV1.out.2.1.lt b hb; omega)
            have hnU : Own .i64 3 U3 nv4 d1.n := HV1.out.2.2.1.kept kU (fun b hb (hS : b = Q9) => by have := HV1.out.2.2.1.lt b hb; omega)
            have hkGU : Kept G W U3 := HV1.out.2.2.2.trans (kU.mono fun i _ (hi : i = Q9) => Or.inr (by have := HV1.out.2.2.2.size; omega))
            have hQpv : pv4.ownBlock ≠ some Q9 := fun h => by have := HV1.out.2.1.lt Q9 h; omega
            have HU := Lib.hid (And.intro hbU (And.intro hpU (And.intro hnU (And.intro hkGU (And.intro hcV hQpv)))))
            obtain ⟨NN, hNN⟩ : ∃ NN, 4 * W1 * H1 = NN := ⟨_, rfl⟩
            have hPl : d1.p.length = NN := by rw [HP1.out.1.p HP1.out.2.1, hNN]
            have HN := Lib.hid (And.intro hNN hPl)
            clear hq9' kU hbU hpU hnU hkGU hQpv hNN hPl hcV hkV hk9 hqb9 hqb hq9 f1 f2 f3 e1 e1' e2 e2' e3 e3'
            try clear cd cd' hV1
            go_loopg [10, 11, 12] 6 (fun gg kv _ _ wr => ∃ k : Nat, 6 ≤ gg + k ∧ k ≤ 6 ∧ kv = .int .i64 (k : Int) ∧ Own .u8 5 wr pv4 (tab NN (paintF d1.p W1 v Y X 16384 [c0, c1, c2, 255] k X)) ∧ Kept (fun i => pv4.ownBlock = some i) U3 wr)
            case atStart => exact ⟨0, by omega, by omega, rfl, by rw [paint_start _ _ _ _ _ _ _ _ HN.out.2]; exact HU.out.2.1, Kept.refl _ _⟩
            case round =>
              obtain ⟨k, hgg, hk6, rfl, ho, hk⟩ := hrel
              have HO := Lib.hid (And.intro ho hk)
              have hbr := HU.out.1.kept hk HO4.out.2.2.1
              clear ho hk
              by_cases hk : k < 6
              · have gk0 : decide (k < 6) = true := decide_eq_true hk
                have cx : wr.cell? ⟨a, 770, none⟩ = some (.int .i64 (X : Int)) := by rw [← HP1.out.2.2.2.2.1]; exact hbr.fx.1
                have cy : wr.cell? ⟨a, 771, none⟩ = some (.int .i64 (Y : Int)) := by rw [← HYd.out]; exact hbr.fy.1
                clear hbr
                obtain ⟨r, hr⟩ : ∃ r, v / 2 ^ k = r := ⟨_, rfl⟩
                have hr64 : r < 64 := by rw [← hr]; exact Nat.lt_of_le_of_lt (Nat.div_le_self _ _) hv
                have sh0 : min k 64 = k := by omega
                have sh1 : (v : Int) / 2 ^ k = (r : Int) := by rw [← hr]; simp
                have nk : ¬ (k : Int) < 0 := by omega
                have kw : IntKind.u64.wrap (k : Int) = (k : Int) := IntWalk.u64_in _ (by omega)
                have a1 := i64_and1 r hr64
                obtain ⟨b, hb⟩ : ∃ b, r % 2 = b := ⟨_, rfl⟩
                rw [hb] at a1
                have wr1 : IntKind.i64.wrap (r : Int) = (r : Int) := IntWalk.i64_in _ (by omega)
                have wk : IntKind.i64.wrap ((k : Int) + 1) = (k : Int) + 1 := IntWalk.i64_in _ (by omega)
                have wy : IntKind.i64.wrap ((Y : Int) + (k : Int)) = (Y : Int) + (k : Int) := IntWalk.i64_in _ (by omega)
                by_cases hin : v / 2 ^ k % 2 = 1 ∧ Y + k < 16384
                · obtain rfl : b = 1 := by have := hin.1; rw [hr] at this; omega
                  have g5 : decide (16384 ≤ (Y : Int) + (k : Int)) = false := decide_eq_false (by have := hin.2; omega)
                  have HIN := Lib.hid hin
                  clear hin hr hb
                  obtain ⟨gkO, hgkO⟩ : ∃ g, g = gk := ⟨_, rfl⟩
                  go_wp2
                  go_loopg [11, 12] (16384 - X) (fun gg xv _ wx => ∃ x : Nat, X ≤ x ∧ 16384 ≤ gg + x ∧ (x ≤ 16384 ∨ x = X) ∧ xv = .int .i64 (x : Int) ∧ Own .u8 5 wx pv4 (tab NN (paintF d1.p W1 v Y X 16384 [c0, c1, c2, 255] k x)) ∧ Kept (fun i => pv4.ownBlock = some i) U3 wx)
                  case atStart => exact ⟨X, Nat.le_refl _, by omega, .inr rfl, rfl, HO.out.1, HO.out.2⟩
                  case round =>
                    obtain ⟨x, hXx, hgx, hxc, rfl, hox, hkx⟩ := hrel
                    have HOX := Lib.hid (And.intro hox hkx)
                    clear hox hkx
                    by_cases hxw : x < 16384
                    · have gx : decide (x < 16384) = true := decide_eq_true hxw
                      have hlim := HLIM.out
                      have hyH := hlim.1 k hk ⟨HIN.out.1, HIN.out.2, by omega⟩
                      have hyH1 : Y + k + 1 ≤ H1 := hyH
                      have hxW : x < W1 := by have := hlim.2.1; omega
                      obtain ⟨m1, hm1⟩ : ∃ m1, (Y + k) * W1 = m1 := ⟨_, rfl⟩
                      have hle : 4 * (m1 + x) + 4 ≤ NN := by
                        rw [← HN.out.1, ← hm1]
                        have h1 : (Y + k + 1) * W1 ≤ H1 * W1 := Nat.mul_le_mul_right _ hyH1
                        rw [Nat.add_mul, Nat.one_mul] at h1
                        rw [Nat.mul_assoc, Nat.mul_comm W1 H1]
                        omega
                      have hNNb : NN ≤ 1073741824 := by
                        rw [← HN.out.1, Nat.mul_assoc]
                        have h1 : W1 * H1 ≤ 16384 * 16384 := Nat.mul_le_mul HP1.out.1.wb HP1.out.1.hb
                        omega
                      obtain ⟨g, pc2, hpv2, hgc, hgm⟩ := Own.row HU.out.2.1 (by rw [HN.out.2]; omega)
                      rw [HN.out.2] at hpv2 hgc
                      obtain ⟨o, ho⟩ : ∃ o, 4 * (m1 + x) = o := ⟨_, rfl⟩
                      have hst := paint_step d1.p W1 H1 v Y X 16384 c0 c1 c2 255 k x hxW hxw hXx HIN.out.1 HIN.out.2 hyH1
                      rw [hm1, ho, HN.out.1] at hst
                      have q1 : ((Y : Int) + (k : Int)) * (W1 : Int) = (m1 : Int) := by rw [← hm1]; simp
                      have q2 : IntKind.i64.wrap (m1 : Int) = (m1 : Int) := IntWalk.i64_in _ (by omega)
                      have q3 : IntKind.i64.wrap ((m1 : Int) + (x : Int)) = (m1 : Int) + (x : Int) := IntWalk.i64_in _ (by omega)
                      have q4 : IntKind.i64.wrap (4 * ((m1 : Int) + (x : Int))) = (o : Int) := by rw [IntWalk.i64_in _ (by omega)]; omega
                      have q9 : IntKind.i64.wrap ((x : Int) + 1) = (x : Int) + 1 := IntWalk.i64_in _ (by omega)
                      have y1 : IntKind.i64.wrap ((o : Int) + 1) = (o : Int) + 1 := IntWalk.i64_in _ (by omega)
                      have y2 : IntKind.i64.wrap ((o : Int) + 2) = (o : Int) + 2 := IntWalk.i64_in _ (by omega)
                      have y3 : IntKind.i64.wrap ((o : Int) + 3) = (o : Int) + 3 := IntWalk.i64_in _ (by omega)
                      have l0 : o < NN := by omega
                      have l0' : (o : Int) < (NN : Int) := by omega
                      have l1 : (o : Int) + 1 < (NN : Int) := by omega
                      have l2 : (o : Int) + 2 < (NN : Int) := by omega
                      have l3 : (o : Int) + 3 < (NN : Int) := by omega
                      have l1' : 0 ≤ (o : Int) + 1 := by omega
                      have l2' : 0 ≤ (o : Int) + 2 := by omega
                      have l3' : 0 ≤ (o : Int) + 3 := by omega
                      have t1 : ((o : Int) + 1).toNat = o + 1 := by omega
                      have t2 : ((o : Int) + 2).toNat = o + 2 := by omega
                      have t3 : ((o : Int) + 3).toNat = o + 3 := by omega
                      have s0 : Pst U3 a g NN pc2 Q9 { d1 with drawn := true } pv4 nv4 #[.int .u8 c0, .int .u8 c1, .int .u8 c2] wr (tab NN (paintF d1.p W1 v Y X 16384 [c0, c1, c2, 255] k x)) :=
                        ⟨hpv2, HOX.out.1, HU.out.1.kept HOX.out.2 HO4.out.2.2.1, HOX.out.2.blk HU.out.2.2.2.2.1 HU.out.2.2.2.2.2, HOX.out.2.mono (fun i _ hi => by rw [hpv2] at hi; exact (Option.some.inj hi).symm), fun h => HO4.out.2.2.1 (by rw [hpv2, ← h]; rfl), fun h => HU.out.2.2.2.2.2 (by rw [hpv2, ← h]; rfl)⟩
                      obtain ⟨Q1, hQ1⟩ : ∃ D, wr.drew = D := ⟨_, rfl⟩
                      have s1 := s0.drew
                      rw [hQ1] at s1
                      obtain ⟨Q2, hQ2⟩ : ∃ D, Q1.drew = D := ⟨_, rfl⟩
                      have s2 := s1.drew
                      rw [hQ2] at s2
                      obtain ⟨P0, hP0⟩ : ∃ D, Q2.setCell ⟨g, o, none⟩ (.int .u8 c0) = D := ⟨_, rfl⟩
                      have s3 := s2.set (i := o) (by omega) c0
                      rw [hP0] at s3
                      obtain ⟨Q3, hQ3⟩ : ∃ D, P0.drew = D := ⟨_, rfl⟩
                      have s4 := s3.drew
                      rw [hQ3] at s4
                      obtain ⟨P1, hP1⟩ : ∃ D, Q3.setCell ⟨g, o + 1, none⟩ (.int .u8 c1) = D := ⟨_, rfl⟩
                      have s5 := s4.set (i := o + 1) (by omega) c1
                      rw [hP1] at s5
                      obtain ⟨Q4, hQ4⟩ : ∃ D, P1.drew = D := ⟨_, rfl⟩
                      have s6 := s5.drew
                      rw [hQ4] at s6
                      obtain ⟨P2, hP2⟩ : ∃ D, Q4.setCell ⟨g, o + 2, none⟩ (.int .u8 c2) = D := ⟨_, rfl⟩
                      have s7 := s6.set (i := o + 2) (by omega) c2
                      rw [hP2] at s7
                      obtain ⟨P3, hP3⟩ : ∃ D, P2.setCell ⟨g, o + 3, none⟩ (.int .u8 255) = D := ⟨_, rfl⟩
                      have s8 := s7.set (i := o + 3) (by omega) 255
                      rw [hP3, set4_spl _ _ _ _ _ _ (by rw [tab_length]; omega), hst] at s8
                      have S8 := Lib.hid s8
                      subst hpv2
                      have z1y : Q1.cell? ⟨a, 771, none⟩ = some (.int .i64 (Y : Int)) := by rw [← HYd.out]; exact s1.2.2.1.fy.1
                      have z1w : Q1.cell? ⟨a, 773, none⟩ = some (.int .i64 (W1 : Int)) := by rw [← HP1.out.1.w]; exact s1.2.2.1.fw.1
                      obtain ⟨zp2, -⟩ := s2.2.2.1.fp
                      obtain ⟨zp3, -⟩ := s4.2.2.1.fp
                      obtain ⟨zp4, -⟩ := s6.2.2.1.fp
                      obtain ⟨zp5, -⟩ := s7.2.2.1.fp
                      obtain ⟨⟨u0, -⟩, -, -⟩ := blk3 s2.2.2.2.1
                      obtain ⟨-, ⟨u1, -⟩, -⟩ := blk3 s4.2.2.2.1
                      obtain ⟨-, -, u2, -⟩ := blk3 s6.2.2.2.1
                      have x0 := s2.2.1.at.2.2.2.1 o (by omega)
                      have x0' := s2.2.1.at.2.2.2.2 o
                      have x1 := s4.2.1.at.2.2.2.1 (o + 1) (by omega)
                      have x1' := s4.2.1.at.2.2.2.2 (o + 1)
                      have x2 := s6.2.1.at.2.2.2.1 (o + 2) (by omega)
                      have x2' := s6.2.1.at.2.2.2.2 (o + 2)
                      have x3 := s7.2.1.at.2.2.2.1 (o + 3) (by omega)
                      have x3' := s7.2.1.at.2.2.2.2 (o + 3)
                      obtain ⟨A0, hA0⟩ : ∃ A, (tab NN (paintF d1.p W1 v Y X 16384 [c0, c1, c2, 255] k x)).getD o 0 = A := ⟨_, rfl⟩
                      rw [hA0] at x0
                      generalize ((tab NN (paintF d1.p W1 v Y X 16384 [c0, c1, c2, 255] k x)).set o c0).getD (o + 1) 0 = A1 at x1
                      generalize (((tab NN (paintF d1.p W1 v Y X 16384 [c0, c1, c2, 255] k x)).set o c0).set (o + 1) c1).getD (o + 2) 0 = A2 at x2
                      generalize ((((tab NN (paintF d1.p W1 v Y X 16384 [c0, c1, c2, 255] k x)).set o c0).set (o + 1) c1).set (o + 2) c2).getD (o + 3) 0 = A3 at x3
                      clear hst hm1 hle hyH hyH1 hxW ho hlim cx cy s0 s1 s2 s3 s4 s5 s6 s7 s8 hA0
                      go_wp2
                      go_still (by kernel_rfl)
                      rw [show (World.mk wr.heap wr.tape (wr.drawn + 1) wr.os wr.output) = Q1 from hQ1]
                      go_wp2
                      go_still_tail 8, (by kernel_rfl)
                      change wpList _ _ _ _ _ Q1.drew
                      rw [hQ2]
                      go_wp2
                      go_still_tail 9, (by kernel_rfl)
                      change wpList _ _ _ _ _ P0.drew
                      rw [hQ3]
                      go_wp2
                      go_still_tail 9, (by kernel_rfl)
                      change wpList _ _ _ _ _ P1.drew
                      rw [hQ4]
                      go_wp2
                      have S9 := Lib.hid (show Own .u8 5 P3 (.slice (some ⟨g, 0, none⟩) NN pc2) (tab NN (paintF d1.p W1 v Y X 16384 [c0, c1, c2, 255] k (x + 1))) ∧ Kept (fun i => (Value.slice (some ⟨g, 0, none⟩) NN pc2).ownBlock = some i) U3 P3 from ⟨S8.out.2.1, S8.out.2.2.2.2.1.mono fun i _ (hi : i = g) => by rw [hi]; rfl⟩)
                      go_roundg (gk - 1)
                      case rel => exact ⟨x + 1, by omega, by omega, .inl (by omega), by simp, S9.out⟩
                      case measure => omega
                    · have gx : decide (x < 16384) = false := decide_eq_false hxw
                      have ho2 : Own .u8 5 wr pv4 (tab NN (paintF d1.p W1 v Y X 16384 [c0, c1, c2, 255] (k + 1) X)) := by rw [← paint_end _ _ _ _ _ _ _ _ _ x (by omega)]; exact HOX.out.1
                      have HO2 := Lib.hid ho2
                      clear ho2
                      go_wp2
                      go_roundg (gkO - 1)
                      case rel => exact ⟨k + 1, by omega, by omega, by simp, HO2.out, HOX.out.2⟩
                      case measure => omega
                · have ho2 : Own .u8 5 wr pv4 (tab NN (paintF d1.p W1 v Y X 16384 [c0, c1, c2, 255] (k + 1) X)) := by rw [← paint_skip _ _ _ _ _ _ _ _ _ hin]; exact HO.out.1
                  have HO2 := Lib.hid ho2
                  clear ho2
                  have hc : b = 0 ∨ (b = 1 ∧ 16384 ≤ Y + k) := by rw [hr] at hin; omega
                  clear hin hr hb
                  rcases hc with rfl | ⟨rfl, hc⟩
                  · go_wp2
                    go_roundg (gk - 1)
                    case rel => exact ⟨k + 1, by omega, by omega, by simp, HO2.out, HO.out.2⟩
                    case measure => omega
                  · have g5 : decide (16384 ≤ (Y : Int) + (k : Int)) = true := decide_eq_true (by omega)
                    go_wp2
                    go_roundg (gk - 1)
                    case rel => exact ⟨k + 1, by omega, by omega, by simp, HO2.out, HO.out.2⟩
                    case measure => omega
              · obtain rfl : k = 6 := by omega
                have gk0 : decide (6 < 6) = false := by decide
                have hT := turn_w (d := { d1 with drawn := true }) HU.out.1 HU.out.2.2.1 HO4.out.2.2.1 HO4.out.2.2.2.1 HO4.out.2.2.2.2.1 HO4.out.2.2.2.2.2.1 HO.out.2 HO.out.1
                have hT2 := Turn.then HO4.out.2.2.2.2.2.2.1 HU.out.2.2.2.1 hT
                have cx' := hbr.fx.2
                have cx : wr.cell? ⟨a, 770, none⟩ = some (.int .i64 (X : Int)) := by rw [← HP1.out.2.2.2.2.1]; exact hbr.fx.1
                have wx : IntKind.i64.wrap ((X : Int) + (n : Int)) = (X : Int) + (n : Int) := IntWalk.i64_in _ (by omega)
                obtain ⟨V5, hV5⟩ : ∃ V, wr.setCell ⟨a, 770, none⟩ (.int .i64 ((X : Int) + (n : Int))) = V := ⟨_, rfl⟩
                have hb5 := hbr.sx ((X : Int) + (n : Int))
                rw [hV5] at hb5
                obtain ⟨cx5, cx5'⟩ := hb5.fx
                have hT5 := hT2.set (fun _ _ h => h.sx ((X : Int) + (n : Int))) rfl rfl
                rw [hV5] at hT5
                by_cases hfar : 1048576 < X + n
                · have gf : decide ((1048576 : Int) < (X : Int) + (n : Int)) = true := decide_eq_true (by omega)
                  have hT6 := hT5.set (fun _ _ h => h.sx (1048576 : Int)) rfl rfl
                  have HTF := Lib.hid hT6
                  have HMN := Lib.hid (show min (X + n) 1048576 = 1048576 by omega)
                  clear hT hT2 hT5 hT6 hbr hb5 hk
                  go_wp2
                  all_goals try go_end0
                  refine ⟨rfl, ?_⟩
                  rw [HRS.out, HMN.out]
                  have h9 := HTF.out
                  unfold paint
                  rw [HN.out.1]
                  exact h9
                · have gf : decide ((1048576 : Int) < (X : Int) + (n : Int)) = false := decide_eq_false (by omega)
                  have HTF := Lib.hid hT5
                  have HMN := Lib.hid (show ((min (X + n) 1048576 : Nat) : Int) = (X : Int) + (n : Int) by omega)
                  clear hT hT2 hT5 hbr hb5 hk
                  go_wp2
                  all_goals try go_end0
                  refine ⟨rfl, ?_⟩
                  rw [HRS.out, HMN.out]
                  have h9 := HTF.out
                  unfold paint
                  rw [HN.out.1]
                  exact h9
        · have gc : decide (16384 < wF) = false := decide_eq_false hcap
          have gc' : decide ((16384 : Int) < (wF : Int)) = false := decide_eq_false (by omega)
          obtain rfl : wN = wF := by omega
          clear hwF1
          go_wp2_with fail
          refine HGR.out.mono ?_
          rintro e w4 ⟨rfl, hT4⟩
          have HTG := Lib.hid hT4
          clear hT4
          cases ok with
          | false =>
            have HRS := Lib.hid (show RES = d.grow W0 H0 W1 H1 from by
              rw [← HRES.out]; unfold Dec.sixel; rw [HW.out.1, HW.out.2.1, if_neg h0, HMX.out.1, HMX.out.2, HOK.out, if_pos rfl])
            go_wp2
            exact bodyPost_ret (results_none rfl _ _ _) rfl ⟨rfl, by rw [HRS.out]; exact HTG.out⟩
          | true =>
            obtain ⟨q1, q2, q3, q4, q5, q6, q7⟩ := grow_pic HPK.out.1 HPK.out.2.1 HPP.out.1 HPP.out.2 hwN1 ⟨by omega, h16⟩ HOK.out
            have HRS0 := Lib.hid (show RES = { d.grow W0 H0 W1 H1 with drawn := true, p := paint (d.grow W0 H0 W1 H1).p W1 H1 v Y X wN [c0, c1, c2, 255], x := ((min (X + n) 1048576 : Nat) : Int) } from by
              rw [← HRES.out]; unfold Dec.sixel Dec.sixelNew; rw [HW.out.1, HW.out.2.1, if_neg h0, HMX.out.1, HMX.out.2, HOK.out, if_neg (by simp), HC.out.1, HC.out.2.1, HC.out.2.2]; simp [h0])
            obtain ⟨d1, hd1⟩ : ∃ d1, d.grow W0 H0 W1 H1 = d1 := ⟨_, rfl⟩
            rw [hd1] at q1 q2 q3 q4 q5 q6 q7 HTG HRS0
            have HRS := Lib.hid HRS0.out
            have HT4 := Lib.hid HTG.out
            have HP1 := Lib.hid (show PicOk d1 W1 H1 M ∧ d1.full = false ∧ d1.l = d.l ∧ d1.now = (K : Int) ∧ d1.x = (X : Int) ∧ d1.y = (Y : Int) from ⟨q1, q2, q3, by rw [q4]; exact HPK.out.2.2.2.2, by rw [q5]; exact HPK.out.2.2.1, by rw [q6]; exact HPK.out.2.2.2.1⟩)
            have HLIM := Lib.hid (show (∀ j, j < 6 → dotOn v Y X j → Y + j < H1) ∧ wN ≤ W1 ∧ wN ≤ 16384 from ⟨fun j hj h => by have := HDOT.out j hj h; omega, by omega, by omega⟩)
            clear q1 q2 q3 q4 q5 q6 q7 hd1 HGR HTG HRS0
            have hT4 := HT4.out
            obtain ⟨G4, ⟨pv4, nv4, hb4, hp4, hn4, o1, o2, o3, hG4⟩, hs4, hk4⟩ := hT4
            have HO4 := Lib.hid (And.intro hp4 (And.intro hn4 (And.intro o1 (And.intro o2 (And.intro o3 (And.intro hG4 (And.intro hs4 hk4)))))))
            have cd := hb4.fdrawn.1
            have cd' := hb4.fdrawn.2
            obtain ⟨V1, hV1⟩ : ∃ V, w4.setCell ⟨a, 776, none⟩ (.bool true) = V := ⟨_, rfl⟩
            have kV1 : Kept (fun j => j = a) w4 V1 := by rw [← hV1]; exact (Kept.refl (fun j => j = a) w4).setCell (p := ⟨a, 776, none⟩) (.inl rfl) _
            have hb1 : DBlk V1 a { d1 with drawn := true } pv4 nv4 := by rw [← hV1]; exact hb4.sdrawn true
            have hp1 : Own .u8 5 V1 pv4 d1.p := hp4.kept kV1 (fun b hb (hS : b = a) => o1 (by rw [hb, hS]))
            have hn1 : Own .i64 3 V1 nv4 d1.n := hn4.kept kV1 (fun b hb (hS : b = a) => o2 (by rw [hb, hS]))
            have hkG : Kept G W V1 := hk4.trans (kV1.mono fun i _ (hi : i = a) => by rw [hi]; exact hs4 a ((hG4 a).2 (.inl rfl)))
            have HV1 := Lib.hid (And.intro hb1 (And.intro hp1 (And.intro hn1 hkG)))
            clear hp1 hn1 hkG kV1
            obtain ⟨WR, hWR⟩ : ∃ WR, WR = V1.drew := ⟨_, rfl⟩
            have hkR : Kept (fun _ => False) V1 WR := by rw [hWR]; exact (Kept.refl _ _).drew
            have hbR := hb1.kept hkR id
            obtain ⟨z0, -⟩ := hbR.fnow
            have z0' : WR.cell? ⟨a, 772, none⟩ = some (.int .i64 (K : Int)) := by have h9 := z0; rw [show ({ d1 with drawn := true } : Dec).now = (K : Int) from HP1.out.2.2.2.1] at h9; exact h9
            have hLL : ({ d1 with drawn := true } : Dec).l = d.l := HP1.out.2.2.1
            have R0 : WR.cell? ⟨a, 2 + K * 3, none⟩ = some (.int .u8 c0) := by have h9 := (hbR.reg (3 * K) (by omega)).1; rw [hLL, HC.out.1] at h9; rw [Nat.mul_comm K 3]; exact h9
            have R1 : WR.cell? ⟨a, 2 + K * 3 + 1, none⟩ = some (.int .u8 c1) := by have h9 := (hbR.reg (3 * K + 1) (by omega)).1; rw [hLL, HC.out.2.1] at h9; rw [Nat.mul_comm K 3]; exact h9
            have R2 : WR.cell? ⟨a, 2 + K * 3 + 2, none⟩ = some (.int .u8 c2) := by have h9 := (hbR.reg (3 * K + 2) (by omega)).1; rw [hLL, HC.out.2.2] at h9; rw [Nat.mul_comm K 3]; exact h9
            have X0 := cell_regrown z0'
            have X1 := cell_regrown R0
            have X2 := cell_regrown R1
            have X3 := cell_regrown R2
            obtain ⟨RA, hRA⟩ : ∃ R : Value → World → Prop, R = fun v w' => ∃ q, v = .pointer (some ⟨q, 0, none⟩) ∧ WR.heap.size ≤ q ∧ w'.heap[q]? = some (.cells #[.int .u8 0, .int .u8 0, .int .u8 0] 23 (0, 0)) := ⟨_, rfl⟩
            have HRA := Lib.hid hRA
            have HWR := Lib.hid hWR
            have HKR := Lib.hid hkR
            have HYd := Lib.hid (show d1.y = (Y : Int) from by first | exact HP1.out.2.2.2.2.2.1 | exact HP1.out.2.2.2.2.2)
            have kk1 : (K : Int) < 256 := by omega
            clear hb4 hp4 hn4 o1 o2 o3 hG4 hs4 hk4 hb1 hWR hkR hbR z0 hLL hRA
            go_wp2
            refine wp_region_grow #[0, 0, 2, 6, 14, 1, 33, 127, 255, 0, 1023] 10 [] (fun i => if i = 9 then some RA else none) (by kernel_rfl) rfl (by kernel_rfl) (fun i hi => by cases hi) (fun _ _ _ _ _ h => h) ?_
            rintro _ rfl
            rw [← HWR.out]
            simp only [List.take_succ_cons, List.take_zero, List.drop_succ_cons, List.drop_zero, number, Nat.reduceAdd]
            repeat (refine wpGrow_step (fun K hK => ?_); go_simp; refine hK _ _ ?_; clear hK K)
            refine wpGrow_step (fun K hK => ?_)
            go_simp
            refine ⟨fun w' hg => ⟨(Kept.refl _ _).alloc _, by rw [HRA.out]; exact ⟨_, rfl, hg.old.size, blk_new _ _⟩⟩, fun v9 wa hv9 _ => ?_⟩
            rw [HRA.out] at hv9
            obtain ⟨Q9, rfl, hq9, hqb⟩ := hv9
            refine hK _ _ ?_; clear hK K
            refine wpGrow_nil ?_
            intro w9 hk9 hω
            have hqb9 : w9.heap[Q9]? = _ := Kept.blk (show Kept _ wa w9 from hω 9) hqb id
            obtain ⟨U1, U2, U3, f1, f2, f3, ⟨e1, e1'⟩, ⟨e2, e2'⟩, ⟨e3, e3'⟩, hcV, hkV⟩ := store3 hqb9 (.int .u8 c0) (.int .u8 c1) (.int .u8 c2)
            clear hω z0' R0 R1 R2 X0 X1 X2 X3
            go_wp2
            have hq9' : V1.heap.size ≤ Q9 := by rw [HWR.out] at hq9; exact hq9
            have kU : Kept (fun j => j = Q9) V1 U3 := ((HKR.out.then hk9).mono fun _ _ h => h.elim).then hkV
            have hbU := HV1.out.1.kept kU (fun (h : a = Q9) => by have := HV1.out.1.lt; omega)
            have hpU : Own .u8 5 U3 pv4 d1.p := HV1.out.2.1.kept kU (fun b hb (hS : b = Q9) => by have := HV1.out.2.1.lt b hb; omega)
            have hnU : Own .i64 3 U3 nv4 d1.n := HV1.out.2.2.1.kept kU (fun b hb (hS : b = Q9) => by have := HV1.out.2.2.1.lt b hb; omega)
            have hkGU : Kept G W U3 := HV1.out.2.2.2.trans (kU.mono fun i _ (hi : i = Q9) => Or.inr (by have := HV1.out.2.2.2.size; omega))
            have hQpv : pv4.ownBlock ≠ some Q9 := fun h => by have := HV1.out.2.1.lt Q9 h; omega
            have HU := Lib.hid (And.intro hbU (And.intro hpU (And.intro hnU (And.intro hkGU (And.intro hcV hQpv)))))
            obtain ⟨NN, hNN⟩ : ∃ NN, 4 * W1 * H1 = NN := ⟨_, rfl⟩
            have hPl : d1.p.length = NN := by rw [HP1.out.1.p HP1.out.2.1, hNN]
            have HN := Lib.hid (And.intro hNN hPl)
            clear hq9' kU hbU hpU hnU hkGU hQpv hNN hPl hcV hkV hk9 hqb9 hqb hq9 f1 f2 f3 e1 e1' e2 e2' e3 e3'
            try clear cd cd' hV1
            go_loopg [10, 11, 12] 6 (fun gg kv _ _ wr => ∃ k : Nat, 6 ≤ gg + k ∧ k ≤ 6 ∧ kv = .int .i64 (k : Int) ∧ Own .u8 5 wr pv4 (tab NN (paintF d1.p W1 v Y X wN [c0, c1, c2, 255] k X)) ∧ Kept (fun i => pv4.ownBlock = some i) U3 wr)
            case atStart => exact ⟨0, by omega, by omega, rfl, by rw [paint_start _ _ _ _ _ _ _ _ HN.out.2]; exact HU.out.2.1, Kept.refl _ _⟩
            case round =>
              obtain ⟨k, hgg, hk6, rfl, ho, hk⟩ := hrel
              have HO := Lib.hid (And.intro ho hk)
              have hbr := HU.out.1.kept hk HO4.out.2.2.1
              clear ho hk
              by_cases hk : k < 6
              · have gk0 : decide (k < 6) = true := decide_eq_true hk
                have cx : wr.cell? ⟨a, 770, none⟩ = some (.int .i64 (X : Int)) := by rw [← HP1.out.2.2.2.2.1]; exact hbr.fx.1
                have cy : wr.cell? ⟨a, 771, none⟩ = some (.int .i64 (Y : Int)) := by rw [← HYd.out]; exact hbr.fy.1
                clear hbr
                obtain ⟨r, hr⟩ : ∃ r, v / 2 ^ k = r := ⟨_, rfl⟩
                have hr64 : r < 64 := by rw [← hr]; exact Nat.lt_of_le_of_lt (Nat.div_le_self _ _) hv
                have sh0 : min k 64 = k := by omega
                have sh1 : (v : Int) / 2 ^ k = (r : Int) := by rw [← hr]; simp
                have nk : ¬ (k : Int) < 0 := by omega
                have kw : IntKind.u64.wrap (k : Int) = (k : Int) := IntWalk.u64_in _ (by omega)
                have a1 := i64_and1 r hr64
                obtain ⟨b, hb⟩ : ∃ b, r % 2 = b := ⟨_, rfl⟩
                rw [hb] at a1
                have wr1 : IntKind.i64.wrap (r : Int) = (r : Int) := IntWalk.i64_in _ (by omega)
                have wk : IntKind.i64.wrap ((k : Int) + 1) = (k : Int) + 1 := IntWalk.i64_in _ (by omega)
                have wy : IntKind.i64.wrap ((Y : Int) + (k : Int)) = (Y : Int) + (k : Int) := IntWalk.i64_in _ (by omega)
                by_cases hin : v / 2 ^ k % 2 = 1 ∧ Y + k < 16384
                · obtain rfl : b = 1 := by have := hin.1; rw [hr] at this; omega
                  have g5 : decide (16384 ≤ (Y : Int) + (k : Int)) = false := decide_eq_false (by have := hin.2; omega)
                  have HIN := Lib.hid hin
                  clear hin hr hb
                  obtain ⟨gkO, hgkO⟩ : ∃ g, g = gk := ⟨_, rfl⟩
                  go_wp2
                  go_loopg [11, 12] (wN - X) (fun gg xv _ wx => ∃ x : Nat, X ≤ x ∧ wN ≤ gg + x ∧ (x ≤ wN ∨ x = X) ∧ xv = .int .i64 (x : Int) ∧ Own .u8 5 wx pv4 (tab NN (paintF d1.p W1 v Y X wN [c0, c1, c2, 255] k x)) ∧ Kept (fun i => pv4.ownBlock = some i) U3 wx)
                  case atStart => exact ⟨X, Nat.le_refl _, by omega, .inr rfl, rfl, HO.out.1, HO.out.2⟩
                  case round =>
                    obtain ⟨x, hXx, hgx, hxc, rfl, hox, hkx⟩ := hrel
                    have HOX := Lib.hid (And.intro hox hkx)
                    clear hox hkx
                    by_cases hxw : x < wN
                    · have gx : decide (x < wN) = true := decide_eq_true hxw
                      have hlim := HLIM.out
                      have hyH := hlim.1 k hk ⟨HIN.out.1, HIN.out.2, by omega⟩
                      have hyH1 : Y + k + 1 ≤ H1 := hyH
                      have hxW : x < W1 := by have := hlim.2.1; omega
                      obtain ⟨m1, hm1⟩ : ∃ m1, (Y + k) * W1 = m1 := ⟨_, rfl⟩
                      have hle : 4 * (m1 + x) + 4 ≤ NN := by
                        rw [← HN.out.1, ← hm1]
                        have h1 : (Y + k + 1) * W1 ≤ H1 * W1 := Nat.mul_le_mul_right _ hyH1
                        rw [Nat.add_mul, Nat.one_mul] at h1
                        rw [Nat.mul_assoc, Nat.mul_comm W1 H1]
                        omega
                      have hNNb : NN ≤ 1073741824 := by
                        rw [← HN.out.1, Nat.mul_assoc]
                        have h1 : W1 * H1 ≤ 16384 * 16384 := Nat.mul_le_mul HP1.out.1.wb HP1.out.1.hb
                        omega
                      obtain ⟨g, pc2, hpv2, hgc, hgm⟩ := Own.row HU.out.2.1 (by rw [HN.out.2]; omega)
                      rw [HN.out.2] at hpv2 hgc
                      obtain ⟨o, ho⟩ : ∃ o, 4 * (m1 + x) = o := ⟨_, rfl⟩
                      have hst := paint_step d1.p W1 H1 v Y X wN c0 c1 c2 255 k x hxW hxw hXx HIN.out.1 HIN.out.2 hyH1
                      rw [hm1, ho, HN.out.1] at hst
                      have q1 : ((Y : Int) + (k : Int)) * (W1 : Int) = (m1 : Int) := by rw [← hm1]; simp
                      have q2 : IntKind.i64.wrap (m1 : Int) = (m1 : Int) := IntWalk.i64_in _ (by omega)
                      have q3 : IntKind.i64.wrap ((m1 : Int) + (x : Int)) = (m1 : Int) + (x : Int) := IntWalk.i64_in _ (by omega)
                      have q4 : IntKind.i64.wrap (4 * ((m1 : Int) + (x : Int))) = (o : Int) := by rw [IntWalk.i64_in _ (by omega)]; omega
                      have q9 : IntKind.i64.wrap ((x : Int) + 1) = (x : Int) + 1 := IntWalk.i64_in _ (by omega)
                      have y1 : IntKind.i64.wrap ((o : Int) + 1) = (o : Int) + 1 := IntWalk.i64_in _ (by omega)
                      have y2 : IntKind.i64.wrap ((o : Int) + 2) = (o : Int) + 2 := IntWalk.i64_in _ (by omega)
                      have y3 : IntKind.i64.wrap ((o : Int) + 3) = (o : Int) + 3 := IntWalk.i64_in _ (by omega)
                      have l0 : o < NN := by omega
                      have l0' : (o : Int) < (NN : Int) := by omega
                      have l1 : (o : Int) + 1 < (NN : Int) := by omega
                      have l2 : (o : Int) + 2 < (NN : Int) := by omega
                      have l3 : (o : Int) + 3 < (NN : Int) := by omega
                      have l1' : 0 ≤ (o : Int) + 1 := by omega
                      have l2' : 0 ≤ (o : Int) + 2 := by omega
                      have l3' : 0 ≤ (o : Int) + 3 := by omega
                      have t1 : ((o : Int) + 1).toNat = o + 1 := by omega
                      have t2 : ((o : Int) + 2).toNat = o + 2 := by omega
                      have t3 : ((o : Int) + 3).toNat = o + 3 := by omega
                      have s0 : Pst U3 a g NN pc2 Q9 { d1 with drawn := true } pv4 nv4 #[.int .u8 c0, .int .u8 c1, .int .u8 c2] wr (tab NN (paintF d1.p W1 v Y X wN [c0, c1, c2, 255] k x)) :=
                        ⟨hpv2, HOX.out.1, HU.out.1.kept HOX.out.2 HO4.out.2.2.1, HOX.out.2.blk HU.out.2.2.2.2.1 HU.out.2.2.2.2.2, HOX.out.2.mono (fun i _ hi => by rw [hpv2] at hi; exact (Option.some.inj hi).symm), fun h => HO4.out.2.2.1 (by rw [hpv2, ← h]; rfl), fun h => HU.out.2.2.2.2.2 (by rw [hpv2, ← h]; rfl)⟩
                      obtain ⟨Q1, hQ1⟩ : ∃ D, wr.drew = D := ⟨_, rfl⟩
                      have s1 := s0.drew
                      rw [hQ1] at s1
                      obtain ⟨Q2, hQ2⟩ : ∃ D, Q1.drew = D := ⟨_, rfl⟩
                      have s2 := s1.drew
                      rw [hQ2] at s2
                      obtain ⟨P0, hP0⟩ : ∃ D, Q2.setCell ⟨g, o, none⟩ (.int .u8 c0) = D := ⟨_, rfl⟩
                      have s3 := s2.set (i := o) (by omega) c0
                      rw [hP0] at s3
                      obtain ⟨Q3, hQ3⟩ : ∃ D, P0.drew = D := ⟨_, rfl⟩
                      have s4 := s3.drew
                      rw [hQ3] at s4
                      obtain ⟨P1, hP1⟩ : ∃ D, Q3.setCell ⟨g, o + 1, none⟩ (.int .u8 c1) = D := ⟨_, rfl⟩
                      have s5 := s4.set (i := o + 1) (by omega) c1
                      rw [hP1] at s5
                      obtain ⟨Q4, hQ4⟩ : ∃ D, P1.drew = D := ⟨_, rfl⟩
                      have s6 := s5.drew
                      rw [hQ4] at s6
                      obtain ⟨P2, hP2⟩ : ∃ D, Q4.setCell ⟨g, o + 2, none⟩ (.int .u8 c2) = D := ⟨_, rfl⟩
                      have s7 := s6.set (i := o + 2) (by omega) c2
                      rw [hP2] at s7
                      obtain ⟨P3, hP3⟩ : ∃ D, P2.setCell ⟨g, o + 3, none⟩ (.int .u8 255) = D := ⟨_, rfl⟩
                      have s8 := s7.set (i := o + 3) (by omega) 255
                      rw [hP3, set4_spl _ _ _ _ _ _ (by rw [tab_length]; omega), hst] at s8
                      have S8 := Lib.hid s8
                      subst hpv2
                      have z1y : Q1.cell? ⟨a, 771, none⟩ = some (.int .i64 (Y : Int)) := by rw [← HYd.out]; exact s1.2.2.1.fy.1
                      have z1w : Q1.cell? ⟨a, 773, none⟩ = some (.int .i64 (W1 : Int)) := by rw [← HP1.out.1.w]; exact s1.2.2.1.fw.1
                      obtain ⟨zp2, -⟩ := s2.2.2.1.fp
                      obtain ⟨zp3, -⟩ := s4.2.2.1.fp
                      obtain ⟨zp4, -⟩ := s6.2.2.1.fp
                      obtain ⟨zp5, -⟩ := s7.2.2.1.fp
                      obtain ⟨⟨u0, -⟩, -, -⟩ := blk3 s2.2.2.2.1
                      obtain ⟨-, ⟨u1, -⟩, -⟩ := blk3 s4.2.2.2.1
                      obtain ⟨-, -, u2, -⟩ := blk3 s6.2.2.2.1
                      have x0 := s2.2.1.at.2.2.2.1 o (by omega)
                      have x0' := s2.2.1.at.2.2.2.2 o
                      have x1 := s4.2.1.at.2.2.2.1 (o + 1) (by omega)
                      have x1' := s4.2.1.at.2.2.2.2 (o + 1)
                      have x2 := s6.2.1.at.2.2.2.1 (o + 2) (by omega)
                      have x2' := s6.2.1.at.2.2.2.2 (o + 2)
                      have x3 := s7.2.1.at.2.2.2.1 (o + 3) (by omega)
                      have x3' := s7.2.1.at.2.2.2.2 (o + 3)
                      obtain ⟨A0, hA0⟩ : ∃ A, (tab NN (paintF d1.p W1 v Y X wN [c0, c1, c2, 255] k x)).getD o 0 = A := ⟨_, rfl⟩
                      rw [hA0] at x0
                      generalize ((tab NN (paintF d1.p W1 v Y X wN [c0, c1, c2, 255] k x)).set o c0).getD (o + 1) 0 = A1 at x1
                      generalize (((tab NN (paintF d1.p W1 v Y X wN [c0, c1, c2, 255] k x)).set o c0).set (o + 1) c1).getD (o + 2) 0 = A2 at x2
                      generalize ((((tab NN (paintF d1.p W1 v Y X wN [c0, c1, c2, 255] k x)).set o c0).set (o + 1) c1).set (o + 2) c2).getD (o + 3) 0 = A3 at x3
                      clear hst hm1 hle hyH hyH1 hxW ho hlim cx cy s0 s1 s2 s3 s4 s5 s6 s7 s8 hA0
                      go_wp2
                      go_still (by kernel_rfl)
                      rw [show (World.mk wr.heap wr.tape (wr.drawn + 1) wr.os wr.output) = Q1 from hQ1]
                      go_wp2
                      go_still_tail 8, (by kernel_rfl)
                      change wpList _ _ _ _ _ Q1.drew
                      rw [hQ2]
                      go_wp2
                      go_still_tail 9, (by kernel_rfl)
                      change wpList _ _ _ _ _ P0.drew
                      rw [hQ3]
                      go_wp2
                      go_still_tail 9, (by kernel_rfl)
                      change wpList _ _ _ _ _ P1.drew
                      rw [hQ4]
                      go_wp2
                      have S9 := Lib.hid (show Own .u8 5 P3 (.slice (some ⟨g, 0, none⟩) NN pc2) (tab NN (paintF d1.p W1 v Y X wN [c0, c1, c2, 255] k (x + 1))) ∧ Kept (fun i => (Value.slice (some ⟨g, 0, none⟩) NN pc2).ownBlock = some i) U3 P3 from ⟨S8.out.2.1, S8.out.2.2.2.2.1.mono fun i _ (hi : i = g) => by rw [hi]; rfl⟩)
                      go_roundg (gk - 1)
                      case rel => exact ⟨x + 1, by omega, by omega, .inl (by omega), by simp, S9.out⟩
                      case measure => omega
                    · have gx : decide (x < wN) = false := decide_eq_false hxw
                      have ho2 : Own .u8 5 wr pv4 (tab NN (paintF d1.p W1 v Y X wN [c0, c1, c2, 255] (k + 1) X)) := by rw [← paint_end _ _ _ _ _ _ _ _ _ x (by omega)]; exact HOX.out.1
                      have HO2 := Lib.hid ho2
                      clear ho2
                      go_wp2
                      go_roundg (gkO - 1)
                      case rel => exact ⟨k + 1, by omega, by omega, by simp, HO2.out, HOX.out.2⟩
                      case measure => omega
                · have ho2 : Own .u8 5 wr pv4 (tab NN (paintF d1.p W1 v Y X wN [c0, c1, c2, 255] (k + 1) X)) := by rw [← paint_skip _ _ _ _ _ _ _ _ _ hin]; exact HO.out.1
                  have HO2 := Lib.hid ho2
                  clear ho2
                  have hc : b = 0 ∨ (b = 1 ∧ 16384 ≤ Y + k) := by rw [hr] at hin; omega
                  clear hin hr hb
                  rcases hc with rfl | ⟨rfl, hc⟩
                  · go_wp2
                    go_roundg (gk - 1)
                    case rel => exact ⟨k + 1, by omega, by omega, by simp, HO2.out, HO.out.2⟩
                    case measure => omega
                  · have g5 : decide (16384 ≤ (Y : Int) + (k : Int)) = true := decide_eq_true (by omega)
                    go_wp2
                    go_roundg (gk - 1)
                    case rel => exact ⟨k + 1, by omega, by omega, by simp, HO2.out, HO.out.2⟩
                    case measure => omega
              · obtain rfl : k = 6 := by omega
                have gk0 : decide (6 < 6) = false := by decide
                have hT := turn_w (d := { d1 with drawn := true }) HU.out.1 HU.out.2.2.1 HO4.out.2.2.1 HO4.out.2.2.2.1 HO4.out.2.2.2.2.1 HO4.out.2.2.2.2.2.1 HO.out.2 HO.out.1
                have hT2 := Turn.then HO4.out.2.2.2.2.2.2.1 HU.out.2.2.2.1 hT
                have cx' := hbr.fx.2
                have cx : wr.cell? ⟨a, 770, none⟩ = some (.int .i64 (X : Int)) := by rw [← HP1.out.2.2.2.2.1]; exact hbr.fx.1
                have wx : IntKind.i64.wrap ((X : Int) + (n : Int)) = (X : Int) + (n : Int) := IntWalk.i64_in _ (by omega)
                obtain ⟨V5, hV5⟩ : ∃ V, wr.setCell ⟨a, 770, none⟩ (.int .i64 ((X : Int) + (n : Int))) = V := ⟨_, rfl⟩
                have hb5 := hbr.sx ((X : Int) + (n : Int))
                rw [hV5] at hb5
                obtain ⟨cx5, cx5'⟩ := hb5.fx
                have hT5 := hT2.set (fun _ _ h => h.sx ((X : Int) + (n : Int))) rfl rfl
                rw [hV5] at hT5
                by_cases hfar : 1048576 < X + n
                · have gf : decide ((1048576 : Int) < (X : Int) + (n : Int)) = true := decide_eq_true (by omega)
                  have hT6 := hT5.set (fun _ _ h => h.sx (1048576 : Int)) rfl rfl
                  have HTF := Lib.hid hT6
                  have HMN := Lib.hid (show min (X + n) 1048576 = 1048576 by omega)
                  clear hT hT2 hT5 hT6 hbr hb5 hk
                  go_wp2
                  all_goals try go_end0
                  refine ⟨rfl, ?_⟩
                  rw [HRS.out, HMN.out]
                  have h9 := HTF.out
                  unfold paint
                  rw [HN.out.1]
                  exact h9
                · have gf : decide ((1048576 : Int) < (X : Int) + (n : Int)) = false := decide_eq_false (by omega)
                  have HTF := Lib.hid hT5
                  have HMN := Lib.hid (show ((min (X + n) 1048576 : Nat) : Int) = (X : Int) + (n : Int) by omega)
                  clear hT hT2 hT5 hbr hb5 hk
                  go_wp2
                  all_goals try go_end0
                  refine ⟨rfl, ?_⟩
                  rw [HRS.out, HMN.out]
                  have h9 := HTF.out
                  unfold paint
                  rw [HN.out.1]
                  exact h9
end Go.Proofs.Ytomcjdonacckfaa.R
