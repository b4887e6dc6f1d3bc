/- One sixel, so many times: sixel. -/
import Derived.Test.YtomcjdonacckfaaGrowD
import Derived.Test.YtomcjdonacckfaaGrow
import Derived.Test.YtomcjdonacckfaaPaint
namespace Go.Proofs.Ytomcjdonacckfaa
open Go.RowKit
set_option linter.unusedVariables false
set_option linter.unusedSimpArgs false
attribute [local go_sem] growOp growUpon sameUpon
/-- Is dot k of a sixel drawn at this place? -/
def dotOn (v y x k : Nat) : Prop := v / 2 ^ k % 2 = 1 ∧ y + k < 16384 ∧ x < 16384
instance (v y x k : Nat) : Decidable (dotOn v y x k) := by unfold dotOn; infer_instance
/-- How far down the first k dots reach. -/
def hAt (v y x : Nat) : Nat → Nat
  | 0 => 0
  | k + 1 => if dotOn v y x k then y + k + 1 else hAt v y x k
def wAt (v y x n k : Nat) : Nat := if hAt v y x k = 0 then 0 else min (x + n) 16384
theorem hAt_le (v y x k : Nat) (hk : k ≤ 6) : hAt v y x k ≤ 16384 := by
  induction k with
  | zero => exact Nat.zero_le _
  | succ k ih =>
    unfold hAt
    split
    · rename_i h; have := h.2.1; omega
    · exact ih (by omega)
theorem hAt_yes {v y x k : Nat} (h : dotOn v y x k) (n : Nat) : hAt v y x (k + 1) = y + k + 1 ∧ wAt v y x n (k + 1) = min (x + n) 16384 := by
  have e : hAt v y x (k + 1) = y + k + 1 := by unfold hAt; rw [if_pos h]
  exact ⟨e, by unfold wAt; rw [e, if_neg (by omega)]⟩
theorem hAt_no {v y x k : Nat} (h : ¬ dotOn v y x k) (n : Nat) : hAt v y x (k + 1) = hAt v y x k ∧ wAt v y x n (k + 1) = wAt v y x n k := by
  have e : hAt v y x (k + 1) = hAt v y x k := by rw [hAt, if_neg h]
  exact ⟨e, by unfold wAt; rw [e]⟩
theorem i64_and1 (r : Nat) (h : r < 64) : bits BinOp.and .i64 (r : Int) 1 = ((r % 2 : Nat) : Int) := by
  have : ∀ r : Nat, r < 64 → bits BinOp.and .i64 (r : Int) 1 = ((r % 2 : Nat) : Int) := by decide
  exact this r h
/-- What a decoder's fields always are, as far as its picture goes. -/
structure PicOk (d : Dec) (W0 H0 M : Nat) : Prop where
  w : d.w = (W0 : Int)
  h : d.h = (H0 : Int)
  most : d.most = (M : Int)
  M : M ≤ 1073741824
  wb : W0 ≤ 16384
  hb : H0 ≤ 16384
  z : W0 = 0 → H0 = 0
  p : d.full = false → d.p.length = 4 * W0 * H0
theorem dgrow_any (G : Nat → Prop) (d : Dec) (W : World) (a w0 h0 W0 H0 W1 H1 M : Nat) (h : DOwn G W a d) (hpk : PicOk d W0 H0 M) (hf : d.full = false) (hp1 : Picks w0 W0 W1) (hp2 : Picks h0 H0 H1) (hw0 : 1 ≤ w0) (hh0 : 1 ≤ h0 ∧ h0 ≤ 16384) :
    Calls Try.prog 42 #[.pointer (some ⟨a, 0, none⟩), .int .i64 w0, .int .i64 h0] W fun e w' => e = .returned (.bool (growOk d W0 H0 W1 H1)) ∧ Turn G W w' a (d.grow W0 H0 W1 H1) := by
  by_cases he : W1 = W0 ∧ H1 = H0
  · have e1 : growOk d W0 H0 W1 H1 = true := by unfold growOk; rw [if_pos he]
    have e2 : d.grow W0 H0 W1 H1 = d := by unfold Dec.grow; rw [if_pos he]
    rw [e1, e2]
    exact grow_same G d W a w0 h0 W0 H0 W1 H1 h hpk.w hpk.h hp1 hp2 he
  · have hH : 1 ≤ H1 ∧ H1 ≤ 16384 := by have := hpk.hb; rcases hp2 with h | h <;> omega
    obtain ⟨K1, hK1⟩ : ∃ K1, M / 4 = K1 := ⟨_, rfl⟩
    obtain ⟨K2, hK2⟩ : ∃ K2, K1 / H1 = K2 := ⟨_, rfl⟩
    have hdiv : d.most / 4 / (H1 : Int) = (K2 : Int) := by
      rw [hpk.most, show (M : Int) / 4 = (K1 : Int) by omega, ← hK2]
      rfl
    by_cases hlt : K2 < W1
    · have e1 : growOk d W0 H0 W1 H1 = false := by unfold growOk; rw [if_neg he, hdiv]; exact decide_eq_false (by omega)
      have e2 : d.grow W0 H0 W1 H1 = { d with full := true, p := [] } := by unfold Dec.grow; rw [if_neg he, hdiv, if_pos (by omega)]
      rw [e1, e2]
      exact grow_full G d W a w0 h0 W0 H0 W1 H1 M K1 K2 h hpk.w hpk.h hpk.most hp1 hp2 he hH hpk.M hK1 hK2 hlt
    · have e1 : growOk d W0 H0 W1 H1 = true := by unfold growOk; rw [if_neg he, hdiv]; exact decide_eq_true (by omega)
      have e2 : d.grow W0 H0 W1 H1 = { d with w := W1, h := H1, p := grown d.p W0 H0 W1 H1 } := by unfold Dec.grow; rw [if_neg he, hdiv, if_neg (by omega)]
      rw [e1, e2]
      exact grow_yes G d W a w0 h0 W0 H0 W1 H1 M K1 K2 h hpk.w hpk.h hpk.most hp1 hp2 he hH hpk.M hK1 hK2 (by omega) hw0 (hpk.p hf) hpk.z
/-- What a grown decoder is. -/
theorem grow_pic {d : Dec} {w0 h0 W0 H0 W1 H1 M : Nat} (hpk : PicOk d W0 H0 M) (hf : d.full = false) (hp1 : Picks w0 W0 W1) (hp2 : Picks h0 H0 H1) (hw0 : 1 ≤ w0 ∧ w0 ≤ 16384) (hh0 : 1 ≤ h0 ∧ h0 ≤ 16384) (hok : growOk d W0 H0 W1 H1 = true) :
    PicOk (d.grow W0 H0 W1 H1) W1 H1 M ∧ (d.grow W0 H0 W1 H1).full = false ∧ (d.grow W0 H0 W1 H1).l = d.l ∧ (d.grow W0 H0 W1 H1).now = d.now ∧ (d.grow W0 H0 W1 H1).x = d.x ∧ (d.grow W0 H0 W1 H1).y = d.y ∧ (d.grow W0 H0 W1 H1).drawn = d.drawn := by
  have b1 : W1 ≤ 16384 := by have := hpk.wb; rcases hp1 with h | h <;> omega
  have b2 : H1 ≤ 16384 := by have := hpk.hb; rcases hp2 with h | h <;> omega
  have b3 : 1 ≤ W1 := by rcases hp1 with h | h <;> omega
  by_cases he : W1 = W0 ∧ H1 = H0
  · have e2 : d.grow W0 H0 W1 H1 = d := by unfold Dec.grow; rw [if_pos he]
    rw [e2]
    obtain ⟨rfl, rfl⟩ := he
    exact ⟨hpk, hf, rfl, rfl, rfl, rfl, rfl⟩
  · unfold growOk at hok
    rw [if_neg he] at hok
    have hle := of_decide_eq_true hok
    have e2 : d.grow W0 H0 W1 H1 = { d with w := W1, h := H1, p := grown d.p W0 H0 W1 H1 } := by unfold Dec.grow; rw [if_neg he, if_neg (by omega)]
    rw [e2]
    exact ⟨⟨rfl, rfl, hpk.most, hpk.M, b1, b2, (fun h => by omega), fun _ => grown_length _ _ _ _ _⟩, hf, rfl, rfl, rfl, rfl, rfl⟩
/-- What one sixel makes of a decoder. -/
def Dec.sixelNew (d : Dec) (v n X Y W0 H0 W1 H1 : Nat) (d1 : Dec) (K : Nat) : Dec :=
  { d1 with drawn := d.drawn || decide (hAt v Y X 6 ≠ 0), p := paint d1.p W1 H1 v Y X (wAt v Y X n 6) [d.l.getD (3 * K) 0, d.l.getD (3 * K + 1) 0, d.l.getD (3 * K + 2) 0, 255], x := ((min (X + n) 1048576 : Nat) : Int) }
def Dec.sixel (d : Dec) (v n X Y W0 H0 K : Nat) : Dec :=
  if hAt v Y X 6 = 0 then d.sixelNew v n X Y W0 H0 W0 H0 d K
  else if growOk d W0 H0 (max (wAt v Y X n 6) W0) (max (hAt v Y X 6) H0) = false then d.grow W0 H0 (max (wAt v Y X n 6) W0) (max (hAt v Y X 6) H0)
  else d.sixelNew v n X Y W0 H0 (max (wAt v Y X n 6) W0) (max (hAt v Y X 6) H0) (d.grow W0 H0 (max (wAt v Y X n 6) W0) (max (hAt v Y X 6) H0)) K
theorem picks_max (a b : Nat) : Picks a b (max a b) := by
  unfold Picks
  rcases Nat.lt_or_ge a b with h | h
  · exact .inl ⟨h, by omega⟩
  · exact .inr ⟨h, by omega⟩
theorem dot_in {v Y X k : Nat} (h : dotOn v Y X k) (hk : k < 6) : Y + k + 1 ≤ hAt v Y X 6 := by
  have key : ∀ j, k < j → Y + k + 1 ≤ hAt v Y X j := by
    intro j
    induction j with
    | zero => intro h; omega
    | succ j ih =>
      intro hj
      rw [hAt]
      split
      · omega
      · rename_i hn
        rcases Nat.lt_or_ge k j with h1 | h1
        · exact ih h1
        · have : k = j := by omega
          subst this
          exact absurd h hn
  exact key 6 hk
theorem Own.row {k : IntKind} {e : TypeId} {w : World} {v : Value} {xs : List Int} (h : Own k e w v xs) (h0 : 0 < xs.length) : ∃ g cap, v = .slice (some ⟨g, 0, none⟩) xs.length cap ∧ xs.length ≤ cap ∧ cap ≤ maxLen := by
  obtain ⟨h1, h2⟩ := h
  rcases h2 with ⟨-, h3⟩ | ⟨g, cap, cur, rfl, -, hg, hn, hc, hcs, ht⟩
  · omega
  · exact ⟨g, cap, rfl, hn, hc⟩
set_option maxRecDepth 100000 in
set_option maxHeartbeats 16000000 in
theorem sixel_any (G : Nat → Prop) (d : Dec) (W : World) (a v n X Y W0 H0 M K : Nat) (hd : DOwn G W a d) (hpk : PicOk d W0 H0 M) (hf : d.full = false) (hv : v < 64) (hn : 1 ≤ n ∧ n ≤ 65535) (hx : d.x = (X : Int)) (hy : d.y = (Y : Int)) (hX : X ≤ 1048576) (hY : Y ≤ 1048576) (hnow : d.now = (K : Int)) (hK : K < 256) :
    Calls Try.prog 39 #[.pointer (some ⟨a, 0, none⟩), .int .i64 v, .int .i64 n] W fun e w' => e = .returned (.tuple #[]) ∧ Turn G W w' a (d.sixel v n X Y W0 H0 K) := by
  have HD := Lib.hid hd
  obtain ⟨pv, nv, hb, -⟩ := hd
  have HB := Lib.hid hb
  have HPK := Lib.hid (And.intro hpk (And.intro hf (And.intro hx (And.intro hy hnow))))
  have hL := hb.1
  have HL := Lib.hid hL
  clear hb hpk hf hnow hL
  obtain ⟨c0, hc0⟩ : ∃ c, d.l.getD (3 * K) 0 = c := ⟨_, rfl⟩
  obtain ⟨c1, hc1⟩ : ∃ c, d.l.getD (3 * K + 1) 0 = c := ⟨_, rfl⟩
  obtain ⟨c2, hc2⟩ : ∃ c, d.l.getD (3 * K + 2) 0 = c := ⟨_, rfl⟩
  have HC := Lib.hid (And.intro hc0 (And.intro hc1 hc2))
  clear hc0 hc1 hc2
  have HXY := Lib.hid (And.intro hx hy)
  obtain ⟨RES, hRES⟩ : ∃ R, d.sixel v n X Y W0 H0 K = R := ⟨_, rfl⟩
  rw [hRES]
  have HRES := Lib.hid hRES
  clear hRES
  go_enter Try.func39, Try.ntmps39
  go_wp2
  go_loopg [6, 7, 8, 12] 6 (fun gg wv hv' _ kv wr => ∃ k : Nat, 6 ≤ gg + k ∧ k ≤ 6 ∧ kv = .int .i64 (k : Int) ∧ wv = .int .i64 (wAt v Y X n k : Nat) ∧ hv' = .int .i64 (hAt v Y X k : Nat) ∧ Kept (fun _ => False) W wr)
  case atStart => exact ⟨0, by omega, by omega, rfl, rfl, rfl, Kept.refl _ _⟩
  case round =>
    obtain ⟨k, hgg, hk6, rfl, rfl, rfl, hkw⟩ := hrel
    have HKW := Lib.hid hkw
    have hbr := HB.out.kept hkw id
    clear hkw
    by_cases hk : k < 6
    · have gk0 : decide (k < 6) = true := decide_eq_true hk
      have gk1 : decide ((k : Int) < 6) = true := decide_eq_true (by omega)
      obtain ⟨cx, -⟩ := hbr.fx
      obtain ⟨cy, -⟩ := hbr.fy
      have hbr2 : DBlk wr.drew a d pv nv := hbr
      obtain ⟨dx, -⟩ := hbr2.fx
      obtain ⟨dy, -⟩ := hbr2.fy
      rw [hx] at cx dx
      rw [hy] at cy dy
      clear hbr hbr2
      obtain ⟨r, hr⟩ : ∃ r, v / 2 ^ k = r := ⟨_, rfl⟩
      have hr64 : r < 64 := by rw [← hr]; exact Nat.lt_of_le_of_lt (Nat.div_le_self _ _) hv
      have sh0 : min k 64 = k := by omega
      have sh1 : (v : Int) / 2 ^ k = (r : Int) := by rw [← hr]; simp
      have nk : ¬ (k : Int) < 0 := by omega
      have a1 := i64_and1 r hr64
      obtain ⟨b, hb⟩ : ∃ b, r % 2 = b := ⟨_, rfl⟩
      rw [hb] at a1
      have wr1 : IntKind.i64.wrap (r : Int) = (r : Int) := IntWalk.i64_in _ (by omega)
      have wk : IntKind.i64.wrap ((k : Int) + 1) = (k : Int) + 1 := IntWalk.i64_in _ (by omega)
      have wy : IntKind.i64.wrap ((Y : Int) + (k : Int)) = (Y : Int) + (k : Int) := IntWalk.i64_in _ (by omega)
      have wy1 : IntKind.i64.wrap ((Y : Int) + (k : Int) + 1) = (Y : Int) + (k : Int) + 1 := IntWalk.i64_in _ (by omega)
      have wx : IntKind.i64.wrap ((X : Int) + (n : Int)) = (X : Int) + (n : Int) := IntWalk.i64_in _ (by omega)
      by_cases hon : dotOn v Y X k
      · obtain ⟨e1, e2⟩ := hAt_yes hon n
        have e0 : ((b : Int) == 1) = true := by simp; have := hon.1; omega
        have g2 : decide ((Y : Int) + (k : Int) < 16384) = true := decide_eq_true (by have := hon.2.1; omega)
        have g3 : decide (X < 16384) = true := decide_eq_true hon.2.2
        have g3' : decide ((X : Int) < 16384) = true := decide_eq_true (by have := hon.2.2; omega)
        have mx : (if (X : Int) + (n : Int) < 16384 then (X : Int) + (n : Int) else 16384) = ((min (X + n) 16384 : Nat) : Int) := by split <;> omega
        have mx' : (if 16384 < (X : Int) + (n : Int) then 16384 else (X : Int) + (n : Int)) = ((min (X + n) 16384 : Nat) : Int) := by split <;> omega
        obtain ⟨mn, hmn⟩ : ∃ mn, min (X + n) 16384 = mn := ⟨_, rfl⟩
        rw [hmn] at mx mx' e2
        have HE := Lib.hid (And.intro e1 e2)
        clear hon e1 e2 hr hb hmn
        go_wp2
        go_still (by kernel_rfl)
        go_wp2
        go_roundg (gk - 1)
        case rel => exact ⟨k + 1, by omega, by omega, by simp, by rw [HE.out.2], by rw [HE.out.1]; simp, HKW.out.drew⟩
        case measure => omega
      · obtain ⟨e1, e2⟩ := hAt_no hon n
        have HE := Lib.hid (And.intro e1 e2)
        have hc : b = 0 ∨ (b = 1 ∧ 16384 ≤ Y + k) ∨ (b = 1 ∧ Y + k < 16384 ∧ 16384 ≤ X) := by
          unfold dotOn at hon
          rw [hr, hb] at hon
          omega
        clear hon e1 e2 hr hb
        rcases hc with rfl | ⟨rfl, hc⟩ | ⟨rfl, hc, hc2⟩
        · go_wp2
          go_roundg (gk - 1)
          case rel => exact ⟨k + 1, by omega, by omega, by simp, by rw [HE.out.2], by rw [HE.out.1], HKW.out⟩
          case measure => omega
        · have g2 : decide ((Y : Int) + (k : Int) < 16384) = false := decide_eq_false (by omega)
          go_wp2
          go_roundg (gk - 1)
          case rel => exact ⟨k + 1, by omega, by omega, by simp, by rw [HE.out.2], by rw [HE.out.1], HKW.out⟩
          case measure => omega
        · have g2 : decide ((Y : Int) + (k : Int) < 16384) = true := decide_eq_true (by omega)
          have g3 : decide (X < 16384) = false := decide_eq_false (by omega)
          go_wp2
          go_roundg (gk - 1)
          case rel => exact ⟨k + 1, by omega, by omega, by simp, by rw [HE.out.2], by rw [HE.out.1], HKW.out⟩
          case measure => omega
    · obtain rfl : k = 6 := by omega
      have gk0 : decide (6 < 6) = false := by decide
      have h16 := hAt_le v Y X 6 (by omega)
      have HDOT := Lib.hid (fun j (hj : j < 6) (h : dotOn v Y X j) => dot_in h hj)
      obtain ⟨hh, hhE⟩ : ∃ hh, hAt v Y X 6 = hh := ⟨_, rfl⟩
      obtain ⟨wN, hwN⟩ : ∃ wN, wAt v Y X n 6 = wN := ⟨_, rfl⟩
      rw [hhE, hwN]
      rw [hhE] at h16 HDOT
      have hwNe : wN = if hh = 0 then 0 else min (X + n) 16384 := by rw [← hwN, ← hhE]; rfl
      have HW := Lib.hid (And.intro hhE (And.intro hwN hwNe))
      clear hbr hk hhE hwN hwNe
      by_cases h0 : hh = 0
      · subst h0
        have hwz : wN = 0 := by have := HW.out.2.2; simpa using this
        obtain ⟨db, hdb⟩ : ∃ db, d.drawn = db := ⟨_, rfl⟩
        obtain ⟨d1, hd1⟩ : ∃ d1, d = d1 := ⟨_, rfl⟩
        obtain ⟨W1, hW1⟩ : ∃ W1, W0 = W1 := ⟨_, rfl⟩
        obtain ⟨H1, hH1⟩ : ∃ H1, H0 = H1 := ⟨_, rfl⟩
        have HP1 := Lib.hid (show PicOk d1 W1 H1 M ∧ d1.full = false ∧ d1.l = d.l ∧ d1.now = (K : Int) ∧ d1.x = (X : Int) ∧ d1.y = (Y : Int) ∧ d1.drawn = db from by subst hd1 hW1 hH1; exact ⟨HPK.out.1, HPK.out.2.1, rfl, HPK.out.2.2.2.2, HPK.out.2.2.1, HPK.out.2.2.2.1, hdb⟩)
        have HT4 := Lib.hid (show Turn G W wr a d1 by subst hd1; exact (Turn.refl HD.out).up HKW.out)
        have HLIM := Lib.hid (show (∀ j, j < 6 → dotOn v Y X j → Y + j < H1) ∧ wN ≤ W1 ∧ wN ≤ 16384 from ⟨fun j hj h => by have := HDOT.out j hj h; omega, by omega, by omega⟩)
        obtain ⟨w4, rfl⟩ : ∃ w4, wr = w4 := ⟨_, rfl⟩
        obtain ⟨DR, hDR⟩ : ∃ DR, db = DR := ⟨_, rfl⟩
        have HRS := Lib.hid (show RES = { d1 with drawn := DR, p := paint d1.p W1 H1 v Y X wN [c0, c1, c2, 255], x := ((min (X + n) 1048576 : Nat) : Int) } from by
          rw [← HRES.out]; unfold Dec.sixel Dec.sixelNew; rw [HW.out.1, HW.out.2.1, if_pos rfl, HC.out.1, HC.out.2.1, HC.out.2.2, hd1, hW1, hH1]; rw [hd1] at hdb; simp [hdb, hDR])
        clear hwz hd1 hW1 hH1 hdb
        have hT4 := HT4.out
        obtain ⟨G4, ⟨pv4, nv4, hb4, hp4, hn4, o1, o2, o3, hG4⟩, hs4, hk4⟩ := hT4
        have HO4 := Lib.hid (And.intro hp4 (And.intro hn4 (And.intro o1 (And.intro o2 (And.intro o3 (And.intro hG4 (And.intro hs4 hk4)))))))
        obtain ⟨cd, cd'⟩ := hb4.fdrawn
        rw [HP1.out.2.2.2.2.2.2] at cd
        obtain ⟨V1, hV1⟩ : ∃ V, wr.setCell ⟨a, 776, none⟩ (.bool DR) = V := ⟨_, rfl⟩
        have kV1 : Kept (fun j => j = a) wr V1 := by rw [← hV1]; exact (Kept.refl (fun j => j = a) wr).setCell (p := ⟨a, 776, none⟩) (.inl rfl) _
        have hb1 : DBlk V1 a { d1 with drawn := DR } pv4 nv4 := by rw [← hV1]; exact hb4.sdrawn DR
        have hp1 : Own .u8 5 V1 pv4 d1.p := hp4.kept kV1 (fun b hb (hS : b = a) => o1 (by rw [hb, hS]))
        have hn1 : Own .i64 3 V1 nv4 d1.n := hn4.kept kV1 (fun b hb (hS : b = a) => o2 (by rw [hb, hS]))
        have hkG : Kept G W V1 := hk4.trans (kV1.mono fun i _ (hi : i = a) => by rw [hi]; exact hs4 a ((hG4 a).2 (.inl rfl)))
        have HV1 := Lib.hid (And.intro hb1 (And.intro hp1 (And.intro hn1 hkG)))
        obtain ⟨WR, hWR⟩ : ∃ WR, WR = V1.drew := ⟨_, rfl⟩
        have hkR : Kept (fun _ => False) V1 WR := by rw [hWR]; exact (Kept.refl _ _).drew
        have hbR := hb1.kept hkR id
        obtain ⟨z0, -⟩ := hbR.fnow
        have z0' : WR.cell? ⟨a, 770, none⟩ = some (.int .i64 (K : Int)) := by have h9 := z0; rw [show ({ d1 with drawn := DR } : Dec).now = (K : Int) from HP1.out.2.2.2.1] at h9; exact h9
        have hLL : ({ d1 with drawn := DR } : Dec).l = d.l := HP1.out.2.2.1
        have R0 : WR.cell? ⟨a, 2 + K * 3, none⟩ = some (.int .u8 c0) := by have h9 := (hbR.reg (3 * K) (by omega)).1; rw [hLL, HC.out.1] at h9; rw [Nat.mul_comm K 3]; exact h9
        have R1 : WR.cell? ⟨a, 2 + K * 3 + 1, none⟩ = some (.int .u8 c1) := by have h9 := (hbR.reg (3 * K + 1) (by omega)).1; rw [hLL, HC.out.2.1] at h9; rw [Nat.mul_comm K 3]; exact h9
        have R2 : WR.cell? ⟨a, 2 + K * 3 + 2, none⟩ = some (.int .u8 c2) := by have h9 := (hbR.reg (3 * K + 2) (by omega)).1; rw [hLL, HC.out.2.2] at h9; rw [Nat.mul_comm K 3]; exact h9
        have X0 := cell_regrown z0'
        have X1 := cell_regrown R0
        have X2 := cell_regrown R1
        have X3 := cell_regrown R2
        obtain ⟨RA, hRA⟩ : ∃ R : Value → World → Prop, R = fun v w' => ∃ q, v = .pointer (some ⟨q, 0, none⟩) ∧ WR.heap.size ≤ q ∧ w'.heap[q]? = some (.cells #[.int .u8 0, .int .u8 0, .int .u8 0] 70 (0, 0)) := ⟨_, rfl⟩
        have HRA := Lib.hid hRA
        have HWR := Lib.hid hWR
        have HKR := Lib.hid hkR
        have kk1 : (K : Int) < 256 := by omega
        clear hb4 hp4 hn4 o1 o2 o3 hG4 hs4 hk4 hb1 hp1 hn1 hkG hWR hkR hbR z0 hLL hRA kV1
        cases db
        · subst hDR
          go_wp2
          refine wp_region_grow #[0, 0, 2, 6, 14, 1, 33, 127, 255, 0, 1023] 10 [] (fun i => if i = 9 then some RA else none) (by kernel_rfl) rfl (by kernel_rfl) (fun i hi => by cases hi) (fun _ _ _ _ _ h => h) ?_
          rintro _ rfl
          rw [← HWR.out]
          simp only [List.take_succ_cons, List.take_zero, List.drop_succ_cons, List.drop_zero, number, Nat.reduceAdd]
          repeat (refine wpGrow_step (fun K hK => ?_); go_simp; refine hK _ _ ?_; clear hK K)
          refine wpGrow_step (fun K hK => ?_)
          go_simp
          refine ⟨fun w' hg => ⟨(Kept.refl _ _).alloc _, by rw [HRA.out]; exact ⟨_, rfl, hg.old.size, blk_new _ _⟩⟩, fun v9 wa hv9 _ => ?_⟩
          rw [HRA.out] at hv9
          obtain ⟨Q9, rfl, hq9, hqb⟩ := hv9
          refine hK _ _ ?_; clear hK K
          refine wpGrow_nil ?_
          intro w9 hk9 hω
          have hqb9 : w9.heap[Q9]? = _ := Kept.blk (show Kept _ wa w9 from hω 9) hqb id
          obtain ⟨U1, U2, U3, f1, f2, f3, ⟨e1, e1'⟩, ⟨e2, e2'⟩, ⟨e3, e3'⟩, hcV, hkV⟩ := store3 hqb9 (.int .u8 c0) (.int .u8 c1) (.int .u8 c2)
          clear hω z0' R0 R1 R2 X0 X1 X2 X3
          go_wp2
          have hq9' : V1.heap.size ≤ Q9 := by rw [HWR.out] at hq9; exact hq9
          have kU : Kept (fun j => j = Q9) V1 U3 := ((HKR.out.then hk9).mono fun _ _ h => h.elim).then hkV
          have hbU := HV1.out.1.kept kU (fun (h : a = Q9) => by have := HV1.out.1.lt; omega)
          have hpU : Own .u8 5 U3 pv4 d1.p := HV1.out.2.1.kept kU (fun b hb (hS : b = Q9) => by have := HV1.out.2.1.lt b hb; omega)
          have hnU : Own .i64 3 U3 nv4 d1.n := HV1.out.2.2.1.kept kU (fun b hb (hS : b = Q9) => by have := HV1.out.2.2.1.lt b hb; omega)
          have hkGU : Kept G W U3 := HV1.out.2.2.2.trans (kU.mono fun i _ (hi : i = Q9) => Or.inr (by have := HV1.out.2.2.2.size; omega))
          have hQpv : pv4.ownBlock ≠ some Q9 := fun h => by have := HV1.out.2.1.lt Q9 h; omega
          have HU := Lib.hid (And.intro hbU (And.intro hpU (And.intro hnU (And.intro hkGU (And.intro hcV hQpv)))))
          obtain ⟨NN, hNN⟩ : ∃ NN, 4 * W1 * H1 = NN := ⟨_, rfl⟩
          have hPl : d1.p.length = NN := by rw [HP1.out.1.p HP1.out.2.1, hNN]
          obtain ⟨pa, pc, hpv, hps, hplc, hpcm, hpn, -⟩ := hpU.shape
          rw [hPl] at hpv hps hplc
          have HN := Lib.hid (And.intro hNN (And.intro hPl (And.intro hpv (And.intro hps hplc))))
          clear hq9' kU hbU hpU hnU hkGU hQpv hNN hPl hps hpcm hpn hcV hkV hk9 hqb9 hqb hq9 f1 f2 f3 e1 e1' e2 e2' e3 e3' cd cd' hV1 hpv hplc
          go_loopg [10, 11, 80] 6 (fun gg _ _ kv wr => ∃ k : Nat, 6 ≤ gg + k ∧ k ≤ 6 ∧ kv = .int .i64 (k : Int) ∧ Own .u8 5 wr pv4 (tab NN (paintF d1.p W1 v Y X wN [c0, c1, c2, 255] k X)) ∧ Kept (fun i => pv4.ownBlock = some i) U3 wr)
          case atStart => exact ⟨0, by omega, by omega, rfl, by rw [paint_start _ _ _ _ _ _ _ _ HN.out.2.1]; exact HU.out.2.1, Kept.refl _ _⟩
          case round =>
            obtain ⟨k, hgg, hk6, rfl, ho, hk⟩ := hrel
            have HO := Lib.hid (And.intro ho hk)
            have hbr := HU.out.1.kept hk HO4.out.2.2.1
            clear ho hk
            by_cases hk : k < 6
            · have gk0 : decide (k < 6) = true := decide_eq_true hk
              have cx : wr.cell? ⟨a, 771, none⟩ = some (.int .i64 (X : Int)) := by rw [← HP1.out.2.2.2.2.1]; exact hbr.fx.1
              have cy : wr.cell? ⟨a, 772, none⟩ = some (.int .i64 (Y : Int)) := by rw [← HP1.out.2.2.2.2.2.1]; exact hbr.fy.1
              clear hbr
              obtain ⟨r, hr⟩ : ∃ r, v / 2 ^ k = r := ⟨_, rfl⟩
              have hr64 : r < 64 := by rw [← hr]; exact Nat.lt_of_le_of_lt (Nat.div_le_self _ _) hv
              have sh0 : min k 64 = k := by omega
              have sh1 : (v : Int) / 2 ^ k = (r : Int) := by rw [← hr]; simp
              have nk : ¬ (k : Int) < 0 := by omega
              have a1 := i64_and1 r hr64
              obtain ⟨b, hb⟩ : ∃ b, r % 2 = b := ⟨_, rfl⟩
              rw [hb] at a1
              have wr1 : IntKind.i64.wrap (r : Int) = (r : Int) := IntWalk.i64_in _ (by omega)
              have wk : IntKind.i64.wrap ((k : Int) + 1) = (k : Int) + 1 := IntWalk.i64_in _ (by omega)
              have wy : IntKind.i64.wrap ((Y : Int) + (k : Int)) = (Y : Int) + (k : Int) := IntWalk.i64_in _ (by omega)
              by_cases hin : v / 2 ^ k % 2 = 1 ∧ Y + k < 16384
              · obtain rfl : b = 1 := by have := hin.1; rw [hr] at this; omega
                have g5 : decide (16384 ≤ (Y : Int) + (k : Int)) = false := decide_eq_false (by have := hin.2; omega)
                have HIN := Lib.hid hin
                clear hin hr hb
                obtain ⟨gkO, rfl⟩ : ∃ g, g = gk := ⟨_, rfl⟩
                go_wp2
                go_loopg [11] (wN - X) (fun gg xv wx => ∃ x : Nat, X ≤ x ∧ wN ≤ gg + x ∧ (x ≤ wN ∨ x = X) ∧ xv = .int .i64 (x : Int) ∧ Own .u8 5 wx pv4 (tab NN (paintF d1.p W1 v Y X wN [c0, c1, c2, 255] k x)) ∧ Kept (fun i => pv4.ownBlock = some i) U3 wx)
                case atStart => exact ⟨X, Nat.le_refl _, by omega, .inr rfl, rfl, HO.out.1, HO.out.2⟩
                case round =>
                  obtain ⟨x, hXx, hgx, hxc, rfl, hox, hkx⟩ := hrel
                  have HOX := Lib.hid (And.intro hox hkx)
                  clear hox hkx
                  by_cases hxw : x < wN
                  · have gx : decide (x < wN) = true := decide_eq_true hxw
                    have hlim := HLIM.out
                    have hyH := hlim.1 k hk ⟨HIN.out.1, HIN.out.2, by omega⟩
                    have hyH1 : Y + k + 1 ≤ H1 := hyH
                    have hxW : x < W1 := by have := hlim.2.1; omega
                    obtain ⟨m1, hm1⟩ : ∃ m1, (Y + k) * W1 = m1 := ⟨_, rfl⟩
                    have hle : 4 * (m1 + x) + 4 ≤ NN := by
                      rw [← HN.out.1, ← hm1]
                      have h1 : (Y + k + 1) * W1 ≤ H1 * W1 := Nat.mul_le_mul_right _ hyH1
                      rw [Nat.add_mul, Nat.one_mul] at h1
                      rw [Nat.mul_assoc, Nat.mul_comm W1 H1]
                      omega
                    have hNNb : NN ≤ 1073741824 := by
                      rw [← HN.out.1, Nat.mul_assoc]
                      have h1 : W1 * H1 ≤ 16384 * 16384 := Nat.mul_le_mul HP1.out.1.wb HP1.out.1.hb
                      omega
                    obtain ⟨g, pc2, hpv2, hgc, hgm⟩ := Own.row HU.out.2.1 (by rw [HN.out.2.1]; omega)
                    rw [HN.out.2.1] at hpv2 hgc
                    obtain ⟨o, ho⟩ : ∃ o, 4 * (m1 + x) = o := ⟨_, rfl⟩
                    have hst := paint_step d1.p W1 H1 v Y X wN c0 c1 c2 255 k x hxW hxw hXx HIN.out.1 HIN.out.2 hyH1
                    rw [hm1, ho, HN.out.1] at hst
                    obtain ⟨WQ, hWQ⟩ : ∃ WQ, WQ = wr.drew := ⟨_, rfl⟩
                    have hkQ : Kept (fun _ => False) wr WQ := by rw [hWQ]; exact (Kept.refl _ _).drew
                    have hbQ := (HU.out.1.kept HOX.out.2 HO4.out.2.2.1).kept hkQ id
                    have zp : WQ.cell? ⟨a, 775, none⟩ = some (.slice (some ⟨g, 0, none⟩) NN pc2) := by rw [← hpv2]; exact hbQ.fp.1
                    have zy : WQ.cell? ⟨a, 772, none⟩ = some (.int .i64 (Y : Int)) := by rw [← HP1.out.2.2.2.2.2.1]; exact hbQ.fy.1
                    have zw : WQ.cell? ⟨a, 773, none⟩ = some (.int .i64 (W1 : Int)) := by rw [← HP1.out.1.w]; exact hbQ.fw.1
                    obtain ⟨⟨y0, -⟩, ⟨y1, -⟩, y2, -⟩ := blk3 (hkQ.blk (HOX.out.2.blk HU.out.2.2.2.2.1 HU.out.2.2.2.2.2) id)
                    have X0 := cell_regrown zp
                    have X1 := cell_regrown zy
                    have X2 := cell_regrown zw
                    have X3 := cell_regrown y0
                    have X4 := cell_regrown y1
                    have X5 := cell_regrown y2
                    have q1 : ((Y : Int) + (k : Int)) * (W1 : Int) = (m1 : Int) := by rw [← hm1]; simp
                    have q2 : IntKind.i64.wrap (m1 : Int) = (m1 : Int) := IntWalk.i64_in _ (by omega)
                    have q3 : IntKind.i64.wrap ((m1 : Int) + (x : Int)) = (m1 : Int) + (x : Int) := IntWalk.i64_in _ (by omega)
                    have q4 : IntKind.i64.wrap (4 * ((m1 : Int) + (x : Int))) = 4 * ((m1 : Int) + (x : Int)) := IntWalk.i64_in _ (by omega)
                    have q5 : (4 * ((m1 : Int) + (x : Int))).toNat = o := by omega
                    have q6 : 0 ≤ 4 * ((m1 : Int) + (x : Int)) := by omega
                    have q7 : 4 * ((m1 : Int) + (x : Int)) ≤ (NN : Int) := by omega
                    have q8 : ¬ pc2 = o := by omega
                    have q9 : IntKind.i64.wrap ((x : Int) + 1) = (x : Int) + 1 := IntWalk.i64_in _ (by omega)
                    obtain ⟨RB, hRB⟩ : ∃ R : Value → World → Prop, R = fun v w' => ∃ q, v = .slice (some ⟨q, 0, none⟩) 4 4 ∧ WQ.heap.size ≤ q ∧ w'.heap[q]? = some (.cells #[.int .u8 c0, .int .u8 c1, .int .u8 c2, .int .u8 255] 5 (0, 0)) := ⟨_, rfl⟩
                    have HRB := Lib.hid hRB
                    have HWQ := Lib.hid hWQ
                    have HST := Lib.hid (And.intro hst (And.intro hpv2 (And.intro hkQ (show 4 = Nat.min 4 (NN - o) ∧ o + 4 ≤ NN from ⟨(Nat.min_eq_left (by omega)).symm, by omega⟩))))
                    clear hst hpv2 hkQ hbQ hRB hWQ hm1 hle hyH hyH1 hxW ho hlim cx cy
                    go_wp2
                    refine wp_region_grow #[0, 1, 3, 7, 0, 16, 48, 112, 0, 496, 0, 1024, 3072, 7168, 16368, 0, 65520, 131056, 262143, 0, 524288, 0, 2097152, 0, 8388608, 33030144, 67108863] 26 [] (fun i => if i = 25 then some RB else none) (by kernel_rfl) rfl (by kernel_rfl) (fun i hi => by cases hi) (fun _ _ _ _ _ h => h) ?_
                    rintro _ rfl
                    rw [← HWQ.out]
                    simp only [List.take_succ_cons, List.take_zero, List.drop_succ_cons, List.drop_zero, number, Nat.reduceAdd]
                    repeat (refine wpGrow_step (fun K hK => ?_); go_simp; refine hK _ _ ?_; clear hK K)
                    refine wpGrow_step (fun K hK => ?_)
                    go_simp
                    refine ⟨fun w' hg => ⟨(Kept.refl _ _).alloc _, by rw [HRB.out]; exact ⟨_, rfl, hg.old.size, blk_new _ _⟩⟩, fun v25 wa hv25 _ => ?_⟩
                    rw [HRB.out] at hv25
                    obtain ⟨Q2, rfl, hq2, hqb2⟩ := hv25
                    refine hK _ _ ?_; clear hK K
                    refine wpGrow_nil ?_
                    intro w12 hk3 hω
                    have hqb12 : w12.heap[Q2]? = _ := Kept.blk (show Kept _ wa w12 from hω 25) hqb2 id
                    have hown : Own .u8 5 w12 (.slice (some ⟨g, 0, none⟩) NN pc2) (tab NN (paintF d1.p W1 v Y X wN [c0, c1, c2, 255] k x)) := by
                      rw [← HST.out.2.1]; exact (HOX.out.1.kept HST.out.2.2.1 (fun _ _ => id)).kept hk3 (fun _ _ => id)
                    clear hω zp zy zw y0 y1 y2 X0 X1 X2 X3 X4 X5
                    refine wpList_cp rfl (.tmp 124) (.tmp 131) 30 30 rfl 5 .u8 Try.underlying30 size5 g NN pc2 o (NN - o) (pc2 - o) _ rfl hown (some ⟨Q2, 0, none⟩) 4 4 [c0, c1, c2, 255] rfl (slAt_blk hqb12 rfl rfl) 4 HST.out.2.2.2.1 HST.out.2.2.2.2 ?_
                    intro w13 ho13 hk13
                    rw [show [c0, c1, c2, 255].take 4 = [c0, c1, c2, 255] from rfl, HST.out.1, ← HST.out.2.1] at ho13
                    have hkF : Kept (fun i => pv4.ownBlock = some i) U3 w13 := (HOX.out.2.then (((HST.out.2.2.1.then hk3).mono fun _ _ h => h.elim))).then (hk13.mono fun i _ (hi : i = g) => by rw [HST.out.2.1, hi]; rfl)
                    have H13 := Lib.hid (And.intro ho13 hkF)
                    clear ho13 hkF hk13 hk3 hown hqb12 hqb2
                    go_wp2
                    go_roundg (gk - 1)
                    case rel => exact ⟨x + 1, by omega, by omega, .inl (by omega), by simp, H13.out⟩
                    case measure => omega
                  · have gx : decide (x < wN) = false := decide_eq_false hxw
                    have ho2 : Own .u8 5 wr pv4 (tab NN (paintF d1.p W1 v Y X wN [c0, c1, c2, 255] (k + 1) X)) := by rw [← paint_end _ _ _ _ _ _ _ _ _ x (by omega)]; exact HOX.out.1
                    have HO2 := Lib.hid ho2
                    clear ho2
                    go_wp2
                    go_roundg (gkO - 1)
                    case rel => exact ⟨k + 1, by omega, by omega, by simp, HO2.out, HOX.out.2⟩
                    case measure => omega
              · have ho2 : Own .u8 5 wr pv4 (tab NN (paintF d1.p W1 v Y X wN [c0, c1, c2, 255] (k + 1) X)) := by rw [← paint_skip _ _ _ _ _ _ _ _ _ hin]; exact HO.out.1
                have HO2 := Lib.hid ho2
                clear ho2
                have hc : b = 0 ∨ (b = 1 ∧ 16384 ≤ Y + k) := by rw [hr] at hin; omega
                clear hin hr hb
                rcases hc with rfl | ⟨rfl, hc⟩
                · go_wp2
                  go_roundg (gk - 1)
                  case rel => exact ⟨k + 1, by omega, by omega, by simp, HO2.out, HO.out.2⟩
                  case measure => omega
                · have g5 : decide (16384 ≤ (Y : Int) + (k : Int)) = true := decide_eq_true (by omega)
                  go_wp2
                  go_roundg (gk - 1)
                  case rel => exact ⟨k + 1, by omega, by omega, by simp, HO2.out, HO.out.2⟩
                  case measure => omega
            · obtain rfl : k = 6 := by omega
              have gk0 : decide (6 < 6) = false := by decide
              have hT := turn_w (d := { d1 with drawn := false }) HU.out.1 HU.out.2.2.1 HO4.out.2.2.1 HO4.out.2.2.2.1 HO4.out.2.2.2.2.1 HO4.out.2.2.2.2.2.1 HO.out.2 HO.out.1
              have hT2 := Turn.then HO4.out.2.2.2.2.2.2.1 HU.out.2.2.2.1 hT
              have HTF := Lib.hid (hT2.set (fun _ _ h => h.sx ((min (X + n) 1048576 : Nat) : Int)) rfl rfl)
              have cx' := hbr.fx.2
              have cx : wr.cell? ⟨a, 771, none⟩ = some (.int .i64 (X : Int)) := by rw [← HP1.out.2.2.2.2.1]; exact hbr.fx.1
              have wx : IntKind.i64.wrap ((X : Int) + (n : Int)) = (X : Int) + (n : Int) := IntWalk.i64_in _ (by omega)
              have mx : (if (X : Int) + (n : Int) < 1048576 then (X : Int) + (n : Int) else 1048576) = ((min (X + n) 1048576 : Nat) : Int) := by split <;> omega
              have mx' : (if 1048576 < (X : Int) + (n : Int) then 1048576 else (X : Int) + (n : Int)) = ((min (X + n) 1048576 : Nat) : Int) := by split <;> omega
              obtain ⟨mn, hmn⟩ : ∃ mn, min (X + n) 1048576 = mn := ⟨_, rfl⟩
              rw [hmn] at mx mx' HTF
              have HMN := Lib.hid hmn
              clear hT hT2 hbr hk hmn
              go_wp2
              go_end0
              refine ⟨rfl, ?_⟩
              rw [HRS.out, HMN.out]
              have h9 := HTF.out
              unfold paint
              rw [HN.out.1]
              exact h9
        · subst hDR
          go_wp2
          refine wp_region_grow #[0, 0, 2, 6, 14, 1, 33, 127, 255, 0, 1023] 10 [] (fun i => if i = 9 then some RA else none) (by kernel_rfl) rfl (by kernel_rfl) (fun i hi => by cases hi) (fun _ _ _ _ _ h => h) ?_
          rintro _ rfl
          rw [← HWR.out]
          simp only [List.take_succ_cons, List.take_zero, List.drop_succ_cons, List.drop_zero, number, Nat.reduceAdd]
          repeat (refine wpGrow_step (fun K hK => ?_); go_simp; refine hK _ _ ?_; clear hK K)
          refine wpGrow_step (fun K hK => ?_)
          go_simp
          refine ⟨fun w' hg => ⟨(Kept.refl _ _).alloc _, by rw [HRA.out]; exact ⟨_, rfl, hg.old.size, blk_new _ _⟩⟩, fun v9 wa hv9 _ => ?_⟩
          rw [HRA.out] at hv9
          obtain ⟨Q9, rfl, hq9, hqb⟩ := hv9
          refine hK _ _ ?_; clear hK K
          refine wpGrow_nil ?_
          intro w9 hk9 hω
          have hqb9 : w9.heap[Q9]? = _ := Kept.blk (show Kept _ wa w9 from hω 9) hqb id
          obtain ⟨U1, U2, U3, f1, f2, f3, ⟨e1, e1'⟩, ⟨e2, e2'⟩, ⟨e3, e3'⟩, hcV, hkV⟩ := store3 hqb9 (.int .u8 c0) (.int .u8 c1) (.int .u8 c2)
          clear hω z0' R0 R1 R2 X0 X1 X2 X3
          go_wp2
          have hq9' : V1.heap.size ≤ Q9 := by rw [HWR.out] at hq9; exact hq9
          have kU : Kept (fun j => j = Q9) V1 U3 := ((HKR.out.then hk9).mono fun _ _ h => h.elim).then hkV
          have hbU := HV1.out.1.kept kU (fun (h : a = Q9) => by have := HV1.out.1.lt; omega)
          have hpU : Own .u8 5 U3 pv4 d1.p := HV1.out.2.1.kept kU (fun b hb (hS : b = Q9) => by have := HV1.out.2.1.lt b hb; omega)
          have hnU : Own .i64 3 U3 nv4 d1.n := HV1.out.2.2.1.kept kU (fun b hb (hS : b = Q9) => by have := HV1.out.2.2.1.lt b hb; omega)
          have hkGU : Kept G W U3 := HV1.out.2.2.2.trans (kU.mono fun i _ (hi : i = Q9) => Or.inr (by have := HV1.out.2.2.2.size; omega))
          have hQpv : pv4.ownBlock ≠ some Q9 := fun h => by have := HV1.out.2.1.lt Q9 h; omega
          have HU := Lib.hid (And.intro hbU (And.intro hpU (And.intro hnU (And.intro hkGU (And.intro hcV hQpv)))))
          obtain ⟨NN, hNN⟩ : ∃ NN, 4 * W1 * H1 = NN := ⟨_, rfl⟩
          have hPl : d1.p.length = NN := by rw [HP1.out.1.p HP1.out.2.1, hNN]
          obtain ⟨pa, pc, hpv, hps, hplc, hpcm, hpn, -⟩ := hpU.shape
          rw [hPl] at hpv hps hplc
          have HN := Lib.hid (And.intro hNN (And.intro hPl (And.intro hpv (And.intro hps hplc))))
          clear hq9' kU hbU hpU hnU hkGU hQpv hNN hPl hps hpcm hpn hcV hkV hk9 hqb9 hqb hq9 f1 f2 f3 e1 e1' e2 e2' e3 e3' cd cd' hV1 hpv hplc
          go_loopg [10, 11, 80] 6 (fun gg _ _ kv wr => ∃ k : Nat, 6 ≤ gg + k ∧ k ≤ 6 ∧ kv = .int .i64 (k : Int) ∧ Own .u8 5 wr pv4 (tab NN (paintF d1.p W1 v Y X wN [c0, c1, c2, 255] k X)) ∧ Kept (fun i => pv4.ownBlock = some i) U3 wr)
          case atStart => exact ⟨0, by omega, by omega, rfl, by rw [paint_start _ _ _ _ _ _ _ _ HN.out.2.1]; exact HU.out.2.1, Kept.refl _ _⟩
          case round =>
            obtain ⟨k, hgg, hk6, rfl, ho, hk⟩ := hrel
            have HO := Lib.hid (And.intro ho hk)
            have hbr := HU.out.1.kept hk HO4.out.2.2.1
            clear ho hk
            by_cases hk : k < 6
            · have gk0 : decide (k < 6) = true := decide_eq_true hk
              have cx : wr.cell? ⟨a, 771, none⟩ = some (.int .i64 (X : Int)) := by rw [← HP1.out.2.2.2.2.1]; exact hbr.fx.1
              have cy : wr.cell? ⟨a, 772, none⟩ = some (.int .i64 (Y : Int)) := by rw [← HP1.out.2.2.2.2.2.1]; exact hbr.fy.1
              clear hbr
              obtain ⟨r, hr⟩ : ∃ r, v / 2 ^ k = r := ⟨_, rfl⟩
              have hr64 : r < 64 := by rw [← hr]; exact Nat.lt_of_le_of_lt (Nat.div_le_self _ _) hv
              have sh0 : min k 64 = k := by omega
              have sh1 : (v : Int) / 2 ^ k = (r : Int) := by rw [← hr]; simp
              have nk : ¬ (k : Int) < 0 := by omega
              have a1 := i64_and1 r hr64
              obtain ⟨b, hb⟩ : ∃ b, r % 2 = b := ⟨_, rfl⟩
              rw [hb] at a1
              have wr1 : IntKind.i64.wrap (r : Int) = (r : Int) := IntWalk.i64_in _ (by omega)
              have wk : IntKind.i64.wrap ((k : Int) + 1) = (k : Int) + 1 := IntWalk.i64_in _ (by omega)
              have wy : IntKind.i64.wrap ((Y : Int) + (k : Int)) = (Y : Int) + (k : Int) := IntWalk.i64_in _ (by omega)
              by_cases hin : v / 2 ^ k % 2 = 1 ∧ Y + k < 16384
              · obtain rfl : b = 1 := by have := hin.1; rw [hr] at this; omega
                have g5 : decide (16384 ≤ (Y : Int) + (k : Int)) = false := decide_eq_false (by have := hin.2; omega)
                have HIN := Lib.hid hin
                clear hin hr hb
                obtain ⟨gkO, rfl⟩ : ∃ g, g = gk := ⟨_, rfl⟩
                go_wp2
                go_loopg [11] (wN - X) (fun gg xv wx => ∃ x : Nat, X ≤ x ∧ wN ≤ gg + x ∧ (x ≤ wN ∨ x = X) ∧ xv = .int .i64 (x : Int) ∧ Own .u8 5 wx pv4 (tab NN (paintF d1.p W1 v Y X wN [c0, c1, c2, 255] k x)) ∧ Kept (fun i => pv4.ownBlock = some i) U3 wx)
                case atStart => exact ⟨X, Nat.le_refl _, by omega, .inr rfl, rfl, HO.out.1, HO.out.2⟩
                case round =>
                  obtain ⟨x, hXx, hgx, hxc, rfl, hox, hkx⟩ := hrel
                  have HOX := Lib.hid (And.intro hox hkx)
                  clear hox hkx
                  by_cases hxw : x < wN
                  · have gx : decide (x < wN) = true := decide_eq_true hxw
                    have hlim := HLIM.out
                    have hyH := hlim.1 k hk ⟨HIN.out.1, HIN.out.2, by omega⟩
                    have hyH1 : Y + k + 1 ≤ H1 := hyH
                    have hxW : x < W1 := by have := hlim.2.1; omega
                    obtain ⟨m1, hm1⟩ : ∃ m1, (Y + k) * W1 = m1 := ⟨_, rfl⟩
                    have hle : 4 * (m1 + x) + 4 ≤ NN := by
                      rw [← HN.out.1, ← hm1]
                      have h1 : (Y + k + 1) * W1 ≤ H1 * W1 := Nat.mul_le_mul_right _ hyH1
                      rw [Nat.add_mul, Nat.one_mul] at h1
                      rw [Nat.mul_assoc, Nat.mul_comm W1 H1]
                      omega
                    have hNNb : NN ≤ 1073741824 := by
                      rw [← HN.out.1, Nat.mul_assoc]
                      have h1 : W1 * H1 ≤ 16384 * 16384 := Nat.mul_le_mul HP1.out.1.wb HP1.out.1.hb
                      omega
                    obtain ⟨g, pc2, hpv2, hgc, hgm⟩ := Own.row HU.out.2.1 (by rw [HN.out.2.1]; omega)
                    rw [HN.out.2.1] at hpv2 hgc
                    obtain ⟨o, ho⟩ : ∃ o, 4 * (m1 + x) = o := ⟨_, rfl⟩
                    have hst := paint_step d1.p W1 H1 v Y X wN c0 c1 c2 255 k x hxW hxw hXx HIN.out.1 HIN.out.2 hyH1
                    rw [hm1, ho, HN.out.1] at hst
                    obtain ⟨WQ, hWQ⟩ : ∃ WQ, WQ = wr.drew := ⟨_, rfl⟩
                    have hkQ : Kept (fun _ => False) wr WQ := by rw [hWQ]; exact (Kept.refl _ _).drew
                    have hbQ := (HU.out.1.kept HOX.out.2 HO4.out.2.2.1).kept hkQ id
                    have zp : WQ.cell? ⟨a, 775, none⟩ = some (.slice (some ⟨g, 0, none⟩) NN pc2) := by rw [← hpv2]; exact hbQ.fp.1
                    have zy : WQ.cell? ⟨a, 772, none⟩ = some (.int .i64 (Y : Int)) := by rw [← HP1.out.2.2.2.2.2.1]; exact hbQ.fy.1
                    have zw : WQ.cell? ⟨a, 773, none⟩ = some (.int .i64 (W1 : Int)) := by rw [← HP1.out.1.w]; exact hbQ.fw.1
                    obtain ⟨⟨y0, -⟩, ⟨y1, -⟩, y2, -⟩ := blk3 (hkQ.blk (HOX.out.2.blk HU.out.2.2.2.2.1 HU.out.2.2.2.2.2) id)
                    have X0 := cell_regrown zp
                    have X1 := cell_regrown zy
                    have X2 := cell_regrown zw
                    have X3 := cell_regrown y0
                    have X4 := cell_regrown y1
                    have X5 := cell_regrown y2
                    have q1 : ((Y : Int) + (k : Int)) * (W1 : Int) = (m1 : Int) := by rw [← hm1]; simp
                    have q2 : IntKind.i64.wrap (m1 : Int) = (m1 : Int) := IntWalk.i64_in _ (by omega)
                    have q3 : IntKind.i64.wrap ((m1 : Int) + (x : Int)) = (m1 : Int) + (x : Int) := IntWalk.i64_in _ (by omega)
                    have q4 : IntKind.i64.wrap (4 * ((m1 : Int) + (x : Int))) = 4 * ((m1 : Int) + (x : Int)) := IntWalk.i64_in _ (by omega)
                    have q5 : (4 * ((m1 : Int) + (x : Int))).toNat = o := by omega
                    have q6 : 0 ≤ 4 * ((m1 : Int) + (x : Int)) := by omega
                    have q7 : 4 * ((m1 : Int) + (x : Int)) ≤ (NN : Int) := by omega
                    have q8 : ¬ pc2 = o := by omega
                    have q9 : IntKind.i64.wrap ((x : Int) + 1) = (x : Int) + 1 := IntWalk.i64_in _ (by omega)
                    obtain ⟨RB, hRB⟩ : ∃ R : Value → World → Prop, R = fun v w' => ∃ q, v = .slice (some ⟨q, 0, none⟩) 4 4 ∧ WQ.heap.size ≤ q ∧ w'.heap[q]? = some (.cells #[.int .u8 c0, .int .u8 c1, .int .u8 c2, .int .u8 255] 5 (0, 0)) := ⟨_, rfl⟩
                    have HRB := Lib.hid hRB
                    have HWQ := Lib.hid hWQ
                    have HST := Lib.hid (And.intro hst (And.intro hpv2 (And.intro hkQ (show 4 = Nat.min 4 (NN - o) ∧ o + 4 ≤ NN from ⟨(Nat.min_eq_left (by omega)).symm, by omega⟩))))
                    clear hst hpv2 hkQ hbQ hRB hWQ hm1 hle hyH hyH1 hxW ho hlim cx cy
                    go_wp2
                    refine wp_region_grow #[0, 1, 3, 7, 0, 16, 48, 112, 0, 496, 0, 1024, 3072, 7168, 16368, 0, 65520, 131056, 262143, 0, 524288, 0, 2097152, 0, 8388608, 33030144, 67108863] 26 [] (fun i => if i = 25 then some RB else none) (by kernel_rfl) rfl (by kernel_rfl) (fun i hi => by cases hi) (fun _ _ _ _ _ h => h) ?_
                    rintro _ rfl
                    rw [← HWQ.out]
                    simp only [List.take_succ_cons, List.take_zero, List.drop_succ_cons, List.drop_zero, number, Nat.reduceAdd]
                    repeat (refine wpGrow_step (fun K hK => ?_); go_simp; refine hK _ _ ?_; clear hK K)
                    refine wpGrow_step (fun K hK => ?_)
                    go_simp
                    refine ⟨fun w' hg => ⟨(Kept.refl _ _).alloc _, by rw [HRB.out]; exact ⟨_, rfl, hg.old.size, blk_new _ _⟩⟩, fun v25 wa hv25 _ => ?_⟩
                    rw [HRB.out] at hv25
                    obtain ⟨Q2, rfl, hq2, hqb2⟩ := hv25
                    refine hK _ _ ?_; clear hK K
                    refine wpGrow_nil ?_
                    intro w12 hk3 hω
                    have hqb12 : w12.heap[Q2]? = _ := Kept.blk (show Kept _ wa w12 from hω 25) hqb2 id
                    have hown : Own .u8 5 w12 (.slice (some ⟨g, 0, none⟩) NN pc2) (tab NN (paintF d1.p W1 v Y X wN [c0, c1, c2, 255] k x)) := by
                      rw [← HST.out.2.1]; exact (HOX.out.1.kept HST.out.2.2.1 (fun _ _ => id)).kept hk3 (fun _ _ => id)
                    clear hω zp zy zw y0 y1 y2 X0 X1 X2 X3 X4 X5
                    refine wpList_cp rfl (.tmp 124) (.tmp 131) 30 30 rfl 5 .u8 Try.underlying30 size5 g NN pc2 o (NN - o) (pc2 - o) _ rfl hown (some ⟨Q2, 0, none⟩) 4 4 [c0, c1, c2, 255] rfl (slAt_blk hqb12 rfl rfl) 4 HST.out.2.2.2.1 HST.out.2.2.2.2 ?_
                    intro w13 ho13 hk13
                    rw [show [c0, c1, c2, 255].take 4 = [c0, c1, c2, 255] from rfl, HST.out.1, ← HST.out.2.1] at ho13
                    have hkF : Kept (fun i => pv4.ownBlock = some i) U3 w13 := (HOX.out.2.then (((HST.out.2.2.1.then hk3).mono fun _ _ h => h.elim))).then (hk13.mono fun i _ (hi : i = g) => by rw [HST.out.2.1, hi]; rfl)
                    have H13 := Lib.hid (And.intro ho13 hkF)
                    clear ho13 hkF hk13 hk3 hown hqb12 hqb2
                    go_wp2
                    go_roundg (gk - 1)
                    case rel => exact ⟨x + 1, by omega, by omega, .inl (by omega), by simp, H13.out⟩
                    case measure => omega
                  · have gx : decide (x < wN) = false := decide_eq_false hxw
                    have ho2 : Own .u8 5 wr pv4 (tab NN (paintF d1.p W1 v Y X wN [c0, c1, c2, 255] (k + 1) X)) := by rw [← paint_end _ _ _ _ _ _ _ _ _ x (by omega)]; exact HOX.out.1
                    have HO2 := Lib.hid ho2
                    clear ho2
                    go_wp2
                    go_roundg (gkO - 1)
                    case rel => exact ⟨k + 1, by omega, by omega, by simp, HO2.out, HOX.out.2⟩
                    case measure => omega
              · have ho2 : Own .u8 5 wr pv4 (tab NN (paintF d1.p W1 v Y X wN [c0, c1, c2, 255] (k + 1) X)) := by rw [← paint_skip _ _ _ _ _ _ _ _ _ hin]; exact HO.out.1
                have HO2 := Lib.hid ho2
                clear ho2
                have hc : b = 0 ∨ (b = 1 ∧ 16384 ≤ Y + k) := by rw [hr] at hin; omega
                clear hin hr hb
                rcases hc with rfl | ⟨rfl, hc⟩
                · go_wp2
                  go_roundg (gk - 1)
                  case rel => exact ⟨k + 1, by omega, by omega, by simp, HO2.out, HO.out.2⟩
                  case measure => omega
                · have g5 : decide (16384 ≤ (Y : Int) + (k : Int)) = true := decide_eq_true (by omega)
                  go_wp2
                  go_roundg (gk - 1)
                  case rel => exact ⟨k + 1, by omega, by omega, by simp, HO2.out, HO.out.2⟩
                  case measure => omega
            · obtain rfl : k = 6 := by omega
              have gk0 : decide (6 < 6) = false := by decide
              have hT := turn_w (d := { d1 with drawn := true }) HU.out.1 HU.out.2.2.1 HO4.out.2.2.1 HO4.out.2.2.2.1 HO4.out.2.2.2.2.1 HO4.out.2.2.2.2.2.1 HO.out.2 HO.out.1
              have hT2 := Turn.then HO4.out.2.2.2.2.2.2.1 HU.out.2.2.2.1 hT
              have HTF := Lib.hid (hT2.set (fun _ _ h => h.sx ((min (X + n) 1048576 : Nat) : Int)) rfl rfl)
              have cx' := hbr.fx.2
              have cx : wr.cell? ⟨a, 771, none⟩ = some (.int .i64 (X : Int)) := by rw [← HP1.out.2.2.2.2.1]; exact hbr.fx.1
              have wx : IntKind.i64.wrap ((X : Int) + (n : Int)) = (X : Int) + (n : Int) := IntWalk.i64_in _ (by omega)
              have mx : (if (X : Int) + (n : Int) < 1048576 then (X : Int) + (n : Int) else 1048576) = ((min (X + n) 1048576 : Nat) : Int) := by split <;> omega
              have mx' : (if 1048576 < (X : Int) + (n : Int) then 1048576 else (X : Int) + (n : Int)) = ((min (X + n) 1048576 : Nat) : Int) := by split <;> omega
              obtain ⟨mn, hmn⟩ : ∃ mn, min (X + n) 1048576 = mn := ⟨_, rfl⟩
              rw [hmn] at mx mx' HTF
              have HMN := Lib.hid hmn
              clear hT hT2 hbr hk hmn
              go_wp2
              go_end0
              refine ⟨rfl, ?_⟩
              rw [HRS.out, HMN.out]
              have h9 := HTF.out
              unfold paint
              rw [HN.out.1]
              exact h9
      · have g9 : decide (0 < hh) = true := decide_eq_true (by omega)
        have hwN1 : 1 ≤ wN ∧ wN ≤ 16384 := by have := HW.out.2.2; rw [if_neg h0] at this; omega
        obtain ⟨W1, hW1⟩ : ∃ W1, max wN W0 = W1 := ⟨_, rfl⟩
        obtain ⟨H1, hH1⟩ : ∃ H1, max hh H0 = H1 := ⟨_, rfl⟩
        have hp1 : Picks wN W0 W1 := by rw [← hW1]; exact picks_max _ _
        have hp2 : Picks hh H0 H1 := by rw [← hH1]; exact picks_max _ _
        have hwl : wN ≤ W1 ∧ hh ≤ H1 := by omega
        have HMX := Lib.hid (And.intro hW1 hH1)
        have HPP := Lib.hid (And.intro hp1 hp2)
        have HGR := Lib.hid (dgrow_any G d wr a wN hh W0 H0 W1 H1 M (HD.out.kept HKW.out (fun _ _ => id)) HPK.out.1 HPK.out.2.1 hp1 hp2 (by omega) (by omega))
        clear hW1 hH1 hp1 hp2
        obtain ⟨ok, hok⟩ : ∃ ok, growOk d W0 H0 W1 H1 = ok := ⟨_, rfl⟩
        rw [hok] at HGR
        have HOK := Lib.hid hok
        clear hok
        go_wp2_with fail
        refine HGR.out.mono ?_
        rintro e w4 ⟨rfl, hT4⟩
        have HTG := Lib.hid (Turn.then (fun i hi => Or.inl hi) ((HKW.out.mono fun _ _ h => h.elim : Kept G W wr)) hT4)
        clear hT4
        cases ok with
        | false =>
          have HRS := Lib.hid (show RES = d.grow W0 H0 W1 H1 from by
            rw [← HRES.out]; unfold Dec.sixel; rw [HW.out.1, HW.out.2.1, if_neg h0, HMX.out.1, HMX.out.2, HOK.out, if_pos rfl])
          go_wp2
          exact bodyPost_ret (results_none rfl _ _ _) rfl ⟨rfl, by rw [HRS.out]; exact HTG.out⟩
        | true =>
          obtain ⟨q1, q2, q3, q4, q5, q6, q7⟩ := grow_pic HPK.out.1 HPK.out.2.1 HPP.out.1 HPP.out.2 hwN1 ⟨by omega, h16⟩ HOK.out
          obtain ⟨db, hdb⟩ : ∃ db, d.drawn = db := ⟨_, rfl⟩
          obtain ⟨DR, hDR⟩ : ∃ DR, true = DR := ⟨_, rfl⟩
          have HRS0 := Lib.hid (show RES = { d.grow W0 H0 W1 H1 with drawn := DR, p := paint (d.grow W0 H0 W1 H1).p W1 H1 v Y X wN [c0, c1, c2, 255], x := ((min (X + n) 1048576 : Nat) : Int) } from by
            rw [← HRES.out]; unfold Dec.sixel Dec.sixelNew; rw [HW.out.1, HW.out.2.1, if_neg h0, HMX.out.1, HMX.out.2, HOK.out, if_neg (by simp), HC.out.1, HC.out.2.1, HC.out.2.2]; simp [h0, ← hDR])
          obtain ⟨d1, hd1⟩ : ∃ d1, d.grow W0 H0 W1 H1 = d1 := ⟨_, rfl⟩
          rw [hd1] at q1 q2 q3 q4 q5 q6 q7 HTG HRS0
          have HRS := Lib.hid HRS0.out
          have HT4 := Lib.hid HTG.out
          have HP1 := Lib.hid (show PicOk d1 W1 H1 M ∧ d1.full = false ∧ d1.l = d.l ∧ d1.now = (K : Int) ∧ d1.x = (X : Int) ∧ d1.y = (Y : Int) ∧ d1.drawn = db from ⟨q1, q2, q3, by rw [q4]; exact HPK.out.2.2.2.2, by rw [q5]; exact HPK.out.2.2.1, by rw [q6]; exact HPK.out.2.2.2.1, by rw [q7]; exact hdb⟩)
          have HLIM := Lib.hid (show (∀ j, j < 6 → dotOn v Y X j → Y + j < H1) ∧ wN ≤ W1 ∧ wN ≤ 16384 from ⟨fun j hj h => by have := HDOT.out j hj h; omega, by omega, by omega⟩)
          clear q1 q2 q3 q4 q5 q6 q7 hd1 hdb HGR HTG HRS0
          have hT4 := HT4.out
          obtain ⟨G4, ⟨pv4, nv4, hb4, hp4, hn4, o1, o2, o3, hG4⟩, hs4, hk4⟩ := hT4
          have HO4 := Lib.hid (And.intro hp4 (And.intro hn4 (And.intro o1 (And.intro o2 (And.intro o3 (And.intro hG4 (And.intro hs4 hk4)))))))
          obtain ⟨cd, cd'⟩ := hb4.fdrawn
          rw [HP1.out.2.2.2.2.2.2] at cd
          obtain ⟨V1, hV1⟩ : ∃ V, w4.setCell ⟨a, 776, none⟩ (.bool DR) = V := ⟨_, rfl⟩
          have kV1 : Kept (fun j => j = a) w4 V1 := by rw [← hV1]; exact (Kept.refl (fun j => j = a) w4).setCell (p := ⟨a, 776, none⟩) (.inl rfl) _
          have hb1 : DBlk V1 a { d1 with drawn := DR } pv4 nv4 := by rw [← hV1]; exact hb4.sdrawn DR
          have hp1 : Own .u8 5 V1 pv4 d1.p := hp4.kept kV1 (fun b hb (hS : b = a) => o1 (by rw [hb, hS]))
          have hn1 : Own .i64 3 V1 nv4 d1.n := hn4.kept kV1 (fun b hb (hS : b = a) => o2 (by rw [hb, hS]))
          have hkG : Kept G W V1 := hk4.trans (kV1.mono fun i _ (hi : i = a) => by rw [hi]; exact hs4 a ((hG4 a).2 (.inl rfl)))
          have HV1 := Lib.hid (And.intro hb1 (And.intro hp1 (And.intro hn1 hkG)))
          obtain ⟨WR, hWR⟩ : ∃ WR, WR = V1.drew := ⟨_, rfl⟩
          have hkR : Kept (fun _ => False) V1 WR := by rw [hWR]; exact (Kept.refl _ _).drew
          have hbR := hb1.kept hkR id
          obtain ⟨z0, -⟩ := hbR.fnow
          have z0' : WR.cell? ⟨a, 770, none⟩ = some (.int .i64 (K : Int)) := by have h9 := z0; rw [show ({ d1 with drawn := DR } : Dec).now = (K : Int) from HP1.out.2.2.2.1] at h9; exact h9
          have hLL : ({ d1 with drawn := DR } : Dec).l = d.l := HP1.out.2.2.1
          have R0 : WR.cell? ⟨a, 2 + K * 3, none⟩ = some (.int .u8 c0) := by have h9 := (hbR.reg (3 * K) (by omega)).1; rw [hLL, HC.out.1] at h9; rw [Nat.mul_comm K 3]; exact h9
          have R1 : WR.cell? ⟨a, 2 + K * 3 + 1, none⟩ = some (.int .u8 c1) := by have h9 := (hbR.reg (3 * K + 1) (by omega)).1; rw [hLL, HC.out.2.1] at h9; rw [Nat.mul_comm K 3]; exact h9
          have R2 : WR.cell? ⟨a, 2 + K * 3 + 2, none⟩ = some (.int .u8 c2) := by have h9 := (hbR.reg (3 * K + 2) (by omega)).1; rw [hLL, HC.out.2.2] at h9; rw [Nat.mul_comm K 3]; exact h9
          have X0 := cell_regrown z0'
          have X1 := cell_regrown R0
          have X2 := cell_regrown R1
          have X3 := cell_regrown R2
          obtain ⟨RA, hRA⟩ : ∃ R : Value → World → Prop, R = fun v w' => ∃ q, v = .pointer (some ⟨q, 0, none⟩) ∧ WR.heap.size ≤ q ∧ w'.heap[q]? = some (.cells #[.int .u8 0, .int .u8 0, .int .u8 0] 70 (0, 0)) := ⟨_, rfl⟩
          have HRA := Lib.hid hRA
          have HWR := Lib.hid hWR
          have HKR := Lib.hid hkR
          have kk1 : (K : Int) < 256 := by omega
          clear hb4 hp4 hn4 o1 o2 o3 hG4 hs4 hk4 hb1 hp1 hn1 hkG hWR hkR hbR z0 hLL hRA kV1
          subst hDR
          cases db
          · go_wp2
            refine wp_region_grow #[0, 0, 2, 6, 14, 1, 33, 127, 255, 0, 1023] 10 [] (fun i => if i = 9 then some RA else none) (by kernel_rfl) rfl (by kernel_rfl) (fun i hi => by cases hi) (fun _ _ _ _ _ h => h) ?_
            rintro _ rfl
            rw [← HWR.out]
            simp only [List.take_succ_cons, List.take_zero, List.drop_succ_cons, List.drop_zero, number, Nat.reduceAdd]
            repeat (refine wpGrow_step (fun K hK => ?_); go_simp; refine hK _ _ ?_; clear hK K)
            refine wpGrow_step (fun K hK => ?_)
            go_simp
            refine ⟨fun w' hg => ⟨(Kept.refl _ _).alloc _, by rw [HRA.out]; exact ⟨_, rfl, hg.old.size, blk_new _ _⟩⟩, fun v9 wa hv9 _ => ?_⟩
            rw [HRA.out] at hv9
            obtain ⟨Q9, rfl, hq9, hqb⟩ := hv9
            refine hK _ _ ?_; clear hK K
            refine wpGrow_nil ?_
            intro w9 hk9 hω
            have hqb9 : w9.heap[Q9]? = _ := Kept.blk (show Kept _ wa w9 from hω 9) hqb id
            obtain ⟨U1, U2, U3, f1, f2, f3, ⟨e1, e1'⟩, ⟨e2, e2'⟩, ⟨e3, e3'⟩, hcV, hkV⟩ := store3 hqb9 (.int .u8 c0) (.int .u8 c1) (.int .u8 c2)
            clear hω z0' R0 R1 R2 X0 X1 X2 X3
            go_wp2
            have hq9' : V1.heap.size ≤ Q9 := by rw [HWR.out] at hq9; exact hq9
            have kU : Kept (fun j => j = Q9) V1 U3 := ((HKR.out.then hk9).mono fun _ _ h => h.elim).then hkV
            have hbU := HV1.out.1.kept kU (fun (h : a = Q9) => by have := HV1.out.1.lt; omega)
            have hpU : Own .u8 5 U3 pv4 d1.p := HV1.out.2.1.kept kU (fun b hb (hS : b = Q9) => by have := HV1.out.2.1.lt b hb; omega)
            have hnU : Own .i64 3 U3 nv4 d1.n := HV1.out.2.2.1.kept kU (fun b hb (hS : b = Q9) => by have := HV1.out.2.2.1.lt b hb; omega)
            have hkGU : Kept G W U3 := HV1.out.2.2.2.trans (kU.mono fun i _ (hi : i = Q9) => Or.inr (by have := HV1.out.2.2.2.size; omega))
            have hQpv : pv4.ownBlock ≠ some Q9 := fun h => by have := HV1.out.2.1.lt Q9 h; omega
            have HU := Lib.hid (And.intro hbU (And.intro hpU (And.intro hnU (And.intro hkGU (And.intro hcV hQpv)))))
            obtain ⟨NN, hNN⟩ : ∃ NN, 4 * W1 * H1 = NN := ⟨_, rfl⟩
            have hPl : d1.p.length = NN := by rw [HP1.out.1.p HP1.out.2.1, hNN]
            obtain ⟨pa, pc, hpv, hps, hplc, hpcm, hpn, -⟩ := hpU.shape
            rw [hPl] at hpv hps hplc
            have HN := Lib.hid (And.intro hNN (And.intro hPl (And.intro hpv (And.intro hps hplc))))
            clear hq9' kU hbU hpU hnU hkGU hQpv hNN hPl hps hpcm hpn hcV hkV hk9 hqb9 hqb hq9 f1 f2 f3 e1 e1' e2 e2' e3 e3' cd cd' hV1 hpv hplc
            go_loopg [10, 11, 80] 6 (fun gg _ _ kv wr => ∃ k : Nat, 6 ≤ gg + k ∧ k ≤ 6 ∧ kv = .int .i64 (k : Int) ∧ Own .u8 5 wr pv4 (tab NN (paintF d1.p W1 v Y X wN [c0, c1, c2, 255] k X)) ∧ Kept (fun i => pv4.ownBlock = some i) U3 wr)
            case atStart => exact ⟨0, by omega, by omega, rfl, by rw [paint_start _ _ _ _ _ _ _ _ HN.out.2.1]; exact HU.out.2.1, Kept.refl _ _⟩
            case round =>
              obtain ⟨k, hgg, hk6, rfl, ho, hk⟩ := hrel
              have HO := Lib.hid (And.intro ho hk)
              have hbr := HU.out.1.kept hk HO4.out.2.2.1
              clear ho hk
              by_cases hk : k < 6
              · have gk0 : decide (k < 6) = true := decide_eq_true hk
                have cx : wr.cell? ⟨a, 771, none⟩ = some (.int .i64 (X : Int)) := by rw [← HP1.out.2.2.2.2.1]; exact hbr.fx.1
                have cy : wr.cell? ⟨a, 772, none⟩ = some (.int .i64 (Y : Int)) := by rw [← HP1.out.2.2.2.2.2.1]; exact hbr.fy.1
                clear hbr
                obtain ⟨r, hr⟩ : ∃ r, v / 2 ^ k = r := ⟨_, rfl⟩
                have hr64 : r < 64 := by rw [← hr]; exact Nat.lt_of_le_of_lt (Nat.div_le_self _ _) hv
                have sh0 : min k 64 = k := by omega
                have sh1 : (v : Int) / 2 ^ k = (r : Int) := by rw [← hr]; simp
                have nk : ¬ (k : Int) < 0 := by omega
                have a1 := i64_and1 r hr64
                obtain ⟨b, hb⟩ : ∃ b, r % 2 = b := ⟨_, rfl⟩
                rw [hb] at a1
                have wr1 : IntKind.i64.wrap (r : Int) = (r : Int) := IntWalk.i64_in _ (by omega)
                have wk : IntKind.i64.wrap ((k : Int) + 1) = (k : Int) + 1 := IntWalk.i64_in _ (by omega)
                have wy : IntKind.i64.wrap ((Y : Int) + (k : Int)) = (Y : Int) + (k : Int) := IntWalk.i64_in _ (by omega)
                by_cases hin : v / 2 ^ k % 2 = 1 ∧ Y + k < 16384
                · obtain rfl : b = 1 := by have := hin.1; rw [hr] at this; omega
                  have g5 : decide (16384 ≤ (Y : Int) + (k : Int)) = false := decide_eq_false (by have := hin.2; omega)
                  have HIN := Lib.hid hin
                  clear hin hr hb
                  obtain ⟨gkO, rfl⟩ : ∃ g, g = gk := ⟨_, rfl⟩
                  go_wp2
                  go_loopg [11] (wN - X) (fun gg xv wx => ∃ x : Nat, X ≤ x ∧ wN ≤ gg + x ∧ (x ≤ wN ∨ x = X) ∧ xv = .int .i64 (x : Int) ∧ Own .u8 5 wx pv4 (tab NN (paintF d1.p W1 v Y X wN [c0, c1, c2, 255] k x)) ∧ Kept (fun i => pv4.ownBlock = some i) U3 wx)
                  case atStart => exact ⟨X, Nat.le_refl _, by omega, .inr rfl, rfl, HO.out.1, HO.out.2⟩
                  case round =>
                    obtain ⟨x, hXx, hgx, hxc, rfl, hox, hkx⟩ := hrel
                    have HOX := Lib.hid (And.intro hox hkx)
                    clear hox hkx
                    by_cases hxw : x < wN
                    · have gx : decide (x < wN) = true := decide_eq_true hxw
                      have hlim := HLIM.out
                      have hyH := hlim.1 k hk ⟨HIN.out.1, HIN.out.2, by omega⟩
                      have hyH1 : Y + k + 1 ≤ H1 := hyH
                      have hxW : x < W1 := by have := hlim.2.1; omega
                      obtain ⟨m1, hm1⟩ : ∃ m1, (Y + k) * W1 = m1 := ⟨_, rfl⟩
                      have hle : 4 * (m1 + x) + 4 ≤ NN := by
                        rw [← HN.out.1, ← hm1]
                        have h1 : (Y + k + 1) * W1 ≤ H1 * W1 := Nat.mul_le_mul_right _ hyH1
                        rw [Nat.add_mul, Nat.one_mul] at h1
                        rw [Nat.mul_assoc, Nat.mul_comm W1 H1]
                        omega
                      have hNNb : NN ≤ 1073741824 := by
                        rw [← HN.out.1, Nat.mul_assoc]
                        have h1 : W1 * H1 ≤ 16384 * 16384 := Nat.mul_le_mul HP1.out.1.wb HP1.out.1.hb
                        omega
                      obtain ⟨g, pc2, hpv2, hgc, hgm⟩ := Own.row HU.out.2.1 (by rw [HN.out.2.1]; omega)
                      rw [HN.out.2.1] at hpv2 hgc
                      obtain ⟨o, ho⟩ : ∃ o, 4 * (m1 + x) = o := ⟨_, rfl⟩
                      have hst := paint_step d1.p W1 H1 v Y X wN c0 c1 c2 255 k x hxW hxw hXx HIN.out.1 HIN.out.2 hyH1
                      rw [hm1, ho, HN.out.1] at hst
                      obtain ⟨WQ, hWQ⟩ : ∃ WQ, WQ = wr.drew := ⟨_, rfl⟩
                      have hkQ : Kept (fun _ => False) wr WQ := by rw [hWQ]; exact (Kept.refl _ _).drew
                      have hbQ := (HU.out.1.kept HOX.out.2 HO4.out.2.2.1).kept hkQ id
                      have zp : WQ.cell? ⟨a, 775, none⟩ = some (.slice (some ⟨g, 0, none⟩) NN pc2) := by rw [← hpv2]; exact hbQ.fp.1
                      have zy : WQ.cell? ⟨a, 772, none⟩ = some (.int .i64 (Y : Int)) := by rw [← HP1.out.2.2.2.2.2.1]; exact hbQ.fy.1
                      have zw : WQ.cell? ⟨a, 773, none⟩ = some (.int .i64 (W1 : Int)) := by rw [← HP1.out.1.w]; exact hbQ.fw.1
                      obtain ⟨⟨y0, -⟩, ⟨y1, -⟩, y2, -⟩ := blk3 (hkQ.blk (HOX.out.2.blk HU.out.2.2.2.2.1 HU.out.2.2.2.2.2) id)
                      have X0 := cell_regrown zp
                      have X1 := cell_regrown zy
                      have X2 := cell_regrown zw
                      have X3 := cell_regrown y0
                      have X4 := cell_regrown y1
                      have X5 := cell_regrown y2
                      have q1 : ((Y : Int) + (k : Int)) * (W1 : Int) = (m1 : Int) := by rw [← hm1]; simp
                      have q2 : IntKind.i64.wrap (m1 : Int) = (m1 : Int) := IntWalk.i64_in _ (by omega)
                      have q3 : IntKind.i64.wrap ((m1 : Int) + (x : Int)) = (m1 : Int) + (x : Int) := IntWalk.i64_in _ (by omega)
                      have q4 : IntKind.i64.wrap (4 * ((m1 : Int) + (x : Int))) = 4 * ((m1 : Int) + (x : Int)) := IntWalk.i64_in _ (by omega)
                      have q5 : (4 * ((m1 : Int) + (x : Int))).toNat = o := by omega
                      have q6 : 0 ≤ 4 * ((m1 : Int) + (x : Int)) := by omega
                      have q7 : 4 * ((m1 : Int) + (x : Int)) ≤ (NN : Int) := by omega
                      have q8 : ¬ pc2 = o := by omega
                      have q9 : IntKind.i64.wrap ((x : Int) + 1) = (x : Int) + 1 := IntWalk.i64_in _ (by omega)
                      obtain ⟨RB, hRB⟩ : ∃ R : Value → World → Prop, R = fun v w' => ∃ q, v = .slice (some ⟨q, 0, none⟩) 4 4 ∧ WQ.heap.size ≤ q ∧ w'.heap[q]? = some (.cells #[.int .u8 c0, .int .u8 c1, .int .u8 c2, .int .u8 255] 5 (0, 0)) := ⟨_, rfl⟩
                      have HRB := Lib.hid hRB
                      have HWQ := Lib.hid hWQ
                      have HST := Lib.hid (And.intro hst (And.intro hpv2 (And.intro hkQ (show 4 = Nat.min 4 (NN - o) ∧ o + 4 ≤ NN from ⟨(Nat.min_eq_left (by omega)).symm, by omega⟩))))
                      clear hst hpv2 hkQ hbQ hRB hWQ hm1 hle hyH hyH1 hxW ho hlim cx cy
                      go_wp2
                      refine wp_region_grow #[0, 1, 3, 7, 0, 16, 48, 112, 0, 496, 0, 1024, 3072, 7168, 16368, 0, 65520, 131056, 262143, 0, 524288, 0, 2097152, 0, 8388608, 33030144, 67108863] 26 [] (fun i => if i = 25 then some RB else none) (by kernel_rfl) rfl (by kernel_rfl) (fun i hi => by cases hi) (fun _ _ _ _ _ h => h) ?_
                      rintro _ rfl
                      rw [← HWQ.out]
                      simp only [List.take_succ_cons, List.take_zero, List.drop_succ_cons, List.drop_zero, number, Nat.reduceAdd]
                      repeat (refine wpGrow_step (fun K hK => ?_); go_simp; refine hK _ _ ?_; clear hK K)
                      refine wpGrow_step (fun K hK => ?_)
                      go_simp
                      refine ⟨fun w' hg => ⟨(Kept.refl _ _).alloc _, by rw [HRB.out]; exact ⟨_, rfl, hg.old.size, blk_new _ _⟩⟩, fun v25 wa hv25 _ => ?_⟩
                      rw [HRB.out] at hv25
                      obtain ⟨Q2, rfl, hq2, hqb2⟩ := hv25
                      refine hK _ _ ?_; clear hK K
                      refine wpGrow_nil ?_
                      intro w12 hk3 hω
                      have hqb12 : w12.heap[Q2]? = _ := Kept.blk (show Kept _ wa w12 from hω 25) hqb2 id
                      have hown : Own .u8 5 w12 (.slice (some ⟨g, 0, none⟩) NN pc2) (tab NN (paintF d1.p W1 v Y X wN [c0, c1, c2, 255] k x)) := by
                        rw [← HST.out.2.1]; exact (HOX.out.1.kept HST.out.2.2.1 (fun _ _ => id)).kept hk3 (fun _ _ => id)
                      clear hω zp zy zw y0 y1 y2 X0 X1 X2 X3 X4 X5
                      refine wpList_cp rfl (.tmp 124) (.tmp 131) 30 30 rfl 5 .u8 Try.underlying30 size5 g NN pc2 o (NN - o) (pc2 - o) _ rfl hown (some ⟨Q2, 0, none⟩) 4 4 [c0, c1, c2, 255] rfl (slAt_blk hqb12 rfl rfl) 4 HST.out.2.2.2.1 HST.out.2.2.2.2 ?_
                      intro w13 ho13 hk13
                      rw [show [c0, c1, c2, 255].take 4 = [c0, c1, c2, 255] from rfl, HST.out.1, ← HST.out.2.1] at ho13
                      have hkF : Kept (fun i => pv4.ownBlock = some i) U3 w13 := (HOX.out.2.then (((HST.out.2.2.1.then hk3).mono fun _ _ h => h.elim))).then (hk13.mono fun i _ (hi : i = g) => by rw [HST.out.2.1, hi]; rfl)
                      have H13 := Lib.hid (And.intro ho13 hkF)
                      clear ho13 hkF hk13 hk3 hown hqb12 hqb2
                      go_wp2
                      go_roundg (gk - 1)
                      case rel => exact ⟨x + 1, by omega, by omega, .inl (by omega), by simp, H13.out⟩
                      case measure => omega
                    · have gx : decide (x < wN) = false := decide_eq_false hxw
                      have ho2 : Own .u8 5 wr pv4 (tab NN (paintF d1.p W1 v Y X wN [c0, c1, c2, 255] (k + 1) X)) := by rw [← paint_end _ _ _ _ _ _ _ _ _ x (by omega)]; exact HOX.out.1
                      have HO2 := Lib.hid ho2
                      clear ho2
                      go_wp2
                      go_roundg (gkO - 1)
                      case rel => exact ⟨k + 1, by omega, by omega, by simp, HO2.out, HOX.out.2⟩
                      case measure => omega
                · have ho2 : Own .u8 5 wr pv4 (tab NN (paintF d1.p W1 v Y X wN [c0, c1, c2, 255] (k + 1) X)) := by rw [← paint_skip _ _ _ _ _ _ _ _ _ hin]; exact HO.out.1
                  have HO2 := Lib.hid ho2
                  clear ho2
                  have hc : b = 0 ∨ (b = 1 ∧ 16384 ≤ Y + k) := by rw [hr] at hin; omega
                  clear hin hr hb
                  rcases hc with rfl | ⟨rfl, hc⟩
                  · go_wp2
                    go_roundg (gk - 1)
                    case rel => exact ⟨k + 1, by omega, by omega, by simp, HO2.out, HO.out.2⟩
                    case measure => omega
                  · have g5 : decide (16384 ≤ (Y : Int) + (k : Int)) = true := decide_eq_true (by omega)
                    go_wp2
                    go_roundg (gk - 1)
                    case rel => exact ⟨k + 1, by omega, by omega, by simp, HO2.out, HO.out.2⟩
                    case measure => omega
              · obtain rfl : k = 6 := by omega
                have gk0 : decide (6 < 6) = false := by decide
                have hT := turn_w (d := { d1 with drawn := true }) HU.out.1 HU.out.2.2.1 HO4.out.2.2.1 HO4.out.2.2.2.1 HO4.out.2.2.2.2.1 HO4.out.2.2.2.2.2.1 HO.out.2 HO.out.1
                have hT2 := Turn.then HO4.out.2.2.2.2.2.2.1 HU.out.2.2.2.1 hT
                have HTF := Lib.hid (hT2.set (fun _ _ h => h.sx ((min (X + n) 1048576 : Nat) : Int)) rfl rfl)
                have cx' := hbr.fx.2
                have cx : wr.cell? ⟨a, 771, none⟩ = some (.int .i64 (X : Int)) := by rw [← HP1.out.2.2.2.2.1]; exact hbr.fx.1
                have wx : IntKind.i64.wrap ((X : Int) + (n : Int)) = (X : Int) + (n : Int) := IntWalk.i64_in _ (by omega)
                have mx : (if (X : Int) + (n : Int) < 1048576 then (X : Int) + (n : Int) else 1048576) = ((min (X + n) 1048576 : Nat) : Int) := by split <;> omega
                have mx' : (if 1048576 < (X : Int) + (n : Int) then 1048576 else (X : Int) + (n : Int)) = ((min (X + n) 1048576 : Nat) : Int) := by split <;> omega
                obtain ⟨mn, hmn⟩ : ∃ mn, min (X + n) 1048576 = mn := ⟨_, rfl⟩
                rw [hmn] at mx mx' HTF
                have HMN := Lib.hid hmn
                clear hT hT2 hbr hk hmn
                go_wp2
                go_end0
                refine ⟨rfl, ?_⟩
                rw [HRS.out, HMN.out]
                have h9 := HTF.out
                unfold paint
                rw [HN.out.1]
                exact h9
          · go_wp2
            refine wp_region_grow #[0, 0, 2, 6, 14, 1, 33, 127, 255, 0, 1023] 10 [] (fun i => if i = 9 then some RA else none) (by kernel_rfl) rfl (by kernel_rfl) (fun i hi => by cases hi) (fun _ _ _ _ _ h => h) ?_
            rintro _ rfl
            rw [← HWR.out]
            simp only [List.take_succ_cons, List.take_zero, List.drop_succ_cons, List.drop_zero, number, Nat.reduceAdd]
            repeat (refine wpGrow_step (fun K hK => ?_); go_simp; refine hK _ _ ?_; clear hK K)
            refine wpGrow_step (fun K hK => ?_)
            go_simp
            refine ⟨fun w' hg => ⟨(Kept.refl _ _).alloc _, by rw [HRA.out]; exact ⟨_, rfl, hg.old.size, blk_new _ _⟩⟩, fun v9 wa hv9 _ => ?_⟩
            rw [HRA.out] at hv9
            obtain ⟨Q9, rfl, hq9, hqb⟩ := hv9
            refine hK _ _ ?_; clear hK K
            refine wpGrow_nil ?_
            intro w9 hk9 hω
            have hqb9 : w9.heap[Q9]? = _ := Kept.blk (show Kept _ wa w9 from hω 9) hqb id
            obtain ⟨U1, U2, U3, f1, f2, f3, ⟨e1, e1'⟩, ⟨e2, e2'⟩, ⟨e3, e3'⟩, hcV, hkV⟩ := store3 hqb9 (.int .u8 c0) (.int .u8 c1) (.int .u8 c2)
            clear hω z0' R0 R1 R2 X0 X1 X2 X3
            go_wp2
            have hq9' : V1.heap.size ≤ Q9 := by rw [HWR.out] at hq9; exact hq9
            have kU : Kept (fun j => j = Q9) V1 U3 := ((HKR.out.then hk9).mono fun _ _ h => h.elim).then hkV
            have hbU := HV1.out.1.kept kU (fun (h : a = Q9) => by have := HV1.out.1.lt; omega)
            have hpU : Own .u8 5 U3 pv4 d1.p := HV1.out.2.1.kept kU (fun b hb (hS : b = Q9) => by have := HV1.out.2.1.lt b hb; omega)
            have hnU : Own .i64 3 U3 nv4 d1.n := HV1.out.2.2.1.kept kU (fun b hb (hS : b = Q9) => by have := HV1.out.2.2.1.lt b hb; omega)
            have hkGU : Kept G W U3 := HV1.out.2.2.2.trans (kU.mono fun i _ (hi : i = Q9) => Or.inr (by have := HV1.out.2.2.2.size; omega))
            have hQpv : pv4.ownBlock ≠ some Q9 := fun h => by have := HV1.out.2.1.lt Q9 h; omega
            have HU := Lib.hid (And.intro hbU (And.intro hpU (And.intro hnU (And.intro hkGU (And.intro hcV hQpv)))))
            obtain ⟨NN, hNN⟩ : ∃ NN, 4 * W1 * H1 = NN := ⟨_, rfl⟩
            have hPl : d1.p.length = NN := by rw [HP1.out.1.p HP1.out.2.1, hNN]
            obtain ⟨pa, pc, hpv, hps, hplc, hpcm, hpn, -⟩ := hpU.shape
            rw [hPl] at hpv hps hplc
            have HN := Lib.hid (And.intro hNN (And.intro hPl (And.intro hpv (And.intro hps hplc))))
            clear hq9' kU hbU hpU hnU hkGU hQpv hNN hPl hps hpcm hpn hcV hkV hk9 hqb9 hqb hq9 f1 f2 f3 e1 e1' e2 e2' e3 e3' cd cd' hV1 hpv hplc
            go_loopg [10, 11, 80] 6 (fun gg _ _ kv wr => ∃ k : Nat, 6 ≤ gg + k ∧ k ≤ 6 ∧ kv = .int .i64 (k : Int) ∧ Own .u8 5 wr pv4 (tab NN (paintF d1.p W1 v Y X wN [c0, c1, c2, 255] k X)) ∧ Kept (fun i => pv4.ownBlock = some i) U3 wr)
            case atStart => exact ⟨0, by omega, by omega, rfl, by rw [paint_start _ _ _ _ _ _ _ _ HN.out.2.1]; exact HU.out.2.1, Kept.refl _ _⟩
            case round =>
              obtain ⟨k, hgg, hk6, rfl, ho, hk⟩ := hrel
              have HO := Lib.hid (And.intro ho hk)
              have hbr := HU.out.1.kept hk HO4.out.2.2.1
              clear ho hk
              by_cases hk : k < 6
              · have gk0 : decide (k < 6) = true := decide_eq_true hk
                have cx : wr.cell? ⟨a, 771, none⟩ = some (.int .i64 (X : Int)) := by rw [← HP1.out.2.2.2.2.1]; exact hbr.fx.1
                have cy : wr.cell? ⟨a, 772, none⟩ = some (.int .i64 (Y : Int)) := by rw [← HP1.out.2.2.2.2.2.1]; exact hbr.fy.1
                clear hbr
                obtain ⟨r, hr⟩ : ∃ r, v / 2 ^ k = r := ⟨_, rfl⟩
                have hr64 : r < 64 := by rw [← hr]; exact Nat.lt_of_le_of_lt (Nat.div_le_self _ _) hv
                have sh0 : min k 64 = k := by omega
                have sh1 : (v : Int) / 2 ^ k = (r : Int) := by rw [← hr]; simp
                have nk : ¬ (k : Int) < 0 := by omega
                have a1 := i64_and1 r hr64
                obtain ⟨b, hb⟩ : ∃ b, r % 2 = b := ⟨_, rfl⟩
                rw [hb] at a1
                have wr1 : IntKind.i64.wrap (r : Int) = (r : Int) := IntWalk.i64_in _ (by omega)
                have wk : IntKind.i64.wrap ((k : Int) + 1) = (k : Int) + 1 := IntWalk.i64_in _ (by omega)
                have wy : IntKind.i64.wrap ((Y : Int) + (k : Int)) = (Y : Int) + (k : Int) := IntWalk.i64_in _ (by omega)
                by_cases hin : v / 2 ^ k % 2 = 1 ∧ Y + k < 16384
                · obtain rfl : b = 1 := by have := hin.1; rw [hr] at this; omega
                  have g5 : decide (16384 ≤ (Y : Int) + (k : Int)) = false := decide_eq_false (by have := hin.2; omega)
                  have HIN := Lib.hid hin
                  clear hin hr hb
                  obtain ⟨gkO, rfl⟩ : ∃ g, g = gk := ⟨_, rfl⟩
                  go_wp2
                  go_loopg [11] (wN - X) (fun gg xv wx => ∃ x : Nat, X ≤ x ∧ wN ≤ gg + x ∧ (x ≤ wN ∨ x = X) ∧ xv = .int .i64 (x : Int) ∧ Own .u8 5 wx pv4 (tab NN (paintF d1.p W1 v Y X wN [c0, c1, c2, 255] k x)) ∧ Kept (fun i => pv4.ownBlock = some i) U3 wx)
                  case atStart => exact ⟨X, Nat.le_refl _, by omega, .inr rfl, rfl, HO.out.1, HO.out.2⟩
                  case round =>
                    obtain ⟨x, hXx, hgx, hxc, rfl, hox, hkx⟩ := hrel
                    have HOX := Lib.hid (And.intro hox hkx)
                    clear hox hkx
                    by_cases hxw : x < wN
                    · have gx : decide (x < wN) = true := decide_eq_true hxw
                      have hlim := HLIM.out
                      have hyH := hlim.1 k hk ⟨HIN.out.1, HIN.out.2, by omega⟩
                      have hyH1 : Y + k + 1 ≤ H1 := hyH
                      have hxW : x < W1 := by have := hlim.2.1; omega
                      obtain ⟨m1, hm1⟩ : ∃ m1, (Y + k) * W1 = m1 := ⟨_, rfl⟩
                      have hle : 4 * (m1 + x) + 4 ≤ NN := by
                        rw [← HN.out.1, ← hm1]
                        have h1 : (Y + k + 1) * W1 ≤ H1 * W1 := Nat.mul_le_mul_right _ hyH1
                        rw [Nat.add_mul, Nat.one_mul] at h1
                        rw [Nat.mul_assoc, Nat.mul_comm W1 H1]
                        omega
                      have hNNb : NN ≤ 1073741824 := by
                        rw [← HN.out.1, Nat.mul_assoc]
                        have h1 : W1 * H1 ≤ 16384 * 16384 := Nat.mul_le_mul HP1.out.1.wb HP1.out.1.hb
                        omega
                      obtain ⟨g, pc2, hpv2, hgc, hgm⟩ := Own.row HU.out.2.1 (by rw [HN.out.2.1]; omega)
                      rw [HN.out.2.1] at hpv2 hgc
                      obtain ⟨o, ho⟩ : ∃ o, 4 * (m1 + x) = o := ⟨_, rfl⟩
                      have hst := paint_step d1.p W1 H1 v Y X wN c0 c1 c2 255 k x hxW hxw hXx HIN.out.1 HIN.out.2 hyH1
                      rw [hm1, ho, HN.out.1] at hst
                      obtain ⟨WQ, hWQ⟩ : ∃ WQ, WQ = wr.drew := ⟨_, rfl⟩
                      have hkQ : Kept (fun _ => False) wr WQ := by rw [hWQ]; exact (Kept.refl _ _).drew
                      have hbQ := (HU.out.1.kept HOX.out.2 HO4.out.2.2.1).kept hkQ id
                      have zp : WQ.cell? ⟨a, 775, none⟩ = some (.slice (some ⟨g, 0, none⟩) NN pc2) := by rw [← hpv2]; exact hbQ.fp.1
                      have zy : WQ.cell? ⟨a, 772, none⟩ = some (.int .i64 (Y : Int)) := by rw [← HP1.out.2.2.2.2.2.1]; exact hbQ.fy.1
                      have zw : WQ.cell? ⟨a, 773, none⟩ = some (.int .i64 (W1 : Int)) := by rw [← HP1.out.1.w]; exact hbQ.fw.1
                      obtain ⟨⟨y0, -⟩, ⟨y1, -⟩, y2, -⟩ := blk3 (hkQ.blk (HOX.out.2.blk HU.out.2.2.2.2.1 HU.out.2.2.2.2.2) id)
                      have X0 := cell_regrown zp
                      have X1 := cell_regrown zy
                      have X2 := cell_regrown zw
                      have X3 := cell_regrown y0
                      have X4 := cell_regrown y1
                      have X5 := cell_regrown y2
                      have q1 : ((Y : Int) + (k : Int)) * (W1 : Int) = (m1 : Int) := by rw [← hm1]; simp
                      have q2 : IntKind.i64.wrap (m1 : Int) = (m1 : Int) := IntWalk.i64_in _ (by omega)
                      have q3 : IntKind.i64.wrap ((m1 : Int) + (x : Int)) = (m1 : Int) + (x : Int) := IntWalk.i64_in _ (by omega)
                      have q4 : IntKind.i64.wrap (4 * ((m1 : Int) + (x : Int))) = 4 * ((m1 : Int) + (x : Int)) := IntWalk.i64_in _ (by omega)
                      have q5 : (4 * ((m1 : Int) + (x : Int))).toNat = o := by omega
                      have q6 : 0 ≤ 4 * ((m1 : Int) + (x : Int)) := by omega
                      have q7 : 4 * ((m1 : Int) + (x : Int)) ≤ (NN : Int) := by omega
                      have q8 : ¬ pc2 = o := by omega
                      have q9 : IntKind.i64.wrap ((x : Int) + 1) = (x : Int) + 1 := IntWalk.i64_in _ (by omega)
                      obtain ⟨RB, hRB⟩ : ∃ R : Value → World → Prop, R = fun v w' => ∃ q, v = .slice (some ⟨q, 0, none⟩) 4 4 ∧ WQ.heap.size ≤ q ∧ w'.heap[q]? = some (.cells #[.int .u8 c0, .int .u8 c1, .int .u8 c2, .int .u8 255] 5 (0, 0)) := ⟨_, rfl⟩
                      have HRB := Lib.hid hRB
                      have HWQ := Lib.hid hWQ
                      have HST := Lib.hid (And.intro hst (And.intro hpv2 (And.intro hkQ (show 4 = Nat.min 4 (NN - o) ∧ o + 4 ≤ NN from ⟨(Nat.min_eq_left (by omega)).symm, by omega⟩))))
                      clear hst hpv2 hkQ hbQ hRB hWQ hm1 hle hyH hyH1 hxW ho hlim cx cy
                      go_wp2
                      refine wp_region_grow #[0, 1, 3, 7, 0, 16, 48, 112, 0, 496, 0, 1024, 3072, 7168, 16368, 0, 65520, 131056, 262143, 0, 524288, 0, 2097152, 0, 8388608, 33030144, 67108863] 26 [] (fun i => if i = 25 then some RB else none) (by kernel_rfl) rfl (by kernel_rfl) (fun i hi => by cases hi) (fun _ _ _ _ _ h => h) ?_
                      rintro _ rfl
                      rw [← HWQ.out]
                      simp only [List.take_succ_cons, List.take_zero, List.drop_succ_cons, List.drop_zero, number, Nat.reduceAdd]
                      repeat (refine wpGrow_step (fun K hK => ?_); go_simp; refine hK _ _ ?_; clear hK K)
                      refine wpGrow_step (fun K hK => ?_)
                      go_simp
                      refine ⟨fun w' hg => ⟨(Kept.refl _ _).alloc _, by rw [HRB.out]; exact ⟨_, rfl, hg.old.size, blk_new _ _⟩⟩, fun v25 wa hv25 _ => ?_⟩
                      rw [HRB.out] at hv25
                      obtain ⟨Q2, rfl, hq2, hqb2⟩ := hv25
                      refine hK _ _ ?_; clear hK K
                      refine wpGrow_nil ?_
                      intro w12 hk3 hω
                      have hqb12 : w12.heap[Q2]? = _ := Kept.blk (show Kept _ wa w12 from hω 25) hqb2 id
                      have hown : Own .u8 5 w12 (.slice (some ⟨g, 0, none⟩) NN pc2) (tab NN (paintF d1.p W1 v Y X wN [c0, c1, c2, 255] k x)) := by
                        rw [← HST.out.2.1]; exact (HOX.out.1.kept HST.out.2.2.1 (fun _ _ => id)).kept hk3 (fun _ _ => id)
                      clear hω zp zy zw y0 y1 y2 X0 X1 X2 X3 X4 X5
                      refine wpList_cp rfl (.tmp 124) (.tmp 131) 30 30 rfl 5 .u8 Try.underlying30 size5 g NN pc2 o (NN - o) (pc2 - o) _ rfl hown (some ⟨Q2, 0, none⟩) 4 4 [c0, c1, c2, 255] rfl (slAt_blk hqb12 rfl rfl) 4 HST.out.2.2.2.1 HST.out.2.2.2.2 ?_
                      intro w13 ho13 hk13
                      rw [show [c0, c1, c2, 255].take 4 = [c0, c1, c2, 255] from rfl, HST.out.1, ← HST.out.2.1] at ho13
                      have hkF : Kept (fun i => pv4.ownBlock = some i) U3 w13 := (HOX.out.2.then (((HST.out.2.2.1.then hk3).mono fun _ _ h => h.elim))).then (hk13.mono fun i _ (hi : i = g) => by rw [HST.out.2.1, hi]; rfl)
                      have H13 := Lib.hid (And.intro ho13 hkF)
                      clear ho13 hkF hk13 hk3 hown hqb12 hqb2
                      go_wp2
                      go_roundg (gk - 1)
                      case rel => exact ⟨x + 1, by omega, by omega, .inl (by omega), by simp, H13.out⟩
                      case measure => omega
                    · have gx : decide (x < wN) = false := decide_eq_false hxw
                      have ho2 : Own .u8 5 wr pv4 (tab NN (paintF d1.p W1 v Y X wN [c0, c1, c2, 255] (k + 1) X)) := by rw [← paint_end _ _ _ _ _ _ _ _ _ x (by omega)]; exact HOX.out.1
                      have HO2 := Lib.hid ho2
                      clear ho2
                      go_wp2
                      go_roundg (gkO - 1)
                      case rel => exact ⟨k + 1, by omega, by omega, by simp, HO2.out, HOX.out.2⟩
                      case measure => omega
                · have ho2 : Own .u8 5 wr pv4 (tab NN (paintF d1.p W1 v Y X wN [c0, c1, c2, 255] (k + 1) X)) := by rw [← paint_skip _ _ _ _ _ _ _ _ _ hin]; exact HO.out.1
                  have HO2 := Lib.hid ho2
                  clear ho2
                  have hc : b = 0 ∨ (b = 1 ∧ 16384 ≤ Y + k) := by rw [hr] at hin; omega
                  clear hin hr hb
                  rcases hc with rfl | ⟨rfl, hc⟩
                  · go_wp2
                    go_roundg (gk - 1)
                    case rel => exact ⟨k + 1, by omega, by omega, by simp, HO2.out, HO.out.2⟩
                    case measure => omega
                  · have g5 : decide (16384 ≤ (Y : Int) + (k : Int)) = true := decide_eq_true (by omega)
                    go_wp2
                    go_roundg (gk - 1)
                    case rel => exact ⟨k + 1, by omega, by omega, by simp, HO2.out, HO.out.2⟩
                    case measure => omega
              · obtain rfl : k = 6 := by omega
                have gk0 : decide (6 < 6) = false := by decide
                have hT := turn_w (d := { d1 with drawn := true }) HU.out.1 HU.out.2.2.1 HO4.out.2.2.1 HO4.out.2.2.2.1 HO4.out.2.2.2.2.1 HO4.out.2.2.2.2.2.1 HO.out.2 HO.out.1
                have hT2 := Turn.then HO4.out.2.2.2.2.2.2.1 HU.out.2.2.2.1 hT
                have HTF := Lib.hid (hT2.set (fun _ _ h => h.sx ((min (X + n) 1048576 : Nat) : Int)) rfl rfl)
                have cx' := hbr.fx.2
                have cx : wr.cell? ⟨a, 771, none⟩ = some (.int .i64 (X : Int)) := by rw [← HP1.out.2.2.2.2.1]; exact hbr.fx.1
                have wx : IntKind.i64.wrap ((X : Int) + (n : Int)) = (X : Int) + (n : Int) := IntWalk.i64_in _ (by omega)
                have mx : (if (X : Int) + (n : Int) < 1048576 then (X : Int) + (n : Int) else 1048576) = ((min (X + n) 1048576 : Nat) : Int) := by split <;> omega
                have mx' : (if 1048576 < (X : Int) + (n : Int) then 1048576 else (X : Int) + (n : Int)) = ((min (X + n) 1048576 : Nat) : Int) := by split <;> omega
                obtain ⟨mn, hmn⟩ : ∃ mn, min (X + n) 1048576 = mn := ⟨_, rfl⟩
                rw [hmn] at mx mx' HTF
                have HMN := Lib.hid hmn
                clear hT hT2 hbr hk hmn
                go_wp2
                go_end0
                refine ⟨rfl, ?_⟩
                rw [HRS.out, HMN.out]
                have h9 := HTF.out
                unfold paint
                rw [HN.out.1]
                exact h9
end Go.Proofs.Ytomcjdonacckfaa
