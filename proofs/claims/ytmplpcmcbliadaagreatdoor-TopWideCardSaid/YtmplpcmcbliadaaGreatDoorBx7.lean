/- Several texts in one: Col, Colr, Eq. -/
import Derived.Test.YtmplpcmcbliadaaGreatDoorBx0
import Derived.Deep.RegionHeld3
set_option linter.unusedVariables false
set_option linter.unusedSimpArgs false
namespace Go.Proofs.YtmplpcmcbliadaaGreatDoor
open Go.RowKit Pl
namespace Pl
structure Rgb where
 r : Int
 g : Int
 b : Int
def rgb (v : Int) : Rgb := ⟨v / 65536, v / 256 % 256, v % 256⟩
def firstL : List Int := [0, 13434880, 52480, 13487360, 238, 13435085, 52685, 15066597, 8355711, 16711680, 65280, 16776960, 6053119, 16711935, 65535, 16777215]
def stepL : List Int := [0, 95, 135, 175, 215, 255]
def firstP (n : Nat) : Int := firstL.getD n 0
def stepP (n : Nat) : Int := stepL.getD n 0
def basic (n : Int) : Rgb :=
 if n < 0 \/ 255 < n then ⟨0, 0, 0⟩ else if n < 16 then rgb (firstP n.toNat)
 else if n < 232 then ⟨stepP ((n.toNat - 16) / 36), stepP ((n.toNat - 16) / 6 % 6), stepP ((n.toNat - 16) % 6)⟩
 else ⟨8 + 10 * (n - 232), 8 + 10 * (n - 232), 8 + 10 * (n - 232)⟩
def colour (c : Int) (fore : Bool) : Rgb :=
 if c = 0 /\ fore = true then ⟨229, 229, 229⟩ else if 16777216 <= c /\ c < 16777472 then basic (c - 16777216) else if 33554432 <= c /\ c < 50331648 then rgb (c - 33554432) else ⟨0, 0, 0⟩
theorem first_lt (n : Nat) : 0 <= firstP n /\ firstP n < 16777216 := by
 unfold firstP firstL
 match n with
 | 0 | 1 | 2 | 3 | 4 | 5 | 6 | 7 | 8 | 9 | 10 | 11 | 12 | 13 | 14 | 15 => exact ⟨by decide, by decide⟩
 | n + 16 => exact ⟨by simp, by simp⟩
theorem step_lt (n : Nat) : 0 <= stepP n /\ stepP n < 256 := by
 unfold stepP stepL
 match n with
 | 0 | 1 | 2 | 3 | 4 | 5 => exact ⟨by decide, by decide⟩
 | n + 6 => exact ⟨by simp, by simp⟩
def IsB (x : Int) : Prop := 0 <= x /\ x < 256
def Rgb.IsB (c : Rgb) : Prop := Pl.IsB c.r /\ Pl.IsB c.g /\ Pl.IsB c.b
theorem rgb_isB {v : Int} (h : 0 <= v /\ v < 16777216) : (rgb v).IsB := ⟨by unfold rgb Pl.IsB; simp only; omega, by unfold rgb Pl.IsB; simp only; omega, by unfold rgb Pl.IsB; simp only; omega⟩
theorem basic_isB (n : Int) : (basic n).IsB := by
 unfold basic
 split
 ·exact ⟨⟨by simp, by simp⟩, ⟨by simp, by simp⟩, ⟨by simp, by simp⟩⟩
 split
 ·exact rgb_isB (first_lt _)
 split
 ·exact ⟨step_lt _, step_lt _, step_lt _⟩
 ·refine ⟨?_, ?_, ?_⟩ <;> unfold Pl.IsB <;> simp only <;> omega
theorem colour_isB (c : Int) (fore : Bool) : (colour c fore).IsB := by
 unfold colour
 split
 ·exact ⟨⟨by simp, by simp⟩, ⟨by simp, by simp⟩, ⟨by simp, by simp⟩⟩
 split
 ·exact basic_isB _
 split
 ·exact rgb_isB (by omega)
 ·exact ⟨⟨by simp, by simp⟩, ⟨by simp, by simp⟩, ⟨by simp, by simp⟩⟩
end Pl
def rgbV (c : Rgb) : Value := .agg #[.int .u8 c.r, .int .u8 c.g, .int .u8 c.b]
def RgbPost (c : Rgb) (w : World) (e : Ending) (w' : World) : Prop := e = .returned (rgbV c) /\ Kept (fun _ => False) w w'
set_option maxRecDepth 100000 in
set_option maxHeartbeats 2000000 in
theorem direct_any (v : Int) (hv : 0 <= v /\ v < 16777216) (w : World) : Calls Tryz.prog 544 #[.int .i64 v] w (RgbPost (rgb v) w) := by
 obtain ⟨h1, h2⟩ := hv
 go_enter Tryz.func544, Tryz.ntmps544
 go_wp2
 exact bodyPost_ret (v := .agg #[.int .u8 (v / 65536), .int .u8 (v / 256 % 256), .int .u8 (v % 256)]) (by simp [results, Tryz.results544, go_sem]) rfl ⟨rfl, (Kept.refl _ _).alloc _⟩
theorem cell_first17 {w : World} {p : Nat} (h : w.heap[p]? = some (.cells #[.int .i64 0, .int .i64 13434880, .int .i64 52480, .int .i64 13487360, .int .i64 238, .int .i64 13435085, .int .i64 52685, .int .i64 15066597, .int .i64 8355711, .int .i64 16711680, .int .i64 65280, .int .i64 16776960, .int .i64 6053119, .int .i64 16711935, .int .i64 65535, .int .i64 16777215] 527 (0, 0))) (n : Nat) (hn : n < 16) : w.cell? ⟨p, n, none⟩ = some (.int .i64 (firstP n)) := by
 rw [blk_cell h]
 match n, hn with
 | 0, _ | 1, _ | 2, _ | 3, _ | 4, _ | 5, _ | 6, _ | 7, _ | 8, _ | 9, _ | 10, _ | 11, _ | 12, _ | 13, _ | 14, _ | 15, _ => rfl
 | n + 16, h => exact absurd h (by omega)
theorem cell_step17 {w : World} {p : Nat} (h : w.heap[p]? = some (.cells #[.int .u8 0, .int .u8 95, .int .u8 135, .int .u8 175, .int .u8 215, .int .u8 255] 554 (0, 0))) (n : Nat) (hn : n < 6) : w.cell? ⟨p, n, none⟩ = some (.int .u8 (stepP n)) := by
 rw [blk_cell h]
 match n, hn with
 | 0, _ | 1, _ | 2, _ | 3, _ | 4, _ | 5, _ => rfl
 | n + 6, h => exact absurd h (by omega)
set_option maxRecDepth 100000 in
set_option maxHeartbeats 2000000 in
theorem basic_none (n : Int) (h : n < 0 \/ 255 < n) (w : World) : Calls Tryz.prog 545 #[.int .i64 n] w (RgbPost ⟨0, 0, 0⟩ w) := by
 obtain ⟨W1, hW1⟩ : ∃ W1, w.alloc (.cells #[.int .u8 0, .int .u8 0, .int .u8 0] 210) = W1 := ⟨_, rfl⟩
 obtain ⟨W2, hW2⟩ : ∃ W2, W1.alloc (.cells #[.int .i64 0, .int .i64 13434880, .int .i64 52480, .int .i64 13487360, .int .i64 238, .int .i64 13435085, .int .i64 52685, .int .i64 15066597, .int .i64 8355711, .int .i64 16711680, .int .i64 65280, .int .i64 16776960, .int .i64 6053119, .int .i64 16711935, .int .i64 65535, .int .i64 16777215] 527) = W2 := ⟨_, rfl⟩
 obtain ⟨W3, hW3⟩ : ∃ W3, W2.alloc (.cells #[.int .u8 0, .int .u8 95, .int .u8 135, .int .u8 175, .int .u8 215, .int .u8 255] 554) = W3 := ⟨_, rfl⟩
 have s1 : W1.heap.size = w.heap.size + 1 := by rw [<- hW1]; simp
 have s2 : W2.heap.size = w.heap.size + 1 + 1 := by rw [<- hW2]; simp [s1]
 have b0 : W3.heap[w.heap.size]? = some (.cells #[.int .u8 0, .int .u8 0, .int .u8 0] 210 (0, 0)) := by rw [<- hW3, <- hW2, <- hW1]; exact blk_alloc (blk_alloc (blk_new _ _) _) _
 have b1 : W3.heap[w.heap.size + 1]? = some (.cells #[.int .i64 0, .int .i64 13434880, .int .i64 52480, .int .i64 13487360, .int .i64 238, .int .i64 13435085, .int .i64 52685, .int .i64 15066597, .int .i64 8355711, .int .i64 16711680, .int .i64 65280, .int .i64 16776960, .int .i64 6053119, .int .i64 16711935, .int .i64 65535, .int .i64 16777215] 527 (0, 0)) := by rw [<- hW3, <- hW2]; exact blk_alloc (blk_at _ _ s1.symm) _
 have b2 : W3.heap[w.heap.size + 1 + 1]? = some (.cells #[.int .u8 0, .int .u8 95, .int .u8 135, .int .u8 175, .int .u8 215, .int .u8 255] 554 (0, 0)) := by rw [<- hW3]; exact blk_at _ _ s2.symm
 have kW : Kept (fun _ => False) w W3 := by rw [<- hW3, <- hW2, <- hW1]; exact (((Kept.refl _ w).alloc _).alloc _).alloc _
 have HK := Lib.hid kW
 obtain ⟨⟨c0, f0⟩, ⟨c1, f1⟩, c2, f2⟩ := blk3 b0
 have HB0 := Lib.hid b0
 clear b0 b1 b2 kW
 rcases h with h | h
 ·have g1 : decide (n < 0) = true := decide_eq_true h
  have g1' : decide (0 <= n) = false := decide_eq_false (by omega)
  have g2' : decide (16 <= n) = false := decide_eq_false (by omega)
  have g3' : decide (232 <= n) = false := decide_eq_false (by omega)
  go_enter Tryz.func545, Tryz.ntmps545
  go_wp2
  obtain ⟨⟨m0, -⟩, ⟨m1, -⟩, m2, -⟩ := blk3 (blk_set (blk_set (blk_set HB0.out 0 (.int .u8 (0))) 1 (.int .u8 (0))) 2 (.int .u8 (0)))
  exact bodyPost_ret (v := .agg #[.int .u8 (0), .int .u8 (0), .int .u8 (0)]) (by simp [results, Tryz.results545, go_sem, m0, m1, m2]) rfl ⟨rfl, (by repeat (first | exact HK.out | refine Kept.drew ?_ | refine Kept.setCell ?_ (Or.inr (Nat.le_refl _)) _))⟩
 ·have g1 : decide (n < 0) = false := decide_eq_false (by omega)
  have g2 : decide (255 < n) = true := decide_eq_true h
  have g1' : decide (0 <= n) = true := decide_eq_true (by omega)
  have g4' : decide (n < 16) = false := decide_eq_false (by omega)
  have g2' : decide (16 <= n) = true := decide_eq_true (by omega)
  have g5' : decide (n < 232) = false := decide_eq_false (by omega)
  have g3' : decide (232 <= n) = true := decide_eq_true (by omega)
  have g6' : decide (n < 256) = false := decide_eq_false (by omega)
  go_enter Tryz.func545, Tryz.ntmps545
  go_wp2
  obtain ⟨⟨m0, -⟩, ⟨m1, -⟩, m2, -⟩ := blk3 (blk_set (blk_set (blk_set HB0.out 0 (.int .u8 (0))) 1 (.int .u8 (0))) 2 (.int .u8 (0)))
  exact bodyPost_ret (v := .agg #[.int .u8 (0), .int .u8 (0), .int .u8 (0)]) (by simp [results, Tryz.results545, go_sem, m0, m1, m2]) rfl ⟨rfl, (by repeat (first | exact HK.out | refine Kept.drew ?_ | refine Kept.setCell ?_ (Or.inr (Nat.le_refl _)) _))⟩
set_option maxRecDepth 100000 in
set_option maxHeartbeats 2000000 in
theorem basic_low (n : Nat) (h : n < 16) (w : World) : Calls Tryz.prog 545 #[.int .i64 n] w (RgbPost (rgb (firstP n)) w) := by
 obtain ⟨W1, hW1⟩ : ∃ W1, w.alloc (.cells #[.int .u8 0, .int .u8 0, .int .u8 0] 210) = W1 := ⟨_, rfl⟩
 obtain ⟨W2, hW2⟩ : ∃ W2, W1.alloc (.cells #[.int .i64 0, .int .i64 13434880, .int .i64 52480, .int .i64 13487360, .int .i64 238, .int .i64 13435085, .int .i64 52685, .int .i64 15066597, .int .i64 8355711, .int .i64 16711680, .int .i64 65280, .int .i64 16776960, .int .i64 6053119, .int .i64 16711935, .int .i64 65535, .int .i64 16777215] 527) = W2 := ⟨_, rfl⟩
 obtain ⟨W3, hW3⟩ : ∃ W3, W2.alloc (.cells #[.int .u8 0, .int .u8 95, .int .u8 135, .int .u8 175, .int .u8 215, .int .u8 255] 554) = W3 := ⟨_, rfl⟩
 have s1 : W1.heap.size = w.heap.size + 1 := by rw [<- hW1]; simp
 have s2 : W2.heap.size = w.heap.size + 1 + 1 := by rw [<- hW2]; simp [s1]
 have b0 : W3.heap[w.heap.size]? = some (.cells #[.int .u8 0, .int .u8 0, .int .u8 0] 210 (0, 0)) := by rw [<- hW3, <- hW2, <- hW1]; exact blk_alloc (blk_alloc (blk_new _ _) _) _
 have b1 : W3.heap[w.heap.size + 1]? = some (.cells #[.int .i64 0, .int .i64 13434880, .int .i64 52480, .int .i64 13487360, .int .i64 238, .int .i64 13435085, .int .i64 52685, .int .i64 15066597, .int .i64 8355711, .int .i64 16711680, .int .i64 65280, .int .i64 16776960, .int .i64 6053119, .int .i64 16711935, .int .i64 65535, .int .i64 16777215] 527 (0, 0)) := by rw [<- hW3, <- hW2]; exact blk_alloc (blk_at _ _ s1.symm) _
 have b2 : W3.heap[w.heap.size + 1 + 1]? = some (.cells #[.int .u8 0, .int .u8 95, .int .u8 135, .int .u8 175, .int .u8 215, .int .u8 255] 554 (0, 0)) := by rw [<- hW3]; exact blk_at _ _ s2.symm
 have kW : Kept (fun _ => False) w W3 := by rw [<- hW3, <- hW2, <- hW1]; exact (((Kept.refl _ w).alloc _).alloc _).alloc _
 have HK := Lib.hid kW
 obtain ⟨⟨c0, f0⟩, ⟨c1, f1⟩, c2, f2⟩ := blk3 b0
 have cf := cell_first17 b1 n h
 have HB0 := Lib.hid b0
 clear b0 b1 b2 kW
 have g1 : decide ((n : Int) < 0) = false := decide_eq_false (by omega)
 have g2 : decide ((255 : Int) < n) = false := decide_eq_false (by omega)
 have g3 : decide ((n : Int) < 16) = true := decide_eq_true (by omega)
 have g4 : decide ((0 : Int) <= n) = true := decide_eq_true (by omega)
 have i0 : (0 : Int) <= (n : Int) := by omega
 have i1 : (n : Int) < 16 := by omega
 have HD := Lib.hid (fun w => direct_any (firstP n) (first_lt n) w)
 obtain ⟨v, hv⟩ : ∃ v, firstP n = v := ⟨_, rfl⟩
 rw [hv] at HD cf ⊢
 clear hv h
 unfold RgbPost at HD
 unfold rgbV rgb at HD
 go_enter Tryz.func545, Tryz.ntmps545
 go_wp2_with fail
 refine (HD.out _).mono ?_; rintro e w1 ⟨rfl, hk⟩
 have b0 := hk.blk HB0.out id
 have HK1 := Lib.hid (HK.out.then hk)
 obtain ⟨⟨c0, f0⟩, ⟨c1, f1⟩, c2, f2⟩ := blk3 b0
 have HB1 := Lib.hid b0
 clear b0 hk
 go_wp2
 obtain ⟨⟨m0, -⟩, ⟨m1, -⟩, m2, -⟩ := blk3 (blk_set (blk_set (blk_set HB1.out 0 (.int .u8 (v / 65536))) 1 (.int .u8 (v / 256 % 256))) 2 (.int .u8 (v % 256)))
 exact bodyPost_ret (v := .agg #[.int .u8 (v / 65536), .int .u8 (v / 256 % 256), .int .u8 (v % 256)]) (by simp [results, Tryz.results545, go_sem, m0, m1, m2]) rfl ⟨rfl, (by repeat (first | exact HK1.out | refine Kept.setCell ?_ (Or.inr (Nat.le_refl _)) _))⟩
set_option maxRecDepth 100000 in
set_option maxHeartbeats 2000000 in
theorem basic_mid (j : Nat) (h : j < 216) (w : World) : Calls Tryz.prog 545 #[.int .i64 (j + 16)] w (RgbPost ⟨stepP (j / 36), stepP (j / 6 % 6), stepP (j % 6)⟩ w) := by
 obtain ⟨W1, hW1⟩ : ∃ W1, w.alloc (.cells #[.int .u8 0, .int .u8 0, .int .u8 0] 210) = W1 := ⟨_, rfl⟩
 obtain ⟨W2, hW2⟩ : ∃ W2, W1.alloc (.cells #[.int .i64 0, .int .i64 13434880, .int .i64 52480, .int .i64 13487360, .int .i64 238, .int .i64 13435085, .int .i64 52685, .int .i64 15066597, .int .i64 8355711, .int .i64 16711680, .int .i64 65280, .int .i64 16776960, .int .i64 6053119, .int .i64 16711935, .int .i64 65535, .int .i64 16777215] 527) = W2 := ⟨_, rfl⟩
 obtain ⟨W3, hW3⟩ : ∃ W3, W2.alloc (.cells #[.int .u8 0, .int .u8 95, .int .u8 135, .int .u8 175, .int .u8 215, .int .u8 255] 554) = W3 := ⟨_, rfl⟩
 have s1 : W1.heap.size = w.heap.size + 1 := by rw [<- hW1]; simp
 have s2 : W2.heap.size = w.heap.size + 1 + 1 := by rw [<- hW2]; simp [s1]
 have b0 : W3.heap[w.heap.size]? = some (.cells #[.int .u8 0, .int .u8 0, .int .u8 0] 210 (0, 0)) := by rw [<- hW3, <- hW2, <- hW1]; exact blk_alloc (blk_alloc (blk_new _ _) _) _
 have b1 : W3.heap[w.heap.size + 1]? = some (.cells #[.int .i64 0, .int .i64 13434880, .int .i64 52480, .int .i64 13487360, .int .i64 238, .int .i64 13435085, .int .i64 52685, .int .i64 15066597, .int .i64 8355711, .int .i64 16711680, .int .i64 65280, .int .i64 16776960, .int .i64 6053119, .int .i64 16711935, .int .i64 65535, .int .i64 16777215] 527 (0, 0)) := by rw [<- hW3, <- hW2]; exact blk_alloc (blk_at _ _ s1.symm) _
 have b2 : W3.heap[w.heap.size + 1 + 1]? = some (.cells #[.int .u8 0, .int .u8 95, .int .u8 135, .int .u8 175, .int .u8 215, .int .u8 255] 554 (0, 0)) := by rw [<- hW3]; exact blk_at _ _ s2.symm
 have kW : Kept (fun _ => False) w W3 := by rw [<- hW3, <- hW2, <- hW1]; exact (((Kept.refl _ w).alloc _).alloc _).alloc _
 have HK := Lib.hid kW
 obtain ⟨⟨c0, f0⟩, ⟨c1, f1⟩, c2, f2⟩ := blk3 b0
 obtain ⟨q1, h1⟩ : ∃ q, j / 36 = q := ⟨_, rfl⟩
 obtain ⟨q0, h0⟩ : ∃ q, j / 6 = q := ⟨_, rfl⟩
 obtain ⟨q2, h2⟩ : ∃ q, q0 % 6 = q := ⟨_, rfl⟩
 obtain ⟨q3, h3⟩ : ∃ q, j % 6 = q := ⟨_, rfl⟩
 rw [h1, h0, h2, h3]
 have cf1 := cell_step17 b2 q1 (by omega)
 have cf2 := cell_step17 b2 q2 (by omega)
 have cf3 := cell_step17 b2 q3 (by omega)
 have HB0 := Lib.hid b0
 clear b0 b1 b2 kW
 have g1 : decide ((j : Int) + 16 < 0) = false := decide_eq_false (by omega)
 have g2 : decide ((255 : Int) < (j : Int) + 16) = false := decide_eq_false (by omega)
 have g3 : decide ((j : Int) + 16 < 16) = false := decide_eq_false (by omega)
 have g4 : decide ((0 : Int) <= (j : Int) + 16) = true := decide_eq_true (by omega)
 have g5 : decide ((j : Int) + 16 < 232) = true := decide_eq_true (by omega)
 have g6 : decide ((16 : Int) <= (j : Int) + 16) = true := decide_eq_true (by omega)
 have i1 : (0 : Int) <= (q1 : Int) := by omega
 have i2 : (q1 : Int) < 6 := by omega
 have i3 : (0 : Int) <= (q2 : Int) := by omega
 have i4 : (q2 : Int) < 6 := by omega
 have i5 : (0 : Int) <= (q3 : Int) := by omega
 have i6 : (q3 : Int) < 6 := by omega
 have i7 : (0 : Int) <= (q0 : Int) := by omega
 have i8 : (q0 : Int) <= 36 := by omega
 have e1 : (j : Int).tdiv 36 = (q1 : Int) := by rw [Int.tdiv_eq_ediv_of_nonneg (by omega)]; omega
 have e0 : (j : Int).tdiv 6 = (q0 : Int) := by rw [Int.tdiv_eq_ediv_of_nonneg (by omega)]; omega
 have e2 : (q0 : Int).tmod 6 = (q2 : Int) := by rw [Int.tmod_eq_emod_of_nonneg (by omega)]; omega
 have e3 : (j : Int).tmod 6 = (q3 : Int) := by rw [Int.tmod_eq_emod_of_nonneg (by omega)]; omega
 have w1 : IntKind.i64.wrap (q1 : Int) = (q1 : Int) := IntWalk.i64_in _ (by omega)
 have w0 : IntKind.i64.wrap (q0 : Int) = (q0 : Int) := IntWalk.i64_in _ (by omega)
 obtain ⟨a1, ha1⟩ : ∃ a, stepP q1 = a := ⟨_, rfl⟩
 obtain ⟨a2, ha2⟩ : ∃ a, stepP q2 = a := ⟨_, rfl⟩
 obtain ⟨a3, ha3⟩ : ∃ a, stepP q3 = a := ⟨_, rfl⟩
 rw [ha1] at cf1 ⊢
 rw [ha2] at cf2 ⊢
 rw [ha3] at cf3 ⊢
 have hj : (j : Int) <= 215 := by omega
 clear h h0 h1 h2 h3 ha1 ha2 ha3
 go_enter Tryz.func545, Tryz.ntmps545
 go_wp2
 go_still_tail 14, (by kernel_rfl)
 clear e0 e1 e2 e3 w0 w1
 change wpList _ _ _ _ _ W3.drew
 go_wp2
 obtain ⟨⟨m0, -⟩, ⟨m1, -⟩, m2, -⟩ := blk3 (blk_set (blk_set (blk_set HB0.out 0 (.int .u8 (a1))) 1 (.int .u8 (a2))) 2 (.int .u8 (a3)))
 exact bodyPost_ret (v := .agg #[.int .u8 (a1), .int .u8 (a2), .int .u8 (a3)]) (by simp [results, Tryz.results545, go_sem, m0, m1, m2]) rfl ⟨rfl, (by repeat (first | exact HK.out | refine Kept.drew ?_ | refine Kept.setCell ?_ (Or.inr (Nat.le_refl _)) _))⟩
set_option maxRecDepth 100000 in
set_option maxHeartbeats 2000000 in
theorem basic_high (n : Int) (h1 : 232 <= n) (h2 : n <= 255) (w : World) : Calls Tryz.prog 545 #[.int .i64 n] w (RgbPost ⟨8 + 10 * (n - 232), 8 + 10 * (n - 232), 8 + 10 * (n - 232)⟩ w) := by
 obtain ⟨W1, hW1⟩ : ∃ W1, w.alloc (.cells #[.int .u8 0, .int .u8 0, .int .u8 0] 210) = W1 := ⟨_, rfl⟩
 obtain ⟨W2, hW2⟩ : ∃ W2, W1.alloc (.cells #[.int .i64 0, .int .i64 13434880, .int .i64 52480, .int .i64 13487360, .int .i64 238, .int .i64 13435085, .int .i64 52685, .int .i64 15066597, .int .i64 8355711, .int .i64 16711680, .int .i64 65280, .int .i64 16776960, .int .i64 6053119, .int .i64 16711935, .int .i64 65535, .int .i64 16777215] 527) = W2 := ⟨_, rfl⟩
 obtain ⟨W3, hW3⟩ : ∃ W3, W2.alloc (.cells #[.int .u8 0, .int .u8 95, .int .u8 135, .int .u8 175, .int .u8 215, .int .u8 255] 554) = W3 := ⟨_, rfl⟩
 have s1 : W1.heap.size = w.heap.size + 1 := by rw [<- hW1]; simp
 have s2 : W2.heap.size = w.heap.size + 1 + 1 := by rw [<- hW2]; simp [s1]
 have b0 : W3.heap[w.heap.size]? = some (.cells #[.int .u8 0, .int .u8 0, .int .u8 0] 210 (0, 0)) := by rw [<- hW3, <- hW2, <- hW1]; exact blk_alloc (blk_alloc (blk_new _ _) _) _
 have b1 : W3.heap[w.heap.size + 1]? = some (.cells #[.int .i64 0, .int .i64 13434880, .int .i64 52480, .int .i64 13487360, .int .i64 238, .int .i64 13435085, .int .i64 52685, .int .i64 15066597, .int .i64 8355711, .int .i64 16711680, .int .i64 65280, .int .i64 16776960, .int .i64 6053119, .int .i64 16711935, .int .i64 65535, .int .i64 16777215] 527 (0, 0)) := by rw [<- hW3, <- hW2]; exact blk_alloc (blk_at _ _ s1.symm) _
 have b2 : W3.heap[w.heap.size + 1 + 1]? = some (.cells #[.int .u8 0, .int .u8 95, .int .u8 135, .int .u8 175, .int .u8 215, .int .u8 255] 554 (0, 0)) := by rw [<- hW3]; exact blk_at _ _ s2.symm
 have kW : Kept (fun _ => False) w W3 := by rw [<- hW3, <- hW2, <- hW1]; exact (((Kept.refl _ w).alloc _).alloc _).alloc _
 have HK := Lib.hid kW
 obtain ⟨⟨c0, f0⟩, ⟨c1, f1⟩, c2, f2⟩ := blk3 b0
 have HB0 := Lib.hid b0
 clear b0 b1 b2 kW
 have g1 : decide (n < 0) = false := decide_eq_false (by omega)
 have g2 : decide (255 < n) = false := decide_eq_false (by omega)
 have g3 : decide (n < 16) = false := decide_eq_false (by omega)
 have g4 : decide (0 <= n) = true := decide_eq_true (by omega)
 have g5 : decide (n < 232) = false := decide_eq_false (by omega)
 have g6 : decide (16 <= n) = true := decide_eq_true (by omega)
 have g7 : decide (232 <= n) = true := decide_eq_true (by omega)
 have g8 : decide (n < 256) = true := decide_eq_true (by omega)
 have e1 : IntKind.u8.wrap (8 + 10 * (n - 232)) = 8 + 10 * (n - 232) := IntWalk.u8_in _ (by omega)
 go_enter Tryz.func545, Tryz.ntmps545
 go_wp2
 obtain ⟨⟨m0, -⟩, ⟨m1, -⟩, m2, -⟩ := blk3 (blk_set (blk_set (blk_set HB0.out 0 (.int .u8 (8 + 10 * (n - 232)))) 1 (.int .u8 (8 + 10 * (n - 232)))) 2 (.int .u8 (8 + 10 * (n - 232))))
 exact bodyPost_ret (v := .agg #[.int .u8 (8 + 10 * (n - 232)), .int .u8 (8 + 10 * (n - 232)), .int .u8 (8 + 10 * (n - 232))]) (by simp [results, Tryz.results545, go_sem, m0, m1, m2]) rfl ⟨rfl, (by repeat (first | exact HK.out | refine Kept.drew ?_ | refine Kept.setCell ?_ (Or.inr (Nat.le_refl _)) _))⟩
theorem basic_any (n : Int) (w : World) : Calls Tryz.prog 545 #[.int .i64 n] w (RgbPost (basic n) w) := by
 unfold basic
 split
 ·rename_i h; exact basic_none n h w
 split
 ·rename_i h h1
  obtain ⟨k, rfl⟩ := Int.eq_ofNat_of_zero_le (show 0 <= n by omega)
  exact basic_low k (by omega) w
 split
 ·rename_i h h1 h2
  obtain ⟨k, hk⟩ := Int.eq_ofNat_of_zero_le (show 0 <= n - 16 by omega)
  obtain rfl : n = (k : Int) + 16 := by omega
  have e : ((k : Int) + 16).toNat - 16 = k := by omega
  rw [e]
  exact basic_mid k (by omega) w
 ·rename_i h h1 h2; exact basic_high n (by omega) (by omega) w
set_option maxRecDepth 100000 in
set_option maxHeartbeats 4000000 in
theorem colr_none (c : Int) (fore : Bool) (h : ¬ c = 0 /\ ¬ (16777216 <= c /\ c < 16777472) /\ ¬ (33554432 <= c /\ c < 50331648)) (w : World) : Calls Tryz.prog 542 #[.int .i64 c, .bool fore] w (RgbPost ⟨0, 0, 0⟩ w) := by
 obtain ⟨W, hW⟩ : ∃ W, w.alloc (.cells #[.int .u8 0, .int .u8 0, .int .u8 0] 210) = W := ⟨_, rfl⟩
 have b0 : W.heap[w.heap.size]? = some (.cells #[.int .u8 0, .int .u8 0, .int .u8 0] 210 (0, 0)) := by rw [<- hW]; exact blk_new _ _
 have kW : Kept (fun _ => False) w W := by rw [<- hW]; exact (Kept.refl _ w).alloc _
 obtain ⟨V1, V2, V3, e1, e2, e3, ⟨c0, f0⟩, ⟨c1, f1⟩, ⟨c2, f2⟩, bV, kV⟩ := store3 b0 (.int .u8 (0)) (.int .u8 (0)) (.int .u8 (0))
 obtain ⟨⟨m0, -⟩, ⟨m1, -⟩, m2, -⟩ := blk3 bV
 have HK := Lib.hid (show Kept (fun _ => False) w V3 from kW.trans (kV.mono fun i _ hi => Or.inr (by have h9 : i = w.heap.size := hi; omega)))
 clear kW kV b0 bV
 have g0 : (c == 0) = false := by simp; omega
 have hcb : colB c = false := decide_eq_false (by omega)
 have HC := Lib.hid (show ∀ w, Calls Tryz.prog 543 #[.int .i64 c] w fun e w' => e = .returned (.bool false) /\ w = w' from fun w => by have h := color_any c w; rw [hcb] at h; exact h)
 clear hcb
 clear h
 go_enter Tryz.func542, Tryz.ntmps542
 go_wp2_with fail
 refine (HC.out _).mono ?_; rintro e w' ⟨rfl, rfl⟩
 go_wp2
 exact bodyPost_ret (v := .agg #[.int .u8 (0), .int .u8 (0), .int .u8 (0)]) (by simp [results, Tryz.results542, go_sem, m0, m1, m2]) rfl ⟨rfl, HK.out⟩
set_option maxRecDepth 100000 in
set_option maxHeartbeats 4000000 in
theorem colr_back0 (w : World) : Calls Tryz.prog 542 #[.int .i64 0, .bool false] w (RgbPost ⟨0, 0, 0⟩ w) := by
 obtain ⟨W, hW⟩ : ∃ W, w.alloc (.cells #[.int .u8 0, .int .u8 0, .int .u8 0] 210) = W := ⟨_, rfl⟩
 have b0 : W.heap[w.heap.size]? = some (.cells #[.int .u8 0, .int .u8 0, .int .u8 0] 210 (0, 0)) := by rw [<- hW]; exact blk_new _ _
 have kW : Kept (fun _ => False) w W := by rw [<- hW]; exact (Kept.refl _ w).alloc _
 obtain ⟨V1, V2, V3, e1, e2, e3, ⟨c0, f0⟩, ⟨c1, f1⟩, ⟨c2, f2⟩, bV, kV⟩ := store3 b0 (.int .u8 (0)) (.int .u8 (0)) (.int .u8 (0))
 obtain ⟨⟨m0, -⟩, ⟨m1, -⟩, m2, -⟩ := blk3 bV
 have HK := Lib.hid (show Kept (fun _ => False) w V3 from kW.trans (kV.mono fun i _ hi => Or.inr (by have h9 : i = w.heap.size := hi; omega)))
 clear kW kV b0 bV
 have HC := Lib.hid (show ∀ w, Calls Tryz.prog 543 #[.int .i64 0] w fun e w' => e = .returned (.bool true) /\ w = w' from fun w => color_any 0 w)
 go_enter Tryz.func542, Tryz.ntmps542
 go_wp2_with fail
 refine (HC.out _).mono ?_; rintro e w' ⟨rfl, rfl⟩
 go_wp2
 exact bodyPost_ret (v := .agg #[.int .u8 (0), .int .u8 (0), .int .u8 (0)]) (by simp [results, Tryz.results542, go_sem, m0, m1, m2]) rfl ⟨rfl, HK.out⟩
set_option maxRecDepth 100000 in
set_option maxHeartbeats 4000000 in
theorem colr_fore0 (w : World) : Calls Tryz.prog 542 #[.int .i64 0, .bool true] w (RgbPost ⟨229, 229, 229⟩ w) := by
 obtain ⟨W, hW⟩ : ∃ W, w.alloc (.cells #[.int .u8 0, .int .u8 0, .int .u8 0] 210) = W := ⟨_, rfl⟩
 have b0 : W.heap[w.heap.size]? = some (.cells #[.int .u8 0, .int .u8 0, .int .u8 0] 210 (0, 0)) := by rw [<- hW]; exact blk_new _ _
 have kW : Kept (fun _ => False) w W := by rw [<- hW]; exact (Kept.refl _ w).alloc _
 have HC := Lib.hid (show ∀ w, Calls Tryz.prog 543 #[.int .i64 0] w fun e w' => e = .returned (.bool true) /\ w = w' from fun w => color_any 0 w)
 obtain ⟨C, hC⟩ : ∃ C, rgb 15066597 = C := ⟨_, rfl⟩
 have HF := Lib.hid (show ∀ w, Calls Tryz.prog 544 #[.int .i64 15066597] w (RgbPost C w) from fun w => by have h := direct_any 15066597 (by omega) w; rw [hC] at h; exact h)
 unfold RgbPost rgbV at HF
 have hC' : (⟨229, 229, 229⟩ : Rgb) = C := by rw [<- hC]; rfl
 rw [hC']
 clear hC hC'
 go_enter Tryz.func542, Tryz.ntmps542
 go_wp2_with fail
 refine (HC.out _).mono ?_; rintro e w' ⟨rfl, rfl⟩
 go_wp2_with fail
 refine (HF.out _).mono ?_; rintro e w1 ⟨rfl, hk⟩
 have b1 := hk.blk b0 id
 obtain ⟨V1, V2, V3, e1, e2, e3, ⟨c0, f0⟩, ⟨c1, f1⟩, ⟨c2, f2⟩, bV, kV⟩ := store3 b1 (.int .u8 C.r) (.int .u8 C.g) (.int .u8 C.b)
 obtain ⟨⟨m0, -⟩, ⟨m1, -⟩, m2, -⟩ := blk3 bV
 have HK := Lib.hid (show Kept (fun _ => False) w V3 from (kW.then hk).trans (kV.mono fun i _ hi => Or.inr (by have h9 : i = w.heap.size := hi; omega)))
 clear hk kW kV b0 b1 bV
 go_wp2
 exact bodyPost_ret (v := .agg #[.int .u8 (C.r), .int .u8 (C.g), .int .u8 (C.b)]) (by simp [results, Tryz.results542, go_sem, m0, m1, m2]) rfl ⟨rfl, HK.out⟩
set_option maxRecDepth 100000 in
set_option maxHeartbeats 4000000 in
theorem colr_pal (c : Int) (fore : Bool) (h1 : 16777216 <= c) (h2 : c < 16777472) (w : World) : Calls Tryz.prog 542 #[.int .i64 c, .bool fore] w (RgbPost (basic (c - 16777216)) w) := by
 obtain ⟨W, hW⟩ : ∃ W, w.alloc (.cells #[.int .u8 0, .int .u8 0, .int .u8 0] 210) = W := ⟨_, rfl⟩
 have b0 : W.heap[w.heap.size]? = some (.cells #[.int .u8 0, .int .u8 0, .int .u8 0] 210 (0, 0)) := by rw [<- hW]; exact blk_new _ _
 have kW : Kept (fun _ => False) w W := by rw [<- hW]; exact (Kept.refl _ w).alloc _
 have g0 : (c == 0) = false := by simp; omega
 have g1 : decide (16777216 <= c) = true := decide_eq_true (by omega)
 have g2 : decide (c <= 16777471) = true := decide_eq_true (by omega)
 have g3 : decide (c < 33554432) = true := decide_eq_true (by omega)
 obtain ⟨C, hC⟩ : ∃ C, basic (c - 16777216) = C := ⟨_, rfl⟩
 have HF := Lib.hid (show ∀ w, Calls Tryz.prog 545 #[.int .i64 (c - 16777216)] w (RgbPost C w) from fun w => by have h := basic_any (c - 16777216) w; rw [hC] at h; exact h)
 unfold RgbPost rgbV at HF
 rw [hC]
 clear hC
 have hcb : colB c = true := decide_eq_true (by omega)
 have HC := Lib.hid (show ∀ w, Calls Tryz.prog 543 #[.int .i64 c] w fun e w' => e = .returned (.bool true) /\ w = w' from fun w => by have h := color_any c w; rw [hcb] at h; exact h)
 clear hcb
 go_enter Tryz.func542, Tryz.ntmps542
 go_wp2_with fail
 refine (HC.out _).mono ?_; rintro e w' ⟨rfl, rfl⟩
 go_wp2_with fail
 refine (HF.out _).mono ?_; rintro e w1 ⟨rfl, hk⟩
 have b1 := hk.blk b0 id
 obtain ⟨V1, V2, V3, e1, e2, e3, ⟨c0, f0⟩, ⟨c1, f1⟩, ⟨c2, f2⟩, bV, kV⟩ := store3 b1 (.int .u8 C.r) (.int .u8 C.g) (.int .u8 C.b)
 obtain ⟨⟨m0, -⟩, ⟨m1, -⟩, m2, -⟩ := blk3 bV
 have HK := Lib.hid (show Kept (fun _ => False) w V3 from (kW.then hk).trans (kV.mono fun i _ hi => Or.inr (by have h9 : i = w.heap.size := hi; omega)))
 clear hk kW kV b0 b1 bV
 go_wp2
 exact bodyPost_ret (v := .agg #[.int .u8 (C.r), .int .u8 (C.g), .int .u8 (C.b)]) (by simp [results, Tryz.results542, go_sem, m0, m1, m2]) rfl ⟨rfl, HK.out⟩
set_option maxRecDepth 100000 in
set_option maxHeartbeats 4000000 in
theorem colr_dir (c : Int) (fore : Bool) (h1 : 33554432 <= c) (h2 : c < 50331648) (w : World) : Calls Tryz.prog 542 #[.int .i64 c, .bool fore] w (RgbPost (rgb (c - 33554432)) w) := by
 obtain ⟨W, hW⟩ : ∃ W, w.alloc (.cells #[.int .u8 0, .int .u8 0, .int .u8 0] 210) = W := ⟨_, rfl⟩
 have b0 : W.heap[w.heap.size]? = some (.cells #[.int .u8 0, .int .u8 0, .int .u8 0] 210 (0, 0)) := by rw [<- hW]; exact blk_new _ _
 have kW : Kept (fun _ => False) w W := by rw [<- hW]; exact (Kept.refl _ w).alloc _
 have g0 : (c == 0) = false := by simp; omega
 have g3 : decide (c < 33554432) = false := decide_eq_false (by omega)
 obtain ⟨C, hC⟩ : ∃ C, rgb (c - 33554432) = C := ⟨_, rfl⟩
 have HF := Lib.hid (show ∀ w, Calls Tryz.prog 544 #[.int .i64 (c - 33554432)] w (RgbPost C w) from fun w => by have h := direct_any (c - 33554432) (by omega) w; rw [hC] at h; exact h)
 unfold RgbPost rgbV at HF
 rw [hC]
 clear hC
 have hcb : colB c = true := decide_eq_true (by omega)
 have HC := Lib.hid (show ∀ w, Calls Tryz.prog 543 #[.int .i64 c] w fun e w' => e = .returned (.bool true) /\ w = w' from fun w => by have h := color_any c w; rw [hcb] at h; exact h)
 clear hcb
 go_enter Tryz.func542, Tryz.ntmps542
 go_wp2_with fail
 refine (HC.out _).mono ?_; rintro e w' ⟨rfl, rfl⟩
 go_wp2_with fail
 refine (HF.out _).mono ?_; rintro e w1 ⟨rfl, hk⟩
 have b1 := hk.blk b0 id
 obtain ⟨V1, V2, V3, e1, e2, e3, ⟨c0, f0⟩, ⟨c1, f1⟩, ⟨c2, f2⟩, bV, kV⟩ := store3 b1 (.int .u8 C.r) (.int .u8 C.g) (.int .u8 C.b)
 obtain ⟨⟨m0, -⟩, ⟨m1, -⟩, m2, -⟩ := blk3 bV
 have HK := Lib.hid (show Kept (fun _ => False) w V3 from (kW.then hk).trans (kV.mono fun i _ hi => Or.inr (by have h9 : i = w.heap.size := hi; omega)))
 clear hk kW kV b0 b1 bV
 go_wp2
 exact bodyPost_ret (v := .agg #[.int .u8 (C.r), .int .u8 (C.g), .int .u8 (C.b)]) (by simp [results, Tryz.results542, go_sem, m0, m1, m2]) rfl ⟨rfl, HK.out⟩
theorem colr_any (c : Int) (fore : Bool) (w : World) : Calls Tryz.prog 542 #[.int .i64 c, .bool fore] w (RgbPost (colour c fore) w) := by
 by_cases h0 : c = 0
 ·subst h0
  cases fore with
  | true => exact colr_fore0 w
  | false =>
   have e : colour 0 false = ⟨0, 0, 0⟩ := by unfold colour; rw [if_neg (by simp), if_neg (by omega), if_neg (by omega)]
   rw [e]; exact colr_back0 w
 unfold colour
 rw [if_neg (fun h => h0 h.1)]
 split
 ·rename_i h; exact colr_pal c fore h.1 h.2 w
 split
 ·rename_i h1 h
  exact colr_dir c fore h.1 h.2 w
 ·rename_i h1 h2; exact colr_none c fore ⟨h0, h1, h2⟩ w
theorem part5a (i : Nat) (x0 x1 x2 : Value) (w : World) (hi : i < 3) : (part 5 #[x0, x1, x2] i).run Tryz.prog w = .ok (#[x0, x1, x2].getD i undef) w := by
 rcases i with _ | _ | _ | i <;> first | omega | kernel_rfl
theorem eqIn3 (d t : Nat) (ht : Tryz.prog.underlying t = some (.array 3 5)) (a0 a1 a2 b0 b1 b2 : Int) (w : World) : (Op.equalIn (d + 3) t (.agg #[.int .u8 a0, .int .u8 a1, .int .u8 a2]) (.agg #[.int .u8 b0, .int .u8 b1, .int .u8 b2])).run Tryz.prog w = .ok (a0 == b0 && (a1 == b1 && a2 == b2)) w := by
 have h5 : ∀ (n : Nat) (a b : Int) (w : World), (Op.equalIn (n + 1) 5 (.int .u8 a) (.int .u8 b)).run Tryz.prog w = .ok (a == b) w := fun n a b w => run_equalIn_int w n 5 .u8 .u8 a b Tryz.underlying5
 unfold Op.equalIn
 have hp := part5a
 cases h0 : (a0 == b0) <;> cases h1 : (a1 == b1) <;> cases h2 : (a2 == b2) <;>
 simp [run_underlying ht, List.range', hp, h5, h0, h1, h2]
theorem run_neRgb (a0 a1 a2 b0 b1 b2 : Int) (w : World) : (binOp .neq 210 (.agg #[.int .u8 a0, .int .u8 a1, .int .u8 a2]) (.agg #[.int .u8 b0, .int .u8 b1, .int .u8 b2])).run Tryz.prog w = .ok (.bool (!(a0 == b0 && (a1 == b1 && a2 == b2)))) w := by
 rw [run_neq_struct, eqIn3 9997 210 Tryz.underlying210]; rfl
end Go.Proofs.YtmplpcmcbliadaaGreatDoor
