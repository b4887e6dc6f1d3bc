/- May a place be: the document's; a place as the document's. -/
import Derived.Test.YtdjgmhbfohbenaaMReg
namespace Go.Proofs.Ytdjgmhbfohbenaa
open Go.RowKit Go.Sort Pl
set_option linter.unusedVariables false
set_option linter.unusedSimpArgs false
set_option maxRecDepth 100000 in
set_option maxHeartbeats 8000000 in
theorem in64_any (v lo hi : Int) (w : World) : Calls Try.prog 64 #[.int .i64 v, .int .i64 lo, .int .i64 hi] w fun e w' => e = .returned (.bool (decide (lo ≤ v) && decide (v ≤ hi))) ∧ w' = w := by
  by_cases h1 : lo ≤ v
  · have g1 : decide (lo ≤ v) = true := decide_eq_true h1
    by_cases h2 : v ≤ hi
    · have g2 : decide (v ≤ hi) = true := decide_eq_true h2
      rw [g1, g2]
      go_enter Try.func64, Try.ntmps64
      go_wp2
      go_ret
      exact ⟨rfl, rfl⟩
    · have g2 : decide (v ≤ hi) = false := decide_eq_false h2
      rw [g1, g2]
      go_enter Try.func64, Try.ntmps64
      go_wp2
      go_ret
      exact ⟨rfl, rfl⟩
  · have g1 : decide (lo ≤ v) = false := decide_eq_false h1
    rw [g1]
    go_enter Try.func64, Try.ntmps64
    go_wp2
    go_ret
    exact ⟨rfl, rfl⟩
set_option maxRecDepth 100000 in
set_option maxHeartbeats 8000000 in
theorem in34_any (v lo hi : Int) (w : World) : Calls Try.prog 34 #[.int .i64 v, .int .i64 lo, .int .i64 hi] w fun e w' => e = .returned (.bool (decide (lo ≤ v) && decide (v ≤ hi))) ∧ w' = w := by
  by_cases h1 : lo ≤ v
  · have g1 : decide (lo ≤ v) = true := decide_eq_true h1
    by_cases h2 : v ≤ hi
    · have g2 : decide (v ≤ hi) = true := decide_eq_true h2
      rw [g1, g2]
      go_enter Try.func34, Try.ntmps34
      go_wp2
      go_ret
      exact ⟨rfl, rfl⟩
    · have g2 : decide (v ≤ hi) = false := decide_eq_false h2
      rw [g1, g2]
      go_enter Try.func34, Try.ntmps34
      go_wp2
      go_ret
      exact ⟨rfl, rfl⟩
  · have g1 : decide (lo ≤ v) = false := decide_eq_false h1
    rw [g1]
    go_enter Try.func34, Try.ntmps34
    go_wp2
    go_ret
    exact ⟨rfl, rfl⟩
set_option maxRecDepth 100000 in
set_option maxHeartbeats 8000000 in
theorem of17_any (p : Pz) (w : World) : Calls Try.prog 17 #[p.val] w fun e w' => e = .returned p.val ∧ Kept (fun _ => False) w w' := by
  obtain ⟨pim, pid, palt, pline, pcol, prows, pcols, px, py, pw, ph, pdx, pdy, pz⟩ := p
  unfold Pz.val
  simp only
  obtain ⟨W, hW⟩ : ∃ W, (w.alloc (.cells #[.int .i64 pim, .int .i64 pid, .bool palt, .int .i64 pline, .int .i64 pcol, .int .i64 prows, .int .i64 pcols, .int .i64 px, .int .i64 py, .int .i64 pw, .int .i64 ph, .int .i64 pdx, .int .i64 pdy, .int .i64 pz] 48)).alloc (.cells #[.int .i64 pim, .int .i64 pid, .bool palt, .int .i64 pline, .int .i64 pcol, .int .i64 prows, .int .i64 pcols, .int .i64 px, .int .i64 py, .int .i64 pw, .int .i64 ph, .int .i64 pdx, .int .i64 pdy, .int .i64 pz] 51) = W := ⟨_, rfl⟩
  have b0 : W.heap[w.heap.size + 1]? = some (.cells #[.int .i64 pim, .int .i64 pid, .bool palt, .int .i64 pline, .int .i64 pcol, .int .i64 prows, .int .i64 pcols, .int .i64 px, .int .i64 py, .int .i64 pw, .int .i64 ph, .int .i64 pdx, .int .i64 pdy, .int .i64 pz] 51 (0, 0)) := by rw [← hW]; exact blk_at _ _ (by simp)
  have HK := Lib.hid (show Kept (fun _ => False) w W by rw [← hW]; exact ((Kept.refl _ w).alloc _).alloc _)
  obtain ⟨m0, m1, m2, m3, m4, m5, m6, m7, m8, m9, m10, m11, m12, m13⟩ := blk14 b0
  clear b0
  go_enter Try.func17, Try.ntmps17
  go_wp2
  exact bodyPost_ret (v := .agg #[.int .i64 pim, .int .i64 pid, .bool palt, .int .i64 pline, .int .i64 pcol, .int .i64 prows, .int .i64 pcols, .int .i64 px, .int .i64 py, .int .i64 pw, .int .i64 ph, .int .i64 pdx, .int .i64 pdy, .int .i64 pz]) (by simp [results, Try.results17, go_sem, m0, m1, m2, m3, m4, m5, m6, m7, m8, m9, m10, m11, m12, m13]) rfl ⟨rfl, HK.out⟩
structure MayP (p : Pz) : Prop where
  im : 0 ≤ p.im
  id : 0 ≤ p.id ∧ p.id ≤ 4294967295
  line : 0 ≤ p.line ∧ p.line ≤ 1125899906842624
  col : 0 ≤ p.col ∧ p.col ≤ 1000
  rows : 1 ≤ p.rows ∧ p.rows ≤ 1048576
  cols : 1 ≤ p.cols ∧ p.cols ≤ 1048576
  x : 0 ≤ p.x
  y : 0 ≤ p.y
  w : 1 ≤ p.w ∧ p.w ≤ 16384
  h : 1 ≤ p.h ∧ p.h ≤ 16384
  dx : 0 ≤ p.dx ∧ p.dx ≤ 64
  dy : 0 ≤ p.dy ∧ p.dy ≤ 64
  z : -1073741824 ≤ p.z ∧ p.z ≤ 1073741824
set_option maxRecDepth 100000 in
set_option maxHeartbeats 8000000 in
theorem may_any (p : Pz) (w : World) : Calls Try.prog 31 #[p.val] w fun e w' => ∃ b, e = .returned (.bool b) ∧ (b = true → MayP p) ∧ Kept (fun _ => False) w w' := by
  obtain ⟨pim, pid, palt, pline, pcol, prows, pcols, px, py, pw, ph, pdx, pdy, pz⟩ := p
  unfold Pz.val
  simp only
  have HBT := fun (v lo hi : Int) (b : Bool) (hb : decide (lo ≤ v ∧ v ≤ hi) = b) (x : World) => show Calls Try.prog 64 #[.int .i64 v, .int .i64 lo, .int .i64 hi] x fun e w' => e = .returned (.bool b) ∧ x = w' from by
    have h := in64_any v lo hi x
    rw [← Bool.decide_and, hb] at h
    exact h.mono fun _ _ h => ⟨h.1, h.2.symm⟩
  obtain ⟨W, hW⟩ : ∃ W, w.alloc (.cells #[.int .i64 pim, .int .i64 pid, .bool palt, .int .i64 pline, .int .i64 pcol, .int .i64 prows, .int .i64 pcols, .int .i64 px, .int .i64 py, .int .i64 pw, .int .i64 ph, .int .i64 pdx, .int .i64 pdy, .int .i64 pz] 51) = W := ⟨_, rfl⟩
  have b0 : W.heap[w.heap.size]? = some (.cells #[.int .i64 pim, .int .i64 pid, .bool palt, .int .i64 pline, .int .i64 pcol, .int .i64 prows, .int .i64 pcols, .int .i64 px, .int .i64 py, .int .i64 pw, .int .i64 ph, .int .i64 pdx, .int .i64 pdy, .int .i64 pz] 51 (0, 0)) := by rw [← hW]; exact blk_new _ _
  have HK := Lib.hid (show Kept (fun _ => False) w W by rw [← hW]; exact (Kept.refl _ w).alloc _)
  obtain ⟨x0, x1, x2, x3, x4, x5, x6, x7, x8, x9, x10, x11, x12, x13⟩ := blk14 b0
  clear b0
  by_cases c0 : 0 ≤ pim
  rotate_left
  · have g0 : decide (0 ≤ pim) = false := decide_eq_false c0
    clear c0
    clear HBT
    go_enter Try.func31, Try.ntmps31
    go_wp2
    exact bodyPost_ret (v := .bool false) (by simp [results, Try.results31, go_sem]) rfl ⟨false, rfl, (fun h => by cases h), HK.out⟩
  have g0 : decide (0 ≤ pim) = true := decide_eq_true c0
  by_cases c1 : 0 ≤ pid ∧ pid ≤ 4294967295
  rotate_left
  · have B1 := Lib.hid (HBT pid (0) 4294967295 false (decide_eq_false c1))
    clear c0 c1
    clear HBT
    go_enter Try.func31, Try.ntmps31
    go_wp2_with fail
    refine (B1.out _).mono ?_
    rintro e w' ⟨rfl, rfl⟩
    go_wp2
    exact bodyPost_ret (v := .bool false) (by simp [results, Try.results31, go_sem]) rfl ⟨false, rfl, (fun h => by cases h), HK.out⟩
  have B1 := Lib.hid (HBT pid (0) 4294967295 true (decide_eq_true c1))
  by_cases c2 : 0 ≤ pline ∧ pline ≤ 1125899906842624
  rotate_left
  · have B2 := Lib.hid (HBT pline (0) 1125899906842624 false (decide_eq_false c2))
    clear c0 c1 c2
    clear HBT
    go_enter Try.func31, Try.ntmps31
    go_wp2_with fail
    refine (B1.out _).mono ?_
    rintro e w' ⟨rfl, rfl⟩
    go_wp2_with fail
    refine (B2.out _).mono ?_
    rintro e w' ⟨rfl, rfl⟩
    go_wp2
    exact bodyPost_ret (v := .bool false) (by simp [results, Try.results31, go_sem]) rfl ⟨false, rfl, (fun h => by cases h), HK.out⟩
  have B2 := Lib.hid (HBT pline (0) 1125899906842624 true (decide_eq_true c2))
  by_cases c3 : 0 ≤ pcol ∧ pcol ≤ 1000
  rotate_left
  · have B3 := Lib.hid (HBT pcol (0) 1000 false (decide_eq_false c3))
    clear c0 c1 c2 c3
    clear HBT
    go_enter Try.func31, Try.ntmps31
    go_wp2_with fail
    refine (B1.out _).mono ?_
    rintro e w' ⟨rfl, rfl⟩
    go_wp2_with fail
    refine (B2.out _).mono ?_
    rintro e w' ⟨rfl, rfl⟩
    go_wp2_with fail
    refine (B3.out _).mono ?_
    rintro e w' ⟨rfl, rfl⟩
    go_wp2
    exact bodyPost_ret (v := .bool false) (by simp [results, Try.results31, go_sem]) rfl ⟨false, rfl, (fun h => by cases h), HK.out⟩
  have B3 := Lib.hid (HBT pcol (0) 1000 true (decide_eq_true c3))
  by_cases c4 : 1 ≤ prows ∧ prows ≤ 1048576
  rotate_left
  · have B4 := Lib.hid (HBT prows (1) 1048576 false (decide_eq_false c4))
    clear c0 c1 c2 c3 c4
    clear HBT
    go_enter Try.func31, Try.ntmps31
    go_wp2_with fail
    refine (B1.out _).mono ?_
    rintro e w' ⟨rfl, rfl⟩
    go_wp2_with fail
    refine (B2.out _).mono ?_
    rintro e w' ⟨rfl, rfl⟩
    go_wp2_with fail
    refine (B3.out _).mono ?_
    rintro e w' ⟨rfl, rfl⟩
    go_wp2_with fail
    refine (B4.out _).mono ?_
    rintro e w' ⟨rfl, rfl⟩
    go_wp2
    exact bodyPost_ret (v := .bool false) (by simp [results, Try.results31, go_sem]) rfl ⟨false, rfl, (fun h => by cases h), HK.out⟩
  have B4 := Lib.hid (HBT prows (1) 1048576 true (decide_eq_true c4))
  by_cases c5 : 1 ≤ pcols ∧ pcols ≤ 1048576
  rotate_left
  · have B5 := Lib.hid (HBT pcols (1) 1048576 false (decide_eq_false c5))
    clear c0 c1 c2 c3 c4 c5
    clear HBT
    go_enter Try.func31, Try.ntmps31
    go_wp2_with fail
    refine (B1.out _).mono ?_
    rintro e w' ⟨rfl, rfl⟩
    go_wp2_with fail
    refine (B2.out _).mono ?_
    rintro e w' ⟨rfl, rfl⟩
    go_wp2_with fail
    refine (B3.out _).mono ?_
    rintro e w' ⟨rfl, rfl⟩
    go_wp2_with fail
    refine (B4.out _).mono ?_
    rintro e w' ⟨rfl, rfl⟩
    go_wp2_with fail
    refine (B5.out _).mono ?_
    rintro e w' ⟨rfl, rfl⟩
    go_wp2
    exact bodyPost_ret (v := .bool false) (by simp [results, Try.results31, go_sem]) rfl ⟨false, rfl, (fun h => by cases h), HK.out⟩
  have B5 := Lib.hid (HBT pcols (1) 1048576 true (decide_eq_true c5))
  by_cases c6 : 0 ≤ px
  rotate_left
  · have g6 : decide (0 ≤ px) = false := decide_eq_false c6
    clear c0 c1 c2 c3 c4 c5 c6
    clear HBT
    go_enter Try.func31, Try.ntmps31
    go_wp2_with fail
    refine (B1.out _).mono ?_
    rintro e w' ⟨rfl, rfl⟩
    go_wp2_with fail
    refine (B2.out _).mono ?_
    rintro e w' ⟨rfl, rfl⟩
    go_wp2_with fail
    refine (B3.out _).mono ?_
    rintro e w' ⟨rfl, rfl⟩
    go_wp2_with fail
    refine (B4.out _).mono ?_
    rintro e w' ⟨rfl, rfl⟩
    go_wp2_with fail
    refine (B5.out _).mono ?_
    rintro e w' ⟨rfl, rfl⟩
    go_wp2
    exact bodyPost_ret (v := .bool false) (by simp [results, Try.results31, go_sem]) rfl ⟨false, rfl, (fun h => by cases h), HK.out⟩
  have g6 : decide (0 ≤ px) = true := decide_eq_true c6
  by_cases c7 : 0 ≤ py
  rotate_left
  · have g7 : decide (0 ≤ py) = false := decide_eq_false c7
    clear c0 c1 c2 c3 c4 c5 c6 c7
    clear HBT
    go_enter Try.func31, Try.ntmps31
    go_wp2_with fail
    refine (B1.out _).mono ?_
    rintro e w' ⟨rfl, rfl⟩
    go_wp2_with fail
    refine (B2.out _).mono ?_
    rintro e w' ⟨rfl, rfl⟩
    go_wp2_with fail
    refine (B3.out _).mono ?_
    rintro e w' ⟨rfl, rfl⟩
    go_wp2_with fail
    refine (B4.out _).mono ?_
    rintro e w' ⟨rfl, rfl⟩
    go_wp2_with fail
    refine (B5.out _).mono ?_
    rintro e w' ⟨rfl, rfl⟩
    go_wp2
    exact bodyPost_ret (v := .bool false) (by simp [results, Try.results31, go_sem]) rfl ⟨false, rfl, (fun h => by cases h), HK.out⟩
  have g7 : decide (0 ≤ py) = true := decide_eq_true c7
  by_cases c8 : 1 ≤ pw ∧ pw ≤ 16384
  rotate_left
  · have B8 := Lib.hid (HBT pw (1) 16384 false (decide_eq_false c8))
    clear c0 c1 c2 c3 c4 c5 c6 c7 c8
    clear HBT
    go_enter Try.func31, Try.ntmps31
    go_wp2_with fail
    refine (B1.out _).mono ?_
    rintro e w' ⟨rfl, rfl⟩
    go_wp2_with fail
    refine (B2.out _).mono ?_
    rintro e w' ⟨rfl, rfl⟩
    go_wp2_with fail
    refine (B3.out _).mono ?_
    rintro e w' ⟨rfl, rfl⟩
    go_wp2_with fail
    refine (B4.out _).mono ?_
    rintro e w' ⟨rfl, rfl⟩
    go_wp2_with fail
    refine (B5.out _).mono ?_
    rintro e w' ⟨rfl, rfl⟩
    go_wp2_with fail
    refine (B8.out _).mono ?_
    rintro e w' ⟨rfl, rfl⟩
    go_wp2
    exact bodyPost_ret (v := .bool false) (by simp [results, Try.results31, go_sem]) rfl ⟨false, rfl, (fun h => by cases h), HK.out⟩
  have B8 := Lib.hid (HBT pw (1) 16384 true (decide_eq_true c8))
  by_cases c9 : 1 ≤ ph ∧ ph ≤ 16384
  rotate_left
  · have B9 := Lib.hid (HBT ph (1) 16384 false (decide_eq_false c9))
    clear c0 c1 c2 c3 c4 c5 c6 c7 c8 c9
    clear HBT
    go_enter Try.func31, Try.ntmps31
    go_wp2_with fail
    refine (B1.out _).mono ?_
    rintro e w' ⟨rfl, rfl⟩
    go_wp2_with fail
    refine (B2.out _).mono ?_
    rintro e w' ⟨rfl, rfl⟩
    go_wp2_with fail
    refine (B3.out _).mono ?_
    rintro e w' ⟨rfl, rfl⟩
    go_wp2_with fail
    refine (B4.out _).mono ?_
    rintro e w' ⟨rfl, rfl⟩
    go_wp2_with fail
    refine (B5.out _).mono ?_
    rintro e w' ⟨rfl, rfl⟩
    go_wp2_with fail
    refine (B8.out _).mono ?_
    rintro e w' ⟨rfl, rfl⟩
    go_wp2_with fail
    refine (B9.out _).mono ?_
    rintro e w' ⟨rfl, rfl⟩
    go_wp2
    exact bodyPost_ret (v := .bool false) (by simp [results, Try.results31, go_sem]) rfl ⟨false, rfl, (fun h => by cases h), HK.out⟩
  have B9 := Lib.hid (HBT ph (1) 16384 true (decide_eq_true c9))
  by_cases c10 : 0 ≤ pdx ∧ pdx ≤ 64
  rotate_left
  · have B10 := Lib.hid (HBT pdx (0) 64 false (decide_eq_false c10))
    clear c0 c1 c2 c3 c4 c5 c6 c7 c8 c9 c10
    clear HBT
    go_enter Try.func31, Try.ntmps31
    go_wp2_with fail
    refine (B1.out _).mono ?_
    rintro e w' ⟨rfl, rfl⟩
    go_wp2_with fail
    refine (B2.out _).mono ?_
    rintro e w' ⟨rfl, rfl⟩
    go_wp2_with fail
    refine (B3.out _).mono ?_
    rintro e w' ⟨rfl, rfl⟩
    go_wp2_with fail
    refine (B4.out _).mono ?_
    rintro e w' ⟨rfl, rfl⟩
    go_wp2_with fail
    refine (B5.out _).mono ?_
    rintro e w' ⟨rfl, rfl⟩
    go_wp2_with fail
    refine (B8.out _).mono ?_
    rintro e w' ⟨rfl, rfl⟩
    go_wp2_with fail
    refine (B9.out _).mono ?_
    rintro e w' ⟨rfl, rfl⟩
    go_wp2_with fail
    refine (B10.out _).mono ?_
    rintro e w' ⟨rfl, rfl⟩
    go_wp2
    exact bodyPost_ret (v := .bool false) (by simp [results, Try.results31, go_sem]) rfl ⟨false, rfl, (fun h => by cases h), HK.out⟩
  have B10 := Lib.hid (HBT pdx (0) 64 true (decide_eq_true c10))
  by_cases c11 : 0 ≤ pdy ∧ pdy ≤ 64
  rotate_left
  · have B11 := Lib.hid (HBT pdy (0) 64 false (decide_eq_false c11))
    clear c0 c1 c2 c3 c4 c5 c6 c7 c8 c9 c10 c11
    clear HBT
    go_enter Try.func31, Try.ntmps31
    go_wp2_with fail
    refine (B1.out _).mono ?_
    rintro e w' ⟨rfl, rfl⟩
    go_wp2_with fail
    refine (B2.out _).mono ?_
    rintro e w' ⟨rfl, rfl⟩
    go_wp2_with fail
    refine (B3.out _).mono ?_
    rintro e w' ⟨rfl, rfl⟩
    go_wp2_with fail
    refine (B4.out _).mono ?_
    rintro e w' ⟨rfl, rfl⟩
    go_wp2_with fail
    refine (B5.out _).mono ?_
    rintro e w' ⟨rfl, rfl⟩
    go_wp2_with fail
    refine (B8.out _).mono ?_
    rintro e w' ⟨rfl, rfl⟩
    go_wp2_with fail
    refine (B9.out _).mono ?_
    rintro e w' ⟨rfl, rfl⟩
    go_wp2_with fail
    refine (B10.out _).mono ?_
    rintro e w' ⟨rfl, rfl⟩
    go_wp2_with fail
    refine (B11.out _).mono ?_
    rintro e w' ⟨rfl, rfl⟩
    go_wp2
    exact bodyPost_ret (v := .bool false) (by simp [results, Try.results31, go_sem]) rfl ⟨false, rfl, (fun h => by cases h), HK.out⟩
  have B11 := Lib.hid (HBT pdy (0) 64 true (decide_eq_true c11))
  by_cases c12 : -1073741824 ≤ pz ∧ pz ≤ 1073741824
  rotate_left
  · have B12 := Lib.hid (HBT pz (-1073741824) 1073741824 false (decide_eq_false c12))
    clear c0 c1 c2 c3 c4 c5 c6 c7 c8 c9 c10 c11 c12
    clear HBT
    go_enter Try.func31, Try.ntmps31
    go_wp2_with fail
    refine (B1.out _).mono ?_
    rintro e w' ⟨rfl, rfl⟩
    go_wp2_with fail
    refine (B2.out _).mono ?_
    rintro e w' ⟨rfl, rfl⟩
    go_wp2_with fail
    refine (B3.out _).mono ?_
    rintro e w' ⟨rfl, rfl⟩
    go_wp2_with fail
    refine (B4.out _).mono ?_
    rintro e w' ⟨rfl, rfl⟩
    go_wp2_with fail
    refine (B5.out _).mono ?_
    rintro e w' ⟨rfl, rfl⟩
    go_wp2_with fail
    refine (B8.out _).mono ?_
    rintro e w' ⟨rfl, rfl⟩
    go_wp2_with fail
    refine (B9.out _).mono ?_
    rintro e w' ⟨rfl, rfl⟩
    go_wp2_with fail
    refine (B10.out _).mono ?_
    rintro e w' ⟨rfl, rfl⟩
    go_wp2_with fail
    refine (B11.out _).mono ?_
    rintro e w' ⟨rfl, rfl⟩
    go_wp2_with fail
    refine (B12.out _).mono ?_
    rintro e w' ⟨rfl, rfl⟩
    go_wp2
    exact bodyPost_ret (v := .bool false) (by simp [results, Try.results31, go_sem]) rfl ⟨false, rfl, (fun h => by cases h), HK.out⟩
  have B12 := Lib.hid (HBT pz (-1073741824) 1073741824 true (decide_eq_true c12))
  have HM := Lib.hid (show MayP ⟨pim, pid, palt, pline, pcol, prows, pcols, px, py, pw, ph, pdx, pdy, pz⟩ from ⟨c0, c1, c2, c3, c4, c5, c6, c7, c8, c9, c10, c11, c12⟩)
  clear c0 c1 c2 c3 c4 c5 c6 c7 c8 c9 c10 c11 c12
  clear HBT
  go_enter Try.func31, Try.ntmps31
  go_wp2_with fail
  refine (B1.out _).mono ?_
  rintro e w' ⟨rfl, rfl⟩
  go_wp2_with fail
  refine (B2.out _).mono ?_
  rintro e w' ⟨rfl, rfl⟩
  go_wp2_with fail
  refine (B3.out _).mono ?_
  rintro e w' ⟨rfl, rfl⟩
  go_wp2_with fail
  refine (B4.out _).mono ?_
  rintro e w' ⟨rfl, rfl⟩
  go_wp2_with fail
  refine (B5.out _).mono ?_
  rintro e w' ⟨rfl, rfl⟩
  go_wp2_with fail
  refine (B8.out _).mono ?_
  rintro e w' ⟨rfl, rfl⟩
  go_wp2_with fail
  refine (B9.out _).mono ?_
  rintro e w' ⟨rfl, rfl⟩
  go_wp2_with fail
  refine (B10.out _).mono ?_
  rintro e w' ⟨rfl, rfl⟩
  go_wp2_with fail
  refine (B11.out _).mono ?_
  rintro e w' ⟨rfl, rfl⟩
  go_wp2_with fail
  refine (B12.out _).mono ?_
  rintro e w' ⟨rfl, rfl⟩
  go_wp2
  exact bodyPost_ret (v := .bool true) (by simp [results, Try.results31, go_sem]) rfl ⟨true, rfl, fun _ => HM.out, HK.out⟩
end Go.Proofs.Ytdjgmhbfohbenaa
