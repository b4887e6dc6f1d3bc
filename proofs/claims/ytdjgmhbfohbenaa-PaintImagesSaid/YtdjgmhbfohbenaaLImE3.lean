/- The law PaintImages: what ends at once, part 3. -/
import Derived.Test.YtdjgmhbfohbenaaMDrw
namespace Go.Proofs.Ytdjgmhbfohbenaa
open Go.RowKit Go.Sort Pl
set_option linter.unusedVariables false
set_option linter.unusedSimpArgs false
set_option maxRecDepth 100000 in
set_option maxHeartbeats 8000000 in
theorem img_early3 (rows cols cw ch mx my : Int) (a : Option Addr) (n cap : Nat) (row col fg bg fl z : Int) (W : World) (c0 : ¬ (rows < 1)) (c1 : ¬ (cols < 1)) (c2 : ¬ (10 < rows)) (c3 : ¬ (10 < cols)) (c4 : ¬ (cw < 1)) (c5 : ¬ (ch < 1)) (c6 : ¬ (6 < cw)) (c7 : ¬ (6 < ch)) (c8 : ¬ (row < 0)) (c9 : ¬ (rows ≤ row)) (c10 : ¬ (col < 0)) (c11 : ¬ (cols ≤ col)) (h : mx < 1 ∨ my < 1 ∨ 40 < mx ∨ 40 < my ∨ (n : Int) ≠ 4 * mx * my) :
    Calls Try.prog 7 #[.int .i64 rows, .int .i64 cols, .int .i64 cw, .int .i64 ch, .agg #[.int .i64 mx, .int .i64 my, .slice a n cap], .int .i64 row, .int .i64 col, .agg #[.int .i64 fg, .int .i64 bg, .int .i64 fl], .int .i64 z] W fun e w' => e = .returned (.bool true) ∧ Below W.heap.size W w' := by
  obtain ⟨V, hV⟩ : ∃ V, (W.alloc (.cells #[.int .i64 mx, .int .i64 my, .slice a n cap] 31)).alloc (.cells #[.int .i64 fg, .int .i64 bg, .int .i64 fl] 54) = V := ⟨_, rfl⟩
  have kV : Kept (fun _ => False) W V := by rw [← hV]; exact ((Kept.refl _ _).alloc _).alloc _
  have b0 : V.heap[W.heap.size]? = some (.cells #[.int .i64 mx, .int .i64 my, .slice a n cap] 31 (0, 0)) := by rw [← hV]; exact blk_alloc (blk_new _ _) _
  have HV := Lib.hid (And.intro kV b0)
  clear kV b0
  have g0 : decide (rows < 1) = false := decide_eq_false c0
  have g1 : decide (cols < 1) = false := decide_eq_false c1
  have g2 : decide (10 < rows) = false := decide_eq_false c2
  have g3 : decide (10 < cols) = false := decide_eq_false c3
  have g4 : decide (cw < 1) = false := decide_eq_false c4
  have g5 : decide (ch < 1) = false := decide_eq_false c5
  have g6 : decide (6 < cw) = false := decide_eq_false c6
  have g7 : decide (6 < ch) = false := decide_eq_false c7
  have g8 : decide (row < 0) = false := decide_eq_false c8
  have g9 : decide (rows ≤ row) = false := decide_eq_false c9
  have g10 : decide (col < 0) = false := decide_eq_false c10
  have g11 : decide (cols ≤ col) = false := decide_eq_false c11
  by_cases c12 : mx < 1
  · have g12 : decide (mx < 1) = true := decide_eq_true c12
    clear h c0 c1 c2 c3 c4 c5 c6 c7 c8 c9 c10 c11 c12
    go_enter Try.func7, Try.ntmps7
    go_wp2_with fail
    refine (known_any _).mono ?_
    rintro e w1 ⟨rfl, hk1⟩
    obtain ⟨⟨x0, -⟩, ⟨x1, -⟩, x2, -⟩ := blk3 (hk1.blk HV.out.2 id)
    have H1 := Lib.hid (HV.out.1.then hk1)
    clear hk1
    go_wp2
    exact bodyPost_ret (v := .bool true) (by simp [results, Try.results7, go_sem]) rfl ⟨rfl, H1.out.below⟩
  have g12 : decide (mx < 1) = false := decide_eq_false c12
  by_cases c13 : my < 1
  · have g13 : decide (my < 1) = true := decide_eq_true c13
    clear h c0 c1 c2 c3 c4 c5 c6 c7 c8 c9 c10 c11 c12 c13
    go_enter Try.func7, Try.ntmps7
    go_wp2_with fail
    refine (known_any _).mono ?_
    rintro e w1 ⟨rfl, hk1⟩
    obtain ⟨⟨x0, -⟩, ⟨x1, -⟩, x2, -⟩ := blk3 (hk1.blk HV.out.2 id)
    have H1 := Lib.hid (HV.out.1.then hk1)
    clear hk1
    go_wp2
    exact bodyPost_ret (v := .bool true) (by simp [results, Try.results7, go_sem]) rfl ⟨rfl, H1.out.below⟩
  have g13 : decide (my < 1) = false := decide_eq_false c13
  by_cases c14 : 40 < mx
  · have g14 : decide (40 < mx) = true := decide_eq_true c14
    clear h c0 c1 c2 c3 c4 c5 c6 c7 c8 c9 c10 c11 c12 c13 c14
    go_enter Try.func7, Try.ntmps7
    go_wp2_with fail
    refine (known_any _).mono ?_
    rintro e w1 ⟨rfl, hk1⟩
    obtain ⟨⟨x0, -⟩, ⟨x1, -⟩, x2, -⟩ := blk3 (hk1.blk HV.out.2 id)
    have H1 := Lib.hid (HV.out.1.then hk1)
    clear hk1
    go_wp2
    exact bodyPost_ret (v := .bool true) (by simp [results, Try.results7, go_sem]) rfl ⟨rfl, H1.out.below⟩
  have g14 : decide (40 < mx) = false := decide_eq_false c14
  by_cases c15 : 40 < my
  · have g15 : decide (40 < my) = true := decide_eq_true c15
    clear h c0 c1 c2 c3 c4 c5 c6 c7 c8 c9 c10 c11 c12 c13 c14 c15
    go_enter Try.func7, Try.ntmps7
    go_wp2_with fail
    refine (known_any _).mono ?_
    rintro e w1 ⟨rfl, hk1⟩
    obtain ⟨⟨x0, -⟩, ⟨x1, -⟩, x2, -⟩ := blk3 (hk1.blk HV.out.2 id)
    have H1 := Lib.hid (HV.out.1.then hk1)
    clear hk1
    go_wp2
    exact bodyPost_ret (v := .bool true) (by simp [results, Try.results7, go_sem]) rfl ⟨rfl, H1.out.below⟩
  have g15 : decide (40 < my) = false := decide_eq_false c15
  have c16 : (n : Int) ≠ 4 * mx * my := by
    rcases h with h | h | h | h | h
    all_goals first | exact absurd h (by assumption) | exact h
  obtain ⟨M1, hM1⟩ : ∃ x, 4 * mx = x := ⟨_, rfl⟩
  rw [hM1] at c16
  obtain ⟨M2, hM2⟩ : ∃ x, M1 * my = x := ⟨_, rfl⟩
  have q2 : 0 ≤ M1 * my := Int.mul_nonneg (by omega) (by omega)
  have q2' : M1 * my ≤ 160 * 40 := Int.mul_le_mul (by omega) (by omega) (by omega) (by omega)
  rw [hM2] at c16 q2 q2'
  have u1 : IntKind.i64.wrap M1 = M1 := IntWalk.i64_in _ (by omega)
  have u2 : IntKind.i64.wrap M2 = M2 := IntWalk.i64_in _ (by omega)
  have g16 : (((n : Nat) : Int) != M2) = true := by simpa using c16
  clear h c0 c1 c2 c3 c4 c5 c6 c7 c8 c9 c10 c11 c12 c13 c14 c15 c16 q2 q2'
  go_enter Try.func7, Try.ntmps7
  go_wp2_with fail
  refine (known_any _).mono ?_
  rintro e w1 ⟨rfl, hk1⟩
  obtain ⟨⟨x0, -⟩, ⟨x1, -⟩, x2, -⟩ := blk3 (hk1.blk HV.out.2 id)
  have H1 := Lib.hid (HV.out.1.then hk1)
  clear hk1
  go_wp2
  exact bodyPost_ret (v := .bool true) (by simp [results, Try.results7, go_sem]) rfl ⟨rfl, H1.out.below⟩
end Go.Proofs.Ytdjgmhbfohbenaa
