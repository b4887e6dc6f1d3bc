/- The law PaintImages: what ends at once, part 2. -/
import Derived.Test.YtdjgmhbfohbenaaMDrw
namespace Go.Proofs.Ytdjgmhbfohbenaa
open Go.RowKit Go.Sort Pl
set_option linter.unusedVariables false
set_option linter.unusedSimpArgs false
set_option maxRecDepth 100000 in
set_option maxHeartbeats 8000000 in
theorem img_early2 (rows cols cw ch mx my : Int) (a : Option Addr) (n cap : Nat) (row col fg bg fl z : Int) (W : World) (c0 : ¬ (rows < 1)) (c1 : ¬ (cols < 1)) (c2 : ¬ (10 < rows)) (c3 : ¬ (10 < cols)) (c4 : ¬ (cw < 1)) (c5 : ¬ (ch < 1)) (h : 6 < cw ∨ 6 < ch ∨ row < 0 ∨ rows ≤ row ∨ col < 0 ∨ cols ≤ col) :
    Calls Try.prog 7 #[.int .i64 rows, .int .i64 cols, .int .i64 cw, .int .i64 ch, .agg #[.int .i64 mx, .int .i64 my, .slice a n cap], .int .i64 row, .int .i64 col, .agg #[.int .i64 fg, .int .i64 bg, .int .i64 fl], .int .i64 z] W fun e w' => e = .returned (.bool true) ∧ Below W.heap.size W w' := by
  obtain ⟨V, hV⟩ : ∃ V, (W.alloc (.cells #[.int .i64 mx, .int .i64 my, .slice a n cap] 31)).alloc (.cells #[.int .i64 fg, .int .i64 bg, .int .i64 fl] 54) = V := ⟨_, rfl⟩
  have kV : Kept (fun _ => False) W V := by rw [← hV]; exact ((Kept.refl _ _).alloc _).alloc _
  have b0 : V.heap[W.heap.size]? = some (.cells #[.int .i64 mx, .int .i64 my, .slice a n cap] 31 (0, 0)) := by rw [← hV]; exact blk_alloc (blk_new _ _) _
  have HV := Lib.hid (And.intro kV b0)
  clear kV b0
  have g0 : decide (rows < 1) = false := decide_eq_false c0
  have g1 : decide (cols < 1) = false := decide_eq_false c1
  have g2 : decide (10 < rows) = false := decide_eq_false c2
  have g3 : decide (10 < cols) = false := decide_eq_false c3
  have g4 : decide (cw < 1) = false := decide_eq_false c4
  have g5 : decide (ch < 1) = false := decide_eq_false c5
  by_cases c6 : 6 < cw
  · have g6 : decide (6 < cw) = true := decide_eq_true c6
    clear h c0 c1 c2 c3 c4 c5 c6
    go_enter Try.func7, Try.ntmps7
    go_wp2_with fail
    refine (known_any _).mono ?_
    rintro e w1 ⟨rfl, hk1⟩
    obtain ⟨⟨x0, -⟩, ⟨x1, -⟩, x2, -⟩ := blk3 (hk1.blk HV.out.2 id)
    have H1 := Lib.hid (HV.out.1.then hk1)
    clear hk1
    go_wp2
    exact bodyPost_ret (v := .bool true) (by simp [results, Try.results7, go_sem]) rfl ⟨rfl, H1.out.below⟩
  have g6 : decide (6 < cw) = false := decide_eq_false c6
  by_cases c7 : 6 < ch
  · have g7 : decide (6 < ch) = true := decide_eq_true c7
    clear h c0 c1 c2 c3 c4 c5 c6 c7
    go_enter Try.func7, Try.ntmps7
    go_wp2_with fail
    refine (known_any _).mono ?_
    rintro e w1 ⟨rfl, hk1⟩
    obtain ⟨⟨x0, -⟩, ⟨x1, -⟩, x2, -⟩ := blk3 (hk1.blk HV.out.2 id)
    have H1 := Lib.hid (HV.out.1.then hk1)
    clear hk1
    go_wp2
    exact bodyPost_ret (v := .bool true) (by simp [results, Try.results7, go_sem]) rfl ⟨rfl, H1.out.below⟩
  have g7 : decide (6 < ch) = false := decide_eq_false c7
  by_cases c8 : row < 0
  · have g8 : decide (row < 0) = true := decide_eq_true c8
    clear h c0 c1 c2 c3 c4 c5 c6 c7 c8
    go_enter Try.func7, Try.ntmps7
    go_wp2_with fail
    refine (known_any _).mono ?_
    rintro e w1 ⟨rfl, hk1⟩
    obtain ⟨⟨x0, -⟩, ⟨x1, -⟩, x2, -⟩ := blk3 (hk1.blk HV.out.2 id)
    have H1 := Lib.hid (HV.out.1.then hk1)
    clear hk1
    go_wp2
    exact bodyPost_ret (v := .bool true) (by simp [results, Try.results7, go_sem]) rfl ⟨rfl, H1.out.below⟩
  have g8 : decide (row < 0) = false := decide_eq_false c8
  by_cases c9 : rows ≤ row
  · have g9 : decide (rows ≤ row) = true := decide_eq_true c9
    clear h c0 c1 c2 c3 c4 c5 c6 c7 c8 c9
    go_enter Try.func7, Try.ntmps7
    go_wp2_with fail
    refine (known_any _).mono ?_
    rintro e w1 ⟨rfl, hk1⟩
    obtain ⟨⟨x0, -⟩, ⟨x1, -⟩, x2, -⟩ := blk3 (hk1.blk HV.out.2 id)
    have H1 := Lib.hid (HV.out.1.then hk1)
    clear hk1
    go_wp2
    exact bodyPost_ret (v := .bool true) (by simp [results, Try.results7, go_sem]) rfl ⟨rfl, H1.out.below⟩
  have g9 : decide (rows ≤ row) = false := decide_eq_false c9
  by_cases c10 : col < 0
  · have g10 : decide (col < 0) = true := decide_eq_true c10
    clear h c0 c1 c2 c3 c4 c5 c6 c7 c8 c9 c10
    go_enter Try.func7, Try.ntmps7
    go_wp2_with fail
    refine (known_any _).mono ?_
    rintro e w1 ⟨rfl, hk1⟩
    obtain ⟨⟨x0, -⟩, ⟨x1, -⟩, x2, -⟩ := blk3 (hk1.blk HV.out.2 id)
    have H1 := Lib.hid (HV.out.1.then hk1)
    clear hk1
    go_wp2
    exact bodyPost_ret (v := .bool true) (by simp [results, Try.results7, go_sem]) rfl ⟨rfl, H1.out.below⟩
  have g10 : decide (col < 0) = false := decide_eq_false c10
  have c11 : cols ≤ col := by omega
  have g11 : decide (cols ≤ col) = true := decide_eq_true c11
  clear h c0 c1 c2 c3 c4 c5 c6 c7 c8 c9 c10 c11
  go_enter Try.func7, Try.ntmps7
  go_wp2_with fail
  refine (known_any _).mono ?_
  rintro e w1 ⟨rfl, hk1⟩
  obtain ⟨⟨x0, -⟩, ⟨x1, -⟩, x2, -⟩ := blk3 (hk1.blk HV.out.2 id)
  have H1 := Lib.hid (HV.out.1.then hk1)
  clear hk1
  go_wp2
  exact bodyPost_ret (v := .bool true) (by simp [results, Try.results7, go_sem]) rfl ⟨rfl, H1.out.below⟩
end Go.Proofs.Ytdjgmhbfohbenaa
