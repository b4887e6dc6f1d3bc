/- The law PaintImages: what ends at once, part 1. -/
import Derived.Test.YtdjgmhbfohbenaaMDrw
namespace Go.Proofs.Ytdjgmhbfohbenaa
open Go.RowKit Go.Sort Pl
set_option linter.unusedVariables false
set_option linter.unusedSimpArgs false
set_option maxRecDepth 100000 in
set_option maxHeartbeats 8000000 in
theorem img_early1 (rows cols cw ch mx my : Int) (a : Option Addr) (n cap : Nat) (row col fg bg fl z : Int) (W : World) (h : rows < 1 ∨ cols < 1 ∨ 10 < rows ∨ 10 < cols ∨ cw < 1 ∨ ch < 1) :
    Calls Try.prog 7 #[.int .i64 rows, .int .i64 cols, .int .i64 cw, .int .i64 ch, .agg #[.int .i64 mx, .int .i64 my, .slice a n cap], .int .i64 row, .int .i64 col, .agg #[.int .i64 fg, .int .i64 bg, .int .i64 fl], .int .i64 z] W fun e w' => e = .returned (.bool true) ∧ Below W.heap.size W w' := by
  obtain ⟨V, hV⟩ : ∃ V, (W.alloc (.cells #[.int .i64 mx, .int .i64 my, .slice a n cap] 31)).alloc (.cells #[.int .i64 fg, .int .i64 bg, .int .i64 fl] 54) = V := ⟨_, rfl⟩
  have kV : Kept (fun _ => False) W V := by rw [← hV]; exact ((Kept.refl _ _).alloc _).alloc _
  have b0 : V.heap[W.heap.size]? = some (.cells #[.int .i64 mx, .int .i64 my, .slice a n cap] 31 (0, 0)) := by rw [← hV]; exact blk_alloc (blk_new _ _) _
  have HV := Lib.hid (And.intro kV b0)
  clear kV b0
  by_cases c0 : rows < 1
  · have g0 : decide (rows < 1) = true := decide_eq_true c0
    clear h c0
    go_enter Try.func7, Try.ntmps7
    go_wp2_with fail
    refine (known_any _).mono ?_
    rintro e w1 ⟨rfl, hk1⟩
    obtain ⟨⟨x0, -⟩, ⟨x1, -⟩, x2, -⟩ := blk3 (hk1.blk HV.out.2 id)
    have H1 := Lib.hid (HV.out.1.then hk1)
    clear hk1
    go_wp2
    exact bodyPost_ret (v := .bool true) (by simp [results, Try.results7, go_sem]) rfl ⟨rfl, H1.out.below⟩
  have g0 : decide (rows < 1) = false := decide_eq_false c0
  by_cases c1 : cols < 1
  · have g1 : decide (cols < 1) = true := decide_eq_true c1
    clear h c0 c1
    go_enter Try.func7, Try.ntmps7
    go_wp2_with fail
    refine (known_any _).mono ?_
    rintro e w1 ⟨rfl, hk1⟩
    obtain ⟨⟨x0, -⟩, ⟨x1, -⟩, x2, -⟩ := blk3 (hk1.blk HV.out.2 id)
    have H1 := Lib.hid (HV.out.1.then hk1)
    clear hk1
    go_wp2
    exact bodyPost_ret (v := .bool true) (by simp [results, Try.results7, go_sem]) rfl ⟨rfl, H1.out.below⟩
  have g1 : decide (cols < 1) = false := decide_eq_false c1
  by_cases c2 : 10 < rows
  · have g2 : decide (10 < rows) = true := decide_eq_true c2
    clear h c0 c1 c2
    go_enter Try.func7, Try.ntmps7
    go_wp2_with fail
    refine (known_any _).mono ?_
    rintro e w1 ⟨rfl, hk1⟩
    obtain ⟨⟨x0, -⟩, ⟨x1, -⟩, x2, -⟩ := blk3 (hk1.blk HV.out.2 id)
    have H1 := Lib.hid (HV.out.1.then hk1)
    clear hk1
    go_wp2
    exact bodyPost_ret (v := .bool true) (by simp [results, Try.results7, go_sem]) rfl ⟨rfl, H1.out.below⟩
  have g2 : decide (10 < rows) = false := decide_eq_false c2
  by_cases c3 : 10 < cols
  · have g3 : decide (10 < cols) = true := decide_eq_true c3
    clear h c0 c1 c2 c3
    go_enter Try.func7, Try.ntmps7
    go_wp2_with fail
    refine (known_any _).mono ?_
    rintro e w1 ⟨rfl, hk1⟩
    obtain ⟨⟨x0, -⟩, ⟨x1, -⟩, x2, -⟩ := blk3 (hk1.blk HV.out.2 id)
    have H1 := Lib.hid (HV.out.1.then hk1)
    clear hk1
    go_wp2
    exact bodyPost_ret (v := .bool true) (by simp [results, Try.results7, go_sem]) rfl ⟨rfl, H1.out.below⟩
  have g3 : decide (10 < cols) = false := decide_eq_false c3
  by_cases c4 : cw < 1
  · have g4 : decide (cw < 1) = true := decide_eq_true c4
    clear h c0 c1 c2 c3 c4
    go_enter Try.func7, Try.ntmps7
    go_wp2_with fail
    refine (known_any _).mono ?_
    rintro e w1 ⟨rfl, hk1⟩
    obtain ⟨⟨x0, -⟩, ⟨x1, -⟩, x2, -⟩ := blk3 (hk1.blk HV.out.2 id)
    have H1 := Lib.hid (HV.out.1.then hk1)
    clear hk1
    go_wp2
    exact bodyPost_ret (v := .bool true) (by simp [results, Try.results7, go_sem]) rfl ⟨rfl, H1.out.below⟩
  have g4 : decide (cw < 1) = false := decide_eq_false c4
  have c5 : ch < 1 := by omega
  have g5 : decide (ch < 1) = true := decide_eq_true c5
  clear h c0 c1 c2 c3 c4 c5
  go_enter Try.func7, Try.ntmps7
  go_wp2_with fail
  refine (known_any _).mono ?_
  rintro e w1 ⟨rfl, hk1⟩
  obtain ⟨⟨x0, -⟩, ⟨x1, -⟩, x2, -⟩ := blk3 (hk1.blk HV.out.2 id)
  have H1 := Lib.hid (HV.out.1.then hk1)
  clear hk1
  go_wp2
  exact bodyPost_ret (v := .bool true) (by simp [results, Try.results7, go_sem]) rfl ⟨rfl, H1.out.below⟩
end Go.Proofs.Ytdjgmhbfohbenaa
