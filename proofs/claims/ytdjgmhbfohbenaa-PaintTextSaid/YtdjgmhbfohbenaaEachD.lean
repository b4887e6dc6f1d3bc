/- All cells of a scene, gone over by a closure. -/
import Derived.Test.YtdjgmhbfohbenaaScD
namespace Go.Proofs.Ytdjgmhbfohbenaa
open Go.RowKit Go.Sort Pl
set_option linter.unusedVariables false
set_option linter.unusedSimpArgs false
/-- Columns 0 .. of a row; rows 0 .. . -/
def rowF (step : Nat → Nat → List Int → List Int) (row : Nat) : Nat → List Int → List Int
  | 0, P => P
  | k + 1, P => step row k (rowF step row k P)
def eachF (step : Nat → Nat → List Int → List Int) (cols : Nat) : Nat → List Int → List Int
  | 0, P => P
  | k + 1, P => rowF step k cols (eachF step cols k P)
/-- A closure that takes a cell: what it does to memory that holds P. -/
def Does (N : Nat) (c0 c1 : Value) (S : Nat → Prop) (I : List Int → World → Prop) (ls : List (List Cl)) (rows cols : Nat) (step : Nat → Nat → List Int → List Int) : Prop :=
  ∀ (row col : Nat) (P : List Int) (w : World), row < rows → col < cols → I P w →
    Calls Try.prog N #[.int .i64 row, .int .i64 col, (cellS ls row col).val, c0, c1] w fun e w' => e = .returned (.tuple #[]) ∧ I (step row col P) w' ∧ Kept S w w'
set_option maxRecDepth 100000 in
set_option maxHeartbeats 8000000 in
theorem each107_any (B : Nat) (s : Sc) (ls : List (List Cl)) (c0 c1 : Value) (S : Nat → Prop) (I : List Int → World → Prop) (step : Nat → Nat → List Int → List Int) (P : List Int) (wd : World)
    (hl : LinesAt B wd s.la s.ln ls) (hlen : s.ln ≤ 9223372036854775807) (hr : s.rows ≤ 1000000) (hc : s.cols ≤ 1000000) (hI : I P wd) (hIk : ∀ P w w', I P w → Kept (fun _ => False) w w' → I P w') (hS : ∀ i, S i → B ≤ i ∧ i < wd.heap.size)
    (hdo : Does 107 c0 c1 S I ls s.rows s.cols step) :
    Calls Try.prog 98 #[s.val, .func (.func 107) #[] #[c0, c1]] wd fun e w' => e = .returned (.tuple #[]) ∧ I (eachF step s.cols s.rows P) w' ∧ Kept S wd w' := by
  have HCELL := Lib.hid (fun (row col : Nat) (w : World) (hL : LinesAt B w s.la s.ln ls) (hr : row ≤ 1000000) (hc : col ≤ 1000000) => show Calls Try.prog 108 #[.agg s.cs, .int .i64 row, .int .i64 col] w fun e w' => e = .returned (cellS ls row col).val ∧ Kept (fun _ => False) w w' from cell_any B s ls row col w hL hlen hr hc)
  obtain ⟨rows, cols, cw, ch, la, ln, lc, pa, pn, pc, im, top, cur, srow, scol⟩ := s
  unfold Sc.val
  unfold Sc.cs at HCELL
  simp only at hl hlen hr hc hdo ⊢
  obtain ⟨V, hV⟩ : ∃ V, wd.alloc (.cells #[.int .i64 rows, .int .i64 cols, .int .i64 cw, .int .i64 ch, .slice la ln lc, .slice pa pn pc, .map im, .int .i64 top, .bool cur, .int .i64 srow, .int .i64 scol] 26) = V := ⟨_, rfl⟩
  have kV : Kept (fun _ => False) wd V := by rw [← hV]; exact (Kept.refl _ _).alloc _
  have b0 : V.heap[wd.heap.size]? = some (.cells #[.int .i64 rows, .int .i64 cols, .int .i64 cw, .int .i64 ch, .slice la ln lc, .slice pa pn pc, .map im, .int .i64 top, .bool cur, .int .i64 srow, .int .i64 scol] 26 (0, 0)) := by rw [← hV]; exact blk_new _ _
  obtain ⟨J, hJ⟩ : ∃ J : List Int → World → Prop, J = fun P w => I P w ∧ Kept S wd w ∧ w.heap[wd.heap.size]? = some (.cells #[.int .i64 rows, .int .i64 cols, .int .i64 cw, .int .i64 ch, .slice la ln lc, .slice pa pn pc, .map im, .int .i64 top, .bool cur, .int .i64 srow, .int .i64 scol] 26 (0, 0)) ∧ LinesAt B w la ln ls := ⟨_, rfl⟩
  have HJ0 := Lib.hid (show J P V by rw [hJ]; exact ⟨hIk _ _ _ hI kV, kV.mono (fun _ _ h => h.elim), b0, hl.kept kV (fun _ h => h.elim)⟩)
  have HJK := Lib.hid (show ∀ P w w', J P w → Kept (fun _ => False) w w' → J P w' by
    rw [hJ]
    intro P w w' ⟨h1, h2, h3, h4⟩ hk
    exact ⟨hIk _ _ _ h1 hk, h2.then (hk.mono fun _ _ h => h.elim), hk.blk h3 id, h4.kept hk (fun _ h => h.elim)⟩)
  have HJS := Lib.hid (show ∀ P P' w w', J P w → I P' w' → Kept S w w' → J P' w' by
    rw [hJ]
    intro P P' w w' ⟨h1, h2, h3, h4⟩ hi hk
    exact ⟨hi, h2.then hk, hk.blk h3 (fun hs => Nat.lt_irrefl _ (hS _ hs).2), h4.kept hk (fun i h => (hS i h).1)⟩)
  have HJB := Lib.hid (show ∀ P w, J P w → w.heap[wd.heap.size]? = some (.cells #[.int .i64 rows, .int .i64 cols, .int .i64 cw, .int .i64 ch, .slice la ln lc, .slice pa pn pc, .map im, .int .i64 top, .bool cur, .int .i64 srow, .int .i64 scol] 26 (0, 0)) by rw [hJ]; intro P w h; exact h.2.2.1)
  have HJL := Lib.hid (show ∀ P w, J P w → LinesAt B w la ln ls by rw [hJ]; intro P w h; exact h.2.2.2)
  have HJE := Lib.hid (show ∀ P w, J P w → I P w ∧ Kept S wd w by rw [hJ]; intro P w h; exact ⟨h.1, h.2.1⟩)
  have HDO := Lib.hid (show ∀ (row col : Nat) (P : List Int) (w : World), row < rows → col < cols → I P w →
    Calls Try.prog 107 #[.int .i64 row, .int .i64 col, (cellS ls row col).val, c0, c1] w fun e w' => e = .returned (.tuple #[]) ∧ I (step row col P) w' ∧ Kept S w w' from hdo)
  obtain ⟨x0, x1, -⟩ := blk11 b0
  clear hl hlen hI hIk hS hdo hJ kV b0
  go_enter Try.func98, Try.ntmps98
  go_wp2
  clear x0 x1
  go_loopg [4, 5, 8, 13] rows (fun gg _ _ iv _ wr => ∃ k : Nat, rows ≤ gg + k ∧ k ≤ rows ∧ iv = .int .i64 (k : Int) ∧ J (eachF step cols k P) wr)
  case atStart => exact ⟨0, by omega, by omega, rfl, HJ0.out⟩
  case round =>
    obtain ⟨k, hgg, hk, rfl, hj⟩ := hrel
    by_cases hk1 : k < rows
    · have g1 : decide (k < rows) = true := decide_eq_true hk1
      have g1' : decide ((k : Int) < (rows : Int)) = true := decide_eq_true (by omega)
      have wk : IntKind.i64.wrap ((k : Int) + 1) = (k : Int) + 1 := IntWalk.i64_in _ (by omega)
      have HJ := Lib.hid hj
      obtain ⟨x0, x1, -⟩ := blk11 (HJB.out _ _ hj)
      obtain ⟨gko, hgo⟩ : ∃ x, x = gk := ⟨_, rfl⟩
      subst hgo
      clear hj
      go_wp2
      clear x0 x1
      go_loopg [5, 13] cols (fun gg _ iv wr => ∃ c : Nat, cols ≤ gg + c ∧ c ≤ cols ∧ iv = .int .i64 (c : Int) ∧ J (rowF step k c (eachF step cols k P)) wr)
      case atStart => exact ⟨0, by omega, by omega, rfl, HJ.out⟩
      case round =>
        obtain ⟨c, hgc, hc', rfl, hj⟩ := hrel
        by_cases hc1 : c < cols
        · have g2 : decide (c < cols) = true := decide_eq_true hc1
          have g2' : decide ((c : Int) < (cols : Int)) = true := decide_eq_true (by omega)
          have wc : IntKind.i64.wrap ((c : Int) + 1) = (c : Int) + 1 := IntWalk.i64_in _ (by omega)
          obtain ⟨x0, x1, x2, x3, x4, x5, x6, x7, x8, x9, x10⟩ := blk11 (HJB.out _ _ hj)
          have HCALL := Lib.hid (HCELL.out k c wr (HJL.out _ _ hj) (by omega) (by omega))
          have HJ2 := Lib.hid hj
          clear hj
          go_wp2_with fail
          refine HCALL.out.mono ?_
          rintro e w2 ⟨rfl, hk2⟩
          have hj2 := HJK.out _ _ _ HJ2.out hk2
          have HD := Lib.hid (HDO.out k c _ w2 hk1 hc1 (HJE.out _ _ hj2).1)
          have HJ3 := Lib.hid hj2
          obtain ⟨CL, hCL⟩ : ∃ v, (cellS ls k c).val = v := ⟨_, rfl⟩
          rw [hCL] at HD
          rw [hCL]
          clear hk2 hj2 hCL x0 x1 x2 x3 x4 x5 x6 x7 x8 x9 x10
          go_wp2_with fail
          refine HD.out.mono ?_
          rintro e w3 ⟨rfl, hi3, hk3⟩
          have HJ4 := Lib.hid (HJS.out _ _ _ _ HJ3.out hi3 hk3)
          clear hi3 hk3
          go_wp2
          go_roundg (gk - 1)
          case rel => exact ⟨c + 1, by omega, by omega, by go_num, HJ4.out⟩
          case measure => omega
        · obtain rfl : c = cols := by omega
          have g2 : decide (c < c) = false := decide_eq_false (by omega)
          have HJ4 := Lib.hid hj
          clear hj
          go_wp2
          go_roundg (gko - 1)
          case rel => exact ⟨k + 1, by omega, by omega, by go_num, HJ4.out⟩
          case measure => omega
    · obtain rfl : k = rows := by omega
      have g1 : decide (k < k) = false := decide_eq_false (by omega)
      have HE := Lib.hid (HJE.out _ _ hj)
      clear hj
      go_wp2
      go_end0
      exact ⟨rfl, HE.out⟩
set_option maxRecDepth 100000 in
set_option maxHeartbeats 8000000 in
theorem each112_any (B : Nat) (s : Sc) (ls : List (List Cl)) (c0 c1 : Value) (S : Nat → Prop) (I : List Int → World → Prop) (step : Nat → Nat → List Int → List Int) (P : List Int) (wd : World)
    (hl : LinesAt B wd s.la s.ln ls) (hlen : s.ln ≤ 9223372036854775807) (hr : s.rows ≤ 1000000) (hc : s.cols ≤ 1000000) (hI : I P wd) (hIk : ∀ P w w', I P w → Kept (fun _ => False) w w' → I P w') (hS : ∀ i, S i → B ≤ i ∧ i < wd.heap.size)
    (hdo : Does 112 c0 c1 S I ls s.rows s.cols step) :
    Calls Try.prog 98 #[s.val, .func (.func 112) #[] #[c0, c1]] wd fun e w' => e = .returned (.tuple #[]) ∧ I (eachF step s.cols s.rows P) w' ∧ Kept S wd w' := by
  have HCELL := Lib.hid (fun (row col : Nat) (w : World) (hL : LinesAt B w s.la s.ln ls) (hr : row ≤ 1000000) (hc : col ≤ 1000000) => show Calls Try.prog 108 #[.agg s.cs, .int .i64 row, .int .i64 col] w fun e w' => e = .returned (cellS ls row col).val ∧ Kept (fun _ => False) w w' from cell_any B s ls row col w hL hlen hr hc)
  obtain ⟨rows, cols, cw, ch, la, ln, lc, pa, pn, pc, im, top, cur, srow, scol⟩ := s
  unfold Sc.val
  unfold Sc.cs at HCELL
  simp only at hl hlen hr hc hdo ⊢
  obtain ⟨V, hV⟩ : ∃ V, wd.alloc (.cells #[.int .i64 rows, .int .i64 cols, .int .i64 cw, .int .i64 ch, .slice la ln lc, .slice pa pn pc, .map im, .int .i64 top, .bool cur, .int .i64 srow, .int .i64 scol] 26) = V := ⟨_, rfl⟩
  have kV : Kept (fun _ => False) wd V := by rw [← hV]; exact (Kept.refl _ _).alloc _
  have b0 : V.heap[wd.heap.size]? = some (.cells #[.int .i64 rows, .int .i64 cols, .int .i64 cw, .int .i64 ch, .slice la ln lc, .slice pa pn pc, .map im, .int .i64 top, .bool cur, .int .i64 srow, .int .i64 scol] 26 (0, 0)) := by rw [← hV]; exact blk_new _ _
  obtain ⟨J, hJ⟩ : ∃ J : List Int → World → Prop, J = fun P w => I P w ∧ Kept S wd w ∧ w.heap[wd.heap.size]? = some (.cells #[.int .i64 rows, .int .i64 cols, .int .i64 cw, .int .i64 ch, .slice la ln lc, .slice pa pn pc, .map im, .int .i64 top, .bool cur, .int .i64 srow, .int .i64 scol] 26 (0, 0)) ∧ LinesAt B w la ln ls := ⟨_, rfl⟩
  have HJ0 := Lib.hid (show J P V by rw [hJ]; exact ⟨hIk _ _ _ hI kV, kV.mono (fun _ _ h => h.elim), b0, hl.kept kV (fun _ h => h.elim)⟩)
  have HJK := Lib.hid (show ∀ P w w', J P w → Kept (fun _ => False) w w' → J P w' by
    rw [hJ]
    intro P w w' ⟨h1, h2, h3, h4⟩ hk
    exact ⟨hIk _ _ _ h1 hk, h2.then (hk.mono fun _ _ h => h.elim), hk.blk h3 id, h4.kept hk (fun _ h => h.elim)⟩)
  have HJS := Lib.hid (show ∀ P P' w w', J P w → I P' w' → Kept S w w' → J P' w' by
    rw [hJ]
    intro P P' w w' ⟨h1, h2, h3, h4⟩ hi hk
    exact ⟨hi, h2.then hk, hk.blk h3 (fun hs => Nat.lt_irrefl _ (hS _ hs).2), h4.kept hk (fun i h => (hS i h).1)⟩)
  have HJB := Lib.hid (show ∀ P w, J P w → w.heap[wd.heap.size]? = some (.cells #[.int .i64 rows, .int .i64 cols, .int .i64 cw, .int .i64 ch, .slice la ln lc, .slice pa pn pc, .map im, .int .i64 top, .bool cur, .int .i64 srow, .int .i64 scol] 26 (0, 0)) by rw [hJ]; intro P w h; exact h.2.2.1)
  have HJL := Lib.hid (show ∀ P w, J P w → LinesAt B w la ln ls by rw [hJ]; intro P w h; exact h.2.2.2)
  have HJE := Lib.hid (show ∀ P w, J P w → I P w ∧ Kept S wd w by rw [hJ]; intro P w h; exact ⟨h.1, h.2.1⟩)
  have HDO := Lib.hid (show ∀ (row col : Nat) (P : List Int) (w : World), row < rows → col < cols → I P w →
    Calls Try.prog 112 #[.int .i64 row, .int .i64 col, (cellS ls row col).val, c0, c1] w fun e w' => e = .returned (.tuple #[]) ∧ I (step row col P) w' ∧ Kept S w w' from hdo)
  obtain ⟨x0, x1, -⟩ := blk11 b0
  clear hl hlen hI hIk hS hdo hJ kV b0
  go_enter Try.func98, Try.ntmps98
  go_wp2
  clear x0 x1
  go_loopg [4, 5, 8, 13] rows (fun gg _ _ iv _ wr => ∃ k : Nat, rows ≤ gg + k ∧ k ≤ rows ∧ iv = .int .i64 (k : Int) ∧ J (eachF step cols k P) wr)
  case atStart => exact ⟨0, by omega, by omega, rfl, HJ0.out⟩
  case round =>
    obtain ⟨k, hgg, hk, rfl, hj⟩ := hrel
    by_cases hk1 : k < rows
    · have g1 : decide (k < rows) = true := decide_eq_true hk1
      have g1' : decide ((k : Int) < (rows : Int)) = true := decide_eq_true (by omega)
      have wk : IntKind.i64.wrap ((k : Int) + 1) = (k : Int) + 1 := IntWalk.i64_in _ (by omega)
      have HJ := Lib.hid hj
      obtain ⟨x0, x1, -⟩ := blk11 (HJB.out _ _ hj)
      obtain ⟨gko, hgo⟩ : ∃ x, x = gk := ⟨_, rfl⟩
      subst hgo
      clear hj
      go_wp2
      clear x0 x1
      go_loopg [5, 13] cols (fun gg _ iv wr => ∃ c : Nat, cols ≤ gg + c ∧ c ≤ cols ∧ iv = .int .i64 (c : Int) ∧ J (rowF step k c (eachF step cols k P)) wr)
      case atStart => exact ⟨0, by omega, by omega, rfl, HJ.out⟩
      case round =>
        obtain ⟨c, hgc, hc', rfl, hj⟩ := hrel
        by_cases hc1 : c < cols
        · have g2 : decide (c < cols) = true := decide_eq_true hc1
          have g2' : decide ((c : Int) < (cols : Int)) = true := decide_eq_true (by omega)
          have wc : IntKind.i64.wrap ((c : Int) + 1) = (c : Int) + 1 := IntWalk.i64_in _ (by omega)
          obtain ⟨x0, x1, x2, x3, x4, x5, x6, x7, x8, x9, x10⟩ := blk11 (HJB.out _ _ hj)
          have HCALL := Lib.hid (HCELL.out k c wr (HJL.out _ _ hj) (by omega) (by omega))
          have HJ2 := Lib.hid hj
          clear hj
          go_wp2_with fail
          refine HCALL.out.mono ?_
          rintro e w2 ⟨rfl, hk2⟩
          have hj2 := HJK.out _ _ _ HJ2.out hk2
          have HD := Lib.hid (HDO.out k c _ w2 hk1 hc1 (HJE.out _ _ hj2).1)
          have HJ3 := Lib.hid hj2
          obtain ⟨CL, hCL⟩ : ∃ v, (cellS ls k c).val = v := ⟨_, rfl⟩
          rw [hCL] at HD
          rw [hCL]
          clear hk2 hj2 hCL x0 x1 x2 x3 x4 x5 x6 x7 x8 x9 x10
          go_wp2_with fail
          refine HD.out.mono ?_
          rintro e w3 ⟨rfl, hi3, hk3⟩
          have HJ4 := Lib.hid (HJS.out _ _ _ _ HJ3.out hi3 hk3)
          clear hi3 hk3
          go_wp2
          go_roundg (gk - 1)
          case rel => exact ⟨c + 1, by omega, by omega, by go_num, HJ4.out⟩
          case measure => omega
        · obtain rfl : c = cols := by omega
          have g2 : decide (c < c) = false := decide_eq_false (by omega)
          have HJ4 := Lib.hid hj
          clear hj
          go_wp2
          go_roundg (gko - 1)
          case rel => exact ⟨k + 1, by omega, by omega, by go_num, HJ4.out⟩
          case measure => omega
    · obtain rfl : k = rows := by omega
      have g1 : decide (k < k) = false := decide_eq_false (by omega)
      have HE := Lib.hid (HJE.out _ _ hj)
      clear hj
      go_wp2
      go_end0
      exact ⟨rfl, HE.out⟩
end Go.Proofs.Ytdjgmhbfohbenaa
