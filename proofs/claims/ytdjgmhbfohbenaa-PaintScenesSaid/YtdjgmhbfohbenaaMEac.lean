/- Several texts in one: EachD, GroD. -/
import Derived.Test.YtdjgmhbfohbenaaMGly
namespace Go.Proofs.Ytdjgmhbfohbenaa
open Go.RowKit Go.Sort Pl
set_option linter.unusedVariables false
set_option linter.unusedSimpArgs false
/-- Columns 0 .. of a row; rows 0 .. . -/
def rowF (step : Nat → Nat → List Int → List Int) (row : Nat) : Nat → List Int → List Int
  | 0, P => P
  | k + 1, P => step row k (rowF step row k P)
def eachF (step : Nat → Nat → List Int → List Int) (cols : Nat) : Nat → List Int → List Int
  | 0, P => P
  | k + 1, P => rowF step k cols (eachF step cols k P)
/-- A closure that takes a cell: what it does to memory that holds P. -/
def Does (N : Nat) (c0 c1 : Value) (S : Nat → Prop) (I : List Int → World → Prop) (ls : List (List Cl)) (rows cols : Nat) (step : Nat → Nat → List Int → List Int) : Prop :=
  ∀ (row col : Nat) (P : List Int) (w : World), row < rows → col < cols → I P w →
    Calls Try.prog N #[.int .i64 row, .int .i64 col, (cellS ls row col).val, c0, c1] w fun e w' => e = .returned (.tuple #[]) ∧ I (step row col P) w' ∧ Kept S w w'
set_option maxRecDepth 100000 in
set_option maxHeartbeats 8000000 in
theorem each107_any (B : Nat) (s : Sc) (ls : List (List Cl)) (c0 c1 : Value) (S : Nat → Prop) (I : List Int → World → Prop) (step : Nat → Nat → List Int → List Int) (P : List Int) (wd : World)
    (hl : LinesAt B wd s.la s.ln ls) (hlen : s.ln ≤ 9223372036854775807) (hr : s.rows ≤ 1000000) (hc : s.cols ≤ 1000000) (hI : I P wd) (hIk : ∀ P w w', I P w → Kept (fun _ => False) w w' → I P w') (hS : ∀ i, S i → B ≤ i ∧ i < wd.heap.size)
    (hdo : Does 107 c0 c1 S I ls s.rows s.cols step) :
    Calls Try.prog 98 #[s.val, .func (.func 107) #[] #[c0, c1]] wd fun e w' => e = .returned (.tuple #[]) ∧ I (eachF step s.cols s.rows P) w' ∧ Kept S wd w' := by
  have HCELL := Lib.hid (fun (row col : Nat) (w : World) (hL : LinesAt B w s.la s.ln ls) (hr : row ≤ 1000000) (hc : col ≤ 1000000) => show Calls Try.prog 108 #[.agg s.cs, .int .i64 row, .int .i64 col] w fun e w' => e = .returned (cellS ls row col).val ∧ Kept (fun _ => False) w w' from cell_any B s ls row col w hL hlen hr hc)
  obtain ⟨rows, cols, cw, ch, la, ln, lc, pa, pn, pc, im, top, cur, srow, scol⟩ := s
  unfold Sc.val
  unfold Sc.cs at HCELL
  simp only at hl hlen hr hc hdo ⊢
  obtain ⟨V, hV⟩ : ∃ V, wd.alloc (.cells #[.int .i64 rows, .int .i64 cols, .int .i64 cw, .int .i64 ch, .slice la ln lc, .slice pa pn pc, .map im, .int .i64 top, .bool cur, .int .i64 srow, .int .i64 scol] 26) = V := ⟨_, rfl⟩
  have kV : Kept (fun _ => False) wd V := by rw [← hV]; exact (Kept.refl _ _).alloc _
  have b0 : V.heap[wd.heap.size]? = some (.cells #[.int .i64 rows, .int .i64 cols, .int .i64 cw, .int .i64 ch, .slice la ln lc, .slice pa pn pc, .map im, .int .i64 top, .bool cur, .int .i64 srow, .int .i64 scol] 26 (0, 0)) := by rw [← hV]; exact blk_new _ _
  obtain ⟨J, hJ⟩ : ∃ J : List Int → World → Prop, J = fun P w => I P w ∧ Kept S wd w ∧ w.heap[wd.heap.size]? = some (.cells #[.int .i64 rows, .int .i64 cols, .int .i64 cw, .int .i64 ch, .slice la ln lc, .slice pa pn pc, .map im, .int .i64 top, .bool cur, .int .i64 srow, .int .i64 scol] 26 (0, 0)) ∧ LinesAt B w la ln ls := ⟨_, rfl⟩
  have HJ0 := Lib.hid (show J P V by rw [hJ]; exact ⟨hIk _ _ _ hI kV, kV.mono (fun _ _ h => h.elim), b0, hl.kept kV (fun _ h => h.elim)⟩)
  have HJK := Lib.hid (show ∀ P w w', J P w → Kept (fun _ => False) w w' → J P w' by
    rw [hJ]
    intro P w w' ⟨h1, h2, h3, h4⟩ hk
    exact ⟨hIk _ _ _ h1 hk, h2.then (hk.mono fun _ _ h => h.elim), hk.blk h3 id, h4.kept hk (fun _ h => h.elim)⟩)
  have HJS := Lib.hid (show ∀ P P' w w', J P w → I P' w' → Kept S w w' → J P' w' by
    rw [hJ]
    intro P P' w w' ⟨h1, h2, h3, h4⟩ hi hk
    exact ⟨hi, h2.then hk, hk.blk h3 (fun hs => Nat.lt_irrefl _ (hS _ hs).2), h4.kept hk (fun i h => (hS i h).1)⟩)
  have HJB := Lib.hid (show ∀ P w, J P w → w.heap[wd.heap.size]? = some (.cells #[.int .i64 rows, .int .i64 cols, .int .i64 cw, .int .i64 ch, .slice la ln lc, .slice pa pn pc, .map im, .int .i64 top, .bool cur, .int .i64 srow, .int .i64 scol] 26 (0, 0)) by rw [hJ]; intro P w h; exact h.2.2.1)
  have HJL := Lib.hid (show ∀ P w, J P w → LinesAt B w la ln ls by rw [hJ]; intro P w h; exact h.2.2.2)
  have HJE := Lib.hid (show ∀ P w, J P w → I P w ∧ Kept S wd w by rw [hJ]; intro P w h; exact ⟨h.1, h.2.1⟩)
  have HDO := Lib.hid (show ∀ (row col : Nat) (P : List Int) (w : World), row < rows → col < cols → I P w →
    Calls Try.prog 107 #[.int .i64 row, .int .i64 col, (cellS ls row col).val, c0, c1] w fun e w' => e = .returned (.tuple #[]) ∧ I (step row col P) w' ∧ Kept S w w' from hdo)
  obtain ⟨x0, x1, -⟩ := blk11 b0
  clear hl hlen hI hIk hS hdo hJ kV b0
  go_enter Try.func98, Try.ntmps98
  go_wp2
  clear x0 x1
  go_loopg [4, 5, 8, 13] rows (fun gg _ _ iv _ wr => ∃ k : Nat, rows ≤ gg + k ∧ k ≤ rows ∧ iv = .int .i64 (k : Int) ∧ J (eachF step cols k P) wr)
  case atStart => exact ⟨0, by omega, by omega, rfl, HJ0.out⟩
  case round =>
    obtain ⟨k, hgg, hk, rfl, hj⟩ := hrel
    by_cases hk1 : k < rows
    · have g1 : decide (k < rows) = true := decide_eq_true hk1
      have g1' : decide ((k : Int) < (rows : Int)) = true := decide_eq_true (by omega)
      have wk : IntKind.i64.wrap ((k : Int) + 1) = (k : Int) + 1 := IntWalk.i64_in _ (by omega)
      have HJ := Lib.hid hj
      obtain ⟨x0, x1, -⟩ := blk11 (HJB.out _ _ hj)
      obtain ⟨gko, hgo⟩ : ∃ x, x = gk := ⟨_, rfl⟩
      subst hgo
      clear hj
      go_wp2
      clear x0 x1
      go_loopg [5, 13] cols (fun gg _ iv wr => ∃ c : Nat, cols ≤ gg + c ∧ c ≤ cols ∧ iv = .int .i64 (c : Int) ∧ J (rowF step k c (eachF step cols k P)) wr)
      case atStart => exact ⟨0, by omega, by omega, rfl, HJ.out⟩
      case round =>
        obtain ⟨c, hgc, hc', rfl, hj⟩ := hrel
        by_cases hc1 : c < cols
        · have g2 : decide (c < cols) = true := decide_eq_true hc1
          have g2' : decide ((c : Int) < (cols : Int)) = true := decide_eq_true (by omega)
          have wc : IntKind.i64.wrap ((c : Int) + 1) = (c : Int) + 1 := IntWalk.i64_in _ (by omega)
          obtain ⟨x0, x1, x2, x3, x4, x5, x6, x7, x8, x9, x10⟩ := blk11 (HJB.out _ _ hj)
          have HCALL := Lib.hid (HCELL.out k c wr (HJL.out _ _ hj) (by omega) (by omega))
          have HJ2 := Lib.hid hj
          clear hj
          go_wp2_with fail
          refine HCALL.out.mono ?_
          rintro e w2 ⟨rfl, hk2⟩
          have hj2 := HJK.out _ _ _ HJ2.out hk2
          have HD := Lib.hid (HDO.out k c _ w2 hk1 hc1 (HJE.out _ _ hj2).1)
          have HJ3 := Lib.hid hj2
          obtain ⟨CL, hCL⟩ : ∃ v, (cellS ls k c).val = v := ⟨_, rfl⟩
          rw [hCL] at HD
          rw [hCL]
          clear hk2 hj2 hCL x0 x1 x2 x3 x4 x5 x6 x7 x8 x9 x10
          go_wp2_with fail
          refine HD.out.mono ?_
          rintro e w3 ⟨rfl, hi3, hk3⟩
          have HJ4 := Lib.hid (HJS.out _ _ _ _ HJ3.out hi3 hk3)
          clear hi3 hk3
          go_wp2
          go_roundg (gk - 1)
          case rel => exact ⟨c + 1, by omega, by omega, by go_num, HJ4.out⟩
          case measure => omega
        · obtain rfl : c = cols := by omega
          have g2 : decide (c < c) = false := decide_eq_false (by omega)
          have HJ4 := Lib.hid hj
          clear hj
          go_wp2
          go_roundg (gko - 1)
          case rel => exact ⟨k + 1, by omega, by omega, by go_num, HJ4.out⟩
          case measure => omega
    · obtain rfl : k = rows := by omega
      have g1 : decide (k < k) = false := decide_eq_false (by omega)
      have HE := Lib.hid (HJE.out _ _ hj)
      clear hj
      go_wp2
      go_end0
      exact ⟨rfl, HE.out⟩
set_option maxRecDepth 100000 in
set_option maxHeartbeats 8000000 in
theorem each112_any (B : Nat) (s : Sc) (ls : List (List Cl)) (c0 c1 : Value) (S : Nat → Prop) (I : List Int → World → Prop) (step : Nat → Nat → List Int → List Int) (P : List Int) (wd : World)
    (hl : LinesAt B wd s.la s.ln ls) (hlen : s.ln ≤ 9223372036854775807) (hr : s.rows ≤ 1000000) (hc : s.cols ≤ 1000000) (hI : I P wd) (hIk : ∀ P w w', I P w → Kept (fun _ => False) w w' → I P w') (hS : ∀ i, S i → B ≤ i ∧ i < wd.heap.size)
    (hdo : Does 112 c0 c1 S I ls s.rows s.cols step) :
    Calls Try.prog 98 #[s.val, .func (.func 112) #[] #[c0, c1]] wd fun e w' => e = .returned (.tuple #[]) ∧ I (eachF step s.cols s.rows P) w' ∧ Kept S wd w' := by
  have HCELL := Lib.hid (fun (row col : Nat) (w : World) (hL : LinesAt B w s.la s.ln ls) (hr : row ≤ 1000000) (hc : col ≤ 1000000) => show Calls Try.prog 108 #[.agg s.cs, .int .i64 row, .int .i64 col] w fun e w' => e = .returned (cellS ls row col).val ∧ Kept (fun _ => False) w w' from cell_any B s ls row col w hL hlen hr hc)
  obtain ⟨rows, cols, cw, ch, la, ln, lc, pa, pn, pc, im, top, cur, srow, scol⟩ := s
  unfold Sc.val
  unfold Sc.cs at HCELL
  simp only at hl hlen hr hc hdo ⊢
  obtain ⟨V, hV⟩ : ∃ V, wd.alloc (.cells #[.int .i64 rows, .int .i64 cols, .int .i64 cw, .int .i64 ch, .slice la ln lc, .slice pa pn pc, .map im, .int .i64 top, .bool cur, .int .i64 srow, .int .i64 scol] 26) = V := ⟨_, rfl⟩
  have kV : Kept (fun _ => False) wd V := by rw [← hV]; exact (Kept.refl _ _).alloc _
  have b0 : V.heap[wd.heap.size]? = some (.cells #[.int .i64 rows, .int .i64 cols, .int .i64 cw, .int .i64 ch, .slice la ln lc, .slice pa pn pc, .map im, .int .i64 top, .bool cur, .int .i64 srow, .int .i64 scol] 26 (0, 0)) := by rw [← hV]; exact blk_new _ _
  obtain ⟨J, hJ⟩ : ∃ J : List Int → World → Prop, J = fun P w => I P w ∧ Kept S wd w ∧ w.heap[wd.heap.size]? = some (.cells #[.int .i64 rows, .int .i64 cols, .int .i64 cw, .int .i64 ch, .slice la ln lc, .slice pa pn pc, .map im, .int .i64 top, .bool cur, .int .i64 srow, .int .i64 scol] 26 (0, 0)) ∧ LinesAt B w la ln ls := ⟨_, rfl⟩
  have HJ0 := Lib.hid (show J P V by rw [hJ]; exact ⟨hIk _ _ _ hI kV, kV.mono (fun _ _ h => h.elim), b0, hl.kept kV (fun _ h => h.elim)⟩)
  have HJK := Lib.hid (show ∀ P w w', J P w → Kept (fun _ => False) w w' → J P w' by
    rw [hJ]
    intro P w w' ⟨h1, h2, h3, h4⟩ hk
    exact ⟨hIk _ _ _ h1 hk, h2.then (hk.mono fun _ _ h => h.elim), hk.blk h3 id, h4.kept hk (fun _ h => h.elim)⟩)
  have HJS := Lib.hid (show ∀ P P' w w', J P w → I P' w' → Kept S w w' → J P' w' by
    rw [hJ]
    intro P P' w w' ⟨h1, h2, h3, h4⟩ hi hk
    exact ⟨hi, h2.then hk, hk.blk h3 (fun hs => Nat.lt_irrefl _ (hS _ hs).2), h4.kept hk (fun i h => (hS i h).1)⟩)
  have HJB := Lib.hid (show ∀ P w, J P w → w.heap[wd.heap.size]? = some (.cells #[.int .i64 rows, .int .i64 cols, .int .i64 cw, .int .i64 ch, .slice la ln lc, .slice pa pn pc, .map im, .int .i64 top, .bool cur, .int .i64 srow, .int .i64 scol] 26 (0, 0)) by rw [hJ]; intro P w h; exact h.2.2.1)
  have HJL := Lib.hid (show ∀ P w, J P w → LinesAt B w la ln ls by rw [hJ]; intro P w h; exact h.2.2.2)
  have HJE := Lib.hid (show ∀ P w, J P w → I P w ∧ Kept S wd w by rw [hJ]; intro P w h; exact ⟨h.1, h.2.1⟩)
  have HDO := Lib.hid (show ∀ (row col : Nat) (P : List Int) (w : World), row < rows → col < cols → I P w →
    Calls Try.prog 112 #[.int .i64 row, .int .i64 col, (cellS ls row col).val, c0, c1] w fun e w' => e = .returned (.tuple #[]) ∧ I (step row col P) w' ∧ Kept S w w' from hdo)
  obtain ⟨x0, x1, -⟩ := blk11 b0
  clear hl hlen hI hIk hS hdo hJ kV b0
  go_enter Try.func98, Try.ntmps98
  go_wp2
  clear x0 x1
  go_loopg [4, 5, 8, 13] rows (fun gg _ _ iv _ wr => ∃ k : Nat, rows ≤ gg + k ∧ k ≤ rows ∧ iv = .int .i64 (k : Int) ∧ J (eachF step cols k P) wr)
  case atStart => exact ⟨0, by omega, by omega, rfl, HJ0.out⟩
  case round =>
    obtain ⟨k, hgg, hk, rfl, hj⟩ := hrel
    by_cases hk1 : k < rows
    · have g1 : decide (k < rows) = true := decide_eq_true hk1
      have g1' : decide ((k : Int) < (rows : Int)) = true := decide_eq_true (by omega)
      have wk : IntKind.i64.wrap ((k : Int) + 1) = (k : Int) + 1 := IntWalk.i64_in _ (by omega)
      have HJ := Lib.hid hj
      obtain ⟨x0, x1, -⟩ := blk11 (HJB.out _ _ hj)
      obtain ⟨gko, hgo⟩ : ∃ x, x = gk := ⟨_, rfl⟩
      subst hgo
      clear hj
      go_wp2
      clear x0 x1
      go_loopg [5, 13] cols (fun gg _ iv wr => ∃ c : Nat, cols ≤ gg + c ∧ c ≤ cols ∧ iv = .int .i64 (c : Int) ∧ J (rowF step k c (eachF step cols k P)) wr)
      case atStart => exact ⟨0, by omega, by omega, rfl, HJ.out⟩
      case round =>
        obtain ⟨c, hgc, hc', rfl, hj⟩ := hrel
        by_cases hc1 : c < cols
        · have g2 : decide (c < cols) = true := decide_eq_true hc1
          have g2' : decide ((c : Int) < (cols : Int)) = true := decide_eq_true (by omega)
          have wc : IntKind.i64.wrap ((c : Int) + 1) = (c : Int) + 1 := IntWalk.i64_in _ (by omega)
          obtain ⟨x0, x1, x2, x3, x4, x5, x6, x7, x8, x9, x10⟩ := blk11 (HJB.out _ _ hj)
          have HCALL := Lib.hid (HCELL.out k c wr (HJL.out _ _ hj) (by omega) (by omega))
          have HJ2 := Lib.hid hj
          clear hj
          go_wp2_with fail
          refine HCALL.out.mono ?_
          rintro e w2 ⟨rfl, hk2⟩
          have hj2 := HJK.out _ _ _ HJ2.out hk2
          have HD := Lib.hid (HDO.out k c _ w2 hk1 hc1 (HJE.out _ _ hj2).1)
          have HJ3 := Lib.hid hj2
          obtain ⟨CL, hCL⟩ : ∃ v, (cellS ls k c).val = v := ⟨_, rfl⟩
          rw [hCL] at HD
          rw [hCL]
          clear hk2 hj2 hCL x0 x1 x2 x3 x4 x5 x6 x7 x8 x9 x10
          go_wp2_with fail
          refine HD.out.mono ?_
          rintro e w3 ⟨rfl, hi3, hk3⟩
          have HJ4 := Lib.hid (HJS.out _ _ _ _ HJ3.out hi3 hk3)
          clear hi3 hk3
          go_wp2
          go_roundg (gk - 1)
          case rel => exact ⟨c + 1, by omega, by omega, by go_num, HJ4.out⟩
          case measure => omega
        · obtain rfl : c = cols := by omega
          have g2 : decide (c < c) = false := decide_eq_false (by omega)
          have HJ4 := Lib.hid hj
          clear hj
          go_wp2
          go_roundg (gko - 1)
          case rel => exact ⟨k + 1, by omega, by omega, by go_num, HJ4.out⟩
          case measure => omega
    · obtain rfl : k = rows := by omega
      have g1 : decide (k < k) = false := decide_eq_false (by omega)
      have HE := Lib.hid (HJE.out _ _ hj)
      clear hj
      go_wp2
      go_end0
      exact ⟨rfl, HE.out⟩
end Go.Proofs.Ytdjgmhbfohbenaa
namespace Go.Proofs.Ytdjgmhbfohbenaa
open Go.RowKit Go.Sort Pl
set_option linter.unusedVariables false
set_option linter.unusedSimpArgs false
attribute [local go_sem] A2.growOp A2.growUpon A2.sameUpon
/-- A matrix, its bytes in g, its numbers in m; a layer's scene in lb. -/
def SI (s : Sc) (W H n m g lb : Nat) (T : TypeId) (P : List Int) (w : World) : Prop := MatI W H n m g P w ∧ w.heap[lb]? = some (.cells s.cs T (0, 0))
theorem SI.kept {s : Sc} {W H n m g lb : Nat} {T : TypeId} {P : List Int} {w w' : World} (h : SI s W H n m g lb T P w) (hk : Kept (fun _ => False) w w') : SI s W H n m g lb T P w' := ⟨h.1.kept hk, hk.blk h.2 id⟩
def groF (s : Sc) (ls : List (List Cl)) (W H : Nat) (row col : Nat) (P : List Int) : List Int := layL W H ((col * s.cw : Nat) : Int) ((row * s.ch : Nat) : Int) s.cw s.ch (colors (cellS ls row col).a).2 P
/-- A scene and its matrix, of a size that may be. -/
structure Dim (s : Sc) (W H n : Nat) : Prop where
  rows : s.rows ≤ 1000
  cols : s.cols ≤ 1000
  cw : 1 ≤ s.cw ∧ s.cw ≤ 64
  ch : 1 ≤ s.ch ∧ s.ch ≤ 64
  bW : W ≤ 16384
  bH : H ≤ 16384
  bn : n = 4 * (W * H)
  bn2 : n ≤ 67108864
set_option maxRecDepth 100000 in
set_option maxHeartbeats 8000000 in
theorem do107 (s : Sc) (ls : List (List Cl)) (W H n m g lb : Nat) (hd : Dim s W H n) (hm : m ≠ g) (hb : lb ≠ g) :
    Does 107 (.pointer (some ⟨m, 0, none⟩)) (.pointer (some ⟨lb, 0, none⟩)) (fun i => i = g) (SI s W H n m g lb 90) ls s.rows s.cols (groF s ls W H) := by
  intro row col P w hrow hcol hI
  obtain ⟨rows, cols, cw, ch, la, ln, lc, pa, pn, pc, im, top, cur, srow, scol⟩ := s
  obtain ⟨CL, hcc⟩ : ∃ c, cellS ls row col = c := ⟨_, rfl⟩
  obtain ⟨cr, ck, fg, bg, fl⟩ := CL
  have hgro : groF ⟨rows, cols, cw, ch, la, ln, lc, pa, pn, pc, im, top, cur, srow, scol⟩ ls W H row col P = layL W H ((col * cw : Nat) : Int) ((row * ch : Nat) : Int) cw ch (colors ⟨fg, bg, fl⟩).2 P := by unfold groF; rw [hcc]
  rw [hcc]
  unfold Cl.val
  simp only at hrow hcol ⊢
  rw [hgro]
  obtain ⟨F, hF⟩ : ∃ F, (colors ⟨fg, bg, fl⟩).1 = F := ⟨_, rfl⟩
  obtain ⟨B, hB⟩ : ∃ B, (colors ⟨fg, bg, fl⟩).2 = B := ⟨_, rfl⟩
  rw [hB]
  have HC := Lib.hid (show ∀ w, Calls Try.prog 45 #[.agg #[.int .i64 fg, .int .i64 bg, .int .i64 fl]] w fun e w' => e = .returned (.tuple #[.agg #[.int .u8 F.r, .int .u8 F.g, .int .u8 F.b], .agg #[.int .u8 B.r, .int .u8 B.g, .int .u8 B.b]]) ∧ Kept (fun _ => False) w w' from fun w => by have h := cols_any ⟨fg, bg, fl⟩ w; unfold ColsPost at h; rw [hF, hB] at h; exact h)
  have HSB := Lib.hid (show ∀ w, Calls Try.prog 47 #[.agg #[.int .u8 B.r, .int .u8 B.g, .int .u8 B.b]] w fun e w' => e = .returned (.agg #[.int .u8 B.r, .int .u8 B.g, .int .u8 B.b, .int .u8 255]) ∧ Kept (fun _ => False) w w' from fun w => solid_any B w)
  have d1 := hd.rows
  have d2 := hd.cols
  have d3 := hd.cw
  have d4 := hd.ch
  simp only at d1 d2 d3 d4
  have bx : col * cw ≤ 1000 * 64 := Nat.mul_le_mul (by omega) d3.2
  have by' : row * ch ≤ 1000 * 64 := Nat.mul_le_mul (by omega) d4.2
  obtain ⟨X, hX⟩ : ∃ x, col * cw = x := ⟨_, rfl⟩
  obtain ⟨Y, hY⟩ : ∃ x, row * ch = x := ⟨_, rfl⟩
  rw [hX] at bx ⊢
  rw [hY] at by' ⊢
  have v1 : (col : Int) * (cw : Int) = (X : Int) := by rw [← hX]; simp
  have v2 : (row : Int) * (ch : Int) = (Y : Int) := by rw [← hY]; simp
  have u1 : IntKind.i64.wrap (X : Int) = (X : Int) := IntWalk.i64_in _ (by omega)
  have u2 : IntKind.i64.wrap (Y : Int) = (Y : Int) := IntWalk.i64_in _ (by omega)
  have HD := Lib.hid (And.intro hd (And.intro hm hb))
  have HXY := Lib.hid (And.intro bx (And.intro by' (And.intro d3 d4)))
  obtain ⟨V0, hV0⟩ : ∃ V, w.alloc (.cells #[.int .i32 cr, .int .i64 ck, .int .i64 fg, .int .i64 bg, .int .i64 fl] 100) = V := ⟨_, rfl⟩
  have k0 : Kept (fun _ => False) w V0 := by rw [← hV0]; exact (Kept.refl _ _).alloc _
  have b0 : V0.heap[w.heap.size]? = some (.cells #[.int .i32 cr, .int .i64 ck, .int .i64 fg, .int .i64 bg, .int .i64 fl] 100 (0, 0)) := by rw [← hV0]; exact blk_new _ _
  obtain ⟨x0, x1, x2, x3, x4⟩ := blk5 b0
  have H0 := Lib.hid (And.intro k0 (hI.kept k0))
  clear hcc hgro hF hB hd hm hb bx by' hX hY d1 d2 d3 d4 hrow hcol k0 b0 hI
  go_enter Try.func107, Try.ntmps107
  go_wp2_with fail
  refine (HC.out _).mono ?_
  rintro e w1 ⟨rfl, hk1⟩
  obtain ⟨V, hV⟩ : ∃ V, (w1.alloc (.cells #[.int .u8 F.r, .int .u8 F.g, .int .u8 F.b] 96)).alloc (.cells #[.int .u8 B.r, .int .u8 B.g, .int .u8 B.b] 96) = V := ⟨_, rfl⟩
  have kV : Kept (fun _ => False) w1 V := by rw [← hV]; exact ((Kept.refl _ _).alloc _).alloc _
  have v1' : V.heap[w1.heap.size + 1]? = some (.cells #[.int .u8 B.r, .int .u8 B.g, .int .u8 B.b] 96 (0, 0)) := by rw [← hV]; exact blk_at _ _ (by simp)
  obtain ⟨WR, hWR⟩ : ∃ WR, WR = V.drew := ⟨_, rfl⟩
  have kR : Kept (fun _ => False) V WR := by rw [hWR]; exact (Kept.refl _ _).drew
  have hIR := H0.out.2.kept ((hk1.then kV).then kR)
  obtain ⟨⟨d0, -⟩, ⟨d1, -⟩, d2, -⟩ := blk3 hIR.1.2
  obtain ⟨⟨e0, -⟩, ⟨e1, -⟩, e2, -⟩ := blk3 (kR.blk v1' id)
  obtain ⟨-, -, s2, s3, -⟩ := blk11 hIR.2
  have X0 := cell_regrown d0
  have X1 := cell_regrown d1
  have X2 := cell_regrown d2
  have Y0 := cell_regrown e0
  have Y1 := cell_regrown e1
  have Y2 := cell_regrown e2
  have Z2 := cell_regrown s2
  have Z3 := cell_regrown s3
  obtain ⟨RB, hRB⟩ : ∃ R : Value → World → Prop, R = fun v _ => v = .agg #[.int .u8 B.r, .int .u8 B.g, .int .u8 B.b, .int .u8 255] := ⟨_, rfl⟩
  have HRB := Lib.hid hRB
  have HWR := Lib.hid hWR
  have H1 := Lib.hid (And.intro (H0.out.1.then ((hk1.then kV).then kR)) hIR)
  clear hk1 kV v1' kR hIR d0 d1 d2 e0 e1 e2 s2 s3 hRB hWR x0 x1 x2 x3 x4
  go_wp2
  refine A2.wp_region_grow (fun _ => false) #[0, 0, 0, 4, 12, 30, 0, 0, 128, 384, 960, 0, 2048, 6144, 0, 16384, 49152, 0, 131072, 524287] 19 [] (fun i => if i = 18 then some RB else none) (by kernel_rfl) rfl (by kernel_rfl) (fun i hi => by cases hi) (fun _ _ _ _ _ h => h) ?_
  rintro _ rfl
  rw [← HWR.out]
  simp only [List.take_succ_cons, List.take_zero, List.drop_succ_cons, List.drop_zero, A2.number, Nat.reduceAdd]
  repeat (refine A2.wpGrow_step (fun K hK => ?_); go_simp; refine hK _ _ ?_; clear hK K)
  refine A2.wpGrow_step (fun K hK => ?_)
  go_simp
  refine ⟨fun w' hg => (HSB.out w').mono (fun e9 w'' ⟨he, hk⟩ => ⟨_, he, hk, by rw [HRB.out]⟩), fun v4 w4 hv4 hg4 _ => ?_⟩
  rw [HRB.out] at hv4
  subst hv4
  refine hK _ _ ?_; clear hK K
  refine A2.wpGrow_nil ?_
  intro w5 hk5 hω
  have hI5 := H1.out.2.kept hk5
  have HF := Lib.hid (filD_any W H X Y cw ch P (some ⟨g, 0, none⟩) n n B.r B.g B.b 255 w5 (by have := HXY.out; unfold Mid; omega) (by have := HXY.out; unfold Mid; omega) (by have := HXY.out; unfold Mid; omega) (by have := HXY.out; unfold Mid; omega) HD.out.1.bW HD.out.1.bH HD.out.1.bn HD.out.1.bn2 hI5.1.1)
  have H5 := Lib.hid (And.intro (H1.out.1.then hk5) hI5)
  clear hω hg4 hI5 hk5 X0 X1 X2 Y0 Y1 Y2 Z2 Z3
  go_wp2_with fail
  refine HF.out.mono ?_
  rintro e w6 ⟨rfl, ho6, hk6⟩
  have hk6' : Kept (fun i => i = g) w5 w6 := hk6.mono fun i _ hi => by cases hi; rfl
  have HE := Lib.hid (And.intro (show SI ⟨rows, cols, cw, ch, la, ln, lc, pa, pn, pc, im, top, cur, srow, scol⟩ W H n m g lb 90 (layL W H X Y cw ch B P) w6 from ⟨⟨by unfold layL; rw [← HD.out.1.bn]; exact ho6, hk6'.blk H5.out.2.1.2 HD.out.2.1⟩, hk6'.blk H5.out.2.2 HD.out.2.2⟩) ((H5.out.1.mono fun _ _ h => h.elim).then hk6'))
  clear ho6 hk6 hk6'
  go_wp2
  go_end0
  exact ⟨rfl, HE.out⟩
set_option maxRecDepth 100000 in
set_option maxHeartbeats 8000000 in
theorem grounds_any (B : Nat) (s : Sc) (ls : List (List Cl)) (W H n g : Nat) (P : List Int) (wd : World) (hd : Dim s W H n) (hl : LinesAt B wd s.la s.ln ls) (hlen : s.ln ≤ 9223372036854775807) (hB : B ≤ g)
    (ho : Own .u8 5 wd (.slice (some ⟨g, 0, none⟩) n n) P) :
    Calls Try.prog 106 #[s.val, .agg #[.int .i64 W, .int .i64 H, .slice (some ⟨g, 0, none⟩) n n]] wd fun e w' => e = .returned (.agg #[.int .i64 W, .int .i64 H, .slice (some ⟨g, 0, none⟩) n n]) ∧ Own .u8 5 w' (.slice (some ⟨g, 0, none⟩) n n) (eachF (groF s ls W H) s.cols s.rows P) ∧ Kept (fun i => i = g) wd w' := by
  have hgw := ho.lt g rfl
  obtain ⟨V, hV⟩ : ∃ V, ((wd.alloc (.cells s.cs 90)).alloc (.cells #[.int .i64 W, .int .i64 H, .slice (some ⟨g, 0, none⟩) n n] 31)).alloc (.cells #[.int .i64 0, .int .i64 0, .slice none 0 0] 31) = V := ⟨_, rfl⟩
  have kV : Kept (fun _ => False) wd V := by rw [← hV]; exact (((Kept.refl _ _).alloc _).alloc _).alloc _
  have b0 : V.heap[wd.heap.size]? = some (.cells s.cs 90 (0, 0)) := by rw [← hV]; exact blk_alloc (blk_alloc (blk_new _ _) _) _
  have b1 : V.heap[wd.heap.size + 1]? = some (.cells #[.int .i64 W, .int .i64 H, .slice (some ⟨g, 0, none⟩) n n] 31 (0, 0)) := by rw [← hV]; exact blk_alloc (blk_at _ _ (by simp)) _
  have b2 : V.heap[wd.heap.size + 1 + 1]? = some (.cells #[.int .i64 0, .int .i64 0, .slice none 0 0] 31 (0, 0)) := by rw [← hV]; exact blk_at _ _ (by simp)
  have hgV : g < V.heap.size := (ho.kept kV (fun _ _ => id)).lt g rfl
  have HEACH := Lib.hid (each107_any B s ls (.pointer (some ⟨wd.heap.size + 1, 0, none⟩)) (.pointer (some ⟨wd.heap.size, 0, none⟩)) (fun i => i = g) (SI s W H n (wd.heap.size + 1) g wd.heap.size 90) (groF s ls W H) P V
    (hl.kept kV (fun _ h => h.elim)) hlen (by have := hd.rows; omega) (by have := hd.cols; omega) ⟨⟨ho.kept kV (fun _ _ => id), b1⟩, b0⟩ (fun P w w' h hk => h.kept hk) (fun i hi => by have h9 : i = g := hi; rw [h9]; exact ⟨hB, hgV⟩) (do107 s ls W H n (wd.heap.size + 1) g wd.heap.size hd (by omega) (by omega)))
  have HK := Lib.hid (And.intro kV (And.intro b2 hgw))
  obtain ⟨R, hR⟩ : ∃ R, eachF (groF s ls W H) s.cols s.rows P = R := ⟨_, rfl⟩
  rw [hR] at HEACH
  rw [hR]
  obtain ⟨x0, x1, x2, x3, x4, x5, x6, x7, x8, x9, x10⟩ := blk11 b0
  obtain ⟨rows, cols, cw, ch, la, ln, lc, pa, pn, pc, im, top, cur, srow, scol⟩ := s
  unfold Sc.cs at hV
  unfold Sc.val at HEACH ⊢
  simp only at x0 x1 x2 x3 x4 x5 x6 x7 x8 x9 x10 hV HEACH ⊢
  clear hR hd hl hlen hB ho hgw kV b0 b1 b2 hgV
  go_enter Try.func106, Try.ntmps106
  go_wp2_with fail
  refine HEACH.out.mono ?_
  rintro e w2 ⟨rfl, hi2, hk2⟩
  obtain ⟨⟨d0, -⟩, ⟨d1, -⟩, d2, -⟩ := blk3 hi2.1.2
  obtain ⟨U1, U2, U3, f1, f2, f3, ⟨z0, z0'⟩, ⟨z1, z1'⟩, ⟨z2, z2'⟩, bU, kU⟩ := store3 (hk2.blk HK.out.2.1 (fun (h : wd.heap.size + 1 + 1 = g) => by have := HK.out.2.2; omega)) (.int .i64 W) (.int .i64 H) (.slice (some ⟨g, 0, none⟩) n n)
  obtain ⟨⟨m0, -⟩, ⟨m1, -⟩, m2, -⟩ := blk3 bU
  have HE := Lib.hid (And.intro (hi2.1.1.kept kU (fun b hb hS => by have h9 : b = wd.heap.size + 1 + 1 := hS; have h8 : g = b := (by cases hb; rfl); have := HK.out.2.2; omega)) (((HK.out.1.mono (fun _ _ h => h.elim)).then hk2).trans (kU.mono fun i _ hi => Or.inr (by have h9 : i = wd.heap.size + 1 + 1 := hi; omega))))
  clear hi2 hk2 bU kU x0 x1 x2 x3 x4 x5 x6 x7 x8 x9 x10
  go_wp2
  exact bodyPost_ret (v := .agg #[.int .i64 W, .int .i64 H, .slice (some ⟨g, 0, none⟩) n n]) (by simp [results, Try.results106, go_sem, m0, m1, m2]) rfl ⟨rfl, HE.out⟩
end Go.Proofs.Ytdjgmhbfohbenaa
