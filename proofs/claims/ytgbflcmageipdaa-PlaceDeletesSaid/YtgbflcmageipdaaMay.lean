/- may: which places may be; which asks. -/
import Derived.Test.YtgbflcmageipdaaSmall
namespace Go.Proofs.Ytgbflcmageipdaa
open Go.RowKit
set_option linter.unusedVariables false
set_option linter.unusedSimpArgs false
def mayB (p : Pl) : Bool := decide (0 ≤ p.im) && (inB p.id 0 4294967295 && (decide (0 ≤ p.line) && (decide (p.line ≤ 1125899906842624) && (inB p.col 0 1000 && (inB p.rows 1 1048576 && (inB p.cols 1 1048576 && (decide (0 ≤ p.x) && (decide (0 ≤ p.y) && (inB p.w 1 16384 && (inB p.h 1 16384 && (inB p.dx 0 64 && (inB p.dy 0 64 && (inB p.z (-1073741824) 1073741824)))))))))))))
set_option maxRecDepth 100000 in
set_option maxHeartbeats 8000000 in
theorem may_any (p : Pl) (wd : World) : Calls Try.prog 16 #[p.val] wd fun e w' => e = .returned (.bool (mayB p)) ∧ Kept (fun _ => False) wd w' := by
  obtain ⟨W, hW⟩ : ∃ W, wd.alloc (.cells p.cs 34) = W := ⟨_, rfl⟩
  have hk : Kept (fun _ => False) wd W := by rw [← hW]; exact (Kept.refl _ _).alloc _
  have hb : W.heap[wd.heap.size]? = some (.cells p.cs 34 (0, 0)) := by rw [← hW]; exact blk_new wd _
  obtain ⟨u0, u1, u2, u3, u4, u5, u6, u7, u8, u9, u10, u11, u12, u13⟩ := blk14 hb
  obtain ⟨B, hB⟩ : ∃ B, mayB p = B := ⟨_, rfl⟩
  have hB' := hB
  unfold mayB at hB'
  have HK := Lib.hid hk
  rw [hB]
  obtain ⟨im, id, alt, line, col, rows, cols, x, y, w, h, dx, dy, z⟩ := p
  unfold Pl.cs at hW
  unfold Pl.val
  clear hk hb hB
  simp only at *
  cases c0 : decide (0 ≤ im) with
  | false =>
    obtain rfl : false = B := by rw [← hB', c0]; rfl
    clear hB'
    go_enter Try.func16, Try.ntmps16
    go_wp2_with (first
      | (go_at_call 27; refine (between_any _ _ _ _).mono ?_; rintro e w' ⟨rfl, rfl⟩))
    go_ret
    exact ⟨rfl, HK.out⟩
  | true =>
    cases c1 : inB id 0 4294967295 with
    | false =>
      obtain rfl : false = B := by rw [← hB', c0, c1]; rfl
      clear hB'
      go_enter Try.func16, Try.ntmps16
      go_wp2_with (first
        | (go_at_call 27; refine (between_any _ _ _ _).mono ?_; rintro e w' ⟨rfl, rfl⟩))
      go_ret
      exact ⟨rfl, HK.out⟩
    | true =>
      cases c2 : decide (0 ≤ line) with
      | false =>
        obtain rfl : false = B := by rw [← hB', c0, c1, c2]; rfl
        clear hB'
        go_enter Try.func16, Try.ntmps16
        go_wp2_with (first
          | (go_at_call 27; refine (between_any _ _ _ _).mono ?_; rintro e w' ⟨rfl, rfl⟩))
        go_ret
        exact ⟨rfl, HK.out⟩
      | true =>
        cases c3 : decide (line ≤ 1125899906842624) with
        | false =>
          obtain rfl : false = B := by rw [← hB', c0, c1, c2, c3]; rfl
          clear hB'
          go_enter Try.func16, Try.ntmps16
          go_wp2_with (first
            | (go_at_call 27; refine (between_any _ _ _ _).mono ?_; rintro e w' ⟨rfl, rfl⟩))
          go_ret
          exact ⟨rfl, HK.out⟩
        | true =>
          cases c4 : inB col 0 1000 with
          | false =>
            obtain rfl : false = B := by rw [← hB', c0, c1, c2, c3, c4]; rfl
            clear hB'
            go_enter Try.func16, Try.ntmps16
            go_wp2_with (first
              | (go_at_call 27; refine (between_any _ _ _ _).mono ?_; rintro e w' ⟨rfl, rfl⟩))
            go_ret
            exact ⟨rfl, HK.out⟩
          | true =>
            cases c5 : inB rows 1 1048576 with
            | false =>
              obtain rfl : false = B := by rw [← hB', c0, c1, c2, c3, c4, c5]; rfl
              clear hB'
              go_enter Try.func16, Try.ntmps16
              go_wp2_with (first
                | (go_at_call 27; refine (between_any _ _ _ _).mono ?_; rintro e w' ⟨rfl, rfl⟩))
              go_ret
              exact ⟨rfl, HK.out⟩
            | true =>
              cases c6 : inB cols 1 1048576 with
              | false =>
                obtain rfl : false = B := by rw [← hB', c0, c1, c2, c3, c4, c5, c6]; rfl
                clear hB'
                go_enter Try.func16, Try.ntmps16
                go_wp2_with (first
                  | (go_at_call 27; refine (between_any _ _ _ _).mono ?_; rintro e w' ⟨rfl, rfl⟩))
                go_ret
                exact ⟨rfl, HK.out⟩
              | true =>
                cases c7 : decide (0 ≤ x) with
                | false =>
                  obtain rfl : false = B := by rw [← hB', c0, c1, c2, c3, c4, c5, c6, c7]; rfl
                  clear hB'
                  go_enter Try.func16, Try.ntmps16
                  go_wp2_with (first
                    | (go_at_call 27; refine (between_any _ _ _ _).mono ?_; rintro e w' ⟨rfl, rfl⟩))
                  go_ret
                  exact ⟨rfl, HK.out⟩
                | true =>
                  cases c8 : decide (0 ≤ y) with
                  | false =>
                    obtain rfl : false = B := by rw [← hB', c0, c1, c2, c3, c4, c5, c6, c7, c8]; rfl
                    clear hB'
                    go_enter Try.func16, Try.ntmps16
                    go_wp2_with (first
                      | (go_at_call 27; refine (between_any _ _ _ _).mono ?_; rintro e w' ⟨rfl, rfl⟩))
                    go_ret
                    exact ⟨rfl, HK.out⟩
                  | true =>
                    cases c9 : inB w 1 16384 with
                    | false =>
                      obtain rfl : false = B := by rw [← hB', c0, c1, c2, c3, c4, c5, c6, c7, c8, c9]; rfl
                      clear hB'
                      go_enter Try.func16, Try.ntmps16
                      go_wp2_with (first
                        | (go_at_call 27; refine (between_any _ _ _ _).mono ?_; rintro e w' ⟨rfl, rfl⟩))
                      go_ret
                      exact ⟨rfl, HK.out⟩
                    | true =>
                      cases c10 : inB h 1 16384 with
                      | false =>
                        obtain rfl : false = B := by rw [← hB', c0, c1, c2, c3, c4, c5, c6, c7, c8, c9, c10]; rfl
                        clear hB'
                        go_enter Try.func16, Try.ntmps16
                        go_wp2_with (first
                          | (go_at_call 27; refine (between_any _ _ _ _).mono ?_; rintro e w' ⟨rfl, rfl⟩))
                        go_ret
                        exact ⟨rfl, HK.out⟩
                      | true =>
                        cases c11 : inB dx 0 64 with
                        | false =>
                          obtain rfl : false = B := by rw [← hB', c0, c1, c2, c3, c4, c5, c6, c7, c8, c9, c10, c11]; rfl
                          clear hB'
                          go_enter Try.func16, Try.ntmps16
                          go_wp2_with (first
                            | (go_at_call 27; refine (between_any _ _ _ _).mono ?_; rintro e w' ⟨rfl, rfl⟩))
                          go_ret
                          exact ⟨rfl, HK.out⟩
                        | true =>
                          cases c12 : inB dy 0 64 with
                          | false =>
                            obtain rfl : false = B := by rw [← hB', c0, c1, c2, c3, c4, c5, c6, c7, c8, c9, c10, c11, c12]; rfl
                            clear hB'
                            go_enter Try.func16, Try.ntmps16
                            go_wp2_with (first
                              | (go_at_call 27; refine (between_any _ _ _ _).mono ?_; rintro e w' ⟨rfl, rfl⟩))
                            go_ret
                            exact ⟨rfl, HK.out⟩
                          | true =>
                            cases c13 : inB z (-1073741824) 1073741824 with
                            | false =>
                              obtain rfl : false = B := by rw [← hB', c0, c1, c2, c3, c4, c5, c6, c7, c8, c9, c10, c11, c12, c13]; rfl
                              clear hB'
                              go_enter Try.func16, Try.ntmps16
                              go_wp2_with (first
                                | (go_at_call 27; refine (between_any _ _ _ _).mono ?_; rintro e w' ⟨rfl, rfl⟩))
                              go_ret
                              exact ⟨rfl, HK.out⟩
                            | true =>
                              obtain rfl : true = B := by rw [← hB', c0, c1, c2, c3, c4, c5, c6, c7, c8, c9, c10, c11, c12, c13]; rfl
                              clear hB'
                              go_enter Try.func16, Try.ntmps16
                              go_wp2_with (first
                                | (go_at_call 27; refine (between_any _ _ _ _).mono ?_; rintro e w' ⟨rfl, rfl⟩))
                              go_ret
                              exact ⟨rfl, HK.out⟩
/-- What is seen. -/
structure Vw where
  alt : Bool
  top : Int
  rows : Int
  cols : Int
  row : Int
  col : Int
def Vw.val (v : Vw) : Value := .agg #[.bool v.alt, .int .i64 v.top, .int .i64 v.rows, .int .i64 v.cols, .int .i64 v.row, .int .i64 v.col]
def Vw.cs (v : Vw) : Array Value := #[.bool v.alt, .int .i64 v.top, .int .i64 v.rows, .int .i64 v.cols, .int .i64 v.row, .int .i64 v.col]
/-- What is asked for. -/
structure Ask where
  what : Int
  im : Int
  pl : Int
  x : Int
  y : Int
  z : Int
def Ask.val (a : Ask) : Value := .agg #[.int .u8 a.what, .int .i64 a.im, .int .i64 a.pl, .int .i64 a.x, .int .i64 a.y, .int .i64 a.z]
def Ask.cs (a : Ask) : Array Value := #[.int .u8 a.what, .int .i64 a.im, .int .i64 a.pl, .int .i64 a.x, .int .i64 a.y, .int .i64 a.z]
theorem blkV {w : World} {b : Nat} {v : Vw} {t : TypeId} (h : w.heap[b]? = some (.cells v.cs t (0, 0))) :
    w.cell? ⟨b, 0, none⟩ = some (.bool v.alt) ∧ w.cell? ⟨b, 1, none⟩ = some (.int .i64 v.top) ∧ w.cell? ⟨b, 2, none⟩ = some (.int .i64 v.rows) ∧ w.cell? ⟨b, 3, none⟩ = some (.int .i64 v.cols) ∧ w.cell? ⟨b, 4, none⟩ = some (.int .i64 v.row) ∧ w.cell? ⟨b, 5, none⟩ = some (.int .i64 v.col) :=
  ⟨blk_cell h 0, blk_cell h 1, blk_cell h 2, blk_cell h 3, blk_cell h 4, blk_cell h 5⟩
theorem blkA {w : World} {b : Nat} {v : Ask} {t : TypeId} (h : w.heap[b]? = some (.cells v.cs t (0, 0))) :
    w.cell? ⟨b, 0, none⟩ = some (.int .u8 v.what) ∧ w.cell? ⟨b, 1, none⟩ = some (.int .i64 v.im) ∧ w.cell? ⟨b, 2, none⟩ = some (.int .i64 v.pl) ∧ w.cell? ⟨b, 3, none⟩ = some (.int .i64 v.x) ∧ w.cell? ⟨b, 4, none⟩ = some (.int .i64 v.y) ∧ w.cell? ⟨b, 5, none⟩ = some (.int .i64 v.z) :=
  ⟨blk_cell h 0, blk_cell h 1, blk_cell h 2, blk_cell h 3, blk_cell h 4, blk_cell h 5⟩
def lmayB (v : Vw) (a : Ask) : Bool := decide (0 ≤ v.top) && (decide (v.top ≤ 1125899906842624) && (inB v.rows (-2147483648) 2147483648 && (inB v.cols (-2147483648) 2147483648 && (inB v.row (-2147483648) 2147483648 && (inB v.col (-2147483648) 2147483648 && (inB a.x (-2147483648) 8589934592 && (inB a.y (-2147483648) 8589934592)))))))
set_option maxRecDepth 100000 in
set_option maxHeartbeats 8000000 in
theorem lmay_any (v : Vw) (a : Ask) (wd : World) : Calls Try.prog 6 #[v.val, a.val] wd fun e w' => e = .returned (.bool (lmayB v a)) ∧ Kept (fun _ => False) wd w' := by
  obtain ⟨W, hW⟩ : ∃ W, (wd.alloc (.cells v.cs 26)).alloc (.cells a.cs 24) = W := ⟨_, rfl⟩
  have hk : Kept (fun _ => False) wd W := by rw [← hW]; exact ((Kept.refl _ _).alloc _).alloc _
  have hb : W.heap[wd.heap.size]? = some (.cells v.cs 26 (0, 0)) := by rw [← hW]; exact blk_alloc (blk_new wd _) _
  have hb2 : W.heap[wd.heap.size + 1]? = some (.cells a.cs 24 (0, 0)) := by rw [← hW]; exact blk_at _ _ (by simp)
  obtain ⟨u0, u1, u2, u3, u4, u5⟩ := blkV hb
  obtain ⟨y0, y1, y2, y3, y4, y5⟩ := blkA hb2
  obtain ⟨B, hB⟩ : ∃ B, lmayB v a = B := ⟨_, rfl⟩
  have hB' := hB
  unfold lmayB at hB'
  have HK := Lib.hid hk
  rw [hB]
  obtain ⟨valt, vtop, vrows, vcols, vrow, vcol⟩ := v
  obtain ⟨awhat, aim, apl, ax, ay, az⟩ := a
  unfold Vw.cs Ask.cs at hW
  unfold Vw.val Ask.val
  clear hk hb hb2 hB
  simp only at *
  cases c0 : decide (0 ≤ vtop) with
  | false =>
    obtain rfl : false = B := by rw [← hB', c0]; rfl
    clear hB'
    go_enter Try.func6, Try.ntmps6
    go_wp2_with (first
      | (go_at_call 15; refine (in_any _ _ _ _).mono ?_; rintro e w' ⟨rfl, rfl⟩))
    go_ret
    exact ⟨rfl, HK.out⟩
  | true =>
    cases c1 : decide (vtop ≤ 1125899906842624) with
    | false =>
      obtain rfl : false = B := by rw [← hB', c0, c1]; rfl
      clear hB'
      go_enter Try.func6, Try.ntmps6
      go_wp2_with (first
        | (go_at_call 15; refine (in_any _ _ _ _).mono ?_; rintro e w' ⟨rfl, rfl⟩))
      go_ret
      exact ⟨rfl, HK.out⟩
    | true =>
      cases c2 : inB vrows (-2147483648) 2147483648 with
      | false =>
        obtain rfl : false = B := by rw [← hB', c0, c1, c2]; rfl
        clear hB'
        go_enter Try.func6, Try.ntmps6
        go_wp2_with (first
          | (go_at_call 15; refine (in_any _ _ _ _).mono ?_; rintro e w' ⟨rfl, rfl⟩))
        go_ret
        exact ⟨rfl, HK.out⟩
      | true =>
        cases c3 : inB vcols (-2147483648) 2147483648 with
        | false =>
          obtain rfl : false = B := by rw [← hB', c0, c1, c2, c3]; rfl
          clear hB'
          go_enter Try.func6, Try.ntmps6
          go_wp2_with (first
            | (go_at_call 15; refine (in_any _ _ _ _).mono ?_; rintro e w' ⟨rfl, rfl⟩))
          go_ret
          exact ⟨rfl, HK.out⟩
        | true =>
          cases c4 : inB vrow (-2147483648) 2147483648 with
          | false =>
            obtain rfl : false = B := by rw [← hB', c0, c1, c2, c3, c4]; rfl
            clear hB'
            go_enter Try.func6, Try.ntmps6
            go_wp2_with (first
              | (go_at_call 15; refine (in_any _ _ _ _).mono ?_; rintro e w' ⟨rfl, rfl⟩))
            go_ret
            exact ⟨rfl, HK.out⟩
          | true =>
            cases c5 : inB vcol (-2147483648) 2147483648 with
            | false =>
              obtain rfl : false = B := by rw [← hB', c0, c1, c2, c3, c4, c5]; rfl
              clear hB'
              go_enter Try.func6, Try.ntmps6
              go_wp2_with (first
                | (go_at_call 15; refine (in_any _ _ _ _).mono ?_; rintro e w' ⟨rfl, rfl⟩))
              go_ret
              exact ⟨rfl, HK.out⟩
            | true =>
              cases c6 : inB ax (-2147483648) 8589934592 with
              | false =>
                obtain rfl : false = B := by rw [← hB', c0, c1, c2, c3, c4, c5, c6]; rfl
                clear hB'
                go_enter Try.func6, Try.ntmps6
                go_wp2_with (first
                  | (go_at_call 15; refine (in_any _ _ _ _).mono ?_; rintro e w' ⟨rfl, rfl⟩))
                go_ret
                exact ⟨rfl, HK.out⟩
              | true =>
                cases c7 : inB ay (-2147483648) 8589934592 with
                | false =>
                  obtain rfl : false = B := by rw [← hB', c0, c1, c2, c3, c4, c5, c6, c7]; rfl
                  clear hB'
                  go_enter Try.func6, Try.ntmps6
                  go_wp2_with (first
                    | (go_at_call 15; refine (in_any _ _ _ _).mono ?_; rintro e w' ⟨rfl, rfl⟩))
                  go_ret
                  exact ⟨rfl, HK.out⟩
                | true =>
                  obtain rfl : true = B := by rw [← hB', c0, c1, c2, c3, c4, c5, c6, c7]; rfl
                  clear hB'
                  go_enter Try.func6, Try.ntmps6
                  go_wp2_with (first
                    | (go_at_call 15; refine (in_any _ _ _ _).mono ?_; rintro e w' ⟨rfl, rfl⟩))
                  go_ret
                  exact ⟨rfl, HK.out⟩
end Go.Proofs.Ytgbflcmageipdaa
