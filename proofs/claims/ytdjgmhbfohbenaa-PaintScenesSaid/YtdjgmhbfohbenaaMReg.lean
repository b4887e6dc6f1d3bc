/- Several texts in one: RegD, PzP. -/
import Derived.Test.YtdjgmhbfohbenaaLinM
import Derived.Test.YtdjgmhbfohbenaaMLay
import Derived.Test.YtdjgmhbfohbenaaMDrw
import Derived.Test.YtdjgmhbfohbenaaLayG
namespace Go.Proofs.Ytdjgmhbfohbenaa
open Go.RowKit Go.Sort Pl
set_option linter.unusedVariables false
set_option linter.unusedSimpArgs false
set_option maxRecDepth 100000 in
set_option maxHeartbeats 8000000 in
theorem kbetw_any (v lo hi : Int) (w : World) : Calls Try.prog 70 #[.int .i64 v, .int .i64 lo, .int .i64 hi] w fun e w' => e = .returned (.bool (decide (lo ≤ v) && decide (v ≤ hi))) ∧ w' = w := by
  by_cases h1 : lo ≤ v
  · have g1 : decide (lo ≤ v) = true := decide_eq_true h1
    by_cases h2 : v ≤ hi
    · have g2 : decide (v ≤ hi) = true := decide_eq_true h2
      rw [g1, g2]
      go_enter Try.func70, Try.ntmps70
      go_wp2
      go_ret
      exact ⟨rfl, rfl⟩
    · have g2 : decide (v ≤ hi) = false := decide_eq_false h2
      rw [g1, g2]
      go_enter Try.func70, Try.ntmps70
      go_wp2
      go_ret
      exact ⟨rfl, rfl⟩
  · have g1 : decide (lo ≤ v) = false := decide_eq_false h1
    rw [g1]
    go_enter Try.func70, Try.ntmps70
    go_wp2
    go_ret
    exact ⟨rfl, rfl⟩
set_option maxRecDepth 100000 in
set_option maxHeartbeats 8000000 in
theorem kcells_any (n d c : Int) (w : World) (hn : 0 ≤ n ∧ n ≤ 65536) (hd : 0 ≤ d ∧ d ≤ 64) (hc : 1 ≤ c ∧ c ≤ 64) : Calls Try.prog 71 #[.int .i64 n, .int .i64 d, .int .i64 c] w fun e w' => e = .returned (.int .i64 ((n + d + c - 1) / c)) ∧ w' = w := by
  have t1 : (n + d + c - 1).tdiv c = (n + d + c - 1) / c := Int.tdiv_eq_ediv_of_nonneg (by omega)
  obtain ⟨q, hq⟩ : ∃ q, (n + d + c - 1) / c = q := ⟨_, rfl⟩
  have bq : 0 ≤ q ∧ q ≤ n + d + c - 1 := by rw [← hq]; exact ⟨Int.ediv_nonneg (by omega) (by omega), Int.ediv_le_self _ (by omega)⟩
  rw [hq] at t1 ⊢
  have u1 : IntKind.i64.wrap (n + d) = n + d := IntWalk.i64_in _ (by omega)
  have u2 : IntKind.i64.wrap (n + d + c) = n + d + c := IntWalk.i64_in _ (by omega)
  have u3 : IntKind.i64.wrap (n + d + c - 1) = n + d + c - 1 := IntWalk.i64_in _ (by omega)
  have u4 : IntKind.i64.wrap q = q := IntWalk.i64_in _ (by omega)
  have z1 : (c == 0) = false := by simp; omega
  have z2 : ¬ c = 0 := by omega
  clear hq
  go_enter Try.func71, Try.ntmps71
  go_wp2
  go_ret
  exact ⟨rfl, rfl⟩
set_option maxRecDepth 100000 in
set_option maxHeartbeats 8000000 in
theorem kCells_any (w h dx dy cw ch : Int) (wd : World) (hw : 1 ≤ w ∧ w ≤ 16384) (hh : 1 ≤ h ∧ h ≤ 16384) (hdx : 0 ≤ dx ∧ dx ≤ 64) (hdy : 0 ≤ dy ∧ dy ≤ 64) (hcw : 1 ≤ cw ∧ cw ≤ 64) (hch : 1 ≤ ch ∧ ch ≤ 64) :
    Calls Try.prog 43 #[.int .i64 w, .int .i64 h, .int .i64 dx, .int .i64 dy, .int .i64 cw, .int .i64 ch] wd fun e w' => e = .returned (.tuple #[.int .i64 ((h + dy + ch - 1) / ch), .int .i64 ((w + dx + cw - 1) / cw)]) ∧ Kept (fun _ => False) wd w' := by
  have HBT := fun (v lo hi : Int) (h1 : lo ≤ v) (h2 : v ≤ hi) (x : World) => show Calls Try.prog 70 #[.int .i64 v, .int .i64 lo, .int .i64 hi] x fun e w' => e = .returned (.bool true) ∧ x = w' from by
    have h := kbetw_any v lo hi x
    rw [decide_eq_true h1, decide_eq_true h2] at h
    exact h.mono fun _ _ h => ⟨h.1, h.2.symm⟩
  have B1 := Lib.hid (HBT w 1 16384 hw.1 hw.2)
  have B2 := Lib.hid (HBT h 1 16384 hh.1 hh.2)
  have B3 := Lib.hid (HBT dx 0 64 hdx.1 hdx.2)
  have B4 := Lib.hid (HBT dy 0 64 hdy.1 hdy.2)
  have B5 := Lib.hid (HBT cw 1 64 hcw.1 hcw.2)
  have B6 := Lib.hid (HBT ch 1 64 hch.1 hch.2)
  have C1 := Lib.hid (fun x => (kcells_any h dy ch x (by omega) hdy hch).mono fun _ _ h => (⟨h.1, h.2.symm⟩ : _ ∧ x = _))
  have C2 := Lib.hid (fun x => (kcells_any w dx cw x (by omega) hdx hcw).mono fun _ _ h => (⟨h.1, h.2.symm⟩ : _ ∧ x = _))
  obtain ⟨q1, hq1⟩ : ∃ q, (h + dy + ch - 1) / ch = q := ⟨_, rfl⟩
  obtain ⟨q2, hq2⟩ : ∃ q, (w + dx + cw - 1) / cw = q := ⟨_, rfl⟩
  rw [hq1] at C1 ⊢
  rw [hq2] at C2 ⊢
  obtain ⟨V, hV⟩ : ∃ V, wd.alloc (.cells #[.int .i64 w, .int .i64 h] 3) = V := ⟨_, rfl⟩
  have kV : Kept (fun _ => False) wd V := by rw [← hV]; exact (Kept.refl _ _).alloc _
  have b0 : V.heap[wd.heap.size]? = some (.cells #[.int .i64 w, .int .i64 h] 3 (0, 0)) := by rw [← hV]; exact blk_new _ _
  have HK := Lib.hid kV
  obtain ⟨⟨x0, -⟩, x1, -⟩ := blk2 b0
  clear HBT hw hh hdx hdy hcw hch hq1 hq2 kV b0
  go_enter Try.func43, Try.ntmps43
  go_wp2
  refine wp_loop_rounds 3 ?_
  rw [rounds_succ]
  go_wp2_with fail
  refine (B1.out _).mono ?_
  rintro e w' ⟨rfl, rfl⟩
  go_wp2
  rw [rounds_succ]
  go_wp2_with fail
  refine (B2.out _).mono ?_
  rintro e w' ⟨rfl, rfl⟩
  go_wp2
  rw [rounds_succ]
  go_wp2_with fail
  refine (B3.out _).mono ?_
  rintro e w' ⟨rfl, rfl⟩
  go_wp2_with fail
  refine (B4.out _).mono ?_
  rintro e w' ⟨rfl, rfl⟩
  go_wp2_with fail
  refine (B5.out _).mono ?_
  rintro e w' ⟨rfl, rfl⟩
  go_wp2_with fail
  refine (B6.out _).mono ?_
  rintro e w' ⟨rfl, rfl⟩
  go_wp2_with fail
  refine (C1.out _).mono ?_
  rintro e w' ⟨rfl, rfl⟩
  go_wp2_with fail
  refine (C2.out _).mono ?_
  rintro e w' ⟨rfl, rfl⟩
  go_wp2
  exact bodyPost_ret (v := .tuple #[.int .i64 q1, .int .i64 q2]) (by simp [results, Try.results43, go_sem]) rfl ⟨rfl, HK.out⟩
def plV (row col pr pc w h z : Int) : Value := .agg #[.int .i64 4, .int .i64 0, .bool false, .int .i64 row, .int .i64 col, .int .i64 pr, .int .i64 pc, .int .i64 0, .int .i64 0, .int .i64 w, .int .i64 h, .int .i64 0, .int .i64 0, .int .i64 z]
theorem blk14 {w : World} {b : Nat} {x0 x1 x2 x3 x4 x5 x6 x7 x8 x9 x10 x11 x12 x13 : Value} {t : TypeId} (h : w.heap[b]? = some (.cells #[x0, x1, x2, x3, x4, x5, x6, x7, x8, x9, x10, x11, x12, x13] t (0, 0))) :
    w.cell? ⟨b, 0, none⟩ = some x0 ∧ w.cell? ⟨b, 1, none⟩ = some x1 ∧ w.cell? ⟨b, 2, none⟩ = some x2 ∧ w.cell? ⟨b, 3, none⟩ = some x3 ∧ w.cell? ⟨b, 4, none⟩ = some x4 ∧ w.cell? ⟨b, 5, none⟩ = some x5 ∧ w.cell? ⟨b, 6, none⟩ = some x6 ∧ w.cell? ⟨b, 7, none⟩ = some x7 ∧ w.cell? ⟨b, 8, none⟩ = some x8 ∧ w.cell? ⟨b, 9, none⟩ = some x9 ∧ w.cell? ⟨b, 10, none⟩ = some x10 ∧ w.cell? ⟨b, 11, none⟩ = some x11 ∧ w.cell? ⟨b, 12, none⟩ = some x12 ∧ w.cell? ⟨b, 13, none⟩ = some x13 :=
  ⟨blk_cell h 0, blk_cell h 1, blk_cell h 2, blk_cell h 3, blk_cell h 4, blk_cell h 5, blk_cell h 6, blk_cell h 7, blk_cell h 8, blk_cell h 9, blk_cell h 10, blk_cell h 11, blk_cell h 12, blk_cell h 13⟩
set_option maxRecDepth 100000 in
set_option maxHeartbeats 8000000 in
theorem region_one (rows cols cw ch : Nat) (la : Option Addr) (ln lc : Nat) (pa : Option Addr) (pn pc' : Nat) (im : Option Nat) (row col w h : Nat) (pr pc z : Int) (wd : World) (hcw : 1 ≤ cw ∧ cw ≤ 64) (hch : 1 ≤ ch ∧ ch ≤ 64) (hw : 1 ≤ w ∧ w ≤ 4000) (hh : 1 ≤ h ∧ h ≤ 4000) (hrow : row ≤ 1000) (hcol : col ≤ 1000)
    (hpr : ((h : Int) + ch - 1) / ch = pr) (hpc : ((w : Int) + cw - 1) / cw = pc) :
    Calls Try.prog 15 #[.agg #[.int .i64 rows, .int .i64 cols, .int .i64 cw, .int .i64 ch, .slice la ln lc, .slice pa pn pc', .map im, .int .i64 0, .bool false, .int .i64 0, .int .i64 0], plV row col pr pc w h z] wd fun e w' =>
      e = .returned (.tuple #[.int .i64 ((col * cw : Nat) : Int), .int .i64 ((row * ch : Nat) : Int), .int .i64 w, .int .i64 h]) ∧ Kept (fun _ => False) wd w' := by
  have HC := Lib.hid (fun x => show Calls Try.prog 43 #[.int .i64 w, .int .i64 h, .int .i64 0, .int .i64 0, .int .i64 cw, .int .i64 ch] x fun e w' => e = .returned (.tuple #[.int .i64 pr, .int .i64 pc]) ∧ Kept (fun _ => False) x w' from by
    have h9 := kCells_any w h 0 0 cw ch x (by omega) (by omega) (by omega) (by omega) (by omega) (by omega)
    rw [Int.add_zero, Int.add_zero, hpr, hpc] at h9
    exact h9)
  have HBT := fun (v lo hi : Int) (h1 : lo ≤ v) (h2 : v ≤ hi) (x : World) => show Calls Try.prog 32 #[.int .i64 v, .int .i64 lo, .int .i64 hi] x fun e w' => e = .returned (.bool true) ∧ x = w' from by
    have h := betw_any v lo hi x
    rw [decide_eq_true h1, decide_eq_true h2] at h
    exact h.mono fun _ _ h => ⟨h.1, h.2.symm⟩
  have B1 := Lib.hid (HBT w 1 16384 (by omega) (by omega))
  have B2 := Lib.hid (HBT h 1 16384 (by omega) (by omega))
  have bX : col * cw ≤ 1000 * 64 := Nat.mul_le_mul hcol hcw.2
  have bY : row * ch ≤ 1000 * 64 := Nat.mul_le_mul hrow hch.2
  have bA : w * h ≤ 4000 * 4000 := Nat.mul_le_mul hw.2 hh.2
  obtain ⟨X, hX⟩ : ∃ x, col * cw = x := ⟨_, rfl⟩
  obtain ⟨Y, hY⟩ : ∃ x, row * ch = x := ⟨_, rfl⟩
  obtain ⟨A, hA⟩ : ∃ x, w * h = x := ⟨_, rfl⟩
  rw [hX] at bX ⊢
  rw [hY] at bY ⊢
  rw [hA] at bA
  have vX : (col : Int) * (cw : Int) = (X : Int) := by rw [← hX]; simp
  have vY : (row : Int) * (ch : Int) = (Y : Int) := by rw [← hY]; simp
  have vA : (w : Int) * (h : Int) = (A : Int) := by rw [← hA]; simp
  have wX : IntKind.i64.wrap (X : Int) = (X : Int) := IntWalk.i64_in _ (by omega)
  have wY : IntKind.i64.wrap (Y : Int) = (Y : Int) := IntWalk.i64_in _ (by omega)
  have wA : IntKind.i64.wrap (A : Int) = (A : Int) := IntWalk.i64_in _ (by omega)
  have wr : IntKind.i64.wrap (row : Int) = (row : Int) := IntWalk.i64_in _ (by omega)
  have gA : decide (67108864 < A) = false := decide_eq_false (by omega)
  have gA' : decide (67108864 < (A : Int)) = false := decide_eq_false (by omega)
  unfold plV
  obtain ⟨V, hV⟩ : ∃ V, (wd.alloc (.cells #[.int .i64 rows, .int .i64 cols, .int .i64 cw, .int .i64 ch, .slice la ln lc, .slice pa pn pc', .map im, .int .i64 0, .bool false, .int .i64 0, .int .i64 0] 26)).alloc (.cells #[.int .i64 4, .int .i64 0, .bool false, .int .i64 row, .int .i64 col, .int .i64 pr, .int .i64 pc, .int .i64 0, .int .i64 0, .int .i64 w, .int .i64 h, .int .i64 0, .int .i64 0, .int .i64 z] 48) = V := ⟨_, rfl⟩
  have kV : Kept (fun _ => False) wd V := by rw [← hV]; exact ((Kept.refl _ _).alloc _).alloc _
  have b0 : V.heap[wd.heap.size]? = some (.cells #[.int .i64 rows, .int .i64 cols, .int .i64 cw, .int .i64 ch, .slice la ln lc, .slice pa pn pc', .map im, .int .i64 0, .bool false, .int .i64 0, .int .i64 0] 26 (0, 0)) := by rw [← hV]; exact blk_alloc (blk_new _ _) _
  have b1 : V.heap[wd.heap.size + 1]? = some (.cells #[.int .i64 4, .int .i64 0, .bool false, .int .i64 row, .int .i64 col, .int .i64 pr, .int .i64 pc, .int .i64 0, .int .i64 0, .int .i64 w, .int .i64 h, .int .i64 0, .int .i64 0, .int .i64 z] 48 (0, 0)) := by rw [← hV]; exact blk_at _ _ (by simp)
  have HB := Lib.hid (And.intro kV (And.intro b0 b1))
  obtain ⟨y0, y1, y2, y3, y4, y5, y6, y7, y8, y9, y10, y11, y12, y13⟩ := blk14 b1
  obtain ⟨-, -, s2, s3, -, -, -, s7, -⟩ := blk11 b0
  obtain ⟨E1, hE1⟩ : ∃ E, V.drew = E := ⟨_, rfl⟩
  have kE : Kept (fun _ => False) V E1 := by rw [← hE1]; exact (Kept.refl _ _).drew
  have HE := Lib.hid (kV.then kE)
  obtain ⟨z0, z1, z2, z3, z4, z5, z6, z7, z8, z9, z10, z11, z12, z13⟩ := blk14 (kE.blk b1 id)
  obtain ⟨-, -, r2, r3, -, -, -, r7, -⟩ := blk11 (kE.blk b0 id)
  clear HBT hcw hch hw hh hrow hcol hpr hpc hX hY hA bX bY bA kV b0 b1
  have HKE := Lib.hid kE
  clear kE
  go_enter Try.func15, Try.ntmps15
  go_wp2
  go_still (by kernel_rfl)
  rw [show (World.mk V.heap V.tape (V.drawn + 1) V.os V.output) = E1 from hE1]
  go_wp2_with fail
  refine (HC.out _).mono ?_
  rintro e w2 ⟨rfl, hk2⟩
  obtain ⟨y0, y1, y2, y3, y4, y5, y6, y7, y8, y9, y10, y11, y12, y13⟩ := blk14 ((HKE.out.then hk2).blk HB.out.2.2 id)
  obtain ⟨-, -, s2, s3, -, -, -, s7, -⟩ := blk11 ((HKE.out.then hk2).blk HB.out.2.1 id)
  have H2 := Lib.hid (HE.out.then hk2)
  clear hk2 z0 z1 z2 z3 z4 z5 z6 z7 z8 z9 z10 z11 z12 z13 r2 r3 r7
  go_wp2_with fail
  refine (B1.out _).mono ?_
  rintro e w' ⟨rfl, rfl⟩
  go_wp2_with fail
  refine (B2.out _).mono ?_
  rintro e w' ⟨rfl, rfl⟩
  go_wp2
  go_still (by kernel_rfl)
  go_wp2
  exact bodyPost_ret (v := .tuple #[.int .i64 X, .int .i64 Y, .int .i64 w, .int .i64 h]) (by simp [results, Try.results15, go_sem]) rfl ⟨rfl, H2.out.drew⟩
end Go.Proofs.Ytdjgmhbfohbenaa
namespace Go.Proofs.Ytdjgmhbfohbenaa
open Go.RowKit Go.Sort Pl
set_option linter.unusedVariables false
set_option linter.unusedSimpArgs false
/-- A place. -/
structure Pz where
  im : Int
  id : Int
  alt : Bool
  line : Int
  col : Int
  rows : Int
  cols : Int
  x : Int
  y : Int
  w : Int
  h : Int
  dx : Int
  dy : Int
  z : Int
def Pz.vs (p : Pz) : List Value := [.int .i64 p.im, .int .i64 p.id, .bool p.alt, .int .i64 p.line, .int .i64 p.col, .int .i64 p.rows, .int .i64 p.cols, .int .i64 p.x, .int .i64 p.y, .int .i64 p.w, .int .i64 p.h, .int .i64 p.dx, .int .i64 p.dy, .int .i64 p.z]
def Pz.cs (p : Pz) : Array Value := #[.int .i64 p.im, .int .i64 p.id, .bool p.alt, .int .i64 p.line, .int .i64 p.col, .int .i64 p.rows, .int .i64 p.cols, .int .i64 p.x, .int .i64 p.y, .int .i64 p.w, .int .i64 p.h, .int .i64 p.dx, .int .i64 p.dy, .int .i64 p.z]
def Pz.val (p : Pz) : Value := .agg #[.int .i64 p.im, .int .i64 p.id, .bool p.alt, .int .i64 p.line, .int .i64 p.col, .int .i64 p.rows, .int .i64 p.cols, .int .i64 p.x, .int .i64 p.y, .int .i64 p.w, .int .i64 p.h, .int .i64 p.dx, .int .i64 p.dy, .int .i64 p.z]
theorem Pz.vs_len (p : Pz) : p.vs.length = 14 := rfl
/-- The fourteen cells at a place's address. -/
def PzAt (w : World) (b o : Nat) (p : Pz) : Prop := ∀ f, f < 14 → w.cell? ⟨b, o + f, none⟩ = p.vs[f]?
theorem PzAt.cells {w : World} {b o : Nat} {p : Pz} (h : PzAt w b o p) : w.cell? ⟨b, o, none⟩ = some (.int .i64 p.im) ∧ w.cell? ⟨b, o + 1, none⟩ = some (.int .i64 p.id) ∧ w.cell? ⟨b, o + 2, none⟩ = some (.bool p.alt) ∧ w.cell? ⟨b, o + 3, none⟩ = some (.int .i64 p.line) ∧ w.cell? ⟨b, o + 4, none⟩ = some (.int .i64 p.col) ∧ w.cell? ⟨b, o + 5, none⟩ = some (.int .i64 p.rows) ∧ w.cell? ⟨b, o + 6, none⟩ = some (.int .i64 p.cols) ∧ w.cell? ⟨b, o + 7, none⟩ = some (.int .i64 p.x) ∧ w.cell? ⟨b, o + 8, none⟩ = some (.int .i64 p.y) ∧ w.cell? ⟨b, o + 9, none⟩ = some (.int .i64 p.w) ∧ w.cell? ⟨b, o + 10, none⟩ = some (.int .i64 p.h) ∧ w.cell? ⟨b, o + 11, none⟩ = some (.int .i64 p.dx) ∧ w.cell? ⟨b, o + 12, none⟩ = some (.int .i64 p.dy) ∧ w.cell? ⟨b, o + 13, none⟩ = some (.int .i64 p.z) :=
  ⟨h 0 (by omega), h 1 (by omega), h 2 (by omega), h 3 (by omega), h 4 (by omega), h 5 (by omega), h 6 (by omega), h 7 (by omega), h 8 (by omega), h 9 (by omega), h 10 (by omega), h 11 (by omega), h 12 (by omega), h 13 (by omega)⟩
theorem PzAt.kept {S : Nat → Prop} {w w' : World} {b o : Nat} {p : Pz} (h : PzAt w b o p) (hk : Kept S w w') (hn : ¬ S b) : PzAt w' b o p := fun f hf => by
  have hv : p.vs[f]? = some (p.vs[f]'(by rw [p.vs_len]; exact hf)) := List.getElem?_eq_getElem _
  rw [hv]
  exact hk.cell ((h f hf).trans hv) hn
/-- A slice, in a block below B, that reads as a list of places. -/
def PzsAt (B : Nat) (w : World) (a : Option Addr) (n : Nat) (L : List Pz) : Prop := L.length = n ∧ (n = 0 ∨ ∃ b off, a = some ⟨b, off, none⟩ ∧ b < B ∧ ∀ j p, L[j]? = some p → PzAt w b (off + j * 14) p)
theorem PzsAt.kept {B : Nat} {S : Nat → Prop} {w w' : World} {a : Option Addr} {n : Nat} {L : List Pz} (h : PzsAt B w a n L) (hk : Kept S w w') (hS : ∀ i, S i → B ≤ i) : PzsAt B w' a n L :=
  ⟨h.1, h.2.imp (fun h => h) fun ⟨b, off, ha, hb, hc⟩ => ⟨b, off, ha, hb, fun j p hp => (hc j p hp).kept hk (fun hs => absurd (hS b hs) (Nat.not_le.2 hb))⟩⟩
/-- Numbers of a place that may be. -/
structure Pz.Ok (p : Pz) : Prop where
  im : I64 p.im
  line : 0 ≤ p.line ∧ p.line ≤ 1125899906842624
  col : 0 ≤ p.col ∧ p.col ≤ 1000
  rows : 1 ≤ p.rows ∧ p.rows ≤ 64
  cols : 1 ≤ p.cols ∧ p.cols ≤ 64
  x : I64 p.x
  y : I64 p.y
  w : 1 ≤ p.w ∧ p.w ≤ 400
  h : 1 ≤ p.h ∧ p.h ≤ 400
  dx : 0 ≤ p.dx ∧ p.dx ≤ 64
  dy : 0 ≤ p.dy ∧ p.dy ≤ 64
  z : I64 p.z
structure Rg where
  x : Int
  y : Int
  w : Int
  h : Int
def fitsP (cw ch : Nat) (p : Pz) : Prop := (p.h + p.dy + (ch : Int) - 1) / (ch : Int) = p.rows ∧ (p.w + p.dx + (cw : Int) - 1) / (cw : Int) = p.cols
instance (cw ch : Nat) (p : Pz) : Decidable (fitsP cw ch p) := by unfold fitsP; exact inferInstance
def regW (cw ch : Nat) (p : Pz) : Int := if fitsP cw ch p then p.w else p.cols * cw - p.dx
def regH (cw ch : Nat) (p : Pz) : Int := if fitsP cw ch p then p.h else p.rows * ch - p.dy
/-- Where a place is drawn. -/
def regP (cw ch : Nat) (top : Int) (p : Pz) : Rg :=
  if (1 ≤ regW cw ch p ∧ regW cw ch p ≤ 16384) ∧ (1 ≤ regH cw ch p ∧ regH cw ch p ≤ 16384) then ⟨p.col * cw + p.dx, (p.line - top) * ch + p.dy, regW cw ch p, regH cw ch p⟩ else ⟨0, 0, 0, 0⟩
/-- An entry of the images' map. -/
structure ME where
  k : Int
  x : Int
  y : Int
  a : Option Addr
  n : Nat
  c : Nat
  p : List Int
  born : Nat
def ME.val (m : ME) : Value := .agg #[.int .i64 m.x, .int .i64 m.y, .slice m.a m.n m.c]
def ME.entry (m : ME) : MapEntry := { key := .int .i64 m.k, val := m.val, born := m.born }
def ME.mx (m : ME) : Mx := ⟨m.x, m.y, m.p⟩
structure MEAt (B : Nat) (w : World) (m : ME) : Prop where
  s : SlAt .u8 w m.a m.n m.p
  b : ∀ b off, 0 < m.n → m.a = some ⟨b, off, none⟩ → b < B
  c : m.n ≤ m.c ∧ m.c ≤ 9223372036854775807
  by' : IsBytes m.p
  k : I64 m.k
  x : I64 m.x
  y : I64 m.y
  nil : m.a = none → m.n = 0 ∧ m.c = 0
theorem MEAt.kept {B : Nat} {S : Nat → Prop} {w w' : World} {m : ME} (h : MEAt B w m) (hk : Kept S w w') (hS : ∀ i, S i → B ≤ i) : MEAt B w' m :=
  ⟨h.s.kept hk (fun b off h0 he hs => absurd (hS b hs) (Nat.not_le.2 (h.b b off h0 he))), h.b, h.c, h.by', h.k, h.x, h.y, h.nil⟩
/-- The images' map in a block below B: nil, or its entries. -/
def MapAt (B : Nat) (w : World) (im : Option Nat) (E : List ME) : Prop :=
  (im = none ∧ E = []) ∨ ∃ b es clock, im = some b ∧ b < B ∧ w.heap[b]? = some (.map es clock) ∧ es.toList = E.map ME.entry ∧ MapKept.Stamped es clock ∧ ∀ m ∈ E, MEAt B w m
theorem MapAt.kept {B : Nat} {S : Nat → Prop} {w w' : World} {im : Option Nat} {E : List ME} (h : MapAt B w im E) (hk : Kept S w w') (hS : ∀ i, S i → B ≤ i) : MapAt B w' im E :=
  h.imp (fun h => h) fun ⟨b, es, clock, h1, h2, h3, h4, h5, h6⟩ => ⟨b, es, clock, h1, h2, hk.blk h3 (fun hs => absurd (hS b hs) (Nat.not_le.2 h2)), h4, h5, fun m hm => (h6 m hm).kept hk hS⟩
theorem MapAt.mem {B : Nat} {w : World} {im : Option Nat} {E : List ME} (h : MapAt B w im E) : ∀ m ∈ E, MEAt B w m := by
  rcases h with ⟨-, rfl⟩ | ⟨-, -, -, -, -, -, -, -, h⟩
  · intro m hm; cases hm
  · exact h
def lookM : List ME → Int → Option ME
  | [], _ => none
  | m :: E, k => if m.k = k then some m else lookM E k
theorem lookM_mem : ∀ {E : List ME} {k : Int} {m : ME}, lookM E k = some m → m ∈ E ∧ m.k = k
  | [], _, _, h => by cases h
  | a :: E, k, m, h => by
    unfold lookM at h
    split at h
    · cases h; exact ⟨List.mem_cons_self, by assumption⟩
    · have h2 := lookM_mem h
      exact ⟨List.mem_cons_of_mem _ h2.1, h2.2⟩
theorem under24 : Try.prog.underlying 24 = some (.map 3 31) := by kernel_rfl
theorem under3 : Try.prog.underlying 3 = some (.int .i64) := by kernel_rfl
theorem info31 : (Try.prog.info? 31).map (fun i => i.zero) = some (some (.agg #[.int .i64 0, .int .i64 0, .slice none 0 0])) := by kernel_rfl
theorem find_yes {k : Int} {m : ME} : ∀ (E : List ME) (i : Nat), lookM E k = some m → ∃ j, Instr.findNow (.int .i64) (.int .i64 k) (E.map ME.entry) i = some (some (j, m.val))
  | [], _, h => by cases h
  | a :: E, i, h => by
    unfold lookM at h
    by_cases hk : a.k = k
    · rw [if_pos hk] at h
      cases h
      exact ⟨i, by simp [Instr.findNow, Instr.sameNow, ME.entry, hk]⟩
    · rw [if_neg hk] at h
      obtain ⟨j, hj⟩ := find_yes E (i + 1) h
      refine ⟨j, ?_⟩
      have hne : (k == a.k) = false := by simp; exact fun h => hk h.symm
      simp only [List.map_cons, Instr.findNow, Instr.sameNow, ME.entry, hne, if_true]
      exact hj
theorem find_no {k : Int} : ∀ (E : List ME) (i : Nat), lookM E k = none → Instr.findNow (.int .i64) (.int .i64 k) (E.map ME.entry) i = some none
  | [], _, _ => rfl
  | a :: E, i, h => by
    unfold lookM at h
    by_cases hk : a.k = k
    · rw [if_pos hk] at h; cases h
    · rw [if_neg hk] at h
      have hj := find_no E (i + 1) h
      have hne : (k == a.k) = false := by simp; exact fun h => hk h.symm
      simp only [List.map_cons, Instr.findNow, Instr.sameNow, ME.entry, hne, if_true]
      exact hj
theorem look_yes {B : Nat} {w : World} {im : Option Nat} {E : List ME} {k : Int} {m : ME} (h : MapAt B w im E) (hm : lookM E k = some m) : (Instr.lookup 24 (.map im) (.int .i64 k) true).run Try.prog w = .ok (.tuple #[m.val, .bool true]) w := by
  rcases h with ⟨-, rfl⟩ | ⟨b, es, clock, rfl, -, hb, he, -, -⟩
  · cases hm
  · obtain ⟨j, hf⟩ := find_yes E 0 hm
    rw [← he] at hf
    have hc : ∀ e, (Instr.checkKey e 10000 3 (.int .i64 k)).run Try.prog w = .ok () w := fun e => MapKept.run_checkKey (k := .int .i64 k) under3 (by simp [MapKept.IsKey]) e 9999
    simp [Instr.lookup, run_underlying under24, MapKept.run_getObj_map hb, hc, MapKept.run_findKey under3 hf, Result.andThen]
theorem look_no {B : Nat} {w : World} {im : Option Nat} {E : List ME} {k : Int} (h : MapAt B w im E) (hm : lookM E k = none) : (Instr.lookup 24 (.map im) (.int .i64 k) true).run Try.prog w = .ok (.tuple #[.agg #[.int .i64 0, .int .i64 0, .slice none 0 0], .bool false]) w := by
  have hc : ∀ e, (Instr.checkKey e 10000 3 (.int .i64 k)).run Try.prog w = .ok () w := fun e => MapKept.run_checkKey (k := .int .i64 k) under3 (by simp [MapKept.IsKey]) e 9999
  have hz : (zeroValue 31).run Try.prog w = .ok (.agg #[.int .i64 0, .int .i64 0, .slice none 0 0]) w := by kernel_rfl
  rcases h with ⟨rfl, rfl⟩ | ⟨b, es, clock, rfl, -, hb, he, -, -⟩
  · have hf : Instr.findNow (.int .i64) (.int .i64 k) ([] : List MapEntry) 0 = some none := rfl
    simp [Instr.lookup, run_underlying under24, hc, MapKept.run_findKey under3 hf, Result.andThen, hz]
  · have hf := find_no E 0 hm
    rw [← he] at hf
    simp [Instr.lookup, run_underlying under24, MapKept.run_getObj_map hb, hc, MapKept.run_findKey under3 hf, Result.andThen, hz]
/-- What a place makes of a picture. -/
def imgStep (W H n cw ch : Nat) (top : Int) (E : List ME) (above : Bool) (P : List Int) (p : Pz) : List Int :=
  match lookM E p.im with
  | none => P
  | some m =>
    if (regP cw ch top p).w = 0 ∨ decide (0 ≤ p.z) ≠ above then P
    else if 0 < (cutM m.x.toNat m.y.toNat p.x p.y p.w p.h m.p).1 then
      layG W H (cutM m.x.toNat m.y.toNat p.x p.y p.w p.h m.p).1 (cutM m.x.toNat m.y.toNat p.x p.y p.w p.h m.p).2.1 (regP cw ch top p).w.toNat (regP cw ch top p).h.toNat (regP cw ch top p).x (regP cw ch top p).y P (cutM m.x.toNat m.y.toNat p.x p.y p.w p.h m.p).2.2 n
    else P
def imgsP (W H n cw ch : Nat) (top : Int) (E : List ME) (L : List Pz) (above : Bool) (P : List Int) : List Int := L.foldl (imgStep W H n cw ch top E above) P
theorem regP_pos {cw ch : Nat} {top : Int} {p : Pz} (h : (regP cw ch top p).w ≠ 0) : (1 ≤ (regP cw ch top p).w ∧ (regP cw ch top p).w ≤ 16384) ∧ (1 ≤ (regP cw ch top p).h ∧ (regP cw ch top p).h ≤ 16384) := by
  unfold regP at h ⊢
  split
  · assumption
  · rename_i hn; rw [if_neg hn] at h; exact absurd rfl h
theorem regP_i64 {cw ch : Nat} {top : Int} {p : Pz} (hp : p.Ok) (hcw : 1 ≤ cw ∧ cw ≤ 64) (hch : 1 ≤ ch ∧ ch ≤ 64) (htop : 0 ≤ top ∧ top ≤ 1125899906842624) : I64 (regP cw ch top p).x ∧ I64 (regP cw ch top p).y := by
  obtain ⟨h1, h2, h3, h4, h5, h6, h7, h8, h9, h10, h11, h12⟩ := hp
  have bX0 : 0 ≤ p.col * (cw : Int) := Int.mul_nonneg (by omega) (by omega)
  have bX1 : p.col * (cw : Int) ≤ 1000 * 64 := Int.mul_le_mul (by omega) (by omega) (by omega) (by omega)
  obtain ⟨U, hU⟩ : ∃ x, p.line - top = x := ⟨_, rfl⟩
  have bY0 : -72057594037927936 ≤ U * (ch : Int) := by
    have h := Int.mul_le_mul_of_nonneg_right (show -1125899906842624 ≤ U by omega) (show (0 : Int) ≤ ch by omega)
    have h2 : (1125899906842624 : Int) * ch ≤ 1125899906842624 * 64 := Int.mul_le_mul_of_nonneg_left (by omega) (by omega)
    rw [Int.neg_mul] at h
    omega
  have bY1 : U * (ch : Int) ≤ 72057594037927936 := by
    have h := Int.mul_le_mul_of_nonneg_right (show U ≤ 1125899906842624 by omega) (show (0 : Int) ≤ ch by omega)
    have h2 : (1125899906842624 : Int) * ch ≤ 1125899906842624 * 64 := Int.mul_le_mul_of_nonneg_left (by omega) (by omega)
    omega
  unfold regP I64
  rw [hU]
  generalize p.col * (cw : Int) = X at *
  generalize U * (ch : Int) = Y at *
  split
  · simp only; omega
  · simp only; omega
end Go.Proofs.Ytdjgmhbfohbenaa
