/- The size of a pass, and the passes. -/
import Derived.Test.YtgpgjpmgnbaneaaInts
import Derived.Test.YtgpgjpmgnbaneaaApp
namespace Go.Proofs.Ytgpgjpmgnbaneaa
open Go.RowKit Pl
set_option linter.unusedVariables false
def Q (x : Int) : Prop := -9223372036854775808 ≤ x ∧ x ≤ 9223372036854775807
theorem ret2i {a b c d : Int} (h1 : a = b) (h2 : c = d) : Ending.returned (.tuple #[.int .i64 a, .int .i64 c]) = .returned (.tuple #[.int .i64 b, .int .i64 d]) := by rw [h1, h2]
theorem tdiv_i {a b : Int} (ha : 0 ≤ a) : a.tdiv b = a / b := Int.tdiv_eq_ediv_of_nonneg ha
theorem ediv_bd {a b A : Int} (ha : 0 ≤ a) (hA : a ≤ A) (hb : 1 ≤ b) : 0 ≤ a / b ∧ a / b ≤ A := by
  refine ⟨Int.ediv_nonneg ha (by omega), Int.le_trans ?_ hA⟩
  exact Int.ediv_le_self b ha
set_option maxRecDepth 100000 in
set_option maxHeartbeats 8000000 in
theorem refSize_any (x y dx dy p q : Int) (w : World) (bx : Q x) (by_ : Q y) (bdx : Q dx) (bdy : Q dy) (bp : Q p) (bq : Q q) :
    Calls Try.prog 16 #[.agg #[.int .i64 x, .int .i64 y, .int .i64 dx, .int .i64 dy], .int .i64 p, .int .i64 q] w fun e w' => e = .returned (.tuple #[.int .i64 (sizeX x y dx dy p q), .int .i64 (sizeY x y dx dy p q)]) ∧ Kept (fun _ => False) w w' := by
  unfold Q at bx by_ bdx bdy bp bq
  have hkb : Kept (fun _ => False) w (w.alloc (.cells #[.int .i64 x, .int .i64 y, .int .i64 dx, .int .i64 dy] 39)) := (Kept.refl _ _).alloc _
  by_cases h1 : p < 1
  · have gh1 : decide (p < 1) = true := decide_eq_true h1
    have hb : sizeB x y dx dy p q = false := decide_eq_false (by omega)
    have ex : sizeX x y dx dy p q = 0 := by unfold sizeX; rw [hb]; rfl
    have ey : sizeY x y dx dy p q = 0 := by unfold sizeY; rw [hb]; rfl
    have HX := Lib.hid ex
    have HY := Lib.hid ey
    clear hb ex ey
    go_enter Try.func16, Try.ntmps16
    go_wp2
    go_ret2
    exact ⟨ret2i HX.out.symm HY.out.symm, hkb⟩
  have gh1 : decide (p < 1) = false := decide_eq_false h1
  by_cases h2 : 16384 < p
  · have gh2 : decide (16384 < p) = true := decide_eq_true h2
    have hb : sizeB x y dx dy p q = false := decide_eq_false (by omega)
    have ex : sizeX x y dx dy p q = 0 := by unfold sizeX; rw [hb]; rfl
    have ey : sizeY x y dx dy p q = 0 := by unfold sizeY; rw [hb]; rfl
    have HX := Lib.hid ex
    have HY := Lib.hid ey
    clear hb ex ey
    go_enter Try.func16, Try.ntmps16
    go_wp2
    go_ret2
    exact ⟨ret2i HX.out.symm HY.out.symm, hkb⟩
  have gh2 : decide (16384 < p) = false := decide_eq_false h2
  by_cases h3 : q < 1
  · have gh3 : decide (q < 1) = true := decide_eq_true h3
    have hb : sizeB x y dx dy p q = false := decide_eq_false (by omega)
    have ex : sizeX x y dx dy p q = 0 := by unfold sizeX; rw [hb]; rfl
    have ey : sizeY x y dx dy p q = 0 := by unfold sizeY; rw [hb]; rfl
    have HX := Lib.hid ex
    have HY := Lib.hid ey
    clear hb ex ey
    go_enter Try.func16, Try.ntmps16
    go_wp2
    go_ret2
    exact ⟨ret2i HX.out.symm HY.out.symm, hkb⟩
  have gh3 : decide (q < 1) = false := decide_eq_false h3
  by_cases h4 : 16384 < q
  · have gh4 : decide (16384 < q) = true := decide_eq_true h4
    have hb : sizeB x y dx dy p q = false := decide_eq_false (by omega)
    have ex : sizeX x y dx dy p q = 0 := by unfold sizeX; rw [hb]; rfl
    have ey : sizeY x y dx dy p q = 0 := by unfold sizeY; rw [hb]; rfl
    have HX := Lib.hid ex
    have HY := Lib.hid ey
    clear hb ex ey
    go_enter Try.func16, Try.ntmps16
    go_wp2
    go_ret2
    exact ⟨ret2i HX.out.symm HY.out.symm, hkb⟩
  have gh4 : decide (16384 < q) = false := decide_eq_false h4
  by_cases h5 : dx < 1
  · have gh5 : decide (dx < 1) = true := decide_eq_true h5
    have hb : sizeB x y dx dy p q = false := decide_eq_false (by omega)
    have ex : sizeX x y dx dy p q = 0 := by unfold sizeX; rw [hb]; rfl
    have ey : sizeY x y dx dy p q = 0 := by unfold sizeY; rw [hb]; rfl
    have HX := Lib.hid ex
    have HY := Lib.hid ey
    clear hb ex ey
    go_enter Try.func16, Try.ntmps16
    go_wp2
    go_ret2
    exact ⟨ret2i HX.out.symm HY.out.symm, hkb⟩
  have gh5 : decide (dx < 1) = false := decide_eq_false h5
  by_cases h6 : dy < 1
  · have gh6 : decide (dy < 1) = true := decide_eq_true h6
    have hb : sizeB x y dx dy p q = false := decide_eq_false (by omega)
    have ex : sizeX x y dx dy p q = 0 := by unfold sizeX; rw [hb]; rfl
    have ey : sizeY x y dx dy p q = 0 := by unfold sizeY; rw [hb]; rfl
    have HX := Lib.hid ex
    have HY := Lib.hid ey
    clear hb ex ey
    go_enter Try.func16, Try.ntmps16
    go_wp2
    go_ret2
    exact ⟨ret2i HX.out.symm HY.out.symm, hkb⟩
  have gh6 : decide (dy < 1) = false := decide_eq_false h6
  by_cases h7 : x < 0
  · have gh7 : decide (x < 0) = true := decide_eq_true h7
    have hb : sizeB x y dx dy p q = false := decide_eq_false (by omega)
    have ex : sizeX x y dx dy p q = 0 := by unfold sizeX; rw [hb]; rfl
    have ey : sizeY x y dx dy p q = 0 := by unfold sizeY; rw [hb]; rfl
    have HX := Lib.hid ex
    have HY := Lib.hid ey
    clear hb ex ey
    go_enter Try.func16, Try.ntmps16
    go_wp2
    go_ret2
    exact ⟨ret2i HX.out.symm HY.out.symm, hkb⟩
  have gh7 : decide (x < 0) = false := decide_eq_false h7
  by_cases h8 : y < 0
  · have gh8 : decide (y < 0) = true := decide_eq_true h8
    have hb : sizeB x y dx dy p q = false := decide_eq_false (by omega)
    have ex : sizeX x y dx dy p q = 0 := by unfold sizeX; rw [hb]; rfl
    have ey : sizeY x y dx dy p q = 0 := by unfold sizeY; rw [hb]; rfl
    have HX := Lib.hid ex
    have HY := Lib.hid ey
    clear hb ex ey
    go_enter Try.func16, Try.ntmps16
    go_wp2
    go_ret2
    exact ⟨ret2i HX.out.symm HY.out.symm, hkb⟩
  have gh8 : decide (y < 0) = false := decide_eq_false h8
  by_cases h9 : p ≤ x
  · have gh9 : decide (p ≤ x) = true := decide_eq_true h9
    have hb : sizeB x y dx dy p q = false := decide_eq_false (by omega)
    have ex : sizeX x y dx dy p q = 0 := by unfold sizeX; rw [hb]; rfl
    have ey : sizeY x y dx dy p q = 0 := by unfold sizeY; rw [hb]; rfl
    have HX := Lib.hid ex
    have HY := Lib.hid ey
    clear hb ex ey
    go_enter Try.func16, Try.ntmps16
    go_wp2
    go_ret2
    exact ⟨ret2i HX.out.symm HY.out.symm, hkb⟩
  have gh9 : decide (p ≤ x) = false := decide_eq_false h9
  by_cases h10 : q ≤ y
  · have gh10 : decide (q ≤ y) = true := decide_eq_true h10
    have hb : sizeB x y dx dy p q = false := decide_eq_false (by omega)
    have ex : sizeX x y dx dy p q = 0 := by unfold sizeX; rw [hb]; rfl
    have ey : sizeY x y dx dy p q = 0 := by unfold sizeY; rw [hb]; rfl
    have HX := Lib.hid ex
    have HY := Lib.hid ey
    clear hb ex ey
    go_enter Try.func16, Try.ntmps16
    go_wp2
    go_ret2
    exact ⟨ret2i HX.out.symm HY.out.symm, hkb⟩
  have gh10 : decide (q ≤ y) = false := decide_eq_false h10
  have hb : sizeB x y dx dy p q = true := decide_eq_true (by omega)
  have ex : sizeX x y dx dy p q = sizeI x dx p := by unfold sizeX; rw [hb]; rfl
  have ey : sizeY x y dx dy p q = sizeI y dy q := by unfold sizeY; rw [hb]; rfl
  unfold sizeI at ex ey
  obtain ⟨b1, b2⟩ := ediv_bd (show 0 ≤ p - x - 1 by omega) (show p - x - 1 ≤ 16384 by omega) (show 1 ≤ dx by omega)
  obtain ⟨b3, b4⟩ := ediv_bd (show 0 ≤ q - y - 1 by omega) (show q - y - 1 ≤ 16384 by omega) (show 1 ≤ dy by omega)
  have t1 := tdiv_i (b := dx) (show 0 ≤ p - x - 1 by omega)
  have t2 := tdiv_i (b := dy) (show 0 ≤ q - y - 1 by omega)
  obtain ⟨u, hu⟩ : ∃ u, (p - x - 1) / dx = u := ⟨_, rfl⟩
  obtain ⟨v, hv⟩ : ∃ v, (q - y - 1) / dy = v := ⟨_, rfl⟩
  rw [hu] at b1 b2 t1 ex
  rw [hv] at b3 b4 t2 ey
  have n1 : ¬ dx = 0 := by omega
  have n2 : ¬ dy = 0 := by omega
  have m1 : ¬ dx = -1 := by omega
  have m2 : ¬ dy = -1 := by omega
  have s1 : IntKind.i64.wrap (p - x) = p - x := IntWalk.i64_in _ (by omega)
  have s2 : IntKind.i64.wrap (p - x - 1) = p - x - 1 := IntWalk.i64_in _ (by omega)
  have s3 : IntKind.i64.wrap (q - y) = q - y := IntWalk.i64_in _ (by omega)
  have s4 : IntKind.i64.wrap (q - y - 1) = q - y - 1 := IntWalk.i64_in _ (by omega)
  have s5 : IntKind.i64.wrap u = u := IntWalk.i64_in _ (by omega)
  have s6 : IntKind.i64.wrap v = v := IntWalk.i64_in _ (by omega)
  have s7 : IntKind.i64.wrap (u + 1) = u + 1 := IntWalk.i64_in _ (by omega)
  have s8 : IntKind.i64.wrap (v + 1) = v + 1 := IntWalk.i64_in _ (by omega)
  have HX := Lib.hid ex
  have HY := Lib.hid ey
  clear hb ex ey
  go_enter Try.func16, Try.ntmps16
  go_wp2
  go_quiet (fail)
  clear s1 s2 s3 s4 s5 s6 s7 s8 t1 t2 hu hv
  go_wp2
  go_ret2
  exact ⟨ret2i HX.out.symm HY.out.symm, hkb.drewN _⟩
set_option maxRecDepth 100000 in
set_option maxHeartbeats 8000000 in
theorem size_any (x y dx dy p q : Int) (w : World) (bx : Q x) (by_ : Q y) (bdx : Q dx) (bdy : Q dy) (bp : Q p) (bq : Q q) :
    Calls Try.prog 15 #[.agg #[.int .i64 x, .int .i64 y, .int .i64 dx, .int .i64 dy], .int .i64 p, .int .i64 q] w fun e w' => e = .returned (.tuple #[.int .i64 (sizeX x y dx dy p q), .int .i64 (sizeY x y dx dy p q)]) ∧ Kept (fun _ => False) w w' := by
  unfold Q at bx by_ bdx bdy bp bq
  have hkb : Kept (fun _ => False) w (w.alloc (.cells #[.int .i64 x, .int .i64 y, .int .i64 dx, .int .i64 dy] 35)) := (Kept.refl _ _).alloc _
  by_cases hs1 : 1 ≤ p ∧ p ≤ 16384
  case neg =>
    have gs1 : decide (1 ≤ p ∧ p ≤ 16384) = false := decide_eq_false hs1
    have hb : sizeB x y dx dy p q = false := decide_eq_false (by omega)
    have ex : sizeX x y dx dy p q = 0 := by unfold sizeX; rw [hb]; rfl
    have ey : sizeY x y dx dy p q = 0 := by unfold sizeY; rw [hb]; rfl
    have HX := Lib.hid ex
    have HY := Lib.hid ey
    clear hb ex ey
    go_enter Try.func15, Try.ntmps15
    go_wp2_with (go_at_call 26; refine (isSide_any _ _).mono ?_; rintro e w' ⟨rfl, rfl⟩; (first | rw [gs1] | skip); (first | rw [gs2] | skip))
    go_ret2
    exact ⟨ret2i HX.out.symm HY.out.symm, hkb⟩
  have gs1 : decide (1 ≤ p ∧ p ≤ 16384) = true := decide_eq_true hs1
  by_cases hs2 : 1 ≤ q ∧ q ≤ 16384
  case neg =>
    have gs2 : decide (1 ≤ q ∧ q ≤ 16384) = false := decide_eq_false hs2
    have hb : sizeB x y dx dy p q = false := decide_eq_false (by omega)
    have ex : sizeX x y dx dy p q = 0 := by unfold sizeX; rw [hb]; rfl
    have ey : sizeY x y dx dy p q = 0 := by unfold sizeY; rw [hb]; rfl
    have HX := Lib.hid ex
    have HY := Lib.hid ey
    clear hb ex ey
    go_enter Try.func15, Try.ntmps15
    go_wp2_with (go_at_call 26; refine (isSide_any _ _).mono ?_; rintro e w' ⟨rfl, rfl⟩; (first | rw [gs1] | skip); (first | rw [gs2] | skip))
    go_ret2
    exact ⟨ret2i HX.out.symm HY.out.symm, hkb⟩
  have gs2 : decide (1 ≤ q ∧ q ≤ 16384) = true := decide_eq_true hs2
  by_cases h5 : x < 0
  · have gh5 : decide (x < 0) = true := decide_eq_true h5
    have hb : sizeB x y dx dy p q = false := decide_eq_false (by omega)
    have ex : sizeX x y dx dy p q = 0 := by unfold sizeX; rw [hb]; rfl
    have ey : sizeY x y dx dy p q = 0 := by unfold sizeY; rw [hb]; rfl
    have HX := Lib.hid ex
    have HY := Lib.hid ey
    clear hb ex ey
    go_enter Try.func15, Try.ntmps15
    go_wp2_with (go_at_call 26; refine (isSide_any _ _).mono ?_; rintro e w' ⟨rfl, rfl⟩; (first | rw [gs1] | skip); (first | rw [gs2] | skip))
    go_ret2
    exact ⟨ret2i HX.out.symm HY.out.symm, hkb⟩
  have gh5 : decide (x < 0) = false := decide_eq_false h5
  by_cases h6 : y < 0
  · have gh6 : decide (y < 0) = true := decide_eq_true h6
    have hb : sizeB x y dx dy p q = false := decide_eq_false (by omega)
    have ex : sizeX x y dx dy p q = 0 := by unfold sizeX; rw [hb]; rfl
    have ey : sizeY x y dx dy p q = 0 := by unfold sizeY; rw [hb]; rfl
    have HX := Lib.hid ex
    have HY := Lib.hid ey
    clear hb ex ey
    go_enter Try.func15, Try.ntmps15
    go_wp2_with (go_at_call 26; refine (isSide_any _ _).mono ?_; rintro e w' ⟨rfl, rfl⟩; (first | rw [gs1] | skip); (first | rw [gs2] | skip))
    go_ret2
    exact ⟨ret2i HX.out.symm HY.out.symm, hkb⟩
  have gh6 : decide (y < 0) = false := decide_eq_false h6
  by_cases h7 : dx < 1
  · have gh7 : decide (dx < 1) = true := decide_eq_true h7
    have hb : sizeB x y dx dy p q = false := decide_eq_false (by omega)
    have ex : sizeX x y dx dy p q = 0 := by unfold sizeX; rw [hb]; rfl
    have ey : sizeY x y dx dy p q = 0 := by unfold sizeY; rw [hb]; rfl
    have HX := Lib.hid ex
    have HY := Lib.hid ey
    clear hb ex ey
    go_enter Try.func15, Try.ntmps15
    go_wp2_with (go_at_call 26; refine (isSide_any _ _).mono ?_; rintro e w' ⟨rfl, rfl⟩; (first | rw [gs1] | skip); (first | rw [gs2] | skip))
    go_ret2
    exact ⟨ret2i HX.out.symm HY.out.symm, hkb⟩
  have gh7 : decide (dx < 1) = false := decide_eq_false h7
  by_cases h8 : dy < 1
  · have gh8 : decide (dy < 1) = true := decide_eq_true h8
    have hb : sizeB x y dx dy p q = false := decide_eq_false (by omega)
    have ex : sizeX x y dx dy p q = 0 := by unfold sizeX; rw [hb]; rfl
    have ey : sizeY x y dx dy p q = 0 := by unfold sizeY; rw [hb]; rfl
    have HX := Lib.hid ex
    have HY := Lib.hid ey
    clear hb ex ey
    go_enter Try.func15, Try.ntmps15
    go_wp2_with (go_at_call 26; refine (isSide_any _ _).mono ?_; rintro e w' ⟨rfl, rfl⟩; (first | rw [gs1] | skip); (first | rw [gs2] | skip))
    go_ret2
    exact ⟨ret2i HX.out.symm HY.out.symm, hkb⟩
  have gh8 : decide (dy < 1) = false := decide_eq_false h8
  by_cases h9 : p ≤ x
  · have gh9 : decide (p ≤ x) = true := decide_eq_true h9
    have hb : sizeB x y dx dy p q = false := decide_eq_false (by omega)
    have ex : sizeX x y dx dy p q = 0 := by unfold sizeX; rw [hb]; rfl
    have ey : sizeY x y dx dy p q = 0 := by unfold sizeY; rw [hb]; rfl
    have HX := Lib.hid ex
    have HY := Lib.hid ey
    clear hb ex ey
    go_enter Try.func15, Try.ntmps15
    go_wp2_with (go_at_call 26; refine (isSide_any _ _).mono ?_; rintro e w' ⟨rfl, rfl⟩; (first | rw [gs1] | skip); (first | rw [gs2] | skip))
    go_ret2
    exact ⟨ret2i HX.out.symm HY.out.symm, hkb⟩
  have gh9 : decide (p ≤ x) = false := decide_eq_false h9
  by_cases h10 : q ≤ y
  · have gh10 : decide (q ≤ y) = true := decide_eq_true h10
    have hb : sizeB x y dx dy p q = false := decide_eq_false (by omega)
    have ex : sizeX x y dx dy p q = 0 := by unfold sizeX; rw [hb]; rfl
    have ey : sizeY x y dx dy p q = 0 := by unfold sizeY; rw [hb]; rfl
    have HX := Lib.hid ex
    have HY := Lib.hid ey
    clear hb ex ey
    go_enter Try.func15, Try.ntmps15
    go_wp2_with (go_at_call 26; refine (isSide_any _ _).mono ?_; rintro e w' ⟨rfl, rfl⟩; (first | rw [gs1] | skip); (first | rw [gs2] | skip))
    go_ret2
    exact ⟨ret2i HX.out.symm HY.out.symm, hkb⟩
  have gh10 : decide (q ≤ y) = false := decide_eq_false h10
  have hb : sizeB x y dx dy p q = true := decide_eq_true (by omega)
  have ex : sizeX x y dx dy p q = sizeI x dx p := by unfold sizeX; rw [hb]; rfl
  have ey : sizeY x y dx dy p q = sizeI y dy q := by unfold sizeY; rw [hb]; rfl
  unfold sizeI at ex ey
  obtain ⟨b1, b2⟩ := ediv_bd (show 0 ≤ p - x - 1 by omega) (show p - x - 1 ≤ 16384 by omega) (show 1 ≤ dx by omega)
  obtain ⟨b3, b4⟩ := ediv_bd (show 0 ≤ q - y - 1 by omega) (show q - y - 1 ≤ 16384 by omega) (show 1 ≤ dy by omega)
  have t1 := tdiv_i (b := dx) (show 0 ≤ p - x - 1 by omega)
  have t2 := tdiv_i (b := dy) (show 0 ≤ q - y - 1 by omega)
  obtain ⟨u, hu⟩ : ∃ u, (p - x - 1) / dx = u := ⟨_, rfl⟩
  obtain ⟨v, hv⟩ : ∃ v, (q - y - 1) / dy = v := ⟨_, rfl⟩
  rw [hu] at b1 b2 t1 ex
  rw [hv] at b3 b4 t2 ey
  have n1 : ¬ dx = 0 := by omega
  have n2 : ¬ dy = 0 := by omega
  have m1 : ¬ dx = -1 := by omega
  have m2 : ¬ dy = -1 := by omega
  have s1 : IntKind.i64.wrap (p - x) = p - x := IntWalk.i64_in _ (by omega)
  have s2 : IntKind.i64.wrap (p - x - 1) = p - x - 1 := IntWalk.i64_in _ (by omega)
  have s3 : IntKind.i64.wrap (q - y) = q - y := IntWalk.i64_in _ (by omega)
  have s4 : IntKind.i64.wrap (q - y - 1) = q - y - 1 := IntWalk.i64_in _ (by omega)
  have s5 : IntKind.i64.wrap u = u := IntWalk.i64_in _ (by omega)
  have s6 : IntKind.i64.wrap v = v := IntWalk.i64_in _ (by omega)
  have s7 : IntKind.i64.wrap (u + 1) = u + 1 := IntWalk.i64_in _ (by omega)
  have s8 : IntKind.i64.wrap (v + 1) = v + 1 := IntWalk.i64_in _ (by omega)
  have HX := Lib.hid ex
  have HY := Lib.hid ey
  clear hb ex ey
  go_enter Try.func15, Try.ntmps15
  go_wp2_with (go_at_call 26; refine (isSide_any _ _).mono ?_; rintro e w' ⟨rfl, rfl⟩; (first | rw [gs1] | skip); (first | rw [gs2] | skip))
  go_quiet (fail)
  clear s1 s2 s3 s4 s5 s6 s7 s8 t1 t2 hu hv
  go_wp2
  go_ret2
  exact ⟨ret2i HX.out.symm HY.out.symm, hkb.drewN _⟩
def passArr : Array Value := #[.int .i64 0, .int .i64 0, .int .i64 8, .int .i64 8, .int .i64 4, .int .i64 0, .int .i64 8, .int .i64 8, .int .i64 0, .int .i64 4, .int .i64 4, .int .i64 8, .int .i64 2, .int .i64 0, .int .i64 4, .int .i64 4, .int .i64 0, .int .i64 2, .int .i64 2, .int .i64 4, .int .i64 1, .int .i64 0, .int .i64 2, .int .i64 2, .int .i64 0, .int .i64 1, .int .i64 1, .int .i64 2]
set_option maxRecDepth 100000 in
set_option maxHeartbeats 1000000 in
theorem passes_any (w : World) : Calls Try.prog 17 #[] w fun e w' => e = .returned (.slice (some ⟨w.heap.size, 0, none⟩) 7 7) ∧ w'.heap[w.heap.size]? = some (.cells passArr 35 (0, 0)) ∧ Kept (fun _ => False) w w' ∧ w.heap.size < w'.heap.size := by
  go_enter Try.func17, Try.ntmps17
  go_wp2
  go_ret
  exact ⟨rfl, blk_new _ _, (Kept.refl _ _).alloc _, by simp⟩
set_option maxRecDepth 100000 in
set_option maxHeartbeats 1000000 in
theorem refPasses_any (w : World) : Calls Try.prog 18 #[] w fun e w' => e = .returned (.slice (some ⟨w.heap.size, 0, none⟩) 7 7) ∧ w'.heap[w.heap.size]? = some (.cells passArr 39 (0, 0)) ∧ Kept (fun _ => False) w w' ∧ w.heap.size < w'.heap.size := by
  go_enter Try.func18, Try.ntmps18
  go_wp2
  go_ret
  exact ⟨rfl, blk_new _ _, (Kept.refl _ _).alloc _, by simp⟩
end Go.Proofs.Ytgpgjpmgnbaneaa
