/- What a pixel of a glyph is, by the document. -/
import Derived.Test.YtdjgmhbfohbenaaMFil
namespace Go.Proofs.Ytdjgmhbfohbenaa
open Go.RowKit Go.Sort Pl
set_option linter.unusedVariables false
set_option linter.unusedSimpArgs false
def lineB (fl h y : Int) : Prop := (hasB fl 8 = true ∧ y = h - 1) ∨ (hasB fl 128 = true ∧ y = h / 2)
def outB (r w h x y : Int) : Prop := r ≤ 32 ∨ x - w / 4 < 0 ∨ y - h / 4 < 0 ∨ (w + 1) / 2 ≤ x - w / 4 ∨ (h + 1) / 2 ≤ y - h / 4
def eyeB (r w h x y : Int) : Prop := 2 < (w + 1) / 2 ∧ 2 < (h + 1) / 2 ∧ x - w / 4 = r % ((w + 1) / 2) ∧ y - h / 4 = r / 256 % ((h + 1) / 2)
open Classical in
noncomputable def kindI (r w h fl x y : Int) : Int := if lineB fl h y then 1 else if outB r w h x y then 0 else if eyeB r w h x y then 2 else 1
open Classical in
theorem kind_line {r w h fl x y : Int} (h1 : lineB fl h y) : kindI r w h fl x y = 1 := if_pos h1
open Classical in
theorem kind_out {r w h fl x y : Int} (h1 : ¬ lineB fl h y) (h2 : outB r w h x y) : kindI r w h fl x y = 0 := by unfold kindI; rw [if_neg h1, if_pos h2]
open Classical in
theorem kind_eye {r w h fl x y : Int} (h1 : ¬ lineB fl h y) (h2 : ¬ outB r w h x y) (h3 : eyeB r w h x y) : kindI r w h fl x y = 2 := by unfold kindI; rw [if_neg h1, if_neg h2, if_pos h3]
open Classical in
theorem kind_box {r w h fl x y : Int} (h1 : ¬ lineB fl h y) (h2 : ¬ outB r w h x y) (h3 : ¬ eyeB r w h x y) : kindI r w h fl x y = 1 := by unfold kindI; rw [if_neg h1, if_neg h2, if_neg h3]
set_option maxRecDepth 100000 in
set_option maxHeartbeats 8000000 in
theorem kind_rest_tt (r w h fg bg fl x y : Int) (wd : World) (hr : -2147483648 ≤ r ∧ r ≤ 2147483647) (hw : 1 ≤ w ∧ w ≤ 128) (hh : 1 ≤ h ∧ h ≤ 64) (hx : 0 ≤ x ∧ x ≤ 65536) (hy : 0 ≤ y ∧ y ≤ 65536) (g8 : (bits .and .i64 fl 8 != 0) = true) (g128 : (bits .and .i64 fl 128 != 0) = true) (e1 : ¬ y = h - 1) (e2 : ¬ y = h / 2) :
    Calls Try.prog 50 #[.int .i64 r, .int .i64 w, .int .i64 h, .agg #[.int .i64 fg, .int .i64 bg, .int .i64 fl], .int .i64 x, .int .i64 y] wd fun e w' => e = .returned (.int .i64 (kindI r w h fl x y)) ∧ Kept (fun _ => False) wd w' := by
  obtain ⟨x4, hx4⟩ : ∃ x, w / 4 = x := ⟨_, rfl⟩
  obtain ⟨y4, hy4⟩ : ∃ x, h / 4 = x := ⟨_, rfl⟩
  obtain ⟨bw, hbw⟩ : ∃ x, (w + 1) / 2 = x := ⟨_, rfl⟩
  obtain ⟨bh, hbh⟩ : ∃ x, (h + 1) / 2 = x := ⟨_, rfl⟩
  obtain ⟨h2, hh2⟩ : ∃ x, h / 2 = x := ⟨_, rfl⟩
  have t1 : w.tdiv 4 = x4 := by rw [Int.tdiv_eq_ediv_of_nonneg (by omega)]; exact hx4
  have t2 : h.tdiv 4 = y4 := by rw [Int.tdiv_eq_ediv_of_nonneg (by omega)]; exact hy4
  have t3 : (w + 1).tdiv 2 = bw := by rw [Int.tdiv_eq_ediv_of_nonneg (by omega)]; exact hbw
  have t4 : (h + 1).tdiv 2 = bh := by rw [Int.tdiv_eq_ediv_of_nonneg (by omega)]; exact hbh
  have t5 : h.tdiv 2 = h2 := by rw [Int.tdiv_eq_ediv_of_nonneg (by omega)]; exact hh2
  have bx4 : 0 ≤ x4 ∧ x4 ≤ 32 := by omega
  have by4 : 0 ≤ y4 ∧ y4 ≤ 16 := by omega
  have bbw : 1 ≤ bw ∧ bw ≤ 64 := by omega
  have bbh : 1 ≤ bh ∧ bh ≤ 32 := by omega
  have bh2 : 0 ≤ h2 ∧ h2 ≤ 32 := by omega
  have u1 : IntKind.i64.wrap x4 = x4 := IntWalk.i64_in _ (by omega)
  have u2 : IntKind.i64.wrap y4 = y4 := IntWalk.i64_in _ (by omega)
  have u3 : IntKind.i64.wrap bw = bw := IntWalk.i64_in _ (by omega)
  have u4 : IntKind.i64.wrap bh = bh := IntWalk.i64_in _ (by omega)
  have u5 : IntKind.i64.wrap h2 = h2 := IntWalk.i64_in _ (by omega)
  have u6 : IntKind.i64.wrap (w + 1) = w + 1 := IntWalk.i64_in _ (by omega)
  have u7 : IntKind.i64.wrap (h + 1) = h + 1 := IntWalk.i64_in _ (by omega)
  have u8 : IntKind.i64.wrap (h - 1) = h - 1 := IntWalk.i64_in _ (by omega)
  have u10 : IntKind.i64.wrap (x - x4) = x - x4 := IntWalk.i64_in _ (by omega)
  have u11 : IntKind.i64.wrap (y - y4) = y - y4 := IntWalk.i64_in _ (by omega)
  obtain ⟨z8, hz8⟩ : ∃ z, bits .and .i64 fl 8 = z := ⟨_, rfl⟩
  obtain ⟨z128, hz128⟩ : ∃ z, bits .and .i64 fl 128 = z := ⟨_, rfl⟩
  rw [hz8] at g8
  rw [hz128] at g128
  have HLN : ¬ lineB fl h y := by
    unfold lineB hasB
    rw [hz8, hz128]
    rintro (⟨q, q2⟩ | ⟨q, q2⟩)
    · exact e1 q2
    · exact e2 q2
  have f1 : (y == h - 1) = false := by simp [e1]
  have f2 : (y == h2) = false := by rw [hh2] at e2; simp [e2]
  by_cases c0 : r ≤ 32
  · have d0 : decide (r ≤ 32) = true := decide_eq_true c0
    rw [kind_out HLN (show outB r w h x y from .inl c0)]
    clear c0
    go_enter Try.func50, Try.ntmps50
    go_wp2
    go_ret
    exact ⟨rfl, (Kept.refl _ _).alloc _⟩
  have d0 : decide (r ≤ 32) = false := decide_eq_false c0
  by_cases c1 : x - x4 < 0
  · have d1 : decide (x - x4 < 0) = true := decide_eq_true c1
    rw [kind_out HLN (show outB r w h x y from .inr (.inl (by rw [hx4]; exact c1)))]
    clear c1
    go_enter Try.func50, Try.ntmps50
    go_wp2
    go_ret
    exact ⟨rfl, (Kept.refl _ _).alloc _⟩
  have d1 : decide (x - x4 < 0) = false := decide_eq_false c1
  by_cases c2 : y - y4 < 0
  · have d2 : decide (y - y4 < 0) = true := decide_eq_true c2
    rw [kind_out HLN (show outB r w h x y from .inr (.inr (.inl (by rw [hy4]; exact c2))))]
    clear c2
    go_enter Try.func50, Try.ntmps50
    go_wp2
    go_ret
    exact ⟨rfl, (Kept.refl _ _).alloc _⟩
  have d2 : decide (y - y4 < 0) = false := decide_eq_false c2
  by_cases c3 : bw ≤ x - x4
  · have d3 : decide (bw ≤ x - x4) = true := decide_eq_true c3
    rw [kind_out HLN (show outB r w h x y from .inr (.inr (.inr (.inl (by rw [hx4, hbw]; exact c3)))))]
    clear c3
    go_enter Try.func50, Try.ntmps50
    go_wp2
    go_ret
    exact ⟨rfl, (Kept.refl _ _).alloc _⟩
  have d3 : decide (bw ≤ x - x4) = false := decide_eq_false c3
  by_cases c4 : bh ≤ y - y4
  · have d4 : decide (bh ≤ y - y4) = true := decide_eq_true c4
    rw [kind_out HLN (show outB r w h x y from .inr (.inr (.inr (.inr (by rw [hy4, hbh]; exact c4)))))]
    clear c4
    go_enter Try.func50, Try.ntmps50
    go_wp2
    go_ret
    exact ⟨rfl, (Kept.refl _ _).alloc _⟩
  have d4 : decide (bh ≤ y - y4) = false := decide_eq_false c4
  have HO : ¬ outB r w h x y := by unfold outB; rw [hx4, hy4, hbw, hbh]; omega
  have c0' : 32 < r := by omega
  have r1 : r.tmod bw = r % bw := Int.tmod_eq_emod_of_nonneg (by omega)
  have r2 : r.tdiv 256 = r / 256 := Int.tdiv_eq_ediv_of_nonneg (by omega)
  have r3 : (r / 256).tmod bh = r / 256 % bh := Int.tmod_eq_emod_of_nonneg (by omega)
  obtain ⟨m1, hm1⟩ : ∃ m, r % bw = m := ⟨_, rfl⟩
  obtain ⟨m2, hm2⟩ : ∃ m, r / 256 % bh = m := ⟨_, rfl⟩
  have bm1 : 0 ≤ m1 ∧ m1 < 64 := by rw [← hm1]; exact ⟨Int.emod_nonneg _ (by omega), by have := Int.emod_lt_of_pos r (show 0 < bw by omega); omega⟩
  have bm2 : 0 ≤ m2 ∧ m2 < 32 := by rw [← hm2]; exact ⟨Int.emod_nonneg _ (by omega), by have := Int.emod_lt_of_pos (r / 256) (show 0 < bh by omega); omega⟩
  obtain ⟨rq, hrq⟩ : ∃ x, r / 256 = x := ⟨_, rfl⟩
  rw [hm1] at r1
  rw [hm2] at r3
  rw [hrq] at r2 r3
  have s1 : IntKind.i64.wrap m1 = m1 := IntWalk.i64_in _ (by omega)
  have s2 : IntKind.i64.wrap rq = rq := IntWalk.i64_in _ (by omega)
  have s3 : IntKind.i64.wrap m2 = m2 := IntWalk.i64_in _ (by omega)
  have zb1 : (bw == 0) = false := by simp; omega
  have zb2 : (bh == 0) = false := by simp; omega
  have zb3 : ¬ bw = 0 := by omega
  have zb4 : ¬ bh = 0 := by omega
  by_cases i0 : 2 < bw
  rotate_left
  · have j0 : decide (2 < bw) = false := decide_eq_false i0
    rw [kind_box HLN HO (show ¬ eyeB r w h x y from by unfold eyeB; rw [hx4, hy4, hbw, hbh, hm1, hm2]; omega)]
    clear HLN HO hm1 hm2 hrq i0
    go_enter Try.func50, Try.ntmps50
    go_wp2
    go_ret
    exact ⟨rfl, (Kept.refl _ _).alloc _⟩
  have j0 : decide (2 < bw) = true := decide_eq_true i0
  by_cases i1 : 2 < bh
  rotate_left
  · have j1 : decide (2 < bh) = false := decide_eq_false i1
    rw [kind_box HLN HO (show ¬ eyeB r w h x y from by unfold eyeB; rw [hx4, hy4, hbw, hbh, hm1, hm2]; omega)]
    clear HLN HO hm1 hm2 hrq i1
    go_enter Try.func50, Try.ntmps50
    go_wp2
    go_ret
    exact ⟨rfl, (Kept.refl _ _).alloc _⟩
  have j1 : decide (2 < bh) = true := decide_eq_true i1
  by_cases i2 : x - x4 = m1
  rotate_left
  · have j2 : (x - x4 == m1) = false := by simp [i2]
    rw [kind_box HLN HO (show ¬ eyeB r w h x y from by unfold eyeB; rw [hx4, hy4, hbw, hbh, hm1, hm2]; omega)]
    clear HLN HO hm1 hm2 hrq i2
    go_enter Try.func50, Try.ntmps50
    go_wp2
    go_ret
    exact ⟨rfl, (Kept.refl _ _).alloc _⟩
  have j2 : (x - x4 == m1) = true := by simp [i2]
  by_cases i3 : y - y4 = m2
  rotate_left
  · have j3 : (y - y4 == m2) = false := by simp [i3]
    rw [kind_box HLN HO (show ¬ eyeB r w h x y from by unfold eyeB; rw [hx4, hy4, hbw, hbh, hm1, hm2]; omega)]
    clear HLN HO hm1 hm2 hrq i3
    go_enter Try.func50, Try.ntmps50
    go_wp2
    go_ret
    exact ⟨rfl, (Kept.refl _ _).alloc _⟩
  have j3 : (y - y4 == m2) = true := by simp [i3]
  rw [kind_eye HLN HO (show eyeB r w h x y from by unfold eyeB; rw [hx4, hy4, hbw, hbh, hm1, hm2]; exact ⟨i0, i1, i2, i3⟩)]
  clear HLN HO hm1 hm2 hrq i0 i1 i2 i3
  go_enter Try.func50, Try.ntmps50
  go_wp2
  go_ret
  exact ⟨rfl, (Kept.refl _ _).alloc _⟩
set_option maxRecDepth 100000 in
set_option maxHeartbeats 8000000 in
theorem kind_rest_tf (r w h fg bg fl x y : Int) (wd : World) (hr : -2147483648 ≤ r ∧ r ≤ 2147483647) (hw : 1 ≤ w ∧ w ≤ 128) (hh : 1 ≤ h ∧ h ≤ 64) (hx : 0 ≤ x ∧ x ≤ 65536) (hy : 0 ≤ y ∧ y ≤ 65536) (g8 : (bits .and .i64 fl 8 != 0) = true) (g128 : (bits .and .i64 fl 128 != 0) = false) (e1 : ¬ y = h - 1) :
    Calls Try.prog 50 #[.int .i64 r, .int .i64 w, .int .i64 h, .agg #[.int .i64 fg, .int .i64 bg, .int .i64 fl], .int .i64 x, .int .i64 y] wd fun e w' => e = .returned (.int .i64 (kindI r w h fl x y)) ∧ Kept (fun _ => False) wd w' := by
  obtain ⟨x4, hx4⟩ : ∃ x, w / 4 = x := ⟨_, rfl⟩
  obtain ⟨y4, hy4⟩ : ∃ x, h / 4 = x := ⟨_, rfl⟩
  obtain ⟨bw, hbw⟩ : ∃ x, (w + 1) / 2 = x := ⟨_, rfl⟩
  obtain ⟨bh, hbh⟩ : ∃ x, (h + 1) / 2 = x := ⟨_, rfl⟩
  obtain ⟨h2, hh2⟩ : ∃ x, h / 2 = x := ⟨_, rfl⟩
  have t1 : w.tdiv 4 = x4 := by rw [Int.tdiv_eq_ediv_of_nonneg (by omega)]; exact hx4
  have t2 : h.tdiv 4 = y4 := by rw [Int.tdiv_eq_ediv_of_nonneg (by omega)]; exact hy4
  have t3 : (w + 1).tdiv 2 = bw := by rw [Int.tdiv_eq_ediv_of_nonneg (by omega)]; exact hbw
  have t4 : (h + 1).tdiv 2 = bh := by rw [Int.tdiv_eq_ediv_of_nonneg (by omega)]; exact hbh
  have t5 : h.tdiv 2 = h2 := by rw [Int.tdiv_eq_ediv_of_nonneg (by omega)]; exact hh2
  have bx4 : 0 ≤ x4 ∧ x4 ≤ 32 := by omega
  have by4 : 0 ≤ y4 ∧ y4 ≤ 16 := by omega
  have bbw : 1 ≤ bw ∧ bw ≤ 64 := by omega
  have bbh : 1 ≤ bh ∧ bh ≤ 32 := by omega
  have bh2 : 0 ≤ h2 ∧ h2 ≤ 32 := by omega
  have u1 : IntKind.i64.wrap x4 = x4 := IntWalk.i64_in _ (by omega)
  have u2 : IntKind.i64.wrap y4 = y4 := IntWalk.i64_in _ (by omega)
  have u3 : IntKind.i64.wrap bw = bw := IntWalk.i64_in _ (by omega)
  have u4 : IntKind.i64.wrap bh = bh := IntWalk.i64_in _ (by omega)
  have u5 : IntKind.i64.wrap h2 = h2 := IntWalk.i64_in _ (by omega)
  have u6 : IntKind.i64.wrap (w + 1) = w + 1 := IntWalk.i64_in _ (by omega)
  have u7 : IntKind.i64.wrap (h + 1) = h + 1 := IntWalk.i64_in _ (by omega)
  have u8 : IntKind.i64.wrap (h - 1) = h - 1 := IntWalk.i64_in _ (by omega)
  have u10 : IntKind.i64.wrap (x - x4) = x - x4 := IntWalk.i64_in _ (by omega)
  have u11 : IntKind.i64.wrap (y - y4) = y - y4 := IntWalk.i64_in _ (by omega)
  obtain ⟨z8, hz8⟩ : ∃ z, bits .and .i64 fl 8 = z := ⟨_, rfl⟩
  obtain ⟨z128, hz128⟩ : ∃ z, bits .and .i64 fl 128 = z := ⟨_, rfl⟩
  rw [hz8] at g8
  rw [hz128] at g128
  have HLN : ¬ lineB fl h y := by
    unfold lineB hasB
    rw [hz8, hz128]
    rintro (⟨q, q2⟩ | ⟨q, q2⟩)
    · exact e1 q2
    · rw [g128] at q; cases q
  have f1 : (y == h - 1) = false := by simp [e1]
  by_cases c0 : r ≤ 32
  · have d0 : decide (r ≤ 32) = true := decide_eq_true c0
    rw [kind_out HLN (show outB r w h x y from .inl c0)]
    clear c0
    go_enter Try.func50, Try.ntmps50
    go_wp2
    go_ret
    exact ⟨rfl, (Kept.refl _ _).alloc _⟩
  have d0 : decide (r ≤ 32) = false := decide_eq_false c0
  by_cases c1 : x - x4 < 0
  · have d1 : decide (x - x4 < 0) = true := decide_eq_true c1
    rw [kind_out HLN (show outB r w h x y from .inr (.inl (by rw [hx4]; exact c1)))]
    clear c1
    go_enter Try.func50, Try.ntmps50
    go_wp2
    go_ret
    exact ⟨rfl, (Kept.refl _ _).alloc _⟩
  have d1 : decide (x - x4 < 0) = false := decide_eq_false c1
  by_cases c2 : y - y4 < 0
  · have d2 : decide (y - y4 < 0) = true := decide_eq_true c2
    rw [kind_out HLN (show outB r w h x y from .inr (.inr (.inl (by rw [hy4]; exact c2))))]
    clear c2
    go_enter Try.func50, Try.ntmps50
    go_wp2
    go_ret
    exact ⟨rfl, (Kept.refl _ _).alloc _⟩
  have d2 : decide (y - y4 < 0) = false := decide_eq_false c2
  by_cases c3 : bw ≤ x - x4
  · have d3 : decide (bw ≤ x - x4) = true := decide_eq_true c3
    rw [kind_out HLN (show outB r w h x y from .inr (.inr (.inr (.inl (by rw [hx4, hbw]; exact c3)))))]
    clear c3
    go_enter Try.func50, Try.ntmps50
    go_wp2
    go_ret
    exact ⟨rfl, (Kept.refl _ _).alloc _⟩
  have d3 : decide (bw ≤ x - x4) = false := decide_eq_false c3
  by_cases c4 : bh ≤ y - y4
  · have d4 : decide (bh ≤ y - y4) = true := decide_eq_true c4
    rw [kind_out HLN (show outB r w h x y from .inr (.inr (.inr (.inr (by rw [hy4, hbh]; exact c4)))))]
    clear c4
    go_enter Try.func50, Try.ntmps50
    go_wp2
    go_ret
    exact ⟨rfl, (Kept.refl _ _).alloc _⟩
  have d4 : decide (bh ≤ y - y4) = false := decide_eq_false c4
  have HO : ¬ outB r w h x y := by unfold outB; rw [hx4, hy4, hbw, hbh]; omega
  have c0' : 32 < r := by omega
  have r1 : r.tmod bw = r % bw := Int.tmod_eq_emod_of_nonneg (by omega)
  have r2 : r.tdiv 256 = r / 256 := Int.tdiv_eq_ediv_of_nonneg (by omega)
  have r3 : (r / 256).tmod bh = r / 256 % bh := Int.tmod_eq_emod_of_nonneg (by omega)
  obtain ⟨m1, hm1⟩ : ∃ m, r % bw = m := ⟨_, rfl⟩
  obtain ⟨m2, hm2⟩ : ∃ m, r / 256 % bh = m := ⟨_, rfl⟩
  have bm1 : 0 ≤ m1 ∧ m1 < 64 := by rw [← hm1]; exact ⟨Int.emod_nonneg _ (by omega), by have := Int.emod_lt_of_pos r (show 0 < bw by omega); omega⟩
  have bm2 : 0 ≤ m2 ∧ m2 < 32 := by rw [← hm2]; exact ⟨Int.emod_nonneg _ (by omega), by have := Int.emod_lt_of_pos (r / 256) (show 0 < bh by omega); omega⟩
  obtain ⟨rq, hrq⟩ : ∃ x, r / 256 = x := ⟨_, rfl⟩
  rw [hm1] at r1
  rw [hm2] at r3
  rw [hrq] at r2 r3
  have s1 : IntKind.i64.wrap m1 = m1 := IntWalk.i64_in _ (by omega)
  have s2 : IntKind.i64.wrap rq = rq := IntWalk.i64_in _ (by omega)
  have s3 : IntKind.i64.wrap m2 = m2 := IntWalk.i64_in _ (by omega)
  have zb1 : (bw == 0) = false := by simp; omega
  have zb2 : (bh == 0) = false := by simp; omega
  have zb3 : ¬ bw = 0 := by omega
  have zb4 : ¬ bh = 0 := by omega
  by_cases i0 : 2 < bw
  rotate_left
  · have j0 : decide (2 < bw) = false := decide_eq_false i0
    rw [kind_box HLN HO (show ¬ eyeB r w h x y from by unfold eyeB; rw [hx4, hy4, hbw, hbh, hm1, hm2]; omega)]
    clear HLN HO hm1 hm2 hrq i0
    go_enter Try.func50, Try.ntmps50
    go_wp2
    go_ret
    exact ⟨rfl, (Kept.refl _ _).alloc _⟩
  have j0 : decide (2 < bw) = true := decide_eq_true i0
  by_cases i1 : 2 < bh
  rotate_left
  · have j1 : decide (2 < bh) = false := decide_eq_false i1
    rw [kind_box HLN HO (show ¬ eyeB r w h x y from by unfold eyeB; rw [hx4, hy4, hbw, hbh, hm1, hm2]; omega)]
    clear HLN HO hm1 hm2 hrq i1
    go_enter Try.func50, Try.ntmps50
    go_wp2
    go_ret
    exact ⟨rfl, (Kept.refl _ _).alloc _⟩
  have j1 : decide (2 < bh) = true := decide_eq_true i1
  by_cases i2 : x - x4 = m1
  rotate_left
  · have j2 : (x - x4 == m1) = false := by simp [i2]
    rw [kind_box HLN HO (show ¬ eyeB r w h x y from by unfold eyeB; rw [hx4, hy4, hbw, hbh, hm1, hm2]; omega)]
    clear HLN HO hm1 hm2 hrq i2
    go_enter Try.func50, Try.ntmps50
    go_wp2
    go_ret
    exact ⟨rfl, (Kept.refl _ _).alloc _⟩
  have j2 : (x - x4 == m1) = true := by simp [i2]
  by_cases i3 : y - y4 = m2
  rotate_left
  · have j3 : (y - y4 == m2) = false := by simp [i3]
    rw [kind_box HLN HO (show ¬ eyeB r w h x y from by unfold eyeB; rw [hx4, hy4, hbw, hbh, hm1, hm2]; omega)]
    clear HLN HO hm1 hm2 hrq i3
    go_enter Try.func50, Try.ntmps50
    go_wp2
    go_ret
    exact ⟨rfl, (Kept.refl _ _).alloc _⟩
  have j3 : (y - y4 == m2) = true := by simp [i3]
  rw [kind_eye HLN HO (show eyeB r w h x y from by unfold eyeB; rw [hx4, hy4, hbw, hbh, hm1, hm2]; exact ⟨i0, i1, i2, i3⟩)]
  clear HLN HO hm1 hm2 hrq i0 i1 i2 i3
  go_enter Try.func50, Try.ntmps50
  go_wp2
  go_ret
  exact ⟨rfl, (Kept.refl _ _).alloc _⟩
set_option maxRecDepth 100000 in
set_option maxHeartbeats 8000000 in
theorem kind_rest_ft (r w h fg bg fl x y : Int) (wd : World) (hr : -2147483648 ≤ r ∧ r ≤ 2147483647) (hw : 1 ≤ w ∧ w ≤ 128) (hh : 1 ≤ h ∧ h ≤ 64) (hx : 0 ≤ x ∧ x ≤ 65536) (hy : 0 ≤ y ∧ y ≤ 65536) (g8 : (bits .and .i64 fl 8 != 0) = false) (g128 : (bits .and .i64 fl 128 != 0) = true) (e2 : ¬ y = h / 2) :
    Calls Try.prog 50 #[.int .i64 r, .int .i64 w, .int .i64 h, .agg #[.int .i64 fg, .int .i64 bg, .int .i64 fl], .int .i64 x, .int .i64 y] wd fun e w' => e = .returned (.int .i64 (kindI r w h fl x y)) ∧ Kept (fun _ => False) wd w' := by
  obtain ⟨x4, hx4⟩ : ∃ x, w / 4 = x := ⟨_, rfl⟩
  obtain ⟨y4, hy4⟩ : ∃ x, h / 4 = x := ⟨_, rfl⟩
  obtain ⟨bw, hbw⟩ : ∃ x, (w + 1) / 2 = x := ⟨_, rfl⟩
  obtain ⟨bh, hbh⟩ : ∃ x, (h + 1) / 2 = x := ⟨_, rfl⟩
  obtain ⟨h2, hh2⟩ : ∃ x, h / 2 = x := ⟨_, rfl⟩
  have t1 : w.tdiv 4 = x4 := by rw [Int.tdiv_eq_ediv_of_nonneg (by omega)]; exact hx4
  have t2 : h.tdiv 4 = y4 := by rw [Int.tdiv_eq_ediv_of_nonneg (by omega)]; exact hy4
  have t3 : (w + 1).tdiv 2 = bw := by rw [Int.tdiv_eq_ediv_of_nonneg (by omega)]; exact hbw
  have t4 : (h + 1).tdiv 2 = bh := by rw [Int.tdiv_eq_ediv_of_nonneg (by omega)]; exact hbh
  have t5 : h.tdiv 2 = h2 := by rw [Int.tdiv_eq_ediv_of_nonneg (by omega)]; exact hh2
  have bx4 : 0 ≤ x4 ∧ x4 ≤ 32 := by omega
  have by4 : 0 ≤ y4 ∧ y4 ≤ 16 := by omega
  have bbw : 1 ≤ bw ∧ bw ≤ 64 := by omega
  have bbh : 1 ≤ bh ∧ bh ≤ 32 := by omega
  have bh2 : 0 ≤ h2 ∧ h2 ≤ 32 := by omega
  have u1 : IntKind.i64.wrap x4 = x4 := IntWalk.i64_in _ (by omega)
  have u2 : IntKind.i64.wrap y4 = y4 := IntWalk.i64_in _ (by omega)
  have u3 : IntKind.i64.wrap bw = bw := IntWalk.i64_in _ (by omega)
  have u4 : IntKind.i64.wrap bh = bh := IntWalk.i64_in _ (by omega)
  have u5 : IntKind.i64.wrap h2 = h2 := IntWalk.i64_in _ (by omega)
  have u6 : IntKind.i64.wrap (w + 1) = w + 1 := IntWalk.i64_in _ (by omega)
  have u7 : IntKind.i64.wrap (h + 1) = h + 1 := IntWalk.i64_in _ (by omega)
  have u8 : IntKind.i64.wrap (h - 1) = h - 1 := IntWalk.i64_in _ (by omega)
  have u10 : IntKind.i64.wrap (x - x4) = x - x4 := IntWalk.i64_in _ (by omega)
  have u11 : IntKind.i64.wrap (y - y4) = y - y4 := IntWalk.i64_in _ (by omega)
  obtain ⟨z8, hz8⟩ : ∃ z, bits .and .i64 fl 8 = z := ⟨_, rfl⟩
  obtain ⟨z128, hz128⟩ : ∃ z, bits .and .i64 fl 128 = z := ⟨_, rfl⟩
  rw [hz8] at g8
  rw [hz128] at g128
  have HLN : ¬ lineB fl h y := by
    unfold lineB hasB
    rw [hz8, hz128]
    rintro (⟨q, q2⟩ | ⟨q, q2⟩)
    · rw [g8] at q; cases q
    · exact e2 q2
  have f2 : (y == h2) = false := by rw [hh2] at e2; simp [e2]
  by_cases c0 : r ≤ 32
  · have d0 : decide (r ≤ 32) = true := decide_eq_true c0
    rw [kind_out HLN (show outB r w h x y from .inl c0)]
    clear c0
    go_enter Try.func50, Try.ntmps50
    go_wp2
    go_ret
    exact ⟨rfl, (Kept.refl _ _).alloc _⟩
  have d0 : decide (r ≤ 32) = false := decide_eq_false c0
  by_cases c1 : x - x4 < 0
  · have d1 : decide (x - x4 < 0) = true := decide_eq_true c1
    rw [kind_out HLN (show outB r w h x y from .inr (.inl (by rw [hx4]; exact c1)))]
    clear c1
    go_enter Try.func50, Try.ntmps50
    go_wp2
    go_ret
    exact ⟨rfl, (Kept.refl _ _).alloc _⟩
  have d1 : decide (x - x4 < 0) = false := decide_eq_false c1
  by_cases c2 : y - y4 < 0
  · have d2 : decide (y - y4 < 0) = true := decide_eq_true c2
    rw [kind_out HLN (show outB r w h x y from .inr (.inr (.inl (by rw [hy4]; exact c2))))]
    clear c2
    go_enter Try.func50, Try.ntmps50
    go_wp2
    go_ret
    exact ⟨rfl, (Kept.refl _ _).alloc _⟩
  have d2 : decide (y - y4 < 0) = false := decide_eq_false c2
  by_cases c3 : bw ≤ x - x4
  · have d3 : decide (bw ≤ x - x4) = true := decide_eq_true c3
    rw [kind_out HLN (show outB r w h x y from .inr (.inr (.inr (.inl (by rw [hx4, hbw]; exact c3)))))]
    clear c3
    go_enter Try.func50, Try.ntmps50
    go_wp2
    go_ret
    exact ⟨rfl, (Kept.refl _ _).alloc _⟩
  have d3 : decide (bw ≤ x - x4) = false := decide_eq_false c3
  by_cases c4 : bh ≤ y - y4
  · have d4 : decide (bh ≤ y - y4) = true := decide_eq_true c4
    rw [kind_out HLN (show outB r w h x y from .inr (.inr (.inr (.inr (by rw [hy4, hbh]; exact c4)))))]
    clear c4
    go_enter Try.func50, Try.ntmps50
    go_wp2
    go_ret
    exact ⟨rfl, (Kept.refl _ _).alloc _⟩
  have d4 : decide (bh ≤ y - y4) = false := decide_eq_false c4
  have HO : ¬ outB r w h x y := by unfold outB; rw [hx4, hy4, hbw, hbh]; omega
  have c0' : 32 < r := by omega
  have r1 : r.tmod bw = r % bw := Int.tmod_eq_emod_of_nonneg (by omega)
  have r2 : r.tdiv 256 = r / 256 := Int.tdiv_eq_ediv_of_nonneg (by omega)
  have r3 : (r / 256).tmod bh = r / 256 % bh := Int.tmod_eq_emod_of_nonneg (by omega)
  obtain ⟨m1, hm1⟩ : ∃ m, r % bw = m := ⟨_, rfl⟩
  obtain ⟨m2, hm2⟩ : ∃ m, r / 256 % bh = m := ⟨_, rfl⟩
  have bm1 : 0 ≤ m1 ∧ m1 < 64 := by rw [← hm1]; exact ⟨Int.emod_nonneg _ (by omega), by have := Int.emod_lt_of_pos r (show 0 < bw by omega); omega⟩
  have bm2 : 0 ≤ m2 ∧ m2 < 32 := by rw [← hm2]; exact ⟨Int.emod_nonneg _ (by omega), by have := Int.emod_lt_of_pos (r / 256) (show 0 < bh by omega); omega⟩
  obtain ⟨rq, hrq⟩ : ∃ x, r / 256 = x := ⟨_, rfl⟩
  rw [hm1] at r1
  rw [hm2] at r3
  rw [hrq] at r2 r3
  have s1 : IntKind.i64.wrap m1 = m1 := IntWalk.i64_in _ (by omega)
  have s2 : IntKind.i64.wrap rq = rq := IntWalk.i64_in _ (by omega)
  have s3 : IntKind.i64.wrap m2 = m2 := IntWalk.i64_in _ (by omega)
  have zb1 : (bw == 0) = false := by simp; omega
  have zb2 : (bh == 0) = false := by simp; omega
  have zb3 : ¬ bw = 0 := by omega
  have zb4 : ¬ bh = 0 := by omega
  by_cases i0 : 2 < bw
  rotate_left
  · have j0 : decide (2 < bw) = false := decide_eq_false i0
    rw [kind_box HLN HO (show ¬ eyeB r w h x y from by unfold eyeB; rw [hx4, hy4, hbw, hbh, hm1, hm2]; omega)]
    clear HLN HO hm1 hm2 hrq i0
    go_enter Try.func50, Try.ntmps50
    go_wp2
    go_ret
    exact ⟨rfl, (Kept.refl _ _).alloc _⟩
  have j0 : decide (2 < bw) = true := decide_eq_true i0
  by_cases i1 : 2 < bh
  rotate_left
  · have j1 : decide (2 < bh) = false := decide_eq_false i1
    rw [kind_box HLN HO (show ¬ eyeB r w h x y from by unfold eyeB; rw [hx4, hy4, hbw, hbh, hm1, hm2]; omega)]
    clear HLN HO hm1 hm2 hrq i1
    go_enter Try.func50, Try.ntmps50
    go_wp2
    go_ret
    exact ⟨rfl, (Kept.refl _ _).alloc _⟩
  have j1 : decide (2 < bh) = true := decide_eq_true i1
  by_cases i2 : x - x4 = m1
  rotate_left
  · have j2 : (x - x4 == m1) = false := by simp [i2]
    rw [kind_box HLN HO (show ¬ eyeB r w h x y from by unfold eyeB; rw [hx4, hy4, hbw, hbh, hm1, hm2]; omega)]
    clear HLN HO hm1 hm2 hrq i2
    go_enter Try.func50, Try.ntmps50
    go_wp2
    go_ret
    exact ⟨rfl, (Kept.refl _ _).alloc _⟩
  have j2 : (x - x4 == m1) = true := by simp [i2]
  by_cases i3 : y - y4 = m2
  rotate_left
  · have j3 : (y - y4 == m2) = false := by simp [i3]
    rw [kind_box HLN HO (show ¬ eyeB r w h x y from by unfold eyeB; rw [hx4, hy4, hbw, hbh, hm1, hm2]; omega)]
    clear HLN HO hm1 hm2 hrq i3
    go_enter Try.func50, Try.ntmps50
    go_wp2
    go_ret
    exact ⟨rfl, (Kept.refl _ _).alloc _⟩
  have j3 : (y - y4 == m2) = true := by simp [i3]
  rw [kind_eye HLN HO (show eyeB r w h x y from by unfold eyeB; rw [hx4, hy4, hbw, hbh, hm1, hm2]; exact ⟨i0, i1, i2, i3⟩)]
  clear HLN HO hm1 hm2 hrq i0 i1 i2 i3
  go_enter Try.func50, Try.ntmps50
  go_wp2
  go_ret
  exact ⟨rfl, (Kept.refl _ _).alloc _⟩
set_option maxRecDepth 100000 in
set_option maxHeartbeats 8000000 in
theorem kind_rest_ff (r w h fg bg fl x y : Int) (wd : World) (hr : -2147483648 ≤ r ∧ r ≤ 2147483647) (hw : 1 ≤ w ∧ w ≤ 128) (hh : 1 ≤ h ∧ h ≤ 64) (hx : 0 ≤ x ∧ x ≤ 65536) (hy : 0 ≤ y ∧ y ≤ 65536) (g8 : (bits .and .i64 fl 8 != 0) = false) (g128 : (bits .and .i64 fl 128 != 0) = false) :
    Calls Try.prog 50 #[.int .i64 r, .int .i64 w, .int .i64 h, .agg #[.int .i64 fg, .int .i64 bg, .int .i64 fl], .int .i64 x, .int .i64 y] wd fun e w' => e = .returned (.int .i64 (kindI r w h fl x y)) ∧ Kept (fun _ => False) wd w' := by
  obtain ⟨x4, hx4⟩ : ∃ x, w / 4 = x := ⟨_, rfl⟩
  obtain ⟨y4, hy4⟩ : ∃ x, h / 4 = x := ⟨_, rfl⟩
  obtain ⟨bw, hbw⟩ : ∃ x, (w + 1) / 2 = x := ⟨_, rfl⟩
  obtain ⟨bh, hbh⟩ : ∃ x, (h + 1) / 2 = x := ⟨_, rfl⟩
  obtain ⟨h2, hh2⟩ : ∃ x, h / 2 = x := ⟨_, rfl⟩
  have t1 : w.tdiv 4 = x4 := by rw [Int.tdiv_eq_ediv_of_nonneg (by omega)]; exact hx4
  have t2 : h.tdiv 4 = y4 := by rw [Int.tdiv_eq_ediv_of_nonneg (by omega)]; exact hy4
  have t3 : (w + 1).tdiv 2 = bw := by rw [Int.tdiv_eq_ediv_of_nonneg (by omega)]; exact hbw
  have t4 : (h + 1).tdiv 2 = bh := by rw [Int.tdiv_eq_ediv_of_nonneg (by omega)]; exact hbh
  have t5 : h.tdiv 2 = h2 := by rw [Int.tdiv_eq_ediv_of_nonneg (by omega)]; exact hh2
  have bx4 : 0 ≤ x4 ∧ x4 ≤ 32 := by omega
  have by4 : 0 ≤ y4 ∧ y4 ≤ 16 := by omega
  have bbw : 1 ≤ bw ∧ bw ≤ 64 := by omega
  have bbh : 1 ≤ bh ∧ bh ≤ 32 := by omega
  have bh2 : 0 ≤ h2 ∧ h2 ≤ 32 := by omega
  have u1 : IntKind.i64.wrap x4 = x4 := IntWalk.i64_in _ (by omega)
  have u2 : IntKind.i64.wrap y4 = y4 := IntWalk.i64_in _ (by omega)
  have u3 : IntKind.i64.wrap bw = bw := IntWalk.i64_in _ (by omega)
  have u4 : IntKind.i64.wrap bh = bh := IntWalk.i64_in _ (by omega)
  have u5 : IntKind.i64.wrap h2 = h2 := IntWalk.i64_in _ (by omega)
  have u6 : IntKind.i64.wrap (w + 1) = w + 1 := IntWalk.i64_in _ (by omega)
  have u7 : IntKind.i64.wrap (h + 1) = h + 1 := IntWalk.i64_in _ (by omega)
  have u8 : IntKind.i64.wrap (h - 1) = h - 1 := IntWalk.i64_in _ (by omega)
  have u10 : IntKind.i64.wrap (x - x4) = x - x4 := IntWalk.i64_in _ (by omega)
  have u11 : IntKind.i64.wrap (y - y4) = y - y4 := IntWalk.i64_in _ (by omega)
  obtain ⟨z8, hz8⟩ : ∃ z, bits .and .i64 fl 8 = z := ⟨_, rfl⟩
  obtain ⟨z128, hz128⟩ : ∃ z, bits .and .i64 fl 128 = z := ⟨_, rfl⟩
  rw [hz8] at g8
  rw [hz128] at g128
  have HLN : ¬ lineB fl h y := by
    unfold lineB hasB
    rw [hz8, hz128]
    rintro (⟨q, q2⟩ | ⟨q, q2⟩)
    · rw [g8] at q; cases q
    · rw [g128] at q; cases q
  by_cases c0 : r ≤ 32
  · have d0 : decide (r ≤ 32) = true := decide_eq_true c0
    rw [kind_out HLN (show outB r w h x y from .inl c0)]
    clear c0
    go_enter Try.func50, Try.ntmps50
    go_wp2
    go_ret
    exact ⟨rfl, (Kept.refl _ _).alloc _⟩
  have d0 : decide (r ≤ 32) = false := decide_eq_false c0
  by_cases c1 : x - x4 < 0
  · have d1 : decide (x - x4 < 0) = true := decide_eq_true c1
    rw [kind_out HLN (show outB r w h x y from .inr (.inl (by rw [hx4]; exact c1)))]
    clear c1
    go_enter Try.func50, Try.ntmps50
    go_wp2
    go_ret
    exact ⟨rfl, (Kept.refl _ _).alloc _⟩
  have d1 : decide (x - x4 < 0) = false := decide_eq_false c1
  by_cases c2 : y - y4 < 0
  · have d2 : decide (y - y4 < 0) = true := decide_eq_true c2
    rw [kind_out HLN (show outB r w h x y from .inr (.inr (.inl (by rw [hy4]; exact c2))))]
    clear c2
    go_enter Try.func50, Try.ntmps50
    go_wp2
    go_ret
    exact ⟨rfl, (Kept.refl _ _).alloc _⟩
  have d2 : decide (y - y4 < 0) = false := decide_eq_false c2
  by_cases c3 : bw ≤ x - x4
  · have d3 : decide (bw ≤ x - x4) = true := decide_eq_true c3
    rw [kind_out HLN (show outB r w h x y from .inr (.inr (.inr (.inl (by rw [hx4, hbw]; exact c3)))))]
    clear c3
    go_enter Try.func50, Try.ntmps50
    go_wp2
    go_ret
    exact ⟨rfl, (Kept.refl _ _).alloc _⟩
  have d3 : decide (bw ≤ x - x4) = false := decide_eq_false c3
  by_cases c4 : bh ≤ y - y4
  · have d4 : decide (bh ≤ y - y4) = true := decide_eq_true c4
    rw [kind_out HLN (show outB r w h x y from .inr (.inr (.inr (.inr (by rw [hy4, hbh]; exact c4)))))]
    clear c4
    go_enter Try.func50, Try.ntmps50
    go_wp2
    go_ret
    exact ⟨rfl, (Kept.refl _ _).alloc _⟩
  have d4 : decide (bh ≤ y - y4) = false := decide_eq_false c4
  have HO : ¬ outB r w h x y := by unfold outB; rw [hx4, hy4, hbw, hbh]; omega
  have c0' : 32 < r := by omega
  have r1 : r.tmod bw = r % bw := Int.tmod_eq_emod_of_nonneg (by omega)
  have r2 : r.tdiv 256 = r / 256 := Int.tdiv_eq_ediv_of_nonneg (by omega)
  have r3 : (r / 256).tmod bh = r / 256 % bh := Int.tmod_eq_emod_of_nonneg (by omega)
  obtain ⟨m1, hm1⟩ : ∃ m, r % bw = m := ⟨_, rfl⟩
  obtain ⟨m2, hm2⟩ : ∃ m, r / 256 % bh = m := ⟨_, rfl⟩
  have bm1 : 0 ≤ m1 ∧ m1 < 64 := by rw [← hm1]; exact ⟨Int.emod_nonneg _ (by omega), by have := Int.emod_lt_of_pos r (show 0 < bw by omega); omega⟩
  have bm2 : 0 ≤ m2 ∧ m2 < 32 := by rw [← hm2]; exact ⟨Int.emod_nonneg _ (by omega), by have := Int.emod_lt_of_pos (r / 256) (show 0 < bh by omega); omega⟩
  obtain ⟨rq, hrq⟩ : ∃ x, r / 256 = x := ⟨_, rfl⟩
  rw [hm1] at r1
  rw [hm2] at r3
  rw [hrq] at r2 r3
  have s1 : IntKind.i64.wrap m1 = m1 := IntWalk.i64_in _ (by omega)
  have s2 : IntKind.i64.wrap rq = rq := IntWalk.i64_in _ (by omega)
  have s3 : IntKind.i64.wrap m2 = m2 := IntWalk.i64_in _ (by omega)
  have zb1 : (bw == 0) = false := by simp; omega
  have zb2 : (bh == 0) = false := by simp; omega
  have zb3 : ¬ bw = 0 := by omega
  have zb4 : ¬ bh = 0 := by omega
  by_cases i0 : 2 < bw
  rotate_left
  · have j0 : decide (2 < bw) = false := decide_eq_false i0
    rw [kind_box HLN HO (show ¬ eyeB r w h x y from by unfold eyeB; rw [hx4, hy4, hbw, hbh, hm1, hm2]; omega)]
    clear HLN HO hm1 hm2 hrq i0
    go_enter Try.func50, Try.ntmps50
    go_wp2
    go_ret
    exact ⟨rfl, (Kept.refl _ _).alloc _⟩
  have j0 : decide (2 < bw) = true := decide_eq_true i0
  by_cases i1 : 2 < bh
  rotate_left
  · have j1 : decide (2 < bh) = false := decide_eq_false i1
    rw [kind_box HLN HO (show ¬ eyeB r w h x y from by unfold eyeB; rw [hx4, hy4, hbw, hbh, hm1, hm2]; omega)]
    clear HLN HO hm1 hm2 hrq i1
    go_enter Try.func50, Try.ntmps50
    go_wp2
    go_ret
    exact ⟨rfl, (Kept.refl _ _).alloc _⟩
  have j1 : decide (2 < bh) = true := decide_eq_true i1
  by_cases i2 : x - x4 = m1
  rotate_left
  · have j2 : (x - x4 == m1) = false := by simp [i2]
    rw [kind_box HLN HO (show ¬ eyeB r w h x y from by unfold eyeB; rw [hx4, hy4, hbw, hbh, hm1, hm2]; omega)]
    clear HLN HO hm1 hm2 hrq i2
    go_enter Try.func50, Try.ntmps50
    go_wp2
    go_ret
    exact ⟨rfl, (Kept.refl _ _).alloc _⟩
  have j2 : (x - x4 == m1) = true := by simp [i2]
  by_cases i3 : y - y4 = m2
  rotate_left
  · have j3 : (y - y4 == m2) = false := by simp [i3]
    rw [kind_box HLN HO (show ¬ eyeB r w h x y from by unfold eyeB; rw [hx4, hy4, hbw, hbh, hm1, hm2]; omega)]
    clear HLN HO hm1 hm2 hrq i3
    go_enter Try.func50, Try.ntmps50
    go_wp2
    go_ret
    exact ⟨rfl, (Kept.refl _ _).alloc _⟩
  have j3 : (y - y4 == m2) = true := by simp [i3]
  rw [kind_eye HLN HO (show eyeB r w h x y from by unfold eyeB; rw [hx4, hy4, hbw, hbh, hm1, hm2]; exact ⟨i0, i1, i2, i3⟩)]
  clear HLN HO hm1 hm2 hrq i0 i1 i2 i3
  go_enter Try.func50, Try.ntmps50
  go_wp2
  go_ret
  exact ⟨rfl, (Kept.refl _ _).alloc _⟩
set_option maxRecDepth 100000 in
set_option maxHeartbeats 8000000 in
theorem kind_any (r w h fg bg fl x y : Int) (wd : World) (hr : -2147483648 ≤ r ∧ r ≤ 2147483647) (hw : 1 ≤ w ∧ w ≤ 128) (hh : 1 ≤ h ∧ h ≤ 64) (hx : 0 ≤ x ∧ x ≤ 65536) (hy : 0 ≤ y ∧ y ≤ 65536) :
    Calls Try.prog 50 #[.int .i64 r, .int .i64 w, .int .i64 h, .agg #[.int .i64 fg, .int .i64 bg, .int .i64 fl], .int .i64 x, .int .i64 y] wd fun e w' => e = .returned (.int .i64 (kindI r w h fl x y)) ∧ Kept (fun _ => False) wd w' := by
  obtain ⟨x4, hx4⟩ : ∃ x, w / 4 = x := ⟨_, rfl⟩
  obtain ⟨y4, hy4⟩ : ∃ x, h / 4 = x := ⟨_, rfl⟩
  obtain ⟨bw, hbw⟩ : ∃ x, (w + 1) / 2 = x := ⟨_, rfl⟩
  obtain ⟨bh, hbh⟩ : ∃ x, (h + 1) / 2 = x := ⟨_, rfl⟩
  obtain ⟨h2, hh2⟩ : ∃ x, h / 2 = x := ⟨_, rfl⟩
  have t1 : w.tdiv 4 = x4 := by rw [Int.tdiv_eq_ediv_of_nonneg (by omega)]; exact hx4
  have t2 : h.tdiv 4 = y4 := by rw [Int.tdiv_eq_ediv_of_nonneg (by omega)]; exact hy4
  have t3 : (w + 1).tdiv 2 = bw := by rw [Int.tdiv_eq_ediv_of_nonneg (by omega)]; exact hbw
  have t4 : (h + 1).tdiv 2 = bh := by rw [Int.tdiv_eq_ediv_of_nonneg (by omega)]; exact hbh
  have t5 : h.tdiv 2 = h2 := by rw [Int.tdiv_eq_ediv_of_nonneg (by omega)]; exact hh2
  have bx4 : 0 ≤ x4 ∧ x4 ≤ 32 := by omega
  have by4 : 0 ≤ y4 ∧ y4 ≤ 16 := by omega
  have bbw : 1 ≤ bw ∧ bw ≤ 64 := by omega
  have bbh : 1 ≤ bh ∧ bh ≤ 32 := by omega
  have bh2 : 0 ≤ h2 ∧ h2 ≤ 32 := by omega
  have u1 : IntKind.i64.wrap x4 = x4 := IntWalk.i64_in _ (by omega)
  have u2 : IntKind.i64.wrap y4 = y4 := IntWalk.i64_in _ (by omega)
  have u3 : IntKind.i64.wrap bw = bw := IntWalk.i64_in _ (by omega)
  have u4 : IntKind.i64.wrap bh = bh := IntWalk.i64_in _ (by omega)
  have u5 : IntKind.i64.wrap h2 = h2 := IntWalk.i64_in _ (by omega)
  have u6 : IntKind.i64.wrap (w + 1) = w + 1 := IntWalk.i64_in _ (by omega)
  have u7 : IntKind.i64.wrap (h + 1) = h + 1 := IntWalk.i64_in _ (by omega)
  have u8 : IntKind.i64.wrap (h - 1) = h - 1 := IntWalk.i64_in _ (by omega)
  have u10 : IntKind.i64.wrap (x - x4) = x - x4 := IntWalk.i64_in _ (by omega)
  have u11 : IntKind.i64.wrap (y - y4) = y - y4 := IntWalk.i64_in _ (by omega)
  obtain ⟨z8, hz8⟩ : ∃ z, bits .and .i64 fl 8 = z := ⟨_, rfl⟩
  obtain ⟨z128, hz128⟩ : ∃ z, bits .and .i64 fl 128 = z := ⟨_, rfl⟩
  clear t1 t2 t3 t4 bx4 by4 bbw bbh u1 u2 u3 u4 u6 u7 u10 u11 hx4 hy4 hbw hbh
  cases g8 : (z8 != 0) with
  | true =>
    by_cases e1 : y = h - 1
    · have f1 : (y == h - 1) = true := by simp [e1]
      rw [kind_line (show lineB fl h y from by unfold lineB hasB; rw [hz8, hz128]; exact .inl ⟨g8, e1⟩)]
      clear e1
      go_enter Try.func50, Try.ntmps50
      go_wp2
      go_ret
      exact ⟨rfl, (Kept.refl _ _).alloc _⟩
    · have f1 : (y == h - 1) = false := by simp [e1]
      cases g128 : (z128 != 0) with
      | true =>
        by_cases e2 : y = h2
        · have f2 : (y == h2) = true := by simp [e2]
          rw [kind_line (show lineB fl h y from by unfold lineB hasB; rw [hz8, hz128]; exact .inr ⟨g128, e2.trans hh2.symm⟩)]
          clear e1 e2
          go_enter Try.func50, Try.ntmps50
          go_wp2
          go_ret
          exact ⟨rfl, (Kept.refl _ _).alloc _⟩
        · exact kind_rest_tt r w h fg bg fl x y wd hr hw hh hx hy (by rw [hz8]; exact g8) (by rw [hz128]; exact g128) e1 (by rw [hh2]; exact e2)
      | false => exact kind_rest_tf r w h fg bg fl x y wd hr hw hh hx hy (by rw [hz8]; exact g8) (by rw [hz128]; exact g128) e1
  | false =>
    cases g128 : (z128 != 0) with
    | true =>
      by_cases e2 : y = h2
      · have f2 : (y == h2) = true := by simp [e2]
        rw [kind_line (show lineB fl h y from by unfold lineB hasB; rw [hz8, hz128]; exact .inr ⟨g128, e2.trans hh2.symm⟩)]
        clear e2
        go_enter Try.func50, Try.ntmps50
        go_wp2
        go_ret
        exact ⟨rfl, (Kept.refl _ _).alloc _⟩
      · exact kind_rest_ft r w h fg bg fl x y wd hr hw hh hx hy (by rw [hz8]; exact g8) (by rw [hz128]; exact g128) (by rw [hh2]; exact e2)
    | false => exact kind_rest_ff r w h fg bg fl x y wd hr hw hh hx hy (by rw [hz8]; exact g8) (by rw [hz128]; exact g128)
end Go.Proofs.Ytdjgmhbfohbenaa
