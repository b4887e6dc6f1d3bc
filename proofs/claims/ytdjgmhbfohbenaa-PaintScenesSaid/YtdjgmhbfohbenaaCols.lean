/- The colours of an attribute: both sides. -/
import Derived.Test.YtdjgmhbfohbenaaMCol
import Derived.RegionTactic
import Derived.Deep.RegionHeld3
namespace Go.Proofs.Ytdjgmhbfohbenaa
open Go.RowKit Pl
set_option linter.unusedVariables false
set_option linter.unusedSimpArgs false
namespace Pl
def Rgb.half (c : Rgb) : Rgb := ⟨c.r / 2, c.g / 2, c.b / 2⟩
def hasB (fl k : Int) : Bool := bits .and .i64 fl k != 0
def colors (a : Look) : Rgb × Rgb :=
  let f0 := colour a.fg true
  let b0 := colour a.bg false
  let f1 := if hasB a.fl 2 = true then f0.half else f0
  let x := if hasB a.fl 32 = true then (b0, f1) else (f1, b0)
  if hasB a.fl 64 = true then (x.2, x.2) else x
end Pl
def ColsPost (a : Look) (w : World) (e : Ending) (w' : World) : Prop := e = .returned (.tuple #[rgbV (colors a).1, rgbV (colors a).2]) ∧ Kept (fun _ => False) w w'

set_option maxRecDepth 100000 in
set_option maxHeartbeats 8000000 in
theorem cols14_nnn (a : Look) (w : World) (h2 : hasB a.fl 2 = false) (h32 : hasB a.fl 32 = false) (h64 : hasB a.fl 64 = false) :
    Calls Try.prog 36 #[lookV a] w (ColsPost a w) := by
  obtain ⟨fg, bg, fl⟩ := a
  have hcol : colors ⟨fg, bg, fl⟩ = (let F := colour fg true; let B := colour bg false; (⟨F.r, F.g, F.b⟩, ⟨B.r, B.g, B.b⟩)) := by unfold colors; simp only [h2, h32, h64, if_true, if_false, Bool.false_eq_true, Rgb.half]
  obtain ⟨F, hF⟩ : ∃ F, colour fg true = F := ⟨_, rfl⟩
  obtain ⟨B, hB⟩ : ∃ B, colour bg false = B := ⟨_, rfl⟩
  have hFB := colour_isB fg true
  have hBB := colour_isB bg false
  rw [hF] at hFB
  rw [hB] at hBB
  simp only [hF, hB] at hcol
  obtain ⟨⟨F0, F1⟩, ⟨F2, F3⟩, F4, F5⟩ := hFB
  obtain ⟨⟨B0, B1⟩, ⟨B2, B3⟩, B4, B5⟩ := hBB
  have HF := Lib.hid (show ∀ w, Calls Try.prog 66 #[.int .i64 fg, .bool true] w fun e w' => e = .returned (.agg #[.int .u8 F.r, .int .u8 F.g, .int .u8 F.b]) ∧ Kept (fun _ => False) w w' from fun w => by have h := rcolr_any fg true w; rw [hF] at h; exact h)
  have HB := Lib.hid (show ∀ w, Calls Try.prog 66 #[.int .i64 bg, .bool false] w fun e w' => e = .returned (.agg #[.int .u8 B.r, .int .u8 B.g, .int .u8 B.b]) ∧ Kept (fun _ => False) w w' from fun w => by have h := rcolr_any bg false w; rw [hB] at h; exact h)
  have HCOL := Lib.hid hcol
  obtain ⟨z2, hz2⟩ : ∃ z, bits .and .i64 fl 2 = z := ⟨_, rfl⟩
  obtain ⟨z32, hz32⟩ : ∃ z, bits .and .i64 fl 32 = z := ⟨_, rfl⟩
  obtain ⟨z64, hz64⟩ : ∃ z, bits .and .i64 fl 64 = z := ⟨_, rfl⟩
  unfold hasB at h2 h32 h64
  simp only [hz2] at h2
  simp only [hz32] at h32
  simp only [hz64] at h64
  clear hF hB hcol
  obtain ⟨W, hW⟩ : ∃ W, ((w.alloc (.cells #[.int .i64 fg, .int .i64 bg, .int .i64 fl] 54)).alloc (.cells #[.int .u8 0, .int .u8 0, .int .u8 0] 96)).alloc (.cells #[.int .u8 0, .int .u8 0, .int .u8 0] 96) = W := ⟨_, rfl⟩
  have kW : Kept (fun _ => False) w W := by rw [← hW]; exact (((Kept.refl _ w).alloc _).alloc _).alloc _
  have bp0 : W.heap[w.heap.size]? = some (.cells #[.int .i64 fg, .int .i64 bg, .int .i64 fl] 54 (0, 0)) := by rw [← hW]; exact blk_alloc (blk_alloc (blk_new _ _) _) _
  have bf0 : W.heap[w.heap.size + 1]? = some (.cells #[.int .u8 0, .int .u8 0, .int .u8 0] 96 (0, 0)) := by rw [← hW]; exact blk_alloc (blk_at _ _ (by simp)) _
  have bb0 : W.heap[w.heap.size + 1 + 1]? = some (.cells #[.int .u8 0, .int .u8 0, .int .u8 0] 96 (0, 0)) := by rw [← hW]; exact blk_at _ _ (by simp)
  have HP := Lib.hid bp0
  have HF0 := Lib.hid bf0
  have HB0 := Lib.hid bb0
  have HKW := Lib.hid kW
  obtain ⟨⟨cp0a, fp0a⟩, ⟨cp0b, fp0b⟩, cp0c, fp0c⟩ := blk3 bp0
  clear kW bp0 bf0 bb0
  unfold lookV
  go_enter Try.func36, Try.ntmps36
  go_wp2_with fail
  refine (HF.out _).mono ?_; rintro e w1 ⟨rfl, hk⟩
  have kq := HKW.out.then hk
  have q0 := hk.blk HP.out id
  have q1 := hk.blk HF0.out id
  have q2 := hk.blk HB0.out id
  have z1 : w.heap.size + 1 + 1 < w1.heap.size := lt_of_blk q2
  obtain ⟨⟨cp0a, fp0a⟩, ⟨cp0b, fp0b⟩, cp0c, fp0c⟩ := blk3 q0
  obtain ⟨⟨cf0a, ff0a⟩, ⟨cf0b, ff0b⟩, cf0c, ff0c⟩ := blk3 q1
  obtain ⟨⟨cb0a, fb0a⟩, ⟨cb0b, fb0b⟩, cb0c, fb0c⟩ := blk3 q2
  obtain ⟨V1, e1⟩ : ∃ V, w1.alloc (.cells #[.int .u8 F.r, .int .u8 F.g, .int .u8 F.b] 96) = V := ⟨_, rfl⟩
  have s1 : V1.heap.size = w1.heap.size + 1 := by rw [← e1]; simp
  have bx1 : V1.heap[w1.heap.size]? = some (.cells #[.int .u8 F.r, .int .u8 F.g, .int .u8 F.b] 96 (0, 0)) := by rw [← e1]; exact blk_new _ _
  have k1 : Kept (fun _ => False) w1 V1 := by rw [← e1]; exact (Kept.refl (fun _ => False) _).alloc _
  have bp1 := k1.blk q0 id
  have bf1 := k1.blk q1 id
  have bb1 := k1.blk q2 id
  have K1 := kq.then k1
  obtain ⟨⟨cp1a, fp1a⟩, ⟨cp1b, fp1b⟩, cp1c, fp1c⟩ := blk3 bp1
  obtain ⟨⟨cf1a, ff1a⟩, ⟨cf1b, ff1b⟩, cf1c, ff1c⟩ := blk3 bf1
  obtain ⟨⟨cb1a, fb1a⟩, ⟨cb1b, fb1b⟩, cb1c, fb1c⟩ := blk3 bb1
  obtain ⟨⟨cx1a, fx1a⟩, ⟨cx1b, fx1b⟩, cx1c, fx1c⟩ := blk3 bx1
  have HP1 := Lib.hid bp1
  have HF1 := Lib.hid bf1
  have HB1 := Lib.hid bb1
  have HX1 := Lib.hid bx1
  have HK1 := Lib.hid K1
  clear q0 q1 q2 kq hk bp1 bf1 bb1 bx1 k1 K1
  go_wp2_with fail
  refine (HB.out _).mono ?_; rintro e w2 ⟨rfl, hk⟩
  have r0 := hk.blk HP1.out id
  have r1 := hk.blk HF1.out id
  have r2 := hk.blk HB1.out id
  have r3 := hk.blk HX1.out id
  have kr := HK1.out.then hk
  have z2' : w1.heap.size < w2.heap.size := lt_of_blk r3
  obtain ⟨⟨cp1a, fp1a⟩, ⟨cp1b, fp1b⟩, cp1c, fp1c⟩ := blk3 r0
  obtain ⟨⟨cf1a, ff1a⟩, ⟨cf1b, ff1b⟩, cf1c, ff1c⟩ := blk3 r1
  obtain ⟨⟨cb1a, fb1a⟩, ⟨cb1b, fb1b⟩, cb1c, fb1c⟩ := blk3 r2
  obtain ⟨⟨cx1a, fx1a⟩, ⟨cx1b, fx1b⟩, cx1c, fx1c⟩ := blk3 r3
  obtain ⟨V2, e2⟩ : ∃ V, w2.alloc (.cells #[.int .u8 B.r, .int .u8 B.g, .int .u8 B.b] 96) = V := ⟨_, rfl⟩
  have s2 : V2.heap.size = w2.heap.size + 1 := by rw [← e2]; simp
  have by2 : V2.heap[w2.heap.size]? = some (.cells #[.int .u8 B.r, .int .u8 B.g, .int .u8 B.b] 96 (0, 0)) := by rw [← e2]; exact blk_new _ _
  have k2 : Kept (fun _ => False) w2 V2 := by rw [← e2]; exact (Kept.refl (fun _ => False) _).alloc _
  have bp2 := k2.blk r0 id
  have bf2 := k2.blk r1 id
  have bb2 := k2.blk r2 id
  have bx2 := k2.blk r3 id
  have K2 := kr.then k2
  obtain ⟨⟨cp2a, fp2a⟩, ⟨cp2b, fp2b⟩, cp2c, fp2c⟩ := blk3 bp2
  obtain ⟨⟨cf2a, ff2a⟩, ⟨cf2b, ff2b⟩, cf2c, ff2c⟩ := blk3 bf2
  obtain ⟨⟨cb2a, fb2a⟩, ⟨cb2b, fb2b⟩, cb2c, fb2c⟩ := blk3 bb2
  obtain ⟨⟨cx2a, fx2a⟩, ⟨cx2b, fx2b⟩, cx2c, fx2c⟩ := blk3 bx2
  obtain ⟨⟨cy2a, fy2a⟩, ⟨cy2b, fy2b⟩, cy2c, fy2c⟩ := blk3 by2
  obtain ⟨V3a, V3b, V3, e3a, e3b, e3c, ⟨x3a, y3a⟩, ⟨x3b, y3b⟩, ⟨x3c, y3c⟩, bf3, k3⟩ := store3 bf2 (.int .u8 F.r) (.int .u8 F.g) (.int .u8 F.b)
  have bp3 := k3.blk bp2 (fun (h : w.heap.size = w.heap.size + 1) => by omega)
  have bb3 := k3.blk bb2 (fun (h : w.heap.size + 1 + 1 = w.heap.size + 1) => by omega)
  have bx3 := k3.blk bx2 (fun (h : w1.heap.size = w.heap.size + 1) => by omega)
  have by3 := k3.blk by2 (fun (h : w2.heap.size = w.heap.size + 1) => by omega)
  have K3 := K2.trans (k3.mono fun i _ hi => Or.inr (by have h9 : i = w.heap.size + 1 := hi; omega))
  obtain ⟨⟨cp3a, fp3a⟩, ⟨cp3b, fp3b⟩, cp3c, fp3c⟩ := blk3 bp3
  obtain ⟨⟨cf3a, ff3a⟩, ⟨cf3b, ff3b⟩, cf3c, ff3c⟩ := blk3 bf3
  obtain ⟨⟨cb3a, fb3a⟩, ⟨cb3b, fb3b⟩, cb3c, fb3c⟩ := blk3 bb3
  obtain ⟨⟨cx3a, fx3a⟩, ⟨cx3b, fx3b⟩, cx3c, fx3c⟩ := blk3 bx3
  obtain ⟨⟨cy3a, fy3a⟩, ⟨cy3b, fy3b⟩, cy3c, fy3c⟩ := blk3 by3
  obtain ⟨V4a, V4b, V4, e4a, e4b, e4c, ⟨x4a, y4a⟩, ⟨x4b, y4b⟩, ⟨x4c, y4c⟩, bb4, k4⟩ := store3 bb3 (.int .u8 B.r) (.int .u8 B.g) (.int .u8 B.b)
  have bp4 := k4.blk bp3 (fun (h : w.heap.size = w.heap.size + 1 + 1) => by omega)
  have bf4 := k4.blk bf3 (fun (h : w.heap.size + 1 = w.heap.size + 1 + 1) => by omega)
  have bx4 := k4.blk bx3 (fun (h : w1.heap.size = w.heap.size + 1 + 1) => by omega)
  have by4 := k4.blk by3 (fun (h : w2.heap.size = w.heap.size + 1 + 1) => by omega)
  have K4 := K3.trans (k4.mono fun i _ hi => Or.inr (by have h9 : i = w.heap.size + 1 + 1 := hi; omega))
  obtain ⟨⟨cp4a, fp4a⟩, ⟨cp4b, fp4b⟩, cp4c, fp4c⟩ := blk3 bp4
  obtain ⟨⟨cf4a, ff4a⟩, ⟨cf4b, ff4b⟩, cf4c, ff4c⟩ := blk3 bf4
  obtain ⟨⟨cb4a, fb4a⟩, ⟨cb4b, fb4b⟩, cb4c, fb4c⟩ := blk3 bb4
  obtain ⟨⟨cx4a, fx4a⟩, ⟨cx4b, fx4b⟩, cx4c, fx4c⟩ := blk3 bx4
  obtain ⟨⟨cy4a, fy4a⟩, ⟨cy4b, fy4b⟩, cy4c, fy4c⟩ := blk3 by4
  have HK := Lib.hid K4
  clear hk kr r0 r1 r2 r3 bp2  bf2  bb2  bx2  by2  bp3  bf3  bb3  bx3  by3  bp4  bf4  bb4  bx4  by4 k2 K2 k3 K3 k4 K4
  go_wp2
  as_aux_lemma =>
    go_region
    all_goals go_wp2
    all_goals
      exact bodyPost_ret (v := .tuple #[.agg #[.int .u8 F.r, .int .u8 F.g, .int .u8 F.b], .agg #[.int .u8 B.r, .int .u8 B.g, .int .u8 B.b]]) (by simp [results, Try.results36, go_sem, *]) rfl ⟨by rw [HCOL.out]; rfl, HK.out.drew⟩

set_option maxRecDepth 100000 in
set_option maxHeartbeats 8000000 in
theorem cols14_nnh (a : Look) (w : World) (h2 : hasB a.fl 2 = false) (h32 : hasB a.fl 32 = false) (h64 : hasB a.fl 64 = true) :
    Calls Try.prog 36 #[lookV a] w (ColsPost a w) := by
  obtain ⟨fg, bg, fl⟩ := a
  have hcol : colors ⟨fg, bg, fl⟩ = (let F := colour fg true; let B := colour bg false; (⟨B.r, B.g, B.b⟩, ⟨B.r, B.g, B.b⟩)) := by unfold colors; simp only [h2, h32, h64, if_true, if_false, Bool.false_eq_true, Rgb.half]
  obtain ⟨F, hF⟩ : ∃ F, colour fg true = F := ⟨_, rfl⟩
  obtain ⟨B, hB⟩ : ∃ B, colour bg false = B := ⟨_, rfl⟩
  have hFB := colour_isB fg true
  have hBB := colour_isB bg false
  rw [hF] at hFB
  rw [hB] at hBB
  simp only [hF, hB] at hcol
  obtain ⟨⟨F0, F1⟩, ⟨F2, F3⟩, F4, F5⟩ := hFB
  obtain ⟨⟨B0, B1⟩, ⟨B2, B3⟩, B4, B5⟩ := hBB
  have HF := Lib.hid (show ∀ w, Calls Try.prog 66 #[.int .i64 fg, .bool true] w fun e w' => e = .returned (.agg #[.int .u8 F.r, .int .u8 F.g, .int .u8 F.b]) ∧ Kept (fun _ => False) w w' from fun w => by have h := rcolr_any fg true w; rw [hF] at h; exact h)
  have HB := Lib.hid (show ∀ w, Calls Try.prog 66 #[.int .i64 bg, .bool false] w fun e w' => e = .returned (.agg #[.int .u8 B.r, .int .u8 B.g, .int .u8 B.b]) ∧ Kept (fun _ => False) w w' from fun w => by have h := rcolr_any bg false w; rw [hB] at h; exact h)
  have HCOL := Lib.hid hcol
  obtain ⟨z2, hz2⟩ : ∃ z, bits .and .i64 fl 2 = z := ⟨_, rfl⟩
  obtain ⟨z32, hz32⟩ : ∃ z, bits .and .i64 fl 32 = z := ⟨_, rfl⟩
  obtain ⟨z64, hz64⟩ : ∃ z, bits .and .i64 fl 64 = z := ⟨_, rfl⟩
  unfold hasB at h2 h32 h64
  simp only [hz2] at h2
  simp only [hz32] at h32
  simp only [hz64] at h64
  clear hF hB hcol
  obtain ⟨W, hW⟩ : ∃ W, ((w.alloc (.cells #[.int .i64 fg, .int .i64 bg, .int .i64 fl] 54)).alloc (.cells #[.int .u8 0, .int .u8 0, .int .u8 0] 96)).alloc (.cells #[.int .u8 0, .int .u8 0, .int .u8 0] 96) = W := ⟨_, rfl⟩
  have kW : Kept (fun _ => False) w W := by rw [← hW]; exact (((Kept.refl _ w).alloc _).alloc _).alloc _
  have bp0 : W.heap[w.heap.size]? = some (.cells #[.int .i64 fg, .int .i64 bg, .int .i64 fl] 54 (0, 0)) := by rw [← hW]; exact blk_alloc (blk_alloc (blk_new _ _) _) _
  have bf0 : W.heap[w.heap.size + 1]? = some (.cells #[.int .u8 0, .int .u8 0, .int .u8 0] 96 (0, 0)) := by rw [← hW]; exact blk_alloc (blk_at _ _ (by simp)) _
  have bb0 : W.heap[w.heap.size + 1 + 1]? = some (.cells #[.int .u8 0, .int .u8 0, .int .u8 0] 96 (0, 0)) := by rw [← hW]; exact blk_at _ _ (by simp)
  have HP := Lib.hid bp0
  have HF0 := Lib.hid bf0
  have HB0 := Lib.hid bb0
  have HKW := Lib.hid kW
  obtain ⟨⟨cp0a, fp0a⟩, ⟨cp0b, fp0b⟩, cp0c, fp0c⟩ := blk3 bp0
  clear kW bp0 bf0 bb0
  unfold lookV
  go_enter Try.func36, Try.ntmps36
  go_wp2_with fail
  refine (HF.out _).mono ?_; rintro e w1 ⟨rfl, hk⟩
  have kq := HKW.out.then hk
  have q0 := hk.blk HP.out id
  have q1 := hk.blk HF0.out id
  have q2 := hk.blk HB0.out id
  have z1 : w.heap.size + 1 + 1 < w1.heap.size := lt_of_blk q2
  obtain ⟨⟨cp0a, fp0a⟩, ⟨cp0b, fp0b⟩, cp0c, fp0c⟩ := blk3 q0
  obtain ⟨⟨cf0a, ff0a⟩, ⟨cf0b, ff0b⟩, cf0c, ff0c⟩ := blk3 q1
  obtain ⟨⟨cb0a, fb0a⟩, ⟨cb0b, fb0b⟩, cb0c, fb0c⟩ := blk3 q2
  obtain ⟨V1, e1⟩ : ∃ V, w1.alloc (.cells #[.int .u8 F.r, .int .u8 F.g, .int .u8 F.b] 96) = V := ⟨_, rfl⟩
  have s1 : V1.heap.size = w1.heap.size + 1 := by rw [← e1]; simp
  have bx1 : V1.heap[w1.heap.size]? = some (.cells #[.int .u8 F.r, .int .u8 F.g, .int .u8 F.b] 96 (0, 0)) := by rw [← e1]; exact blk_new _ _
  have k1 : Kept (fun _ => False) w1 V1 := by rw [← e1]; exact (Kept.refl (fun _ => False) _).alloc _
  have bp1 := k1.blk q0 id
  have bf1 := k1.blk q1 id
  have bb1 := k1.blk q2 id
  have K1 := kq.then k1
  obtain ⟨⟨cp1a, fp1a⟩, ⟨cp1b, fp1b⟩, cp1c, fp1c⟩ := blk3 bp1
  obtain ⟨⟨cf1a, ff1a⟩, ⟨cf1b, ff1b⟩, cf1c, ff1c⟩ := blk3 bf1
  obtain ⟨⟨cb1a, fb1a⟩, ⟨cb1b, fb1b⟩, cb1c, fb1c⟩ := blk3 bb1
  obtain ⟨⟨cx1a, fx1a⟩, ⟨cx1b, fx1b⟩, cx1c, fx1c⟩ := blk3 bx1
  have HP1 := Lib.hid bp1
  have HF1 := Lib.hid bf1
  have HB1 := Lib.hid bb1
  have HX1 := Lib.hid bx1
  have HK1 := Lib.hid K1
  clear q0 q1 q2 kq hk bp1 bf1 bb1 bx1 k1 K1
  go_wp2_with fail
  refine (HB.out _).mono ?_; rintro e w2 ⟨rfl, hk⟩
  have r0 := hk.blk HP1.out id
  have r1 := hk.blk HF1.out id
  have r2 := hk.blk HB1.out id
  have r3 := hk.blk HX1.out id
  have kr := HK1.out.then hk
  have z2' : w1.heap.size < w2.heap.size := lt_of_blk r3
  obtain ⟨⟨cp1a, fp1a⟩, ⟨cp1b, fp1b⟩, cp1c, fp1c⟩ := blk3 r0
  obtain ⟨⟨cf1a, ff1a⟩, ⟨cf1b, ff1b⟩, cf1c, ff1c⟩ := blk3 r1
  obtain ⟨⟨cb1a, fb1a⟩, ⟨cb1b, fb1b⟩, cb1c, fb1c⟩ := blk3 r2
  obtain ⟨⟨cx1a, fx1a⟩, ⟨cx1b, fx1b⟩, cx1c, fx1c⟩ := blk3 r3
  obtain ⟨V2, e2⟩ : ∃ V, w2.alloc (.cells #[.int .u8 B.r, .int .u8 B.g, .int .u8 B.b] 96) = V := ⟨_, rfl⟩
  have s2 : V2.heap.size = w2.heap.size + 1 := by rw [← e2]; simp
  have by2 : V2.heap[w2.heap.size]? = some (.cells #[.int .u8 B.r, .int .u8 B.g, .int .u8 B.b] 96 (0, 0)) := by rw [← e2]; exact blk_new _ _
  have k2 : Kept (fun _ => False) w2 V2 := by rw [← e2]; exact (Kept.refl (fun _ => False) _).alloc _
  have bp2 := k2.blk r0 id
  have bf2 := k2.blk r1 id
  have bb2 := k2.blk r2 id
  have bx2 := k2.blk r3 id
  have K2 := kr.then k2
  obtain ⟨⟨cp2a, fp2a⟩, ⟨cp2b, fp2b⟩, cp2c, fp2c⟩ := blk3 bp2
  obtain ⟨⟨cf2a, ff2a⟩, ⟨cf2b, ff2b⟩, cf2c, ff2c⟩ := blk3 bf2
  obtain ⟨⟨cb2a, fb2a⟩, ⟨cb2b, fb2b⟩, cb2c, fb2c⟩ := blk3 bb2
  obtain ⟨⟨cx2a, fx2a⟩, ⟨cx2b, fx2b⟩, cx2c, fx2c⟩ := blk3 bx2
  obtain ⟨⟨cy2a, fy2a⟩, ⟨cy2b, fy2b⟩, cy2c, fy2c⟩ := blk3 by2
  obtain ⟨V3a, V3b, V3, e3a, e3b, e3c, ⟨x3a, y3a⟩, ⟨x3b, y3b⟩, ⟨x3c, y3c⟩, bx3, k3⟩ := store3 bx2 (.int .u8 B.r) (.int .u8 B.g) (.int .u8 B.b)
  have bp3 := k3.blk bp2 (fun (h : w.heap.size = w1.heap.size) => by omega)
  have bf3 := k3.blk bf2 (fun (h : w.heap.size + 1 = w1.heap.size) => by omega)
  have bb3 := k3.blk bb2 (fun (h : w.heap.size + 1 + 1 = w1.heap.size) => by omega)
  have by3 := k3.blk by2 (fun (h : w2.heap.size = w1.heap.size) => by omega)
  have K3 := K2.trans (k3.mono fun i _ hi => Or.inr (by have h9 : i = w1.heap.size := hi; omega))
  obtain ⟨⟨cp3a, fp3a⟩, ⟨cp3b, fp3b⟩, cp3c, fp3c⟩ := blk3 bp3
  obtain ⟨⟨cf3a, ff3a⟩, ⟨cf3b, ff3b⟩, cf3c, ff3c⟩ := blk3 bf3
  obtain ⟨⟨cb3a, fb3a⟩, ⟨cb3b, fb3b⟩, cb3c, fb3c⟩ := blk3 bb3
  obtain ⟨⟨cx3a, fx3a⟩, ⟨cx3b, fx3b⟩, cx3c, fx3c⟩ := blk3 bx3
  obtain ⟨⟨cy3a, fy3a⟩, ⟨cy3b, fy3b⟩, cy3c, fy3c⟩ := blk3 by3
  obtain ⟨V4a, V4b, V4, e4a, e4b, e4c, ⟨x4a, y4a⟩, ⟨x4b, y4b⟩, ⟨x4c, y4c⟩, bf4, k4⟩ := store3 bf3 (.int .u8 B.r) (.int .u8 B.g) (.int .u8 B.b)
  have bp4 := k4.blk bp3 (fun (h : w.heap.size = w.heap.size + 1) => by omega)
  have bb4 := k4.blk bb3 (fun (h : w.heap.size + 1 + 1 = w.heap.size + 1) => by omega)
  have bx4 := k4.blk bx3 (fun (h : w1.heap.size = w.heap.size + 1) => by omega)
  have by4 := k4.blk by3 (fun (h : w2.heap.size = w.heap.size + 1) => by omega)
  have K4 := K3.trans (k4.mono fun i _ hi => Or.inr (by have h9 : i = w.heap.size + 1 := hi; omega))
  obtain ⟨⟨cp4a, fp4a⟩, ⟨cp4b, fp4b⟩, cp4c, fp4c⟩ := blk3 bp4
  obtain ⟨⟨cf4a, ff4a⟩, ⟨cf4b, ff4b⟩, cf4c, ff4c⟩ := blk3 bf4
  obtain ⟨⟨cb4a, fb4a⟩, ⟨cb4b, fb4b⟩, cb4c, fb4c⟩ := blk3 bb4
  obtain ⟨⟨cx4a, fx4a⟩, ⟨cx4b, fx4b⟩, cx4c, fx4c⟩ := blk3 bx4
  obtain ⟨⟨cy4a, fy4a⟩, ⟨cy4b, fy4b⟩, cy4c, fy4c⟩ := blk3 by4
  obtain ⟨V5a, V5b, V5, e5a, e5b, e5c, ⟨x5a, y5a⟩, ⟨x5b, y5b⟩, ⟨x5c, y5c⟩, bb5, k5⟩ := store3 bb4 (.int .u8 B.r) (.int .u8 B.g) (.int .u8 B.b)
  have bp5 := k5.blk bp4 (fun (h : w.heap.size = w.heap.size + 1 + 1) => by omega)
  have bf5 := k5.blk bf4 (fun (h : w.heap.size + 1 = w.heap.size + 1 + 1) => by omega)
  have bx5 := k5.blk bx4 (fun (h : w1.heap.size = w.heap.size + 1 + 1) => by omega)
  have by5 := k5.blk by4 (fun (h : w2.heap.size = w.heap.size + 1 + 1) => by omega)
  have K5 := K4.trans (k5.mono fun i _ hi => Or.inr (by have h9 : i = w.heap.size + 1 + 1 := hi; omega))
  obtain ⟨⟨cp5a, fp5a⟩, ⟨cp5b, fp5b⟩, cp5c, fp5c⟩ := blk3 bp5
  obtain ⟨⟨cf5a, ff5a⟩, ⟨cf5b, ff5b⟩, cf5c, ff5c⟩ := blk3 bf5
  obtain ⟨⟨cb5a, fb5a⟩, ⟨cb5b, fb5b⟩, cb5c, fb5c⟩ := blk3 bb5
  obtain ⟨⟨cx5a, fx5a⟩, ⟨cx5b, fx5b⟩, cx5c, fx5c⟩ := blk3 bx5
  obtain ⟨⟨cy5a, fy5a⟩, ⟨cy5b, fy5b⟩, cy5c, fy5c⟩ := blk3 by5
  have HK := Lib.hid K5
  clear hk kr r0 r1 r2 r3 bp2  bf2  bb2  bx2  by2  bp3  bf3  bb3  bx3  by3  bp4  bf4  bb4  bx4  by4  bp5  bf5  bb5  bx5  by5 k2 K2 k3 K3 k4 K4 k5 K5
  go_wp2
  as_aux_lemma =>
    go_region
    all_goals go_wp2
    all_goals
      exact bodyPost_ret (v := .tuple #[.agg #[.int .u8 B.r, .int .u8 B.g, .int .u8 B.b], .agg #[.int .u8 B.r, .int .u8 B.g, .int .u8 B.b]]) (by simp [results, Try.results36, go_sem, *]) rfl ⟨by rw [HCOL.out]; rfl, HK.out.drew⟩

set_option maxRecDepth 100000 in
set_option maxHeartbeats 8000000 in
theorem cols14_nin (a : Look) (w : World) (h2 : hasB a.fl 2 = false) (h32 : hasB a.fl 32 = true) (h64 : hasB a.fl 64 = false) :
    Calls Try.prog 36 #[lookV a] w (ColsPost a w) := by
  obtain ⟨fg, bg, fl⟩ := a
  have hcol : colors ⟨fg, bg, fl⟩ = (let F := colour fg true; let B := colour bg false; (⟨B.r, B.g, B.b⟩, ⟨F.r, F.g, F.b⟩)) := by unfold colors; simp only [h2, h32, h64, if_true, if_false, Bool.false_eq_true, Rgb.half]
  obtain ⟨F, hF⟩ : ∃ F, colour fg true = F := ⟨_, rfl⟩
  obtain ⟨B, hB⟩ : ∃ B, colour bg false = B := ⟨_, rfl⟩
  have hFB := colour_isB fg true
  have hBB := colour_isB bg false
  rw [hF] at hFB
  rw [hB] at hBB
  simp only [hF, hB] at hcol
  obtain ⟨⟨F0, F1⟩, ⟨F2, F3⟩, F4, F5⟩ := hFB
  obtain ⟨⟨B0, B1⟩, ⟨B2, B3⟩, B4, B5⟩ := hBB
  have HF := Lib.hid (show ∀ w, Calls Try.prog 66 #[.int .i64 fg, .bool true] w fun e w' => e = .returned (.agg #[.int .u8 F.r, .int .u8 F.g, .int .u8 F.b]) ∧ Kept (fun _ => False) w w' from fun w => by have h := rcolr_any fg true w; rw [hF] at h; exact h)
  have HB := Lib.hid (show ∀ w, Calls Try.prog 66 #[.int .i64 bg, .bool false] w fun e w' => e = .returned (.agg #[.int .u8 B.r, .int .u8 B.g, .int .u8 B.b]) ∧ Kept (fun _ => False) w w' from fun w => by have h := rcolr_any bg false w; rw [hB] at h; exact h)
  have HCOL := Lib.hid hcol
  obtain ⟨z2, hz2⟩ : ∃ z, bits .and .i64 fl 2 = z := ⟨_, rfl⟩
  obtain ⟨z32, hz32⟩ : ∃ z, bits .and .i64 fl 32 = z := ⟨_, rfl⟩
  obtain ⟨z64, hz64⟩ : ∃ z, bits .and .i64 fl 64 = z := ⟨_, rfl⟩
  unfold hasB at h2 h32 h64
  simp only [hz2] at h2
  simp only [hz32] at h32
  simp only [hz64] at h64
  clear hF hB hcol
  obtain ⟨W, hW⟩ : ∃ W, ((w.alloc (.cells #[.int .i64 fg, .int .i64 bg, .int .i64 fl] 54)).alloc (.cells #[.int .u8 0, .int .u8 0, .int .u8 0] 96)).alloc (.cells #[.int .u8 0, .int .u8 0, .int .u8 0] 96) = W := ⟨_, rfl⟩
  have kW : Kept (fun _ => False) w W := by rw [← hW]; exact (((Kept.refl _ w).alloc _).alloc _).alloc _
  have bp0 : W.heap[w.heap.size]? = some (.cells #[.int .i64 fg, .int .i64 bg, .int .i64 fl] 54 (0, 0)) := by rw [← hW]; exact blk_alloc (blk_alloc (blk_new _ _) _) _
  have bf0 : W.heap[w.heap.size + 1]? = some (.cells #[.int .u8 0, .int .u8 0, .int .u8 0] 96 (0, 0)) := by rw [← hW]; exact blk_alloc (blk_at _ _ (by simp)) _
  have bb0 : W.heap[w.heap.size + 1 + 1]? = some (.cells #[.int .u8 0, .int .u8 0, .int .u8 0] 96 (0, 0)) := by rw [← hW]; exact blk_at _ _ (by simp)
  have HP := Lib.hid bp0
  have HF0 := Lib.hid bf0
  have HB0 := Lib.hid bb0
  have HKW := Lib.hid kW
  obtain ⟨⟨cp0a, fp0a⟩, ⟨cp0b, fp0b⟩, cp0c, fp0c⟩ := blk3 bp0
  clear kW bp0 bf0 bb0
  unfold lookV
  go_enter Try.func36, Try.ntmps36
  go_wp2_with fail
  refine (HF.out _).mono ?_; rintro e w1 ⟨rfl, hk⟩
  have kq := HKW.out.then hk
  have q0 := hk.blk HP.out id
  have q1 := hk.blk HF0.out id
  have q2 := hk.blk HB0.out id
  have z1 : w.heap.size + 1 + 1 < w1.heap.size := lt_of_blk q2
  obtain ⟨⟨cp0a, fp0a⟩, ⟨cp0b, fp0b⟩, cp0c, fp0c⟩ := blk3 q0
  obtain ⟨⟨cf0a, ff0a⟩, ⟨cf0b, ff0b⟩, cf0c, ff0c⟩ := blk3 q1
  obtain ⟨⟨cb0a, fb0a⟩, ⟨cb0b, fb0b⟩, cb0c, fb0c⟩ := blk3 q2
  obtain ⟨V1, e1⟩ : ∃ V, w1.alloc (.cells #[.int .u8 F.r, .int .u8 F.g, .int .u8 F.b] 96) = V := ⟨_, rfl⟩
  have s1 : V1.heap.size = w1.heap.size + 1 := by rw [← e1]; simp
  have bx1 : V1.heap[w1.heap.size]? = some (.cells #[.int .u8 F.r, .int .u8 F.g, .int .u8 F.b] 96 (0, 0)) := by rw [← e1]; exact blk_new _ _
  have k1 : Kept (fun _ => False) w1 V1 := by rw [← e1]; exact (Kept.refl (fun _ => False) _).alloc _
  have bp1 := k1.blk q0 id
  have bf1 := k1.blk q1 id
  have bb1 := k1.blk q2 id
  have K1 := kq.then k1
  obtain ⟨⟨cp1a, fp1a⟩, ⟨cp1b, fp1b⟩, cp1c, fp1c⟩ := blk3 bp1
  obtain ⟨⟨cf1a, ff1a⟩, ⟨cf1b, ff1b⟩, cf1c, ff1c⟩ := blk3 bf1
  obtain ⟨⟨cb1a, fb1a⟩, ⟨cb1b, fb1b⟩, cb1c, fb1c⟩ := blk3 bb1
  obtain ⟨⟨cx1a, fx1a⟩, ⟨cx1b, fx1b⟩, cx1c, fx1c⟩ := blk3 bx1
  have HP1 := Lib.hid bp1
  have HF1 := Lib.hid bf1
  have HB1 := Lib.hid bb1
  have HX1 := Lib.hid bx1
  have HK1 := Lib.hid K1
  clear q0 q1 q2 kq hk bp1 bf1 bb1 bx1 k1 K1
  go_wp2_with fail
  refine (HB.out _).mono ?_; rintro e w2 ⟨rfl, hk⟩
  have r0 := hk.blk HP1.out id
  have r1 := hk.blk HF1.out id
  have r2 := hk.blk HB1.out id
  have r3 := hk.blk HX1.out id
  have kr := HK1.out.then hk
  have z2' : w1.heap.size < w2.heap.size := lt_of_blk r3
  obtain ⟨⟨cp1a, fp1a⟩, ⟨cp1b, fp1b⟩, cp1c, fp1c⟩ := blk3 r0
  obtain ⟨⟨cf1a, ff1a⟩, ⟨cf1b, ff1b⟩, cf1c, ff1c⟩ := blk3 r1
  obtain ⟨⟨cb1a, fb1a⟩, ⟨cb1b, fb1b⟩, cb1c, fb1c⟩ := blk3 r2
  obtain ⟨⟨cx1a, fx1a⟩, ⟨cx1b, fx1b⟩, cx1c, fx1c⟩ := blk3 r3
  obtain ⟨V2, e2⟩ : ∃ V, w2.alloc (.cells #[.int .u8 B.r, .int .u8 B.g, .int .u8 B.b] 96) = V := ⟨_, rfl⟩
  have s2 : V2.heap.size = w2.heap.size + 1 := by rw [← e2]; simp
  have by2 : V2.heap[w2.heap.size]? = some (.cells #[.int .u8 B.r, .int .u8 B.g, .int .u8 B.b] 96 (0, 0)) := by rw [← e2]; exact blk_new _ _
  have k2 : Kept (fun _ => False) w2 V2 := by rw [← e2]; exact (Kept.refl (fun _ => False) _).alloc _
  have bp2 := k2.blk r0 id
  have bf2 := k2.blk r1 id
  have bb2 := k2.blk r2 id
  have bx2 := k2.blk r3 id
  have K2 := kr.then k2
  obtain ⟨⟨cp2a, fp2a⟩, ⟨cp2b, fp2b⟩, cp2c, fp2c⟩ := blk3 bp2
  obtain ⟨⟨cf2a, ff2a⟩, ⟨cf2b, ff2b⟩, cf2c, ff2c⟩ := blk3 bf2
  obtain ⟨⟨cb2a, fb2a⟩, ⟨cb2b, fb2b⟩, cb2c, fb2c⟩ := blk3 bb2
  obtain ⟨⟨cx2a, fx2a⟩, ⟨cx2b, fx2b⟩, cx2c, fx2c⟩ := blk3 bx2
  obtain ⟨⟨cy2a, fy2a⟩, ⟨cy2b, fy2b⟩, cy2c, fy2c⟩ := blk3 by2
  obtain ⟨V3a, V3b, V3, e3a, e3b, e3c, ⟨x3a, y3a⟩, ⟨x3b, y3b⟩, ⟨x3c, y3c⟩, bx3, k3⟩ := store3 bx2 (.int .u8 B.r) (.int .u8 B.g) (.int .u8 B.b)
  have bp3 := k3.blk bp2 (fun (h : w.heap.size = w1.heap.size) => by omega)
  have bf3 := k3.blk bf2 (fun (h : w.heap.size + 1 = w1.heap.size) => by omega)
  have bb3 := k3.blk bb2 (fun (h : w.heap.size + 1 + 1 = w1.heap.size) => by omega)
  have by3 := k3.blk by2 (fun (h : w2.heap.size = w1.heap.size) => by omega)
  have K3 := K2.trans (k3.mono fun i _ hi => Or.inr (by have h9 : i = w1.heap.size := hi; omega))
  obtain ⟨⟨cp3a, fp3a⟩, ⟨cp3b, fp3b⟩, cp3c, fp3c⟩ := blk3 bp3
  obtain ⟨⟨cf3a, ff3a⟩, ⟨cf3b, ff3b⟩, cf3c, ff3c⟩ := blk3 bf3
  obtain ⟨⟨cb3a, fb3a⟩, ⟨cb3b, fb3b⟩, cb3c, fb3c⟩ := blk3 bb3
  obtain ⟨⟨cx3a, fx3a⟩, ⟨cx3b, fx3b⟩, cx3c, fx3c⟩ := blk3 bx3
  obtain ⟨⟨cy3a, fy3a⟩, ⟨cy3b, fy3b⟩, cy3c, fy3c⟩ := blk3 by3
  obtain ⟨V4a, V4b, V4, e4a, e4b, e4c, ⟨x4a, y4a⟩, ⟨x4b, y4b⟩, ⟨x4c, y4c⟩, by4, k4⟩ := store3 by3 (.int .u8 F.r) (.int .u8 F.g) (.int .u8 F.b)
  have bp4 := k4.blk bp3 (fun (h : w.heap.size = w2.heap.size) => by omega)
  have bf4 := k4.blk bf3 (fun (h : w.heap.size + 1 = w2.heap.size) => by omega)
  have bb4 := k4.blk bb3 (fun (h : w.heap.size + 1 + 1 = w2.heap.size) => by omega)
  have bx4 := k4.blk bx3 (fun (h : w1.heap.size = w2.heap.size) => by omega)
  have K4 := K3.trans (k4.mono fun i _ hi => Or.inr (by have h9 : i = w2.heap.size := hi; omega))
  obtain ⟨⟨cp4a, fp4a⟩, ⟨cp4b, fp4b⟩, cp4c, fp4c⟩ := blk3 bp4
  obtain ⟨⟨cf4a, ff4a⟩, ⟨cf4b, ff4b⟩, cf4c, ff4c⟩ := blk3 bf4
  obtain ⟨⟨cb4a, fb4a⟩, ⟨cb4b, fb4b⟩, cb4c, fb4c⟩ := blk3 bb4
  obtain ⟨⟨cx4a, fx4a⟩, ⟨cx4b, fx4b⟩, cx4c, fx4c⟩ := blk3 bx4
  obtain ⟨⟨cy4a, fy4a⟩, ⟨cy4b, fy4b⟩, cy4c, fy4c⟩ := blk3 by4
  obtain ⟨V5a, V5b, V5, e5a, e5b, e5c, ⟨x5a, y5a⟩, ⟨x5b, y5b⟩, ⟨x5c, y5c⟩, bf5, k5⟩ := store3 bf4 (.int .u8 B.r) (.int .u8 B.g) (.int .u8 B.b)
  have bp5 := k5.blk bp4 (fun (h : w.heap.size = w.heap.size + 1) => by omega)
  have bb5 := k5.blk bb4 (fun (h : w.heap.size + 1 + 1 = w.heap.size + 1) => by omega)
  have bx5 := k5.blk bx4 (fun (h : w1.heap.size = w.heap.size + 1) => by omega)
  have by5 := k5.blk by4 (fun (h : w2.heap.size = w.heap.size + 1) => by omega)
  have K5 := K4.trans (k5.mono fun i _ hi => Or.inr (by have h9 : i = w.heap.size + 1 := hi; omega))
  obtain ⟨⟨cp5a, fp5a⟩, ⟨cp5b, fp5b⟩, cp5c, fp5c⟩ := blk3 bp5
  obtain ⟨⟨cf5a, ff5a⟩, ⟨cf5b, ff5b⟩, cf5c, ff5c⟩ := blk3 bf5
  obtain ⟨⟨cb5a, fb5a⟩, ⟨cb5b, fb5b⟩, cb5c, fb5c⟩ := blk3 bb5
  obtain ⟨⟨cx5a, fx5a⟩, ⟨cx5b, fx5b⟩, cx5c, fx5c⟩ := blk3 bx5
  obtain ⟨⟨cy5a, fy5a⟩, ⟨cy5b, fy5b⟩, cy5c, fy5c⟩ := blk3 by5
  obtain ⟨V6a, V6b, V6, e6a, e6b, e6c, ⟨x6a, y6a⟩, ⟨x6b, y6b⟩, ⟨x6c, y6c⟩, bb6, k6⟩ := store3 bb5 (.int .u8 F.r) (.int .u8 F.g) (.int .u8 F.b)
  have bp6 := k6.blk bp5 (fun (h : w.heap.size = w.heap.size + 1 + 1) => by omega)
  have bf6 := k6.blk bf5 (fun (h : w.heap.size + 1 = w.heap.size + 1 + 1) => by omega)
  have bx6 := k6.blk bx5 (fun (h : w1.heap.size = w.heap.size + 1 + 1) => by omega)
  have by6 := k6.blk by5 (fun (h : w2.heap.size = w.heap.size + 1 + 1) => by omega)
  have K6 := K5.trans (k6.mono fun i _ hi => Or.inr (by have h9 : i = w.heap.size + 1 + 1 := hi; omega))
  obtain ⟨⟨cp6a, fp6a⟩, ⟨cp6b, fp6b⟩, cp6c, fp6c⟩ := blk3 bp6
  obtain ⟨⟨cf6a, ff6a⟩, ⟨cf6b, ff6b⟩, cf6c, ff6c⟩ := blk3 bf6
  obtain ⟨⟨cb6a, fb6a⟩, ⟨cb6b, fb6b⟩, cb6c, fb6c⟩ := blk3 bb6
  obtain ⟨⟨cx6a, fx6a⟩, ⟨cx6b, fx6b⟩, cx6c, fx6c⟩ := blk3 bx6
  obtain ⟨⟨cy6a, fy6a⟩, ⟨cy6b, fy6b⟩, cy6c, fy6c⟩ := blk3 by6
  have HK := Lib.hid K6
  clear hk kr r0 r1 r2 r3 bp2  bf2  bb2  bx2  by2  bp3  bf3  bb3  bx3  by3  bp4  bf4  bb4  bx4  by4  bp5  bf5  bb5  bx5  by5  bp6  bf6  bb6  bx6  by6 k2 K2 k3 K3 k4 K4 k5 K5 k6 K6
  go_wp2
  as_aux_lemma =>
    go_region
    all_goals go_wp2
    all_goals
      exact bodyPost_ret (v := .tuple #[.agg #[.int .u8 B.r, .int .u8 B.g, .int .u8 B.b], .agg #[.int .u8 F.r, .int .u8 F.g, .int .u8 F.b]]) (by simp [results, Try.results36, go_sem, *]) rfl ⟨by rw [HCOL.out]; rfl, HK.out.drew⟩

set_option maxRecDepth 100000 in
set_option maxHeartbeats 8000000 in
theorem cols14_nih (a : Look) (w : World) (h2 : hasB a.fl 2 = false) (h32 : hasB a.fl 32 = true) (h64 : hasB a.fl 64 = true) :
    Calls Try.prog 36 #[lookV a] w (ColsPost a w) := by
  obtain ⟨fg, bg, fl⟩ := a
  have hcol : colors ⟨fg, bg, fl⟩ = (let F := colour fg true; let B := colour bg false; (⟨F.r, F.g, F.b⟩, ⟨F.r, F.g, F.b⟩)) := by unfold colors; simp only [h2, h32, h64, if_true, if_false, Bool.false_eq_true, Rgb.half]
  obtain ⟨F, hF⟩ : ∃ F, colour fg true = F := ⟨_, rfl⟩
  obtain ⟨B, hB⟩ : ∃ B, colour bg false = B := ⟨_, rfl⟩
  have hFB := colour_isB fg true
  have hBB := colour_isB bg false
  rw [hF] at hFB
  rw [hB] at hBB
  simp only [hF, hB] at hcol
  obtain ⟨⟨F0, F1⟩, ⟨F2, F3⟩, F4, F5⟩ := hFB
  obtain ⟨⟨B0, B1⟩, ⟨B2, B3⟩, B4, B5⟩ := hBB
  have HF := Lib.hid (show ∀ w, Calls Try.prog 66 #[.int .i64 fg, .bool true] w fun e w' => e = .returned (.agg #[.int .u8 F.r, .int .u8 F.g, .int .u8 F.b]) ∧ Kept (fun _ => False) w w' from fun w => by have h := rcolr_any fg true w; rw [hF] at h; exact h)
  have HB := Lib.hid (show ∀ w, Calls Try.prog 66 #[.int .i64 bg, .bool false] w fun e w' => e = .returned (.agg #[.int .u8 B.r, .int .u8 B.g, .int .u8 B.b]) ∧ Kept (fun _ => False) w w' from fun w => by have h := rcolr_any bg false w; rw [hB] at h; exact h)
  have HCOL := Lib.hid hcol
  obtain ⟨z2, hz2⟩ : ∃ z, bits .and .i64 fl 2 = z := ⟨_, rfl⟩
  obtain ⟨z32, hz32⟩ : ∃ z, bits .and .i64 fl 32 = z := ⟨_, rfl⟩
  obtain ⟨z64, hz64⟩ : ∃ z, bits .and .i64 fl 64 = z := ⟨_, rfl⟩
  unfold hasB at h2 h32 h64
  simp only [hz2] at h2
  simp only [hz32] at h32
  simp only [hz64] at h64
  clear hF hB hcol
  obtain ⟨W, hW⟩ : ∃ W, ((w.alloc (.cells #[.int .i64 fg, .int .i64 bg, .int .i64 fl] 54)).alloc (.cells #[.int .u8 0, .int .u8 0, .int .u8 0] 96)).alloc (.cells #[.int .u8 0, .int .u8 0, .int .u8 0] 96) = W := ⟨_, rfl⟩
  have kW : Kept (fun _ => False) w W := by rw [← hW]; exact (((Kept.refl _ w).alloc _).alloc _).alloc _
  have bp0 : W.heap[w.heap.size]? = some (.cells #[.int .i64 fg, .int .i64 bg, .int .i64 fl] 54 (0, 0)) := by rw [← hW]; exact blk_alloc (blk_alloc (blk_new _ _) _) _
  have bf0 : W.heap[w.heap.size + 1]? = some (.cells #[.int .u8 0, .int .u8 0, .int .u8 0] 96 (0, 0)) := by rw [← hW]; exact blk_alloc (blk_at _ _ (by simp)) _
  have bb0 : W.heap[w.heap.size + 1 + 1]? = some (.cells #[.int .u8 0, .int .u8 0, .int .u8 0] 96 (0, 0)) := by rw [← hW]; exact blk_at _ _ (by simp)
  have HP := Lib.hid bp0
  have HF0 := Lib.hid bf0
  have HB0 := Lib.hid bb0
  have HKW := Lib.hid kW
  obtain ⟨⟨cp0a, fp0a⟩, ⟨cp0b, fp0b⟩, cp0c, fp0c⟩ := blk3 bp0
  clear kW bp0 bf0 bb0
  unfold lookV
  go_enter Try.func36, Try.ntmps36
  go_wp2_with fail
  refine (HF.out _).mono ?_; rintro e w1 ⟨rfl, hk⟩
  have kq := HKW.out.then hk
  have q0 := hk.blk HP.out id
  have q1 := hk.blk HF0.out id
  have q2 := hk.blk HB0.out id
  have z1 : w.heap.size + 1 + 1 < w1.heap.size := lt_of_blk q2
  obtain ⟨⟨cp0a, fp0a⟩, ⟨cp0b, fp0b⟩, cp0c, fp0c⟩ := blk3 q0
  obtain ⟨⟨cf0a, ff0a⟩, ⟨cf0b, ff0b⟩, cf0c, ff0c⟩ := blk3 q1
  obtain ⟨⟨cb0a, fb0a⟩, ⟨cb0b, fb0b⟩, cb0c, fb0c⟩ := blk3 q2
  obtain ⟨V1, e1⟩ : ∃ V, w1.alloc (.cells #[.int .u8 F.r, .int .u8 F.g, .int .u8 F.b] 96) = V := ⟨_, rfl⟩
  have s1 : V1.heap.size = w1.heap.size + 1 := by rw [← e1]; simp
  have bx1 : V1.heap[w1.heap.size]? = some (.cells #[.int .u8 F.r, .int .u8 F.g, .int .u8 F.b] 96 (0, 0)) := by rw [← e1]; exact blk_new _ _
  have k1 : Kept (fun _ => False) w1 V1 := by rw [← e1]; exact (Kept.refl (fun _ => False) _).alloc _
  have bp1 := k1.blk q0 id
  have bf1 := k1.blk q1 id
  have bb1 := k1.blk q2 id
  have K1 := kq.then k1
  obtain ⟨⟨cp1a, fp1a⟩, ⟨cp1b, fp1b⟩, cp1c, fp1c⟩ := blk3 bp1
  obtain ⟨⟨cf1a, ff1a⟩, ⟨cf1b, ff1b⟩, cf1c, ff1c⟩ := blk3 bf1
  obtain ⟨⟨cb1a, fb1a⟩, ⟨cb1b, fb1b⟩, cb1c, fb1c⟩ := blk3 bb1
  obtain ⟨⟨cx1a, fx1a⟩, ⟨cx1b, fx1b⟩, cx1c, fx1c⟩ := blk3 bx1
  have HP1 := Lib.hid bp1
  have HF1 := Lib.hid bf1
  have HB1 := Lib.hid bb1
  have HX1 := Lib.hid bx1
  have HK1 := Lib.hid K1
  clear q0 q1 q2 kq hk bp1 bf1 bb1 bx1 k1 K1
  go_wp2_with fail
  refine (HB.out _).mono ?_; rintro e w2 ⟨rfl, hk⟩
  have r0 := hk.blk HP1.out id
  have r1 := hk.blk HF1.out id
  have r2 := hk.blk HB1.out id
  have r3 := hk.blk HX1.out id
  have kr := HK1.out.then hk
  have z2' : w1.heap.size < w2.heap.size := lt_of_blk r3
  obtain ⟨⟨cp1a, fp1a⟩, ⟨cp1b, fp1b⟩, cp1c, fp1c⟩ := blk3 r0
  obtain ⟨⟨cf1a, ff1a⟩, ⟨cf1b, ff1b⟩, cf1c, ff1c⟩ := blk3 r1
  obtain ⟨⟨cb1a, fb1a⟩, ⟨cb1b, fb1b⟩, cb1c, fb1c⟩ := blk3 r2
  obtain ⟨⟨cx1a, fx1a⟩, ⟨cx1b, fx1b⟩, cx1c, fx1c⟩ := blk3 r3
  obtain ⟨V2, e2⟩ : ∃ V, w2.alloc (.cells #[.int .u8 B.r, .int .u8 B.g, .int .u8 B.b] 96) = V := ⟨_, rfl⟩
  have s2 : V2.heap.size = w2.heap.size + 1 := by rw [← e2]; simp
  have by2 : V2.heap[w2.heap.size]? = some (.cells #[.int .u8 B.r, .int .u8 B.g, .int .u8 B.b] 96 (0, 0)) := by rw [← e2]; exact blk_new _ _
  have k2 : Kept (fun _ => False) w2 V2 := by rw [← e2]; exact (Kept.refl (fun _ => False) _).alloc _
  have bp2 := k2.blk r0 id
  have bf2 := k2.blk r1 id
  have bb2 := k2.blk r2 id
  have bx2 := k2.blk r3 id
  have K2 := kr.then k2
  obtain ⟨⟨cp2a, fp2a⟩, ⟨cp2b, fp2b⟩, cp2c, fp2c⟩ := blk3 bp2
  obtain ⟨⟨cf2a, ff2a⟩, ⟨cf2b, ff2b⟩, cf2c, ff2c⟩ := blk3 bf2
  obtain ⟨⟨cb2a, fb2a⟩, ⟨cb2b, fb2b⟩, cb2c, fb2c⟩ := blk3 bb2
  obtain ⟨⟨cx2a, fx2a⟩, ⟨cx2b, fx2b⟩, cx2c, fx2c⟩ := blk3 bx2
  obtain ⟨⟨cy2a, fy2a⟩, ⟨cy2b, fy2b⟩, cy2c, fy2c⟩ := blk3 by2
  obtain ⟨V3a, V3b, V3, e3a, e3b, e3c, ⟨x3a, y3a⟩, ⟨x3b, y3b⟩, ⟨x3c, y3c⟩, bx3, k3⟩ := store3 bx2 (.int .u8 B.r) (.int .u8 B.g) (.int .u8 B.b)
  have bp3 := k3.blk bp2 (fun (h : w.heap.size = w1.heap.size) => by omega)
  have bf3 := k3.blk bf2 (fun (h : w.heap.size + 1 = w1.heap.size) => by omega)
  have bb3 := k3.blk bb2 (fun (h : w.heap.size + 1 + 1 = w1.heap.size) => by omega)
  have by3 := k3.blk by2 (fun (h : w2.heap.size = w1.heap.size) => by omega)
  have K3 := K2.trans (k3.mono fun i _ hi => Or.inr (by have h9 : i = w1.heap.size := hi; omega))
  obtain ⟨⟨cp3a, fp3a⟩, ⟨cp3b, fp3b⟩, cp3c, fp3c⟩ := blk3 bp3
  obtain ⟨⟨cf3a, ff3a⟩, ⟨cf3b, ff3b⟩, cf3c, ff3c⟩ := blk3 bf3
  obtain ⟨⟨cb3a, fb3a⟩, ⟨cb3b, fb3b⟩, cb3c, fb3c⟩ := blk3 bb3
  obtain ⟨⟨cx3a, fx3a⟩, ⟨cx3b, fx3b⟩, cx3c, fx3c⟩ := blk3 bx3
  obtain ⟨⟨cy3a, fy3a⟩, ⟨cy3b, fy3b⟩, cy3c, fy3c⟩ := blk3 by3
  obtain ⟨V4a, V4b, V4, e4a, e4b, e4c, ⟨x4a, y4a⟩, ⟨x4b, y4b⟩, ⟨x4c, y4c⟩, by4, k4⟩ := store3 by3 (.int .u8 F.r) (.int .u8 F.g) (.int .u8 F.b)
  have bp4 := k4.blk bp3 (fun (h : w.heap.size = w2.heap.size) => by omega)
  have bf4 := k4.blk bf3 (fun (h : w.heap.size + 1 = w2.heap.size) => by omega)
  have bb4 := k4.blk bb3 (fun (h : w.heap.size + 1 + 1 = w2.heap.size) => by omega)
  have bx4 := k4.blk bx3 (fun (h : w1.heap.size = w2.heap.size) => by omega)
  have K4 := K3.trans (k4.mono fun i _ hi => Or.inr (by have h9 : i = w2.heap.size := hi; omega))
  obtain ⟨⟨cp4a, fp4a⟩, ⟨cp4b, fp4b⟩, cp4c, fp4c⟩ := blk3 bp4
  obtain ⟨⟨cf4a, ff4a⟩, ⟨cf4b, ff4b⟩, cf4c, ff4c⟩ := blk3 bf4
  obtain ⟨⟨cb4a, fb4a⟩, ⟨cb4b, fb4b⟩, cb4c, fb4c⟩ := blk3 bb4
  obtain ⟨⟨cx4a, fx4a⟩, ⟨cx4b, fx4b⟩, cx4c, fx4c⟩ := blk3 bx4
  obtain ⟨⟨cy4a, fy4a⟩, ⟨cy4b, fy4b⟩, cy4c, fy4c⟩ := blk3 by4
  obtain ⟨V5a, V5b, V5, e5a, e5b, e5c, ⟨x5a, y5a⟩, ⟨x5b, y5b⟩, ⟨x5c, y5c⟩, bx5, k5⟩ := store3 bx4 (.int .u8 F.r) (.int .u8 F.g) (.int .u8 F.b)
  have bp5 := k5.blk bp4 (fun (h : w.heap.size = w1.heap.size) => by omega)
  have bf5 := k5.blk bf4 (fun (h : w.heap.size + 1 = w1.heap.size) => by omega)
  have bb5 := k5.blk bb4 (fun (h : w.heap.size + 1 + 1 = w1.heap.size) => by omega)
  have by5 := k5.blk by4 (fun (h : w2.heap.size = w1.heap.size) => by omega)
  have K5 := K4.trans (k5.mono fun i _ hi => Or.inr (by have h9 : i = w1.heap.size := hi; omega))
  obtain ⟨⟨cp5a, fp5a⟩, ⟨cp5b, fp5b⟩, cp5c, fp5c⟩ := blk3 bp5
  obtain ⟨⟨cf5a, ff5a⟩, ⟨cf5b, ff5b⟩, cf5c, ff5c⟩ := blk3 bf5
  obtain ⟨⟨cb5a, fb5a⟩, ⟨cb5b, fb5b⟩, cb5c, fb5c⟩ := blk3 bb5
  obtain ⟨⟨cx5a, fx5a⟩, ⟨cx5b, fx5b⟩, cx5c, fx5c⟩ := blk3 bx5
  obtain ⟨⟨cy5a, fy5a⟩, ⟨cy5b, fy5b⟩, cy5c, fy5c⟩ := blk3 by5
  obtain ⟨V6a, V6b, V6, e6a, e6b, e6c, ⟨x6a, y6a⟩, ⟨x6b, y6b⟩, ⟨x6c, y6c⟩, bf6, k6⟩ := store3 bf5 (.int .u8 F.r) (.int .u8 F.g) (.int .u8 F.b)
  have bp6 := k6.blk bp5 (fun (h : w.heap.size = w.heap.size + 1) => by omega)
  have bb6 := k6.blk bb5 (fun (h : w.heap.size + 1 + 1 = w.heap.size + 1) => by omega)
  have bx6 := k6.blk bx5 (fun (h : w1.heap.size = w.heap.size + 1) => by omega)
  have by6 := k6.blk by5 (fun (h : w2.heap.size = w.heap.size + 1) => by omega)
  have K6 := K5.trans (k6.mono fun i _ hi => Or.inr (by have h9 : i = w.heap.size + 1 := hi; omega))
  obtain ⟨⟨cp6a, fp6a⟩, ⟨cp6b, fp6b⟩, cp6c, fp6c⟩ := blk3 bp6
  obtain ⟨⟨cf6a, ff6a⟩, ⟨cf6b, ff6b⟩, cf6c, ff6c⟩ := blk3 bf6
  obtain ⟨⟨cb6a, fb6a⟩, ⟨cb6b, fb6b⟩, cb6c, fb6c⟩ := blk3 bb6
  obtain ⟨⟨cx6a, fx6a⟩, ⟨cx6b, fx6b⟩, cx6c, fx6c⟩ := blk3 bx6
  obtain ⟨⟨cy6a, fy6a⟩, ⟨cy6b, fy6b⟩, cy6c, fy6c⟩ := blk3 by6
  obtain ⟨V7a, V7b, V7, e7a, e7b, e7c, ⟨x7a, y7a⟩, ⟨x7b, y7b⟩, ⟨x7c, y7c⟩, bb7, k7⟩ := store3 bb6 (.int .u8 F.r) (.int .u8 F.g) (.int .u8 F.b)
  have bp7 := k7.blk bp6 (fun (h : w.heap.size = w.heap.size + 1 + 1) => by omega)
  have bf7 := k7.blk bf6 (fun (h : w.heap.size + 1 = w.heap.size + 1 + 1) => by omega)
  have bx7 := k7.blk bx6 (fun (h : w1.heap.size = w.heap.size + 1 + 1) => by omega)
  have by7 := k7.blk by6 (fun (h : w2.heap.size = w.heap.size + 1 + 1) => by omega)
  have K7 := K6.trans (k7.mono fun i _ hi => Or.inr (by have h9 : i = w.heap.size + 1 + 1 := hi; omega))
  obtain ⟨⟨cp7a, fp7a⟩, ⟨cp7b, fp7b⟩, cp7c, fp7c⟩ := blk3 bp7
  obtain ⟨⟨cf7a, ff7a⟩, ⟨cf7b, ff7b⟩, cf7c, ff7c⟩ := blk3 bf7
  obtain ⟨⟨cb7a, fb7a⟩, ⟨cb7b, fb7b⟩, cb7c, fb7c⟩ := blk3 bb7
  obtain ⟨⟨cx7a, fx7a⟩, ⟨cx7b, fx7b⟩, cx7c, fx7c⟩ := blk3 bx7
  obtain ⟨⟨cy7a, fy7a⟩, ⟨cy7b, fy7b⟩, cy7c, fy7c⟩ := blk3 by7
  have HK := Lib.hid K7
  clear hk kr r0 r1 r2 r3 bp2  bf2  bb2  bx2  by2  bp3  bf3  bb3  bx3  by3  bp4  bf4  bb4  bx4  by4  bp5  bf5  bb5  bx5  by5  bp6  bf6  bb6  bx6  by6  bp7  bf7  bb7  bx7  by7 k2 K2 k3 K3 k4 K4 k5 K5 k6 K6 k7 K7
  go_wp2
  as_aux_lemma =>
    go_region
    all_goals go_wp2
    all_goals
      exact bodyPost_ret (v := .tuple #[.agg #[.int .u8 F.r, .int .u8 F.g, .int .u8 F.b], .agg #[.int .u8 F.r, .int .u8 F.g, .int .u8 F.b]]) (by simp [results, Try.results36, go_sem, *]) rfl ⟨by rw [HCOL.out]; rfl, HK.out.drew⟩

set_option maxRecDepth 100000 in
set_option maxHeartbeats 8000000 in
theorem cols14_fnn (a : Look) (w : World) (h2 : hasB a.fl 2 = true) (h32 : hasB a.fl 32 = false) (h64 : hasB a.fl 64 = false) :
    Calls Try.prog 36 #[lookV a] w (ColsPost a w) := by
  obtain ⟨fg, bg, fl⟩ := a
  have hcol : colors ⟨fg, bg, fl⟩ = (let F := colour fg true; let B := colour bg false; (⟨(F.r / 2), (F.g / 2), (F.b / 2)⟩, ⟨B.r, B.g, B.b⟩)) := by unfold colors; simp only [h2, h32, h64, if_true, if_false, Bool.false_eq_true, Rgb.half]
  obtain ⟨F, hF⟩ : ∃ F, colour fg true = F := ⟨_, rfl⟩
  obtain ⟨B, hB⟩ : ∃ B, colour bg false = B := ⟨_, rfl⟩
  have hFB := colour_isB fg true
  have hBB := colour_isB bg false
  rw [hF] at hFB
  rw [hB] at hBB
  simp only [hF, hB] at hcol
  obtain ⟨⟨F0, F1⟩, ⟨F2, F3⟩, F4, F5⟩ := hFB
  obtain ⟨⟨B0, B1⟩, ⟨B2, B3⟩, B4, B5⟩ := hBB
  have HF := Lib.hid (show ∀ w, Calls Try.prog 66 #[.int .i64 fg, .bool true] w fun e w' => e = .returned (.agg #[.int .u8 F.r, .int .u8 F.g, .int .u8 F.b]) ∧ Kept (fun _ => False) w w' from fun w => by have h := rcolr_any fg true w; rw [hF] at h; exact h)
  have HB := Lib.hid (show ∀ w, Calls Try.prog 66 #[.int .i64 bg, .bool false] w fun e w' => e = .returned (.agg #[.int .u8 B.r, .int .u8 B.g, .int .u8 B.b]) ∧ Kept (fun _ => False) w w' from fun w => by have h := rcolr_any bg false w; rw [hB] at h; exact h)
  have HCOL := Lib.hid hcol
  obtain ⟨z2, hz2⟩ : ∃ z, bits .and .i64 fl 2 = z := ⟨_, rfl⟩
  obtain ⟨z32, hz32⟩ : ∃ z, bits .and .i64 fl 32 = z := ⟨_, rfl⟩
  obtain ⟨z64, hz64⟩ : ∃ z, bits .and .i64 fl 64 = z := ⟨_, rfl⟩
  unfold hasB at h2 h32 h64
  simp only [hz2] at h2
  simp only [hz32] at h32
  simp only [hz64] at h64
  clear hF hB hcol
  obtain ⟨W, hW⟩ : ∃ W, ((w.alloc (.cells #[.int .i64 fg, .int .i64 bg, .int .i64 fl] 54)).alloc (.cells #[.int .u8 0, .int .u8 0, .int .u8 0] 96)).alloc (.cells #[.int .u8 0, .int .u8 0, .int .u8 0] 96) = W := ⟨_, rfl⟩
  have kW : Kept (fun _ => False) w W := by rw [← hW]; exact (((Kept.refl _ w).alloc _).alloc _).alloc _
  have bp0 : W.heap[w.heap.size]? = some (.cells #[.int .i64 fg, .int .i64 bg, .int .i64 fl] 54 (0, 0)) := by rw [← hW]; exact blk_alloc (blk_alloc (blk_new _ _) _) _
  have bf0 : W.heap[w.heap.size + 1]? = some (.cells #[.int .u8 0, .int .u8 0, .int .u8 0] 96 (0, 0)) := by rw [← hW]; exact blk_alloc (blk_at _ _ (by simp)) _
  have bb0 : W.heap[w.heap.size + 1 + 1]? = some (.cells #[.int .u8 0, .int .u8 0, .int .u8 0] 96 (0, 0)) := by rw [← hW]; exact blk_at _ _ (by simp)
  have HP := Lib.hid bp0
  have HF0 := Lib.hid bf0
  have HB0 := Lib.hid bb0
  have HKW := Lib.hid kW
  obtain ⟨⟨cp0a, fp0a⟩, ⟨cp0b, fp0b⟩, cp0c, fp0c⟩ := blk3 bp0
  clear kW bp0 bf0 bb0
  unfold lookV
  go_enter Try.func36, Try.ntmps36
  go_wp2_with fail
  refine (HF.out _).mono ?_; rintro e w1 ⟨rfl, hk⟩
  have kq := HKW.out.then hk
  have q0 := hk.blk HP.out id
  have q1 := hk.blk HF0.out id
  have q2 := hk.blk HB0.out id
  have z1 : w.heap.size + 1 + 1 < w1.heap.size := lt_of_blk q2
  obtain ⟨⟨cp0a, fp0a⟩, ⟨cp0b, fp0b⟩, cp0c, fp0c⟩ := blk3 q0
  obtain ⟨⟨cf0a, ff0a⟩, ⟨cf0b, ff0b⟩, cf0c, ff0c⟩ := blk3 q1
  obtain ⟨⟨cb0a, fb0a⟩, ⟨cb0b, fb0b⟩, cb0c, fb0c⟩ := blk3 q2
  obtain ⟨V1, e1⟩ : ∃ V, w1.alloc (.cells #[.int .u8 F.r, .int .u8 F.g, .int .u8 F.b] 96) = V := ⟨_, rfl⟩
  have s1 : V1.heap.size = w1.heap.size + 1 := by rw [← e1]; simp
  have bx1 : V1.heap[w1.heap.size]? = some (.cells #[.int .u8 F.r, .int .u8 F.g, .int .u8 F.b] 96 (0, 0)) := by rw [← e1]; exact blk_new _ _
  have k1 : Kept (fun _ => False) w1 V1 := by rw [← e1]; exact (Kept.refl (fun _ => False) _).alloc _
  have bp1 := k1.blk q0 id
  have bf1 := k1.blk q1 id
  have bb1 := k1.blk q2 id
  have K1 := kq.then k1
  obtain ⟨⟨cp1a, fp1a⟩, ⟨cp1b, fp1b⟩, cp1c, fp1c⟩ := blk3 bp1
  obtain ⟨⟨cf1a, ff1a⟩, ⟨cf1b, ff1b⟩, cf1c, ff1c⟩ := blk3 bf1
  obtain ⟨⟨cb1a, fb1a⟩, ⟨cb1b, fb1b⟩, cb1c, fb1c⟩ := blk3 bb1
  obtain ⟨⟨cx1a, fx1a⟩, ⟨cx1b, fx1b⟩, cx1c, fx1c⟩ := blk3 bx1
  have HP1 := Lib.hid bp1
  have HF1 := Lib.hid bf1
  have HB1 := Lib.hid bb1
  have HX1 := Lib.hid bx1
  have HK1 := Lib.hid K1
  clear q0 q1 q2 kq hk bp1 bf1 bb1 bx1 k1 K1
  go_wp2_with fail
  refine (HB.out _).mono ?_; rintro e w2 ⟨rfl, hk⟩
  have r0 := hk.blk HP1.out id
  have r1 := hk.blk HF1.out id
  have r2 := hk.blk HB1.out id
  have r3 := hk.blk HX1.out id
  have kr := HK1.out.then hk
  have z2' : w1.heap.size < w2.heap.size := lt_of_blk r3
  obtain ⟨⟨cp1a, fp1a⟩, ⟨cp1b, fp1b⟩, cp1c, fp1c⟩ := blk3 r0
  obtain ⟨⟨cf1a, ff1a⟩, ⟨cf1b, ff1b⟩, cf1c, ff1c⟩ := blk3 r1
  obtain ⟨⟨cb1a, fb1a⟩, ⟨cb1b, fb1b⟩, cb1c, fb1c⟩ := blk3 r2
  obtain ⟨⟨cx1a, fx1a⟩, ⟨cx1b, fx1b⟩, cx1c, fx1c⟩ := blk3 r3
  obtain ⟨V2, e2⟩ : ∃ V, w2.alloc (.cells #[.int .u8 B.r, .int .u8 B.g, .int .u8 B.b] 96) = V := ⟨_, rfl⟩
  have s2 : V2.heap.size = w2.heap.size + 1 := by rw [← e2]; simp
  have by2 : V2.heap[w2.heap.size]? = some (.cells #[.int .u8 B.r, .int .u8 B.g, .int .u8 B.b] 96 (0, 0)) := by rw [← e2]; exact blk_new _ _
  have k2 : Kept (fun _ => False) w2 V2 := by rw [← e2]; exact (Kept.refl (fun _ => False) _).alloc _
  have bp2 := k2.blk r0 id
  have bf2 := k2.blk r1 id
  have bb2 := k2.blk r2 id
  have bx2 := k2.blk r3 id
  have K2 := kr.then k2
  obtain ⟨⟨cp2a, fp2a⟩, ⟨cp2b, fp2b⟩, cp2c, fp2c⟩ := blk3 bp2
  obtain ⟨⟨cf2a, ff2a⟩, ⟨cf2b, ff2b⟩, cf2c, ff2c⟩ := blk3 bf2
  obtain ⟨⟨cb2a, fb2a⟩, ⟨cb2b, fb2b⟩, cb2c, fb2c⟩ := blk3 bb2
  obtain ⟨⟨cx2a, fx2a⟩, ⟨cx2b, fx2b⟩, cx2c, fx2c⟩ := blk3 bx2
  obtain ⟨⟨cy2a, fy2a⟩, ⟨cy2b, fy2b⟩, cy2c, fy2c⟩ := blk3 by2
  obtain ⟨V3a, V3b, V3, e3a, e3b, e3c, ⟨x3a, y3a⟩, ⟨x3b, y3b⟩, ⟨x3c, y3c⟩, bx3, k3⟩ := store3 bx2 (.int .u8 (F.r / 2)) (.int .u8 (F.g / 2)) (.int .u8 (F.b / 2))
  have bp3 := k3.blk bp2 (fun (h : w.heap.size = w1.heap.size) => by omega)
  have bf3 := k3.blk bf2 (fun (h : w.heap.size + 1 = w1.heap.size) => by omega)
  have bb3 := k3.blk bb2 (fun (h : w.heap.size + 1 + 1 = w1.heap.size) => by omega)
  have by3 := k3.blk by2 (fun (h : w2.heap.size = w1.heap.size) => by omega)
  have K3 := K2.trans (k3.mono fun i _ hi => Or.inr (by have h9 : i = w1.heap.size := hi; omega))
  obtain ⟨⟨cp3a, fp3a⟩, ⟨cp3b, fp3b⟩, cp3c, fp3c⟩ := blk3 bp3
  obtain ⟨⟨cf3a, ff3a⟩, ⟨cf3b, ff3b⟩, cf3c, ff3c⟩ := blk3 bf3
  obtain ⟨⟨cb3a, fb3a⟩, ⟨cb3b, fb3b⟩, cb3c, fb3c⟩ := blk3 bb3
  obtain ⟨⟨cx3a, fx3a⟩, ⟨cx3b, fx3b⟩, cx3c, fx3c⟩ := blk3 bx3
  obtain ⟨⟨cy3a, fy3a⟩, ⟨cy3b, fy3b⟩, cy3c, fy3c⟩ := blk3 by3
  obtain ⟨V4a, V4b, V4, e4a, e4b, e4c, ⟨x4a, y4a⟩, ⟨x4b, y4b⟩, ⟨x4c, y4c⟩, bf4, k4⟩ := store3 bf3 (.int .u8 (F.r / 2)) (.int .u8 (F.g / 2)) (.int .u8 (F.b / 2))
  have bp4 := k4.blk bp3 (fun (h : w.heap.size = w.heap.size + 1) => by omega)
  have bb4 := k4.blk bb3 (fun (h : w.heap.size + 1 + 1 = w.heap.size + 1) => by omega)
  have bx4 := k4.blk bx3 (fun (h : w1.heap.size = w.heap.size + 1) => by omega)
  have by4 := k4.blk by3 (fun (h : w2.heap.size = w.heap.size + 1) => by omega)
  have K4 := K3.trans (k4.mono fun i _ hi => Or.inr (by have h9 : i = w.heap.size + 1 := hi; omega))
  obtain ⟨⟨cp4a, fp4a⟩, ⟨cp4b, fp4b⟩, cp4c, fp4c⟩ := blk3 bp4
  obtain ⟨⟨cf4a, ff4a⟩, ⟨cf4b, ff4b⟩, cf4c, ff4c⟩ := blk3 bf4
  obtain ⟨⟨cb4a, fb4a⟩, ⟨cb4b, fb4b⟩, cb4c, fb4c⟩ := blk3 bb4
  obtain ⟨⟨cx4a, fx4a⟩, ⟨cx4b, fx4b⟩, cx4c, fx4c⟩ := blk3 bx4
  obtain ⟨⟨cy4a, fy4a⟩, ⟨cy4b, fy4b⟩, cy4c, fy4c⟩ := blk3 by4
  obtain ⟨V5a, V5b, V5, e5a, e5b, e5c, ⟨x5a, y5a⟩, ⟨x5b, y5b⟩, ⟨x5c, y5c⟩, bb5, k5⟩ := store3 bb4 (.int .u8 B.r) (.int .u8 B.g) (.int .u8 B.b)
  have bp5 := k5.blk bp4 (fun (h : w.heap.size = w.heap.size + 1 + 1) => by omega)
  have bf5 := k5.blk bf4 (fun (h : w.heap.size + 1 = w.heap.size + 1 + 1) => by omega)
  have bx5 := k5.blk bx4 (fun (h : w1.heap.size = w.heap.size + 1 + 1) => by omega)
  have by5 := k5.blk by4 (fun (h : w2.heap.size = w.heap.size + 1 + 1) => by omega)
  have K5 := K4.trans (k5.mono fun i _ hi => Or.inr (by have h9 : i = w.heap.size + 1 + 1 := hi; omega))
  obtain ⟨⟨cp5a, fp5a⟩, ⟨cp5b, fp5b⟩, cp5c, fp5c⟩ := blk3 bp5
  obtain ⟨⟨cf5a, ff5a⟩, ⟨cf5b, ff5b⟩, cf5c, ff5c⟩ := blk3 bf5
  obtain ⟨⟨cb5a, fb5a⟩, ⟨cb5b, fb5b⟩, cb5c, fb5c⟩ := blk3 bb5
  obtain ⟨⟨cx5a, fx5a⟩, ⟨cx5b, fx5b⟩, cx5c, fx5c⟩ := blk3 bx5
  obtain ⟨⟨cy5a, fy5a⟩, ⟨cy5b, fy5b⟩, cy5c, fy5c⟩ := blk3 by5
  have HK := Lib.hid K5
  clear hk kr r0 r1 r2 r3 bp2  bf2  bb2  bx2  by2  bp3  bf3  bb3  bx3  by3  bp4  bf4  bb4  bx4  by4  bp5  bf5  bb5  bx5  by5 k2 K2 k3 K3 k4 K4 k5 K5
  go_wp2
  as_aux_lemma =>
    go_region
    all_goals go_wp2
    all_goals
      exact bodyPost_ret (v := .tuple #[.agg #[.int .u8 (F.r / 2), .int .u8 (F.g / 2), .int .u8 (F.b / 2)], .agg #[.int .u8 B.r, .int .u8 B.g, .int .u8 B.b]]) (by simp [results, Try.results36, go_sem, *]) rfl ⟨by rw [HCOL.out]; rfl, HK.out.drew⟩

set_option maxRecDepth 100000 in
set_option maxHeartbeats 8000000 in
theorem cols14_fnh (a : Look) (w : World) (h2 : hasB a.fl 2 = true) (h32 : hasB a.fl 32 = false) (h64 : hasB a.fl 64 = true) :
    Calls Try.prog 36 #[lookV a] w (ColsPost a w) := by
  obtain ⟨fg, bg, fl⟩ := a
  have hcol : colors ⟨fg, bg, fl⟩ = (let F := colour fg true; let B := colour bg false; (⟨B.r, B.g, B.b⟩, ⟨B.r, B.g, B.b⟩)) := by unfold colors; simp only [h2, h32, h64, if_true, if_false, Bool.false_eq_true, Rgb.half]
  obtain ⟨F, hF⟩ : ∃ F, colour fg true = F := ⟨_, rfl⟩
  obtain ⟨B, hB⟩ : ∃ B, colour bg false = B := ⟨_, rfl⟩
  have hFB := colour_isB fg true
  have hBB := colour_isB bg false
  rw [hF] at hFB
  rw [hB] at hBB
  simp only [hF, hB] at hcol
  obtain ⟨⟨F0, F1⟩, ⟨F2, F3⟩, F4, F5⟩ := hFB
  obtain ⟨⟨B0, B1⟩, ⟨B2, B3⟩, B4, B5⟩ := hBB
  have HF := Lib.hid (show ∀ w, Calls Try.prog 66 #[.int .i64 fg, .bool true] w fun e w' => e = .returned (.agg #[.int .u8 F.r, .int .u8 F.g, .int .u8 F.b]) ∧ Kept (fun _ => False) w w' from fun w => by have h := rcolr_any fg true w; rw [hF] at h; exact h)
  have HB := Lib.hid (show ∀ w, Calls Try.prog 66 #[.int .i64 bg, .bool false] w fun e w' => e = .returned (.agg #[.int .u8 B.r, .int .u8 B.g, .int .u8 B.b]) ∧ Kept (fun _ => False) w w' from fun w => by have h := rcolr_any bg false w; rw [hB] at h; exact h)
  have HCOL := Lib.hid hcol
  obtain ⟨z2, hz2⟩ : ∃ z, bits .and .i64 fl 2 = z := ⟨_, rfl⟩
  obtain ⟨z32, hz32⟩ : ∃ z, bits .and .i64 fl 32 = z := ⟨_, rfl⟩
  obtain ⟨z64, hz64⟩ : ∃ z, bits .and .i64 fl 64 = z := ⟨_, rfl⟩
  unfold hasB at h2 h32 h64
  simp only [hz2] at h2
  simp only [hz32] at h32
  simp only [hz64] at h64
  clear hF hB hcol
  obtain ⟨W, hW⟩ : ∃ W, ((w.alloc (.cells #[.int .i64 fg, .int .i64 bg, .int .i64 fl] 54)).alloc (.cells #[.int .u8 0, .int .u8 0, .int .u8 0] 96)).alloc (.cells #[.int .u8 0, .int .u8 0, .int .u8 0] 96) = W := ⟨_, rfl⟩
  have kW : Kept (fun _ => False) w W := by rw [← hW]; exact (((Kept.refl _ w).alloc _).alloc _).alloc _
  have bp0 : W.heap[w.heap.size]? = some (.cells #[.int .i64 fg, .int .i64 bg, .int .i64 fl] 54 (0, 0)) := by rw [← hW]; exact blk_alloc (blk_alloc (blk_new _ _) _) _
  have bf0 : W.heap[w.heap.size + 1]? = some (.cells #[.int .u8 0, .int .u8 0, .int .u8 0] 96 (0, 0)) := by rw [← hW]; exact blk_alloc (blk_at _ _ (by simp)) _
  have bb0 : W.heap[w.heap.size + 1 + 1]? = some (.cells #[.int .u8 0, .int .u8 0, .int .u8 0] 96 (0, 0)) := by rw [← hW]; exact blk_at _ _ (by simp)
  have HP := Lib.hid bp0
  have HF0 := Lib.hid bf0
  have HB0 := Lib.hid bb0
  have HKW := Lib.hid kW
  obtain ⟨⟨cp0a, fp0a⟩, ⟨cp0b, fp0b⟩, cp0c, fp0c⟩ := blk3 bp0
  clear kW bp0 bf0 bb0
  unfold lookV
  go_enter Try.func36, Try.ntmps36
  go_wp2_with fail
  refine (HF.out _).mono ?_; rintro e w1 ⟨rfl, hk⟩
  have kq := HKW.out.then hk
  have q0 := hk.blk HP.out id
  have q1 := hk.blk HF0.out id
  have q2 := hk.blk HB0.out id
  have z1 : w.heap.size + 1 + 1 < w1.heap.size := lt_of_blk q2
  obtain ⟨⟨cp0a, fp0a⟩, ⟨cp0b, fp0b⟩, cp0c, fp0c⟩ := blk3 q0
  obtain ⟨⟨cf0a, ff0a⟩, ⟨cf0b, ff0b⟩, cf0c, ff0c⟩ := blk3 q1
  obtain ⟨⟨cb0a, fb0a⟩, ⟨cb0b, fb0b⟩, cb0c, fb0c⟩ := blk3 q2
  obtain ⟨V1, e1⟩ : ∃ V, w1.alloc (.cells #[.int .u8 F.r, .int .u8 F.g, .int .u8 F.b] 96) = V := ⟨_, rfl⟩
  have s1 : V1.heap.size = w1.heap.size + 1 := by rw [← e1]; simp
  have bx1 : V1.heap[w1.heap.size]? = some (.cells #[.int .u8 F.r, .int .u8 F.g, .int .u8 F.b] 96 (0, 0)) := by rw [← e1]; exact blk_new _ _
  have k1 : Kept (fun _ => False) w1 V1 := by rw [← e1]; exact (Kept.refl (fun _ => False) _).alloc _
  have bp1 := k1.blk q0 id
  have bf1 := k1.blk q1 id
  have bb1 := k1.blk q2 id
  have K1 := kq.then k1
  obtain ⟨⟨cp1a, fp1a⟩, ⟨cp1b, fp1b⟩, cp1c, fp1c⟩ := blk3 bp1
  obtain ⟨⟨cf1a, ff1a⟩, ⟨cf1b, ff1b⟩, cf1c, ff1c⟩ := blk3 bf1
  obtain ⟨⟨cb1a, fb1a⟩, ⟨cb1b, fb1b⟩, cb1c, fb1c⟩ := blk3 bb1
  obtain ⟨⟨cx1a, fx1a⟩, ⟨cx1b, fx1b⟩, cx1c, fx1c⟩ := blk3 bx1
  have HP1 := Lib.hid bp1
  have HF1 := Lib.hid bf1
  have HB1 := Lib.hid bb1
  have HX1 := Lib.hid bx1
  have HK1 := Lib.hid K1
  clear q0 q1 q2 kq hk bp1 bf1 bb1 bx1 k1 K1
  go_wp2_with fail
  refine (HB.out _).mono ?_; rintro e w2 ⟨rfl, hk⟩
  have r0 := hk.blk HP1.out id
  have r1 := hk.blk HF1.out id
  have r2 := hk.blk HB1.out id
  have r3 := hk.blk HX1.out id
  have kr := HK1.out.then hk
  have z2' : w1.heap.size < w2.heap.size := lt_of_blk r3
  obtain ⟨⟨cp1a, fp1a⟩, ⟨cp1b, fp1b⟩, cp1c, fp1c⟩ := blk3 r0
  obtain ⟨⟨cf1a, ff1a⟩, ⟨cf1b, ff1b⟩, cf1c, ff1c⟩ := blk3 r1
  obtain ⟨⟨cb1a, fb1a⟩, ⟨cb1b, fb1b⟩, cb1c, fb1c⟩ := blk3 r2
  obtain ⟨⟨cx1a, fx1a⟩, ⟨cx1b, fx1b⟩, cx1c, fx1c⟩ := blk3 r3
  obtain ⟨V2, e2⟩ : ∃ V, w2.alloc (.cells #[.int .u8 B.r, .int .u8 B.g, .int .u8 B.b] 96) = V := ⟨_, rfl⟩
  have s2 : V2.heap.size = w2.heap.size + 1 := by rw [← e2]; simp
  have by2 : V2.heap[w2.heap.size]? = some (.cells #[.int .u8 B.r, .int .u8 B.g, .int .u8 B.b] 96 (0, 0)) := by rw [← e2]; exact blk_new _ _
  have k2 : Kept (fun _ => False) w2 V2 := by rw [← e2]; exact (Kept.refl (fun _ => False) _).alloc _
  have bp2 := k2.blk r0 id
  have bf2 := k2.blk r1 id
  have bb2 := k2.blk r2 id
  have bx2 := k2.blk r3 id
  have K2 := kr.then k2
  obtain ⟨⟨cp2a, fp2a⟩, ⟨cp2b, fp2b⟩, cp2c, fp2c⟩ := blk3 bp2
  obtain ⟨⟨cf2a, ff2a⟩, ⟨cf2b, ff2b⟩, cf2c, ff2c⟩ := blk3 bf2
  obtain ⟨⟨cb2a, fb2a⟩, ⟨cb2b, fb2b⟩, cb2c, fb2c⟩ := blk3 bb2
  obtain ⟨⟨cx2a, fx2a⟩, ⟨cx2b, fx2b⟩, cx2c, fx2c⟩ := blk3 bx2
  obtain ⟨⟨cy2a, fy2a⟩, ⟨cy2b, fy2b⟩, cy2c, fy2c⟩ := blk3 by2
  obtain ⟨V3a, V3b, V3, e3a, e3b, e3c, ⟨x3a, y3a⟩, ⟨x3b, y3b⟩, ⟨x3c, y3c⟩, bx3, k3⟩ := store3 bx2 (.int .u8 (F.r / 2)) (.int .u8 (F.g / 2)) (.int .u8 (F.b / 2))
  have bp3 := k3.blk bp2 (fun (h : w.heap.size = w1.heap.size) => by omega)
  have bf3 := k3.blk bf2 (fun (h : w.heap.size + 1 = w1.heap.size) => by omega)
  have bb3 := k3.blk bb2 (fun (h : w.heap.size + 1 + 1 = w1.heap.size) => by omega)
  have by3 := k3.blk by2 (fun (h : w2.heap.size = w1.heap.size) => by omega)
  have K3 := K2.trans (k3.mono fun i _ hi => Or.inr (by have h9 : i = w1.heap.size := hi; omega))
  obtain ⟨⟨cp3a, fp3a⟩, ⟨cp3b, fp3b⟩, cp3c, fp3c⟩ := blk3 bp3
  obtain ⟨⟨cf3a, ff3a⟩, ⟨cf3b, ff3b⟩, cf3c, ff3c⟩ := blk3 bf3
  obtain ⟨⟨cb3a, fb3a⟩, ⟨cb3b, fb3b⟩, cb3c, fb3c⟩ := blk3 bb3
  obtain ⟨⟨cx3a, fx3a⟩, ⟨cx3b, fx3b⟩, cx3c, fx3c⟩ := blk3 bx3
  obtain ⟨⟨cy3a, fy3a⟩, ⟨cy3b, fy3b⟩, cy3c, fy3c⟩ := blk3 by3
  obtain ⟨V4a, V4b, V4, e4a, e4b, e4c, ⟨x4a, y4a⟩, ⟨x4b, y4b⟩, ⟨x4c, y4c⟩, bx4, k4⟩ := store3 bx3 (.int .u8 B.r) (.int .u8 B.g) (.int .u8 B.b)
  have bp4 := k4.blk bp3 (fun (h : w.heap.size = w1.heap.size) => by omega)
  have bf4 := k4.blk bf3 (fun (h : w.heap.size + 1 = w1.heap.size) => by omega)
  have bb4 := k4.blk bb3 (fun (h : w.heap.size + 1 + 1 = w1.heap.size) => by omega)
  have by4 := k4.blk by3 (fun (h : w2.heap.size = w1.heap.size) => by omega)
  have K4 := K3.trans (k4.mono fun i _ hi => Or.inr (by have h9 : i = w1.heap.size := hi; omega))
  obtain ⟨⟨cp4a, fp4a⟩, ⟨cp4b, fp4b⟩, cp4c, fp4c⟩ := blk3 bp4
  obtain ⟨⟨cf4a, ff4a⟩, ⟨cf4b, ff4b⟩, cf4c, ff4c⟩ := blk3 bf4
  obtain ⟨⟨cb4a, fb4a⟩, ⟨cb4b, fb4b⟩, cb4c, fb4c⟩ := blk3 bb4
  obtain ⟨⟨cx4a, fx4a⟩, ⟨cx4b, fx4b⟩, cx4c, fx4c⟩ := blk3 bx4
  obtain ⟨⟨cy4a, fy4a⟩, ⟨cy4b, fy4b⟩, cy4c, fy4c⟩ := blk3 by4
  obtain ⟨V5a, V5b, V5, e5a, e5b, e5c, ⟨x5a, y5a⟩, ⟨x5b, y5b⟩, ⟨x5c, y5c⟩, bf5, k5⟩ := store3 bf4 (.int .u8 B.r) (.int .u8 B.g) (.int .u8 B.b)
  have bp5 := k5.blk bp4 (fun (h : w.heap.size = w.heap.size + 1) => by omega)
  have bb5 := k5.blk bb4 (fun (h : w.heap.size + 1 + 1 = w.heap.size + 1) => by omega)
  have bx5 := k5.blk bx4 (fun (h : w1.heap.size = w.heap.size + 1) => by omega)
  have by5 := k5.blk by4 (fun (h : w2.heap.size = w.heap.size + 1) => by omega)
  have K5 := K4.trans (k5.mono fun i _ hi => Or.inr (by have h9 : i = w.heap.size + 1 := hi; omega))
  obtain ⟨⟨cp5a, fp5a⟩, ⟨cp5b, fp5b⟩, cp5c, fp5c⟩ := blk3 bp5
  obtain ⟨⟨cf5a, ff5a⟩, ⟨cf5b, ff5b⟩, cf5c, ff5c⟩ := blk3 bf5
  obtain ⟨⟨cb5a, fb5a⟩, ⟨cb5b, fb5b⟩, cb5c, fb5c⟩ := blk3 bb5
  obtain ⟨⟨cx5a, fx5a⟩, ⟨cx5b, fx5b⟩, cx5c, fx5c⟩ := blk3 bx5
  obtain ⟨⟨cy5a, fy5a⟩, ⟨cy5b, fy5b⟩, cy5c, fy5c⟩ := blk3 by5
  obtain ⟨V6a, V6b, V6, e6a, e6b, e6c, ⟨x6a, y6a⟩, ⟨x6b, y6b⟩, ⟨x6c, y6c⟩, bb6, k6⟩ := store3 bb5 (.int .u8 B.r) (.int .u8 B.g) (.int .u8 B.b)
  have bp6 := k6.blk bp5 (fun (h : w.heap.size = w.heap.size + 1 + 1) => by omega)
  have bf6 := k6.blk bf5 (fun (h : w.heap.size + 1 = w.heap.size + 1 + 1) => by omega)
  have bx6 := k6.blk bx5 (fun (h : w1.heap.size = w.heap.size + 1 + 1) => by omega)
  have by6 := k6.blk by5 (fun (h : w2.heap.size = w.heap.size + 1 + 1) => by omega)
  have K6 := K5.trans (k6.mono fun i _ hi => Or.inr (by have h9 : i = w.heap.size + 1 + 1 := hi; omega))
  obtain ⟨⟨cp6a, fp6a⟩, ⟨cp6b, fp6b⟩, cp6c, fp6c⟩ := blk3 bp6
  obtain ⟨⟨cf6a, ff6a⟩, ⟨cf6b, ff6b⟩, cf6c, ff6c⟩ := blk3 bf6
  obtain ⟨⟨cb6a, fb6a⟩, ⟨cb6b, fb6b⟩, cb6c, fb6c⟩ := blk3 bb6
  obtain ⟨⟨cx6a, fx6a⟩, ⟨cx6b, fx6b⟩, cx6c, fx6c⟩ := blk3 bx6
  obtain ⟨⟨cy6a, fy6a⟩, ⟨cy6b, fy6b⟩, cy6c, fy6c⟩ := blk3 by6
  have HK := Lib.hid K6
  clear hk kr r0 r1 r2 r3 bp2  bf2  bb2  bx2  by2  bp3  bf3  bb3  bx3  by3  bp4  bf4  bb4  bx4  by4  bp5  bf5  bb5  bx5  by5  bp6  bf6  bb6  bx6  by6 k2 K2 k3 K3 k4 K4 k5 K5 k6 K6
  go_wp2
  as_aux_lemma =>
    go_region
    all_goals go_wp2
    all_goals
      exact bodyPost_ret (v := .tuple #[.agg #[.int .u8 B.r, .int .u8 B.g, .int .u8 B.b], .agg #[.int .u8 B.r, .int .u8 B.g, .int .u8 B.b]]) (by simp [results, Try.results36, go_sem, *]) rfl ⟨by rw [HCOL.out]; rfl, HK.out.drew⟩

set_option maxRecDepth 100000 in
set_option maxHeartbeats 8000000 in
theorem cols14_fin (a : Look) (w : World) (h2 : hasB a.fl 2 = true) (h32 : hasB a.fl 32 = true) (h64 : hasB a.fl 64 = false) :
    Calls Try.prog 36 #[lookV a] w (ColsPost a w) := by
  obtain ⟨fg, bg, fl⟩ := a
  have hcol : colors ⟨fg, bg, fl⟩ = (let F := colour fg true; let B := colour bg false; (⟨B.r, B.g, B.b⟩, ⟨(F.r / 2), (F.g / 2), (F.b / 2)⟩)) := by unfold colors; simp only [h2, h32, h64, if_true, if_false, Bool.false_eq_true, Rgb.half]
  obtain ⟨F, hF⟩ : ∃ F, colour fg true = F := ⟨_, rfl⟩
  obtain ⟨B, hB⟩ : ∃ B, colour bg false = B := ⟨_, rfl⟩
  have hFB := colour_isB fg true
  have hBB := colour_isB bg false
  rw [hF] at hFB
  rw [hB] at hBB
  simp only [hF, hB] at hcol
  obtain ⟨⟨F0, F1⟩, ⟨F2, F3⟩, F4, F5⟩ := hFB
  obtain ⟨⟨B0, B1⟩, ⟨B2, B3⟩, B4, B5⟩ := hBB
  have HF := Lib.hid (show ∀ w, Calls Try.prog 66 #[.int .i64 fg, .bool true] w fun e w' => e = .returned (.agg #[.int .u8 F.r, .int .u8 F.g, .int .u8 F.b]) ∧ Kept (fun _ => False) w w' from fun w => by have h := rcolr_any fg true w; rw [hF] at h; exact h)
  have HB := Lib.hid (show ∀ w, Calls Try.prog 66 #[.int .i64 bg, .bool false] w fun e w' => e = .returned (.agg #[.int .u8 B.r, .int .u8 B.g, .int .u8 B.b]) ∧ Kept (fun _ => False) w w' from fun w => by have h := rcolr_any bg false w; rw [hB] at h; exact h)
  have HCOL := Lib.hid hcol
  obtain ⟨z2, hz2⟩ : ∃ z, bits .and .i64 fl 2 = z := ⟨_, rfl⟩
  obtain ⟨z32, hz32⟩ : ∃ z, bits .and .i64 fl 32 = z := ⟨_, rfl⟩
  obtain ⟨z64, hz64⟩ : ∃ z, bits .and .i64 fl 64 = z := ⟨_, rfl⟩
  unfold hasB at h2 h32 h64
  simp only [hz2] at h2
  simp only [hz32] at h32
  simp only [hz64] at h64
  clear hF hB hcol
  obtain ⟨W, hW⟩ : ∃ W, ((w.alloc (.cells #[.int .i64 fg, .int .i64 bg, .int .i64 fl] 54)).alloc (.cells #[.int .u8 0, .int .u8 0, .int .u8 0] 96)).alloc (.cells #[.int .u8 0, .int .u8 0, .int .u8 0] 96) = W := ⟨_, rfl⟩
  have kW : Kept (fun _ => False) w W := by rw [← hW]; exact (((Kept.refl _ w).alloc _).alloc _).alloc _
  have bp0 : W.heap[w.heap.size]? = some (.cells #[.int .i64 fg, .int .i64 bg, .int .i64 fl] 54 (0, 0)) := by rw [← hW]; exact blk_alloc (blk_alloc (blk_new _ _) _) _
  have bf0 : W.heap[w.heap.size + 1]? = some (.cells #[.int .u8 0, .int .u8 0, .int .u8 0] 96 (0, 0)) := by rw [← hW]; exact blk_alloc (blk_at _ _ (by simp)) _
  have bb0 : W.heap[w.heap.size + 1 + 1]? = some (.cells #[.int .u8 0, .int .u8 0, .int .u8 0] 96 (0, 0)) := by rw [← hW]; exact blk_at _ _ (by simp)
  have HP := Lib.hid bp0
  have HF0 := Lib.hid bf0
  have HB0 := Lib.hid bb0
  have HKW := Lib.hid kW
  obtain ⟨⟨cp0a, fp0a⟩, ⟨cp0b, fp0b⟩, cp0c, fp0c⟩ := blk3 bp0
  clear kW bp0 bf0 bb0
  unfold lookV
  go_enter Try.func36, Try.ntmps36
  go_wp2_with fail
  refine (HF.out _).mono ?_; rintro e w1 ⟨rfl, hk⟩
  have kq := HKW.out.then hk
  have q0 := hk.blk HP.out id
  have q1 := hk.blk HF0.out id
  have q2 := hk.blk HB0.out id
  have z1 : w.heap.size + 1 + 1 < w1.heap.size := lt_of_blk q2
  obtain ⟨⟨cp0a, fp0a⟩, ⟨cp0b, fp0b⟩, cp0c, fp0c⟩ := blk3 q0
  obtain ⟨⟨cf0a, ff0a⟩, ⟨cf0b, ff0b⟩, cf0c, ff0c⟩ := blk3 q1
  obtain ⟨⟨cb0a, fb0a⟩, ⟨cb0b, fb0b⟩, cb0c, fb0c⟩ := blk3 q2
  obtain ⟨V1, e1⟩ : ∃ V, w1.alloc (.cells #[.int .u8 F.r, .int .u8 F.g, .int .u8 F.b] 96) = V := ⟨_, rfl⟩
  have s1 : V1.heap.size = w1.heap.size + 1 := by rw [← e1]; simp
  have bx1 : V1.heap[w1.heap.size]? = some (.cells #[.int .u8 F.r, .int .u8 F.g, .int .u8 F.b] 96 (0, 0)) := by rw [← e1]; exact blk_new _ _
  have k1 : Kept (fun _ => False) w1 V1 := by rw [← e1]; exact (Kept.refl (fun _ => False) _).alloc _
  have bp1 := k1.blk q0 id
  have bf1 := k1.blk q1 id
  have bb1 := k1.blk q2 id
  have K1 := kq.then k1
  obtain ⟨⟨cp1a, fp1a⟩, ⟨cp1b, fp1b⟩, cp1c, fp1c⟩ := blk3 bp1
  obtain ⟨⟨cf1a, ff1a⟩, ⟨cf1b, ff1b⟩, cf1c, ff1c⟩ := blk3 bf1
  obtain ⟨⟨cb1a, fb1a⟩, ⟨cb1b, fb1b⟩, cb1c, fb1c⟩ := blk3 bb1
  obtain ⟨⟨cx1a, fx1a⟩, ⟨cx1b, fx1b⟩, cx1c, fx1c⟩ := blk3 bx1
  have HP1 := Lib.hid bp1
  have HF1 := Lib.hid bf1
  have HB1 := Lib.hid bb1
  have HX1 := Lib.hid bx1
  have HK1 := Lib.hid K1
  clear q0 q1 q2 kq hk bp1 bf1 bb1 bx1 k1 K1
  go_wp2_with fail
  refine (HB.out _).mono ?_; rintro e w2 ⟨rfl, hk⟩
  have r0 := hk.blk HP1.out id
  have r1 := hk.blk HF1.out id
  have r2 := hk.blk HB1.out id
  have r3 := hk.blk HX1.out id
  have kr := HK1.out.then hk
  have z2' : w1.heap.size < w2.heap.size := lt_of_blk r3
  obtain ⟨⟨cp1a, fp1a⟩, ⟨cp1b, fp1b⟩, cp1c, fp1c⟩ := blk3 r0
  obtain ⟨⟨cf1a, ff1a⟩, ⟨cf1b, ff1b⟩, cf1c, ff1c⟩ := blk3 r1
  obtain ⟨⟨cb1a, fb1a⟩, ⟨cb1b, fb1b⟩, cb1c, fb1c⟩ := blk3 r2
  obtain ⟨⟨cx1a, fx1a⟩, ⟨cx1b, fx1b⟩, cx1c, fx1c⟩ := blk3 r3
  obtain ⟨V2, e2⟩ : ∃ V, w2.alloc (.cells #[.int .u8 B.r, .int .u8 B.g, .int .u8 B.b] 96) = V := ⟨_, rfl⟩
  have s2 : V2.heap.size = w2.heap.size + 1 := by rw [← e2]; simp
  have by2 : V2.heap[w2.heap.size]? = some (.cells #[.int .u8 B.r, .int .u8 B.g, .int .u8 B.b] 96 (0, 0)) := by rw [← e2]; exact blk_new _ _
  have k2 : Kept (fun _ => False) w2 V2 := by rw [← e2]; exact (Kept.refl (fun _ => False) _).alloc _
  have bp2 := k2.blk r0 id
  have bf2 := k2.blk r1 id
  have bb2 := k2.blk r2 id
  have bx2 := k2.blk r3 id
  have K2 := kr.then k2
  obtain ⟨⟨cp2a, fp2a⟩, ⟨cp2b, fp2b⟩, cp2c, fp2c⟩ := blk3 bp2
  obtain ⟨⟨cf2a, ff2a⟩, ⟨cf2b, ff2b⟩, cf2c, ff2c⟩ := blk3 bf2
  obtain ⟨⟨cb2a, fb2a⟩, ⟨cb2b, fb2b⟩, cb2c, fb2c⟩ := blk3 bb2
  obtain ⟨⟨cx2a, fx2a⟩, ⟨cx2b, fx2b⟩, cx2c, fx2c⟩ := blk3 bx2
  obtain ⟨⟨cy2a, fy2a⟩, ⟨cy2b, fy2b⟩, cy2c, fy2c⟩ := blk3 by2
  obtain ⟨V3a, V3b, V3, e3a, e3b, e3c, ⟨x3a, y3a⟩, ⟨x3b, y3b⟩, ⟨x3c, y3c⟩, bx3, k3⟩ := store3 bx2 (.int .u8 (F.r / 2)) (.int .u8 (F.g / 2)) (.int .u8 (F.b / 2))
  have bp3 := k3.blk bp2 (fun (h : w.heap.size = w1.heap.size) => by omega)
  have bf3 := k3.blk bf2 (fun (h : w.heap.size + 1 = w1.heap.size) => by omega)
  have bb3 := k3.blk bb2 (fun (h : w.heap.size + 1 + 1 = w1.heap.size) => by omega)
  have by3 := k3.blk by2 (fun (h : w2.heap.size = w1.heap.size) => by omega)
  have K3 := K2.trans (k3.mono fun i _ hi => Or.inr (by have h9 : i = w1.heap.size := hi; omega))
  obtain ⟨⟨cp3a, fp3a⟩, ⟨cp3b, fp3b⟩, cp3c, fp3c⟩ := blk3 bp3
  obtain ⟨⟨cf3a, ff3a⟩, ⟨cf3b, ff3b⟩, cf3c, ff3c⟩ := blk3 bf3
  obtain ⟨⟨cb3a, fb3a⟩, ⟨cb3b, fb3b⟩, cb3c, fb3c⟩ := blk3 bb3
  obtain ⟨⟨cx3a, fx3a⟩, ⟨cx3b, fx3b⟩, cx3c, fx3c⟩ := blk3 bx3
  obtain ⟨⟨cy3a, fy3a⟩, ⟨cy3b, fy3b⟩, cy3c, fy3c⟩ := blk3 by3
  obtain ⟨V4a, V4b, V4, e4a, e4b, e4c, ⟨x4a, y4a⟩, ⟨x4b, y4b⟩, ⟨x4c, y4c⟩, bx4, k4⟩ := store3 bx3 (.int .u8 B.r) (.int .u8 B.g) (.int .u8 B.b)
  have bp4 := k4.blk bp3 (fun (h : w.heap.size = w1.heap.size) => by omega)
  have bf4 := k4.blk bf3 (fun (h : w.heap.size + 1 = w1.heap.size) => by omega)
  have bb4 := k4.blk bb3 (fun (h : w.heap.size + 1 + 1 = w1.heap.size) => by omega)
  have by4 := k4.blk by3 (fun (h : w2.heap.size = w1.heap.size) => by omega)
  have K4 := K3.trans (k4.mono fun i _ hi => Or.inr (by have h9 : i = w1.heap.size := hi; omega))
  obtain ⟨⟨cp4a, fp4a⟩, ⟨cp4b, fp4b⟩, cp4c, fp4c⟩ := blk3 bp4
  obtain ⟨⟨cf4a, ff4a⟩, ⟨cf4b, ff4b⟩, cf4c, ff4c⟩ := blk3 bf4
  obtain ⟨⟨cb4a, fb4a⟩, ⟨cb4b, fb4b⟩, cb4c, fb4c⟩ := blk3 bb4
  obtain ⟨⟨cx4a, fx4a⟩, ⟨cx4b, fx4b⟩, cx4c, fx4c⟩ := blk3 bx4
  obtain ⟨⟨cy4a, fy4a⟩, ⟨cy4b, fy4b⟩, cy4c, fy4c⟩ := blk3 by4
  obtain ⟨V5a, V5b, V5, e5a, e5b, e5c, ⟨x5a, y5a⟩, ⟨x5b, y5b⟩, ⟨x5c, y5c⟩, by5, k5⟩ := store3 by4 (.int .u8 (F.r / 2)) (.int .u8 (F.g / 2)) (.int .u8 (F.b / 2))
  have bp5 := k5.blk bp4 (fun (h : w.heap.size = w2.heap.size) => by omega)
  have bf5 := k5.blk bf4 (fun (h : w.heap.size + 1 = w2.heap.size) => by omega)
  have bb5 := k5.blk bb4 (fun (h : w.heap.size + 1 + 1 = w2.heap.size) => by omega)
  have bx5 := k5.blk bx4 (fun (h : w1.heap.size = w2.heap.size) => by omega)
  have K5 := K4.trans (k5.mono fun i _ hi => Or.inr (by have h9 : i = w2.heap.size := hi; omega))
  obtain ⟨⟨cp5a, fp5a⟩, ⟨cp5b, fp5b⟩, cp5c, fp5c⟩ := blk3 bp5
  obtain ⟨⟨cf5a, ff5a⟩, ⟨cf5b, ff5b⟩, cf5c, ff5c⟩ := blk3 bf5
  obtain ⟨⟨cb5a, fb5a⟩, ⟨cb5b, fb5b⟩, cb5c, fb5c⟩ := blk3 bb5
  obtain ⟨⟨cx5a, fx5a⟩, ⟨cx5b, fx5b⟩, cx5c, fx5c⟩ := blk3 bx5
  obtain ⟨⟨cy5a, fy5a⟩, ⟨cy5b, fy5b⟩, cy5c, fy5c⟩ := blk3 by5
  obtain ⟨V6a, V6b, V6, e6a, e6b, e6c, ⟨x6a, y6a⟩, ⟨x6b, y6b⟩, ⟨x6c, y6c⟩, bf6, k6⟩ := store3 bf5 (.int .u8 B.r) (.int .u8 B.g) (.int .u8 B.b)
  have bp6 := k6.blk bp5 (fun (h : w.heap.size = w.heap.size + 1) => by omega)
  have bb6 := k6.blk bb5 (fun (h : w.heap.size + 1 + 1 = w.heap.size + 1) => by omega)
  have bx6 := k6.blk bx5 (fun (h : w1.heap.size = w.heap.size + 1) => by omega)
  have by6 := k6.blk by5 (fun (h : w2.heap.size = w.heap.size + 1) => by omega)
  have K6 := K5.trans (k6.mono fun i _ hi => Or.inr (by have h9 : i = w.heap.size + 1 := hi; omega))
  obtain ⟨⟨cp6a, fp6a⟩, ⟨cp6b, fp6b⟩, cp6c, fp6c⟩ := blk3 bp6
  obtain ⟨⟨cf6a, ff6a⟩, ⟨cf6b, ff6b⟩, cf6c, ff6c⟩ := blk3 bf6
  obtain ⟨⟨cb6a, fb6a⟩, ⟨cb6b, fb6b⟩, cb6c, fb6c⟩ := blk3 bb6
  obtain ⟨⟨cx6a, fx6a⟩, ⟨cx6b, fx6b⟩, cx6c, fx6c⟩ := blk3 bx6
  obtain ⟨⟨cy6a, fy6a⟩, ⟨cy6b, fy6b⟩, cy6c, fy6c⟩ := blk3 by6
  obtain ⟨V7a, V7b, V7, e7a, e7b, e7c, ⟨x7a, y7a⟩, ⟨x7b, y7b⟩, ⟨x7c, y7c⟩, bb7, k7⟩ := store3 bb6 (.int .u8 (F.r / 2)) (.int .u8 (F.g / 2)) (.int .u8 (F.b / 2))
  have bp7 := k7.blk bp6 (fun (h : w.heap.size = w.heap.size + 1 + 1) => by omega)
  have bf7 := k7.blk bf6 (fun (h : w.heap.size + 1 = w.heap.size + 1 + 1) => by omega)
  have bx7 := k7.blk bx6 (fun (h : w1.heap.size = w.heap.size + 1 + 1) => by omega)
  have by7 := k7.blk by6 (fun (h : w2.heap.size = w.heap.size + 1 + 1) => by omega)
  have K7 := K6.trans (k7.mono fun i _ hi => Or.inr (by have h9 : i = w.heap.size + 1 + 1 := hi; omega))
  obtain ⟨⟨cp7a, fp7a⟩, ⟨cp7b, fp7b⟩, cp7c, fp7c⟩ := blk3 bp7
  obtain ⟨⟨cf7a, ff7a⟩, ⟨cf7b, ff7b⟩, cf7c, ff7c⟩ := blk3 bf7
  obtain ⟨⟨cb7a, fb7a⟩, ⟨cb7b, fb7b⟩, cb7c, fb7c⟩ := blk3 bb7
  obtain ⟨⟨cx7a, fx7a⟩, ⟨cx7b, fx7b⟩, cx7c, fx7c⟩ := blk3 bx7
  obtain ⟨⟨cy7a, fy7a⟩, ⟨cy7b, fy7b⟩, cy7c, fy7c⟩ := blk3 by7
  have HK := Lib.hid K7
  clear hk kr r0 r1 r2 r3 bp2  bf2  bb2  bx2  by2  bp3  bf3  bb3  bx3  by3  bp4  bf4  bb4  bx4  by4  bp5  bf5  bb5  bx5  by5  bp6  bf6  bb6  bx6  by6  bp7  bf7  bb7  bx7  by7 k2 K2 k3 K3 k4 K4 k5 K5 k6 K6 k7 K7
  go_wp2
  as_aux_lemma =>
    go_region
    all_goals go_wp2
    all_goals
      exact bodyPost_ret (v := .tuple #[.agg #[.int .u8 B.r, .int .u8 B.g, .int .u8 B.b], .agg #[.int .u8 (F.r / 2), .int .u8 (F.g / 2), .int .u8 (F.b / 2)]]) (by simp [results, Try.results36, go_sem, *]) rfl ⟨by rw [HCOL.out]; rfl, HK.out.drew⟩

set_option maxRecDepth 100000 in
set_option maxHeartbeats 8000000 in
theorem cols14_fih (a : Look) (w : World) (h2 : hasB a.fl 2 = true) (h32 : hasB a.fl 32 = true) (h64 : hasB a.fl 64 = true) :
    Calls Try.prog 36 #[lookV a] w (ColsPost a w) := by
  obtain ⟨fg, bg, fl⟩ := a
  have hcol : colors ⟨fg, bg, fl⟩ = (let F := colour fg true; let B := colour bg false; (⟨(F.r / 2), (F.g / 2), (F.b / 2)⟩, ⟨(F.r / 2), (F.g / 2), (F.b / 2)⟩)) := by unfold colors; simp only [h2, h32, h64, if_true, if_false, Bool.false_eq_true, Rgb.half]
  obtain ⟨F, hF⟩ : ∃ F, colour fg true = F := ⟨_, rfl⟩
  obtain ⟨B, hB⟩ : ∃ B, colour bg false = B := ⟨_, rfl⟩
  have hFB := colour_isB fg true
  have hBB := colour_isB bg false
  rw [hF] at hFB
  rw [hB] at hBB
  simp only [hF, hB] at hcol
  obtain ⟨⟨F0, F1⟩, ⟨F2, F3⟩, F4, F5⟩ := hFB
  obtain ⟨⟨B0, B1⟩, ⟨B2, B3⟩, B4, B5⟩ := hBB
  have HF := Lib.hid (show ∀ w, Calls Try.prog 66 #[.int .i64 fg, .bool true] w fun e w' => e = .returned (.agg #[.int .u8 F.r, .int .u8 F.g, .int .u8 F.b]) ∧ Kept (fun _ => False) w w' from fun w => by have h := rcolr_any fg true w; rw [hF] at h; exact h)
  have HB := Lib.hid (show ∀ w, Calls Try.prog 66 #[.int .i64 bg, .bool false] w fun e w' => e = .returned (.agg #[.int .u8 B.r, .int .u8 B.g, .int .u8 B.b]) ∧ Kept (fun _ => False) w w' from fun w => by have h := rcolr_any bg false w; rw [hB] at h; exact h)
  have HCOL := Lib.hid hcol
  obtain ⟨z2, hz2⟩ : ∃ z, bits .and .i64 fl 2 = z := ⟨_, rfl⟩
  obtain ⟨z32, hz32⟩ : ∃ z, bits .and .i64 fl 32 = z := ⟨_, rfl⟩
  obtain ⟨z64, hz64⟩ : ∃ z, bits .and .i64 fl 64 = z := ⟨_, rfl⟩
  unfold hasB at h2 h32 h64
  simp only [hz2] at h2
  simp only [hz32] at h32
  simp only [hz64] at h64
  clear hF hB hcol
  obtain ⟨W, hW⟩ : ∃ W, ((w.alloc (.cells #[.int .i64 fg, .int .i64 bg, .int .i64 fl] 54)).alloc (.cells #[.int .u8 0, .int .u8 0, .int .u8 0] 96)).alloc (.cells #[.int .u8 0, .int .u8 0, .int .u8 0] 96) = W := ⟨_, rfl⟩
  have kW : Kept (fun _ => False) w W := by rw [← hW]; exact (((Kept.refl _ w).alloc _).alloc _).alloc _
  have bp0 : W.heap[w.heap.size]? = some (.cells #[.int .i64 fg, .int .i64 bg, .int .i64 fl] 54 (0, 0)) := by rw [← hW]; exact blk_alloc (blk_alloc (blk_new _ _) _) _
  have bf0 : W.heap[w.heap.size + 1]? = some (.cells #[.int .u8 0, .int .u8 0, .int .u8 0] 96 (0, 0)) := by rw [← hW]; exact blk_alloc (blk_at _ _ (by simp)) _
  have bb0 : W.heap[w.heap.size + 1 + 1]? = some (.cells #[.int .u8 0, .int .u8 0, .int .u8 0] 96 (0, 0)) := by rw [← hW]; exact blk_at _ _ (by simp)
  have HP := Lib.hid bp0
  have HF0 := Lib.hid bf0
  have HB0 := Lib.hid bb0
  have HKW := Lib.hid kW
  obtain ⟨⟨cp0a, fp0a⟩, ⟨cp0b, fp0b⟩, cp0c, fp0c⟩ := blk3 bp0
  clear kW bp0 bf0 bb0
  unfold lookV
  go_enter Try.func36, Try.ntmps36
  go_wp2_with fail
  refine (HF.out _).mono ?_; rintro e w1 ⟨rfl, hk⟩
  have kq := HKW.out.then hk
  have q0 := hk.blk HP.out id
  have q1 := hk.blk HF0.out id
  have q2 := hk.blk HB0.out id
  have z1 : w.heap.size + 1 + 1 < w1.heap.size := lt_of_blk q2
  obtain ⟨⟨cp0a, fp0a⟩, ⟨cp0b, fp0b⟩, cp0c, fp0c⟩ := blk3 q0
  obtain ⟨⟨cf0a, ff0a⟩, ⟨cf0b, ff0b⟩, cf0c, ff0c⟩ := blk3 q1
  obtain ⟨⟨cb0a, fb0a⟩, ⟨cb0b, fb0b⟩, cb0c, fb0c⟩ := blk3 q2
  obtain ⟨V1, e1⟩ : ∃ V, w1.alloc (.cells #[.int .u8 F.r, .int .u8 F.g, .int .u8 F.b] 96) = V := ⟨_, rfl⟩
  have s1 : V1.heap.size = w1.heap.size + 1 := by rw [← e1]; simp
  have bx1 : V1.heap[w1.heap.size]? = some (.cells #[.int .u8 F.r, .int .u8 F.g, .int .u8 F.b] 96 (0, 0)) := by rw [← e1]; exact blk_new _ _
  have k1 : Kept (fun _ => False) w1 V1 := by rw [← e1]; exact (Kept.refl (fun _ => False) _).alloc _
  have bp1 := k1.blk q0 id
  have bf1 := k1.blk q1 id
  have bb1 := k1.blk q2 id
  have K1 := kq.then k1
  obtain ⟨⟨cp1a, fp1a⟩, ⟨cp1b, fp1b⟩, cp1c, fp1c⟩ := blk3 bp1
  obtain ⟨⟨cf1a, ff1a⟩, ⟨cf1b, ff1b⟩, cf1c, ff1c⟩ := blk3 bf1
  obtain ⟨⟨cb1a, fb1a⟩, ⟨cb1b, fb1b⟩, cb1c, fb1c⟩ := blk3 bb1
  obtain ⟨⟨cx1a, fx1a⟩, ⟨cx1b, fx1b⟩, cx1c, fx1c⟩ := blk3 bx1
  have HP1 := Lib.hid bp1
  have HF1 := Lib.hid bf1
  have HB1 := Lib.hid bb1
  have HX1 := Lib.hid bx1
  have HK1 := Lib.hid K1
  clear q0 q1 q2 kq hk bp1 bf1 bb1 bx1 k1 K1
  go_wp2_with fail
  refine (HB.out _).mono ?_; rintro e w2 ⟨rfl, hk⟩
  have r0 := hk.blk HP1.out id
  have r1 := hk.blk HF1.out id
  have r2 := hk.blk HB1.out id
  have r3 := hk.blk HX1.out id
  have kr := HK1.out.then hk
  have z2' : w1.heap.size < w2.heap.size := lt_of_blk r3
  obtain ⟨⟨cp1a, fp1a⟩, ⟨cp1b, fp1b⟩, cp1c, fp1c⟩ := blk3 r0
  obtain ⟨⟨cf1a, ff1a⟩, ⟨cf1b, ff1b⟩, cf1c, ff1c⟩ := blk3 r1
  obtain ⟨⟨cb1a, fb1a⟩, ⟨cb1b, fb1b⟩, cb1c, fb1c⟩ := blk3 r2
  obtain ⟨⟨cx1a, fx1a⟩, ⟨cx1b, fx1b⟩, cx1c, fx1c⟩ := blk3 r3
  obtain ⟨V2, e2⟩ : ∃ V, w2.alloc (.cells #[.int .u8 B.r, .int .u8 B.g, .int .u8 B.b] 96) = V := ⟨_, rfl⟩
  have s2 : V2.heap.size = w2.heap.size + 1 := by rw [← e2]; simp
  have by2 : V2.heap[w2.heap.size]? = some (.cells #[.int .u8 B.r, .int .u8 B.g, .int .u8 B.b] 96 (0, 0)) := by rw [← e2]; exact blk_new _ _
  have k2 : Kept (fun _ => False) w2 V2 := by rw [← e2]; exact (Kept.refl (fun _ => False) _).alloc _
  have bp2 := k2.blk r0 id
  have bf2 := k2.blk r1 id
  have bb2 := k2.blk r2 id
  have bx2 := k2.blk r3 id
  have K2 := kr.then k2
  obtain ⟨⟨cp2a, fp2a⟩, ⟨cp2b, fp2b⟩, cp2c, fp2c⟩ := blk3 bp2
  obtain ⟨⟨cf2a, ff2a⟩, ⟨cf2b, ff2b⟩, cf2c, ff2c⟩ := blk3 bf2
  obtain ⟨⟨cb2a, fb2a⟩, ⟨cb2b, fb2b⟩, cb2c, fb2c⟩ := blk3 bb2
  obtain ⟨⟨cx2a, fx2a⟩, ⟨cx2b, fx2b⟩, cx2c, fx2c⟩ := blk3 bx2
  obtain ⟨⟨cy2a, fy2a⟩, ⟨cy2b, fy2b⟩, cy2c, fy2c⟩ := blk3 by2
  obtain ⟨V3a, V3b, V3, e3a, e3b, e3c, ⟨x3a, y3a⟩, ⟨x3b, y3b⟩, ⟨x3c, y3c⟩, bx3, k3⟩ := store3 bx2 (.int .u8 (F.r / 2)) (.int .u8 (F.g / 2)) (.int .u8 (F.b / 2))
  have bp3 := k3.blk bp2 (fun (h : w.heap.size = w1.heap.size) => by omega)
  have bf3 := k3.blk bf2 (fun (h : w.heap.size + 1 = w1.heap.size) => by omega)
  have bb3 := k3.blk bb2 (fun (h : w.heap.size + 1 + 1 = w1.heap.size) => by omega)
  have by3 := k3.blk by2 (fun (h : w2.heap.size = w1.heap.size) => by omega)
  have K3 := K2.trans (k3.mono fun i _ hi => Or.inr (by have h9 : i = w1.heap.size := hi; omega))
  obtain ⟨⟨cp3a, fp3a⟩, ⟨cp3b, fp3b⟩, cp3c, fp3c⟩ := blk3 bp3
  obtain ⟨⟨cf3a, ff3a⟩, ⟨cf3b, ff3b⟩, cf3c, ff3c⟩ := blk3 bf3
  obtain ⟨⟨cb3a, fb3a⟩, ⟨cb3b, fb3b⟩, cb3c, fb3c⟩ := blk3 bb3
  obtain ⟨⟨cx3a, fx3a⟩, ⟨cx3b, fx3b⟩, cx3c, fx3c⟩ := blk3 bx3
  obtain ⟨⟨cy3a, fy3a⟩, ⟨cy3b, fy3b⟩, cy3c, fy3c⟩ := blk3 by3
  obtain ⟨V4a, V4b, V4, e4a, e4b, e4c, ⟨x4a, y4a⟩, ⟨x4b, y4b⟩, ⟨x4c, y4c⟩, bx4, k4⟩ := store3 bx3 (.int .u8 B.r) (.int .u8 B.g) (.int .u8 B.b)
  have bp4 := k4.blk bp3 (fun (h : w.heap.size = w1.heap.size) => by omega)
  have bf4 := k4.blk bf3 (fun (h : w.heap.size + 1 = w1.heap.size) => by omega)
  have bb4 := k4.blk bb3 (fun (h : w.heap.size + 1 + 1 = w1.heap.size) => by omega)
  have by4 := k4.blk by3 (fun (h : w2.heap.size = w1.heap.size) => by omega)
  have K4 := K3.trans (k4.mono fun i _ hi => Or.inr (by have h9 : i = w1.heap.size := hi; omega))
  obtain ⟨⟨cp4a, fp4a⟩, ⟨cp4b, fp4b⟩, cp4c, fp4c⟩ := blk3 bp4
  obtain ⟨⟨cf4a, ff4a⟩, ⟨cf4b, ff4b⟩, cf4c, ff4c⟩ := blk3 bf4
  obtain ⟨⟨cb4a, fb4a⟩, ⟨cb4b, fb4b⟩, cb4c, fb4c⟩ := blk3 bb4
  obtain ⟨⟨cx4a, fx4a⟩, ⟨cx4b, fx4b⟩, cx4c, fx4c⟩ := blk3 bx4
  obtain ⟨⟨cy4a, fy4a⟩, ⟨cy4b, fy4b⟩, cy4c, fy4c⟩ := blk3 by4
  obtain ⟨V5a, V5b, V5, e5a, e5b, e5c, ⟨x5a, y5a⟩, ⟨x5b, y5b⟩, ⟨x5c, y5c⟩, by5, k5⟩ := store3 by4 (.int .u8 (F.r / 2)) (.int .u8 (F.g / 2)) (.int .u8 (F.b / 2))
  have bp5 := k5.blk bp4 (fun (h : w.heap.size = w2.heap.size) => by omega)
  have bf5 := k5.blk bf4 (fun (h : w.heap.size + 1 = w2.heap.size) => by omega)
  have bb5 := k5.blk bb4 (fun (h : w.heap.size + 1 + 1 = w2.heap.size) => by omega)
  have bx5 := k5.blk bx4 (fun (h : w1.heap.size = w2.heap.size) => by omega)
  have K5 := K4.trans (k5.mono fun i _ hi => Or.inr (by have h9 : i = w2.heap.size := hi; omega))
  obtain ⟨⟨cp5a, fp5a⟩, ⟨cp5b, fp5b⟩, cp5c, fp5c⟩ := blk3 bp5
  obtain ⟨⟨cf5a, ff5a⟩, ⟨cf5b, ff5b⟩, cf5c, ff5c⟩ := blk3 bf5
  obtain ⟨⟨cb5a, fb5a⟩, ⟨cb5b, fb5b⟩, cb5c, fb5c⟩ := blk3 bb5
  obtain ⟨⟨cx5a, fx5a⟩, ⟨cx5b, fx5b⟩, cx5c, fx5c⟩ := blk3 bx5
  obtain ⟨⟨cy5a, fy5a⟩, ⟨cy5b, fy5b⟩, cy5c, fy5c⟩ := blk3 by5
  obtain ⟨V6a, V6b, V6, e6a, e6b, e6c, ⟨x6a, y6a⟩, ⟨x6b, y6b⟩, ⟨x6c, y6c⟩, bx6, k6⟩ := store3 bx5 (.int .u8 (F.r / 2)) (.int .u8 (F.g / 2)) (.int .u8 (F.b / 2))
  have bp6 := k6.blk bp5 (fun (h : w.heap.size = w1.heap.size) => by omega)
  have bf6 := k6.blk bf5 (fun (h : w.heap.size + 1 = w1.heap.size) => by omega)
  have bb6 := k6.blk bb5 (fun (h : w.heap.size + 1 + 1 = w1.heap.size) => by omega)
  have by6 := k6.blk by5 (fun (h : w2.heap.size = w1.heap.size) => by omega)
  have K6 := K5.trans (k6.mono fun i _ hi => Or.inr (by have h9 : i = w1.heap.size := hi; omega))
  obtain ⟨⟨cp6a, fp6a⟩, ⟨cp6b, fp6b⟩, cp6c, fp6c⟩ := blk3 bp6
  obtain ⟨⟨cf6a, ff6a⟩, ⟨cf6b, ff6b⟩, cf6c, ff6c⟩ := blk3 bf6
  obtain ⟨⟨cb6a, fb6a⟩, ⟨cb6b, fb6b⟩, cb6c, fb6c⟩ := blk3 bb6
  obtain ⟨⟨cx6a, fx6a⟩, ⟨cx6b, fx6b⟩, cx6c, fx6c⟩ := blk3 bx6
  obtain ⟨⟨cy6a, fy6a⟩, ⟨cy6b, fy6b⟩, cy6c, fy6c⟩ := blk3 by6
  obtain ⟨V7a, V7b, V7, e7a, e7b, e7c, ⟨x7a, y7a⟩, ⟨x7b, y7b⟩, ⟨x7c, y7c⟩, bf7, k7⟩ := store3 bf6 (.int .u8 (F.r / 2)) (.int .u8 (F.g / 2)) (.int .u8 (F.b / 2))
  have bp7 := k7.blk bp6 (fun (h : w.heap.size = w.heap.size + 1) => by omega)
  have bb7 := k7.blk bb6 (fun (h : w.heap.size + 1 + 1 = w.heap.size + 1) => by omega)
  have bx7 := k7.blk bx6 (fun (h : w1.heap.size = w.heap.size + 1) => by omega)
  have by7 := k7.blk by6 (fun (h : w2.heap.size = w.heap.size + 1) => by omega)
  have K7 := K6.trans (k7.mono fun i _ hi => Or.inr (by have h9 : i = w.heap.size + 1 := hi; omega))
  obtain ⟨⟨cp7a, fp7a⟩, ⟨cp7b, fp7b⟩, cp7c, fp7c⟩ := blk3 bp7
  obtain ⟨⟨cf7a, ff7a⟩, ⟨cf7b, ff7b⟩, cf7c, ff7c⟩ := blk3 bf7
  obtain ⟨⟨cb7a, fb7a⟩, ⟨cb7b, fb7b⟩, cb7c, fb7c⟩ := blk3 bb7
  obtain ⟨⟨cx7a, fx7a⟩, ⟨cx7b, fx7b⟩, cx7c, fx7c⟩ := blk3 bx7
  obtain ⟨⟨cy7a, fy7a⟩, ⟨cy7b, fy7b⟩, cy7c, fy7c⟩ := blk3 by7
  obtain ⟨V8a, V8b, V8, e8a, e8b, e8c, ⟨x8a, y8a⟩, ⟨x8b, y8b⟩, ⟨x8c, y8c⟩, bb8, k8⟩ := store3 bb7 (.int .u8 (F.r / 2)) (.int .u8 (F.g / 2)) (.int .u8 (F.b / 2))
  have bp8 := k8.blk bp7 (fun (h : w.heap.size = w.heap.size + 1 + 1) => by omega)
  have bf8 := k8.blk bf7 (fun (h : w.heap.size + 1 = w.heap.size + 1 + 1) => by omega)
  have bx8 := k8.blk bx7 (fun (h : w1.heap.size = w.heap.size + 1 + 1) => by omega)
  have by8 := k8.blk by7 (fun (h : w2.heap.size = w.heap.size + 1 + 1) => by omega)
  have K8 := K7.trans (k8.mono fun i _ hi => Or.inr (by have h9 : i = w.heap.size + 1 + 1 := hi; omega))
  obtain ⟨⟨cp8a, fp8a⟩, ⟨cp8b, fp8b⟩, cp8c, fp8c⟩ := blk3 bp8
  obtain ⟨⟨cf8a, ff8a⟩, ⟨cf8b, ff8b⟩, cf8c, ff8c⟩ := blk3 bf8
  obtain ⟨⟨cb8a, fb8a⟩, ⟨cb8b, fb8b⟩, cb8c, fb8c⟩ := blk3 bb8
  obtain ⟨⟨cx8a, fx8a⟩, ⟨cx8b, fx8b⟩, cx8c, fx8c⟩ := blk3 bx8
  obtain ⟨⟨cy8a, fy8a⟩, ⟨cy8b, fy8b⟩, cy8c, fy8c⟩ := blk3 by8
  have HK := Lib.hid K8
  clear hk kr r0 r1 r2 r3 bp2  bf2  bb2  bx2  by2  bp3  bf3  bb3  bx3  by3  bp4  bf4  bb4  bx4  by4  bp5  bf5  bb5  bx5  by5  bp6  bf6  bb6  bx6  by6  bp7  bf7  bb7  bx7  by7  bp8  bf8  bb8  bx8  by8 k2 K2 k3 K3 k4 K4 k5 K5 k6 K6 k7 K7 k8 K8
  go_wp2
  as_aux_lemma =>
    go_region
    all_goals go_wp2
    all_goals
      exact bodyPost_ret (v := .tuple #[.agg #[.int .u8 (F.r / 2), .int .u8 (F.g / 2), .int .u8 (F.b / 2)], .agg #[.int .u8 (F.r / 2), .int .u8 (F.g / 2), .int .u8 (F.b / 2)]]) (by simp [results, Try.results36, go_sem, *]) rfl ⟨by rw [HCOL.out]; rfl, HK.out.drew⟩

set_option maxRecDepth 100000 in
set_option maxHeartbeats 8000000 in
theorem cols13_nnn (a : Look) (w : World) (h2 : hasB a.fl 2 = false) (h32 : hasB a.fl 32 = false) (h64 : hasB a.fl 64 = false) :
    Calls Try.prog 45 #[lookV a] w (ColsPost a w) := by
  obtain ⟨fg, bg, fl⟩ := a
  have hcol : colors ⟨fg, bg, fl⟩ = (let F := colour fg true; let B := colour bg false; (⟨F.r, F.g, F.b⟩, ⟨B.r, B.g, B.b⟩)) := by unfold colors; simp only [h2, h32, h64, if_true, if_false, Bool.false_eq_true, Rgb.half]
  obtain ⟨F, hF⟩ : ∃ F, colour fg true = F := ⟨_, rfl⟩
  obtain ⟨B, hB⟩ : ∃ B, colour bg false = B := ⟨_, rfl⟩
  have hFB := colour_isB fg true
  have hBB := colour_isB bg false
  rw [hF] at hFB
  rw [hB] at hBB
  simp only [hF, hB] at hcol
  obtain ⟨⟨F0, F1⟩, ⟨F2, F3⟩, F4, F5⟩ := hFB
  obtain ⟨⟨B0, B1⟩, ⟨B2, B3⟩, B4, B5⟩ := hBB
  have HF := Lib.hid (show ∀ w, Calls Try.prog 72 #[.int .i64 fg, .bool true] w fun e w' => e = .returned (.agg #[.int .u8 F.r, .int .u8 F.g, .int .u8 F.b]) ∧ Kept (fun _ => False) w w' from fun w => by have h := colr_any fg true w; rw [hF] at h; exact h)
  have HB := Lib.hid (show ∀ w, Calls Try.prog 72 #[.int .i64 bg, .bool false] w fun e w' => e = .returned (.agg #[.int .u8 B.r, .int .u8 B.g, .int .u8 B.b]) ∧ Kept (fun _ => False) w w' from fun w => by have h := colr_any bg false w; rw [hB] at h; exact h)
  have HCOL := Lib.hid hcol
  obtain ⟨z2, hz2⟩ : ∃ z, bits .and .i64 fl 2 = z := ⟨_, rfl⟩
  obtain ⟨z32, hz32⟩ : ∃ z, bits .and .i64 fl 32 = z := ⟨_, rfl⟩
  obtain ⟨z64, hz64⟩ : ∃ z, bits .and .i64 fl 64 = z := ⟨_, rfl⟩
  unfold hasB at h2 h32 h64
  simp only [hz2] at h2
  simp only [hz32] at h32
  simp only [hz64] at h64
  clear hF hB hcol
  obtain ⟨W, hW⟩ : ∃ W, ((w.alloc (.cells #[.int .i64 fg, .int .i64 bg, .int .i64 fl] 54)).alloc (.cells #[.int .u8 0, .int .u8 0, .int .u8 0] 96)).alloc (.cells #[.int .u8 0, .int .u8 0, .int .u8 0] 96) = W := ⟨_, rfl⟩
  have kW : Kept (fun _ => False) w W := by rw [← hW]; exact (((Kept.refl _ w).alloc _).alloc _).alloc _
  have bp0 : W.heap[w.heap.size]? = some (.cells #[.int .i64 fg, .int .i64 bg, .int .i64 fl] 54 (0, 0)) := by rw [← hW]; exact blk_alloc (blk_alloc (blk_new _ _) _) _
  have bf0 : W.heap[w.heap.size + 1]? = some (.cells #[.int .u8 0, .int .u8 0, .int .u8 0] 96 (0, 0)) := by rw [← hW]; exact blk_alloc (blk_at _ _ (by simp)) _
  have bb0 : W.heap[w.heap.size + 1 + 1]? = some (.cells #[.int .u8 0, .int .u8 0, .int .u8 0] 96 (0, 0)) := by rw [← hW]; exact blk_at _ _ (by simp)
  have HP := Lib.hid bp0
  have HF0 := Lib.hid bf0
  have HB0 := Lib.hid bb0
  have HKW := Lib.hid kW
  obtain ⟨⟨cp0a, fp0a⟩, ⟨cp0b, fp0b⟩, cp0c, fp0c⟩ := blk3 bp0
  clear kW bp0 bf0 bb0
  unfold lookV
  have hkp0 : Kept (fun _ => False) W W.drew := (Kept.refl _ _).drew
  go_enter Try.func45, Try.ntmps45
  go_wp2
  go_region_held3 (fun w' => w'.cell? ⟨w.heap.size, 0, none⟩ = some (.int .i64 fg) ∧ w'.cell? ⟨w.heap.size, 1, none⟩ = some (.int .i64 bg)) (first | ((go_keep; done)) | (go_split_ands; all_goals go_keep)) ((go_at_call 72; first
    | ((with_reducible refine Calls.mono (HF.out _) ?_); (rintro e w1 ⟨rfl, hk⟩); (have hkq := (show Kept (fun _ => False) W w1 from by first | exact hkq.then hk | exact hkp0.then hk)); clear hk; have kq := HKW.out.then hkq; have q0 := hkq.blk HP.out id; have q1 := hkq.blk HF0.out id; have q2 := hkq.blk HB0.out id; obtain ⟨⟨cp0a, fp0a⟩, ⟨cp0b, fp0b⟩, cp0c, fp0c⟩ := blk3 q0; obtain ⟨⟨cf0a, ff0a⟩, ⟨cf0b, ff0b⟩, cf0c, ff0c⟩ := blk3 q1; obtain ⟨⟨cb0a, fb0a⟩, ⟨cb0b, fb0b⟩, cb0c, fb0c⟩ := blk3 q2; obtain ⟨V1a, V1b, V1, e1a, e1b, e1c, ⟨x1a, y1a⟩, ⟨x1b, y1b⟩, ⟨x1c, y1c⟩, bf1, k1⟩ := store3 q1 (.int .u8 F.r) (.int .u8 F.g) (.int .u8 F.b); have bp1 := k1.blk q0 (fun (h : w.heap.size = w.heap.size + 1) => by omega); have bb1 := k1.blk q2 (fun (h : w.heap.size + 1 + 1 = w.heap.size + 1) => by omega); have K1 := kq.trans (k1.mono fun i _ hi => Or.inr (by have h9 : i = w.heap.size + 1 := hi; omega)); obtain ⟨⟨cp1a, fp1a⟩, ⟨cp1b, fp1b⟩, cp1c, fp1c⟩ := blk3 bp1; obtain ⟨⟨cf1a, ff1a⟩, ⟨cf1b, ff1b⟩, cf1c, ff1c⟩ := blk3 bf1; obtain ⟨⟨cb1a, fb1a⟩, ⟨cb1b, fb1b⟩, cb1c, fb1c⟩ := blk3 bb1; obtain ⟨V2a, V2b, V2, e2a, e2b, e2c, ⟨x2a, y2a⟩, ⟨x2b, y2b⟩, ⟨x2c, y2c⟩, bb2, k2⟩ := store3 bb1 (.int .u8 B.r) (.int .u8 B.g) (.int .u8 B.b); have bp2 := k2.blk bp1 (fun (h : w.heap.size = w.heap.size + 1 + 1) => by omega); have bf2 := k2.blk bf1 (fun (h : w.heap.size + 1 = w.heap.size + 1 + 1) => by omega); have K2 := K1.trans (k2.mono fun i _ hi => Or.inr (by have h9 : i = w.heap.size + 1 + 1 := hi; omega)); obtain ⟨⟨cp2a, fp2a⟩, ⟨cp2b, fp2b⟩, cp2c, fp2c⟩ := blk3 bp2; obtain ⟨⟨cf2a, ff2a⟩, ⟨cf2b, ff2b⟩, cf2c, ff2c⟩ := blk3 bf2; obtain ⟨⟨cb2a, fb2a⟩, ⟨cb2b, fb2b⟩, cb2c, fb2c⟩ := blk3 bb2; have HP2 := Lib.hid bp2; have HF2 := Lib.hid bf2; have HB2 := Lib.hid bb2; have HK2 := Lib.hid K2; clear bp1 bf1 bb1 bp2 bf2 bb2 k1 k2 K1 K2 q0 q1 q2 kq)
    | ((with_reducible refine Calls.mono (HB.out _) ?_); (rintro e w1 ⟨rfl, hk⟩); (have hkq := (show Kept (fun _ => False) W w1 from by first | exact hkq.then hk | exact hkp0.then hk)); clear hk; have kq := HKW.out.then hkq; have q0 := hkq.blk HP.out id; have q1 := hkq.blk HF0.out id; have q2 := hkq.blk HB0.out id; obtain ⟨⟨cp0a, fp0a⟩, ⟨cp0b, fp0b⟩, cp0c, fp0c⟩ := blk3 q0; obtain ⟨⟨cf0a, ff0a⟩, ⟨cf0b, ff0b⟩, cf0c, ff0c⟩ := blk3 q1; obtain ⟨⟨cb0a, fb0a⟩, ⟨cb0b, fb0b⟩, cb0c, fb0c⟩ := blk3 q2; obtain ⟨V1a, V1b, V1, e1a, e1b, e1c, ⟨x1a, y1a⟩, ⟨x1b, y1b⟩, ⟨x1c, y1c⟩, bf1, k1⟩ := store3 q1 (.int .u8 F.r) (.int .u8 F.g) (.int .u8 F.b); have bp1 := k1.blk q0 (fun (h : w.heap.size = w.heap.size + 1) => by omega); have bb1 := k1.blk q2 (fun (h : w.heap.size + 1 + 1 = w.heap.size + 1) => by omega); have K1 := kq.trans (k1.mono fun i _ hi => Or.inr (by have h9 : i = w.heap.size + 1 := hi; omega)); obtain ⟨⟨cp1a, fp1a⟩, ⟨cp1b, fp1b⟩, cp1c, fp1c⟩ := blk3 bp1; obtain ⟨⟨cf1a, ff1a⟩, ⟨cf1b, ff1b⟩, cf1c, ff1c⟩ := blk3 bf1; obtain ⟨⟨cb1a, fb1a⟩, ⟨cb1b, fb1b⟩, cb1c, fb1c⟩ := blk3 bb1; obtain ⟨V2a, V2b, V2, e2a, e2b, e2c, ⟨x2a, y2a⟩, ⟨x2b, y2b⟩, ⟨x2c, y2c⟩, bb2, k2⟩ := store3 bb1 (.int .u8 B.r) (.int .u8 B.g) (.int .u8 B.b); have bp2 := k2.blk bp1 (fun (h : w.heap.size = w.heap.size + 1 + 1) => by omega); have bf2 := k2.blk bf1 (fun (h : w.heap.size + 1 = w.heap.size + 1 + 1) => by omega); have K2 := K1.trans (k2.mono fun i _ hi => Or.inr (by have h9 : i = w.heap.size + 1 + 1 := hi; omega)); obtain ⟨⟨cp2a, fp2a⟩, ⟨cp2b, fp2b⟩, cp2c, fp2c⟩ := blk3 bp2; obtain ⟨⟨cf2a, ff2a⟩, ⟨cf2b, ff2b⟩, cf2c, ff2c⟩ := blk3 bf2; obtain ⟨⟨cb2a, fb2a⟩, ⟨cb2b, fb2b⟩, cb2c, fb2c⟩ := blk3 bb2; have HP2 := Lib.hid bp2; have HF2 := Lib.hid bf2; have HB2 := Lib.hid bb2; have HK2 := Lib.hid K2; clear bp1 bf1 bb1 bp2 bf2 bb2 k1 k2 K1 K2 q0 q1 q2 kq)))
  all_goals as_aux_lemma =>
    clear hkp0 hkq
    obtain ⟨V3a, V3b, V3, e3a, e3b, e3c, ⟨x3a, y3a⟩, ⟨x3b, y3b⟩, ⟨x3c, y3c⟩, bf3, k3⟩ := store3 HF2.out (.int .u8 F.r) (.int .u8 F.g) (.int .u8 F.b)
    have bp3 := k3.blk HP2.out (fun (h : w.heap.size = w.heap.size + 1) => by omega)
    have bb3 := k3.blk HB2.out (fun (h : w.heap.size + 1 + 1 = w.heap.size + 1) => by omega)
    have K3 := HK2.out.trans (k3.mono fun i _ hi => Or.inr (by have h9 : i = w.heap.size + 1 := hi; omega))
    obtain ⟨⟨cp3a, fp3a⟩, ⟨cp3b, fp3b⟩, cp3c, fp3c⟩ := blk3 bp3
    obtain ⟨⟨cf3a, ff3a⟩, ⟨cf3b, ff3b⟩, cf3c, ff3c⟩ := blk3 bf3
    obtain ⟨⟨cb3a, fb3a⟩, ⟨cb3b, fb3b⟩, cb3c, fb3c⟩ := blk3 bb3
    obtain ⟨V4a, V4b, V4, e4a, e4b, e4c, ⟨x4a, y4a⟩, ⟨x4b, y4b⟩, ⟨x4c, y4c⟩, bb4, k4⟩ := store3 bb3 (.int .u8 B.r) (.int .u8 B.g) (.int .u8 B.b)
    have bp4 := k4.blk bp3 (fun (h : w.heap.size = w.heap.size + 1 + 1) => by omega)
    have bf4 := k4.blk bf3 (fun (h : w.heap.size + 1 = w.heap.size + 1 + 1) => by omega)
    have K4 := K3.trans (k4.mono fun i _ hi => Or.inr (by have h9 : i = w.heap.size + 1 + 1 := hi; omega))
    obtain ⟨⟨cp4a, fp4a⟩, ⟨cp4b, fp4b⟩, cp4c, fp4c⟩ := blk3 bp4
    obtain ⟨⟨cf4a, ff4a⟩, ⟨cf4b, ff4b⟩, cf4c, ff4c⟩ := blk3 bf4
    obtain ⟨⟨cb4a, fb4a⟩, ⟨cb4b, fb4b⟩, cb4c, fb4c⟩ := blk3 bb4
    have HK := Lib.hid K4
    clear bp3  bf3  bb3  bp4  bf4  bb4 k3 K3 k4 K4
    go_wp2
    go_region
    all_goals go_wp2
    all_goals
      exact bodyPost_ret (v := .tuple #[.agg #[.int .u8 F.r, .int .u8 F.g, .int .u8 F.b], .agg #[.int .u8 B.r, .int .u8 B.g, .int .u8 B.b]]) (by simp [results, Try.results45, go_sem, *]) rfl ⟨by rw [HCOL.out]; rfl, HK.out.drew⟩

set_option maxRecDepth 100000 in
set_option maxHeartbeats 8000000 in
theorem cols13_nnh (a : Look) (w : World) (h2 : hasB a.fl 2 = false) (h32 : hasB a.fl 32 = false) (h64 : hasB a.fl 64 = true) :
    Calls Try.prog 45 #[lookV a] w (ColsPost a w) := by
  obtain ⟨fg, bg, fl⟩ := a
  have hcol : colors ⟨fg, bg, fl⟩ = (let F := colour fg true; let B := colour bg false; (⟨B.r, B.g, B.b⟩, ⟨B.r, B.g, B.b⟩)) := by unfold colors; simp only [h2, h32, h64, if_true, if_false, Bool.false_eq_true, Rgb.half]
  obtain ⟨F, hF⟩ : ∃ F, colour fg true = F := ⟨_, rfl⟩
  obtain ⟨B, hB⟩ : ∃ B, colour bg false = B := ⟨_, rfl⟩
  have hFB := colour_isB fg true
  have hBB := colour_isB bg false
  rw [hF] at hFB
  rw [hB] at hBB
  simp only [hF, hB] at hcol
  obtain ⟨⟨F0, F1⟩, ⟨F2, F3⟩, F4, F5⟩ := hFB
  obtain ⟨⟨B0, B1⟩, ⟨B2, B3⟩, B4, B5⟩ := hBB
  have HF := Lib.hid (show ∀ w, Calls Try.prog 72 #[.int .i64 fg, .bool true] w fun e w' => e = .returned (.agg #[.int .u8 F.r, .int .u8 F.g, .int .u8 F.b]) ∧ Kept (fun _ => False) w w' from fun w => by have h := colr_any fg true w; rw [hF] at h; exact h)
  have HB := Lib.hid (show ∀ w, Calls Try.prog 72 #[.int .i64 bg, .bool false] w fun e w' => e = .returned (.agg #[.int .u8 B.r, .int .u8 B.g, .int .u8 B.b]) ∧ Kept (fun _ => False) w w' from fun w => by have h := colr_any bg false w; rw [hB] at h; exact h)
  have HCOL := Lib.hid hcol
  obtain ⟨z2, hz2⟩ : ∃ z, bits .and .i64 fl 2 = z := ⟨_, rfl⟩
  obtain ⟨z32, hz32⟩ : ∃ z, bits .and .i64 fl 32 = z := ⟨_, rfl⟩
  obtain ⟨z64, hz64⟩ : ∃ z, bits .and .i64 fl 64 = z := ⟨_, rfl⟩
  unfold hasB at h2 h32 h64
  simp only [hz2] at h2
  simp only [hz32] at h32
  simp only [hz64] at h64
  clear hF hB hcol
  obtain ⟨W, hW⟩ : ∃ W, ((w.alloc (.cells #[.int .i64 fg, .int .i64 bg, .int .i64 fl] 54)).alloc (.cells #[.int .u8 0, .int .u8 0, .int .u8 0] 96)).alloc (.cells #[.int .u8 0, .int .u8 0, .int .u8 0] 96) = W := ⟨_, rfl⟩
  have kW : Kept (fun _ => False) w W := by rw [← hW]; exact (((Kept.refl _ w).alloc _).alloc _).alloc _
  have bp0 : W.heap[w.heap.size]? = some (.cells #[.int .i64 fg, .int .i64 bg, .int .i64 fl] 54 (0, 0)) := by rw [← hW]; exact blk_alloc (blk_alloc (blk_new _ _) _) _
  have bf0 : W.heap[w.heap.size + 1]? = some (.cells #[.int .u8 0, .int .u8 0, .int .u8 0] 96 (0, 0)) := by rw [← hW]; exact blk_alloc (blk_at _ _ (by simp)) _
  have bb0 : W.heap[w.heap.size + 1 + 1]? = some (.cells #[.int .u8 0, .int .u8 0, .int .u8 0] 96 (0, 0)) := by rw [← hW]; exact blk_at _ _ (by simp)
  have HP := Lib.hid bp0
  have HF0 := Lib.hid bf0
  have HB0 := Lib.hid bb0
  have HKW := Lib.hid kW
  obtain ⟨⟨cp0a, fp0a⟩, ⟨cp0b, fp0b⟩, cp0c, fp0c⟩ := blk3 bp0
  clear kW bp0 bf0 bb0
  unfold lookV
  by_cases hq : F.r = B.r ∧ F.g = B.g ∧ F.b = B.b
  · as_aux_lemma =>
      have HNE := fun w => (show (binOp .neq 96 (.agg #[.int .u8 F.r, .int .u8 F.g, .int .u8 F.b]) (.agg #[.int .u8 B.r, .int .u8 B.g, .int .u8 B.b])).run Try.prog w = .ok (.bool false) w from by rw [run_neRgb]; simp [hq])
      have hqg := @run_eqGuard_agg Try.prog
      have HQ := Lib.hid hq
      clear hq
      have hkp0 : Kept (fun _ => False) W W.drew := (Kept.refl _ _).drew
      go_enter Try.func45, Try.ntmps45
      go_wp2
      go_region_held3 (fun w' => w'.cell? ⟨w.heap.size, 0, none⟩ = some (.int .i64 fg) ∧ w'.cell? ⟨w.heap.size, 1, none⟩ = some (.int .i64 bg)) (first | ((go_keep; done)) | (go_split_ands; all_goals go_keep)) ((go_at_call 72; first
        | ((with_reducible refine Calls.mono (HF.out _) ?_); (rintro e w1 ⟨rfl, hk⟩); (have hkq := (show Kept (fun _ => False) W w1 from by first | exact hkq.then hk | exact hkp0.then hk)); clear hk; have kq := HKW.out.then hkq; have q0 := hkq.blk HP.out id; have q1 := hkq.blk HF0.out id; have q2 := hkq.blk HB0.out id; obtain ⟨⟨cp0a, fp0a⟩, ⟨cp0b, fp0b⟩, cp0c, fp0c⟩ := blk3 q0; obtain ⟨⟨cf0a, ff0a⟩, ⟨cf0b, ff0b⟩, cf0c, ff0c⟩ := blk3 q1; obtain ⟨⟨cb0a, fb0a⟩, ⟨cb0b, fb0b⟩, cb0c, fb0c⟩ := blk3 q2; obtain ⟨V1a, V1b, V1, e1a, e1b, e1c, ⟨x1a, y1a⟩, ⟨x1b, y1b⟩, ⟨x1c, y1c⟩, bf1, k1⟩ := store3 q1 (.int .u8 F.r) (.int .u8 F.g) (.int .u8 F.b); have bp1 := k1.blk q0 (fun (h : w.heap.size = w.heap.size + 1) => by omega); have bb1 := k1.blk q2 (fun (h : w.heap.size + 1 + 1 = w.heap.size + 1) => by omega); have K1 := kq.trans (k1.mono fun i _ hi => Or.inr (by have h9 : i = w.heap.size + 1 := hi; omega)); obtain ⟨⟨cp1a, fp1a⟩, ⟨cp1b, fp1b⟩, cp1c, fp1c⟩ := blk3 bp1; obtain ⟨⟨cf1a, ff1a⟩, ⟨cf1b, ff1b⟩, cf1c, ff1c⟩ := blk3 bf1; obtain ⟨⟨cb1a, fb1a⟩, ⟨cb1b, fb1b⟩, cb1c, fb1c⟩ := blk3 bb1; obtain ⟨V2a, V2b, V2, e2a, e2b, e2c, ⟨x2a, y2a⟩, ⟨x2b, y2b⟩, ⟨x2c, y2c⟩, bb2, k2⟩ := store3 bb1 (.int .u8 B.r) (.int .u8 B.g) (.int .u8 B.b); have bp2 := k2.blk bp1 (fun (h : w.heap.size = w.heap.size + 1 + 1) => by omega); have bf2 := k2.blk bf1 (fun (h : w.heap.size + 1 = w.heap.size + 1 + 1) => by omega); have K2 := K1.trans (k2.mono fun i _ hi => Or.inr (by have h9 : i = w.heap.size + 1 + 1 := hi; omega)); obtain ⟨⟨cp2a, fp2a⟩, ⟨cp2b, fp2b⟩, cp2c, fp2c⟩ := blk3 bp2; obtain ⟨⟨cf2a, ff2a⟩, ⟨cf2b, ff2b⟩, cf2c, ff2c⟩ := blk3 bf2; obtain ⟨⟨cb2a, fb2a⟩, ⟨cb2b, fb2b⟩, cb2c, fb2c⟩ := blk3 bb2; have HP2 := Lib.hid bp2; have HF2 := Lib.hid bf2; have HB2 := Lib.hid bb2; have HK2 := Lib.hid K2; clear bp1 bf1 bb1 bp2 bf2 bb2 k1 k2 K1 K2 q0 q1 q2 kq)
        | ((with_reducible refine Calls.mono (HB.out _) ?_); (rintro e w1 ⟨rfl, hk⟩); (have hkq := (show Kept (fun _ => False) W w1 from by first | exact hkq.then hk | exact hkp0.then hk)); clear hk; have kq := HKW.out.then hkq; have q0 := hkq.blk HP.out id; have q1 := hkq.blk HF0.out id; have q2 := hkq.blk HB0.out id; obtain ⟨⟨cp0a, fp0a⟩, ⟨cp0b, fp0b⟩, cp0c, fp0c⟩ := blk3 q0; obtain ⟨⟨cf0a, ff0a⟩, ⟨cf0b, ff0b⟩, cf0c, ff0c⟩ := blk3 q1; obtain ⟨⟨cb0a, fb0a⟩, ⟨cb0b, fb0b⟩, cb0c, fb0c⟩ := blk3 q2; obtain ⟨V1a, V1b, V1, e1a, e1b, e1c, ⟨x1a, y1a⟩, ⟨x1b, y1b⟩, ⟨x1c, y1c⟩, bf1, k1⟩ := store3 q1 (.int .u8 F.r) (.int .u8 F.g) (.int .u8 F.b); have bp1 := k1.blk q0 (fun (h : w.heap.size = w.heap.size + 1) => by omega); have bb1 := k1.blk q2 (fun (h : w.heap.size + 1 + 1 = w.heap.size + 1) => by omega); have K1 := kq.trans (k1.mono fun i _ hi => Or.inr (by have h9 : i = w.heap.size + 1 := hi; omega)); obtain ⟨⟨cp1a, fp1a⟩, ⟨cp1b, fp1b⟩, cp1c, fp1c⟩ := blk3 bp1; obtain ⟨⟨cf1a, ff1a⟩, ⟨cf1b, ff1b⟩, cf1c, ff1c⟩ := blk3 bf1; obtain ⟨⟨cb1a, fb1a⟩, ⟨cb1b, fb1b⟩, cb1c, fb1c⟩ := blk3 bb1; obtain ⟨V2a, V2b, V2, e2a, e2b, e2c, ⟨x2a, y2a⟩, ⟨x2b, y2b⟩, ⟨x2c, y2c⟩, bb2, k2⟩ := store3 bb1 (.int .u8 B.r) (.int .u8 B.g) (.int .u8 B.b); have bp2 := k2.blk bp1 (fun (h : w.heap.size = w.heap.size + 1 + 1) => by omega); have bf2 := k2.blk bf1 (fun (h : w.heap.size + 1 = w.heap.size + 1 + 1) => by omega); have K2 := K1.trans (k2.mono fun i _ hi => Or.inr (by have h9 : i = w.heap.size + 1 + 1 := hi; omega)); obtain ⟨⟨cp2a, fp2a⟩, ⟨cp2b, fp2b⟩, cp2c, fp2c⟩ := blk3 bp2; obtain ⟨⟨cf2a, ff2a⟩, ⟨cf2b, ff2b⟩, cf2c, ff2c⟩ := blk3 bf2; obtain ⟨⟨cb2a, fb2a⟩, ⟨cb2b, fb2b⟩, cb2c, fb2c⟩ := blk3 bb2; have HP2 := Lib.hid bp2; have HF2 := Lib.hid bf2; have HB2 := Lib.hid bb2; have HK2 := Lib.hid K2; clear bp1 bf1 bb1 bp2 bf2 bb2 k1 k2 K1 K2 q0 q1 q2 kq)))
      all_goals as_aux_lemma =>
        clear hkp0 hkq
        obtain ⟨V3a, V3b, V3, e3a, e3b, e3c, ⟨x3a, y3a⟩, ⟨x3b, y3b⟩, ⟨x3c, y3c⟩, bf3, k3⟩ := store3 HF2.out (.int .u8 F.r) (.int .u8 F.g) (.int .u8 F.b)
        have bp3 := k3.blk HP2.out (fun (h : w.heap.size = w.heap.size + 1) => by omega)
        have bb3 := k3.blk HB2.out (fun (h : w.heap.size + 1 + 1 = w.heap.size + 1) => by omega)
        have K3 := HK2.out.trans (k3.mono fun i _ hi => Or.inr (by have h9 : i = w.heap.size + 1 := hi; omega))
        obtain ⟨⟨cp3a, fp3a⟩, ⟨cp3b, fp3b⟩, cp3c, fp3c⟩ := blk3 bp3
        obtain ⟨⟨cf3a, ff3a⟩, ⟨cf3b, ff3b⟩, cf3c, ff3c⟩ := blk3 bf3
        obtain ⟨⟨cb3a, fb3a⟩, ⟨cb3b, fb3b⟩, cb3c, fb3c⟩ := blk3 bb3
        obtain ⟨V4a, V4b, V4, e4a, e4b, e4c, ⟨x4a, y4a⟩, ⟨x4b, y4b⟩, ⟨x4c, y4c⟩, bb4, k4⟩ := store3 bb3 (.int .u8 B.r) (.int .u8 B.g) (.int .u8 B.b)
        have bp4 := k4.blk bp3 (fun (h : w.heap.size = w.heap.size + 1 + 1) => by omega)
        have bf4 := k4.blk bf3 (fun (h : w.heap.size + 1 = w.heap.size + 1 + 1) => by omega)
        have K4 := K3.trans (k4.mono fun i _ hi => Or.inr (by have h9 : i = w.heap.size + 1 + 1 := hi; omega))
        obtain ⟨⟨cp4a, fp4a⟩, ⟨cp4b, fp4b⟩, cp4c, fp4c⟩ := blk3 bp4
        obtain ⟨⟨cf4a, ff4a⟩, ⟨cf4b, ff4b⟩, cf4c, ff4c⟩ := blk3 bf4
        obtain ⟨⟨cb4a, fb4a⟩, ⟨cb4b, fb4b⟩, cb4c, fb4c⟩ := blk3 bb4
        have HK := Lib.hid K4
        clear bp3  bf3  bb3  bp4  bf4  bb4 k3 K3 k4 K4
        go_wp2
        go_region
        all_goals go_wp2
        all_goals
          exact bodyPost_ret (v := .tuple #[.agg #[.int .u8 F.r, .int .u8 F.g, .int .u8 F.b], .agg #[.int .u8 B.r, .int .u8 B.g, .int .u8 B.b]]) (by simp [results, Try.results45, go_sem, *]) rfl ⟨by rw [HCOL.out]; obtain ⟨q1, q2, q3⟩ := HQ.out; simp [rgbV, q1, q2, q3], HK.out.drew⟩
  · as_aux_lemma =>
      have HNE := fun w => (show (binOp .neq 96 (.agg #[.int .u8 F.r, .int .u8 F.g, .int .u8 F.b]) (.agg #[.int .u8 B.r, .int .u8 B.g, .int .u8 B.b])).run Try.prog w = .ok (.bool true) w from by rw [run_neRgb]; simp; omega)
      have hqg := @run_eqGuard_agg Try.prog
      have HQ := Lib.hid hq
      clear hq
      have hkp0 : Kept (fun _ => False) W W.drew := (Kept.refl _ _).drew
      go_enter Try.func45, Try.ntmps45
      go_wp2
      go_region_held3 (fun w' => w'.cell? ⟨w.heap.size, 0, none⟩ = some (.int .i64 fg) ∧ w'.cell? ⟨w.heap.size, 1, none⟩ = some (.int .i64 bg)) (first | ((go_keep; done)) | (go_split_ands; all_goals go_keep)) ((go_at_call 72; first
        | ((with_reducible refine Calls.mono (HF.out _) ?_); (rintro e w1 ⟨rfl, hk⟩); (have hkq := (show Kept (fun _ => False) W w1 from by first | exact hkq.then hk | exact hkp0.then hk)); clear hk; have kq := HKW.out.then hkq; have q0 := hkq.blk HP.out id; have q1 := hkq.blk HF0.out id; have q2 := hkq.blk HB0.out id; obtain ⟨⟨cp0a, fp0a⟩, ⟨cp0b, fp0b⟩, cp0c, fp0c⟩ := blk3 q0; obtain ⟨⟨cf0a, ff0a⟩, ⟨cf0b, ff0b⟩, cf0c, ff0c⟩ := blk3 q1; obtain ⟨⟨cb0a, fb0a⟩, ⟨cb0b, fb0b⟩, cb0c, fb0c⟩ := blk3 q2; obtain ⟨V1a, V1b, V1, e1a, e1b, e1c, ⟨x1a, y1a⟩, ⟨x1b, y1b⟩, ⟨x1c, y1c⟩, bf1, k1⟩ := store3 q1 (.int .u8 F.r) (.int .u8 F.g) (.int .u8 F.b); have bp1 := k1.blk q0 (fun (h : w.heap.size = w.heap.size + 1) => by omega); have bb1 := k1.blk q2 (fun (h : w.heap.size + 1 + 1 = w.heap.size + 1) => by omega); have K1 := kq.trans (k1.mono fun i _ hi => Or.inr (by have h9 : i = w.heap.size + 1 := hi; omega)); obtain ⟨⟨cp1a, fp1a⟩, ⟨cp1b, fp1b⟩, cp1c, fp1c⟩ := blk3 bp1; obtain ⟨⟨cf1a, ff1a⟩, ⟨cf1b, ff1b⟩, cf1c, ff1c⟩ := blk3 bf1; obtain ⟨⟨cb1a, fb1a⟩, ⟨cb1b, fb1b⟩, cb1c, fb1c⟩ := blk3 bb1; obtain ⟨V2a, V2b, V2, e2a, e2b, e2c, ⟨x2a, y2a⟩, ⟨x2b, y2b⟩, ⟨x2c, y2c⟩, bb2, k2⟩ := store3 bb1 (.int .u8 B.r) (.int .u8 B.g) (.int .u8 B.b); have bp2 := k2.blk bp1 (fun (h : w.heap.size = w.heap.size + 1 + 1) => by omega); have bf2 := k2.blk bf1 (fun (h : w.heap.size + 1 = w.heap.size + 1 + 1) => by omega); have K2 := K1.trans (k2.mono fun i _ hi => Or.inr (by have h9 : i = w.heap.size + 1 + 1 := hi; omega)); obtain ⟨⟨cp2a, fp2a⟩, ⟨cp2b, fp2b⟩, cp2c, fp2c⟩ := blk3 bp2; obtain ⟨⟨cf2a, ff2a⟩, ⟨cf2b, ff2b⟩, cf2c, ff2c⟩ := blk3 bf2; obtain ⟨⟨cb2a, fb2a⟩, ⟨cb2b, fb2b⟩, cb2c, fb2c⟩ := blk3 bb2; have HP2 := Lib.hid bp2; have HF2 := Lib.hid bf2; have HB2 := Lib.hid bb2; have HK2 := Lib.hid K2; clear bp1 bf1 bb1 bp2 bf2 bb2 k1 k2 K1 K2 q0 q1 q2 kq)
        | ((with_reducible refine Calls.mono (HB.out _) ?_); (rintro e w1 ⟨rfl, hk⟩); (have hkq := (show Kept (fun _ => False) W w1 from by first | exact hkq.then hk | exact hkp0.then hk)); clear hk; have kq := HKW.out.then hkq; have q0 := hkq.blk HP.out id; have q1 := hkq.blk HF0.out id; have q2 := hkq.blk HB0.out id; obtain ⟨⟨cp0a, fp0a⟩, ⟨cp0b, fp0b⟩, cp0c, fp0c⟩ := blk3 q0; obtain ⟨⟨cf0a, ff0a⟩, ⟨cf0b, ff0b⟩, cf0c, ff0c⟩ := blk3 q1; obtain ⟨⟨cb0a, fb0a⟩, ⟨cb0b, fb0b⟩, cb0c, fb0c⟩ := blk3 q2; obtain ⟨V1a, V1b, V1, e1a, e1b, e1c, ⟨x1a, y1a⟩, ⟨x1b, y1b⟩, ⟨x1c, y1c⟩, bf1, k1⟩ := store3 q1 (.int .u8 F.r) (.int .u8 F.g) (.int .u8 F.b); have bp1 := k1.blk q0 (fun (h : w.heap.size = w.heap.size + 1) => by omega); have bb1 := k1.blk q2 (fun (h : w.heap.size + 1 + 1 = w.heap.size + 1) => by omega); have K1 := kq.trans (k1.mono fun i _ hi => Or.inr (by have h9 : i = w.heap.size + 1 := hi; omega)); obtain ⟨⟨cp1a, fp1a⟩, ⟨cp1b, fp1b⟩, cp1c, fp1c⟩ := blk3 bp1; obtain ⟨⟨cf1a, ff1a⟩, ⟨cf1b, ff1b⟩, cf1c, ff1c⟩ := blk3 bf1; obtain ⟨⟨cb1a, fb1a⟩, ⟨cb1b, fb1b⟩, cb1c, fb1c⟩ := blk3 bb1; obtain ⟨V2a, V2b, V2, e2a, e2b, e2c, ⟨x2a, y2a⟩, ⟨x2b, y2b⟩, ⟨x2c, y2c⟩, bb2, k2⟩ := store3 bb1 (.int .u8 B.r) (.int .u8 B.g) (.int .u8 B.b); have bp2 := k2.blk bp1 (fun (h : w.heap.size = w.heap.size + 1 + 1) => by omega); have bf2 := k2.blk bf1 (fun (h : w.heap.size + 1 = w.heap.size + 1 + 1) => by omega); have K2 := K1.trans (k2.mono fun i _ hi => Or.inr (by have h9 : i = w.heap.size + 1 + 1 := hi; omega)); obtain ⟨⟨cp2a, fp2a⟩, ⟨cp2b, fp2b⟩, cp2c, fp2c⟩ := blk3 bp2; obtain ⟨⟨cf2a, ff2a⟩, ⟨cf2b, ff2b⟩, cf2c, ff2c⟩ := blk3 bf2; obtain ⟨⟨cb2a, fb2a⟩, ⟨cb2b, fb2b⟩, cb2c, fb2c⟩ := blk3 bb2; have HP2 := Lib.hid bp2; have HF2 := Lib.hid bf2; have HB2 := Lib.hid bb2; have HK2 := Lib.hid K2; clear bp1 bf1 bb1 bp2 bf2 bb2 k1 k2 K1 K2 q0 q1 q2 kq)))
      all_goals as_aux_lemma =>
        clear hkp0 hkq
        obtain ⟨V3a, V3b, V3, e3a, e3b, e3c, ⟨x3a, y3a⟩, ⟨x3b, y3b⟩, ⟨x3c, y3c⟩, bf3, k3⟩ := store3 HF2.out (.int .u8 B.r) (.int .u8 B.g) (.int .u8 B.b)
        have bp3 := k3.blk HP2.out (fun (h : w.heap.size = w.heap.size + 1) => by omega)
        have bb3 := k3.blk HB2.out (fun (h : w.heap.size + 1 + 1 = w.heap.size + 1) => by omega)
        have K3 := HK2.out.trans (k3.mono fun i _ hi => Or.inr (by have h9 : i = w.heap.size + 1 := hi; omega))
        obtain ⟨⟨cp3a, fp3a⟩, ⟨cp3b, fp3b⟩, cp3c, fp3c⟩ := blk3 bp3
        obtain ⟨⟨cf3a, ff3a⟩, ⟨cf3b, ff3b⟩, cf3c, ff3c⟩ := blk3 bf3
        obtain ⟨⟨cb3a, fb3a⟩, ⟨cb3b, fb3b⟩, cb3c, fb3c⟩ := blk3 bb3
        obtain ⟨V4a, V4b, V4, e4a, e4b, e4c, ⟨x4a, y4a⟩, ⟨x4b, y4b⟩, ⟨x4c, y4c⟩, bf4, k4⟩ := store3 bf3 (.int .u8 B.r) (.int .u8 B.g) (.int .u8 B.b)
        have bp4 := k4.blk bp3 (fun (h : w.heap.size = w.heap.size + 1) => by omega)
        have bb4 := k4.blk bb3 (fun (h : w.heap.size + 1 + 1 = w.heap.size + 1) => by omega)
        have K4 := K3.trans (k4.mono fun i _ hi => Or.inr (by have h9 : i = w.heap.size + 1 := hi; omega))
        obtain ⟨⟨cp4a, fp4a⟩, ⟨cp4b, fp4b⟩, cp4c, fp4c⟩ := blk3 bp4
        obtain ⟨⟨cf4a, ff4a⟩, ⟨cf4b, ff4b⟩, cf4c, ff4c⟩ := blk3 bf4
        obtain ⟨⟨cb4a, fb4a⟩, ⟨cb4b, fb4b⟩, cb4c, fb4c⟩ := blk3 bb4
        obtain ⟨V5a, V5b, V5, e5a, e5b, e5c, ⟨x5a, y5a⟩, ⟨x5b, y5b⟩, ⟨x5c, y5c⟩, bb5, k5⟩ := store3 bb4 (.int .u8 B.r) (.int .u8 B.g) (.int .u8 B.b)
        have bp5 := k5.blk bp4 (fun (h : w.heap.size = w.heap.size + 1 + 1) => by omega)
        have bf5 := k5.blk bf4 (fun (h : w.heap.size + 1 = w.heap.size + 1 + 1) => by omega)
        have K5 := K4.trans (k5.mono fun i _ hi => Or.inr (by have h9 : i = w.heap.size + 1 + 1 := hi; omega))
        obtain ⟨⟨cp5a, fp5a⟩, ⟨cp5b, fp5b⟩, cp5c, fp5c⟩ := blk3 bp5
        obtain ⟨⟨cf5a, ff5a⟩, ⟨cf5b, ff5b⟩, cf5c, ff5c⟩ := blk3 bf5
        obtain ⟨⟨cb5a, fb5a⟩, ⟨cb5b, fb5b⟩, cb5c, fb5c⟩ := blk3 bb5
        have HK := Lib.hid K5
        clear bp3  bf3  bb3  bp4  bf4  bb4  bp5  bf5  bb5 k3 K3 k4 K4 k5 K5
        go_wp2
        go_region
        all_goals go_wp2
        all_goals
          exact bodyPost_ret (v := .tuple #[.agg #[.int .u8 B.r, .int .u8 B.g, .int .u8 B.b], .agg #[.int .u8 B.r, .int .u8 B.g, .int .u8 B.b]]) (by simp [results, Try.results45, go_sem, *]) rfl ⟨by rw [HCOL.out]; rfl, HK.out.drew⟩

set_option maxRecDepth 100000 in
set_option maxHeartbeats 8000000 in
theorem cols13_nin (a : Look) (w : World) (h2 : hasB a.fl 2 = false) (h32 : hasB a.fl 32 = true) (h64 : hasB a.fl 64 = false) :
    Calls Try.prog 45 #[lookV a] w (ColsPost a w) := by
  obtain ⟨fg, bg, fl⟩ := a
  have hcol : colors ⟨fg, bg, fl⟩ = (let F := colour fg true; let B := colour bg false; (⟨B.r, B.g, B.b⟩, ⟨F.r, F.g, F.b⟩)) := by unfold colors; simp only [h2, h32, h64, if_true, if_false, Bool.false_eq_true, Rgb.half]
  obtain ⟨F, hF⟩ : ∃ F, colour fg true = F := ⟨_, rfl⟩
  obtain ⟨B, hB⟩ : ∃ B, colour bg false = B := ⟨_, rfl⟩
  have hFB := colour_isB fg true
  have hBB := colour_isB bg false
  rw [hF] at hFB
  rw [hB] at hBB
  simp only [hF, hB] at hcol
  obtain ⟨⟨F0, F1⟩, ⟨F2, F3⟩, F4, F5⟩ := hFB
  obtain ⟨⟨B0, B1⟩, ⟨B2, B3⟩, B4, B5⟩ := hBB
  have HF := Lib.hid (show ∀ w, Calls Try.prog 72 #[.int .i64 fg, .bool true] w fun e w' => e = .returned (.agg #[.int .u8 F.r, .int .u8 F.g, .int .u8 F.b]) ∧ Kept (fun _ => False) w w' from fun w => by have h := colr_any fg true w; rw [hF] at h; exact h)
  have HB := Lib.hid (show ∀ w, Calls Try.prog 72 #[.int .i64 bg, .bool false] w fun e w' => e = .returned (.agg #[.int .u8 B.r, .int .u8 B.g, .int .u8 B.b]) ∧ Kept (fun _ => False) w w' from fun w => by have h := colr_any bg false w; rw [hB] at h; exact h)
  have HCOL := Lib.hid hcol
  obtain ⟨z2, hz2⟩ : ∃ z, bits .and .i64 fl 2 = z := ⟨_, rfl⟩
  obtain ⟨z32, hz32⟩ : ∃ z, bits .and .i64 fl 32 = z := ⟨_, rfl⟩
  obtain ⟨z64, hz64⟩ : ∃ z, bits .and .i64 fl 64 = z := ⟨_, rfl⟩
  unfold hasB at h2 h32 h64
  simp only [hz2] at h2
  simp only [hz32] at h32
  simp only [hz64] at h64
  clear hF hB hcol
  obtain ⟨W, hW⟩ : ∃ W, ((w.alloc (.cells #[.int .i64 fg, .int .i64 bg, .int .i64 fl] 54)).alloc (.cells #[.int .u8 0, .int .u8 0, .int .u8 0] 96)).alloc (.cells #[.int .u8 0, .int .u8 0, .int .u8 0] 96) = W := ⟨_, rfl⟩
  have kW : Kept (fun _ => False) w W := by rw [← hW]; exact (((Kept.refl _ w).alloc _).alloc _).alloc _
  have bp0 : W.heap[w.heap.size]? = some (.cells #[.int .i64 fg, .int .i64 bg, .int .i64 fl] 54 (0, 0)) := by rw [← hW]; exact blk_alloc (blk_alloc (blk_new _ _) _) _
  have bf0 : W.heap[w.heap.size + 1]? = some (.cells #[.int .u8 0, .int .u8 0, .int .u8 0] 96 (0, 0)) := by rw [← hW]; exact blk_alloc (blk_at _ _ (by simp)) _
  have bb0 : W.heap[w.heap.size + 1 + 1]? = some (.cells #[.int .u8 0, .int .u8 0, .int .u8 0] 96 (0, 0)) := by rw [← hW]; exact blk_at _ _ (by simp)
  have HP := Lib.hid bp0
  have HF0 := Lib.hid bf0
  have HB0 := Lib.hid bb0
  have HKW := Lib.hid kW
  obtain ⟨⟨cp0a, fp0a⟩, ⟨cp0b, fp0b⟩, cp0c, fp0c⟩ := blk3 bp0
  clear kW bp0 bf0 bb0
  unfold lookV
  have hkp0 : Kept (fun _ => False) W W.drew := (Kept.refl _ _).drew
  go_enter Try.func45, Try.ntmps45
  go_wp2
  go_region_held3 (fun w' => w'.cell? ⟨w.heap.size, 0, none⟩ = some (.int .i64 fg) ∧ w'.cell? ⟨w.heap.size, 1, none⟩ = some (.int .i64 bg)) (first | ((go_keep; done)) | (go_split_ands; all_goals go_keep)) ((go_at_call 72; first
    | ((with_reducible refine Calls.mono (HF.out _) ?_); (rintro e w1 ⟨rfl, hk⟩); (have hkq := (show Kept (fun _ => False) W w1 from by first | exact hkq.then hk | exact hkp0.then hk)); clear hk; have kq := HKW.out.then hkq; have q0 := hkq.blk HP.out id; have q1 := hkq.blk HF0.out id; have q2 := hkq.blk HB0.out id; obtain ⟨⟨cp0a, fp0a⟩, ⟨cp0b, fp0b⟩, cp0c, fp0c⟩ := blk3 q0; obtain ⟨⟨cf0a, ff0a⟩, ⟨cf0b, ff0b⟩, cf0c, ff0c⟩ := blk3 q1; obtain ⟨⟨cb0a, fb0a⟩, ⟨cb0b, fb0b⟩, cb0c, fb0c⟩ := blk3 q2; obtain ⟨V1a, V1b, V1, e1a, e1b, e1c, ⟨x1a, y1a⟩, ⟨x1b, y1b⟩, ⟨x1c, y1c⟩, bf1, k1⟩ := store3 q1 (.int .u8 F.r) (.int .u8 F.g) (.int .u8 F.b); have bp1 := k1.blk q0 (fun (h : w.heap.size = w.heap.size + 1) => by omega); have bb1 := k1.blk q2 (fun (h : w.heap.size + 1 + 1 = w.heap.size + 1) => by omega); have K1 := kq.trans (k1.mono fun i _ hi => Or.inr (by have h9 : i = w.heap.size + 1 := hi; omega)); obtain ⟨⟨cp1a, fp1a⟩, ⟨cp1b, fp1b⟩, cp1c, fp1c⟩ := blk3 bp1; obtain ⟨⟨cf1a, ff1a⟩, ⟨cf1b, ff1b⟩, cf1c, ff1c⟩ := blk3 bf1; obtain ⟨⟨cb1a, fb1a⟩, ⟨cb1b, fb1b⟩, cb1c, fb1c⟩ := blk3 bb1; obtain ⟨V2a, V2b, V2, e2a, e2b, e2c, ⟨x2a, y2a⟩, ⟨x2b, y2b⟩, ⟨x2c, y2c⟩, bb2, k2⟩ := store3 bb1 (.int .u8 B.r) (.int .u8 B.g) (.int .u8 B.b); have bp2 := k2.blk bp1 (fun (h : w.heap.size = w.heap.size + 1 + 1) => by omega); have bf2 := k2.blk bf1 (fun (h : w.heap.size + 1 = w.heap.size + 1 + 1) => by omega); have K2 := K1.trans (k2.mono fun i _ hi => Or.inr (by have h9 : i = w.heap.size + 1 + 1 := hi; omega)); obtain ⟨⟨cp2a, fp2a⟩, ⟨cp2b, fp2b⟩, cp2c, fp2c⟩ := blk3 bp2; obtain ⟨⟨cf2a, ff2a⟩, ⟨cf2b, ff2b⟩, cf2c, ff2c⟩ := blk3 bf2; obtain ⟨⟨cb2a, fb2a⟩, ⟨cb2b, fb2b⟩, cb2c, fb2c⟩ := blk3 bb2; have HP2 := Lib.hid bp2; have HF2 := Lib.hid bf2; have HB2 := Lib.hid bb2; have HK2 := Lib.hid K2; clear bp1 bf1 bb1 bp2 bf2 bb2 k1 k2 K1 K2 q0 q1 q2 kq)
    | ((with_reducible refine Calls.mono (HB.out _) ?_); (rintro e w1 ⟨rfl, hk⟩); (have hkq := (show Kept (fun _ => False) W w1 from by first | exact hkq.then hk | exact hkp0.then hk)); clear hk; have kq := HKW.out.then hkq; have q0 := hkq.blk HP.out id; have q1 := hkq.blk HF0.out id; have q2 := hkq.blk HB0.out id; obtain ⟨⟨cp0a, fp0a⟩, ⟨cp0b, fp0b⟩, cp0c, fp0c⟩ := blk3 q0; obtain ⟨⟨cf0a, ff0a⟩, ⟨cf0b, ff0b⟩, cf0c, ff0c⟩ := blk3 q1; obtain ⟨⟨cb0a, fb0a⟩, ⟨cb0b, fb0b⟩, cb0c, fb0c⟩ := blk3 q2; obtain ⟨V1a, V1b, V1, e1a, e1b, e1c, ⟨x1a, y1a⟩, ⟨x1b, y1b⟩, ⟨x1c, y1c⟩, bf1, k1⟩ := store3 q1 (.int .u8 F.r) (.int .u8 F.g) (.int .u8 F.b); have bp1 := k1.blk q0 (fun (h : w.heap.size = w.heap.size + 1) => by omega); have bb1 := k1.blk q2 (fun (h : w.heap.size + 1 + 1 = w.heap.size + 1) => by omega); have K1 := kq.trans (k1.mono fun i _ hi => Or.inr (by have h9 : i = w.heap.size + 1 := hi; omega)); obtain ⟨⟨cp1a, fp1a⟩, ⟨cp1b, fp1b⟩, cp1c, fp1c⟩ := blk3 bp1; obtain ⟨⟨cf1a, ff1a⟩, ⟨cf1b, ff1b⟩, cf1c, ff1c⟩ := blk3 bf1; obtain ⟨⟨cb1a, fb1a⟩, ⟨cb1b, fb1b⟩, cb1c, fb1c⟩ := blk3 bb1; obtain ⟨V2a, V2b, V2, e2a, e2b, e2c, ⟨x2a, y2a⟩, ⟨x2b, y2b⟩, ⟨x2c, y2c⟩, bb2, k2⟩ := store3 bb1 (.int .u8 B.r) (.int .u8 B.g) (.int .u8 B.b); have bp2 := k2.blk bp1 (fun (h : w.heap.size = w.heap.size + 1 + 1) => by omega); have bf2 := k2.blk bf1 (fun (h : w.heap.size + 1 = w.heap.size + 1 + 1) => by omega); have K2 := K1.trans (k2.mono fun i _ hi => Or.inr (by have h9 : i = w.heap.size + 1 + 1 := hi; omega)); obtain ⟨⟨cp2a, fp2a⟩, ⟨cp2b, fp2b⟩, cp2c, fp2c⟩ := blk3 bp2; obtain ⟨⟨cf2a, ff2a⟩, ⟨cf2b, ff2b⟩, cf2c, ff2c⟩ := blk3 bf2; obtain ⟨⟨cb2a, fb2a⟩, ⟨cb2b, fb2b⟩, cb2c, fb2c⟩ := blk3 bb2; have HP2 := Lib.hid bp2; have HF2 := Lib.hid bf2; have HB2 := Lib.hid bb2; have HK2 := Lib.hid K2; clear bp1 bf1 bb1 bp2 bf2 bb2 k1 k2 K1 K2 q0 q1 q2 kq)))
  all_goals as_aux_lemma =>
    clear hkp0 hkq
    obtain ⟨V3a, V3b, V3, e3a, e3b, e3c, ⟨x3a, y3a⟩, ⟨x3b, y3b⟩, ⟨x3c, y3c⟩, bf3, k3⟩ := store3 HF2.out (.int .u8 B.r) (.int .u8 B.g) (.int .u8 B.b)
    have bp3 := k3.blk HP2.out (fun (h : w.heap.size = w.heap.size + 1) => by omega)
    have bb3 := k3.blk HB2.out (fun (h : w.heap.size + 1 + 1 = w.heap.size + 1) => by omega)
    have K3 := HK2.out.trans (k3.mono fun i _ hi => Or.inr (by have h9 : i = w.heap.size + 1 := hi; omega))
    obtain ⟨⟨cp3a, fp3a⟩, ⟨cp3b, fp3b⟩, cp3c, fp3c⟩ := blk3 bp3
    obtain ⟨⟨cf3a, ff3a⟩, ⟨cf3b, ff3b⟩, cf3c, ff3c⟩ := blk3 bf3
    obtain ⟨⟨cb3a, fb3a⟩, ⟨cb3b, fb3b⟩, cb3c, fb3c⟩ := blk3 bb3
    obtain ⟨V4a, V4b, V4, e4a, e4b, e4c, ⟨x4a, y4a⟩, ⟨x4b, y4b⟩, ⟨x4c, y4c⟩, bb4, k4⟩ := store3 bb3 (.int .u8 F.r) (.int .u8 F.g) (.int .u8 F.b)
    have bp4 := k4.blk bp3 (fun (h : w.heap.size = w.heap.size + 1 + 1) => by omega)
    have bf4 := k4.blk bf3 (fun (h : w.heap.size + 1 = w.heap.size + 1 + 1) => by omega)
    have K4 := K3.trans (k4.mono fun i _ hi => Or.inr (by have h9 : i = w.heap.size + 1 + 1 := hi; omega))
    obtain ⟨⟨cp4a, fp4a⟩, ⟨cp4b, fp4b⟩, cp4c, fp4c⟩ := blk3 bp4
    obtain ⟨⟨cf4a, ff4a⟩, ⟨cf4b, ff4b⟩, cf4c, ff4c⟩ := blk3 bf4
    obtain ⟨⟨cb4a, fb4a⟩, ⟨cb4b, fb4b⟩, cb4c, fb4c⟩ := blk3 bb4
    obtain ⟨V5a, V5b, V5, e5a, e5b, e5c, ⟨x5a, y5a⟩, ⟨x5b, y5b⟩, ⟨x5c, y5c⟩, bf5, k5⟩ := store3 bf4 (.int .u8 B.r) (.int .u8 B.g) (.int .u8 B.b)
    have bp5 := k5.blk bp4 (fun (h : w.heap.size = w.heap.size + 1) => by omega)
    have bb5 := k5.blk bb4 (fun (h : w.heap.size + 1 + 1 = w.heap.size + 1) => by omega)
    have K5 := K4.trans (k5.mono fun i _ hi => Or.inr (by have h9 : i = w.heap.size + 1 := hi; omega))
    obtain ⟨⟨cp5a, fp5a⟩, ⟨cp5b, fp5b⟩, cp5c, fp5c⟩ := blk3 bp5
    obtain ⟨⟨cf5a, ff5a⟩, ⟨cf5b, ff5b⟩, cf5c, ff5c⟩ := blk3 bf5
    obtain ⟨⟨cb5a, fb5a⟩, ⟨cb5b, fb5b⟩, cb5c, fb5c⟩ := blk3 bb5
    obtain ⟨V6a, V6b, V6, e6a, e6b, e6c, ⟨x6a, y6a⟩, ⟨x6b, y6b⟩, ⟨x6c, y6c⟩, bb6, k6⟩ := store3 bb5 (.int .u8 F.r) (.int .u8 F.g) (.int .u8 F.b)
    have bp6 := k6.blk bp5 (fun (h : w.heap.size = w.heap.size + 1 + 1) => by omega)
    have bf6 := k6.blk bf5 (fun (h : w.heap.size + 1 = w.heap.size + 1 + 1) => by omega)
    have K6 := K5.trans (k6.mono fun i _ hi => Or.inr (by have h9 : i = w.heap.size + 1 + 1 := hi; omega))
    obtain ⟨⟨cp6a, fp6a⟩, ⟨cp6b, fp6b⟩, cp6c, fp6c⟩ := blk3 bp6
    obtain ⟨⟨cf6a, ff6a⟩, ⟨cf6b, ff6b⟩, cf6c, ff6c⟩ := blk3 bf6
    obtain ⟨⟨cb6a, fb6a⟩, ⟨cb6b, fb6b⟩, cb6c, fb6c⟩ := blk3 bb6
    have HK := Lib.hid K6
    clear bp3  bf3  bb3  bp4  bf4  bb4  bp5  bf5  bb5  bp6  bf6  bb6 k3 K3 k4 K4 k5 K5 k6 K6
    go_wp2
    go_region
    all_goals go_wp2
    all_goals
      exact bodyPost_ret (v := .tuple #[.agg #[.int .u8 B.r, .int .u8 B.g, .int .u8 B.b], .agg #[.int .u8 F.r, .int .u8 F.g, .int .u8 F.b]]) (by simp [results, Try.results45, go_sem, *]) rfl ⟨by rw [HCOL.out]; rfl, HK.out.drew⟩

set_option maxRecDepth 100000 in
set_option maxHeartbeats 8000000 in
theorem cols13_nih (a : Look) (w : World) (h2 : hasB a.fl 2 = false) (h32 : hasB a.fl 32 = true) (h64 : hasB a.fl 64 = true) :
    Calls Try.prog 45 #[lookV a] w (ColsPost a w) := by
  obtain ⟨fg, bg, fl⟩ := a
  have hcol : colors ⟨fg, bg, fl⟩ = (let F := colour fg true; let B := colour bg false; (⟨F.r, F.g, F.b⟩, ⟨F.r, F.g, F.b⟩)) := by unfold colors; simp only [h2, h32, h64, if_true, if_false, Bool.false_eq_true, Rgb.half]
  obtain ⟨F, hF⟩ : ∃ F, colour fg true = F := ⟨_, rfl⟩
  obtain ⟨B, hB⟩ : ∃ B, colour bg false = B := ⟨_, rfl⟩
  have hFB := colour_isB fg true
  have hBB := colour_isB bg false
  rw [hF] at hFB
  rw [hB] at hBB
  simp only [hF, hB] at hcol
  obtain ⟨⟨F0, F1⟩, ⟨F2, F3⟩, F4, F5⟩ := hFB
  obtain ⟨⟨B0, B1⟩, ⟨B2, B3⟩, B4, B5⟩ := hBB
  have HF := Lib.hid (show ∀ w, Calls Try.prog 72 #[.int .i64 fg, .bool true] w fun e w' => e = .returned (.agg #[.int .u8 F.r, .int .u8 F.g, .int .u8 F.b]) ∧ Kept (fun _ => False) w w' from fun w => by have h := colr_any fg true w; rw [hF] at h; exact h)
  have HB := Lib.hid (show ∀ w, Calls Try.prog 72 #[.int .i64 bg, .bool false] w fun e w' => e = .returned (.agg #[.int .u8 B.r, .int .u8 B.g, .int .u8 B.b]) ∧ Kept (fun _ => False) w w' from fun w => by have h := colr_any bg false w; rw [hB] at h; exact h)
  have HCOL := Lib.hid hcol
  obtain ⟨z2, hz2⟩ : ∃ z, bits .and .i64 fl 2 = z := ⟨_, rfl⟩
  obtain ⟨z32, hz32⟩ : ∃ z, bits .and .i64 fl 32 = z := ⟨_, rfl⟩
  obtain ⟨z64, hz64⟩ : ∃ z, bits .and .i64 fl 64 = z := ⟨_, rfl⟩
  unfold hasB at h2 h32 h64
  simp only [hz2] at h2
  simp only [hz32] at h32
  simp only [hz64] at h64
  clear hF hB hcol
  obtain ⟨W, hW⟩ : ∃ W, ((w.alloc (.cells #[.int .i64 fg, .int .i64 bg, .int .i64 fl] 54)).alloc (.cells #[.int .u8 0, .int .u8 0, .int .u8 0] 96)).alloc (.cells #[.int .u8 0, .int .u8 0, .int .u8 0] 96) = W := ⟨_, rfl⟩
  have kW : Kept (fun _ => False) w W := by rw [← hW]; exact (((Kept.refl _ w).alloc _).alloc _).alloc _
  have bp0 : W.heap[w.heap.size]? = some (.cells #[.int .i64 fg, .int .i64 bg, .int .i64 fl] 54 (0, 0)) := by rw [← hW]; exact blk_alloc (blk_alloc (blk_new _ _) _) _
  have bf0 : W.heap[w.heap.size + 1]? = some (.cells #[.int .u8 0, .int .u8 0, .int .u8 0] 96 (0, 0)) := by rw [← hW]; exact blk_alloc (blk_at _ _ (by simp)) _
  have bb0 : W.heap[w.heap.size + 1 + 1]? = some (.cells #[.int .u8 0, .int .u8 0, .int .u8 0] 96 (0, 0)) := by rw [← hW]; exact blk_at _ _ (by simp)
  have HP := Lib.hid bp0
  have HF0 := Lib.hid bf0
  have HB0 := Lib.hid bb0
  have HKW := Lib.hid kW
  obtain ⟨⟨cp0a, fp0a⟩, ⟨cp0b, fp0b⟩, cp0c, fp0c⟩ := blk3 bp0
  clear kW bp0 bf0 bb0
  unfold lookV
  by_cases hq : B.r = F.r ∧ B.g = F.g ∧ B.b = F.b
  · as_aux_lemma =>
      have HNE := fun w => (show (binOp .neq 96 (.agg #[.int .u8 B.r, .int .u8 B.g, .int .u8 B.b]) (.agg #[.int .u8 F.r, .int .u8 F.g, .int .u8 F.b])).run Try.prog w = .ok (.bool false) w from by rw [run_neRgb]; simp [hq])
      have hqg := @run_eqGuard_agg Try.prog
      have HQ := Lib.hid hq
      clear hq
      have hkp0 : Kept (fun _ => False) W W.drew := (Kept.refl _ _).drew
      go_enter Try.func45, Try.ntmps45
      go_wp2
      go_region_held3 (fun w' => w'.cell? ⟨w.heap.size, 0, none⟩ = some (.int .i64 fg) ∧ w'.cell? ⟨w.heap.size, 1, none⟩ = some (.int .i64 bg)) (first | ((go_keep; done)) | (go_split_ands; all_goals go_keep)) ((go_at_call 72; first
        | ((with_reducible refine Calls.mono (HF.out _) ?_); (rintro e w1 ⟨rfl, hk⟩); (have hkq := (show Kept (fun _ => False) W w1 from by first | exact hkq.then hk | exact hkp0.then hk)); clear hk; have kq := HKW.out.then hkq; have q0 := hkq.blk HP.out id; have q1 := hkq.blk HF0.out id; have q2 := hkq.blk HB0.out id; obtain ⟨⟨cp0a, fp0a⟩, ⟨cp0b, fp0b⟩, cp0c, fp0c⟩ := blk3 q0; obtain ⟨⟨cf0a, ff0a⟩, ⟨cf0b, ff0b⟩, cf0c, ff0c⟩ := blk3 q1; obtain ⟨⟨cb0a, fb0a⟩, ⟨cb0b, fb0b⟩, cb0c, fb0c⟩ := blk3 q2; obtain ⟨V1a, V1b, V1, e1a, e1b, e1c, ⟨x1a, y1a⟩, ⟨x1b, y1b⟩, ⟨x1c, y1c⟩, bf1, k1⟩ := store3 q1 (.int .u8 F.r) (.int .u8 F.g) (.int .u8 F.b); have bp1 := k1.blk q0 (fun (h : w.heap.size = w.heap.size + 1) => by omega); have bb1 := k1.blk q2 (fun (h : w.heap.size + 1 + 1 = w.heap.size + 1) => by omega); have K1 := kq.trans (k1.mono fun i _ hi => Or.inr (by have h9 : i = w.heap.size + 1 := hi; omega)); obtain ⟨⟨cp1a, fp1a⟩, ⟨cp1b, fp1b⟩, cp1c, fp1c⟩ := blk3 bp1; obtain ⟨⟨cf1a, ff1a⟩, ⟨cf1b, ff1b⟩, cf1c, ff1c⟩ := blk3 bf1; obtain ⟨⟨cb1a, fb1a⟩, ⟨cb1b, fb1b⟩, cb1c, fb1c⟩ := blk3 bb1; obtain ⟨V2a, V2b, V2, e2a, e2b, e2c, ⟨x2a, y2a⟩, ⟨x2b, y2b⟩, ⟨x2c, y2c⟩, bb2, k2⟩ := store3 bb1 (.int .u8 B.r) (.int .u8 B.g) (.int .u8 B.b); have bp2 := k2.blk bp1 (fun (h : w.heap.size = w.heap.size + 1 + 1) => by omega); have bf2 := k2.blk bf1 (fun (h : w.heap.size + 1 = w.heap.size + 1 + 1) => by omega); have K2 := K1.trans (k2.mono fun i _ hi => Or.inr (by have h9 : i = w.heap.size + 1 + 1 := hi; omega)); obtain ⟨⟨cp2a, fp2a⟩, ⟨cp2b, fp2b⟩, cp2c, fp2c⟩ := blk3 bp2; obtain ⟨⟨cf2a, ff2a⟩, ⟨cf2b, ff2b⟩, cf2c, ff2c⟩ := blk3 bf2; obtain ⟨⟨cb2a, fb2a⟩, ⟨cb2b, fb2b⟩, cb2c, fb2c⟩ := blk3 bb2; have HP2 := Lib.hid bp2; have HF2 := Lib.hid bf2; have HB2 := Lib.hid bb2; have HK2 := Lib.hid K2; clear bp1 bf1 bb1 bp2 bf2 bb2 k1 k2 K1 K2 q0 q1 q2 kq)
        | ((with_reducible refine Calls.mono (HB.out _) ?_); (rintro e w1 ⟨rfl, hk⟩); (have hkq := (show Kept (fun _ => False) W w1 from by first | exact hkq.then hk | exact hkp0.then hk)); clear hk; have kq := HKW.out.then hkq; have q0 := hkq.blk HP.out id; have q1 := hkq.blk HF0.out id; have q2 := hkq.blk HB0.out id; obtain ⟨⟨cp0a, fp0a⟩, ⟨cp0b, fp0b⟩, cp0c, fp0c⟩ := blk3 q0; obtain ⟨⟨cf0a, ff0a⟩, ⟨cf0b, ff0b⟩, cf0c, ff0c⟩ := blk3 q1; obtain ⟨⟨cb0a, fb0a⟩, ⟨cb0b, fb0b⟩, cb0c, fb0c⟩ := blk3 q2; obtain ⟨V1a, V1b, V1, e1a, e1b, e1c, ⟨x1a, y1a⟩, ⟨x1b, y1b⟩, ⟨x1c, y1c⟩, bf1, k1⟩ := store3 q1 (.int .u8 F.r) (.int .u8 F.g) (.int .u8 F.b); have bp1 := k1.blk q0 (fun (h : w.heap.size = w.heap.size + 1) => by omega); have bb1 := k1.blk q2 (fun (h : w.heap.size + 1 + 1 = w.heap.size + 1) => by omega); have K1 := kq.trans (k1.mono fun i _ hi => Or.inr (by have h9 : i = w.heap.size + 1 := hi; omega)); obtain ⟨⟨cp1a, fp1a⟩, ⟨cp1b, fp1b⟩, cp1c, fp1c⟩ := blk3 bp1; obtain ⟨⟨cf1a, ff1a⟩, ⟨cf1b, ff1b⟩, cf1c, ff1c⟩ := blk3 bf1; obtain ⟨⟨cb1a, fb1a⟩, ⟨cb1b, fb1b⟩, cb1c, fb1c⟩ := blk3 bb1; obtain ⟨V2a, V2b, V2, e2a, e2b, e2c, ⟨x2a, y2a⟩, ⟨x2b, y2b⟩, ⟨x2c, y2c⟩, bb2, k2⟩ := store3 bb1 (.int .u8 B.r) (.int .u8 B.g) (.int .u8 B.b); have bp2 := k2.blk bp1 (fun (h : w.heap.size = w.heap.size + 1 + 1) => by omega); have bf2 := k2.blk bf1 (fun (h : w.heap.size + 1 = w.heap.size + 1 + 1) => by omega); have K2 := K1.trans (k2.mono fun i _ hi => Or.inr (by have h9 : i = w.heap.size + 1 + 1 := hi; omega)); obtain ⟨⟨cp2a, fp2a⟩, ⟨cp2b, fp2b⟩, cp2c, fp2c⟩ := blk3 bp2; obtain ⟨⟨cf2a, ff2a⟩, ⟨cf2b, ff2b⟩, cf2c, ff2c⟩ := blk3 bf2; obtain ⟨⟨cb2a, fb2a⟩, ⟨cb2b, fb2b⟩, cb2c, fb2c⟩ := blk3 bb2; have HP2 := Lib.hid bp2; have HF2 := Lib.hid bf2; have HB2 := Lib.hid bb2; have HK2 := Lib.hid K2; clear bp1 bf1 bb1 bp2 bf2 bb2 k1 k2 K1 K2 q0 q1 q2 kq)))
      all_goals as_aux_lemma =>
        clear hkp0 hkq
        obtain ⟨V3a, V3b, V3, e3a, e3b, e3c, ⟨x3a, y3a⟩, ⟨x3b, y3b⟩, ⟨x3c, y3c⟩, bf3, k3⟩ := store3 HF2.out (.int .u8 B.r) (.int .u8 B.g) (.int .u8 B.b)
        have bp3 := k3.blk HP2.out (fun (h : w.heap.size = w.heap.size + 1) => by omega)
        have bb3 := k3.blk HB2.out (fun (h : w.heap.size + 1 + 1 = w.heap.size + 1) => by omega)
        have K3 := HK2.out.trans (k3.mono fun i _ hi => Or.inr (by have h9 : i = w.heap.size + 1 := hi; omega))
        obtain ⟨⟨cp3a, fp3a⟩, ⟨cp3b, fp3b⟩, cp3c, fp3c⟩ := blk3 bp3
        obtain ⟨⟨cf3a, ff3a⟩, ⟨cf3b, ff3b⟩, cf3c, ff3c⟩ := blk3 bf3
        obtain ⟨⟨cb3a, fb3a⟩, ⟨cb3b, fb3b⟩, cb3c, fb3c⟩ := blk3 bb3
        obtain ⟨V4a, V4b, V4, e4a, e4b, e4c, ⟨x4a, y4a⟩, ⟨x4b, y4b⟩, ⟨x4c, y4c⟩, bb4, k4⟩ := store3 bb3 (.int .u8 F.r) (.int .u8 F.g) (.int .u8 F.b)
        have bp4 := k4.blk bp3 (fun (h : w.heap.size = w.heap.size + 1 + 1) => by omega)
        have bf4 := k4.blk bf3 (fun (h : w.heap.size + 1 = w.heap.size + 1 + 1) => by omega)
        have K4 := K3.trans (k4.mono fun i _ hi => Or.inr (by have h9 : i = w.heap.size + 1 + 1 := hi; omega))
        obtain ⟨⟨cp4a, fp4a⟩, ⟨cp4b, fp4b⟩, cp4c, fp4c⟩ := blk3 bp4
        obtain ⟨⟨cf4a, ff4a⟩, ⟨cf4b, ff4b⟩, cf4c, ff4c⟩ := blk3 bf4
        obtain ⟨⟨cb4a, fb4a⟩, ⟨cb4b, fb4b⟩, cb4c, fb4c⟩ := blk3 bb4
        obtain ⟨V5a, V5b, V5, e5a, e5b, e5c, ⟨x5a, y5a⟩, ⟨x5b, y5b⟩, ⟨x5c, y5c⟩, bf5, k5⟩ := store3 bf4 (.int .u8 B.r) (.int .u8 B.g) (.int .u8 B.b)
        have bp5 := k5.blk bp4 (fun (h : w.heap.size = w.heap.size + 1) => by omega)
        have bb5 := k5.blk bb4 (fun (h : w.heap.size + 1 + 1 = w.heap.size + 1) => by omega)
        have K5 := K4.trans (k5.mono fun i _ hi => Or.inr (by have h9 : i = w.heap.size + 1 := hi; omega))
        obtain ⟨⟨cp5a, fp5a⟩, ⟨cp5b, fp5b⟩, cp5c, fp5c⟩ := blk3 bp5
        obtain ⟨⟨cf5a, ff5a⟩, ⟨cf5b, ff5b⟩, cf5c, ff5c⟩ := blk3 bf5
        obtain ⟨⟨cb5a, fb5a⟩, ⟨cb5b, fb5b⟩, cb5c, fb5c⟩ := blk3 bb5
        obtain ⟨V6a, V6b, V6, e6a, e6b, e6c, ⟨x6a, y6a⟩, ⟨x6b, y6b⟩, ⟨x6c, y6c⟩, bb6, k6⟩ := store3 bb5 (.int .u8 F.r) (.int .u8 F.g) (.int .u8 F.b)
        have bp6 := k6.blk bp5 (fun (h : w.heap.size = w.heap.size + 1 + 1) => by omega)
        have bf6 := k6.blk bf5 (fun (h : w.heap.size + 1 = w.heap.size + 1 + 1) => by omega)
        have K6 := K5.trans (k6.mono fun i _ hi => Or.inr (by have h9 : i = w.heap.size + 1 + 1 := hi; omega))
        obtain ⟨⟨cp6a, fp6a⟩, ⟨cp6b, fp6b⟩, cp6c, fp6c⟩ := blk3 bp6
        obtain ⟨⟨cf6a, ff6a⟩, ⟨cf6b, ff6b⟩, cf6c, ff6c⟩ := blk3 bf6
        obtain ⟨⟨cb6a, fb6a⟩, ⟨cb6b, fb6b⟩, cb6c, fb6c⟩ := blk3 bb6
        have HK := Lib.hid K6
        clear bp3  bf3  bb3  bp4  bf4  bb4  bp5  bf5  bb5  bp6  bf6  bb6 k3 K3 k4 K4 k5 K5 k6 K6
        go_wp2
        go_region
        all_goals go_wp2
        all_goals
          exact bodyPost_ret (v := .tuple #[.agg #[.int .u8 B.r, .int .u8 B.g, .int .u8 B.b], .agg #[.int .u8 F.r, .int .u8 F.g, .int .u8 F.b]]) (by simp [results, Try.results45, go_sem, *]) rfl ⟨by rw [HCOL.out]; obtain ⟨q1, q2, q3⟩ := HQ.out; simp [rgbV, q1, q2, q3], HK.out.drew⟩
  · as_aux_lemma =>
      have HNE := fun w => (show (binOp .neq 96 (.agg #[.int .u8 B.r, .int .u8 B.g, .int .u8 B.b]) (.agg #[.int .u8 F.r, .int .u8 F.g, .int .u8 F.b])).run Try.prog w = .ok (.bool true) w from by rw [run_neRgb]; simp; omega)
      have hqg := @run_eqGuard_agg Try.prog
      have HQ := Lib.hid hq
      clear hq
      have hkp0 : Kept (fun _ => False) W W.drew := (Kept.refl _ _).drew
      go_enter Try.func45, Try.ntmps45
      go_wp2
      go_region_held3 (fun w' => w'.cell? ⟨w.heap.size, 0, none⟩ = some (.int .i64 fg) ∧ w'.cell? ⟨w.heap.size, 1, none⟩ = some (.int .i64 bg)) (first | ((go_keep; done)) | (go_split_ands; all_goals go_keep)) ((go_at_call 72; first
        | ((with_reducible refine Calls.mono (HF.out _) ?_); (rintro e w1 ⟨rfl, hk⟩); (have hkq := (show Kept (fun _ => False) W w1 from by first | exact hkq.then hk | exact hkp0.then hk)); clear hk; have kq := HKW.out.then hkq; have q0 := hkq.blk HP.out id; have q1 := hkq.blk HF0.out id; have q2 := hkq.blk HB0.out id; obtain ⟨⟨cp0a, fp0a⟩, ⟨cp0b, fp0b⟩, cp0c, fp0c⟩ := blk3 q0; obtain ⟨⟨cf0a, ff0a⟩, ⟨cf0b, ff0b⟩, cf0c, ff0c⟩ := blk3 q1; obtain ⟨⟨cb0a, fb0a⟩, ⟨cb0b, fb0b⟩, cb0c, fb0c⟩ := blk3 q2; obtain ⟨V1a, V1b, V1, e1a, e1b, e1c, ⟨x1a, y1a⟩, ⟨x1b, y1b⟩, ⟨x1c, y1c⟩, bf1, k1⟩ := store3 q1 (.int .u8 F.r) (.int .u8 F.g) (.int .u8 F.b); have bp1 := k1.blk q0 (fun (h : w.heap.size = w.heap.size + 1) => by omega); have bb1 := k1.blk q2 (fun (h : w.heap.size + 1 + 1 = w.heap.size + 1) => by omega); have K1 := kq.trans (k1.mono fun i _ hi => Or.inr (by have h9 : i = w.heap.size + 1 := hi; omega)); obtain ⟨⟨cp1a, fp1a⟩, ⟨cp1b, fp1b⟩, cp1c, fp1c⟩ := blk3 bp1; obtain ⟨⟨cf1a, ff1a⟩, ⟨cf1b, ff1b⟩, cf1c, ff1c⟩ := blk3 bf1; obtain ⟨⟨cb1a, fb1a⟩, ⟨cb1b, fb1b⟩, cb1c, fb1c⟩ := blk3 bb1; obtain ⟨V2a, V2b, V2, e2a, e2b, e2c, ⟨x2a, y2a⟩, ⟨x2b, y2b⟩, ⟨x2c, y2c⟩, bb2, k2⟩ := store3 bb1 (.int .u8 B.r) (.int .u8 B.g) (.int .u8 B.b); have bp2 := k2.blk bp1 (fun (h : w.heap.size = w.heap.size + 1 + 1) => by omega); have bf2 := k2.blk bf1 (fun (h : w.heap.size + 1 = w.heap.size + 1 + 1) => by omega); have K2 := K1.trans (k2.mono fun i _ hi => Or.inr (by have h9 : i = w.heap.size + 1 + 1 := hi; omega)); obtain ⟨⟨cp2a, fp2a⟩, ⟨cp2b, fp2b⟩, cp2c, fp2c⟩ := blk3 bp2; obtain ⟨⟨cf2a, ff2a⟩, ⟨cf2b, ff2b⟩, cf2c, ff2c⟩ := blk3 bf2; obtain ⟨⟨cb2a, fb2a⟩, ⟨cb2b, fb2b⟩, cb2c, fb2c⟩ := blk3 bb2; have HP2 := Lib.hid bp2; have HF2 := Lib.hid bf2; have HB2 := Lib.hid bb2; have HK2 := Lib.hid K2; clear bp1 bf1 bb1 bp2 bf2 bb2 k1 k2 K1 K2 q0 q1 q2 kq)
        | ((with_reducible refine Calls.mono (HB.out _) ?_); (rintro e w1 ⟨rfl, hk⟩); (have hkq := (show Kept (fun _ => False) W w1 from by first | exact hkq.then hk | exact hkp0.then hk)); clear hk; have kq := HKW.out.then hkq; have q0 := hkq.blk HP.out id; have q1 := hkq.blk HF0.out id; have q2 := hkq.blk HB0.out id; obtain ⟨⟨cp0a, fp0a⟩, ⟨cp0b, fp0b⟩, cp0c, fp0c⟩ := blk3 q0; obtain ⟨⟨cf0a, ff0a⟩, ⟨cf0b, ff0b⟩, cf0c, ff0c⟩ := blk3 q1; obtain ⟨⟨cb0a, fb0a⟩, ⟨cb0b, fb0b⟩, cb0c, fb0c⟩ := blk3 q2; obtain ⟨V1a, V1b, V1, e1a, e1b, e1c, ⟨x1a, y1a⟩, ⟨x1b, y1b⟩, ⟨x1c, y1c⟩, bf1, k1⟩ := store3 q1 (.int .u8 F.r) (.int .u8 F.g) (.int .u8 F.b); have bp1 := k1.blk q0 (fun (h : w.heap.size = w.heap.size + 1) => by omega); have bb1 := k1.blk q2 (fun (h : w.heap.size + 1 + 1 = w.heap.size + 1) => by omega); have K1 := kq.trans (k1.mono fun i _ hi => Or.inr (by have h9 : i = w.heap.size + 1 := hi; omega)); obtain ⟨⟨cp1a, fp1a⟩, ⟨cp1b, fp1b⟩, cp1c, fp1c⟩ := blk3 bp1; obtain ⟨⟨cf1a, ff1a⟩, ⟨cf1b, ff1b⟩, cf1c, ff1c⟩ := blk3 bf1; obtain ⟨⟨cb1a, fb1a⟩, ⟨cb1b, fb1b⟩, cb1c, fb1c⟩ := blk3 bb1; obtain ⟨V2a, V2b, V2, e2a, e2b, e2c, ⟨x2a, y2a⟩, ⟨x2b, y2b⟩, ⟨x2c, y2c⟩, bb2, k2⟩ := store3 bb1 (.int .u8 B.r) (.int .u8 B.g) (.int .u8 B.b); have bp2 := k2.blk bp1 (fun (h : w.heap.size = w.heap.size + 1 + 1) => by omega); have bf2 := k2.blk bf1 (fun (h : w.heap.size + 1 = w.heap.size + 1 + 1) => by omega); have K2 := K1.trans (k2.mono fun i _ hi => Or.inr (by have h9 : i = w.heap.size + 1 + 1 := hi; omega)); obtain ⟨⟨cp2a, fp2a⟩, ⟨cp2b, fp2b⟩, cp2c, fp2c⟩ := blk3 bp2; obtain ⟨⟨cf2a, ff2a⟩, ⟨cf2b, ff2b⟩, cf2c, ff2c⟩ := blk3 bf2; obtain ⟨⟨cb2a, fb2a⟩, ⟨cb2b, fb2b⟩, cb2c, fb2c⟩ := blk3 bb2; have HP2 := Lib.hid bp2; have HF2 := Lib.hid bf2; have HB2 := Lib.hid bb2; have HK2 := Lib.hid K2; clear bp1 bf1 bb1 bp2 bf2 bb2 k1 k2 K1 K2 q0 q1 q2 kq)))
      all_goals as_aux_lemma =>
        clear hkp0 hkq
        obtain ⟨V3a, V3b, V3, e3a, e3b, e3c, ⟨x3a, y3a⟩, ⟨x3b, y3b⟩, ⟨x3c, y3c⟩, bf3, k3⟩ := store3 HF2.out (.int .u8 B.r) (.int .u8 B.g) (.int .u8 B.b)
        have bp3 := k3.blk HP2.out (fun (h : w.heap.size = w.heap.size + 1) => by omega)
        have bb3 := k3.blk HB2.out (fun (h : w.heap.size + 1 + 1 = w.heap.size + 1) => by omega)
        have K3 := HK2.out.trans (k3.mono fun i _ hi => Or.inr (by have h9 : i = w.heap.size + 1 := hi; omega))
        obtain ⟨⟨cp3a, fp3a⟩, ⟨cp3b, fp3b⟩, cp3c, fp3c⟩ := blk3 bp3
        obtain ⟨⟨cf3a, ff3a⟩, ⟨cf3b, ff3b⟩, cf3c, ff3c⟩ := blk3 bf3
        obtain ⟨⟨cb3a, fb3a⟩, ⟨cb3b, fb3b⟩, cb3c, fb3c⟩ := blk3 bb3
        obtain ⟨V4a, V4b, V4, e4a, e4b, e4c, ⟨x4a, y4a⟩, ⟨x4b, y4b⟩, ⟨x4c, y4c⟩, bb4, k4⟩ := store3 bb3 (.int .u8 F.r) (.int .u8 F.g) (.int .u8 F.b)
        have bp4 := k4.blk bp3 (fun (h : w.heap.size = w.heap.size + 1 + 1) => by omega)
        have bf4 := k4.blk bf3 (fun (h : w.heap.size + 1 = w.heap.size + 1 + 1) => by omega)
        have K4 := K3.trans (k4.mono fun i _ hi => Or.inr (by have h9 : i = w.heap.size + 1 + 1 := hi; omega))
        obtain ⟨⟨cp4a, fp4a⟩, ⟨cp4b, fp4b⟩, cp4c, fp4c⟩ := blk3 bp4
        obtain ⟨⟨cf4a, ff4a⟩, ⟨cf4b, ff4b⟩, cf4c, ff4c⟩ := blk3 bf4
        obtain ⟨⟨cb4a, fb4a⟩, ⟨cb4b, fb4b⟩, cb4c, fb4c⟩ := blk3 bb4
        obtain ⟨V5a, V5b, V5, e5a, e5b, e5c, ⟨x5a, y5a⟩, ⟨x5b, y5b⟩, ⟨x5c, y5c⟩, bf5, k5⟩ := store3 bf4 (.int .u8 F.r) (.int .u8 F.g) (.int .u8 F.b)
        have bp5 := k5.blk bp4 (fun (h : w.heap.size = w.heap.size + 1) => by omega)
        have bb5 := k5.blk bb4 (fun (h : w.heap.size + 1 + 1 = w.heap.size + 1) => by omega)
        have K5 := K4.trans (k5.mono fun i _ hi => Or.inr (by have h9 : i = w.heap.size + 1 := hi; omega))
        obtain ⟨⟨cp5a, fp5a⟩, ⟨cp5b, fp5b⟩, cp5c, fp5c⟩ := blk3 bp5
        obtain ⟨⟨cf5a, ff5a⟩, ⟨cf5b, ff5b⟩, cf5c, ff5c⟩ := blk3 bf5
        obtain ⟨⟨cb5a, fb5a⟩, ⟨cb5b, fb5b⟩, cb5c, fb5c⟩ := blk3 bb5
        obtain ⟨V6a, V6b, V6, e6a, e6b, e6c, ⟨x6a, y6a⟩, ⟨x6b, y6b⟩, ⟨x6c, y6c⟩, bf6, k6⟩ := store3 bf5 (.int .u8 F.r) (.int .u8 F.g) (.int .u8 F.b)
        have bp6 := k6.blk bp5 (fun (h : w.heap.size = w.heap.size + 1) => by omega)
        have bb6 := k6.blk bb5 (fun (h : w.heap.size + 1 + 1 = w.heap.size + 1) => by omega)
        have K6 := K5.trans (k6.mono fun i _ hi => Or.inr (by have h9 : i = w.heap.size + 1 := hi; omega))
        obtain ⟨⟨cp6a, fp6a⟩, ⟨cp6b, fp6b⟩, cp6c, fp6c⟩ := blk3 bp6
        obtain ⟨⟨cf6a, ff6a⟩, ⟨cf6b, ff6b⟩, cf6c, ff6c⟩ := blk3 bf6
        obtain ⟨⟨cb6a, fb6a⟩, ⟨cb6b, fb6b⟩, cb6c, fb6c⟩ := blk3 bb6
        obtain ⟨V7a, V7b, V7, e7a, e7b, e7c, ⟨x7a, y7a⟩, ⟨x7b, y7b⟩, ⟨x7c, y7c⟩, bb7, k7⟩ := store3 bb6 (.int .u8 F.r) (.int .u8 F.g) (.int .u8 F.b)
        have bp7 := k7.blk bp6 (fun (h : w.heap.size = w.heap.size + 1 + 1) => by omega)
        have bf7 := k7.blk bf6 (fun (h : w.heap.size + 1 = w.heap.size + 1 + 1) => by omega)
        have K7 := K6.trans (k7.mono fun i _ hi => Or.inr (by have h9 : i = w.heap.size + 1 + 1 := hi; omega))
        obtain ⟨⟨cp7a, fp7a⟩, ⟨cp7b, fp7b⟩, cp7c, fp7c⟩ := blk3 bp7
        obtain ⟨⟨cf7a, ff7a⟩, ⟨cf7b, ff7b⟩, cf7c, ff7c⟩ := blk3 bf7
        obtain ⟨⟨cb7a, fb7a⟩, ⟨cb7b, fb7b⟩, cb7c, fb7c⟩ := blk3 bb7
        have HK := Lib.hid K7
        clear bp3  bf3  bb3  bp4  bf4  bb4  bp5  bf5  bb5  bp6  bf6  bb6  bp7  bf7  bb7 k3 K3 k4 K4 k5 K5 k6 K6 k7 K7
        go_wp2
        go_region
        all_goals go_wp2
        all_goals
          exact bodyPost_ret (v := .tuple #[.agg #[.int .u8 F.r, .int .u8 F.g, .int .u8 F.b], .agg #[.int .u8 F.r, .int .u8 F.g, .int .u8 F.b]]) (by simp [results, Try.results45, go_sem, *]) rfl ⟨by rw [HCOL.out]; rfl, HK.out.drew⟩

set_option maxRecDepth 100000 in
set_option maxHeartbeats 8000000 in
theorem cols13_fnn (a : Look) (w : World) (h2 : hasB a.fl 2 = true) (h32 : hasB a.fl 32 = false) (h64 : hasB a.fl 64 = false) :
    Calls Try.prog 45 #[lookV a] w (ColsPost a w) := by
  obtain ⟨fg, bg, fl⟩ := a
  have hcol : colors ⟨fg, bg, fl⟩ = (let F := colour fg true; let B := colour bg false; (⟨(F.r / 2), (F.g / 2), (F.b / 2)⟩, ⟨B.r, B.g, B.b⟩)) := by unfold colors; simp only [h2, h32, h64, if_true, if_false, Bool.false_eq_true, Rgb.half]
  obtain ⟨F, hF⟩ : ∃ F, colour fg true = F := ⟨_, rfl⟩
  obtain ⟨B, hB⟩ : ∃ B, colour bg false = B := ⟨_, rfl⟩
  have hFB := colour_isB fg true
  have hBB := colour_isB bg false
  rw [hF] at hFB
  rw [hB] at hBB
  simp only [hF, hB] at hcol
  obtain ⟨⟨F0, F1⟩, ⟨F2, F3⟩, F4, F5⟩ := hFB
  obtain ⟨⟨B0, B1⟩, ⟨B2, B3⟩, B4, B5⟩ := hBB
  have HF := Lib.hid (show ∀ w, Calls Try.prog 72 #[.int .i64 fg, .bool true] w fun e w' => e = .returned (.agg #[.int .u8 F.r, .int .u8 F.g, .int .u8 F.b]) ∧ Kept (fun _ => False) w w' from fun w => by have h := colr_any fg true w; rw [hF] at h; exact h)
  have HB := Lib.hid (show ∀ w, Calls Try.prog 72 #[.int .i64 bg, .bool false] w fun e w' => e = .returned (.agg #[.int .u8 B.r, .int .u8 B.g, .int .u8 B.b]) ∧ Kept (fun _ => False) w w' from fun w => by have h := colr_any bg false w; rw [hB] at h; exact h)
  have HCOL := Lib.hid hcol
  obtain ⟨z2, hz2⟩ : ∃ z, bits .and .i64 fl 2 = z := ⟨_, rfl⟩
  obtain ⟨z32, hz32⟩ : ∃ z, bits .and .i64 fl 32 = z := ⟨_, rfl⟩
  obtain ⟨z64, hz64⟩ : ∃ z, bits .and .i64 fl 64 = z := ⟨_, rfl⟩
  unfold hasB at h2 h32 h64
  simp only [hz2] at h2
  simp only [hz32] at h32
  simp only [hz64] at h64
  clear hF hB hcol
  obtain ⟨W, hW⟩ : ∃ W, ((w.alloc (.cells #[.int .i64 fg, .int .i64 bg, .int .i64 fl] 54)).alloc (.cells #[.int .u8 0, .int .u8 0, .int .u8 0] 96)).alloc (.cells #[.int .u8 0, .int .u8 0, .int .u8 0] 96) = W := ⟨_, rfl⟩
  have kW : Kept (fun _ => False) w W := by rw [← hW]; exact (((Kept.refl _ w).alloc _).alloc _).alloc _
  have bp0 : W.heap[w.heap.size]? = some (.cells #[.int .i64 fg, .int .i64 bg, .int .i64 fl] 54 (0, 0)) := by rw [← hW]; exact blk_alloc (blk_alloc (blk_new _ _) _) _
  have bf0 : W.heap[w.heap.size + 1]? = some (.cells #[.int .u8 0, .int .u8 0, .int .u8 0] 96 (0, 0)) := by rw [← hW]; exact blk_alloc (blk_at _ _ (by simp)) _
  have bb0 : W.heap[w.heap.size + 1 + 1]? = some (.cells #[.int .u8 0, .int .u8 0, .int .u8 0] 96 (0, 0)) := by rw [← hW]; exact blk_at _ _ (by simp)
  have HP := Lib.hid bp0
  have HF0 := Lib.hid bf0
  have HB0 := Lib.hid bb0
  have HKW := Lib.hid kW
  obtain ⟨⟨cp0a, fp0a⟩, ⟨cp0b, fp0b⟩, cp0c, fp0c⟩ := blk3 bp0
  clear kW bp0 bf0 bb0
  unfold lookV
  have hkp0 : Kept (fun _ => False) W W.drew := (Kept.refl _ _).drew
  go_enter Try.func45, Try.ntmps45
  go_wp2
  go_region_held3 (fun w' => w'.cell? ⟨w.heap.size, 0, none⟩ = some (.int .i64 fg) ∧ w'.cell? ⟨w.heap.size, 1, none⟩ = some (.int .i64 bg)) (first | ((go_keep; done)) | (go_split_ands; all_goals go_keep)) ((go_at_call 72; first
    | ((with_reducible refine Calls.mono (HF.out _) ?_); (rintro e w1 ⟨rfl, hk⟩); (have hkq := (show Kept (fun _ => False) W w1 from by first | exact hkq.then hk | exact hkp0.then hk)); clear hk; have kq := HKW.out.then hkq; have q0 := hkq.blk HP.out id; have q1 := hkq.blk HF0.out id; have q2 := hkq.blk HB0.out id; obtain ⟨⟨cp0a, fp0a⟩, ⟨cp0b, fp0b⟩, cp0c, fp0c⟩ := blk3 q0; obtain ⟨⟨cf0a, ff0a⟩, ⟨cf0b, ff0b⟩, cf0c, ff0c⟩ := blk3 q1; obtain ⟨⟨cb0a, fb0a⟩, ⟨cb0b, fb0b⟩, cb0c, fb0c⟩ := blk3 q2; obtain ⟨V1a, V1b, V1, e1a, e1b, e1c, ⟨x1a, y1a⟩, ⟨x1b, y1b⟩, ⟨x1c, y1c⟩, bf1, k1⟩ := store3 q1 (.int .u8 F.r) (.int .u8 F.g) (.int .u8 F.b); have bp1 := k1.blk q0 (fun (h : w.heap.size = w.heap.size + 1) => by omega); have bb1 := k1.blk q2 (fun (h : w.heap.size + 1 + 1 = w.heap.size + 1) => by omega); have K1 := kq.trans (k1.mono fun i _ hi => Or.inr (by have h9 : i = w.heap.size + 1 := hi; omega)); obtain ⟨⟨cp1a, fp1a⟩, ⟨cp1b, fp1b⟩, cp1c, fp1c⟩ := blk3 bp1; obtain ⟨⟨cf1a, ff1a⟩, ⟨cf1b, ff1b⟩, cf1c, ff1c⟩ := blk3 bf1; obtain ⟨⟨cb1a, fb1a⟩, ⟨cb1b, fb1b⟩, cb1c, fb1c⟩ := blk3 bb1; obtain ⟨V2a, V2b, V2, e2a, e2b, e2c, ⟨x2a, y2a⟩, ⟨x2b, y2b⟩, ⟨x2c, y2c⟩, bb2, k2⟩ := store3 bb1 (.int .u8 B.r) (.int .u8 B.g) (.int .u8 B.b); have bp2 := k2.blk bp1 (fun (h : w.heap.size = w.heap.size + 1 + 1) => by omega); have bf2 := k2.blk bf1 (fun (h : w.heap.size + 1 = w.heap.size + 1 + 1) => by omega); have K2 := K1.trans (k2.mono fun i _ hi => Or.inr (by have h9 : i = w.heap.size + 1 + 1 := hi; omega)); obtain ⟨⟨cp2a, fp2a⟩, ⟨cp2b, fp2b⟩, cp2c, fp2c⟩ := blk3 bp2; obtain ⟨⟨cf2a, ff2a⟩, ⟨cf2b, ff2b⟩, cf2c, ff2c⟩ := blk3 bf2; obtain ⟨⟨cb2a, fb2a⟩, ⟨cb2b, fb2b⟩, cb2c, fb2c⟩ := blk3 bb2; have HP2 := Lib.hid bp2; have HF2 := Lib.hid bf2; have HB2 := Lib.hid bb2; have HK2 := Lib.hid K2; clear bp1 bf1 bb1 bp2 bf2 bb2 k1 k2 K1 K2 q0 q1 q2 kq)
    | ((with_reducible refine Calls.mono (HB.out _) ?_); (rintro e w1 ⟨rfl, hk⟩); (have hkq := (show Kept (fun _ => False) W w1 from by first | exact hkq.then hk | exact hkp0.then hk)); clear hk; have kq := HKW.out.then hkq; have q0 := hkq.blk HP.out id; have q1 := hkq.blk HF0.out id; have q2 := hkq.blk HB0.out id; obtain ⟨⟨cp0a, fp0a⟩, ⟨cp0b, fp0b⟩, cp0c, fp0c⟩ := blk3 q0; obtain ⟨⟨cf0a, ff0a⟩, ⟨cf0b, ff0b⟩, cf0c, ff0c⟩ := blk3 q1; obtain ⟨⟨cb0a, fb0a⟩, ⟨cb0b, fb0b⟩, cb0c, fb0c⟩ := blk3 q2; obtain ⟨V1a, V1b, V1, e1a, e1b, e1c, ⟨x1a, y1a⟩, ⟨x1b, y1b⟩, ⟨x1c, y1c⟩, bf1, k1⟩ := store3 q1 (.int .u8 F.r) (.int .u8 F.g) (.int .u8 F.b); have bp1 := k1.blk q0 (fun (h : w.heap.size = w.heap.size + 1) => by omega); have bb1 := k1.blk q2 (fun (h : w.heap.size + 1 + 1 = w.heap.size + 1) => by omega); have K1 := kq.trans (k1.mono fun i _ hi => Or.inr (by have h9 : i = w.heap.size + 1 := hi; omega)); obtain ⟨⟨cp1a, fp1a⟩, ⟨cp1b, fp1b⟩, cp1c, fp1c⟩ := blk3 bp1; obtain ⟨⟨cf1a, ff1a⟩, ⟨cf1b, ff1b⟩, cf1c, ff1c⟩ := blk3 bf1; obtain ⟨⟨cb1a, fb1a⟩, ⟨cb1b, fb1b⟩, cb1c, fb1c⟩ := blk3 bb1; obtain ⟨V2a, V2b, V2, e2a, e2b, e2c, ⟨x2a, y2a⟩, ⟨x2b, y2b⟩, ⟨x2c, y2c⟩, bb2, k2⟩ := store3 bb1 (.int .u8 B.r) (.int .u8 B.g) (.int .u8 B.b); have bp2 := k2.blk bp1 (fun (h : w.heap.size = w.heap.size + 1 + 1) => by omega); have bf2 := k2.blk bf1 (fun (h : w.heap.size + 1 = w.heap.size + 1 + 1) => by omega); have K2 := K1.trans (k2.mono fun i _ hi => Or.inr (by have h9 : i = w.heap.size + 1 + 1 := hi; omega)); obtain ⟨⟨cp2a, fp2a⟩, ⟨cp2b, fp2b⟩, cp2c, fp2c⟩ := blk3 bp2; obtain ⟨⟨cf2a, ff2a⟩, ⟨cf2b, ff2b⟩, cf2c, ff2c⟩ := blk3 bf2; obtain ⟨⟨cb2a, fb2a⟩, ⟨cb2b, fb2b⟩, cb2c, fb2c⟩ := blk3 bb2; have HP2 := Lib.hid bp2; have HF2 := Lib.hid bf2; have HB2 := Lib.hid bb2; have HK2 := Lib.hid K2; clear bp1 bf1 bb1 bp2 bf2 bb2 k1 k2 K1 K2 q0 q1 q2 kq)))
  all_goals as_aux_lemma =>
    clear hkp0 hkq
    obtain ⟨V3, e3⟩ : ∃ V, V2.setCell ⟨w.heap.size + 1, 0, none⟩ (.int .u8 (F.r / 2)) = V := ⟨_, rfl⟩
    have bf3 : V3.heap[w.heap.size + 1]? = some (.cells #[.int .u8 (F.r / 2), .int .u8 F.g, .int .u8 F.b] 96 (0, 0)) := by rw [← e3]; exact blk_set HF2.out 0 _
    have k3 : Kept (fun i => i = w.heap.size + 1) V2 V3 := by rw [← e3]; exact (Kept.refl (fun i => i = w.heap.size + 1) _).setCell (p := ⟨w.heap.size + 1, 0, none⟩) (.inl rfl) _
    have bp3 := k3.blk HP2.out (fun (h : w.heap.size = w.heap.size + 1) => by omega)
    have bb3 := k3.blk HB2.out (fun (h : w.heap.size + 1 + 1 = w.heap.size + 1) => by omega)
    have K3 := HK2.out.trans (k3.mono fun i _ hi => Or.inr (by have h9 : i = w.heap.size + 1 := hi; omega))
    obtain ⟨⟨cp3a, fp3a⟩, ⟨cp3b, fp3b⟩, cp3c, fp3c⟩ := blk3 bp3
    obtain ⟨⟨cf3a, ff3a⟩, ⟨cf3b, ff3b⟩, cf3c, ff3c⟩ := blk3 bf3
    obtain ⟨⟨cb3a, fb3a⟩, ⟨cb3b, fb3b⟩, cb3c, fb3c⟩ := blk3 bb3
    obtain ⟨V4, e4⟩ : ∃ V, V3.setCell ⟨w.heap.size + 1, 1, none⟩ (.int .u8 (F.g / 2)) = V := ⟨_, rfl⟩
    have bf4 : V4.heap[w.heap.size + 1]? = some (.cells #[.int .u8 (F.r / 2), .int .u8 (F.g / 2), .int .u8 F.b] 96 (0, 0)) := by rw [← e4]; exact blk_set bf3 1 _
    have k4 : Kept (fun i => i = w.heap.size + 1) V3 V4 := by rw [← e4]; exact (Kept.refl (fun i => i = w.heap.size + 1) _).setCell (p := ⟨w.heap.size + 1, 1, none⟩) (.inl rfl) _
    have bp4 := k4.blk bp3 (fun (h : w.heap.size = w.heap.size + 1) => by omega)
    have bb4 := k4.blk bb3 (fun (h : w.heap.size + 1 + 1 = w.heap.size + 1) => by omega)
    have K4 := K3.trans (k4.mono fun i _ hi => Or.inr (by have h9 : i = w.heap.size + 1 := hi; omega))
    obtain ⟨⟨cp4a, fp4a⟩, ⟨cp4b, fp4b⟩, cp4c, fp4c⟩ := blk3 bp4
    obtain ⟨⟨cf4a, ff4a⟩, ⟨cf4b, ff4b⟩, cf4c, ff4c⟩ := blk3 bf4
    obtain ⟨⟨cb4a, fb4a⟩, ⟨cb4b, fb4b⟩, cb4c, fb4c⟩ := blk3 bb4
    obtain ⟨V5, e5⟩ : ∃ V, V4.setCell ⟨w.heap.size + 1, 2, none⟩ (.int .u8 (F.b / 2)) = V := ⟨_, rfl⟩
    have bf5 : V5.heap[w.heap.size + 1]? = some (.cells #[.int .u8 (F.r / 2), .int .u8 (F.g / 2), .int .u8 (F.b / 2)] 96 (0, 0)) := by rw [← e5]; exact blk_set bf4 2 _
    have k5 : Kept (fun i => i = w.heap.size + 1) V4 V5 := by rw [← e5]; exact (Kept.refl (fun i => i = w.heap.size + 1) _).setCell (p := ⟨w.heap.size + 1, 2, none⟩) (.inl rfl) _
    have bp5 := k5.blk bp4 (fun (h : w.heap.size = w.heap.size + 1) => by omega)
    have bb5 := k5.blk bb4 (fun (h : w.heap.size + 1 + 1 = w.heap.size + 1) => by omega)
    have K5 := K4.trans (k5.mono fun i _ hi => Or.inr (by have h9 : i = w.heap.size + 1 := hi; omega))
    obtain ⟨⟨cp5a, fp5a⟩, ⟨cp5b, fp5b⟩, cp5c, fp5c⟩ := blk3 bp5
    obtain ⟨⟨cf5a, ff5a⟩, ⟨cf5b, ff5b⟩, cf5c, ff5c⟩ := blk3 bf5
    obtain ⟨⟨cb5a, fb5a⟩, ⟨cb5b, fb5b⟩, cb5c, fb5c⟩ := blk3 bb5
    obtain ⟨V6a, V6b, V6, e6a, e6b, e6c, ⟨x6a, y6a⟩, ⟨x6b, y6b⟩, ⟨x6c, y6c⟩, bf6, k6⟩ := store3 bf5 (.int .u8 (F.r / 2)) (.int .u8 (F.g / 2)) (.int .u8 (F.b / 2))
    have bp6 := k6.blk bp5 (fun (h : w.heap.size = w.heap.size + 1) => by omega)
    have bb6 := k6.blk bb5 (fun (h : w.heap.size + 1 + 1 = w.heap.size + 1) => by omega)
    have K6 := K5.trans (k6.mono fun i _ hi => Or.inr (by have h9 : i = w.heap.size + 1 := hi; omega))
    obtain ⟨⟨cp6a, fp6a⟩, ⟨cp6b, fp6b⟩, cp6c, fp6c⟩ := blk3 bp6
    obtain ⟨⟨cf6a, ff6a⟩, ⟨cf6b, ff6b⟩, cf6c, ff6c⟩ := blk3 bf6
    obtain ⟨⟨cb6a, fb6a⟩, ⟨cb6b, fb6b⟩, cb6c, fb6c⟩ := blk3 bb6
    obtain ⟨V7a, V7b, V7, e7a, e7b, e7c, ⟨x7a, y7a⟩, ⟨x7b, y7b⟩, ⟨x7c, y7c⟩, bb7, k7⟩ := store3 bb6 (.int .u8 B.r) (.int .u8 B.g) (.int .u8 B.b)
    have bp7 := k7.blk bp6 (fun (h : w.heap.size = w.heap.size + 1 + 1) => by omega)
    have bf7 := k7.blk bf6 (fun (h : w.heap.size + 1 = w.heap.size + 1 + 1) => by omega)
    have K7 := K6.trans (k7.mono fun i _ hi => Or.inr (by have h9 : i = w.heap.size + 1 + 1 := hi; omega))
    obtain ⟨⟨cp7a, fp7a⟩, ⟨cp7b, fp7b⟩, cp7c, fp7c⟩ := blk3 bp7
    obtain ⟨⟨cf7a, ff7a⟩, ⟨cf7b, ff7b⟩, cf7c, ff7c⟩ := blk3 bf7
    obtain ⟨⟨cb7a, fb7a⟩, ⟨cb7b, fb7b⟩, cb7c, fb7c⟩ := blk3 bb7
    have HK := Lib.hid K7
    clear bp3  bf3  bb3  bp4  bf4  bb4  bp5  bf5  bb5  bp6  bf6  bb6  bp7  bf7  bb7 k3 K3 k4 K4 k5 K5 k6 K6 k7 K7
    go_wp2
    refine wp_loop_rounds 4 ?_
    rw [rounds_succ]
    go_wp2
    rw [rounds_succ]
    go_wp2
    rw [rounds_succ]
    go_wp2
    rw [rounds_succ]
    go_wp2
    go_region
    all_goals go_wp2
    all_goals
      exact bodyPost_ret (v := .tuple #[.agg #[.int .u8 (F.r / 2), .int .u8 (F.g / 2), .int .u8 (F.b / 2)], .agg #[.int .u8 B.r, .int .u8 B.g, .int .u8 B.b]]) (by simp [results, Try.results45, go_sem, *]) rfl ⟨by rw [HCOL.out]; rfl, HK.out.drew⟩

set_option maxRecDepth 100000 in
set_option maxHeartbeats 8000000 in
theorem cols13_fnh (a : Look) (w : World) (h2 : hasB a.fl 2 = true) (h32 : hasB a.fl 32 = false) (h64 : hasB a.fl 64 = true) :
    Calls Try.prog 45 #[lookV a] w (ColsPost a w) := by
  obtain ⟨fg, bg, fl⟩ := a
  have hcol : colors ⟨fg, bg, fl⟩ = (let F := colour fg true; let B := colour bg false; (⟨B.r, B.g, B.b⟩, ⟨B.r, B.g, B.b⟩)) := by unfold colors; simp only [h2, h32, h64, if_true, if_false, Bool.false_eq_true, Rgb.half]
  obtain ⟨F, hF⟩ : ∃ F, colour fg true = F := ⟨_, rfl⟩
  obtain ⟨B, hB⟩ : ∃ B, colour bg false = B := ⟨_, rfl⟩
  have hFB := colour_isB fg true
  have hBB := colour_isB bg false
  rw [hF] at hFB
  rw [hB] at hBB
  simp only [hF, hB] at hcol
  obtain ⟨⟨F0, F1⟩, ⟨F2, F3⟩, F4, F5⟩ := hFB
  obtain ⟨⟨B0, B1⟩, ⟨B2, B3⟩, B4, B5⟩ := hBB
  have HF := Lib.hid (show ∀ w, Calls Try.prog 72 #[.int .i64 fg, .bool true] w fun e w' => e = .returned (.agg #[.int .u8 F.r, .int .u8 F.g, .int .u8 F.b]) ∧ Kept (fun _ => False) w w' from fun w => by have h := colr_any fg true w; rw [hF] at h; exact h)
  have HB := Lib.hid (show ∀ w, Calls Try.prog 72 #[.int .i64 bg, .bool false] w fun e w' => e = .returned (.agg #[.int .u8 B.r, .int .u8 B.g, .int .u8 B.b]) ∧ Kept (fun _ => False) w w' from fun w => by have h := colr_any bg false w; rw [hB] at h; exact h)
  have HCOL := Lib.hid hcol
  obtain ⟨z2, hz2⟩ : ∃ z, bits .and .i64 fl 2 = z := ⟨_, rfl⟩
  obtain ⟨z32, hz32⟩ : ∃ z, bits .and .i64 fl 32 = z := ⟨_, rfl⟩
  obtain ⟨z64, hz64⟩ : ∃ z, bits .and .i64 fl 64 = z := ⟨_, rfl⟩
  unfold hasB at h2 h32 h64
  simp only [hz2] at h2
  simp only [hz32] at h32
  simp only [hz64] at h64
  clear hF hB hcol
  obtain ⟨W, hW⟩ : ∃ W, ((w.alloc (.cells #[.int .i64 fg, .int .i64 bg, .int .i64 fl] 54)).alloc (.cells #[.int .u8 0, .int .u8 0, .int .u8 0] 96)).alloc (.cells #[.int .u8 0, .int .u8 0, .int .u8 0] 96) = W := ⟨_, rfl⟩
  have kW : Kept (fun _ => False) w W := by rw [← hW]; exact (((Kept.refl _ w).alloc _).alloc _).alloc _
  have bp0 : W.heap[w.heap.size]? = some (.cells #[.int .i64 fg, .int .i64 bg, .int .i64 fl] 54 (0, 0)) := by rw [← hW]; exact blk_alloc (blk_alloc (blk_new _ _) _) _
  have bf0 : W.heap[w.heap.size + 1]? = some (.cells #[.int .u8 0, .int .u8 0, .int .u8 0] 96 (0, 0)) := by rw [← hW]; exact blk_alloc (blk_at _ _ (by simp)) _
  have bb0 : W.heap[w.heap.size + 1 + 1]? = some (.cells #[.int .u8 0, .int .u8 0, .int .u8 0] 96 (0, 0)) := by rw [← hW]; exact blk_at _ _ (by simp)
  have HP := Lib.hid bp0
  have HF0 := Lib.hid bf0
  have HB0 := Lib.hid bb0
  have HKW := Lib.hid kW
  obtain ⟨⟨cp0a, fp0a⟩, ⟨cp0b, fp0b⟩, cp0c, fp0c⟩ := blk3 bp0
  clear kW bp0 bf0 bb0
  unfold lookV
  by_cases hq : (F.r / 2) = B.r ∧ (F.g / 2) = B.g ∧ (F.b / 2) = B.b
  · as_aux_lemma =>
      have HNE := fun w => (show (binOp .neq 96 (.agg #[.int .u8 (F.r / 2), .int .u8 (F.g / 2), .int .u8 (F.b / 2)]) (.agg #[.int .u8 B.r, .int .u8 B.g, .int .u8 B.b])).run Try.prog w = .ok (.bool false) w from by rw [run_neRgb]; simp [hq])
      have hqg := @run_eqGuard_agg Try.prog
      have HQ := Lib.hid hq
      clear hq
      have hkp0 : Kept (fun _ => False) W W.drew := (Kept.refl _ _).drew
      go_enter Try.func45, Try.ntmps45
      go_wp2
      go_region_held3 (fun w' => w'.cell? ⟨w.heap.size, 0, none⟩ = some (.int .i64 fg) ∧ w'.cell? ⟨w.heap.size, 1, none⟩ = some (.int .i64 bg)) (first | ((go_keep; done)) | (go_split_ands; all_goals go_keep)) ((go_at_call 72; first
        | ((with_reducible refine Calls.mono (HF.out _) ?_); (rintro e w1 ⟨rfl, hk⟩); (have hkq := (show Kept (fun _ => False) W w1 from by first | exact hkq.then hk | exact hkp0.then hk)); clear hk; have kq := HKW.out.then hkq; have q0 := hkq.blk HP.out id; have q1 := hkq.blk HF0.out id; have q2 := hkq.blk HB0.out id; obtain ⟨⟨cp0a, fp0a⟩, ⟨cp0b, fp0b⟩, cp0c, fp0c⟩ := blk3 q0; obtain ⟨⟨cf0a, ff0a⟩, ⟨cf0b, ff0b⟩, cf0c, ff0c⟩ := blk3 q1; obtain ⟨⟨cb0a, fb0a⟩, ⟨cb0b, fb0b⟩, cb0c, fb0c⟩ := blk3 q2; obtain ⟨V1a, V1b, V1, e1a, e1b, e1c, ⟨x1a, y1a⟩, ⟨x1b, y1b⟩, ⟨x1c, y1c⟩, bf1, k1⟩ := store3 q1 (.int .u8 F.r) (.int .u8 F.g) (.int .u8 F.b); have bp1 := k1.blk q0 (fun (h : w.heap.size = w.heap.size + 1) => by omega); have bb1 := k1.blk q2 (fun (h : w.heap.size + 1 + 1 = w.heap.size + 1) => by omega); have K1 := kq.trans (k1.mono fun i _ hi => Or.inr (by have h9 : i = w.heap.size + 1 := hi; omega)); obtain ⟨⟨cp1a, fp1a⟩, ⟨cp1b, fp1b⟩, cp1c, fp1c⟩ := blk3 bp1; obtain ⟨⟨cf1a, ff1a⟩, ⟨cf1b, ff1b⟩, cf1c, ff1c⟩ := blk3 bf1; obtain ⟨⟨cb1a, fb1a⟩, ⟨cb1b, fb1b⟩, cb1c, fb1c⟩ := blk3 bb1; obtain ⟨V2a, V2b, V2, e2a, e2b, e2c, ⟨x2a, y2a⟩, ⟨x2b, y2b⟩, ⟨x2c, y2c⟩, bb2, k2⟩ := store3 bb1 (.int .u8 B.r) (.int .u8 B.g) (.int .u8 B.b); have bp2 := k2.blk bp1 (fun (h : w.heap.size = w.heap.size + 1 + 1) => by omega); have bf2 := k2.blk bf1 (fun (h : w.heap.size + 1 = w.heap.size + 1 + 1) => by omega); have K2 := K1.trans (k2.mono fun i _ hi => Or.inr (by have h9 : i = w.heap.size + 1 + 1 := hi; omega)); obtain ⟨⟨cp2a, fp2a⟩, ⟨cp2b, fp2b⟩, cp2c, fp2c⟩ := blk3 bp2; obtain ⟨⟨cf2a, ff2a⟩, ⟨cf2b, ff2b⟩, cf2c, ff2c⟩ := blk3 bf2; obtain ⟨⟨cb2a, fb2a⟩, ⟨cb2b, fb2b⟩, cb2c, fb2c⟩ := blk3 bb2; have HP2 := Lib.hid bp2; have HF2 := Lib.hid bf2; have HB2 := Lib.hid bb2; have HK2 := Lib.hid K2; clear bp1 bf1 bb1 bp2 bf2 bb2 k1 k2 K1 K2 q0 q1 q2 kq)
        | ((with_reducible refine Calls.mono (HB.out _) ?_); (rintro e w1 ⟨rfl, hk⟩); (have hkq := (show Kept (fun _ => False) W w1 from by first | exact hkq.then hk | exact hkp0.then hk)); clear hk; have kq := HKW.out.then hkq; have q0 := hkq.blk HP.out id; have q1 := hkq.blk HF0.out id; have q2 := hkq.blk HB0.out id; obtain ⟨⟨cp0a, fp0a⟩, ⟨cp0b, fp0b⟩, cp0c, fp0c⟩ := blk3 q0; obtain ⟨⟨cf0a, ff0a⟩, ⟨cf0b, ff0b⟩, cf0c, ff0c⟩ := blk3 q1; obtain ⟨⟨cb0a, fb0a⟩, ⟨cb0b, fb0b⟩, cb0c, fb0c⟩ := blk3 q2; obtain ⟨V1a, V1b, V1, e1a, e1b, e1c, ⟨x1a, y1a⟩, ⟨x1b, y1b⟩, ⟨x1c, y1c⟩, bf1, k1⟩ := store3 q1 (.int .u8 F.r) (.int .u8 F.g) (.int .u8 F.b); have bp1 := k1.blk q0 (fun (h : w.heap.size = w.heap.size + 1) => by omega); have bb1 := k1.blk q2 (fun (h : w.heap.size + 1 + 1 = w.heap.size + 1) => by omega); have K1 := kq.trans (k1.mono fun i _ hi => Or.inr (by have h9 : i = w.heap.size + 1 := hi; omega)); obtain ⟨⟨cp1a, fp1a⟩, ⟨cp1b, fp1b⟩, cp1c, fp1c⟩ := blk3 bp1; obtain ⟨⟨cf1a, ff1a⟩, ⟨cf1b, ff1b⟩, cf1c, ff1c⟩ := blk3 bf1; obtain ⟨⟨cb1a, fb1a⟩, ⟨cb1b, fb1b⟩, cb1c, fb1c⟩ := blk3 bb1; obtain ⟨V2a, V2b, V2, e2a, e2b, e2c, ⟨x2a, y2a⟩, ⟨x2b, y2b⟩, ⟨x2c, y2c⟩, bb2, k2⟩ := store3 bb1 (.int .u8 B.r) (.int .u8 B.g) (.int .u8 B.b); have bp2 := k2.blk bp1 (fun (h : w.heap.size = w.heap.size + 1 + 1) => by omega); have bf2 := k2.blk bf1 (fun (h : w.heap.size + 1 = w.heap.size + 1 + 1) => by omega); have K2 := K1.trans (k2.mono fun i _ hi => Or.inr (by have h9 : i = w.heap.size + 1 + 1 := hi; omega)); obtain ⟨⟨cp2a, fp2a⟩, ⟨cp2b, fp2b⟩, cp2c, fp2c⟩ := blk3 bp2; obtain ⟨⟨cf2a, ff2a⟩, ⟨cf2b, ff2b⟩, cf2c, ff2c⟩ := blk3 bf2; obtain ⟨⟨cb2a, fb2a⟩, ⟨cb2b, fb2b⟩, cb2c, fb2c⟩ := blk3 bb2; have HP2 := Lib.hid bp2; have HF2 := Lib.hid bf2; have HB2 := Lib.hid bb2; have HK2 := Lib.hid K2; clear bp1 bf1 bb1 bp2 bf2 bb2 k1 k2 K1 K2 q0 q1 q2 kq)))
      all_goals as_aux_lemma =>
        clear hkp0 hkq
        obtain ⟨V3, e3⟩ : ∃ V, V2.setCell ⟨w.heap.size + 1, 0, none⟩ (.int .u8 (F.r / 2)) = V := ⟨_, rfl⟩
        have bf3 : V3.heap[w.heap.size + 1]? = some (.cells #[.int .u8 (F.r / 2), .int .u8 F.g, .int .u8 F.b] 96 (0, 0)) := by rw [← e3]; exact blk_set HF2.out 0 _
        have k3 : Kept (fun i => i = w.heap.size + 1) V2 V3 := by rw [← e3]; exact (Kept.refl (fun i => i = w.heap.size + 1) _).setCell (p := ⟨w.heap.size + 1, 0, none⟩) (.inl rfl) _
        have bp3 := k3.blk HP2.out (fun (h : w.heap.size = w.heap.size + 1) => by omega)
        have bb3 := k3.blk HB2.out (fun (h : w.heap.size + 1 + 1 = w.heap.size + 1) => by omega)
        have K3 := HK2.out.trans (k3.mono fun i _ hi => Or.inr (by have h9 : i = w.heap.size + 1 := hi; omega))
        obtain ⟨⟨cp3a, fp3a⟩, ⟨cp3b, fp3b⟩, cp3c, fp3c⟩ := blk3 bp3
        obtain ⟨⟨cf3a, ff3a⟩, ⟨cf3b, ff3b⟩, cf3c, ff3c⟩ := blk3 bf3
        obtain ⟨⟨cb3a, fb3a⟩, ⟨cb3b, fb3b⟩, cb3c, fb3c⟩ := blk3 bb3
        obtain ⟨V4, e4⟩ : ∃ V, V3.setCell ⟨w.heap.size + 1, 1, none⟩ (.int .u8 (F.g / 2)) = V := ⟨_, rfl⟩
        have bf4 : V4.heap[w.heap.size + 1]? = some (.cells #[.int .u8 (F.r / 2), .int .u8 (F.g / 2), .int .u8 F.b] 96 (0, 0)) := by rw [← e4]; exact blk_set bf3 1 _
        have k4 : Kept (fun i => i = w.heap.size + 1) V3 V4 := by rw [← e4]; exact (Kept.refl (fun i => i = w.heap.size + 1) _).setCell (p := ⟨w.heap.size + 1, 1, none⟩) (.inl rfl) _
        have bp4 := k4.blk bp3 (fun (h : w.heap.size = w.heap.size + 1) => by omega)
        have bb4 := k4.blk bb3 (fun (h : w.heap.size + 1 + 1 = w.heap.size + 1) => by omega)
        have K4 := K3.trans (k4.mono fun i _ hi => Or.inr (by have h9 : i = w.heap.size + 1 := hi; omega))
        obtain ⟨⟨cp4a, fp4a⟩, ⟨cp4b, fp4b⟩, cp4c, fp4c⟩ := blk3 bp4
        obtain ⟨⟨cf4a, ff4a⟩, ⟨cf4b, ff4b⟩, cf4c, ff4c⟩ := blk3 bf4
        obtain ⟨⟨cb4a, fb4a⟩, ⟨cb4b, fb4b⟩, cb4c, fb4c⟩ := blk3 bb4
        obtain ⟨V5, e5⟩ : ∃ V, V4.setCell ⟨w.heap.size + 1, 2, none⟩ (.int .u8 (F.b / 2)) = V := ⟨_, rfl⟩
        have bf5 : V5.heap[w.heap.size + 1]? = some (.cells #[.int .u8 (F.r / 2), .int .u8 (F.g / 2), .int .u8 (F.b / 2)] 96 (0, 0)) := by rw [← e5]; exact blk_set bf4 2 _
        have k5 : Kept (fun i => i = w.heap.size + 1) V4 V5 := by rw [← e5]; exact (Kept.refl (fun i => i = w.heap.size + 1) _).setCell (p := ⟨w.heap.size + 1, 2, none⟩) (.inl rfl) _
        have bp5 := k5.blk bp4 (fun (h : w.heap.size = w.heap.size + 1) => by omega)
        have bb5 := k5.blk bb4 (fun (h : w.heap.size + 1 + 1 = w.heap.size + 1) => by omega)
        have K5 := K4.trans (k5.mono fun i _ hi => Or.inr (by have h9 : i = w.heap.size + 1 := hi; omega))
        obtain ⟨⟨cp5a, fp5a⟩, ⟨cp5b, fp5b⟩, cp5c, fp5c⟩ := blk3 bp5
        obtain ⟨⟨cf5a, ff5a⟩, ⟨cf5b, ff5b⟩, cf5c, ff5c⟩ := blk3 bf5
        obtain ⟨⟨cb5a, fb5a⟩, ⟨cb5b, fb5b⟩, cb5c, fb5c⟩ := blk3 bb5
        obtain ⟨V6a, V6b, V6, e6a, e6b, e6c, ⟨x6a, y6a⟩, ⟨x6b, y6b⟩, ⟨x6c, y6c⟩, bf6, k6⟩ := store3 bf5 (.int .u8 (F.r / 2)) (.int .u8 (F.g / 2)) (.int .u8 (F.b / 2))
        have bp6 := k6.blk bp5 (fun (h : w.heap.size = w.heap.size + 1) => by omega)
        have bb6 := k6.blk bb5 (fun (h : w.heap.size + 1 + 1 = w.heap.size + 1) => by omega)
        have K6 := K5.trans (k6.mono fun i _ hi => Or.inr (by have h9 : i = w.heap.size + 1 := hi; omega))
        obtain ⟨⟨cp6a, fp6a⟩, ⟨cp6b, fp6b⟩, cp6c, fp6c⟩ := blk3 bp6
        obtain ⟨⟨cf6a, ff6a⟩, ⟨cf6b, ff6b⟩, cf6c, ff6c⟩ := blk3 bf6
        obtain ⟨⟨cb6a, fb6a⟩, ⟨cb6b, fb6b⟩, cb6c, fb6c⟩ := blk3 bb6
        obtain ⟨V7a, V7b, V7, e7a, e7b, e7c, ⟨x7a, y7a⟩, ⟨x7b, y7b⟩, ⟨x7c, y7c⟩, bb7, k7⟩ := store3 bb6 (.int .u8 B.r) (.int .u8 B.g) (.int .u8 B.b)
        have bp7 := k7.blk bp6 (fun (h : w.heap.size = w.heap.size + 1 + 1) => by omega)
        have bf7 := k7.blk bf6 (fun (h : w.heap.size + 1 = w.heap.size + 1 + 1) => by omega)
        have K7 := K6.trans (k7.mono fun i _ hi => Or.inr (by have h9 : i = w.heap.size + 1 + 1 := hi; omega))
        obtain ⟨⟨cp7a, fp7a⟩, ⟨cp7b, fp7b⟩, cp7c, fp7c⟩ := blk3 bp7
        obtain ⟨⟨cf7a, ff7a⟩, ⟨cf7b, ff7b⟩, cf7c, ff7c⟩ := blk3 bf7
        obtain ⟨⟨cb7a, fb7a⟩, ⟨cb7b, fb7b⟩, cb7c, fb7c⟩ := blk3 bb7
        have HK := Lib.hid K7
        clear bp3  bf3  bb3  bp4  bf4  bb4  bp5  bf5  bb5  bp6  bf6  bb6  bp7  bf7  bb7 k3 K3 k4 K4 k5 K5 k6 K6 k7 K7
        go_wp2
        refine wp_loop_rounds 4 ?_
        rw [rounds_succ]
        go_wp2
        rw [rounds_succ]
        go_wp2
        rw [rounds_succ]
        go_wp2
        rw [rounds_succ]
        go_wp2
        go_region
        all_goals go_wp2
        all_goals
          exact bodyPost_ret (v := .tuple #[.agg #[.int .u8 (F.r / 2), .int .u8 (F.g / 2), .int .u8 (F.b / 2)], .agg #[.int .u8 B.r, .int .u8 B.g, .int .u8 B.b]]) (by simp [results, Try.results45, go_sem, *]) rfl ⟨by rw [HCOL.out]; obtain ⟨q1, q2, q3⟩ := HQ.out; simp [rgbV, q1, q2, q3], HK.out.drew⟩
  · as_aux_lemma =>
      have HNE := fun w => (show (binOp .neq 96 (.agg #[.int .u8 (F.r / 2), .int .u8 (F.g / 2), .int .u8 (F.b / 2)]) (.agg #[.int .u8 B.r, .int .u8 B.g, .int .u8 B.b])).run Try.prog w = .ok (.bool true) w from by rw [run_neRgb]; simp; omega)
      have hqg := @run_eqGuard_agg Try.prog
      have HQ := Lib.hid hq
      clear hq
      have hkp0 : Kept (fun _ => False) W W.drew := (Kept.refl _ _).drew
      go_enter Try.func45, Try.ntmps45
      go_wp2
      go_region_held3 (fun w' => w'.cell? ⟨w.heap.size, 0, none⟩ = some (.int .i64 fg) ∧ w'.cell? ⟨w.heap.size, 1, none⟩ = some (.int .i64 bg)) (first | ((go_keep; done)) | (go_split_ands; all_goals go_keep)) ((go_at_call 72; first
        | ((with_reducible refine Calls.mono (HF.out _) ?_); (rintro e w1 ⟨rfl, hk⟩); (have hkq := (show Kept (fun _ => False) W w1 from by first | exact hkq.then hk | exact hkp0.then hk)); clear hk; have kq := HKW.out.then hkq; have q0 := hkq.blk HP.out id; have q1 := hkq.blk HF0.out id; have q2 := hkq.blk HB0.out id; obtain ⟨⟨cp0a, fp0a⟩, ⟨cp0b, fp0b⟩, cp0c, fp0c⟩ := blk3 q0; obtain ⟨⟨cf0a, ff0a⟩, ⟨cf0b, ff0b⟩, cf0c, ff0c⟩ := blk3 q1; obtain ⟨⟨cb0a, fb0a⟩, ⟨cb0b, fb0b⟩, cb0c, fb0c⟩ := blk3 q2; obtain ⟨V1a, V1b, V1, e1a, e1b, e1c, ⟨x1a, y1a⟩, ⟨x1b, y1b⟩, ⟨x1c, y1c⟩, bf1, k1⟩ := store3 q1 (.int .u8 F.r) (.int .u8 F.g) (.int .u8 F.b); have bp1 := k1.blk q0 (fun (h : w.heap.size = w.heap.size + 1) => by omega); have bb1 := k1.blk q2 (fun (h : w.heap.size + 1 + 1 = w.heap.size + 1) => by omega); have K1 := kq.trans (k1.mono fun i _ hi => Or.inr (by have h9 : i = w.heap.size + 1 := hi; omega)); obtain ⟨⟨cp1a, fp1a⟩, ⟨cp1b, fp1b⟩, cp1c, fp1c⟩ := blk3 bp1; obtain ⟨⟨cf1a, ff1a⟩, ⟨cf1b, ff1b⟩, cf1c, ff1c⟩ := blk3 bf1; obtain ⟨⟨cb1a, fb1a⟩, ⟨cb1b, fb1b⟩, cb1c, fb1c⟩ := blk3 bb1; obtain ⟨V2a, V2b, V2, e2a, e2b, e2c, ⟨x2a, y2a⟩, ⟨x2b, y2b⟩, ⟨x2c, y2c⟩, bb2, k2⟩ := store3 bb1 (.int .u8 B.r) (.int .u8 B.g) (.int .u8 B.b); have bp2 := k2.blk bp1 (fun (h : w.heap.size = w.heap.size + 1 + 1) => by omega); have bf2 := k2.blk bf1 (fun (h : w.heap.size + 1 = w.heap.size + 1 + 1) => by omega); have K2 := K1.trans (k2.mono fun i _ hi => Or.inr (by have h9 : i = w.heap.size + 1 + 1 := hi; omega)); obtain ⟨⟨cp2a, fp2a⟩, ⟨cp2b, fp2b⟩, cp2c, fp2c⟩ := blk3 bp2; obtain ⟨⟨cf2a, ff2a⟩, ⟨cf2b, ff2b⟩, cf2c, ff2c⟩ := blk3 bf2; obtain ⟨⟨cb2a, fb2a⟩, ⟨cb2b, fb2b⟩, cb2c, fb2c⟩ := blk3 bb2; have HP2 := Lib.hid bp2; have HF2 := Lib.hid bf2; have HB2 := Lib.hid bb2; have HK2 := Lib.hid K2; clear bp1 bf1 bb1 bp2 bf2 bb2 k1 k2 K1 K2 q0 q1 q2 kq)
        | ((with_reducible refine Calls.mono (HB.out _) ?_); (rintro e w1 ⟨rfl, hk⟩); (have hkq := (show Kept (fun _ => False) W w1 from by first | exact hkq.then hk | exact hkp0.then hk)); clear hk; have kq := HKW.out.then hkq; have q0 := hkq.blk HP.out id; have q1 := hkq.blk HF0.out id; have q2 := hkq.blk HB0.out id; obtain ⟨⟨cp0a, fp0a⟩, ⟨cp0b, fp0b⟩, cp0c, fp0c⟩ := blk3 q0; obtain ⟨⟨cf0a, ff0a⟩, ⟨cf0b, ff0b⟩, cf0c, ff0c⟩ := blk3 q1; obtain ⟨⟨cb0a, fb0a⟩, ⟨cb0b, fb0b⟩, cb0c, fb0c⟩ := blk3 q2; obtain ⟨V1a, V1b, V1, e1a, e1b, e1c, ⟨x1a, y1a⟩, ⟨x1b, y1b⟩, ⟨x1c, y1c⟩, bf1, k1⟩ := store3 q1 (.int .u8 F.r) (.int .u8 F.g) (.int .u8 F.b); have bp1 := k1.blk q0 (fun (h : w.heap.size = w.heap.size + 1) => by omega); have bb1 := k1.blk q2 (fun (h : w.heap.size + 1 + 1 = w.heap.size + 1) => by omega); have K1 := kq.trans (k1.mono fun i _ hi => Or.inr (by have h9 : i = w.heap.size + 1 := hi; omega)); obtain ⟨⟨cp1a, fp1a⟩, ⟨cp1b, fp1b⟩, cp1c, fp1c⟩ := blk3 bp1; obtain ⟨⟨cf1a, ff1a⟩, ⟨cf1b, ff1b⟩, cf1c, ff1c⟩ := blk3 bf1; obtain ⟨⟨cb1a, fb1a⟩, ⟨cb1b, fb1b⟩, cb1c, fb1c⟩ := blk3 bb1; obtain ⟨V2a, V2b, V2, e2a, e2b, e2c, ⟨x2a, y2a⟩, ⟨x2b, y2b⟩, ⟨x2c, y2c⟩, bb2, k2⟩ := store3 bb1 (.int .u8 B.r) (.int .u8 B.g) (.int .u8 B.b); have bp2 := k2.blk bp1 (fun (h : w.heap.size = w.heap.size + 1 + 1) => by omega); have bf2 := k2.blk bf1 (fun (h : w.heap.size + 1 = w.heap.size + 1 + 1) => by omega); have K2 := K1.trans (k2.mono fun i _ hi => Or.inr (by have h9 : i = w.heap.size + 1 + 1 := hi; omega)); obtain ⟨⟨cp2a, fp2a⟩, ⟨cp2b, fp2b⟩, cp2c, fp2c⟩ := blk3 bp2; obtain ⟨⟨cf2a, ff2a⟩, ⟨cf2b, ff2b⟩, cf2c, ff2c⟩ := blk3 bf2; obtain ⟨⟨cb2a, fb2a⟩, ⟨cb2b, fb2b⟩, cb2c, fb2c⟩ := blk3 bb2; have HP2 := Lib.hid bp2; have HF2 := Lib.hid bf2; have HB2 := Lib.hid bb2; have HK2 := Lib.hid K2; clear bp1 bf1 bb1 bp2 bf2 bb2 k1 k2 K1 K2 q0 q1 q2 kq)))
      all_goals as_aux_lemma =>
        clear hkp0 hkq
        obtain ⟨V3, e3⟩ : ∃ V, V2.setCell ⟨w.heap.size + 1, 0, none⟩ (.int .u8 (F.r / 2)) = V := ⟨_, rfl⟩
        have bf3 : V3.heap[w.heap.size + 1]? = some (.cells #[.int .u8 (F.r / 2), .int .u8 F.g, .int .u8 F.b] 96 (0, 0)) := by rw [← e3]; exact blk_set HF2.out 0 _
        have k3 : Kept (fun i => i = w.heap.size + 1) V2 V3 := by rw [← e3]; exact (Kept.refl (fun i => i = w.heap.size + 1) _).setCell (p := ⟨w.heap.size + 1, 0, none⟩) (.inl rfl) _
        have bp3 := k3.blk HP2.out (fun (h : w.heap.size = w.heap.size + 1) => by omega)
        have bb3 := k3.blk HB2.out (fun (h : w.heap.size + 1 + 1 = w.heap.size + 1) => by omega)
        have K3 := HK2.out.trans (k3.mono fun i _ hi => Or.inr (by have h9 : i = w.heap.size + 1 := hi; omega))
        obtain ⟨⟨cp3a, fp3a⟩, ⟨cp3b, fp3b⟩, cp3c, fp3c⟩ := blk3 bp3
        obtain ⟨⟨cf3a, ff3a⟩, ⟨cf3b, ff3b⟩, cf3c, ff3c⟩ := blk3 bf3
        obtain ⟨⟨cb3a, fb3a⟩, ⟨cb3b, fb3b⟩, cb3c, fb3c⟩ := blk3 bb3
        obtain ⟨V4, e4⟩ : ∃ V, V3.setCell ⟨w.heap.size + 1, 1, none⟩ (.int .u8 (F.g / 2)) = V := ⟨_, rfl⟩
        have bf4 : V4.heap[w.heap.size + 1]? = some (.cells #[.int .u8 (F.r / 2), .int .u8 (F.g / 2), .int .u8 F.b] 96 (0, 0)) := by rw [← e4]; exact blk_set bf3 1 _
        have k4 : Kept (fun i => i = w.heap.size + 1) V3 V4 := by rw [← e4]; exact (Kept.refl (fun i => i = w.heap.size + 1) _).setCell (p := ⟨w.heap.size + 1, 1, none⟩) (.inl rfl) _
        have bp4 := k4.blk bp3 (fun (h : w.heap.size = w.heap.size + 1) => by omega)
        have bb4 := k4.blk bb3 (fun (h : w.heap.size + 1 + 1 = w.heap.size + 1) => by omega)
        have K4 := K3.trans (k4.mono fun i _ hi => Or.inr (by have h9 : i = w.heap.size + 1 := hi; omega))
        obtain ⟨⟨cp4a, fp4a⟩, ⟨cp4b, fp4b⟩, cp4c, fp4c⟩ := blk3 bp4
        obtain ⟨⟨cf4a, ff4a⟩, ⟨cf4b, ff4b⟩, cf4c, ff4c⟩ := blk3 bf4
        obtain ⟨⟨cb4a, fb4a⟩, ⟨cb4b, fb4b⟩, cb4c, fb4c⟩ := blk3 bb4
        obtain ⟨V5, e5⟩ : ∃ V, V4.setCell ⟨w.heap.size + 1, 2, none⟩ (.int .u8 (F.b / 2)) = V := ⟨_, rfl⟩
        have bf5 : V5.heap[w.heap.size + 1]? = some (.cells #[.int .u8 (F.r / 2), .int .u8 (F.g / 2), .int .u8 (F.b / 2)] 96 (0, 0)) := by rw [← e5]; exact blk_set bf4 2 _
        have k5 : Kept (fun i => i = w.heap.size + 1) V4 V5 := by rw [← e5]; exact (Kept.refl (fun i => i = w.heap.size + 1) _).setCell (p := ⟨w.heap.size + 1, 2, none⟩) (.inl rfl) _
        have bp5 := k5.blk bp4 (fun (h : w.heap.size = w.heap.size + 1) => by omega)
        have bb5 := k5.blk bb4 (fun (h : w.heap.size + 1 + 1 = w.heap.size + 1) => by omega)
        have K5 := K4.trans (k5.mono fun i _ hi => Or.inr (by have h9 : i = w.heap.size + 1 := hi; omega))
        obtain ⟨⟨cp5a, fp5a⟩, ⟨cp5b, fp5b⟩, cp5c, fp5c⟩ := blk3 bp5
        obtain ⟨⟨cf5a, ff5a⟩, ⟨cf5b, ff5b⟩, cf5c, ff5c⟩ := blk3 bf5
        obtain ⟨⟨cb5a, fb5a⟩, ⟨cb5b, fb5b⟩, cb5c, fb5c⟩ := blk3 bb5
        obtain ⟨V6a, V6b, V6, e6a, e6b, e6c, ⟨x6a, y6a⟩, ⟨x6b, y6b⟩, ⟨x6c, y6c⟩, bf6, k6⟩ := store3 bf5 (.int .u8 B.r) (.int .u8 B.g) (.int .u8 B.b)
        have bp6 := k6.blk bp5 (fun (h : w.heap.size = w.heap.size + 1) => by omega)
        have bb6 := k6.blk bb5 (fun (h : w.heap.size + 1 + 1 = w.heap.size + 1) => by omega)
        have K6 := K5.trans (k6.mono fun i _ hi => Or.inr (by have h9 : i = w.heap.size + 1 := hi; omega))
        obtain ⟨⟨cp6a, fp6a⟩, ⟨cp6b, fp6b⟩, cp6c, fp6c⟩ := blk3 bp6
        obtain ⟨⟨cf6a, ff6a⟩, ⟨cf6b, ff6b⟩, cf6c, ff6c⟩ := blk3 bf6
        obtain ⟨⟨cb6a, fb6a⟩, ⟨cb6b, fb6b⟩, cb6c, fb6c⟩ := blk3 bb6
        obtain ⟨V7a, V7b, V7, e7a, e7b, e7c, ⟨x7a, y7a⟩, ⟨x7b, y7b⟩, ⟨x7c, y7c⟩, bf7, k7⟩ := store3 bf6 (.int .u8 B.r) (.int .u8 B.g) (.int .u8 B.b)
        have bp7 := k7.blk bp6 (fun (h : w.heap.size = w.heap.size + 1) => by omega)
        have bb7 := k7.blk bb6 (fun (h : w.heap.size + 1 + 1 = w.heap.size + 1) => by omega)
        have K7 := K6.trans (k7.mono fun i _ hi => Or.inr (by have h9 : i = w.heap.size + 1 := hi; omega))
        obtain ⟨⟨cp7a, fp7a⟩, ⟨cp7b, fp7b⟩, cp7c, fp7c⟩ := blk3 bp7
        obtain ⟨⟨cf7a, ff7a⟩, ⟨cf7b, ff7b⟩, cf7c, ff7c⟩ := blk3 bf7
        obtain ⟨⟨cb7a, fb7a⟩, ⟨cb7b, fb7b⟩, cb7c, fb7c⟩ := blk3 bb7
        obtain ⟨V8a, V8b, V8, e8a, e8b, e8c, ⟨x8a, y8a⟩, ⟨x8b, y8b⟩, ⟨x8c, y8c⟩, bb8, k8⟩ := store3 bb7 (.int .u8 B.r) (.int .u8 B.g) (.int .u8 B.b)
        have bp8 := k8.blk bp7 (fun (h : w.heap.size = w.heap.size + 1 + 1) => by omega)
        have bf8 := k8.blk bf7 (fun (h : w.heap.size + 1 = w.heap.size + 1 + 1) => by omega)
        have K8 := K7.trans (k8.mono fun i _ hi => Or.inr (by have h9 : i = w.heap.size + 1 + 1 := hi; omega))
        obtain ⟨⟨cp8a, fp8a⟩, ⟨cp8b, fp8b⟩, cp8c, fp8c⟩ := blk3 bp8
        obtain ⟨⟨cf8a, ff8a⟩, ⟨cf8b, ff8b⟩, cf8c, ff8c⟩ := blk3 bf8
        obtain ⟨⟨cb8a, fb8a⟩, ⟨cb8b, fb8b⟩, cb8c, fb8c⟩ := blk3 bb8
        have HK := Lib.hid K8
        clear bp3  bf3  bb3  bp4  bf4  bb4  bp5  bf5  bb5  bp6  bf6  bb6  bp7  bf7  bb7  bp8  bf8  bb8 k3 K3 k4 K4 k5 K5 k6 K6 k7 K7 k8 K8
        go_wp2
        refine wp_loop_rounds 4 ?_
        rw [rounds_succ]
        go_wp2
        rw [rounds_succ]
        go_wp2
        rw [rounds_succ]
        go_wp2
        rw [rounds_succ]
        go_wp2
        go_region
        all_goals go_wp2
        all_goals
          exact bodyPost_ret (v := .tuple #[.agg #[.int .u8 B.r, .int .u8 B.g, .int .u8 B.b], .agg #[.int .u8 B.r, .int .u8 B.g, .int .u8 B.b]]) (by simp [results, Try.results45, go_sem, *]) rfl ⟨by rw [HCOL.out]; rfl, HK.out.drew⟩

set_option maxRecDepth 100000 in
set_option maxHeartbeats 8000000 in
theorem cols13_fin (a : Look) (w : World) (h2 : hasB a.fl 2 = true) (h32 : hasB a.fl 32 = true) (h64 : hasB a.fl 64 = false) :
    Calls Try.prog 45 #[lookV a] w (ColsPost a w) := by
  obtain ⟨fg, bg, fl⟩ := a
  have hcol : colors ⟨fg, bg, fl⟩ = (let F := colour fg true; let B := colour bg false; (⟨B.r, B.g, B.b⟩, ⟨(F.r / 2), (F.g / 2), (F.b / 2)⟩)) := by unfold colors; simp only [h2, h32, h64, if_true, if_false, Bool.false_eq_true, Rgb.half]
  obtain ⟨F, hF⟩ : ∃ F, colour fg true = F := ⟨_, rfl⟩
  obtain ⟨B, hB⟩ : ∃ B, colour bg false = B := ⟨_, rfl⟩
  have hFB := colour_isB fg true
  have hBB := colour_isB bg false
  rw [hF] at hFB
  rw [hB] at hBB
  simp only [hF, hB] at hcol
  obtain ⟨⟨F0, F1⟩, ⟨F2, F3⟩, F4, F5⟩ := hFB
  obtain ⟨⟨B0, B1⟩, ⟨B2, B3⟩, B4, B5⟩ := hBB
  have HF := Lib.hid (show ∀ w, Calls Try.prog 72 #[.int .i64 fg, .bool true] w fun e w' => e = .returned (.agg #[.int .u8 F.r, .int .u8 F.g, .int .u8 F.b]) ∧ Kept (fun _ => False) w w' from fun w => by have h := colr_any fg true w; rw [hF] at h; exact h)
  have HB := Lib.hid (show ∀ w, Calls Try.prog 72 #[.int .i64 bg, .bool false] w fun e w' => e = .returned (.agg #[.int .u8 B.r, .int .u8 B.g, .int .u8 B.b]) ∧ Kept (fun _ => False) w w' from fun w => by have h := colr_any bg false w; rw [hB] at h; exact h)
  have HCOL := Lib.hid hcol
  obtain ⟨z2, hz2⟩ : ∃ z, bits .and .i64 fl 2 = z := ⟨_, rfl⟩
  obtain ⟨z32, hz32⟩ : ∃ z, bits .and .i64 fl 32 = z := ⟨_, rfl⟩
  obtain ⟨z64, hz64⟩ : ∃ z, bits .and .i64 fl 64 = z := ⟨_, rfl⟩
  unfold hasB at h2 h32 h64
  simp only [hz2] at h2
  simp only [hz32] at h32
  simp only [hz64] at h64
  clear hF hB hcol
  obtain ⟨W, hW⟩ : ∃ W, ((w.alloc (.cells #[.int .i64 fg, .int .i64 bg, .int .i64 fl] 54)).alloc (.cells #[.int .u8 0, .int .u8 0, .int .u8 0] 96)).alloc (.cells #[.int .u8 0, .int .u8 0, .int .u8 0] 96) = W := ⟨_, rfl⟩
  have kW : Kept (fun _ => False) w W := by rw [← hW]; exact (((Kept.refl _ w).alloc _).alloc _).alloc _
  have bp0 : W.heap[w.heap.size]? = some (.cells #[.int .i64 fg, .int .i64 bg, .int .i64 fl] 54 (0, 0)) := by rw [← hW]; exact blk_alloc (blk_alloc (blk_new _ _) _) _
  have bf0 : W.heap[w.heap.size + 1]? = some (.cells #[.int .u8 0, .int .u8 0, .int .u8 0] 96 (0, 0)) := by rw [← hW]; exact blk_alloc (blk_at _ _ (by simp)) _
  have bb0 : W.heap[w.heap.size + 1 + 1]? = some (.cells #[.int .u8 0, .int .u8 0, .int .u8 0] 96 (0, 0)) := by rw [← hW]; exact blk_at _ _ (by simp)
  have HP := Lib.hid bp0
  have HF0 := Lib.hid bf0
  have HB0 := Lib.hid bb0
  have HKW := Lib.hid kW
  obtain ⟨⟨cp0a, fp0a⟩, ⟨cp0b, fp0b⟩, cp0c, fp0c⟩ := blk3 bp0
  clear kW bp0 bf0 bb0
  unfold lookV
  have hkp0 : Kept (fun _ => False) W W.drew := (Kept.refl _ _).drew
  go_enter Try.func45, Try.ntmps45
  go_wp2
  go_region_held3 (fun w' => w'.cell? ⟨w.heap.size, 0, none⟩ = some (.int .i64 fg) ∧ w'.cell? ⟨w.heap.size, 1, none⟩ = some (.int .i64 bg)) (first | ((go_keep; done)) | (go_split_ands; all_goals go_keep)) ((go_at_call 72; first
    | ((with_reducible refine Calls.mono (HF.out _) ?_); (rintro e w1 ⟨rfl, hk⟩); (have hkq := (show Kept (fun _ => False) W w1 from by first | exact hkq.then hk | exact hkp0.then hk)); clear hk; have kq := HKW.out.then hkq; have q0 := hkq.blk HP.out id; have q1 := hkq.blk HF0.out id; have q2 := hkq.blk HB0.out id; obtain ⟨⟨cp0a, fp0a⟩, ⟨cp0b, fp0b⟩, cp0c, fp0c⟩ := blk3 q0; obtain ⟨⟨cf0a, ff0a⟩, ⟨cf0b, ff0b⟩, cf0c, ff0c⟩ := blk3 q1; obtain ⟨⟨cb0a, fb0a⟩, ⟨cb0b, fb0b⟩, cb0c, fb0c⟩ := blk3 q2; obtain ⟨V1a, V1b, V1, e1a, e1b, e1c, ⟨x1a, y1a⟩, ⟨x1b, y1b⟩, ⟨x1c, y1c⟩, bf1, k1⟩ := store3 q1 (.int .u8 F.r) (.int .u8 F.g) (.int .u8 F.b); have bp1 := k1.blk q0 (fun (h : w.heap.size = w.heap.size + 1) => by omega); have bb1 := k1.blk q2 (fun (h : w.heap.size + 1 + 1 = w.heap.size + 1) => by omega); have K1 := kq.trans (k1.mono fun i _ hi => Or.inr (by have h9 : i = w.heap.size + 1 := hi; omega)); obtain ⟨⟨cp1a, fp1a⟩, ⟨cp1b, fp1b⟩, cp1c, fp1c⟩ := blk3 bp1; obtain ⟨⟨cf1a, ff1a⟩, ⟨cf1b, ff1b⟩, cf1c, ff1c⟩ := blk3 bf1; obtain ⟨⟨cb1a, fb1a⟩, ⟨cb1b, fb1b⟩, cb1c, fb1c⟩ := blk3 bb1; obtain ⟨V2a, V2b, V2, e2a, e2b, e2c, ⟨x2a, y2a⟩, ⟨x2b, y2b⟩, ⟨x2c, y2c⟩, bb2, k2⟩ := store3 bb1 (.int .u8 B.r) (.int .u8 B.g) (.int .u8 B.b); have bp2 := k2.blk bp1 (fun (h : w.heap.size = w.heap.size + 1 + 1) => by omega); have bf2 := k2.blk bf1 (fun (h : w.heap.size + 1 = w.heap.size + 1 + 1) => by omega); have K2 := K1.trans (k2.mono fun i _ hi => Or.inr (by have h9 : i = w.heap.size + 1 + 1 := hi; omega)); obtain ⟨⟨cp2a, fp2a⟩, ⟨cp2b, fp2b⟩, cp2c, fp2c⟩ := blk3 bp2; obtain ⟨⟨cf2a, ff2a⟩, ⟨cf2b, ff2b⟩, cf2c, ff2c⟩ := blk3 bf2; obtain ⟨⟨cb2a, fb2a⟩, ⟨cb2b, fb2b⟩, cb2c, fb2c⟩ := blk3 bb2; have HP2 := Lib.hid bp2; have HF2 := Lib.hid bf2; have HB2 := Lib.hid bb2; have HK2 := Lib.hid K2; clear bp1 bf1 bb1 bp2 bf2 bb2 k1 k2 K1 K2 q0 q1 q2 kq)
    | ((with_reducible refine Calls.mono (HB.out _) ?_); (rintro e w1 ⟨rfl, hk⟩); (have hkq := (show Kept (fun _ => False) W w1 from by first | exact hkq.then hk | exact hkp0.then hk)); clear hk; have kq := HKW.out.then hkq; have q0 := hkq.blk HP.out id; have q1 := hkq.blk HF0.out id; have q2 := hkq.blk HB0.out id; obtain ⟨⟨cp0a, fp0a⟩, ⟨cp0b, fp0b⟩, cp0c, fp0c⟩ := blk3 q0; obtain ⟨⟨cf0a, ff0a⟩, ⟨cf0b, ff0b⟩, cf0c, ff0c⟩ := blk3 q1; obtain ⟨⟨cb0a, fb0a⟩, ⟨cb0b, fb0b⟩, cb0c, fb0c⟩ := blk3 q2; obtain ⟨V1a, V1b, V1, e1a, e1b, e1c, ⟨x1a, y1a⟩, ⟨x1b, y1b⟩, ⟨x1c, y1c⟩, bf1, k1⟩ := store3 q1 (.int .u8 F.r) (.int .u8 F.g) (.int .u8 F.b); have bp1 := k1.blk q0 (fun (h : w.heap.size = w.heap.size + 1) => by omega); have bb1 := k1.blk q2 (fun (h : w.heap.size + 1 + 1 = w.heap.size + 1) => by omega); have K1 := kq.trans (k1.mono fun i _ hi => Or.inr (by have h9 : i = w.heap.size + 1 := hi; omega)); obtain ⟨⟨cp1a, fp1a⟩, ⟨cp1b, fp1b⟩, cp1c, fp1c⟩ := blk3 bp1; obtain ⟨⟨cf1a, ff1a⟩, ⟨cf1b, ff1b⟩, cf1c, ff1c⟩ := blk3 bf1; obtain ⟨⟨cb1a, fb1a⟩, ⟨cb1b, fb1b⟩, cb1c, fb1c⟩ := blk3 bb1; obtain ⟨V2a, V2b, V2, e2a, e2b, e2c, ⟨x2a, y2a⟩, ⟨x2b, y2b⟩, ⟨x2c, y2c⟩, bb2, k2⟩ := store3 bb1 (.int .u8 B.r) (.int .u8 B.g) (.int .u8 B.b); have bp2 := k2.blk bp1 (fun (h : w.heap.size = w.heap.size + 1 + 1) => by omega); have bf2 := k2.blk bf1 (fun (h : w.heap.size + 1 = w.heap.size + 1 + 1) => by omega); have K2 := K1.trans (k2.mono fun i _ hi => Or.inr (by have h9 : i = w.heap.size + 1 + 1 := hi; omega)); obtain ⟨⟨cp2a, fp2a⟩, ⟨cp2b, fp2b⟩, cp2c, fp2c⟩ := blk3 bp2; obtain ⟨⟨cf2a, ff2a⟩, ⟨cf2b, ff2b⟩, cf2c, ff2c⟩ := blk3 bf2; obtain ⟨⟨cb2a, fb2a⟩, ⟨cb2b, fb2b⟩, cb2c, fb2c⟩ := blk3 bb2; have HP2 := Lib.hid bp2; have HF2 := Lib.hid bf2; have HB2 := Lib.hid bb2; have HK2 := Lib.hid K2; clear bp1 bf1 bb1 bp2 bf2 bb2 k1 k2 K1 K2 q0 q1 q2 kq)))
  all_goals as_aux_lemma =>
    clear hkp0 hkq
    obtain ⟨V3, e3⟩ : ∃ V, V2.setCell ⟨w.heap.size + 1, 0, none⟩ (.int .u8 (F.r / 2)) = V := ⟨_, rfl⟩
    have bf3 : V3.heap[w.heap.size + 1]? = some (.cells #[.int .u8 (F.r / 2), .int .u8 F.g, .int .u8 F.b] 96 (0, 0)) := by rw [← e3]; exact blk_set HF2.out 0 _
    have k3 : Kept (fun i => i = w.heap.size + 1) V2 V3 := by rw [← e3]; exact (Kept.refl (fun i => i = w.heap.size + 1) _).setCell (p := ⟨w.heap.size + 1, 0, none⟩) (.inl rfl) _
    have bp3 := k3.blk HP2.out (fun (h : w.heap.size = w.heap.size + 1) => by omega)
    have bb3 := k3.blk HB2.out (fun (h : w.heap.size + 1 + 1 = w.heap.size + 1) => by omega)
    have K3 := HK2.out.trans (k3.mono fun i _ hi => Or.inr (by have h9 : i = w.heap.size + 1 := hi; omega))
    obtain ⟨⟨cp3a, fp3a⟩, ⟨cp3b, fp3b⟩, cp3c, fp3c⟩ := blk3 bp3
    obtain ⟨⟨cf3a, ff3a⟩, ⟨cf3b, ff3b⟩, cf3c, ff3c⟩ := blk3 bf3
    obtain ⟨⟨cb3a, fb3a⟩, ⟨cb3b, fb3b⟩, cb3c, fb3c⟩ := blk3 bb3
    obtain ⟨V4, e4⟩ : ∃ V, V3.setCell ⟨w.heap.size + 1, 1, none⟩ (.int .u8 (F.g / 2)) = V := ⟨_, rfl⟩
    have bf4 : V4.heap[w.heap.size + 1]? = some (.cells #[.int .u8 (F.r / 2), .int .u8 (F.g / 2), .int .u8 F.b] 96 (0, 0)) := by rw [← e4]; exact blk_set bf3 1 _
    have k4 : Kept (fun i => i = w.heap.size + 1) V3 V4 := by rw [← e4]; exact (Kept.refl (fun i => i = w.heap.size + 1) _).setCell (p := ⟨w.heap.size + 1, 1, none⟩) (.inl rfl) _
    have bp4 := k4.blk bp3 (fun (h : w.heap.size = w.heap.size + 1) => by omega)
    have bb4 := k4.blk bb3 (fun (h : w.heap.size + 1 + 1 = w.heap.size + 1) => by omega)
    have K4 := K3.trans (k4.mono fun i _ hi => Or.inr (by have h9 : i = w.heap.size + 1 := hi; omega))
    obtain ⟨⟨cp4a, fp4a⟩, ⟨cp4b, fp4b⟩, cp4c, fp4c⟩ := blk3 bp4
    obtain ⟨⟨cf4a, ff4a⟩, ⟨cf4b, ff4b⟩, cf4c, ff4c⟩ := blk3 bf4
    obtain ⟨⟨cb4a, fb4a⟩, ⟨cb4b, fb4b⟩, cb4c, fb4c⟩ := blk3 bb4
    obtain ⟨V5, e5⟩ : ∃ V, V4.setCell ⟨w.heap.size + 1, 2, none⟩ (.int .u8 (F.b / 2)) = V := ⟨_, rfl⟩
    have bf5 : V5.heap[w.heap.size + 1]? = some (.cells #[.int .u8 (F.r / 2), .int .u8 (F.g / 2), .int .u8 (F.b / 2)] 96 (0, 0)) := by rw [← e5]; exact blk_set bf4 2 _
    have k5 : Kept (fun i => i = w.heap.size + 1) V4 V5 := by rw [← e5]; exact (Kept.refl (fun i => i = w.heap.size + 1) _).setCell (p := ⟨w.heap.size + 1, 2, none⟩) (.inl rfl) _
    have bp5 := k5.blk bp4 (fun (h : w.heap.size = w.heap.size + 1) => by omega)
    have bb5 := k5.blk bb4 (fun (h : w.heap.size + 1 + 1 = w.heap.size + 1) => by omega)
    have K5 := K4.trans (k5.mono fun i _ hi => Or.inr (by have h9 : i = w.heap.size + 1 := hi; omega))
    obtain ⟨⟨cp5a, fp5a⟩, ⟨cp5b, fp5b⟩, cp5c, fp5c⟩ := blk3 bp5
    obtain ⟨⟨cf5a, ff5a⟩, ⟨cf5b, ff5b⟩, cf5c, ff5c⟩ := blk3 bf5
    obtain ⟨⟨cb5a, fb5a⟩, ⟨cb5b, fb5b⟩, cb5c, fb5c⟩ := blk3 bb5
    obtain ⟨V6a, V6b, V6, e6a, e6b, e6c, ⟨x6a, y6a⟩, ⟨x6b, y6b⟩, ⟨x6c, y6c⟩, bf6, k6⟩ := store3 bf5 (.int .u8 B.r) (.int .u8 B.g) (.int .u8 B.b)
    have bp6 := k6.blk bp5 (fun (h : w.heap.size = w.heap.size + 1) => by omega)
    have bb6 := k6.blk bb5 (fun (h : w.heap.size + 1 + 1 = w.heap.size + 1) => by omega)
    have K6 := K5.trans (k6.mono fun i _ hi => Or.inr (by have h9 : i = w.heap.size + 1 := hi; omega))
    obtain ⟨⟨cp6a, fp6a⟩, ⟨cp6b, fp6b⟩, cp6c, fp6c⟩ := blk3 bp6
    obtain ⟨⟨cf6a, ff6a⟩, ⟨cf6b, ff6b⟩, cf6c, ff6c⟩ := blk3 bf6
    obtain ⟨⟨cb6a, fb6a⟩, ⟨cb6b, fb6b⟩, cb6c, fb6c⟩ := blk3 bb6
    obtain ⟨V7a, V7b, V7, e7a, e7b, e7c, ⟨x7a, y7a⟩, ⟨x7b, y7b⟩, ⟨x7c, y7c⟩, bb7, k7⟩ := store3 bb6 (.int .u8 (F.r / 2)) (.int .u8 (F.g / 2)) (.int .u8 (F.b / 2))
    have bp7 := k7.blk bp6 (fun (h : w.heap.size = w.heap.size + 1 + 1) => by omega)
    have bf7 := k7.blk bf6 (fun (h : w.heap.size + 1 = w.heap.size + 1 + 1) => by omega)
    have K7 := K6.trans (k7.mono fun i _ hi => Or.inr (by have h9 : i = w.heap.size + 1 + 1 := hi; omega))
    obtain ⟨⟨cp7a, fp7a⟩, ⟨cp7b, fp7b⟩, cp7c, fp7c⟩ := blk3 bp7
    obtain ⟨⟨cf7a, ff7a⟩, ⟨cf7b, ff7b⟩, cf7c, ff7c⟩ := blk3 bf7
    obtain ⟨⟨cb7a, fb7a⟩, ⟨cb7b, fb7b⟩, cb7c, fb7c⟩ := blk3 bb7
    obtain ⟨V8a, V8b, V8, e8a, e8b, e8c, ⟨x8a, y8a⟩, ⟨x8b, y8b⟩, ⟨x8c, y8c⟩, bf8, k8⟩ := store3 bf7 (.int .u8 B.r) (.int .u8 B.g) (.int .u8 B.b)
    have bp8 := k8.blk bp7 (fun (h : w.heap.size = w.heap.size + 1) => by omega)
    have bb8 := k8.blk bb7 (fun (h : w.heap.size + 1 + 1 = w.heap.size + 1) => by omega)
    have K8 := K7.trans (k8.mono fun i _ hi => Or.inr (by have h9 : i = w.heap.size + 1 := hi; omega))
    obtain ⟨⟨cp8a, fp8a⟩, ⟨cp8b, fp8b⟩, cp8c, fp8c⟩ := blk3 bp8
    obtain ⟨⟨cf8a, ff8a⟩, ⟨cf8b, ff8b⟩, cf8c, ff8c⟩ := blk3 bf8
    obtain ⟨⟨cb8a, fb8a⟩, ⟨cb8b, fb8b⟩, cb8c, fb8c⟩ := blk3 bb8
    obtain ⟨V9a, V9b, V9, e9a, e9b, e9c, ⟨x9a, y9a⟩, ⟨x9b, y9b⟩, ⟨x9c, y9c⟩, bb9, k9⟩ := store3 bb8 (.int .u8 (F.r / 2)) (.int .u8 (F.g / 2)) (.int .u8 (F.b / 2))
    have bp9 := k9.blk bp8 (fun (h : w.heap.size = w.heap.size + 1 + 1) => by omega)
    have bf9 := k9.blk bf8 (fun (h : w.heap.size + 1 = w.heap.size + 1 + 1) => by omega)
    have K9 := K8.trans (k9.mono fun i _ hi => Or.inr (by have h9 : i = w.heap.size + 1 + 1 := hi; omega))
    obtain ⟨⟨cp9a, fp9a⟩, ⟨cp9b, fp9b⟩, cp9c, fp9c⟩ := blk3 bp9
    obtain ⟨⟨cf9a, ff9a⟩, ⟨cf9b, ff9b⟩, cf9c, ff9c⟩ := blk3 bf9
    obtain ⟨⟨cb9a, fb9a⟩, ⟨cb9b, fb9b⟩, cb9c, fb9c⟩ := blk3 bb9
    have HK := Lib.hid K9
    clear bp3  bf3  bb3  bp4  bf4  bb4  bp5  bf5  bb5  bp6  bf6  bb6  bp7  bf7  bb7  bp8  bf8  bb8  bp9  bf9  bb9 k3 K3 k4 K4 k5 K5 k6 K6 k7 K7 k8 K8 k9 K9
    go_wp2
    refine wp_loop_rounds 4 ?_
    rw [rounds_succ]
    go_wp2
    rw [rounds_succ]
    go_wp2
    rw [rounds_succ]
    go_wp2
    rw [rounds_succ]
    go_wp2
    go_region
    all_goals go_wp2
    all_goals
      exact bodyPost_ret (v := .tuple #[.agg #[.int .u8 B.r, .int .u8 B.g, .int .u8 B.b], .agg #[.int .u8 (F.r / 2), .int .u8 (F.g / 2), .int .u8 (F.b / 2)]]) (by simp [results, Try.results45, go_sem, *]) rfl ⟨by rw [HCOL.out]; rfl, HK.out.drew⟩

set_option maxRecDepth 100000 in
set_option maxHeartbeats 8000000 in
theorem cols13_fih (a : Look) (w : World) (h2 : hasB a.fl 2 = true) (h32 : hasB a.fl 32 = true) (h64 : hasB a.fl 64 = true) :
    Calls Try.prog 45 #[lookV a] w (ColsPost a w) := by
  obtain ⟨fg, bg, fl⟩ := a
  have hcol : colors ⟨fg, bg, fl⟩ = (let F := colour fg true; let B := colour bg false; (⟨(F.r / 2), (F.g / 2), (F.b / 2)⟩, ⟨(F.r / 2), (F.g / 2), (F.b / 2)⟩)) := by unfold colors; simp only [h2, h32, h64, if_true, if_false, Bool.false_eq_true, Rgb.half]
  obtain ⟨F, hF⟩ : ∃ F, colour fg true = F := ⟨_, rfl⟩
  obtain ⟨B, hB⟩ : ∃ B, colour bg false = B := ⟨_, rfl⟩
  have hFB := colour_isB fg true
  have hBB := colour_isB bg false
  rw [hF] at hFB
  rw [hB] at hBB
  simp only [hF, hB] at hcol
  obtain ⟨⟨F0, F1⟩, ⟨F2, F3⟩, F4, F5⟩ := hFB
  obtain ⟨⟨B0, B1⟩, ⟨B2, B3⟩, B4, B5⟩ := hBB
  have HF := Lib.hid (show ∀ w, Calls Try.prog 72 #[.int .i64 fg, .bool true] w fun e w' => e = .returned (.agg #[.int .u8 F.r, .int .u8 F.g, .int .u8 F.b]) ∧ Kept (fun _ => False) w w' from fun w => by have h := colr_any fg true w; rw [hF] at h; exact h)
  have HB := Lib.hid (show ∀ w, Calls Try.prog 72 #[.int .i64 bg, .bool false] w fun e w' => e = .returned (.agg #[.int .u8 B.r, .int .u8 B.g, .int .u8 B.b]) ∧ Kept (fun _ => False) w w' from fun w => by have h := colr_any bg false w; rw [hB] at h; exact h)
  have HCOL := Lib.hid hcol
  obtain ⟨z2, hz2⟩ : ∃ z, bits .and .i64 fl 2 = z := ⟨_, rfl⟩
  obtain ⟨z32, hz32⟩ : ∃ z, bits .and .i64 fl 32 = z := ⟨_, rfl⟩
  obtain ⟨z64, hz64⟩ : ∃ z, bits .and .i64 fl 64 = z := ⟨_, rfl⟩
  unfold hasB at h2 h32 h64
  simp only [hz2] at h2
  simp only [hz32] at h32
  simp only [hz64] at h64
  clear hF hB hcol
  obtain ⟨W, hW⟩ : ∃ W, ((w.alloc (.cells #[.int .i64 fg, .int .i64 bg, .int .i64 fl] 54)).alloc (.cells #[.int .u8 0, .int .u8 0, .int .u8 0] 96)).alloc (.cells #[.int .u8 0, .int .u8 0, .int .u8 0] 96) = W := ⟨_, rfl⟩
  have kW : Kept (fun _ => False) w W := by rw [← hW]; exact (((Kept.refl _ w).alloc _).alloc _).alloc _
  have bp0 : W.heap[w.heap.size]? = some (.cells #[.int .i64 fg, .int .i64 bg, .int .i64 fl] 54 (0, 0)) := by rw [← hW]; exact blk_alloc (blk_alloc (blk_new _ _) _) _
  have bf0 : W.heap[w.heap.size + 1]? = some (.cells #[.int .u8 0, .int .u8 0, .int .u8 0] 96 (0, 0)) := by rw [← hW]; exact blk_alloc (blk_at _ _ (by simp)) _
  have bb0 : W.heap[w.heap.size + 1 + 1]? = some (.cells #[.int .u8 0, .int .u8 0, .int .u8 0] 96 (0, 0)) := by rw [← hW]; exact blk_at _ _ (by simp)
  have HP := Lib.hid bp0
  have HF0 := Lib.hid bf0
  have HB0 := Lib.hid bb0
  have HKW := Lib.hid kW
  obtain ⟨⟨cp0a, fp0a⟩, ⟨cp0b, fp0b⟩, cp0c, fp0c⟩ := blk3 bp0
  clear kW bp0 bf0 bb0
  unfold lookV
  by_cases hq : B.r = (F.r / 2) ∧ B.g = (F.g / 2) ∧ B.b = (F.b / 2)
  · as_aux_lemma =>
      have HNE := fun w => (show (binOp .neq 96 (.agg #[.int .u8 B.r, .int .u8 B.g, .int .u8 B.b]) (.agg #[.int .u8 (F.r / 2), .int .u8 (F.g / 2), .int .u8 (F.b / 2)])).run Try.prog w = .ok (.bool false) w from by rw [run_neRgb]; simp [hq])
      have hqg := @run_eqGuard_agg Try.prog
      have HQ := Lib.hid hq
      clear hq
      have hkp0 : Kept (fun _ => False) W W.drew := (Kept.refl _ _).drew
      go_enter Try.func45, Try.ntmps45
      go_wp2
      go_region_held3 (fun w' => w'.cell? ⟨w.heap.size, 0, none⟩ = some (.int .i64 fg) ∧ w'.cell? ⟨w.heap.size, 1, none⟩ = some (.int .i64 bg)) (first | ((go_keep; done)) | (go_split_ands; all_goals go_keep)) ((go_at_call 72; first
        | ((with_reducible refine Calls.mono (HF.out _) ?_); (rintro e w1 ⟨rfl, hk⟩); (have hkq := (show Kept (fun _ => False) W w1 from by first | exact hkq.then hk | exact hkp0.then hk)); clear hk; have kq := HKW.out.then hkq; have q0 := hkq.blk HP.out id; have q1 := hkq.blk HF0.out id; have q2 := hkq.blk HB0.out id; obtain ⟨⟨cp0a, fp0a⟩, ⟨cp0b, fp0b⟩, cp0c, fp0c⟩ := blk3 q0; obtain ⟨⟨cf0a, ff0a⟩, ⟨cf0b, ff0b⟩, cf0c, ff0c⟩ := blk3 q1; obtain ⟨⟨cb0a, fb0a⟩, ⟨cb0b, fb0b⟩, cb0c, fb0c⟩ := blk3 q2; obtain ⟨V1a, V1b, V1, e1a, e1b, e1c, ⟨x1a, y1a⟩, ⟨x1b, y1b⟩, ⟨x1c, y1c⟩, bf1, k1⟩ := store3 q1 (.int .u8 F.r) (.int .u8 F.g) (.int .u8 F.b); have bp1 := k1.blk q0 (fun (h : w.heap.size = w.heap.size + 1) => by omega); have bb1 := k1.blk q2 (fun (h : w.heap.size + 1 + 1 = w.heap.size + 1) => by omega); have K1 := kq.trans (k1.mono fun i _ hi => Or.inr (by have h9 : i = w.heap.size + 1 := hi; omega)); obtain ⟨⟨cp1a, fp1a⟩, ⟨cp1b, fp1b⟩, cp1c, fp1c⟩ := blk3 bp1; obtain ⟨⟨cf1a, ff1a⟩, ⟨cf1b, ff1b⟩, cf1c, ff1c⟩ := blk3 bf1; obtain ⟨⟨cb1a, fb1a⟩, ⟨cb1b, fb1b⟩, cb1c, fb1c⟩ := blk3 bb1; obtain ⟨V2a, V2b, V2, e2a, e2b, e2c, ⟨x2a, y2a⟩, ⟨x2b, y2b⟩, ⟨x2c, y2c⟩, bb2, k2⟩ := store3 bb1 (.int .u8 B.r) (.int .u8 B.g) (.int .u8 B.b); have bp2 := k2.blk bp1 (fun (h : w.heap.size = w.heap.size + 1 + 1) => by omega); have bf2 := k2.blk bf1 (fun (h : w.heap.size + 1 = w.heap.size + 1 + 1) => by omega); have K2 := K1.trans (k2.mono fun i _ hi => Or.inr (by have h9 : i = w.heap.size + 1 + 1 := hi; omega)); obtain ⟨⟨cp2a, fp2a⟩, ⟨cp2b, fp2b⟩, cp2c, fp2c⟩ := blk3 bp2; obtain ⟨⟨cf2a, ff2a⟩, ⟨cf2b, ff2b⟩, cf2c, ff2c⟩ := blk3 bf2; obtain ⟨⟨cb2a, fb2a⟩, ⟨cb2b, fb2b⟩, cb2c, fb2c⟩ := blk3 bb2; have HP2 := Lib.hid bp2; have HF2 := Lib.hid bf2; have HB2 := Lib.hid bb2; have HK2 := Lib.hid K2; clear bp1 bf1 bb1 bp2 bf2 bb2 k1 k2 K1 K2 q0 q1 q2 kq)
        | ((with_reducible refine Calls.mono (HB.out _) ?_); (rintro e w1 ⟨rfl, hk⟩); (have hkq := (show Kept (fun _ => False) W w1 from by first | exact hkq.then hk | exact hkp0.then hk)); clear hk; have kq := HKW.out.then hkq; have q0 := hkq.blk HP.out id; have q1 := hkq.blk HF0.out id; have q2 := hkq.blk HB0.out id; obtain ⟨⟨cp0a, fp0a⟩, ⟨cp0b, fp0b⟩, cp0c, fp0c⟩ := blk3 q0; obtain ⟨⟨cf0a, ff0a⟩, ⟨cf0b, ff0b⟩, cf0c, ff0c⟩ := blk3 q1; obtain ⟨⟨cb0a, fb0a⟩, ⟨cb0b, fb0b⟩, cb0c, fb0c⟩ := blk3 q2; obtain ⟨V1a, V1b, V1, e1a, e1b, e1c, ⟨x1a, y1a⟩, ⟨x1b, y1b⟩, ⟨x1c, y1c⟩, bf1, k1⟩ := store3 q1 (.int .u8 F.r) (.int .u8 F.g) (.int .u8 F.b); have bp1 := k1.blk q0 (fun (h : w.heap.size = w.heap.size + 1) => by omega); have bb1 := k1.blk q2 (fun (h : w.heap.size + 1 + 1 = w.heap.size + 1) => by omega); have K1 := kq.trans (k1.mono fun i _ hi => Or.inr (by have h9 : i = w.heap.size + 1 := hi; omega)); obtain ⟨⟨cp1a, fp1a⟩, ⟨cp1b, fp1b⟩, cp1c, fp1c⟩ := blk3 bp1; obtain ⟨⟨cf1a, ff1a⟩, ⟨cf1b, ff1b⟩, cf1c, ff1c⟩ := blk3 bf1; obtain ⟨⟨cb1a, fb1a⟩, ⟨cb1b, fb1b⟩, cb1c, fb1c⟩ := blk3 bb1; obtain ⟨V2a, V2b, V2, e2a, e2b, e2c, ⟨x2a, y2a⟩, ⟨x2b, y2b⟩, ⟨x2c, y2c⟩, bb2, k2⟩ := store3 bb1 (.int .u8 B.r) (.int .u8 B.g) (.int .u8 B.b); have bp2 := k2.blk bp1 (fun (h : w.heap.size = w.heap.size + 1 + 1) => by omega); have bf2 := k2.blk bf1 (fun (h : w.heap.size + 1 = w.heap.size + 1 + 1) => by omega); have K2 := K1.trans (k2.mono fun i _ hi => Or.inr (by have h9 : i = w.heap.size + 1 + 1 := hi; omega)); obtain ⟨⟨cp2a, fp2a⟩, ⟨cp2b, fp2b⟩, cp2c, fp2c⟩ := blk3 bp2; obtain ⟨⟨cf2a, ff2a⟩, ⟨cf2b, ff2b⟩, cf2c, ff2c⟩ := blk3 bf2; obtain ⟨⟨cb2a, fb2a⟩, ⟨cb2b, fb2b⟩, cb2c, fb2c⟩ := blk3 bb2; have HP2 := Lib.hid bp2; have HF2 := Lib.hid bf2; have HB2 := Lib.hid bb2; have HK2 := Lib.hid K2; clear bp1 bf1 bb1 bp2 bf2 bb2 k1 k2 K1 K2 q0 q1 q2 kq)))
      all_goals as_aux_lemma =>
        clear hkp0 hkq
        obtain ⟨V3, e3⟩ : ∃ V, V2.setCell ⟨w.heap.size + 1, 0, none⟩ (.int .u8 (F.r / 2)) = V := ⟨_, rfl⟩
        have bf3 : V3.heap[w.heap.size + 1]? = some (.cells #[.int .u8 (F.r / 2), .int .u8 F.g, .int .u8 F.b] 96 (0, 0)) := by rw [← e3]; exact blk_set HF2.out 0 _
        have k3 : Kept (fun i => i = w.heap.size + 1) V2 V3 := by rw [← e3]; exact (Kept.refl (fun i => i = w.heap.size + 1) _).setCell (p := ⟨w.heap.size + 1, 0, none⟩) (.inl rfl) _
        have bp3 := k3.blk HP2.out (fun (h : w.heap.size = w.heap.size + 1) => by omega)
        have bb3 := k3.blk HB2.out (fun (h : w.heap.size + 1 + 1 = w.heap.size + 1) => by omega)
        have K3 := HK2.out.trans (k3.mono fun i _ hi => Or.inr (by have h9 : i = w.heap.size + 1 := hi; omega))
        obtain ⟨⟨cp3a, fp3a⟩, ⟨cp3b, fp3b⟩, cp3c, fp3c⟩ := blk3 bp3
        obtain ⟨⟨cf3a, ff3a⟩, ⟨cf3b, ff3b⟩, cf3c, ff3c⟩ := blk3 bf3
        obtain ⟨⟨cb3a, fb3a⟩, ⟨cb3b, fb3b⟩, cb3c, fb3c⟩ := blk3 bb3
        obtain ⟨V4, e4⟩ : ∃ V, V3.setCell ⟨w.heap.size + 1, 1, none⟩ (.int .u8 (F.g / 2)) = V := ⟨_, rfl⟩
        have bf4 : V4.heap[w.heap.size + 1]? = some (.cells #[.int .u8 (F.r / 2), .int .u8 (F.g / 2), .int .u8 F.b] 96 (0, 0)) := by rw [← e4]; exact blk_set bf3 1 _
        have k4 : Kept (fun i => i = w.heap.size + 1) V3 V4 := by rw [← e4]; exact (Kept.refl (fun i => i = w.heap.size + 1) _).setCell (p := ⟨w.heap.size + 1, 1, none⟩) (.inl rfl) _
        have bp4 := k4.blk bp3 (fun (h : w.heap.size = w.heap.size + 1) => by omega)
        have bb4 := k4.blk bb3 (fun (h : w.heap.size + 1 + 1 = w.heap.size + 1) => by omega)
        have K4 := K3.trans (k4.mono fun i _ hi => Or.inr (by have h9 : i = w.heap.size + 1 := hi; omega))
        obtain ⟨⟨cp4a, fp4a⟩, ⟨cp4b, fp4b⟩, cp4c, fp4c⟩ := blk3 bp4
        obtain ⟨⟨cf4a, ff4a⟩, ⟨cf4b, ff4b⟩, cf4c, ff4c⟩ := blk3 bf4
        obtain ⟨⟨cb4a, fb4a⟩, ⟨cb4b, fb4b⟩, cb4c, fb4c⟩ := blk3 bb4
        obtain ⟨V5, e5⟩ : ∃ V, V4.setCell ⟨w.heap.size + 1, 2, none⟩ (.int .u8 (F.b / 2)) = V := ⟨_, rfl⟩
        have bf5 : V5.heap[w.heap.size + 1]? = some (.cells #[.int .u8 (F.r / 2), .int .u8 (F.g / 2), .int .u8 (F.b / 2)] 96 (0, 0)) := by rw [← e5]; exact blk_set bf4 2 _
        have k5 : Kept (fun i => i = w.heap.size + 1) V4 V5 := by rw [← e5]; exact (Kept.refl (fun i => i = w.heap.size + 1) _).setCell (p := ⟨w.heap.size + 1, 2, none⟩) (.inl rfl) _
        have bp5 := k5.blk bp4 (fun (h : w.heap.size = w.heap.size + 1) => by omega)
        have bb5 := k5.blk bb4 (fun (h : w.heap.size + 1 + 1 = w.heap.size + 1) => by omega)
        have K5 := K4.trans (k5.mono fun i _ hi => Or.inr (by have h9 : i = w.heap.size + 1 := hi; omega))
        obtain ⟨⟨cp5a, fp5a⟩, ⟨cp5b, fp5b⟩, cp5c, fp5c⟩ := blk3 bp5
        obtain ⟨⟨cf5a, ff5a⟩, ⟨cf5b, ff5b⟩, cf5c, ff5c⟩ := blk3 bf5
        obtain ⟨⟨cb5a, fb5a⟩, ⟨cb5b, fb5b⟩, cb5c, fb5c⟩ := blk3 bb5
        obtain ⟨V6a, V6b, V6, e6a, e6b, e6c, ⟨x6a, y6a⟩, ⟨x6b, y6b⟩, ⟨x6c, y6c⟩, bf6, k6⟩ := store3 bf5 (.int .u8 B.r) (.int .u8 B.g) (.int .u8 B.b)
        have bp6 := k6.blk bp5 (fun (h : w.heap.size = w.heap.size + 1) => by omega)
        have bb6 := k6.blk bb5 (fun (h : w.heap.size + 1 + 1 = w.heap.size + 1) => by omega)
        have K6 := K5.trans (k6.mono fun i _ hi => Or.inr (by have h9 : i = w.heap.size + 1 := hi; omega))
        obtain ⟨⟨cp6a, fp6a⟩, ⟨cp6b, fp6b⟩, cp6c, fp6c⟩ := blk3 bp6
        obtain ⟨⟨cf6a, ff6a⟩, ⟨cf6b, ff6b⟩, cf6c, ff6c⟩ := blk3 bf6
        obtain ⟨⟨cb6a, fb6a⟩, ⟨cb6b, fb6b⟩, cb6c, fb6c⟩ := blk3 bb6
        obtain ⟨V7a, V7b, V7, e7a, e7b, e7c, ⟨x7a, y7a⟩, ⟨x7b, y7b⟩, ⟨x7c, y7c⟩, bb7, k7⟩ := store3 bb6 (.int .u8 (F.r / 2)) (.int .u8 (F.g / 2)) (.int .u8 (F.b / 2))
        have bp7 := k7.blk bp6 (fun (h : w.heap.size = w.heap.size + 1 + 1) => by omega)
        have bf7 := k7.blk bf6 (fun (h : w.heap.size + 1 = w.heap.size + 1 + 1) => by omega)
        have K7 := K6.trans (k7.mono fun i _ hi => Or.inr (by have h9 : i = w.heap.size + 1 + 1 := hi; omega))
        obtain ⟨⟨cp7a, fp7a⟩, ⟨cp7b, fp7b⟩, cp7c, fp7c⟩ := blk3 bp7
        obtain ⟨⟨cf7a, ff7a⟩, ⟨cf7b, ff7b⟩, cf7c, ff7c⟩ := blk3 bf7
        obtain ⟨⟨cb7a, fb7a⟩, ⟨cb7b, fb7b⟩, cb7c, fb7c⟩ := blk3 bb7
        obtain ⟨V8a, V8b, V8, e8a, e8b, e8c, ⟨x8a, y8a⟩, ⟨x8b, y8b⟩, ⟨x8c, y8c⟩, bf8, k8⟩ := store3 bf7 (.int .u8 B.r) (.int .u8 B.g) (.int .u8 B.b)
        have bp8 := k8.blk bp7 (fun (h : w.heap.size = w.heap.size + 1) => by omega)
        have bb8 := k8.blk bb7 (fun (h : w.heap.size + 1 + 1 = w.heap.size + 1) => by omega)
        have K8 := K7.trans (k8.mono fun i _ hi => Or.inr (by have h9 : i = w.heap.size + 1 := hi; omega))
        obtain ⟨⟨cp8a, fp8a⟩, ⟨cp8b, fp8b⟩, cp8c, fp8c⟩ := blk3 bp8
        obtain ⟨⟨cf8a, ff8a⟩, ⟨cf8b, ff8b⟩, cf8c, ff8c⟩ := blk3 bf8
        obtain ⟨⟨cb8a, fb8a⟩, ⟨cb8b, fb8b⟩, cb8c, fb8c⟩ := blk3 bb8
        obtain ⟨V9a, V9b, V9, e9a, e9b, e9c, ⟨x9a, y9a⟩, ⟨x9b, y9b⟩, ⟨x9c, y9c⟩, bb9, k9⟩ := store3 bb8 (.int .u8 (F.r / 2)) (.int .u8 (F.g / 2)) (.int .u8 (F.b / 2))
        have bp9 := k9.blk bp8 (fun (h : w.heap.size = w.heap.size + 1 + 1) => by omega)
        have bf9 := k9.blk bf8 (fun (h : w.heap.size + 1 = w.heap.size + 1 + 1) => by omega)
        have K9 := K8.trans (k9.mono fun i _ hi => Or.inr (by have h9 : i = w.heap.size + 1 + 1 := hi; omega))
        obtain ⟨⟨cp9a, fp9a⟩, ⟨cp9b, fp9b⟩, cp9c, fp9c⟩ := blk3 bp9
        obtain ⟨⟨cf9a, ff9a⟩, ⟨cf9b, ff9b⟩, cf9c, ff9c⟩ := blk3 bf9
        obtain ⟨⟨cb9a, fb9a⟩, ⟨cb9b, fb9b⟩, cb9c, fb9c⟩ := blk3 bb9
        have HK := Lib.hid K9
        clear bp3  bf3  bb3  bp4  bf4  bb4  bp5  bf5  bb5  bp6  bf6  bb6  bp7  bf7  bb7  bp8  bf8  bb8  bp9  bf9  bb9 k3 K3 k4 K4 k5 K5 k6 K6 k7 K7 k8 K8 k9 K9
        go_wp2
        refine wp_loop_rounds 4 ?_
        rw [rounds_succ]
        go_wp2
        rw [rounds_succ]
        go_wp2
        rw [rounds_succ]
        go_wp2
        rw [rounds_succ]
        go_wp2
        go_region
        all_goals go_wp2
        all_goals
          exact bodyPost_ret (v := .tuple #[.agg #[.int .u8 B.r, .int .u8 B.g, .int .u8 B.b], .agg #[.int .u8 (F.r / 2), .int .u8 (F.g / 2), .int .u8 (F.b / 2)]]) (by simp [results, Try.results45, go_sem, *]) rfl ⟨by rw [HCOL.out]; obtain ⟨q1, q2, q3⟩ := HQ.out; simp [rgbV, q1, q2, q3], HK.out.drew⟩
  · as_aux_lemma =>
      have HNE := fun w => (show (binOp .neq 96 (.agg #[.int .u8 B.r, .int .u8 B.g, .int .u8 B.b]) (.agg #[.int .u8 (F.r / 2), .int .u8 (F.g / 2), .int .u8 (F.b / 2)])).run Try.prog w = .ok (.bool true) w from by rw [run_neRgb]; simp; omega)
      have hqg := @run_eqGuard_agg Try.prog
      have HQ := Lib.hid hq
      clear hq
      have hkp0 : Kept (fun _ => False) W W.drew := (Kept.refl _ _).drew
      go_enter Try.func45, Try.ntmps45
      go_wp2
      go_region_held3 (fun w' => w'.cell? ⟨w.heap.size, 0, none⟩ = some (.int .i64 fg) ∧ w'.cell? ⟨w.heap.size, 1, none⟩ = some (.int .i64 bg)) (first | ((go_keep; done)) | (go_split_ands; all_goals go_keep)) ((go_at_call 72; first
        | ((with_reducible refine Calls.mono (HF.out _) ?_); (rintro e w1 ⟨rfl, hk⟩); (have hkq := (show Kept (fun _ => False) W w1 from by first | exact hkq.then hk | exact hkp0.then hk)); clear hk; have kq := HKW.out.then hkq; have q0 := hkq.blk HP.out id; have q1 := hkq.blk HF0.out id; have q2 := hkq.blk HB0.out id; obtain ⟨⟨cp0a, fp0a⟩, ⟨cp0b, fp0b⟩, cp0c, fp0c⟩ := blk3 q0; obtain ⟨⟨cf0a, ff0a⟩, ⟨cf0b, ff0b⟩, cf0c, ff0c⟩ := blk3 q1; obtain ⟨⟨cb0a, fb0a⟩, ⟨cb0b, fb0b⟩, cb0c, fb0c⟩ := blk3 q2; obtain ⟨V1a, V1b, V1, e1a, e1b, e1c, ⟨x1a, y1a⟩, ⟨x1b, y1b⟩, ⟨x1c, y1c⟩, bf1, k1⟩ := store3 q1 (.int .u8 F.r) (.int .u8 F.g) (.int .u8 F.b); have bp1 := k1.blk q0 (fun (h : w.heap.size = w.heap.size + 1) => by omega); have bb1 := k1.blk q2 (fun (h : w.heap.size + 1 + 1 = w.heap.size + 1) => by omega); have K1 := kq.trans (k1.mono fun i _ hi => Or.inr (by have h9 : i = w.heap.size + 1 := hi; omega)); obtain ⟨⟨cp1a, fp1a⟩, ⟨cp1b, fp1b⟩, cp1c, fp1c⟩ := blk3 bp1; obtain ⟨⟨cf1a, ff1a⟩, ⟨cf1b, ff1b⟩, cf1c, ff1c⟩ := blk3 bf1; obtain ⟨⟨cb1a, fb1a⟩, ⟨cb1b, fb1b⟩, cb1c, fb1c⟩ := blk3 bb1; obtain ⟨V2a, V2b, V2, e2a, e2b, e2c, ⟨x2a, y2a⟩, ⟨x2b, y2b⟩, ⟨x2c, y2c⟩, bb2, k2⟩ := store3 bb1 (.int .u8 B.r) (.int .u8 B.g) (.int .u8 B.b); have bp2 := k2.blk bp1 (fun (h : w.heap.size = w.heap.size + 1 + 1) => by omega); have bf2 := k2.blk bf1 (fun (h : w.heap.size + 1 = w.heap.size + 1 + 1) => by omega); have K2 := K1.trans (k2.mono fun i _ hi => Or.inr (by have h9 : i = w.heap.size + 1 + 1 := hi; omega)); obtain ⟨⟨cp2a, fp2a⟩, ⟨cp2b, fp2b⟩, cp2c, fp2c⟩ := blk3 bp2; obtain ⟨⟨cf2a, ff2a⟩, ⟨cf2b, ff2b⟩, cf2c, ff2c⟩ := blk3 bf2; obtain ⟨⟨cb2a, fb2a⟩, ⟨cb2b, fb2b⟩, cb2c, fb2c⟩ := blk3 bb2; have HP2 := Lib.hid bp2; have HF2 := Lib.hid bf2; have HB2 := Lib.hid bb2; have HK2 := Lib.hid K2; clear bp1 bf1 bb1 bp2 bf2 bb2 k1 k2 K1 K2 q0 q1 q2 kq)
        | ((with_reducible refine Calls.mono (HB.out _) ?_); (rintro e w1 ⟨rfl, hk⟩); (have hkq := (show Kept (fun _ => False) W w1 from by first | exact hkq.then hk | exact hkp0.then hk)); clear hk; have kq := HKW.out.then hkq; have q0 := hkq.blk HP.out id; have q1 := hkq.blk HF0.out id; have q2 := hkq.blk HB0.out id; obtain ⟨⟨cp0a, fp0a⟩, ⟨cp0b, fp0b⟩, cp0c, fp0c⟩ := blk3 q0; obtain ⟨⟨cf0a, ff0a⟩, ⟨cf0b, ff0b⟩, cf0c, ff0c⟩ := blk3 q1; obtain ⟨⟨cb0a, fb0a⟩, ⟨cb0b, fb0b⟩, cb0c, fb0c⟩ := blk3 q2; obtain ⟨V1a, V1b, V1, e1a, e1b, e1c, ⟨x1a, y1a⟩, ⟨x1b, y1b⟩, ⟨x1c, y1c⟩, bf1, k1⟩ := store3 q1 (.int .u8 F.r) (.int .u8 F.g) (.int .u8 F.b); have bp1 := k1.blk q0 (fun (h : w.heap.size = w.heap.size + 1) => by omega); have bb1 := k1.blk q2 (fun (h : w.heap.size + 1 + 1 = w.heap.size + 1) => by omega); have K1 := kq.trans (k1.mono fun i _ hi => Or.inr (by have h9 : i = w.heap.size + 1 := hi; omega)); obtain ⟨⟨cp1a, fp1a⟩, ⟨cp1b, fp1b⟩, cp1c, fp1c⟩ := blk3 bp1; obtain ⟨⟨cf1a, ff1a⟩, ⟨cf1b, ff1b⟩, cf1c, ff1c⟩ := blk3 bf1; obtain ⟨⟨cb1a, fb1a⟩, ⟨cb1b, fb1b⟩, cb1c, fb1c⟩ := blk3 bb1; obtain ⟨V2a, V2b, V2, e2a, e2b, e2c, ⟨x2a, y2a⟩, ⟨x2b, y2b⟩, ⟨x2c, y2c⟩, bb2, k2⟩ := store3 bb1 (.int .u8 B.r) (.int .u8 B.g) (.int .u8 B.b); have bp2 := k2.blk bp1 (fun (h : w.heap.size = w.heap.size + 1 + 1) => by omega); have bf2 := k2.blk bf1 (fun (h : w.heap.size + 1 = w.heap.size + 1 + 1) => by omega); have K2 := K1.trans (k2.mono fun i _ hi => Or.inr (by have h9 : i = w.heap.size + 1 + 1 := hi; omega)); obtain ⟨⟨cp2a, fp2a⟩, ⟨cp2b, fp2b⟩, cp2c, fp2c⟩ := blk3 bp2; obtain ⟨⟨cf2a, ff2a⟩, ⟨cf2b, ff2b⟩, cf2c, ff2c⟩ := blk3 bf2; obtain ⟨⟨cb2a, fb2a⟩, ⟨cb2b, fb2b⟩, cb2c, fb2c⟩ := blk3 bb2; have HP2 := Lib.hid bp2; have HF2 := Lib.hid bf2; have HB2 := Lib.hid bb2; have HK2 := Lib.hid K2; clear bp1 bf1 bb1 bp2 bf2 bb2 k1 k2 K1 K2 q0 q1 q2 kq)))
      all_goals as_aux_lemma =>
        clear hkp0 hkq
        obtain ⟨V3, e3⟩ : ∃ V, V2.setCell ⟨w.heap.size + 1, 0, none⟩ (.int .u8 (F.r / 2)) = V := ⟨_, rfl⟩
        have bf3 : V3.heap[w.heap.size + 1]? = some (.cells #[.int .u8 (F.r / 2), .int .u8 F.g, .int .u8 F.b] 96 (0, 0)) := by rw [← e3]; exact blk_set HF2.out 0 _
        have k3 : Kept (fun i => i = w.heap.size + 1) V2 V3 := by rw [← e3]; exact (Kept.refl (fun i => i = w.heap.size + 1) _).setCell (p := ⟨w.heap.size + 1, 0, none⟩) (.inl rfl) _
        have bp3 := k3.blk HP2.out (fun (h : w.heap.size = w.heap.size + 1) => by omega)
        have bb3 := k3.blk HB2.out (fun (h : w.heap.size + 1 + 1 = w.heap.size + 1) => by omega)
        have K3 := HK2.out.trans (k3.mono fun i _ hi => Or.inr (by have h9 : i = w.heap.size + 1 := hi; omega))
        obtain ⟨⟨cp3a, fp3a⟩, ⟨cp3b, fp3b⟩, cp3c, fp3c⟩ := blk3 bp3
        obtain ⟨⟨cf3a, ff3a⟩, ⟨cf3b, ff3b⟩, cf3c, ff3c⟩ := blk3 bf3
        obtain ⟨⟨cb3a, fb3a⟩, ⟨cb3b, fb3b⟩, cb3c, fb3c⟩ := blk3 bb3
        obtain ⟨V4, e4⟩ : ∃ V, V3.setCell ⟨w.heap.size + 1, 1, none⟩ (.int .u8 (F.g / 2)) = V := ⟨_, rfl⟩
        have bf4 : V4.heap[w.heap.size + 1]? = some (.cells #[.int .u8 (F.r / 2), .int .u8 (F.g / 2), .int .u8 F.b] 96 (0, 0)) := by rw [← e4]; exact blk_set bf3 1 _
        have k4 : Kept (fun i => i = w.heap.size + 1) V3 V4 := by rw [← e4]; exact (Kept.refl (fun i => i = w.heap.size + 1) _).setCell (p := ⟨w.heap.size + 1, 1, none⟩) (.inl rfl) _
        have bp4 := k4.blk bp3 (fun (h : w.heap.size = w.heap.size + 1) => by omega)
        have bb4 := k4.blk bb3 (fun (h : w.heap.size + 1 + 1 = w.heap.size + 1) => by omega)
        have K4 := K3.trans (k4.mono fun i _ hi => Or.inr (by have h9 : i = w.heap.size + 1 := hi; omega))
        obtain ⟨⟨cp4a, fp4a⟩, ⟨cp4b, fp4b⟩, cp4c, fp4c⟩ := blk3 bp4
        obtain ⟨⟨cf4a, ff4a⟩, ⟨cf4b, ff4b⟩, cf4c, ff4c⟩ := blk3 bf4
        obtain ⟨⟨cb4a, fb4a⟩, ⟨cb4b, fb4b⟩, cb4c, fb4c⟩ := blk3 bb4
        obtain ⟨V5, e5⟩ : ∃ V, V4.setCell ⟨w.heap.size + 1, 2, none⟩ (.int .u8 (F.b / 2)) = V := ⟨_, rfl⟩
        have bf5 : V5.heap[w.heap.size + 1]? = some (.cells #[.int .u8 (F.r / 2), .int .u8 (F.g / 2), .int .u8 (F.b / 2)] 96 (0, 0)) := by rw [← e5]; exact blk_set bf4 2 _
        have k5 : Kept (fun i => i = w.heap.size + 1) V4 V5 := by rw [← e5]; exact (Kept.refl (fun i => i = w.heap.size + 1) _).setCell (p := ⟨w.heap.size + 1, 2, none⟩) (.inl rfl) _
        have bp5 := k5.blk bp4 (fun (h : w.heap.size = w.heap.size + 1) => by omega)
        have bb5 := k5.blk bb4 (fun (h : w.heap.size + 1 + 1 = w.heap.size + 1) => by omega)
        have K5 := K4.trans (k5.mono fun i _ hi => Or.inr (by have h9 : i = w.heap.size + 1 := hi; omega))
        obtain ⟨⟨cp5a, fp5a⟩, ⟨cp5b, fp5b⟩, cp5c, fp5c⟩ := blk3 bp5
        obtain ⟨⟨cf5a, ff5a⟩, ⟨cf5b, ff5b⟩, cf5c, ff5c⟩ := blk3 bf5
        obtain ⟨⟨cb5a, fb5a⟩, ⟨cb5b, fb5b⟩, cb5c, fb5c⟩ := blk3 bb5
        obtain ⟨V6a, V6b, V6, e6a, e6b, e6c, ⟨x6a, y6a⟩, ⟨x6b, y6b⟩, ⟨x6c, y6c⟩, bf6, k6⟩ := store3 bf5 (.int .u8 B.r) (.int .u8 B.g) (.int .u8 B.b)
        have bp6 := k6.blk bp5 (fun (h : w.heap.size = w.heap.size + 1) => by omega)
        have bb6 := k6.blk bb5 (fun (h : w.heap.size + 1 + 1 = w.heap.size + 1) => by omega)
        have K6 := K5.trans (k6.mono fun i _ hi => Or.inr (by have h9 : i = w.heap.size + 1 := hi; omega))
        obtain ⟨⟨cp6a, fp6a⟩, ⟨cp6b, fp6b⟩, cp6c, fp6c⟩ := blk3 bp6
        obtain ⟨⟨cf6a, ff6a⟩, ⟨cf6b, ff6b⟩, cf6c, ff6c⟩ := blk3 bf6
        obtain ⟨⟨cb6a, fb6a⟩, ⟨cb6b, fb6b⟩, cb6c, fb6c⟩ := blk3 bb6
        obtain ⟨V7a, V7b, V7, e7a, e7b, e7c, ⟨x7a, y7a⟩, ⟨x7b, y7b⟩, ⟨x7c, y7c⟩, bb7, k7⟩ := store3 bb6 (.int .u8 (F.r / 2)) (.int .u8 (F.g / 2)) (.int .u8 (F.b / 2))
        have bp7 := k7.blk bp6 (fun (h : w.heap.size = w.heap.size + 1 + 1) => by omega)
        have bf7 := k7.blk bf6 (fun (h : w.heap.size + 1 = w.heap.size + 1 + 1) => by omega)
        have K7 := K6.trans (k7.mono fun i _ hi => Or.inr (by have h9 : i = w.heap.size + 1 + 1 := hi; omega))
        obtain ⟨⟨cp7a, fp7a⟩, ⟨cp7b, fp7b⟩, cp7c, fp7c⟩ := blk3 bp7
        obtain ⟨⟨cf7a, ff7a⟩, ⟨cf7b, ff7b⟩, cf7c, ff7c⟩ := blk3 bf7
        obtain ⟨⟨cb7a, fb7a⟩, ⟨cb7b, fb7b⟩, cb7c, fb7c⟩ := blk3 bb7
        obtain ⟨V8a, V8b, V8, e8a, e8b, e8c, ⟨x8a, y8a⟩, ⟨x8b, y8b⟩, ⟨x8c, y8c⟩, bf8, k8⟩ := store3 bf7 (.int .u8 (F.r / 2)) (.int .u8 (F.g / 2)) (.int .u8 (F.b / 2))
        have bp8 := k8.blk bp7 (fun (h : w.heap.size = w.heap.size + 1) => by omega)
        have bb8 := k8.blk bb7 (fun (h : w.heap.size + 1 + 1 = w.heap.size + 1) => by omega)
        have K8 := K7.trans (k8.mono fun i _ hi => Or.inr (by have h9 : i = w.heap.size + 1 := hi; omega))
        obtain ⟨⟨cp8a, fp8a⟩, ⟨cp8b, fp8b⟩, cp8c, fp8c⟩ := blk3 bp8
        obtain ⟨⟨cf8a, ff8a⟩, ⟨cf8b, ff8b⟩, cf8c, ff8c⟩ := blk3 bf8
        obtain ⟨⟨cb8a, fb8a⟩, ⟨cb8b, fb8b⟩, cb8c, fb8c⟩ := blk3 bb8
        obtain ⟨V9a, V9b, V9, e9a, e9b, e9c, ⟨x9a, y9a⟩, ⟨x9b, y9b⟩, ⟨x9c, y9c⟩, bf9, k9⟩ := store3 bf8 (.int .u8 (F.r / 2)) (.int .u8 (F.g / 2)) (.int .u8 (F.b / 2))
        have bp9 := k9.blk bp8 (fun (h : w.heap.size = w.heap.size + 1) => by omega)
        have bb9 := k9.blk bb8 (fun (h : w.heap.size + 1 + 1 = w.heap.size + 1) => by omega)
        have K9 := K8.trans (k9.mono fun i _ hi => Or.inr (by have h9 : i = w.heap.size + 1 := hi; omega))
        obtain ⟨⟨cp9a, fp9a⟩, ⟨cp9b, fp9b⟩, cp9c, fp9c⟩ := blk3 bp9
        obtain ⟨⟨cf9a, ff9a⟩, ⟨cf9b, ff9b⟩, cf9c, ff9c⟩ := blk3 bf9
        obtain ⟨⟨cb9a, fb9a⟩, ⟨cb9b, fb9b⟩, cb9c, fb9c⟩ := blk3 bb9
        obtain ⟨V10a, V10b, V10, e10a, e10b, e10c, ⟨x10a, y10a⟩, ⟨x10b, y10b⟩, ⟨x10c, y10c⟩, bb10, k10⟩ := store3 bb9 (.int .u8 (F.r / 2)) (.int .u8 (F.g / 2)) (.int .u8 (F.b / 2))
        have bp10 := k10.blk bp9 (fun (h : w.heap.size = w.heap.size + 1 + 1) => by omega)
        have bf10 := k10.blk bf9 (fun (h : w.heap.size + 1 = w.heap.size + 1 + 1) => by omega)
        have K10 := K9.trans (k10.mono fun i _ hi => Or.inr (by have h9 : i = w.heap.size + 1 + 1 := hi; omega))
        obtain ⟨⟨cp10a, fp10a⟩, ⟨cp10b, fp10b⟩, cp10c, fp10c⟩ := blk3 bp10
        obtain ⟨⟨cf10a, ff10a⟩, ⟨cf10b, ff10b⟩, cf10c, ff10c⟩ := blk3 bf10
        obtain ⟨⟨cb10a, fb10a⟩, ⟨cb10b, fb10b⟩, cb10c, fb10c⟩ := blk3 bb10
        have HK := Lib.hid K10
        clear bp3  bf3  bb3  bp4  bf4  bb4  bp5  bf5  bb5  bp6  bf6  bb6  bp7  bf7  bb7  bp8  bf8  bb8  bp9  bf9  bb9  bp10  bf10  bb10 k3 K3 k4 K4 k5 K5 k6 K6 k7 K7 k8 K8 k9 K9 k10 K10
        go_wp2
        refine wp_loop_rounds 4 ?_
        rw [rounds_succ]
        go_wp2
        rw [rounds_succ]
        go_wp2
        rw [rounds_succ]
        go_wp2
        rw [rounds_succ]
        go_wp2
        go_region
        all_goals go_wp2
        all_goals
          exact bodyPost_ret (v := .tuple #[.agg #[.int .u8 (F.r / 2), .int .u8 (F.g / 2), .int .u8 (F.b / 2)], .agg #[.int .u8 (F.r / 2), .int .u8 (F.g / 2), .int .u8 (F.b / 2)]]) (by simp [results, Try.results45, go_sem, *]) rfl ⟨by rw [HCOL.out]; rfl, HK.out.drew⟩

theorem cols_any (a : Look) (w : World) : Calls Try.prog 45 #[lookV a] w (ColsPost a w) := by
  cases h2 : hasB a.fl 2 <;> cases h32 : hasB a.fl 32 <;> cases h64 : hasB a.fl 64
  · exact cols13_nnn a w h2 h32 h64
  · exact cols13_nnh a w h2 h32 h64
  · exact cols13_nin a w h2 h32 h64
  · exact cols13_nih a w h2 h32 h64
  · exact cols13_fnn a w h2 h32 h64
  · exact cols13_fnh a w h2 h32 h64
  · exact cols13_fin a w h2 h32 h64
  · exact cols13_fih a w h2 h32 h64

theorem rcols_any (a : Look) (w : World) : Calls Try.prog 36 #[lookV a] w (ColsPost a w) := by
  cases h2 : hasB a.fl 2 <;> cases h32 : hasB a.fl 32 <;> cases h64 : hasB a.fl 64
  · exact cols14_nnn a w h2 h32 h64
  · exact cols14_nnh a w h2 h32 h64
  · exact cols14_nin a w h2 h32 h64
  · exact cols14_nih a w h2 h32 h64
  · exact cols14_fnn a w h2 h32 h64
  · exact cols14_fnh a w h2 h32 h64
  · exact cols14_fin a w h2 h32 h64
  · exact cols14_fih a w h2 h32 h64

end Go.Proofs.Ytdjgmhbfohbenaa
