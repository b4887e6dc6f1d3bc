/- The colours of an attribute: both sides. -/
import Derived.Test.YtmplpcmcbliadaaGreatDoorBx7
import Derived.RegionTactic
import Derived.Deep.RegionHeld3
set_option linter.unusedVariables false
set_option linter.unusedSimpArgs false
namespace Go.Proofs.YtmplpcmcbliadaaGreatDoor
open Go.RowKit Pl
namespace Pl
def Rgb.half (c : Rgb) : Rgb := ⟨c.r / 2, c.g / 2, c.b / 2⟩
def hasB (fl k : Int) : Bool := bits .and .i64 fl k != 0
def colors (a : Look) : Rgb × Rgb :=
 let f0 := colour a.fg true
 let b0 := colour a.bg false
 let f1 := if hasB a.fl 2 = true then f0.half else f0
 let x := if hasB a.fl 32 = true then (b0, f1) else (f1, b0)
 if hasB a.fl 64 = true then (x.2, x.2) else x
end Pl
theorem stF {w V : World} {a0 a1 a2 f0 f1 f2 b0 b1 b2 : Value} (hp : V.heap[w.heap.size]? = some (.cells #[a0, a1, a2] 53 (0, 0))) (hf : V.heap[w.heap.size + 1]? = some (.cells #[f0, f1, f2] 210 (0, 0))) (hb : V.heap[w.heap.size + 1 + 1]? = some (.cells #[b0, b1, b2] 210 (0, 0))) (K : Kept (fun _ => False) w V) (x y z : Value) :
  ∃ V1 V2 V3, V.setCell ⟨w.heap.size + 1, 0, none⟩ x = V1 /\ V1.setCell ⟨w.heap.size + 1, 1, none⟩ y = V2 /\ V2.setCell ⟨w.heap.size + 1, 2, none⟩ z = V3 /\ (V.cell? ⟨w.heap.size + 1, 0, none⟩ = some f0 /\ V.frozen? ⟨w.heap.size + 1, 0, none⟩ = false) /\ (V1.cell? ⟨w.heap.size + 1, 1, none⟩ = some f1 /\ V1.frozen? ⟨w.heap.size + 1, 1, none⟩ = false) /\ (V2.cell? ⟨w.heap.size + 1, 2, none⟩ = some f2 /\ V2.frozen? ⟨w.heap.size + 1, 2, none⟩ = false) /\ V3.heap[w.heap.size]? = some (.cells #[a0, a1, a2] 53 (0, 0)) /\ V3.heap[w.heap.size + 1]? = some (.cells #[x, y, z] 210 (0, 0)) /\ V3.heap[w.heap.size + 1 + 1]? = some (.cells #[b0, b1, b2] 210 (0, 0)) /\ Kept (fun _ => False) w V3 /\ True /\ ((V3.cell? ⟨w.heap.size, 0, none⟩ = some a0 /\ V3.frozen? ⟨w.heap.size, 0, none⟩ = false) /\ (V3.cell? ⟨w.heap.size, 1, none⟩ = some a1 /\ V3.frozen? ⟨w.heap.size, 1, none⟩ = false) /\ (V3.cell? ⟨w.heap.size, 2, none⟩ = some a2 /\ V3.frozen? ⟨w.heap.size, 2, none⟩ = false)) /\ ((V3.cell? ⟨w.heap.size + 1, 0, none⟩ = some x /\ V3.frozen? ⟨w.heap.size + 1, 0, none⟩ = false) /\ (V3.cell? ⟨w.heap.size + 1, 1, none⟩ = some y /\ V3.frozen? ⟨w.heap.size + 1, 1, none⟩ = false) /\ (V3.cell? ⟨w.heap.size + 1, 2, none⟩ = some z /\ V3.frozen? ⟨w.heap.size + 1, 2, none⟩ = false)) /\ (V3.cell? ⟨w.heap.size + 1 + 1, 0, none⟩ = some b0 /\ V3.frozen? ⟨w.heap.size + 1 + 1, 0, none⟩ = false) /\ (V3.cell? ⟨w.heap.size + 1 + 1, 1, none⟩ = some b1 /\ V3.frozen? ⟨w.heap.size + 1 + 1, 1, none⟩ = false) /\ (V3.cell? ⟨w.heap.size + 1 + 1, 2, none⟩ = some b2 /\ V3.frozen? ⟨w.heap.size + 1 + 1, 2, none⟩ = false) := by
 obtain ⟨V1, V2, V3, e1, e2, e3, x1, x2, x3, bn, k⟩ := store3 hf x y z
 have b1 := k.blk hp (fun (h : w.heap.size = w.heap.size + 1) => by omega)
 have b2 := k.blk hb (fun (h : w.heap.size + 1 + 1 = w.heap.size + 1) => by omega)
 exact ⟨V1, V2, V3, e1, e2, e3, x1, x2, x3, b1, bn, b2, K.trans (k.mono fun i _ hi => Or.inr (by have h9 : i = w.heap.size + 1 := hi; omega)), trivial, blk3 b1, blk3 bn, blk3 b2⟩
theorem stB {w V : World} {a0 a1 a2 f0 f1 f2 b0 b1 b2 : Value} (hp : V.heap[w.heap.size]? = some (.cells #[a0, a1, a2] 53 (0, 0))) (hf : V.heap[w.heap.size + 1]? = some (.cells #[f0, f1, f2] 210 (0, 0))) (hb : V.heap[w.heap.size + 1 + 1]? = some (.cells #[b0, b1, b2] 210 (0, 0))) (K : Kept (fun _ => False) w V) (x y z : Value) :
  ∃ V1 V2 V3, V.setCell ⟨w.heap.size + 1 + 1, 0, none⟩ x = V1 /\ V1.setCell ⟨w.heap.size + 1 + 1, 1, none⟩ y = V2 /\ V2.setCell ⟨w.heap.size + 1 + 1, 2, none⟩ z = V3 /\ (V.cell? ⟨w.heap.size + 1 + 1, 0, none⟩ = some b0 /\ V.frozen? ⟨w.heap.size + 1 + 1, 0, none⟩ = false) /\ (V1.cell? ⟨w.heap.size + 1 + 1, 1, none⟩ = some b1 /\ V1.frozen? ⟨w.heap.size + 1 + 1, 1, none⟩ = false) /\ (V2.cell? ⟨w.heap.size + 1 + 1, 2, none⟩ = some b2 /\ V2.frozen? ⟨w.heap.size + 1 + 1, 2, none⟩ = false) /\ V3.heap[w.heap.size]? = some (.cells #[a0, a1, a2] 53 (0, 0)) /\ V3.heap[w.heap.size + 1]? = some (.cells #[f0, f1, f2] 210 (0, 0)) /\ V3.heap[w.heap.size + 1 + 1]? = some (.cells #[x, y, z] 210 (0, 0)) /\ Kept (fun _ => False) w V3 /\ True /\ ((V3.cell? ⟨w.heap.size, 0, none⟩ = some a0 /\ V3.frozen? ⟨w.heap.size, 0, none⟩ = false) /\ (V3.cell? ⟨w.heap.size, 1, none⟩ = some a1 /\ V3.frozen? ⟨w.heap.size, 1, none⟩ = false) /\ (V3.cell? ⟨w.heap.size, 2, none⟩ = some a2 /\ V3.frozen? ⟨w.heap.size, 2, none⟩ = false)) /\ ((V3.cell? ⟨w.heap.size + 1, 0, none⟩ = some f0 /\ V3.frozen? ⟨w.heap.size + 1, 0, none⟩ = false) /\ (V3.cell? ⟨w.heap.size + 1, 1, none⟩ = some f1 /\ V3.frozen? ⟨w.heap.size + 1, 1, none⟩ = false) /\ (V3.cell? ⟨w.heap.size + 1, 2, none⟩ = some f2 /\ V3.frozen? ⟨w.heap.size + 1, 2, none⟩ = false)) /\ (V3.cell? ⟨w.heap.size + 1 + 1, 0, none⟩ = some x /\ V3.frozen? ⟨w.heap.size + 1 + 1, 0, none⟩ = false) /\ (V3.cell? ⟨w.heap.size + 1 + 1, 1, none⟩ = some y /\ V3.frozen? ⟨w.heap.size + 1 + 1, 1, none⟩ = false) /\ (V3.cell? ⟨w.heap.size + 1 + 1, 2, none⟩ = some z /\ V3.frozen? ⟨w.heap.size + 1 + 1, 2, none⟩ = false) := by
 obtain ⟨V1, V2, V3, e1, e2, e3, x1, x2, x3, bn, k⟩ := store3 hb x y z
 have b1 := k.blk hp (fun (h : w.heap.size = w.heap.size + 1 + 1) => by omega)
 have b2 := k.blk hf (fun (h : w.heap.size + 1 = w.heap.size + 1 + 1) => by omega)
 exact ⟨V1, V2, V3, e1, e2, e3, x1, x2, x3, b1, b2, bn, K.trans (k.mono fun i _ hi => Or.inr (by have h9 : i = w.heap.size + 1 + 1 := hi; omega)), trivial, blk3 b1, blk3 b2, blk3 bn⟩
def ColsPost (a : Look) (w : World) (e : Ending) (w' : World) : Prop := e = .returned (.tuple #[rgbV (colors a).1, rgbV (colors a).2]) /\ Kept (fun _ => False) w w'
set_option maxRecDepth 100000 in
set_option maxHeartbeats 8000000 in
theorem cols13_nnn (a : Look) (w : World) (h2 : hasB a.fl 2 = false) (h32 : hasB a.fl 32 = false) (h64 : hasB a.fl 64 = false) :
  Calls Tryz.prog 538 #[lookV a] w (ColsPost a w) := by
 obtain ⟨fg, bg, fl⟩ := a
 have hcol : colors ⟨fg, bg, fl⟩ = (let F := colour fg true; let B := colour bg false; (⟨F.r, F.g, F.b⟩, ⟨B.r, B.g, B.b⟩)) := by unfold colors; simp only [h2, h32, h64, if_true, if_false, Bool.false_eq_true, Rgb.half]
 obtain ⟨F, hF⟩ : ∃ F, colour fg true = F := ⟨_, rfl⟩
 obtain ⟨B, hB⟩ : ∃ B, colour bg false = B := ⟨_, rfl⟩
 have hFB := colour_isB fg true
 have hBB := colour_isB bg false
 rw [hF] at hFB
 rw [hB] at hBB
 simp only [hF, hB] at hcol
 obtain ⟨⟨F0, F1⟩, ⟨F2, F3⟩, F4, F5⟩ := hFB
 obtain ⟨⟨B0, B1⟩, ⟨B2, B3⟩, B4, B5⟩ := hBB
 have HF := Lib.hid (show ∀ w, Calls Tryz.prog 542 #[.int .i64 fg, .bool true] w fun e w' => e = .returned (.agg #[.int .u8 F.r, .int .u8 F.g, .int .u8 F.b]) /\ Kept (fun _ => False) w w' from fun w => by have h := colr_any fg true w; rw [hF] at h; exact h)
 have HB := Lib.hid (show ∀ w, Calls Tryz.prog 542 #[.int .i64 bg, .bool false] w fun e w' => e = .returned (.agg #[.int .u8 B.r, .int .u8 B.g, .int .u8 B.b]) /\ Kept (fun _ => False) w w' from fun w => by have h := colr_any bg false w; rw [hB] at h; exact h)
 have HCOL := Lib.hid hcol
 obtain ⟨z2, hz2⟩ : ∃ z, bits .and .i64 fl 2 = z := ⟨_, rfl⟩
 obtain ⟨z32, hz32⟩ : ∃ z, bits .and .i64 fl 32 = z := ⟨_, rfl⟩
 obtain ⟨z64, hz64⟩ : ∃ z, bits .and .i64 fl 64 = z := ⟨_, rfl⟩
 unfold hasB at h2 h32 h64
 simp only [hz2] at h2
 simp only [hz32] at h32
 simp only [hz64] at h64
 clear hF hB hcol
 obtain ⟨W, hW⟩ : ∃ W, ((w.alloc (.cells #[.int .i64 fg, .int .i64 bg, .int .i64 fl] 53)).alloc (.cells #[.int .u8 0, .int .u8 0, .int .u8 0] 210)).alloc (.cells #[.int .u8 0, .int .u8 0, .int .u8 0] 210) = W := ⟨_, rfl⟩
 have kW : Kept (fun _ => False) w W := by rw [<- hW]; exact (((Kept.refl _ w).alloc _).alloc _).alloc _
 have bp0 : W.heap[w.heap.size]? = some (.cells #[.int .i64 fg, .int .i64 bg, .int .i64 fl] 53 (0, 0)) := by rw [<- hW]; exact blk_alloc (blk_alloc (blk_new _ _) _) _
 have bf0 : W.heap[w.heap.size + 1]? = some (.cells #[.int .u8 0, .int .u8 0, .int .u8 0] 210 (0, 0)) := by rw [<- hW]; exact blk_alloc (blk_at _ _ (by simp)) _
 have bb0 : W.heap[w.heap.size + 1 + 1]? = some (.cells #[.int .u8 0, .int .u8 0, .int .u8 0] 210 (0, 0)) := by rw [<- hW]; exact blk_at _ _ (by simp)
 have HP := Lib.hid bp0
 have HF0 := Lib.hid bf0
 have HB0 := Lib.hid bb0
 have HKW := Lib.hid kW
 obtain ⟨⟨cp0a, fp0a⟩, ⟨cp0b, fp0b⟩, cp0c, fp0c⟩ := blk3 bp0
 clear kW bp0 bf0 bb0
 unfold lookV
 have hkp0 : Kept (fun _ => False) W W.drew := (Kept.refl _ _).drew
 go_enter Tryz.func538, Tryz.ntmps538
 go_wp2
 go_region_held3 (fun w' => w'.cell? ⟨w.heap.size, 0, none⟩ = some (.int .i64 fg) /\ w'.cell? ⟨w.heap.size, 1, none⟩ = some (.int .i64 bg)) (first | ((go_keep; done)) | (go_split_ands; all_goals go_keep)) ((go_at_call 542; first
  | ((with_reducible refine Calls.mono (HF.out _) ?_); (rintro e w1 ⟨rfl, hk⟩); (have hkq := (show Kept (fun _ => False) W w1 from by first | exact hkq.then hk | exact hkp0.then hk)); clear hk; have kq := HKW.out.then hkq; have q0 := hkq.blk HP.out id; have q1 := hkq.blk HF0.out id; have q2 := hkq.blk HB0.out id; obtain ⟨⟨cp0a, fp0a⟩, ⟨cp0b, fp0b⟩, cp0c, fp0c⟩ := blk3 q0; obtain ⟨⟨cf0a, ff0a⟩, ⟨cf0b, ff0b⟩, cf0c, ff0c⟩ := blk3 q1; obtain ⟨⟨cb0a, fb0a⟩, ⟨cb0b, fb0b⟩, cb0c, fb0c⟩ := blk3 q2; obtain ⟨V1a, V1b, V1, e1a, e1b, e1c, ⟨x1a, y1a⟩, ⟨x1b, y1b⟩, ⟨x1c, y1c⟩, bp1, bf1, bb1, K1, k1, ⟨⟨cp1a, fp1a⟩, ⟨cp1b, fp1b⟩, cp1c, fp1c⟩, ⟨⟨cf1a, ff1a⟩, ⟨cf1b, ff1b⟩, cf1c, ff1c⟩, ⟨cb1a, fb1a⟩, ⟨cb1b, fb1b⟩, cb1c, fb1c⟩ := stF q0 q1 q2 kq (.int .u8 F.r) (.int .u8 F.g) (.int .u8 F.b); obtain ⟨V2a, V2b, V2, e2a, e2b, e2c, ⟨x2a, y2a⟩, ⟨x2b, y2b⟩, ⟨x2c, y2c⟩, bp2, bf2, bb2, K2, k2, ⟨⟨cp2a, fp2a⟩, ⟨cp2b, fp2b⟩, cp2c, fp2c⟩, ⟨⟨cf2a, ff2a⟩, ⟨cf2b, ff2b⟩, cf2c, ff2c⟩, ⟨cb2a, fb2a⟩, ⟨cb2b, fb2b⟩, cb2c, fb2c⟩ := stB bp1 bf1 bb1 K1 (.int .u8 B.r) (.int .u8 B.g) (.int .u8 B.b); have HP2 := Lib.hid bp2; have HF2 := Lib.hid bf2; have HB2 := Lib.hid bb2; have HK2 := Lib.hid K2; clear bp1 bf1 bb1 bp2 bf2 bb2 k1 k2 K1 K2 q0 q1 q2 kq)
  | ((with_reducible refine Calls.mono (HB.out _) ?_); (rintro e w1 ⟨rfl, hk⟩); (have hkq := (show Kept (fun _ => False) W w1 from by first | exact hkq.then hk | exact hkp0.then hk)); clear hk; have kq := HKW.out.then hkq; have q0 := hkq.blk HP.out id; have q1 := hkq.blk HF0.out id; have q2 := hkq.blk HB0.out id; obtain ⟨⟨cp0a, fp0a⟩, ⟨cp0b, fp0b⟩, cp0c, fp0c⟩ := blk3 q0; obtain ⟨⟨cf0a, ff0a⟩, ⟨cf0b, ff0b⟩, cf0c, ff0c⟩ := blk3 q1; obtain ⟨⟨cb0a, fb0a⟩, ⟨cb0b, fb0b⟩, cb0c, fb0c⟩ := blk3 q2; obtain ⟨V1a, V1b, V1, e1a, e1b, e1c, ⟨x1a, y1a⟩, ⟨x1b, y1b⟩, ⟨x1c, y1c⟩, bp1, bf1, bb1, K1, k1, ⟨⟨cp1a, fp1a⟩, ⟨cp1b, fp1b⟩, cp1c, fp1c⟩, ⟨⟨cf1a, ff1a⟩, ⟨cf1b, ff1b⟩, cf1c, ff1c⟩, ⟨cb1a, fb1a⟩, ⟨cb1b, fb1b⟩, cb1c, fb1c⟩ := stF q0 q1 q2 kq (.int .u8 F.r) (.int .u8 F.g) (.int .u8 F.b); obtain ⟨V2a, V2b, V2, e2a, e2b, e2c, ⟨x2a, y2a⟩, ⟨x2b, y2b⟩, ⟨x2c, y2c⟩, bp2, bf2, bb2, K2, k2, ⟨⟨cp2a, fp2a⟩, ⟨cp2b, fp2b⟩, cp2c, fp2c⟩, ⟨⟨cf2a, ff2a⟩, ⟨cf2b, ff2b⟩, cf2c, ff2c⟩, ⟨cb2a, fb2a⟩, ⟨cb2b, fb2b⟩, cb2c, fb2c⟩ := stB bp1 bf1 bb1 K1 (.int .u8 B.r) (.int .u8 B.g) (.int .u8 B.b); have HP2 := Lib.hid bp2; have HF2 := Lib.hid bf2; have HB2 := Lib.hid bb2; have HK2 := Lib.hid K2; clear bp1 bf1 bb1 bp2 bf2 bb2 k1 k2 K1 K2 q0 q1 q2 kq)))
 all_goals as_aux_lemma =>
  clear hkp0 hkq
  obtain ⟨V3a, V3b, V3, e3a, e3b, e3c, ⟨x3a, y3a⟩, ⟨x3b, y3b⟩, ⟨x3c, y3c⟩, bp3, bf3, bb3, K3, k3, ⟨⟨cp3a, fp3a⟩, ⟨cp3b, fp3b⟩, cp3c, fp3c⟩, ⟨⟨cf3a, ff3a⟩, ⟨cf3b, ff3b⟩, cf3c, ff3c⟩, ⟨cb3a, fb3a⟩, ⟨cb3b, fb3b⟩, cb3c, fb3c⟩ := stF HP2.out HF2.out HB2.out HK2.out (.int .u8 F.r) (.int .u8 F.g) (.int .u8 F.b)
  obtain ⟨V4a, V4b, V4, e4a, e4b, e4c, ⟨x4a, y4a⟩, ⟨x4b, y4b⟩, ⟨x4c, y4c⟩, bp4, bf4, bb4, K4, k4, ⟨⟨cp4a, fp4a⟩, ⟨cp4b, fp4b⟩, cp4c, fp4c⟩, ⟨⟨cf4a, ff4a⟩, ⟨cf4b, ff4b⟩, cf4c, ff4c⟩, ⟨cb4a, fb4a⟩, ⟨cb4b, fb4b⟩, cb4c, fb4c⟩ := stB bp3 bf3 bb3 K3 (.int .u8 B.r) (.int .u8 B.g) (.int .u8 B.b)
  have HK := Lib.hid K4
  clear bp3  bf3  bb3  bp4  bf4  bb4 k3 K3 k4 K4
  go_wp2
  go_region
  all_goals go_wp2
  all_goals
   exact bodyPost_ret (v := .tuple #[.agg #[.int .u8 F.r, .int .u8 F.g, .int .u8 F.b], .agg #[.int .u8 B.r, .int .u8 B.g, .int .u8 B.b]]) (by simp [results, Tryz.results538, go_sem, *]) rfl ⟨by rw [HCOL.out]; rfl, HK.out.drew⟩
set_option maxRecDepth 100000 in
set_option maxHeartbeats 8000000 in
theorem cols13_nnh (a : Look) (w : World) (h2 : hasB a.fl 2 = false) (h32 : hasB a.fl 32 = false) (h64 : hasB a.fl 64 = true) :
  Calls Tryz.prog 538 #[lookV a] w (ColsPost a w) := by
 obtain ⟨fg, bg, fl⟩ := a
 have hcol : colors ⟨fg, bg, fl⟩ = (let F := colour fg true; let B := colour bg false; (⟨B.r, B.g, B.b⟩, ⟨B.r, B.g, B.b⟩)) := by unfold colors; simp only [h2, h32, h64, if_true, if_false, Bool.false_eq_true, Rgb.half]
 obtain ⟨F, hF⟩ : ∃ F, colour fg true = F := ⟨_, rfl⟩
 obtain ⟨B, hB⟩ : ∃ B, colour bg false = B := ⟨_, rfl⟩
 have hFB := colour_isB fg true
 have hBB := colour_isB bg false
 rw [hF] at hFB
 rw [hB] at hBB
 simp only [hF, hB] at hcol
 obtain ⟨⟨F0, F1⟩, ⟨F2, F3⟩, F4, F5⟩ := hFB
 obtain ⟨⟨B0, B1⟩, ⟨B2, B3⟩, B4, B5⟩ := hBB
 have HF := Lib.hid (show ∀ w, Calls Tryz.prog 542 #[.int .i64 fg, .bool true] w fun e w' => e = .returned (.agg #[.int .u8 F.r, .int .u8 F.g, .int .u8 F.b]) /\ Kept (fun _ => False) w w' from fun w => by have h := colr_any fg true w; rw [hF] at h; exact h)
 have HB := Lib.hid (show ∀ w, Calls Tryz.prog 542 #[.int .i64 bg, .bool false] w fun e w' => e = .returned (.agg #[.int .u8 B.r, .int .u8 B.g, .int .u8 B.b]) /\ Kept (fun _ => False) w w' from fun w => by have h := colr_any bg false w; rw [hB] at h; exact h)
 have HCOL := Lib.hid hcol
 obtain ⟨z2, hz2⟩ : ∃ z, bits .and .i64 fl 2 = z := ⟨_, rfl⟩
 obtain ⟨z32, hz32⟩ : ∃ z, bits .and .i64 fl 32 = z := ⟨_, rfl⟩
 obtain ⟨z64, hz64⟩ : ∃ z, bits .and .i64 fl 64 = z := ⟨_, rfl⟩
 unfold hasB at h2 h32 h64
 simp only [hz2] at h2
 simp only [hz32] at h32
 simp only [hz64] at h64
 clear hF hB hcol
 obtain ⟨W, hW⟩ : ∃ W, ((w.alloc (.cells #[.int .i64 fg, .int .i64 bg, .int .i64 fl] 53)).alloc (.cells #[.int .u8 0, .int .u8 0, .int .u8 0] 210)).alloc (.cells #[.int .u8 0, .int .u8 0, .int .u8 0] 210) = W := ⟨_, rfl⟩
 have kW : Kept (fun _ => False) w W := by rw [<- hW]; exact (((Kept.refl _ w).alloc _).alloc _).alloc _
 have bp0 : W.heap[w.heap.size]? = some (.cells #[.int .i64 fg, .int .i64 bg, .int .i64 fl] 53 (0, 0)) := by rw [<- hW]; exact blk_alloc (blk_alloc (blk_new _ _) _) _
 have bf0 : W.heap[w.heap.size + 1]? = some (.cells #[.int .u8 0, .int .u8 0, .int .u8 0] 210 (0, 0)) := by rw [<- hW]; exact blk_alloc (blk_at _ _ (by simp)) _
 have bb0 : W.heap[w.heap.size + 1 + 1]? = some (.cells #[.int .u8 0, .int .u8 0, .int .u8 0] 210 (0, 0)) := by rw [<- hW]; exact blk_at _ _ (by simp)
 have HP := Lib.hid bp0
 have HF0 := Lib.hid bf0
 have HB0 := Lib.hid bb0
 have HKW := Lib.hid kW
 obtain ⟨⟨cp0a, fp0a⟩, ⟨cp0b, fp0b⟩, cp0c, fp0c⟩ := blk3 bp0
 clear kW bp0 bf0 bb0
 unfold lookV
 by_cases hq : F.r = B.r /\ F.g = B.g /\ F.b = B.b
 ·as_aux_lemma =>
   have HNE := fun w => (show (binOp .neq 210 (.agg #[.int .u8 F.r, .int .u8 F.g, .int .u8 F.b]) (.agg #[.int .u8 B.r, .int .u8 B.g, .int .u8 B.b])).run Tryz.prog w = .ok (.bool false) w from by rw [run_neRgb]; simp [hq])
   have hqg := @run_eqGuard_agg Tryz.prog
   have HQ := Lib.hid hq
   clear hq
   have hkp0 : Kept (fun _ => False) W W.drew := (Kept.refl _ _).drew
   go_enter Tryz.func538, Tryz.ntmps538
   go_wp2
   go_region_held3 (fun w' => w'.cell? ⟨w.heap.size, 0, none⟩ = some (.int .i64 fg) /\ w'.cell? ⟨w.heap.size, 1, none⟩ = some (.int .i64 bg)) (first | ((go_keep; done)) | (go_split_ands; all_goals go_keep)) ((go_at_call 542; first
    | ((with_reducible refine Calls.mono (HF.out _) ?_); (rintro e w1 ⟨rfl, hk⟩); (have hkq := (show Kept (fun _ => False) W w1 from by first | exact hkq.then hk | exact hkp0.then hk)); clear hk; have kq := HKW.out.then hkq; have q0 := hkq.blk HP.out id; have q1 := hkq.blk HF0.out id; have q2 := hkq.blk HB0.out id; obtain ⟨⟨cp0a, fp0a⟩, ⟨cp0b, fp0b⟩, cp0c, fp0c⟩ := blk3 q0; obtain ⟨⟨cf0a, ff0a⟩, ⟨cf0b, ff0b⟩, cf0c, ff0c⟩ := blk3 q1; obtain ⟨⟨cb0a, fb0a⟩, ⟨cb0b, fb0b⟩, cb0c, fb0c⟩ := blk3 q2; obtain ⟨V1a, V1b, V1, e1a, e1b, e1c, ⟨x1a, y1a⟩, ⟨x1b, y1b⟩, ⟨x1c, y1c⟩, bp1, bf1, bb1, K1, k1, ⟨⟨cp1a, fp1a⟩, ⟨cp1b, fp1b⟩, cp1c, fp1c⟩, ⟨⟨cf1a, ff1a⟩, ⟨cf1b, ff1b⟩, cf1c, ff1c⟩, ⟨cb1a, fb1a⟩, ⟨cb1b, fb1b⟩, cb1c, fb1c⟩ := stF q0 q1 q2 kq (.int .u8 F.r) (.int .u8 F.g) (.int .u8 F.b); obtain ⟨V2a, V2b, V2, e2a, e2b, e2c, ⟨x2a, y2a⟩, ⟨x2b, y2b⟩, ⟨x2c, y2c⟩, bp2, bf2, bb2, K2, k2, ⟨⟨cp2a, fp2a⟩, ⟨cp2b, fp2b⟩, cp2c, fp2c⟩, ⟨⟨cf2a, ff2a⟩, ⟨cf2b, ff2b⟩, cf2c, ff2c⟩, ⟨cb2a, fb2a⟩, ⟨cb2b, fb2b⟩, cb2c, fb2c⟩ := stB bp1 bf1 bb1 K1 (.int .u8 B.r) (.int .u8 B.g) (.int .u8 B.b); have HP2 := Lib.hid bp2; have HF2 := Lib.hid bf2; have HB2 := Lib.hid bb2; have HK2 := Lib.hid K2; clear bp1 bf1 bb1 bp2 bf2 bb2 k1 k2 K1 K2 q0 q1 q2 kq)
    | ((with_reducible refine Calls.mono (HB.out _) ?_); (rintro e w1 ⟨rfl, hk⟩); (have hkq := (show Kept (fun _ => False) W w1 from by first | exact hkq.then hk | exact hkp0.then hk)); clear hk; have kq := HKW.out.then hkq; have q0 := hkq.blk HP.out id; have q1 := hkq.blk HF0.out id; have q2 := hkq.blk HB0.out id; obtain ⟨⟨cp0a, fp0a⟩, ⟨cp0b, fp0b⟩, cp0c, fp0c⟩ := blk3 q0; obtain ⟨⟨cf0a, ff0a⟩, ⟨cf0b, ff0b⟩, cf0c, ff0c⟩ := blk3 q1; obtain ⟨⟨cb0a, fb0a⟩, ⟨cb0b, fb0b⟩, cb0c, fb0c⟩ := blk3 q2; obtain ⟨V1a, V1b, V1, e1a, e1b, e1c, ⟨x1a, y1a⟩, ⟨x1b, y1b⟩, ⟨x1c, y1c⟩, bp1, bf1, bb1, K1, k1, ⟨⟨cp1a, fp1a⟩, ⟨cp1b, fp1b⟩, cp1c, fp1c⟩, ⟨⟨cf1a, ff1a⟩, ⟨cf1b, ff1b⟩, cf1c, ff1c⟩, ⟨cb1a, fb1a⟩, ⟨cb1b, fb1b⟩, cb1c, fb1c⟩ := stF q0 q1 q2 kq (.int .u8 F.r) (.int .u8 F.g) (.int .u8 F.b); obtain ⟨V2a, V2b, V2, e2a, e2b, e2c, ⟨x2a, y2a⟩, ⟨x2b, y2b⟩, ⟨x2c, y2c⟩, bp2, bf2, bb2, K2, k2, ⟨⟨cp2a, fp2a⟩, ⟨cp2b, fp2b⟩, cp2c, fp2c⟩, ⟨⟨cf2a, ff2a⟩, ⟨cf2b, ff2b⟩, cf2c, ff2c⟩, ⟨cb2a, fb2a⟩, ⟨cb2b, fb2b⟩, cb2c, fb2c⟩ := stB bp1 bf1 bb1 K1 (.int .u8 B.r) (.int .u8 B.g) (.int .u8 B.b); have HP2 := Lib.hid bp2; have HF2 := Lib.hid bf2; have HB2 := Lib.hid bb2; have HK2 := Lib.hid K2; clear bp1 bf1 bb1 bp2 bf2 bb2 k1 k2 K1 K2 q0 q1 q2 kq)))
   all_goals as_aux_lemma =>
    clear hkp0 hkq
    obtain ⟨V3a, V3b, V3, e3a, e3b, e3c, ⟨x3a, y3a⟩, ⟨x3b, y3b⟩, ⟨x3c, y3c⟩, bp3, bf3, bb3, K3, k3, ⟨⟨cp3a, fp3a⟩, ⟨cp3b, fp3b⟩, cp3c, fp3c⟩, ⟨⟨cf3a, ff3a⟩, ⟨cf3b, ff3b⟩, cf3c, ff3c⟩, ⟨cb3a, fb3a⟩, ⟨cb3b, fb3b⟩, cb3c, fb3c⟩ := stF HP2.out HF2.out HB2.out HK2.out (.int .u8 F.r) (.int .u8 F.g) (.int .u8 F.b)
    obtain ⟨V4a, V4b, V4, e4a, e4b, e4c, ⟨x4a, y4a⟩, ⟨x4b, y4b⟩, ⟨x4c, y4c⟩, bp4, bf4, bb4, K4, k4, ⟨⟨cp4a, fp4a⟩, ⟨cp4b, fp4b⟩, cp4c, fp4c⟩, ⟨⟨cf4a, ff4a⟩, ⟨cf4b, ff4b⟩, cf4c, ff4c⟩, ⟨cb4a, fb4a⟩, ⟨cb4b, fb4b⟩, cb4c, fb4c⟩ := stB bp3 bf3 bb3 K3 (.int .u8 B.r) (.int .u8 B.g) (.int .u8 B.b)
    have HK := Lib.hid K4
    clear bp3  bf3  bb3  bp4  bf4  bb4 k3 K3 k4 K4
    go_wp2
    go_region
    all_goals go_wp2
    all_goals
     exact bodyPost_ret (v := .tuple #[.agg #[.int .u8 F.r, .int .u8 F.g, .int .u8 F.b], .agg #[.int .u8 B.r, .int .u8 B.g, .int .u8 B.b]]) (by simp [results, Tryz.results538, go_sem, *]) rfl ⟨by rw [HCOL.out]; obtain ⟨q1, q2, q3⟩ := HQ.out; simp [rgbV, q1, q2, q3], HK.out.drew⟩
 ·as_aux_lemma =>
   have HNE := fun w => (show (binOp .neq 210 (.agg #[.int .u8 F.r, .int .u8 F.g, .int .u8 F.b]) (.agg #[.int .u8 B.r, .int .u8 B.g, .int .u8 B.b])).run Tryz.prog w = .ok (.bool true) w from by rw [run_neRgb]; simp; omega)
   have hqg := @run_eqGuard_agg Tryz.prog
   have HQ := Lib.hid hq
   clear hq
   have hkp0 : Kept (fun _ => False) W W.drew := (Kept.refl _ _).drew
   go_enter Tryz.func538, Tryz.ntmps538
   go_wp2
   go_region_held3 (fun w' => w'.cell? ⟨w.heap.size, 0, none⟩ = some (.int .i64 fg) /\ w'.cell? ⟨w.heap.size, 1, none⟩ = some (.int .i64 bg)) (first | ((go_keep; done)) | (go_split_ands; all_goals go_keep)) ((go_at_call 542; first
    | ((with_reducible refine Calls.mono (HF.out _) ?_); (rintro e w1 ⟨rfl, hk⟩); (have hkq := (show Kept (fun _ => False) W w1 from by first | exact hkq.then hk | exact hkp0.then hk)); clear hk; have kq := HKW.out.then hkq; have q0 := hkq.blk HP.out id; have q1 := hkq.blk HF0.out id; have q2 := hkq.blk HB0.out id; obtain ⟨⟨cp0a, fp0a⟩, ⟨cp0b, fp0b⟩, cp0c, fp0c⟩ := blk3 q0; obtain ⟨⟨cf0a, ff0a⟩, ⟨cf0b, ff0b⟩, cf0c, ff0c⟩ := blk3 q1; obtain ⟨⟨cb0a, fb0a⟩, ⟨cb0b, fb0b⟩, cb0c, fb0c⟩ := blk3 q2; obtain ⟨V1a, V1b, V1, e1a, e1b, e1c, ⟨x1a, y1a⟩, ⟨x1b, y1b⟩, ⟨x1c, y1c⟩, bp1, bf1, bb1, K1, k1, ⟨⟨cp1a, fp1a⟩, ⟨cp1b, fp1b⟩, cp1c, fp1c⟩, ⟨⟨cf1a, ff1a⟩, ⟨cf1b, ff1b⟩, cf1c, ff1c⟩, ⟨cb1a, fb1a⟩, ⟨cb1b, fb1b⟩, cb1c, fb1c⟩ := stF q0 q1 q2 kq (.int .u8 F.r) (.int .u8 F.g) (.int .u8 F.b); obtain ⟨V2a, V2b, V2, e2a, e2b, e2c, ⟨x2a, y2a⟩, ⟨x2b, y2b⟩, ⟨x2c, y2c⟩, bp2, bf2, bb2, K2, k2, ⟨⟨cp2a, fp2a⟩, ⟨cp2b, fp2b⟩, cp2c, fp2c⟩, ⟨⟨cf2a, ff2a⟩, ⟨cf2b, ff2b⟩, cf2c, ff2c⟩, ⟨cb2a, fb2a⟩, ⟨cb2b, fb2b⟩, cb2c, fb2c⟩ := stB bp1 bf1 bb1 K1 (.int .u8 B.r) (.int .u8 B.g) (.int .u8 B.b); have HP2 := Lib.hid bp2; have HF2 := Lib.hid bf2; have HB2 := Lib.hid bb2; have HK2 := Lib.hid K2; clear bp1 bf1 bb1 bp2 bf2 bb2 k1 k2 K1 K2 q0 q1 q2 kq)
    | ((with_reducible refine Calls.mono (HB.out _) ?_); (rintro e w1 ⟨rfl, hk⟩); (have hkq := (show Kept (fun _ => False) W w1 from by first | exact hkq.then hk | exact hkp0.then hk)); clear hk; have kq := HKW.out.then hkq; have q0 := hkq.blk HP.out id; have q1 := hkq.blk HF0.out id; have q2 := hkq.blk HB0.out id; obtain ⟨⟨cp0a, fp0a⟩, ⟨cp0b, fp0b⟩, cp0c, fp0c⟩ := blk3 q0; obtain ⟨⟨cf0a, ff0a⟩, ⟨cf0b, ff0b⟩, cf0c, ff0c⟩ := blk3 q1; obtain ⟨⟨cb0a, fb0a⟩, ⟨cb0b, fb0b⟩, cb0c, fb0c⟩ := blk3 q2; obtain ⟨V1a, V1b, V1, e1a, e1b, e1c, ⟨x1a, y1a⟩, ⟨x1b, y1b⟩, ⟨x1c, y1c⟩, bp1, bf1, bb1, K1, k1, ⟨⟨cp1a, fp1a⟩, ⟨cp1b, fp1b⟩, cp1c, fp1c⟩, ⟨⟨cf1a, ff1a⟩, ⟨cf1b, ff1b⟩, cf1c, ff1c⟩, ⟨cb1a, fb1a⟩, ⟨cb1b, fb1b⟩, cb1c, fb1c⟩ := stF q0 q1 q2 kq (.int .u8 F.r) (.int .u8 F.g) (.int .u8 F.b); obtain ⟨V2a, V2b, V2, e2a, e2b, e2c, ⟨x2a, y2a⟩, ⟨x2b, y2b⟩, ⟨x2c, y2c⟩, bp2, bf2, bb2, K2, k2, ⟨⟨cp2a, fp2a⟩, ⟨cp2b, fp2b⟩, cp2c, fp2c⟩, ⟨⟨cf2a, ff2a⟩, ⟨cf2b, ff2b⟩, cf2c, ff2c⟩, ⟨cb2a, fb2a⟩, ⟨cb2b, fb2b⟩, cb2c, fb2c⟩ := stB bp1 bf1 bb1 K1 (.int .u8 B.r) (.int .u8 B.g) (.int .u8 B.b); have HP2 := Lib.hid bp2; have HF2 := Lib.hid bf2; have HB2 := Lib.hid bb2; have HK2 := Lib.hid K2; clear bp1 bf1 bb1 bp2 bf2 bb2 k1 k2 K1 K2 q0 q1 q2 kq)))
   all_goals as_aux_lemma =>
    clear hkp0 hkq
    obtain ⟨V3a, V3b, V3, e3a, e3b, e3c, ⟨x3a, y3a⟩, ⟨x3b, y3b⟩, ⟨x3c, y3c⟩, bp3, bf3, bb3, K3, k3, ⟨⟨cp3a, fp3a⟩, ⟨cp3b, fp3b⟩, cp3c, fp3c⟩, ⟨⟨cf3a, ff3a⟩, ⟨cf3b, ff3b⟩, cf3c, ff3c⟩, ⟨cb3a, fb3a⟩, ⟨cb3b, fb3b⟩, cb3c, fb3c⟩ := stF HP2.out HF2.out HB2.out HK2.out (.int .u8 B.r) (.int .u8 B.g) (.int .u8 B.b)
    obtain ⟨V4a, V4b, V4, e4a, e4b, e4c, ⟨x4a, y4a⟩, ⟨x4b, y4b⟩, ⟨x4c, y4c⟩, bp4, bf4, bb4, K4, k4, ⟨⟨cp4a, fp4a⟩, ⟨cp4b, fp4b⟩, cp4c, fp4c⟩, ⟨⟨cf4a, ff4a⟩, ⟨cf4b, ff4b⟩, cf4c, ff4c⟩, ⟨cb4a, fb4a⟩, ⟨cb4b, fb4b⟩, cb4c, fb4c⟩ := stF bp3 bf3 bb3 K3 (.int .u8 B.r) (.int .u8 B.g) (.int .u8 B.b)
    obtain ⟨V5a, V5b, V5, e5a, e5b, e5c, ⟨x5a, y5a⟩, ⟨x5b, y5b⟩, ⟨x5c, y5c⟩, bp5, bf5, bb5, K5, k5, ⟨⟨cp5a, fp5a⟩, ⟨cp5b, fp5b⟩, cp5c, fp5c⟩, ⟨⟨cf5a, ff5a⟩, ⟨cf5b, ff5b⟩, cf5c, ff5c⟩, ⟨cb5a, fb5a⟩, ⟨cb5b, fb5b⟩, cb5c, fb5c⟩ := stB bp4 bf4 bb4 K4 (.int .u8 B.r) (.int .u8 B.g) (.int .u8 B.b)
    have HK := Lib.hid K5
    clear bp3  bf3  bb3  bp4  bf4  bb4  bp5  bf5  bb5 k3 K3 k4 K4 k5 K5
    go_wp2
    go_region
    all_goals go_wp2
    all_goals
     exact bodyPost_ret (v := .tuple #[.agg #[.int .u8 B.r, .int .u8 B.g, .int .u8 B.b], .agg #[.int .u8 B.r, .int .u8 B.g, .int .u8 B.b]]) (by simp [results, Tryz.results538, go_sem, *]) rfl ⟨by rw [HCOL.out]; rfl, HK.out.drew⟩
set_option maxRecDepth 100000 in
set_option maxHeartbeats 8000000 in
theorem cols13_nin (a : Look) (w : World) (h2 : hasB a.fl 2 = false) (h32 : hasB a.fl 32 = true) (h64 : hasB a.fl 64 = false) :
  Calls Tryz.prog 538 #[lookV a] w (ColsPost a w) := by
 obtain ⟨fg, bg, fl⟩ := a
 have hcol : colors ⟨fg, bg, fl⟩ = (let F := colour fg true; let B := colour bg false; (⟨B.r, B.g, B.b⟩, ⟨F.r, F.g, F.b⟩)) := by unfold colors; simp only [h2, h32, h64, if_true, if_false, Bool.false_eq_true, Rgb.half]
 obtain ⟨F, hF⟩ : ∃ F, colour fg true = F := ⟨_, rfl⟩
 obtain ⟨B, hB⟩ : ∃ B, colour bg false = B := ⟨_, rfl⟩
 have hFB := colour_isB fg true
 have hBB := colour_isB bg false
 rw [hF] at hFB
 rw [hB] at hBB
 simp only [hF, hB] at hcol
 obtain ⟨⟨F0, F1⟩, ⟨F2, F3⟩, F4, F5⟩ := hFB
 obtain ⟨⟨B0, B1⟩, ⟨B2, B3⟩, B4, B5⟩ := hBB
 have HF := Lib.hid (show ∀ w, Calls Tryz.prog 542 #[.int .i64 fg, .bool true] w fun e w' => e = .returned (.agg #[.int .u8 F.r, .int .u8 F.g, .int .u8 F.b]) /\ Kept (fun _ => False) w w' from fun w => by have h := colr_any fg true w; rw [hF] at h; exact h)
 have HB := Lib.hid (show ∀ w, Calls Tryz.prog 542 #[.int .i64 bg, .bool false] w fun e w' => e = .returned (.agg #[.int .u8 B.r, .int .u8 B.g, .int .u8 B.b]) /\ Kept (fun _ => False) w w' from fun w => by have h := colr_any bg false w; rw [hB] at h; exact h)
 have HCOL := Lib.hid hcol
 obtain ⟨z2, hz2⟩ : ∃ z, bits .and .i64 fl 2 = z := ⟨_, rfl⟩
 obtain ⟨z32, hz32⟩ : ∃ z, bits .and .i64 fl 32 = z := ⟨_, rfl⟩
 obtain ⟨z64, hz64⟩ : ∃ z, bits .and .i64 fl 64 = z := ⟨_, rfl⟩
 unfold hasB at h2 h32 h64
 simp only [hz2] at h2
 simp only [hz32] at h32
 simp only [hz64] at h64
 clear hF hB hcol
 obtain ⟨W, hW⟩ : ∃ W, ((w.alloc (.cells #[.int .i64 fg, .int .i64 bg, .int .i64 fl] 53)).alloc (.cells #[.int .u8 0, .int .u8 0, .int .u8 0] 210)).alloc (.cells #[.int .u8 0, .int .u8 0, .int .u8 0] 210) = W := ⟨_, rfl⟩
 have kW : Kept (fun _ => False) w W := by rw [<- hW]; exact (((Kept.refl _ w).alloc _).alloc _).alloc _
 have bp0 : W.heap[w.heap.size]? = some (.cells #[.int .i64 fg, .int .i64 bg, .int .i64 fl] 53 (0, 0)) := by rw [<- hW]; exact blk_alloc (blk_alloc (blk_new _ _) _) _
 have bf0 : W.heap[w.heap.size + 1]? = some (.cells #[.int .u8 0, .int .u8 0, .int .u8 0] 210 (0, 0)) := by rw [<- hW]; exact blk_alloc (blk_at _ _ (by simp)) _
 have bb0 : W.heap[w.heap.size + 1 + 1]? = some (.cells #[.int .u8 0, .int .u8 0, .int .u8 0] 210 (0, 0)) := by rw [<- hW]; exact blk_at _ _ (by simp)
 have HP := Lib.hid bp0
 have HF0 := Lib.hid bf0
 have HB0 := Lib.hid bb0
 have HKW := Lib.hid kW
 obtain ⟨⟨cp0a, fp0a⟩, ⟨cp0b, fp0b⟩, cp0c, fp0c⟩ := blk3 bp0
 clear kW bp0 bf0 bb0
 unfold lookV
 have hkp0 : Kept (fun _ => False) W W.drew := (Kept.refl _ _).drew
 go_enter Tryz.func538, Tryz.ntmps538
 go_wp2
 go_region_held3 (fun w' => w'.cell? ⟨w.heap.size, 0, none⟩ = some (.int .i64 fg) /\ w'.cell? ⟨w.heap.size, 1, none⟩ = some (.int .i64 bg)) (first | ((go_keep; done)) | (go_split_ands; all_goals go_keep)) ((go_at_call 542; first
  | ((with_reducible refine Calls.mono (HF.out _) ?_); (rintro e w1 ⟨rfl, hk⟩); (have hkq := (show Kept (fun _ => False) W w1 from by first | exact hkq.then hk | exact hkp0.then hk)); clear hk; have kq := HKW.out.then hkq; have q0 := hkq.blk HP.out id; have q1 := hkq.blk HF0.out id; have q2 := hkq.blk HB0.out id; obtain ⟨⟨cp0a, fp0a⟩, ⟨cp0b, fp0b⟩, cp0c, fp0c⟩ := blk3 q0; obtain ⟨⟨cf0a, ff0a⟩, ⟨cf0b, ff0b⟩, cf0c, ff0c⟩ := blk3 q1; obtain ⟨⟨cb0a, fb0a⟩, ⟨cb0b, fb0b⟩, cb0c, fb0c⟩ := blk3 q2; obtain ⟨V1a, V1b, V1, e1a, e1b, e1c, ⟨x1a, y1a⟩, ⟨x1b, y1b⟩, ⟨x1c, y1c⟩, bp1, bf1, bb1, K1, k1, ⟨⟨cp1a, fp1a⟩, ⟨cp1b, fp1b⟩, cp1c, fp1c⟩, ⟨⟨cf1a, ff1a⟩, ⟨cf1b, ff1b⟩, cf1c, ff1c⟩, ⟨cb1a, fb1a⟩, ⟨cb1b, fb1b⟩, cb1c, fb1c⟩ := stF q0 q1 q2 kq (.int .u8 F.r) (.int .u8 F.g) (.int .u8 F.b); obtain ⟨V2a, V2b, V2, e2a, e2b, e2c, ⟨x2a, y2a⟩, ⟨x2b, y2b⟩, ⟨x2c, y2c⟩, bp2, bf2, bb2, K2, k2, ⟨⟨cp2a, fp2a⟩, ⟨cp2b, fp2b⟩, cp2c, fp2c⟩, ⟨⟨cf2a, ff2a⟩, ⟨cf2b, ff2b⟩, cf2c, ff2c⟩, ⟨cb2a, fb2a⟩, ⟨cb2b, fb2b⟩, cb2c, fb2c⟩ := stB bp1 bf1 bb1 K1 (.int .u8 B.r) (.int .u8 B.g) (.int .u8 B.b); have HP2 := Lib.hid bp2; have HF2 := Lib.hid bf2; have HB2 := Lib.hid bb2; have HK2 := Lib.hid K2; clear bp1 bf1 bb1 bp2 bf2 bb2 k1 k2 K1 K2 q0 q1 q2 kq)
  | ((with_reducible refine Calls.mono (HB.out _) ?_); (rintro e w1 ⟨rfl, hk⟩); (have hkq := (show Kept (fun _ => False) W w1 from by first | exact hkq.then hk | exact hkp0.then hk)); clear hk; have kq := HKW.out.then hkq; have q0 := hkq.blk HP.out id; have q1 := hkq.blk HF0.out id; have q2 := hkq.blk HB0.out id; obtain ⟨⟨cp0a, fp0a⟩, ⟨cp0b, fp0b⟩, cp0c, fp0c⟩ := blk3 q0; obtain ⟨⟨cf0a, ff0a⟩, ⟨cf0b, ff0b⟩, cf0c, ff0c⟩ := blk3 q1; obtain ⟨⟨cb0a, fb0a⟩, ⟨cb0b, fb0b⟩, cb0c, fb0c⟩ := blk3 q2; obtain ⟨V1a, V1b, V1, e1a, e1b, e1c, ⟨x1a, y1a⟩, ⟨x1b, y1b⟩, ⟨x1c, y1c⟩, bp1, bf1, bb1, K1, k1, ⟨⟨cp1a, fp1a⟩, ⟨cp1b, fp1b⟩, cp1c, fp1c⟩, ⟨⟨cf1a, ff1a⟩, ⟨cf1b, ff1b⟩, cf1c, ff1c⟩, ⟨cb1a, fb1a⟩, ⟨cb1b, fb1b⟩, cb1c, fb1c⟩ := stF q0 q1 q2 kq (.int .u8 F.r) (.int .u8 F.g) (.int .u8 F.b); obtain ⟨V2a, V2b, V2, e2a, e2b, e2c, ⟨x2a, y2a⟩, ⟨x2b, y2b⟩, ⟨x2c, y2c⟩, bp2, bf2, bb2, K2, k2, ⟨⟨cp2a, fp2a⟩, ⟨cp2b, fp2b⟩, cp2c, fp2c⟩, ⟨⟨cf2a, ff2a⟩, ⟨cf2b, ff2b⟩, cf2c, ff2c⟩, ⟨cb2a, fb2a⟩, ⟨cb2b, fb2b⟩, cb2c, fb2c⟩ := stB bp1 bf1 bb1 K1 (.int .u8 B.r) (.int .u8 B.g) (.int .u8 B.b); have HP2 := Lib.hid bp2; have HF2 := Lib.hid bf2; have HB2 := Lib.hid bb2; have HK2 := Lib.hid K2; clear bp1 bf1 bb1 bp2 bf2 bb2 k1 k2 K1 K2 q0 q1 q2 kq)))
 all_goals as_aux_lemma =>
  clear hkp0 hkq
  obtain ⟨V3a, V3b, V3, e3a, e3b, e3c, ⟨x3a, y3a⟩, ⟨x3b, y3b⟩, ⟨x3c, y3c⟩, bp3, bf3, bb3, K3, k3, ⟨⟨cp3a, fp3a⟩, ⟨cp3b, fp3b⟩, cp3c, fp3c⟩, ⟨⟨cf3a, ff3a⟩, ⟨cf3b, ff3b⟩, cf3c, ff3c⟩, ⟨cb3a, fb3a⟩, ⟨cb3b, fb3b⟩, cb3c, fb3c⟩ := stF HP2.out HF2.out HB2.out HK2.out (.int .u8 B.r) (.int .u8 B.g) (.int .u8 B.b)
  obtain ⟨V4a, V4b, V4, e4a, e4b, e4c, ⟨x4a, y4a⟩, ⟨x4b, y4b⟩, ⟨x4c, y4c⟩, bp4, bf4, bb4, K4, k4, ⟨⟨cp4a, fp4a⟩, ⟨cp4b, fp4b⟩, cp4c, fp4c⟩, ⟨⟨cf4a, ff4a⟩, ⟨cf4b, ff4b⟩, cf4c, ff4c⟩, ⟨cb4a, fb4a⟩, ⟨cb4b, fb4b⟩, cb4c, fb4c⟩ := stB bp3 bf3 bb3 K3 (.int .u8 F.r) (.int .u8 F.g) (.int .u8 F.b)
  obtain ⟨V5a, V5b, V5, e5a, e5b, e5c, ⟨x5a, y5a⟩, ⟨x5b, y5b⟩, ⟨x5c, y5c⟩, bp5, bf5, bb5, K5, k5, ⟨⟨cp5a, fp5a⟩, ⟨cp5b, fp5b⟩, cp5c, fp5c⟩, ⟨⟨cf5a, ff5a⟩, ⟨cf5b, ff5b⟩, cf5c, ff5c⟩, ⟨cb5a, fb5a⟩, ⟨cb5b, fb5b⟩, cb5c, fb5c⟩ := stF bp4 bf4 bb4 K4 (.int .u8 B.r) (.int .u8 B.g) (.int .u8 B.b)
  obtain ⟨V6a, V6b, V6, e6a, e6b, e6c, ⟨x6a, y6a⟩, ⟨x6b, y6b⟩, ⟨x6c, y6c⟩, bp6, bf6, bb6, K6, k6, ⟨⟨cp6a, fp6a⟩, ⟨cp6b, fp6b⟩, cp6c, fp6c⟩, ⟨⟨cf6a, ff6a⟩, ⟨cf6b, ff6b⟩, cf6c, ff6c⟩, ⟨cb6a, fb6a⟩, ⟨cb6b, fb6b⟩, cb6c, fb6c⟩ := stB bp5 bf5 bb5 K5 (.int .u8 F.r) (.int .u8 F.g) (.int .u8 F.b)
  have HK := Lib.hid K6
  clear bp3  bf3  bb3  bp4  bf4  bb4  bp5  bf5  bb5  bp6  bf6  bb6 k3 K3 k4 K4 k5 K5 k6 K6
  go_wp2
  go_region
  all_goals go_wp2
  all_goals
   exact bodyPost_ret (v := .tuple #[.agg #[.int .u8 B.r, .int .u8 B.g, .int .u8 B.b], .agg #[.int .u8 F.r, .int .u8 F.g, .int .u8 F.b]]) (by simp [results, Tryz.results538, go_sem, *]) rfl ⟨by rw [HCOL.out]; rfl, HK.out.drew⟩
set_option maxRecDepth 100000 in
set_option maxHeartbeats 8000000 in
theorem cols13_nih (a : Look) (w : World) (h2 : hasB a.fl 2 = false) (h32 : hasB a.fl 32 = true) (h64 : hasB a.fl 64 = true) :
  Calls Tryz.prog 538 #[lookV a] w (ColsPost a w) := by
 obtain ⟨fg, bg, fl⟩ := a
 have hcol : colors ⟨fg, bg, fl⟩ = (let F := colour fg true; let B := colour bg false; (⟨F.r, F.g, F.b⟩, ⟨F.r, F.g, F.b⟩)) := by unfold colors; simp only [h2, h32, h64, if_true, if_false, Bool.false_eq_true, Rgb.half]
 obtain ⟨F, hF⟩ : ∃ F, colour fg true = F := ⟨_, rfl⟩
 obtain ⟨B, hB⟩ : ∃ B, colour bg false = B := ⟨_, rfl⟩
 have hFB := colour_isB fg true
 have hBB := colour_isB bg false
 rw [hF] at hFB
 rw [hB] at hBB
 simp only [hF, hB] at hcol
 obtain ⟨⟨F0, F1⟩, ⟨F2, F3⟩, F4, F5⟩ := hFB
 obtain ⟨⟨B0, B1⟩, ⟨B2, B3⟩, B4, B5⟩ := hBB
 have HF := Lib.hid (show ∀ w, Calls Tryz.prog 542 #[.int .i64 fg, .bool true] w fun e w' => e = .returned (.agg #[.int .u8 F.r, .int .u8 F.g, .int .u8 F.b]) /\ Kept (fun _ => False) w w' from fun w => by have h := colr_any fg true w; rw [hF] at h; exact h)
 have HB := Lib.hid (show ∀ w, Calls Tryz.prog 542 #[.int .i64 bg, .bool false] w fun e w' => e = .returned (.agg #[.int .u8 B.r, .int .u8 B.g, .int .u8 B.b]) /\ Kept (fun _ => False) w w' from fun w => by have h := colr_any bg false w; rw [hB] at h; exact h)
 have HCOL := Lib.hid hcol
 obtain ⟨z2, hz2⟩ : ∃ z, bits .and .i64 fl 2 = z := ⟨_, rfl⟩
 obtain ⟨z32, hz32⟩ : ∃ z, bits .and .i64 fl 32 = z := ⟨_, rfl⟩
 obtain ⟨z64, hz64⟩ : ∃ z, bits .and .i64 fl 64 = z := ⟨_, rfl⟩
 unfold hasB at h2 h32 h64
 simp only [hz2] at h2
 simp only [hz32] at h32
 simp only [hz64] at h64
 clear hF hB hcol
 obtain ⟨W, hW⟩ : ∃ W, ((w.alloc (.cells #[.int .i64 fg, .int .i64 bg, .int .i64 fl] 53)).alloc (.cells #[.int .u8 0, .int .u8 0, .int .u8 0] 210)).alloc (.cells #[.int .u8 0, .int .u8 0, .int .u8 0] 210) = W := ⟨_, rfl⟩
 have kW : Kept (fun _ => False) w W := by rw [<- hW]; exact (((Kept.refl _ w).alloc _).alloc _).alloc _
 have bp0 : W.heap[w.heap.size]? = some (.cells #[.int .i64 fg, .int .i64 bg, .int .i64 fl] 53 (0, 0)) := by rw [<- hW]; exact blk_alloc (blk_alloc (blk_new _ _) _) _
 have bf0 : W.heap[w.heap.size + 1]? = some (.cells #[.int .u8 0, .int .u8 0, .int .u8 0] 210 (0, 0)) := by rw [<- hW]; exact blk_alloc (blk_at _ _ (by simp)) _
 have bb0 : W.heap[w.heap.size + 1 + 1]? = some (.cells #[.int .u8 0, .int .u8 0, .int .u8 0] 210 (0, 0)) := by rw [<- hW]; exact blk_at _ _ (by simp)
 have HP := Lib.hid bp0
 have HF0 := Lib.hid bf0
 have HB0 := Lib.hid bb0
 have HKW := Lib.hid kW
 obtain ⟨⟨cp0a, fp0a⟩, ⟨cp0b, fp0b⟩, cp0c, fp0c⟩ := blk3 bp0
 clear kW bp0 bf0 bb0
 unfold lookV
 by_cases hq : B.r = F.r /\ B.g = F.g /\ B.b = F.b
 ·as_aux_lemma =>
   have HNE := fun w => (show (binOp .neq 210 (.agg #[.int .u8 B.r, .int .u8 B.g, .int .u8 B.b]) (.agg #[.int .u8 F.r, .int .u8 F.g, .int .u8 F.b])).run Tryz.prog w = .ok (.bool false) w from by rw [run_neRgb]; simp [hq])
   have hqg := @run_eqGuard_agg Tryz.prog
   have HQ := Lib.hid hq
   clear hq
   have hkp0 : Kept (fun _ => False) W W.drew := (Kept.refl _ _).drew
   go_enter Tryz.func538, Tryz.ntmps538
   go_wp2
   go_region_held3 (fun w' => w'.cell? ⟨w.heap.size, 0, none⟩ = some (.int .i64 fg) /\ w'.cell? ⟨w.heap.size, 1, none⟩ = some (.int .i64 bg)) (first | ((go_keep; done)) | (go_split_ands; all_goals go_keep)) ((go_at_call 542; first
    | ((with_reducible refine Calls.mono (HF.out _) ?_); (rintro e w1 ⟨rfl, hk⟩); (have hkq := (show Kept (fun _ => False) W w1 from by first | exact hkq.then hk | exact hkp0.then hk)); clear hk; have kq := HKW.out.then hkq; have q0 := hkq.blk HP.out id; have q1 := hkq.blk HF0.out id; have q2 := hkq.blk HB0.out id; obtain ⟨⟨cp0a, fp0a⟩, ⟨cp0b, fp0b⟩, cp0c, fp0c⟩ := blk3 q0; obtain ⟨⟨cf0a, ff0a⟩, ⟨cf0b, ff0b⟩, cf0c, ff0c⟩ := blk3 q1; obtain ⟨⟨cb0a, fb0a⟩, ⟨cb0b, fb0b⟩, cb0c, fb0c⟩ := blk3 q2; obtain ⟨V1a, V1b, V1, e1a, e1b, e1c, ⟨x1a, y1a⟩, ⟨x1b, y1b⟩, ⟨x1c, y1c⟩, bp1, bf1, bb1, K1, k1, ⟨⟨cp1a, fp1a⟩, ⟨cp1b, fp1b⟩, cp1c, fp1c⟩, ⟨⟨cf1a, ff1a⟩, ⟨cf1b, ff1b⟩, cf1c, ff1c⟩, ⟨cb1a, fb1a⟩, ⟨cb1b, fb1b⟩, cb1c, fb1c⟩ := stF q0 q1 q2 kq (.int .u8 F.r) (.int .u8 F.g) (.int .u8 F.b); obtain ⟨V2a, V2b, V2, e2a, e2b, e2c, ⟨x2a, y2a⟩, ⟨x2b, y2b⟩, ⟨x2c, y2c⟩, bp2, bf2, bb2, K2, k2, ⟨⟨cp2a, fp2a⟩, ⟨cp2b, fp2b⟩, cp2c, fp2c⟩, ⟨⟨cf2a, ff2a⟩, ⟨cf2b, ff2b⟩, cf2c, ff2c⟩, ⟨cb2a, fb2a⟩, ⟨cb2b, fb2b⟩, cb2c, fb2c⟩ := stB bp1 bf1 bb1 K1 (.int .u8 B.r) (.int .u8 B.g) (.int .u8 B.b); have HP2 := Lib.hid bp2; have HF2 := Lib.hid bf2; have HB2 := Lib.hid bb2; have HK2 := Lib.hid K2; clear bp1 bf1 bb1 bp2 bf2 bb2 k1 k2 K1 K2 q0 q1 q2 kq)
    | ((with_reducible refine Calls.mono (HB.out _) ?_); (rintro e w1 ⟨rfl, hk⟩); (have hkq := (show Kept (fun _ => False) W w1 from by first | exact hkq.then hk | exact hkp0.then hk)); clear hk; have kq := HKW.out.then hkq; have q0 := hkq.blk HP.out id; have q1 := hkq.blk HF0.out id; have q2 := hkq.blk HB0.out id; obtain ⟨⟨cp0a, fp0a⟩, ⟨cp0b, fp0b⟩, cp0c, fp0c⟩ := blk3 q0; obtain ⟨⟨cf0a, ff0a⟩, ⟨cf0b, ff0b⟩, cf0c, ff0c⟩ := blk3 q1; obtain ⟨⟨cb0a, fb0a⟩, ⟨cb0b, fb0b⟩, cb0c, fb0c⟩ := blk3 q2; obtain ⟨V1a, V1b, V1, e1a, e1b, e1c, ⟨x1a, y1a⟩, ⟨x1b, y1b⟩, ⟨x1c, y1c⟩, bp1, bf1, bb1, K1, k1, ⟨⟨cp1a, fp1a⟩, ⟨cp1b, fp1b⟩, cp1c, fp1c⟩, ⟨⟨cf1a, ff1a⟩, ⟨cf1b, ff1b⟩, cf1c, ff1c⟩, ⟨cb1a, fb1a⟩, ⟨cb1b, fb1b⟩, cb1c, fb1c⟩ := stF q0 q1 q2 kq (.int .u8 F.r) (.int .u8 F.g) (.int .u8 F.b); obtain ⟨V2a, V2b, V2, e2a, e2b, e2c, ⟨x2a, y2a⟩, ⟨x2b, y2b⟩, ⟨x2c, y2c⟩, bp2, bf2, bb2, K2, k2, ⟨⟨cp2a, fp2a⟩, ⟨cp2b, fp2b⟩, cp2c, fp2c⟩, ⟨⟨cf2a, ff2a⟩, ⟨cf2b, ff2b⟩, cf2c, ff2c⟩, ⟨cb2a, fb2a⟩, ⟨cb2b, fb2b⟩, cb2c, fb2c⟩ := stB bp1 bf1 bb1 K1 (.int .u8 B.r) (.int .u8 B.g) (.int .u8 B.b); have HP2 := Lib.hid bp2; have HF2 := Lib.hid bf2; have HB2 := Lib.hid bb2; have HK2 := Lib.hid K2; clear bp1 bf1 bb1 bp2 bf2 bb2 k1 k2 K1 K2 q0 q1 q2 kq)))
   all_goals as_aux_lemma =>
    clear hkp0 hkq
    obtain ⟨V3a, V3b, V3, e3a, e3b, e3c, ⟨x3a, y3a⟩, ⟨x3b, y3b⟩, ⟨x3c, y3c⟩, bp3, bf3, bb3, K3, k3, ⟨⟨cp3a, fp3a⟩, ⟨cp3b, fp3b⟩, cp3c, fp3c⟩, ⟨⟨cf3a, ff3a⟩, ⟨cf3b, ff3b⟩, cf3c, ff3c⟩, ⟨cb3a, fb3a⟩, ⟨cb3b, fb3b⟩, cb3c, fb3c⟩ := stF HP2.out HF2.out HB2.out HK2.out (.int .u8 B.r) (.int .u8 B.g) (.int .u8 B.b)
    obtain ⟨V4a, V4b, V4, e4a, e4b, e4c, ⟨x4a, y4a⟩, ⟨x4b, y4b⟩, ⟨x4c, y4c⟩, bp4, bf4, bb4, K4, k4, ⟨⟨cp4a, fp4a⟩, ⟨cp4b, fp4b⟩, cp4c, fp4c⟩, ⟨⟨cf4a, ff4a⟩, ⟨cf4b, ff4b⟩, cf4c, ff4c⟩, ⟨cb4a, fb4a⟩, ⟨cb4b, fb4b⟩, cb4c, fb4c⟩ := stB bp3 bf3 bb3 K3 (.int .u8 F.r) (.int .u8 F.g) (.int .u8 F.b)
    obtain ⟨V5a, V5b, V5, e5a, e5b, e5c, ⟨x5a, y5a⟩, ⟨x5b, y5b⟩, ⟨x5c, y5c⟩, bp5, bf5, bb5, K5, k5, ⟨⟨cp5a, fp5a⟩, ⟨cp5b, fp5b⟩, cp5c, fp5c⟩, ⟨⟨cf5a, ff5a⟩, ⟨cf5b, ff5b⟩, cf5c, ff5c⟩, ⟨cb5a, fb5a⟩, ⟨cb5b, fb5b⟩, cb5c, fb5c⟩ := stF bp4 bf4 bb4 K4 (.int .u8 B.r) (.int .u8 B.g) (.int .u8 B.b)
    obtain ⟨V6a, V6b, V6, e6a, e6b, e6c, ⟨x6a, y6a⟩, ⟨x6b, y6b⟩, ⟨x6c, y6c⟩, bp6, bf6, bb6, K6, k6, ⟨⟨cp6a, fp6a⟩, ⟨cp6b, fp6b⟩, cp6c, fp6c⟩, ⟨⟨cf6a, ff6a⟩, ⟨cf6b, ff6b⟩, cf6c, ff6c⟩, ⟨cb6a, fb6a⟩, ⟨cb6b, fb6b⟩, cb6c, fb6c⟩ := stB bp5 bf5 bb5 K5 (.int .u8 F.r) (.int .u8 F.g) (.int .u8 F.b)
    have HK := Lib.hid K6
    clear bp3  bf3  bb3  bp4  bf4  bb4  bp5  bf5  bb5  bp6  bf6  bb6 k3 K3 k4 K4 k5 K5 k6 K6
    go_wp2
    go_region
    all_goals go_wp2
    all_goals
     exact bodyPost_ret (v := .tuple #[.agg #[.int .u8 B.r, .int .u8 B.g, .int .u8 B.b], .agg #[.int .u8 F.r, .int .u8 F.g, .int .u8 F.b]]) (by simp [results, Tryz.results538, go_sem, *]) rfl ⟨by rw [HCOL.out]; obtain ⟨q1, q2, q3⟩ := HQ.out; simp [rgbV, q1, q2, q3], HK.out.drew⟩
 ·as_aux_lemma =>
   have HNE := fun w => (show (binOp .neq 210 (.agg #[.int .u8 B.r, .int .u8 B.g, .int .u8 B.b]) (.agg #[.int .u8 F.r, .int .u8 F.g, .int .u8 F.b])).run Tryz.prog w = .ok (.bool true) w from by rw [run_neRgb]; simp; omega)
   have hqg := @run_eqGuard_agg Tryz.prog
   have HQ := Lib.hid hq
   clear hq
   have hkp0 : Kept (fun _ => False) W W.drew := (Kept.refl _ _).drew
   go_enter Tryz.func538, Tryz.ntmps538
   go_wp2
   go_region_held3 (fun w' => w'.cell? ⟨w.heap.size, 0, none⟩ = some (.int .i64 fg) /\ w'.cell? ⟨w.heap.size, 1, none⟩ = some (.int .i64 bg)) (first | ((go_keep; done)) | (go_split_ands; all_goals go_keep)) ((go_at_call 542; first
    | ((with_reducible refine Calls.mono (HF.out _) ?_); (rintro e w1 ⟨rfl, hk⟩); (have hkq := (show Kept (fun _ => False) W w1 from by first | exact hkq.then hk | exact hkp0.then hk)); clear hk; have kq := HKW.out.then hkq; have q0 := hkq.blk HP.out id; have q1 := hkq.blk HF0.out id; have q2 := hkq.blk HB0.out id; obtain ⟨⟨cp0a, fp0a⟩, ⟨cp0b, fp0b⟩, cp0c, fp0c⟩ := blk3 q0; obtain ⟨⟨cf0a, ff0a⟩, ⟨cf0b, ff0b⟩, cf0c, ff0c⟩ := blk3 q1; obtain ⟨⟨cb0a, fb0a⟩, ⟨cb0b, fb0b⟩, cb0c, fb0c⟩ := blk3 q2; obtain ⟨V1a, V1b, V1, e1a, e1b, e1c, ⟨x1a, y1a⟩, ⟨x1b, y1b⟩, ⟨x1c, y1c⟩, bp1, bf1, bb1, K1, k1, ⟨⟨cp1a, fp1a⟩, ⟨cp1b, fp1b⟩, cp1c, fp1c⟩, ⟨⟨cf1a, ff1a⟩, ⟨cf1b, ff1b⟩, cf1c, ff1c⟩, ⟨cb1a, fb1a⟩, ⟨cb1b, fb1b⟩, cb1c, fb1c⟩ := stF q0 q1 q2 kq (.int .u8 F.r) (.int .u8 F.g) (.int .u8 F.b); obtain ⟨V2a, V2b, V2, e2a, e2b, e2c, ⟨x2a, y2a⟩, ⟨x2b, y2b⟩, ⟨x2c, y2c⟩, bp2, bf2, bb2, K2, k2, ⟨⟨cp2a, fp2a⟩, ⟨cp2b, fp2b⟩, cp2c, fp2c⟩, ⟨⟨cf2a, ff2a⟩, ⟨cf2b, ff2b⟩, cf2c, ff2c⟩, ⟨cb2a, fb2a⟩, ⟨cb2b, fb2b⟩, cb2c, fb2c⟩ := stB bp1 bf1 bb1 K1 (.int .u8 B.r) (.int .u8 B.g) (.int .u8 B.b); have HP2 := Lib.hid bp2; have HF2 := Lib.hid bf2; have HB2 := Lib.hid bb2; have HK2 := Lib.hid K2; clear bp1 bf1 bb1 bp2 bf2 bb2 k1 k2 K1 K2 q0 q1 q2 kq)
    | ((with_reducible refine Calls.mono (HB.out _) ?_); (rintro e w1 ⟨rfl, hk⟩); (have hkq := (show Kept (fun _ => False) W w1 from by first | exact hkq.then hk | exact hkp0.then hk)); clear hk; have kq := HKW.out.then hkq; have q0 := hkq.blk HP.out id; have q1 := hkq.blk HF0.out id; have q2 := hkq.blk HB0.out id; obtain ⟨⟨cp0a, fp0a⟩, ⟨cp0b, fp0b⟩, cp0c, fp0c⟩ := blk3 q0; obtain ⟨⟨cf0a, ff0a⟩, ⟨cf0b, ff0b⟩, cf0c, ff0c⟩ := blk3 q1; obtain ⟨⟨cb0a, fb0a⟩, ⟨cb0b, fb0b⟩, cb0c, fb0c⟩ := blk3 q2; obtain ⟨V1a, V1b, V1, e1a, e1b, e1c, ⟨x1a, y1a⟩, ⟨x1b, y1b⟩, ⟨x1c, y1c⟩, bp1, bf1, bb1, K1, k1, ⟨⟨cp1a, fp1a⟩, ⟨cp1b, fp1b⟩, cp1c, fp1c⟩, ⟨⟨cf1a, ff1a⟩, ⟨cf1b, ff1b⟩, cf1c, ff1c⟩, ⟨cb1a, fb1a⟩, ⟨cb1b, fb1b⟩, cb1c, fb1c⟩ := stF q0 q1 q2 kq (.int .u8 F.r) (.int .u8 F.g) (.int .u8 F.b); obtain ⟨V2a, V2b, V2, e2a, e2b, e2c, ⟨x2a, y2a⟩, ⟨x2b, y2b⟩, ⟨x2c, y2c⟩, bp2, bf2, bb2, K2, k2, ⟨⟨cp2a, fp2a⟩, ⟨cp2b, fp2b⟩, cp2c, fp2c⟩, ⟨⟨cf2a, ff2a⟩, ⟨cf2b, ff2b⟩, cf2c, ff2c⟩, ⟨cb2a, fb2a⟩, ⟨cb2b, fb2b⟩, cb2c, fb2c⟩ := stB bp1 bf1 bb1 K1 (.int .u8 B.r) (.int .u8 B.g) (.int .u8 B.b); have HP2 := Lib.hid bp2; have HF2 := Lib.hid bf2; have HB2 := Lib.hid bb2; have HK2 := Lib.hid K2; clear bp1 bf1 bb1 bp2 bf2 bb2 k1 k2 K1 K2 q0 q1 q2 kq)))
   all_goals as_aux_lemma =>
    clear hkp0 hkq
    obtain ⟨V3a, V3b, V3, e3a, e3b, e3c, ⟨x3a, y3a⟩, ⟨x3b, y3b⟩, ⟨x3c, y3c⟩, bp3, bf3, bb3, K3, k3, ⟨⟨cp3a, fp3a⟩, ⟨cp3b, fp3b⟩, cp3c, fp3c⟩, ⟨⟨cf3a, ff3a⟩, ⟨cf3b, ff3b⟩, cf3c, ff3c⟩, ⟨cb3a, fb3a⟩, ⟨cb3b, fb3b⟩, cb3c, fb3c⟩ := stF HP2.out HF2.out HB2.out HK2.out (.int .u8 B.r) (.int .u8 B.g) (.int .u8 B.b)
    obtain ⟨V4a, V4b, V4, e4a, e4b, e4c, ⟨x4a, y4a⟩, ⟨x4b, y4b⟩, ⟨x4c, y4c⟩, bp4, bf4, bb4, K4, k4, ⟨⟨cp4a, fp4a⟩, ⟨cp4b, fp4b⟩, cp4c, fp4c⟩, ⟨⟨cf4a, ff4a⟩, ⟨cf4b, ff4b⟩, cf4c, ff4c⟩, ⟨cb4a, fb4a⟩, ⟨cb4b, fb4b⟩, cb4c, fb4c⟩ := stB bp3 bf3 bb3 K3 (.int .u8 F.r) (.int .u8 F.g) (.int .u8 F.b)
    obtain ⟨V5a, V5b, V5, e5a, e5b, e5c, ⟨x5a, y5a⟩, ⟨x5b, y5b⟩, ⟨x5c, y5c⟩, bp5, bf5, bb5, K5, k5, ⟨⟨cp5a, fp5a⟩, ⟨cp5b, fp5b⟩, cp5c, fp5c⟩, ⟨⟨cf5a, ff5a⟩, ⟨cf5b, ff5b⟩, cf5c, ff5c⟩, ⟨cb5a, fb5a⟩, ⟨cb5b, fb5b⟩, cb5c, fb5c⟩ := stF bp4 bf4 bb4 K4 (.int .u8 F.r) (.int .u8 F.g) (.int .u8 F.b)
    obtain ⟨V6a, V6b, V6, e6a, e6b, e6c, ⟨x6a, y6a⟩, ⟨x6b, y6b⟩, ⟨x6c, y6c⟩, bp6, bf6, bb6, K6, k6, ⟨⟨cp6a, fp6a⟩, ⟨cp6b, fp6b⟩, cp6c, fp6c⟩, ⟨⟨cf6a, ff6a⟩, ⟨cf6b, ff6b⟩, cf6c, ff6c⟩, ⟨cb6a, fb6a⟩, ⟨cb6b, fb6b⟩, cb6c, fb6c⟩ := stF bp5 bf5 bb5 K5 (.int .u8 F.r) (.int .u8 F.g) (.int .u8 F.b)
    obtain ⟨V7a, V7b, V7, e7a, e7b, e7c, ⟨x7a, y7a⟩, ⟨x7b, y7b⟩, ⟨x7c, y7c⟩, bp7, bf7, bb7, K7, k7, ⟨⟨cp7a, fp7a⟩, ⟨cp7b, fp7b⟩, cp7c, fp7c⟩, ⟨⟨cf7a, ff7a⟩, ⟨cf7b, ff7b⟩, cf7c, ff7c⟩, ⟨cb7a, fb7a⟩, ⟨cb7b, fb7b⟩, cb7c, fb7c⟩ := stB bp6 bf6 bb6 K6 (.int .u8 F.r) (.int .u8 F.g) (.int .u8 F.b)
    have HK := Lib.hid K7
    clear bp3  bf3  bb3  bp4  bf4  bb4  bp5  bf5  bb5  bp6  bf6  bb6  bp7  bf7  bb7 k3 K3 k4 K4 k5 K5 k6 K6 k7 K7
    go_wp2
    go_region
    all_goals go_wp2
    all_goals
     exact bodyPost_ret (v := .tuple #[.agg #[.int .u8 F.r, .int .u8 F.g, .int .u8 F.b], .agg #[.int .u8 F.r, .int .u8 F.g, .int .u8 F.b]]) (by simp [results, Tryz.results538, go_sem, *]) rfl ⟨by rw [HCOL.out]; rfl, HK.out.drew⟩
set_option maxRecDepth 100000 in
set_option maxHeartbeats 8000000 in
theorem cols13_fnn (a : Look) (w : World) (h2 : hasB a.fl 2 = true) (h32 : hasB a.fl 32 = false) (h64 : hasB a.fl 64 = false) :
  Calls Tryz.prog 538 #[lookV a] w (ColsPost a w) := by
 obtain ⟨fg, bg, fl⟩ := a
 have hcol : colors ⟨fg, bg, fl⟩ = (let F := colour fg true; let B := colour bg false; (⟨(F.r / 2), (F.g / 2), (F.b / 2)⟩, ⟨B.r, B.g, B.b⟩)) := by unfold colors; simp only [h2, h32, h64, if_true, if_false, Bool.false_eq_true, Rgb.half]
 obtain ⟨F, hF⟩ : ∃ F, colour fg true = F := ⟨_, rfl⟩
 obtain ⟨B, hB⟩ : ∃ B, colour bg false = B := ⟨_, rfl⟩
 have hFB := colour_isB fg true
 have hBB := colour_isB bg false
 rw [hF] at hFB
 rw [hB] at hBB
 simp only [hF, hB] at hcol
 obtain ⟨⟨F0, F1⟩, ⟨F2, F3⟩, F4, F5⟩ := hFB
 obtain ⟨⟨B0, B1⟩, ⟨B2, B3⟩, B4, B5⟩ := hBB
 have HF := Lib.hid (show ∀ w, Calls Tryz.prog 542 #[.int .i64 fg, .bool true] w fun e w' => e = .returned (.agg #[.int .u8 F.r, .int .u8 F.g, .int .u8 F.b]) /\ Kept (fun _ => False) w w' from fun w => by have h := colr_any fg true w; rw [hF] at h; exact h)
 have HB := Lib.hid (show ∀ w, Calls Tryz.prog 542 #[.int .i64 bg, .bool false] w fun e w' => e = .returned (.agg #[.int .u8 B.r, .int .u8 B.g, .int .u8 B.b]) /\ Kept (fun _ => False) w w' from fun w => by have h := colr_any bg false w; rw [hB] at h; exact h)
 have HCOL := Lib.hid hcol
 obtain ⟨z2, hz2⟩ : ∃ z, bits .and .i64 fl 2 = z := ⟨_, rfl⟩
 obtain ⟨z32, hz32⟩ : ∃ z, bits .and .i64 fl 32 = z := ⟨_, rfl⟩
 obtain ⟨z64, hz64⟩ : ∃ z, bits .and .i64 fl 64 = z := ⟨_, rfl⟩
 unfold hasB at h2 h32 h64
 simp only [hz2] at h2
 simp only [hz32] at h32
 simp only [hz64] at h64
 clear hF hB hcol
 obtain ⟨W, hW⟩ : ∃ W, ((w.alloc (.cells #[.int .i64 fg, .int .i64 bg, .int .i64 fl] 53)).alloc (.cells #[.int .u8 0, .int .u8 0, .int .u8 0] 210)).alloc (.cells #[.int .u8 0, .int .u8 0, .int .u8 0] 210) = W := ⟨_, rfl⟩
 have kW : Kept (fun _ => False) w W := by rw [<- hW]; exact (((Kept.refl _ w).alloc _).alloc _).alloc _
 have bp0 : W.heap[w.heap.size]? = some (.cells #[.int .i64 fg, .int .i64 bg, .int .i64 fl] 53 (0, 0)) := by rw [<- hW]; exact blk_alloc (blk_alloc (blk_new _ _) _) _
 have bf0 : W.heap[w.heap.size + 1]? = some (.cells #[.int .u8 0, .int .u8 0, .int .u8 0] 210 (0, 0)) := by rw [<- hW]; exact blk_alloc (blk_at _ _ (by simp)) _
 have bb0 : W.heap[w.heap.size + 1 + 1]? = some (.cells #[.int .u8 0, .int .u8 0, .int .u8 0] 210 (0, 0)) := by rw [<- hW]; exact blk_at _ _ (by simp)
 have HP := Lib.hid bp0
 have HF0 := Lib.hid bf0
 have HB0 := Lib.hid bb0
 have HKW := Lib.hid kW
 obtain ⟨⟨cp0a, fp0a⟩, ⟨cp0b, fp0b⟩, cp0c, fp0c⟩ := blk3 bp0
 clear kW bp0 bf0 bb0
 unfold lookV
 have hkp0 : Kept (fun _ => False) W W.drew := (Kept.refl _ _).drew
 go_enter Tryz.func538, Tryz.ntmps538
 go_wp2
 go_region_held3 (fun w' => w'.cell? ⟨w.heap.size, 0, none⟩ = some (.int .i64 fg) /\ w'.cell? ⟨w.heap.size, 1, none⟩ = some (.int .i64 bg)) (first | ((go_keep; done)) | (go_split_ands; all_goals go_keep)) ((go_at_call 542; first
  | ((with_reducible refine Calls.mono (HF.out _) ?_); (rintro e w1 ⟨rfl, hk⟩); (have hkq := (show Kept (fun _ => False) W w1 from by first | exact hkq.then hk | exact hkp0.then hk)); clear hk; have kq := HKW.out.then hkq; have q0 := hkq.blk HP.out id; have q1 := hkq.blk HF0.out id; have q2 := hkq.blk HB0.out id; obtain ⟨⟨cp0a, fp0a⟩, ⟨cp0b, fp0b⟩, cp0c, fp0c⟩ := blk3 q0; obtain ⟨⟨cf0a, ff0a⟩, ⟨cf0b, ff0b⟩, cf0c, ff0c⟩ := blk3 q1; obtain ⟨⟨cb0a, fb0a⟩, ⟨cb0b, fb0b⟩, cb0c, fb0c⟩ := blk3 q2; obtain ⟨V1a, V1b, V1, e1a, e1b, e1c, ⟨x1a, y1a⟩, ⟨x1b, y1b⟩, ⟨x1c, y1c⟩, bp1, bf1, bb1, K1, k1, ⟨⟨cp1a, fp1a⟩, ⟨cp1b, fp1b⟩, cp1c, fp1c⟩, ⟨⟨cf1a, ff1a⟩, ⟨cf1b, ff1b⟩, cf1c, ff1c⟩, ⟨cb1a, fb1a⟩, ⟨cb1b, fb1b⟩, cb1c, fb1c⟩ := stF q0 q1 q2 kq (.int .u8 F.r) (.int .u8 F.g) (.int .u8 F.b); obtain ⟨V2a, V2b, V2, e2a, e2b, e2c, ⟨x2a, y2a⟩, ⟨x2b, y2b⟩, ⟨x2c, y2c⟩, bp2, bf2, bb2, K2, k2, ⟨⟨cp2a, fp2a⟩, ⟨cp2b, fp2b⟩, cp2c, fp2c⟩, ⟨⟨cf2a, ff2a⟩, ⟨cf2b, ff2b⟩, cf2c, ff2c⟩, ⟨cb2a, fb2a⟩, ⟨cb2b, fb2b⟩, cb2c, fb2c⟩ := stB bp1 bf1 bb1 K1 (.int .u8 B.r) (.int .u8 B.g) (.int .u8 B.b); have HP2 := Lib.hid bp2; have HF2 := Lib.hid bf2; have HB2 := Lib.hid bb2; have HK2 := Lib.hid K2; clear bp1 bf1 bb1 bp2 bf2 bb2 k1 k2 K1 K2 q0 q1 q2 kq)
  | ((with_reducible refine Calls.mono (HB.out _) ?_); (rintro e w1 ⟨rfl, hk⟩); (have hkq := (show Kept (fun _ => False) W w1 from by first | exact hkq.then hk | exact hkp0.then hk)); clear hk; have kq := HKW.out.then hkq; have q0 := hkq.blk HP.out id; have q1 := hkq.blk HF0.out id; have q2 := hkq.blk HB0.out id; obtain ⟨⟨cp0a, fp0a⟩, ⟨cp0b, fp0b⟩, cp0c, fp0c⟩ := blk3 q0; obtain ⟨⟨cf0a, ff0a⟩, ⟨cf0b, ff0b⟩, cf0c, ff0c⟩ := blk3 q1; obtain ⟨⟨cb0a, fb0a⟩, ⟨cb0b, fb0b⟩, cb0c, fb0c⟩ := blk3 q2; obtain ⟨V1a, V1b, V1, e1a, e1b, e1c, ⟨x1a, y1a⟩, ⟨x1b, y1b⟩, ⟨x1c, y1c⟩, bp1, bf1, bb1, K1, k1, ⟨⟨cp1a, fp1a⟩, ⟨cp1b, fp1b⟩, cp1c, fp1c⟩, ⟨⟨cf1a, ff1a⟩, ⟨cf1b, ff1b⟩, cf1c, ff1c⟩, ⟨cb1a, fb1a⟩, ⟨cb1b, fb1b⟩, cb1c, fb1c⟩ := stF q0 q1 q2 kq (.int .u8 F.r) (.int .u8 F.g) (.int .u8 F.b); obtain ⟨V2a, V2b, V2, e2a, e2b, e2c, ⟨x2a, y2a⟩, ⟨x2b, y2b⟩, ⟨x2c, y2c⟩, bp2, bf2, bb2, K2, k2, ⟨⟨cp2a, fp2a⟩, ⟨cp2b, fp2b⟩, cp2c, fp2c⟩, ⟨⟨cf2a, ff2a⟩, ⟨cf2b, ff2b⟩, cf2c, ff2c⟩, ⟨cb2a, fb2a⟩, ⟨cb2b, fb2b⟩, cb2c, fb2c⟩ := stB bp1 bf1 bb1 K1 (.int .u8 B.r) (.int .u8 B.g) (.int .u8 B.b); have HP2 := Lib.hid bp2; have HF2 := Lib.hid bf2; have HB2 := Lib.hid bb2; have HK2 := Lib.hid K2; clear bp1 bf1 bb1 bp2 bf2 bb2 k1 k2 K1 K2 q0 q1 q2 kq)))
 all_goals as_aux_lemma =>
  clear hkp0 hkq
  obtain ⟨V3, e3⟩ : ∃ V, V2.setCell ⟨w.heap.size + 1, 0, none⟩ (.int .u8 (F.r / 2)) = V := ⟨_, rfl⟩
  have bf3 : V3.heap[w.heap.size + 1]? = some (.cells #[.int .u8 (F.r / 2), .int .u8 F.g, .int .u8 F.b] 210 (0, 0)) := by rw [<- e3]; exact blk_set HF2.out 0 _
  have k3 : Kept (fun i => i = w.heap.size + 1) V2 V3 := by rw [<- e3]; exact (Kept.refl (fun i => i = w.heap.size + 1) _).setCell (p := ⟨w.heap.size + 1, 0, none⟩) (.inl rfl) _
  have bp3 := k3.blk HP2.out (fun (h : w.heap.size = w.heap.size + 1) => by omega)
  have bb3 := k3.blk HB2.out (fun (h : w.heap.size + 1 + 1 = w.heap.size + 1) => by omega)
  have K3 := HK2.out.trans (k3.mono fun i _ hi => Or.inr (by have h9 : i = w.heap.size + 1 := hi; omega))
  obtain ⟨⟨cp3a, fp3a⟩, ⟨cp3b, fp3b⟩, cp3c, fp3c⟩ := blk3 bp3
  obtain ⟨⟨cf3a, ff3a⟩, ⟨cf3b, ff3b⟩, cf3c, ff3c⟩ := blk3 bf3
  obtain ⟨⟨cb3a, fb3a⟩, ⟨cb3b, fb3b⟩, cb3c, fb3c⟩ := blk3 bb3
  obtain ⟨V4, e4⟩ : ∃ V, V3.setCell ⟨w.heap.size + 1, 1, none⟩ (.int .u8 (F.g / 2)) = V := ⟨_, rfl⟩
  have bf4 : V4.heap[w.heap.size + 1]? = some (.cells #[.int .u8 (F.r / 2), .int .u8 (F.g / 2), .int .u8 F.b] 210 (0, 0)) := by rw [<- e4]; exact blk_set bf3 1 _
  have k4 : Kept (fun i => i = w.heap.size + 1) V3 V4 := by rw [<- e4]; exact (Kept.refl (fun i => i = w.heap.size + 1) _).setCell (p := ⟨w.heap.size + 1, 1, none⟩) (.inl rfl) _
  have bp4 := k4.blk bp3 (fun (h : w.heap.size = w.heap.size + 1) => by omega)
  have bb4 := k4.blk bb3 (fun (h : w.heap.size + 1 + 1 = w.heap.size + 1) => by omega)
  have K4 := K3.trans (k4.mono fun i _ hi => Or.inr (by have h9 : i = w.heap.size + 1 := hi; omega))
  obtain ⟨⟨cp4a, fp4a⟩, ⟨cp4b, fp4b⟩, cp4c, fp4c⟩ := blk3 bp4
  obtain ⟨⟨cf4a, ff4a⟩, ⟨cf4b, ff4b⟩, cf4c, ff4c⟩ := blk3 bf4
  obtain ⟨⟨cb4a, fb4a⟩, ⟨cb4b, fb4b⟩, cb4c, fb4c⟩ := blk3 bb4
  obtain ⟨V5, e5⟩ : ∃ V, V4.setCell ⟨w.heap.size + 1, 2, none⟩ (.int .u8 (F.b / 2)) = V := ⟨_, rfl⟩
  have bf5 : V5.heap[w.heap.size + 1]? = some (.cells #[.int .u8 (F.r / 2), .int .u8 (F.g / 2), .int .u8 (F.b / 2)] 210 (0, 0)) := by rw [<- e5]; exact blk_set bf4 2 _
  have k5 : Kept (fun i => i = w.heap.size + 1) V4 V5 := by rw [<- e5]; exact (Kept.refl (fun i => i = w.heap.size + 1) _).setCell (p := ⟨w.heap.size + 1, 2, none⟩) (.inl rfl) _
  have bp5 := k5.blk bp4 (fun (h : w.heap.size = w.heap.size + 1) => by omega)
  have bb5 := k5.blk bb4 (fun (h : w.heap.size + 1 + 1 = w.heap.size + 1) => by omega)
  have K5 := K4.trans (k5.mono fun i _ hi => Or.inr (by have h9 : i = w.heap.size + 1 := hi; omega))
  obtain ⟨⟨cp5a, fp5a⟩, ⟨cp5b, fp5b⟩, cp5c, fp5c⟩ := blk3 bp5
  obtain ⟨⟨cf5a, ff5a⟩, ⟨cf5b, ff5b⟩, cf5c, ff5c⟩ := blk3 bf5
  obtain ⟨⟨cb5a, fb5a⟩, ⟨cb5b, fb5b⟩, cb5c, fb5c⟩ := blk3 bb5
  obtain ⟨V6a, V6b, V6, e6a, e6b, e6c, ⟨x6a, y6a⟩, ⟨x6b, y6b⟩, ⟨x6c, y6c⟩, bp6, bf6, bb6, K6, k6, ⟨⟨cp6a, fp6a⟩, ⟨cp6b, fp6b⟩, cp6c, fp6c⟩, ⟨⟨cf6a, ff6a⟩, ⟨cf6b, ff6b⟩, cf6c, ff6c⟩, ⟨cb6a, fb6a⟩, ⟨cb6b, fb6b⟩, cb6c, fb6c⟩ := stF bp5 bf5 bb5 K5 (.int .u8 (F.r / 2)) (.int .u8 (F.g / 2)) (.int .u8 (F.b / 2))
  obtain ⟨V7a, V7b, V7, e7a, e7b, e7c, ⟨x7a, y7a⟩, ⟨x7b, y7b⟩, ⟨x7c, y7c⟩, bp7, bf7, bb7, K7, k7, ⟨⟨cp7a, fp7a⟩, ⟨cp7b, fp7b⟩, cp7c, fp7c⟩, ⟨⟨cf7a, ff7a⟩, ⟨cf7b, ff7b⟩, cf7c, ff7c⟩, ⟨cb7a, fb7a⟩, ⟨cb7b, fb7b⟩, cb7c, fb7c⟩ := stB bp6 bf6 bb6 K6 (.int .u8 B.r) (.int .u8 B.g) (.int .u8 B.b)
  have HK := Lib.hid K7
  clear bp3  bf3  bb3  bp4  bf4  bb4  bp5  bf5  bb5  bp6  bf6  bb6  bp7  bf7  bb7 k3 K3 k4 K4 k5 K5 k6 K6 k7 K7
  go_wp2
  refine wp_loop_rounds 4 ?_
  rw [rounds_succ]
  go_wp2
  rw [rounds_succ]
  go_wp2
  rw [rounds_succ]
  go_wp2
  rw [rounds_succ]
  go_wp2
  go_region
  all_goals go_wp2
  all_goals
   exact bodyPost_ret (v := .tuple #[.agg #[.int .u8 (F.r / 2), .int .u8 (F.g / 2), .int .u8 (F.b / 2)], .agg #[.int .u8 B.r, .int .u8 B.g, .int .u8 B.b]]) (by simp [results, Tryz.results538, go_sem, *]) rfl ⟨by rw [HCOL.out]; rfl, HK.out.drew⟩
set_option maxRecDepth 100000 in
set_option maxHeartbeats 8000000 in
theorem cols13_fnh (a : Look) (w : World) (h2 : hasB a.fl 2 = true) (h32 : hasB a.fl 32 = false) (h64 : hasB a.fl 64 = true) :
  Calls Tryz.prog 538 #[lookV a] w (ColsPost a w) := by
 obtain ⟨fg, bg, fl⟩ := a
 have hcol : colors ⟨fg, bg, fl⟩ = (let F := colour fg true; let B := colour bg false; (⟨B.r, B.g, B.b⟩, ⟨B.r, B.g, B.b⟩)) := by unfold colors; simp only [h2, h32, h64, if_true, if_false, Bool.false_eq_true, Rgb.half]
 obtain ⟨F, hF⟩ : ∃ F, colour fg true = F := ⟨_, rfl⟩
 obtain ⟨B, hB⟩ : ∃ B, colour bg false = B := ⟨_, rfl⟩
 have hFB := colour_isB fg true
 have hBB := colour_isB bg false
 rw [hF] at hFB
 rw [hB] at hBB
 simp only [hF, hB] at hcol
 obtain ⟨⟨F0, F1⟩, ⟨F2, F3⟩, F4, F5⟩ := hFB
 obtain ⟨⟨B0, B1⟩, ⟨B2, B3⟩, B4, B5⟩ := hBB
 have HF := Lib.hid (show ∀ w, Calls Tryz.prog 542 #[.int .i64 fg, .bool true] w fun e w' => e = .returned (.agg #[.int .u8 F.r, .int .u8 F.g, .int .u8 F.b]) /\ Kept (fun _ => False) w w' from fun w => by have h := colr_any fg true w; rw [hF] at h; exact h)
 have HB := Lib.hid (show ∀ w, Calls Tryz.prog 542 #[.int .i64 bg, .bool false] w fun e w' => e = .returned (.agg #[.int .u8 B.r, .int .u8 B.g, .int .u8 B.b]) /\ Kept (fun _ => False) w w' from fun w => by have h := colr_any bg false w; rw [hB] at h; exact h)
 have HCOL := Lib.hid hcol
 obtain ⟨z2, hz2⟩ : ∃ z, bits .and .i64 fl 2 = z := ⟨_, rfl⟩
 obtain ⟨z32, hz32⟩ : ∃ z, bits .and .i64 fl 32 = z := ⟨_, rfl⟩
 obtain ⟨z64, hz64⟩ : ∃ z, bits .and .i64 fl 64 = z := ⟨_, rfl⟩
 unfold hasB at h2 h32 h64
 simp only [hz2] at h2
 simp only [hz32] at h32
 simp only [hz64] at h64
 clear hF hB hcol
 obtain ⟨W, hW⟩ : ∃ W, ((w.alloc (.cells #[.int .i64 fg, .int .i64 bg, .int .i64 fl] 53)).alloc (.cells #[.int .u8 0, .int .u8 0, .int .u8 0] 210)).alloc (.cells #[.int .u8 0, .int .u8 0, .int .u8 0] 210) = W := ⟨_, rfl⟩
 have kW : Kept (fun _ => False) w W := by rw [<- hW]; exact (((Kept.refl _ w).alloc _).alloc _).alloc _
 have bp0 : W.heap[w.heap.size]? = some (.cells #[.int .i64 fg, .int .i64 bg, .int .i64 fl] 53 (0, 0)) := by rw [<- hW]; exact blk_alloc (blk_alloc (blk_new _ _) _) _
 have bf0 : W.heap[w.heap.size + 1]? = some (.cells #[.int .u8 0, .int .u8 0, .int .u8 0] 210 (0, 0)) := by rw [<- hW]; exact blk_alloc (blk_at _ _ (by simp)) _
 have bb0 : W.heap[w.heap.size + 1 + 1]? = some (.cells #[.int .u8 0, .int .u8 0, .int .u8 0] 210 (0, 0)) := by rw [<- hW]; exact blk_at _ _ (by simp)
 have HP := Lib.hid bp0
 have HF0 := Lib.hid bf0
 have HB0 := Lib.hid bb0
 have HKW := Lib.hid kW
 obtain ⟨⟨cp0a, fp0a⟩, ⟨cp0b, fp0b⟩, cp0c, fp0c⟩ := blk3 bp0
 clear kW bp0 bf0 bb0
 unfold lookV
 by_cases hq : (F.r / 2) = B.r /\ (F.g / 2) = B.g /\ (F.b / 2) = B.b
 ·as_aux_lemma =>
   have HNE := fun w => (show (binOp .neq 210 (.agg #[.int .u8 (F.r / 2), .int .u8 (F.g / 2), .int .u8 (F.b / 2)]) (.agg #[.int .u8 B.r, .int .u8 B.g, .int .u8 B.b])).run Tryz.prog w = .ok (.bool false) w from by rw [run_neRgb]; simp [hq])
   have hqg := @run_eqGuard_agg Tryz.prog
   have HQ := Lib.hid hq
   clear hq
   have hkp0 : Kept (fun _ => False) W W.drew := (Kept.refl _ _).drew
   go_enter Tryz.func538, Tryz.ntmps538
   go_wp2
   go_region_held3 (fun w' => w'.cell? ⟨w.heap.size, 0, none⟩ = some (.int .i64 fg) /\ w'.cell? ⟨w.heap.size, 1, none⟩ = some (.int .i64 bg)) (first | ((go_keep; done)) | (go_split_ands; all_goals go_keep)) ((go_at_call 542; first
    | ((with_reducible refine Calls.mono (HF.out _) ?_); (rintro e w1 ⟨rfl, hk⟩); (have hkq := (show Kept (fun _ => False) W w1 from by first | exact hkq.then hk | exact hkp0.then hk)); clear hk; have kq := HKW.out.then hkq; have q0 := hkq.blk HP.out id; have q1 := hkq.blk HF0.out id; have q2 := hkq.blk HB0.out id; obtain ⟨⟨cp0a, fp0a⟩, ⟨cp0b, fp0b⟩, cp0c, fp0c⟩ := blk3 q0; obtain ⟨⟨cf0a, ff0a⟩, ⟨cf0b, ff0b⟩, cf0c, ff0c⟩ := blk3 q1; obtain ⟨⟨cb0a, fb0a⟩, ⟨cb0b, fb0b⟩, cb0c, fb0c⟩ := blk3 q2; obtain ⟨V1a, V1b, V1, e1a, e1b, e1c, ⟨x1a, y1a⟩, ⟨x1b, y1b⟩, ⟨x1c, y1c⟩, bp1, bf1, bb1, K1, k1, ⟨⟨cp1a, fp1a⟩, ⟨cp1b, fp1b⟩, cp1c, fp1c⟩, ⟨⟨cf1a, ff1a⟩, ⟨cf1b, ff1b⟩, cf1c, ff1c⟩, ⟨cb1a, fb1a⟩, ⟨cb1b, fb1b⟩, cb1c, fb1c⟩ := stF q0 q1 q2 kq (.int .u8 F.r) (.int .u8 F.g) (.int .u8 F.b); obtain ⟨V2a, V2b, V2, e2a, e2b, e2c, ⟨x2a, y2a⟩, ⟨x2b, y2b⟩, ⟨x2c, y2c⟩, bp2, bf2, bb2, K2, k2, ⟨⟨cp2a, fp2a⟩, ⟨cp2b, fp2b⟩, cp2c, fp2c⟩, ⟨⟨cf2a, ff2a⟩, ⟨cf2b, ff2b⟩, cf2c, ff2c⟩, ⟨cb2a, fb2a⟩, ⟨cb2b, fb2b⟩, cb2c, fb2c⟩ := stB bp1 bf1 bb1 K1 (.int .u8 B.r) (.int .u8 B.g) (.int .u8 B.b); have HP2 := Lib.hid bp2; have HF2 := Lib.hid bf2; have HB2 := Lib.hid bb2; have HK2 := Lib.hid K2; clear bp1 bf1 bb1 bp2 bf2 bb2 k1 k2 K1 K2 q0 q1 q2 kq)
    | ((with_reducible refine Calls.mono (HB.out _) ?_); (rintro e w1 ⟨rfl, hk⟩); (have hkq := (show Kept (fun _ => False) W w1 from by first | exact hkq.then hk | exact hkp0.then hk)); clear hk; have kq := HKW.out.then hkq; have q0 := hkq.blk HP.out id; have q1 := hkq.blk HF0.out id; have q2 := hkq.blk HB0.out id; obtain ⟨⟨cp0a, fp0a⟩, ⟨cp0b, fp0b⟩, cp0c, fp0c⟩ := blk3 q0; obtain ⟨⟨cf0a, ff0a⟩, ⟨cf0b, ff0b⟩, cf0c, ff0c⟩ := blk3 q1; obtain ⟨⟨cb0a, fb0a⟩, ⟨cb0b, fb0b⟩, cb0c, fb0c⟩ := blk3 q2; obtain ⟨V1a, V1b, V1, e1a, e1b, e1c, ⟨x1a, y1a⟩, ⟨x1b, y1b⟩, ⟨x1c, y1c⟩, bp1, bf1, bb1, K1, k1, ⟨⟨cp1a, fp1a⟩, ⟨cp1b, fp1b⟩, cp1c, fp1c⟩, ⟨⟨cf1a, ff1a⟩, ⟨cf1b, ff1b⟩, cf1c, ff1c⟩, ⟨cb1a, fb1a⟩, ⟨cb1b, fb1b⟩, cb1c, fb1c⟩ := stF q0 q1 q2 kq (.int .u8 F.r) (.int .u8 F.g) (.int .u8 F.b); obtain ⟨V2a, V2b, V2, e2a, e2b, e2c, ⟨x2a, y2a⟩, ⟨x2b, y2b⟩, ⟨x2c, y2c⟩, bp2, bf2, bb2, K2, k2, ⟨⟨cp2a, fp2a⟩, ⟨cp2b, fp2b⟩, cp2c, fp2c⟩, ⟨⟨cf2a, ff2a⟩, ⟨cf2b, ff2b⟩, cf2c, ff2c⟩, ⟨cb2a, fb2a⟩, ⟨cb2b, fb2b⟩, cb2c, fb2c⟩ := stB bp1 bf1 bb1 K1 (.int .u8 B.r) (.int .u8 B.g) (.int .u8 B.b); have HP2 := Lib.hid bp2; have HF2 := Lib.hid bf2; have HB2 := Lib.hid bb2; have HK2 := Lib.hid K2; clear bp1 bf1 bb1 bp2 bf2 bb2 k1 k2 K1 K2 q0 q1 q2 kq)))
   all_goals as_aux_lemma =>
    clear hkp0 hkq
    obtain ⟨V3, e3⟩ : ∃ V, V2.setCell ⟨w.heap.size + 1, 0, none⟩ (.int .u8 (F.r / 2)) = V := ⟨_, rfl⟩
    have bf3 : V3.heap[w.heap.size + 1]? = some (.cells #[.int .u8 (F.r / 2), .int .u8 F.g, .int .u8 F.b] 210 (0, 0)) := by rw [<- e3]; exact blk_set HF2.out 0 _
    have k3 : Kept (fun i => i = w.heap.size + 1) V2 V3 := by rw [<- e3]; exact (Kept.refl (fun i => i = w.heap.size + 1) _).setCell (p := ⟨w.heap.size + 1, 0, none⟩) (.inl rfl) _
    have bp3 := k3.blk HP2.out (fun (h : w.heap.size = w.heap.size + 1) => by omega)
    have bb3 := k3.blk HB2.out (fun (h : w.heap.size + 1 + 1 = w.heap.size + 1) => by omega)
    have K3 := HK2.out.trans (k3.mono fun i _ hi => Or.inr (by have h9 : i = w.heap.size + 1 := hi; omega))
    obtain ⟨⟨cp3a, fp3a⟩, ⟨cp3b, fp3b⟩, cp3c, fp3c⟩ := blk3 bp3
    obtain ⟨⟨cf3a, ff3a⟩, ⟨cf3b, ff3b⟩, cf3c, ff3c⟩ := blk3 bf3
    obtain ⟨⟨cb3a, fb3a⟩, ⟨cb3b, fb3b⟩, cb3c, fb3c⟩ := blk3 bb3
    obtain ⟨V4, e4⟩ : ∃ V, V3.setCell ⟨w.heap.size + 1, 1, none⟩ (.int .u8 (F.g / 2)) = V := ⟨_, rfl⟩
    have bf4 : V4.heap[w.heap.size + 1]? = some (.cells #[.int .u8 (F.r / 2), .int .u8 (F.g / 2), .int .u8 F.b] 210 (0, 0)) := by rw [<- e4]; exact blk_set bf3 1 _
    have k4 : Kept (fun i => i = w.heap.size + 1) V3 V4 := by rw [<- e4]; exact (Kept.refl (fun i => i = w.heap.size + 1) _).setCell (p := ⟨w.heap.size + 1, 1, none⟩) (.inl rfl) _
    have bp4 := k4.blk bp3 (fun (h : w.heap.size = w.heap.size + 1) => by omega)
    have bb4 := k4.blk bb3 (fun (h : w.heap.size + 1 + 1 = w.heap.size + 1) => by omega)
    have K4 := K3.trans (k4.mono fun i _ hi => Or.inr (by have h9 : i = w.heap.size + 1 := hi; omega))
    obtain ⟨⟨cp4a, fp4a⟩, ⟨cp4b, fp4b⟩, cp4c, fp4c⟩ := blk3 bp4
    obtain ⟨⟨cf4a, ff4a⟩, ⟨cf4b, ff4b⟩, cf4c, ff4c⟩ := blk3 bf4
    obtain ⟨⟨cb4a, fb4a⟩, ⟨cb4b, fb4b⟩, cb4c, fb4c⟩ := blk3 bb4
    obtain ⟨V5, e5⟩ : ∃ V, V4.setCell ⟨w.heap.size + 1, 2, none⟩ (.int .u8 (F.b / 2)) = V := ⟨_, rfl⟩
    have bf5 : V5.heap[w.heap.size + 1]? = some (.cells #[.int .u8 (F.r / 2), .int .u8 (F.g / 2), .int .u8 (F.b / 2)] 210 (0, 0)) := by rw [<- e5]; exact blk_set bf4 2 _
    have k5 : Kept (fun i => i = w.heap.size + 1) V4 V5 := by rw [<- e5]; exact (Kept.refl (fun i => i = w.heap.size + 1) _).setCell (p := ⟨w.heap.size + 1, 2, none⟩) (.inl rfl) _
    have bp5 := k5.blk bp4 (fun (h : w.heap.size = w.heap.size + 1) => by omega)
    have bb5 := k5.blk bb4 (fun (h : w.heap.size + 1 + 1 = w.heap.size + 1) => by omega)
    have K5 := K4.trans (k5.mono fun i _ hi => Or.inr (by have h9 : i = w.heap.size + 1 := hi; omega))
    obtain ⟨⟨cp5a, fp5a⟩, ⟨cp5b, fp5b⟩, cp5c, fp5c⟩ := blk3 bp5
    obtain ⟨⟨cf5a, ff5a⟩, ⟨cf5b, ff5b⟩, cf5c, ff5c⟩ := blk3 bf5
    obtain ⟨⟨cb5a, fb5a⟩, ⟨cb5b, fb5b⟩, cb5c, fb5c⟩ := blk3 bb5
    obtain ⟨V6a, V6b, V6, e6a, e6b, e6c, ⟨x6a, y6a⟩, ⟨x6b, y6b⟩, ⟨x6c, y6c⟩, bp6, bf6, bb6, K6, k6, ⟨⟨cp6a, fp6a⟩, ⟨cp6b, fp6b⟩, cp6c, fp6c⟩, ⟨⟨cf6a, ff6a⟩, ⟨cf6b, ff6b⟩, cf6c, ff6c⟩, ⟨cb6a, fb6a⟩, ⟨cb6b, fb6b⟩, cb6c, fb6c⟩ := stF bp5 bf5 bb5 K5 (.int .u8 (F.r / 2)) (.int .u8 (F.g / 2)) (.int .u8 (F.b / 2))
    obtain ⟨V7a, V7b, V7, e7a, e7b, e7c, ⟨x7a, y7a⟩, ⟨x7b, y7b⟩, ⟨x7c, y7c⟩, bp7, bf7, bb7, K7, k7, ⟨⟨cp7a, fp7a⟩, ⟨cp7b, fp7b⟩, cp7c, fp7c⟩, ⟨⟨cf7a, ff7a⟩, ⟨cf7b, ff7b⟩, cf7c, ff7c⟩, ⟨cb7a, fb7a⟩, ⟨cb7b, fb7b⟩, cb7c, fb7c⟩ := stB bp6 bf6 bb6 K6 (.int .u8 B.r) (.int .u8 B.g) (.int .u8 B.b)
    have HK := Lib.hid K7
    clear bp3  bf3  bb3  bp4  bf4  bb4  bp5  bf5  bb5  bp6  bf6  bb6  bp7  bf7  bb7 k3 K3 k4 K4 k5 K5 k6 K6 k7 K7
    go_wp2
    refine wp_loop_rounds 4 ?_
    rw [rounds_succ]
    go_wp2
    rw [rounds_succ]
    go_wp2
    rw [rounds_succ]
    go_wp2
    rw [rounds_succ]
    go_wp2
    go_region
    all_goals go_wp2
    all_goals
     exact bodyPost_ret (v := .tuple #[.agg #[.int .u8 (F.r / 2), .int .u8 (F.g / 2), .int .u8 (F.b / 2)], .agg #[.int .u8 B.r, .int .u8 B.g, .int .u8 B.b]]) (by simp [results, Tryz.results538, go_sem, *]) rfl ⟨by rw [HCOL.out]; obtain ⟨q1, q2, q3⟩ := HQ.out; simp [rgbV, q1, q2, q3], HK.out.drew⟩
 ·as_aux_lemma =>
   have HNE := fun w => (show (binOp .neq 210 (.agg #[.int .u8 (F.r / 2), .int .u8 (F.g / 2), .int .u8 (F.b / 2)]) (.agg #[.int .u8 B.r, .int .u8 B.g, .int .u8 B.b])).run Tryz.prog w = .ok (.bool true) w from by rw [run_neRgb]; simp; omega)
   have hqg := @run_eqGuard_agg Tryz.prog
   have HQ := Lib.hid hq
   clear hq
   have hkp0 : Kept (fun _ => False) W W.drew := (Kept.refl _ _).drew
   go_enter Tryz.func538, Tryz.ntmps538
   go_wp2
   go_region_held3 (fun w' => w'.cell? ⟨w.heap.size, 0, none⟩ = some (.int .i64 fg) /\ w'.cell? ⟨w.heap.size, 1, none⟩ = some (.int .i64 bg)) (first | ((go_keep; done)) | (go_split_ands; all_goals go_keep)) ((go_at_call 542; first
    | ((with_reducible refine Calls.mono (HF.out _) ?_); (rintro e w1 ⟨rfl, hk⟩); (have hkq := (show Kept (fun _ => False) W w1 from by first | exact hkq.then hk | exact hkp0.then hk)); clear hk; have kq := HKW.out.then hkq; have q0 := hkq.blk HP.out id; have q1 := hkq.blk HF0.out id; have q2 := hkq.blk HB0.out id; obtain ⟨⟨cp0a, fp0a⟩, ⟨cp0b, fp0b⟩, cp0c, fp0c⟩ := blk3 q0; obtain ⟨⟨cf0a, ff0a⟩, ⟨cf0b, ff0b⟩, cf0c, ff0c⟩ := blk3 q1; obtain ⟨⟨cb0a, fb0a⟩, ⟨cb0b, fb0b⟩, cb0c, fb0c⟩ := blk3 q2; obtain ⟨V1a, V1b, V1, e1a, e1b, e1c, ⟨x1a, y1a⟩, ⟨x1b, y1b⟩, ⟨x1c, y1c⟩, bp1, bf1, bb1, K1, k1, ⟨⟨cp1a, fp1a⟩, ⟨cp1b, fp1b⟩, cp1c, fp1c⟩, ⟨⟨cf1a, ff1a⟩, ⟨cf1b, ff1b⟩, cf1c, ff1c⟩, ⟨cb1a, fb1a⟩, ⟨cb1b, fb1b⟩, cb1c, fb1c⟩ := stF q0 q1 q2 kq (.int .u8 F.r) (.int .u8 F.g) (.int .u8 F.b); obtain ⟨V2a, V2b, V2, e2a, e2b, e2c, ⟨x2a, y2a⟩, ⟨x2b, y2b⟩, ⟨x2c, y2c⟩, bp2, bf2, bb2, K2, k2, ⟨⟨cp2a, fp2a⟩, ⟨cp2b, fp2b⟩, cp2c, fp2c⟩, ⟨⟨cf2a, ff2a⟩, ⟨cf2b, ff2b⟩, cf2c, ff2c⟩, ⟨cb2a, fb2a⟩, ⟨cb2b, fb2b⟩, cb2c, fb2c⟩ := stB bp1 bf1 bb1 K1 (.int .u8 B.r) (.int .u8 B.g) (.int .u8 B.b); have HP2 := Lib.hid bp2; have HF2 := Lib.hid bf2; have HB2 := Lib.hid bb2; have HK2 := Lib.hid K2; clear bp1 bf1 bb1 bp2 bf2 bb2 k1 k2 K1 K2 q0 q1 q2 kq)
    | ((with_reducible refine Calls.mono (HB.out _) ?_); (rintro e w1 ⟨rfl, hk⟩); (have hkq := (show Kept (fun _ => False) W w1 from by first | exact hkq.then hk | exact hkp0.then hk)); clear hk; have kq := HKW.out.then hkq; have q0 := hkq.blk HP.out id; have q1 := hkq.blk HF0.out id; have q2 := hkq.blk HB0.out id; obtain ⟨⟨cp0a, fp0a⟩, ⟨cp0b, fp0b⟩, cp0c, fp0c⟩ := blk3 q0; obtain ⟨⟨cf0a, ff0a⟩, ⟨cf0b, ff0b⟩, cf0c, ff0c⟩ := blk3 q1; obtain ⟨⟨cb0a, fb0a⟩, ⟨cb0b, fb0b⟩, cb0c, fb0c⟩ := blk3 q2; obtain ⟨V1a, V1b, V1, e1a, e1b, e1c, ⟨x1a, y1a⟩, ⟨x1b, y1b⟩, ⟨x1c, y1c⟩, bp1, bf1, bb1, K1, k1, ⟨⟨cp1a, fp1a⟩, ⟨cp1b, fp1b⟩, cp1c, fp1c⟩, ⟨⟨cf1a, ff1a⟩, ⟨cf1b, ff1b⟩, cf1c, ff1c⟩, ⟨cb1a, fb1a⟩, ⟨cb1b, fb1b⟩, cb1c, fb1c⟩ := stF q0 q1 q2 kq (.int .u8 F.r) (.int .u8 F.g) (.int .u8 F.b); obtain ⟨V2a, V2b, V2, e2a, e2b, e2c, ⟨x2a, y2a⟩, ⟨x2b, y2b⟩, ⟨x2c, y2c⟩, bp2, bf2, bb2, K2, k2, ⟨⟨cp2a, fp2a⟩, ⟨cp2b, fp2b⟩, cp2c, fp2c⟩, ⟨⟨cf2a, ff2a⟩, ⟨cf2b, ff2b⟩, cf2c, ff2c⟩, ⟨cb2a, fb2a⟩, ⟨cb2b, fb2b⟩, cb2c, fb2c⟩ := stB bp1 bf1 bb1 K1 (.int .u8 B.r) (.int .u8 B.g) (.int .u8 B.b); have HP2 := Lib.hid bp2; have HF2 := Lib.hid bf2; have HB2 := Lib.hid bb2; have HK2 := Lib.hid K2; clear bp1 bf1 bb1 bp2 bf2 bb2 k1 k2 K1 K2 q0 q1 q2 kq)))
   all_goals as_aux_lemma =>
    clear hkp0 hkq
    obtain ⟨V3, e3⟩ : ∃ V, V2.setCell ⟨w.heap.size + 1, 0, none⟩ (.int .u8 (F.r / 2)) = V := ⟨_, rfl⟩
    have bf3 : V3.heap[w.heap.size + 1]? = some (.cells #[.int .u8 (F.r / 2), .int .u8 F.g, .int .u8 F.b] 210 (0, 0)) := by rw [<- e3]; exact blk_set HF2.out 0 _
    have k3 : Kept (fun i => i = w.heap.size + 1) V2 V3 := by rw [<- e3]; exact (Kept.refl (fun i => i = w.heap.size + 1) _).setCell (p := ⟨w.heap.size + 1, 0, none⟩) (.inl rfl) _
    have bp3 := k3.blk HP2.out (fun (h : w.heap.size = w.heap.size + 1) => by omega)
    have bb3 := k3.blk HB2.out (fun (h : w.heap.size + 1 + 1 = w.heap.size + 1) => by omega)
    have K3 := HK2.out.trans (k3.mono fun i _ hi => Or.inr (by have h9 : i = w.heap.size + 1 := hi; omega))
    obtain ⟨⟨cp3a, fp3a⟩, ⟨cp3b, fp3b⟩, cp3c, fp3c⟩ := blk3 bp3
    obtain ⟨⟨cf3a, ff3a⟩, ⟨cf3b, ff3b⟩, cf3c, ff3c⟩ := blk3 bf3
    obtain ⟨⟨cb3a, fb3a⟩, ⟨cb3b, fb3b⟩, cb3c, fb3c⟩ := blk3 bb3
    obtain ⟨V4, e4⟩ : ∃ V, V3.setCell ⟨w.heap.size + 1, 1, none⟩ (.int .u8 (F.g / 2)) = V := ⟨_, rfl⟩
    have bf4 : V4.heap[w.heap.size + 1]? = some (.cells #[.int .u8 (F.r / 2), .int .u8 (F.g / 2), .int .u8 F.b] 210 (0, 0)) := by rw [<- e4]; exact blk_set bf3 1 _
    have k4 : Kept (fun i => i = w.heap.size + 1) V3 V4 := by rw [<- e4]; exact (Kept.refl (fun i => i = w.heap.size + 1) _).setCell (p := ⟨w.heap.size + 1, 1, none⟩) (.inl rfl) _
    have bp4 := k4.blk bp3 (fun (h : w.heap.size = w.heap.size + 1) => by omega)
    have bb4 := k4.blk bb3 (fun (h : w.heap.size + 1 + 1 = w.heap.size + 1) => by omega)
    have K4 := K3.trans (k4.mono fun i _ hi => Or.inr (by have h9 : i = w.heap.size + 1 := hi; omega))
    obtain ⟨⟨cp4a, fp4a⟩, ⟨cp4b, fp4b⟩, cp4c, fp4c⟩ := blk3 bp4
    obtain ⟨⟨cf4a, ff4a⟩, ⟨cf4b, ff4b⟩, cf4c, ff4c⟩ := blk3 bf4
    obtain ⟨⟨cb4a, fb4a⟩, ⟨cb4b, fb4b⟩, cb4c, fb4c⟩ := blk3 bb4
    obtain ⟨V5, e5⟩ : ∃ V, V4.setCell ⟨w.heap.size + 1, 2, none⟩ (.int .u8 (F.b / 2)) = V := ⟨_, rfl⟩
    have bf5 : V5.heap[w.heap.size + 1]? = some (.cells #[.int .u8 (F.r / 2), .int .u8 (F.g / 2), .int .u8 (F.b / 2)] 210 (0, 0)) := by rw [<- e5]; exact blk_set bf4 2 _
    have k5 : Kept (fun i => i = w.heap.size + 1) V4 V5 := by rw [<- e5]; exact (Kept.refl (fun i => i = w.heap.size + 1) _).setCell (p := ⟨w.heap.size + 1, 2, none⟩) (.inl rfl) _
    have bp5 := k5.blk bp4 (fun (h : w.heap.size = w.heap.size + 1) => by omega)
    have bb5 := k5.blk bb4 (fun (h : w.heap.size + 1 + 1 = w.heap.size + 1) => by omega)
    have K5 := K4.trans (k5.mono fun i _ hi => Or.inr (by have h9 : i = w.heap.size + 1 := hi; omega))
    obtain ⟨⟨cp5a, fp5a⟩, ⟨cp5b, fp5b⟩, cp5c, fp5c⟩ := blk3 bp5
    obtain ⟨⟨cf5a, ff5a⟩, ⟨cf5b, ff5b⟩, cf5c, ff5c⟩ := blk3 bf5
    obtain ⟨⟨cb5a, fb5a⟩, ⟨cb5b, fb5b⟩, cb5c, fb5c⟩ := blk3 bb5
    obtain ⟨V6a, V6b, V6, e6a, e6b, e6c, ⟨x6a, y6a⟩, ⟨x6b, y6b⟩, ⟨x6c, y6c⟩, bp6, bf6, bb6, K6, k6, ⟨⟨cp6a, fp6a⟩, ⟨cp6b, fp6b⟩, cp6c, fp6c⟩, ⟨⟨cf6a, ff6a⟩, ⟨cf6b, ff6b⟩, cf6c, ff6c⟩, ⟨cb6a, fb6a⟩, ⟨cb6b, fb6b⟩, cb6c, fb6c⟩ := stF bp5 bf5 bb5 K5 (.int .u8 B.r) (.int .u8 B.g) (.int .u8 B.b)
    obtain ⟨V7a, V7b, V7, e7a, e7b, e7c, ⟨x7a, y7a⟩, ⟨x7b, y7b⟩, ⟨x7c, y7c⟩, bp7, bf7, bb7, K7, k7, ⟨⟨cp7a, fp7a⟩, ⟨cp7b, fp7b⟩, cp7c, fp7c⟩, ⟨⟨cf7a, ff7a⟩, ⟨cf7b, ff7b⟩, cf7c, ff7c⟩, ⟨cb7a, fb7a⟩, ⟨cb7b, fb7b⟩, cb7c, fb7c⟩ := stF bp6 bf6 bb6 K6 (.int .u8 B.r) (.int .u8 B.g) (.int .u8 B.b)
    obtain ⟨V8a, V8b, V8, e8a, e8b, e8c, ⟨x8a, y8a⟩, ⟨x8b, y8b⟩, ⟨x8c, y8c⟩, bp8, bf8, bb8, K8, k8, ⟨⟨cp8a, fp8a⟩, ⟨cp8b, fp8b⟩, cp8c, fp8c⟩, ⟨⟨cf8a, ff8a⟩, ⟨cf8b, ff8b⟩, cf8c, ff8c⟩, ⟨cb8a, fb8a⟩, ⟨cb8b, fb8b⟩, cb8c, fb8c⟩ := stB bp7 bf7 bb7 K7 (.int .u8 B.r) (.int .u8 B.g) (.int .u8 B.b)
    have HK := Lib.hid K8
    clear bp3  bf3  bb3  bp4  bf4  bb4  bp5  bf5  bb5  bp6  bf6  bb6  bp7  bf7  bb7  bp8  bf8  bb8 k3 K3 k4 K4 k5 K5 k6 K6 k7 K7 k8 K8
    go_wp2
    refine wp_loop_rounds 4 ?_
    rw [rounds_succ]
    go_wp2
    rw [rounds_succ]
    go_wp2
    rw [rounds_succ]
    go_wp2
    rw [rounds_succ]
    go_wp2
    go_region
    all_goals go_wp2
    all_goals
     exact bodyPost_ret (v := .tuple #[.agg #[.int .u8 B.r, .int .u8 B.g, .int .u8 B.b], .agg #[.int .u8 B.r, .int .u8 B.g, .int .u8 B.b]]) (by simp [results, Tryz.results538, go_sem, *]) rfl ⟨by rw [HCOL.out]; rfl, HK.out.drew⟩
set_option maxRecDepth 100000 in
set_option maxHeartbeats 8000000 in
theorem cols13_fin (a : Look) (w : World) (h2 : hasB a.fl 2 = true) (h32 : hasB a.fl 32 = true) (h64 : hasB a.fl 64 = false) :
  Calls Tryz.prog 538 #[lookV a] w (ColsPost a w) := by
 obtain ⟨fg, bg, fl⟩ := a
 have hcol : colors ⟨fg, bg, fl⟩ = (let F := colour fg true; let B := colour bg false; (⟨B.r, B.g, B.b⟩, ⟨(F.r / 2), (F.g / 2), (F.b / 2)⟩)) := by unfold colors; simp only [h2, h32, h64, if_true, if_false, Bool.false_eq_true, Rgb.half]
 obtain ⟨F, hF⟩ : ∃ F, colour fg true = F := ⟨_, rfl⟩
 obtain ⟨B, hB⟩ : ∃ B, colour bg false = B := ⟨_, rfl⟩
 have hFB := colour_isB fg true
 have hBB := colour_isB bg false
 rw [hF] at hFB
 rw [hB] at hBB
 simp only [hF, hB] at hcol
 obtain ⟨⟨F0, F1⟩, ⟨F2, F3⟩, F4, F5⟩ := hFB
 obtain ⟨⟨B0, B1⟩, ⟨B2, B3⟩, B4, B5⟩ := hBB
 have HF := Lib.hid (show ∀ w, Calls Tryz.prog 542 #[.int .i64 fg, .bool true] w fun e w' => e = .returned (.agg #[.int .u8 F.r, .int .u8 F.g, .int .u8 F.b]) /\ Kept (fun _ => False) w w' from fun w => by have h := colr_any fg true w; rw [hF] at h; exact h)
 have HB := Lib.hid (show ∀ w, Calls Tryz.prog 542 #[.int .i64 bg, .bool false] w fun e w' => e = .returned (.agg #[.int .u8 B.r, .int .u8 B.g, .int .u8 B.b]) /\ Kept (fun _ => False) w w' from fun w => by have h := colr_any bg false w; rw [hB] at h; exact h)
 have HCOL := Lib.hid hcol
 obtain ⟨z2, hz2⟩ : ∃ z, bits .and .i64 fl 2 = z := ⟨_, rfl⟩
 obtain ⟨z32, hz32⟩ : ∃ z, bits .and .i64 fl 32 = z := ⟨_, rfl⟩
 obtain ⟨z64, hz64⟩ : ∃ z, bits .and .i64 fl 64 = z := ⟨_, rfl⟩
 unfold hasB at h2 h32 h64
 simp only [hz2] at h2
 simp only [hz32] at h32
 simp only [hz64] at h64
 clear hF hB hcol
 obtain ⟨W, hW⟩ : ∃ W, ((w.alloc (.cells #[.int .i64 fg, .int .i64 bg, .int .i64 fl] 53)).alloc (.cells #[.int .u8 0, .int .u8 0, .int .u8 0] 210)).alloc (.cells #[.int .u8 0, .int .u8 0, .int .u8 0] 210) = W := ⟨_, rfl⟩
 have kW : Kept (fun _ => False) w W := by rw [<- hW]; exact (((Kept.refl _ w).alloc _).alloc _).alloc _
 have bp0 : W.heap[w.heap.size]? = some (.cells #[.int .i64 fg, .int .i64 bg, .int .i64 fl] 53 (0, 0)) := by rw [<- hW]; exact blk_alloc (blk_alloc (blk_new _ _) _) _
 have bf0 : W.heap[w.heap.size + 1]? = some (.cells #[.int .u8 0, .int .u8 0, .int .u8 0] 210 (0, 0)) := by rw [<- hW]; exact blk_alloc (blk_at _ _ (by simp)) _
 have bb0 : W.heap[w.heap.size + 1 + 1]? = some (.cells #[.int .u8 0, .int .u8 0, .int .u8 0] 210 (0, 0)) := by rw [<- hW]; exact blk_at _ _ (by simp)
 have HP := Lib.hid bp0
 have HF0 := Lib.hid bf0
 have HB0 := Lib.hid bb0
 have HKW := Lib.hid kW
 obtain ⟨⟨cp0a, fp0a⟩, ⟨cp0b, fp0b⟩, cp0c, fp0c⟩ := blk3 bp0
 clear kW bp0 bf0 bb0
 unfold lookV
 have hkp0 : Kept (fun _ => False) W W.drew := (Kept.refl _ _).drew
 go_enter Tryz.func538, Tryz.ntmps538
 go_wp2
 go_region_held3 (fun w' => w'.cell? ⟨w.heap.size, 0, none⟩ = some (.int .i64 fg) /\ w'.cell? ⟨w.heap.size, 1, none⟩ = some (.int .i64 bg)) (first | ((go_keep; done)) | (go_split_ands; all_goals go_keep)) ((go_at_call 542; first
  | ((with_reducible refine Calls.mono (HF.out _) ?_); (rintro e w1 ⟨rfl, hk⟩); (have hkq := (show Kept (fun _ => False) W w1 from by first | exact hkq.then hk | exact hkp0.then hk)); clear hk; have kq := HKW.out.then hkq; have q0 := hkq.blk HP.out id; have q1 := hkq.blk HF0.out id; have q2 := hkq.blk HB0.out id; obtain ⟨⟨cp0a, fp0a⟩, ⟨cp0b, fp0b⟩, cp0c, fp0c⟩ := blk3 q0; obtain ⟨⟨cf0a, ff0a⟩, ⟨cf0b, ff0b⟩, cf0c, ff0c⟩ := blk3 q1; obtain ⟨⟨cb0a, fb0a⟩, ⟨cb0b, fb0b⟩, cb0c, fb0c⟩ := blk3 q2; obtain ⟨V1a, V1b, V1, e1a, e1b, e1c, ⟨x1a, y1a⟩, ⟨x1b, y1b⟩, ⟨x1c, y1c⟩, bp1, bf1, bb1, K1, k1, ⟨⟨cp1a, fp1a⟩, ⟨cp1b, fp1b⟩, cp1c, fp1c⟩, ⟨⟨cf1a, ff1a⟩, ⟨cf1b, ff1b⟩, cf1c, ff1c⟩, ⟨cb1a, fb1a⟩, ⟨cb1b, fb1b⟩, cb1c, fb1c⟩ := stF q0 q1 q2 kq (.int .u8 F.r) (.int .u8 F.g) (.int .u8 F.b); obtain ⟨V2a, V2b, V2, e2a, e2b, e2c, ⟨x2a, y2a⟩, ⟨x2b, y2b⟩, ⟨x2c, y2c⟩, bp2, bf2, bb2, K2, k2, ⟨⟨cp2a, fp2a⟩, ⟨cp2b, fp2b⟩, cp2c, fp2c⟩, ⟨⟨cf2a, ff2a⟩, ⟨cf2b, ff2b⟩, cf2c, ff2c⟩, ⟨cb2a, fb2a⟩, ⟨cb2b, fb2b⟩, cb2c, fb2c⟩ := stB bp1 bf1 bb1 K1 (.int .u8 B.r) (.int .u8 B.g) (.int .u8 B.b); have HP2 := Lib.hid bp2; have HF2 := Lib.hid bf2; have HB2 := Lib.hid bb2; have HK2 := Lib.hid K2; clear bp1 bf1 bb1 bp2 bf2 bb2 k1 k2 K1 K2 q0 q1 q2 kq)
  | ((with_reducible refine Calls.mono (HB.out _) ?_); (rintro e w1 ⟨rfl, hk⟩); (have hkq := (show Kept (fun _ => False) W w1 from by first | exact hkq.then hk | exact hkp0.then hk)); clear hk; have kq := HKW.out.then hkq; have q0 := hkq.blk HP.out id; have q1 := hkq.blk HF0.out id; have q2 := hkq.blk HB0.out id; obtain ⟨⟨cp0a, fp0a⟩, ⟨cp0b, fp0b⟩, cp0c, fp0c⟩ := blk3 q0; obtain ⟨⟨cf0a, ff0a⟩, ⟨cf0b, ff0b⟩, cf0c, ff0c⟩ := blk3 q1; obtain ⟨⟨cb0a, fb0a⟩, ⟨cb0b, fb0b⟩, cb0c, fb0c⟩ := blk3 q2; obtain ⟨V1a, V1b, V1, e1a, e1b, e1c, ⟨x1a, y1a⟩, ⟨x1b, y1b⟩, ⟨x1c, y1c⟩, bp1, bf1, bb1, K1, k1, ⟨⟨cp1a, fp1a⟩, ⟨cp1b, fp1b⟩, cp1c, fp1c⟩, ⟨⟨cf1a, ff1a⟩, ⟨cf1b, ff1b⟩, cf1c, ff1c⟩, ⟨cb1a, fb1a⟩, ⟨cb1b, fb1b⟩, cb1c, fb1c⟩ := stF q0 q1 q2 kq (.int .u8 F.r) (.int .u8 F.g) (.int .u8 F.b); obtain ⟨V2a, V2b, V2, e2a, e2b, e2c, ⟨x2a, y2a⟩, ⟨x2b, y2b⟩, ⟨x2c, y2c⟩, bp2, bf2, bb2, K2, k2, ⟨⟨cp2a, fp2a⟩, ⟨cp2b, fp2b⟩, cp2c, fp2c⟩, ⟨⟨cf2a, ff2a⟩, ⟨cf2b, ff2b⟩, cf2c, ff2c⟩, ⟨cb2a, fb2a⟩, ⟨cb2b, fb2b⟩, cb2c, fb2c⟩ := stB bp1 bf1 bb1 K1 (.int .u8 B.r) (.int .u8 B.g) (.int .u8 B.b); have HP2 := Lib.hid bp2; have HF2 := Lib.hid bf2; have HB2 := Lib.hid bb2; have HK2 := Lib.hid K2; clear bp1 bf1 bb1 bp2 bf2 bb2 k1 k2 K1 K2 q0 q1 q2 kq)))
 all_goals as_aux_lemma =>
  clear hkp0 hkq
  obtain ⟨V3, e3⟩ : ∃ V, V2.setCell ⟨w.heap.size + 1, 0, none⟩ (.int .u8 (F.r / 2)) = V := ⟨_, rfl⟩
  have bf3 : V3.heap[w.heap.size + 1]? = some (.cells #[.int .u8 (F.r / 2), .int .u8 F.g, .int .u8 F.b] 210 (0, 0)) := by rw [<- e3]; exact blk_set HF2.out 0 _
  have k3 : Kept (fun i => i = w.heap.size + 1) V2 V3 := by rw [<- e3]; exact (Kept.refl (fun i => i = w.heap.size + 1) _).setCell (p := ⟨w.heap.size + 1, 0, none⟩) (.inl rfl) _
  have bp3 := k3.blk HP2.out (fun (h : w.heap.size = w.heap.size + 1) => by omega)
  have bb3 := k3.blk HB2.out (fun (h : w.heap.size + 1 + 1 = w.heap.size + 1) => by omega)
  have K3 := HK2.out.trans (k3.mono fun i _ hi => Or.inr (by have h9 : i = w.heap.size + 1 := hi; omega))
  obtain ⟨⟨cp3a, fp3a⟩, ⟨cp3b, fp3b⟩, cp3c, fp3c⟩ := blk3 bp3
  obtain ⟨⟨cf3a, ff3a⟩, ⟨cf3b, ff3b⟩, cf3c, ff3c⟩ := blk3 bf3
  obtain ⟨⟨cb3a, fb3a⟩, ⟨cb3b, fb3b⟩, cb3c, fb3c⟩ := blk3 bb3
  obtain ⟨V4, e4⟩ : ∃ V, V3.setCell ⟨w.heap.size + 1, 1, none⟩ (.int .u8 (F.g / 2)) = V := ⟨_, rfl⟩
  have bf4 : V4.heap[w.heap.size + 1]? = some (.cells #[.int .u8 (F.r / 2), .int .u8 (F.g / 2), .int .u8 F.b] 210 (0, 0)) := by rw [<- e4]; exact blk_set bf3 1 _
  have k4 : Kept (fun i => i = w.heap.size + 1) V3 V4 := by rw [<- e4]; exact (Kept.refl (fun i => i = w.heap.size + 1) _).setCell (p := ⟨w.heap.size + 1, 1, none⟩) (.inl rfl) _
  have bp4 := k4.blk bp3 (fun (h : w.heap.size = w.heap.size + 1) => by omega)
  have bb4 := k4.blk bb3 (fun (h : w.heap.size + 1 + 1 = w.heap.size + 1) => by omega)
  have K4 := K3.trans (k4.mono fun i _ hi => Or.inr (by have h9 : i = w.heap.size + 1 := hi; omega))
  obtain ⟨⟨cp4a, fp4a⟩, ⟨cp4b, fp4b⟩, cp4c, fp4c⟩ := blk3 bp4
  obtain ⟨⟨cf4a, ff4a⟩, ⟨cf4b, ff4b⟩, cf4c, ff4c⟩ := blk3 bf4
  obtain ⟨⟨cb4a, fb4a⟩, ⟨cb4b, fb4b⟩, cb4c, fb4c⟩ := blk3 bb4
  obtain ⟨V5, e5⟩ : ∃ V, V4.setCell ⟨w.heap.size + 1, 2, none⟩ (.int .u8 (F.b / 2)) = V := ⟨_, rfl⟩
  have bf5 : V5.heap[w.heap.size + 1]? = some (.cells #[.int .u8 (F.r / 2), .int .u8 (F.g / 2), .int .u8 (F.b / 2)] 210 (0, 0)) := by rw [<- e5]; exact blk_set bf4 2 _
  have k5 : Kept (fun i => i = w.heap.size + 1) V4 V5 := by rw [<- e5]; exact (Kept.refl (fun i => i = w.heap.size + 1) _).setCell (p := ⟨w.heap.size + 1, 2, none⟩) (.inl rfl) _
  have bp5 := k5.blk bp4 (fun (h : w.heap.size = w.heap.size + 1) => by omega)
  have bb5 := k5.blk bb4 (fun (h : w.heap.size + 1 + 1 = w.heap.size + 1) => by omega)
  have K5 := K4.trans (k5.mono fun i _ hi => Or.inr (by have h9 : i = w.heap.size + 1 := hi; omega))
  obtain ⟨⟨cp5a, fp5a⟩, ⟨cp5b, fp5b⟩, cp5c, fp5c⟩ := blk3 bp5
  obtain ⟨⟨cf5a, ff5a⟩, ⟨cf5b, ff5b⟩, cf5c, ff5c⟩ := blk3 bf5
  obtain ⟨⟨cb5a, fb5a⟩, ⟨cb5b, fb5b⟩, cb5c, fb5c⟩ := blk3 bb5
  obtain ⟨V6a, V6b, V6, e6a, e6b, e6c, ⟨x6a, y6a⟩, ⟨x6b, y6b⟩, ⟨x6c, y6c⟩, bp6, bf6, bb6, K6, k6, ⟨⟨cp6a, fp6a⟩, ⟨cp6b, fp6b⟩, cp6c, fp6c⟩, ⟨⟨cf6a, ff6a⟩, ⟨cf6b, ff6b⟩, cf6c, ff6c⟩, ⟨cb6a, fb6a⟩, ⟨cb6b, fb6b⟩, cb6c, fb6c⟩ := stF bp5 bf5 bb5 K5 (.int .u8 B.r) (.int .u8 B.g) (.int .u8 B.b)
  obtain ⟨V7a, V7b, V7, e7a, e7b, e7c, ⟨x7a, y7a⟩, ⟨x7b, y7b⟩, ⟨x7c, y7c⟩, bp7, bf7, bb7, K7, k7, ⟨⟨cp7a, fp7a⟩, ⟨cp7b, fp7b⟩, cp7c, fp7c⟩, ⟨⟨cf7a, ff7a⟩, ⟨cf7b, ff7b⟩, cf7c, ff7c⟩, ⟨cb7a, fb7a⟩, ⟨cb7b, fb7b⟩, cb7c, fb7c⟩ := stB bp6 bf6 bb6 K6 (.int .u8 (F.r / 2)) (.int .u8 (F.g / 2)) (.int .u8 (F.b / 2))
  obtain ⟨V8a, V8b, V8, e8a, e8b, e8c, ⟨x8a, y8a⟩, ⟨x8b, y8b⟩, ⟨x8c, y8c⟩, bp8, bf8, bb8, K8, k8, ⟨⟨cp8a, fp8a⟩, ⟨cp8b, fp8b⟩, cp8c, fp8c⟩, ⟨⟨cf8a, ff8a⟩, ⟨cf8b, ff8b⟩, cf8c, ff8c⟩, ⟨cb8a, fb8a⟩, ⟨cb8b, fb8b⟩, cb8c, fb8c⟩ := stF bp7 bf7 bb7 K7 (.int .u8 B.r) (.int .u8 B.g) (.int .u8 B.b)
  obtain ⟨V9a, V9b, V9, e9a, e9b, e9c, ⟨x9a, y9a⟩, ⟨x9b, y9b⟩, ⟨x9c, y9c⟩, bp9, bf9, bb9, K9, k9, ⟨⟨cp9a, fp9a⟩, ⟨cp9b, fp9b⟩, cp9c, fp9c⟩, ⟨⟨cf9a, ff9a⟩, ⟨cf9b, ff9b⟩, cf9c, ff9c⟩, ⟨cb9a, fb9a⟩, ⟨cb9b, fb9b⟩, cb9c, fb9c⟩ := stB bp8 bf8 bb8 K8 (.int .u8 (F.r / 2)) (.int .u8 (F.g / 2)) (.int .u8 (F.b / 2))
  have HK := Lib.hid K9
  clear bp3  bf3  bb3  bp4  bf4  bb4  bp5  bf5  bb5  bp6  bf6  bb6  bp7  bf7  bb7  bp8  bf8  bb8  bp9  bf9  bb9 k3 K3 k4 K4 k5 K5 k6 K6 k7 K7 k8 K8 k9 K9
  go_wp2
  refine wp_loop_rounds 4 ?_
  rw [rounds_succ]
  go_wp2
  rw [rounds_succ]
  go_wp2
  rw [rounds_succ]
  go_wp2
  rw [rounds_succ]
  go_wp2
  go_region
  all_goals go_wp2
  all_goals
   exact bodyPost_ret (v := .tuple #[.agg #[.int .u8 B.r, .int .u8 B.g, .int .u8 B.b], .agg #[.int .u8 (F.r / 2), .int .u8 (F.g / 2), .int .u8 (F.b / 2)]]) (by simp [results, Tryz.results538, go_sem, *]) rfl ⟨by rw [HCOL.out]; rfl, HK.out.drew⟩
set_option maxRecDepth 100000 in
set_option maxHeartbeats 8000000 in
theorem cols13_fih (a : Look) (w : World) (h2 : hasB a.fl 2 = true) (h32 : hasB a.fl 32 = true) (h64 : hasB a.fl 64 = true) :
  Calls Tryz.prog 538 #[lookV a] w (ColsPost a w) := by
 obtain ⟨fg, bg, fl⟩ := a
 have hcol : colors ⟨fg, bg, fl⟩ = (let F := colour fg true; let B := colour bg false; (⟨(F.r / 2), (F.g / 2), (F.b / 2)⟩, ⟨(F.r / 2), (F.g / 2), (F.b / 2)⟩)) := by unfold colors; simp only [h2, h32, h64, if_true, if_false, Bool.false_eq_true, Rgb.half]
 obtain ⟨F, hF⟩ : ∃ F, colour fg true = F := ⟨_, rfl⟩
 obtain ⟨B, hB⟩ : ∃ B, colour bg false = B := ⟨_, rfl⟩
 have hFB := colour_isB fg true
 have hBB := colour_isB bg false
 rw [hF] at hFB
 rw [hB] at hBB
 simp only [hF, hB] at hcol
 obtain ⟨⟨F0, F1⟩, ⟨F2, F3⟩, F4, F5⟩ := hFB
 obtain ⟨⟨B0, B1⟩, ⟨B2, B3⟩, B4, B5⟩ := hBB
 have HF := Lib.hid (show ∀ w, Calls Tryz.prog 542 #[.int .i64 fg, .bool true] w fun e w' => e = .returned (.agg #[.int .u8 F.r, .int .u8 F.g, .int .u8 F.b]) /\ Kept (fun _ => False) w w' from fun w => by have h := colr_any fg true w; rw [hF] at h; exact h)
 have HB := Lib.hid (show ∀ w, Calls Tryz.prog 542 #[.int .i64 bg, .bool false] w fun e w' => e = .returned (.agg #[.int .u8 B.r, .int .u8 B.g, .int .u8 B.b]) /\ Kept (fun _ => False) w w' from fun w => by have h := colr_any bg false w; rw [hB] at h; exact h)
 have HCOL := Lib.hid hcol
 obtain ⟨z2, hz2⟩ : ∃ z, bits .and .i64 fl 2 = z := ⟨_, rfl⟩
 obtain ⟨z32, hz32⟩ : ∃ z, bits .and .i64 fl 32 = z := ⟨_, rfl⟩
 obtain ⟨z64, hz64⟩ : ∃ z, bits .and .i64 fl 64 = z := ⟨_, rfl⟩
 unfold hasB at h2 h32 h64
 simp only [hz2] at h2
 simp only [hz32] at h32
 simp only [hz64] at h64
 clear hF hB hcol
 obtain ⟨W, hW⟩ : ∃ W, ((w.alloc (.cells #[.int .i64 fg, .int .i64 bg, .int .i64 fl] 53)).alloc (.cells #[.int .u8 0, .int .u8 0, .int .u8 0] 210)).alloc (.cells #[.int .u8 0, .int .u8 0, .int .u8 0] 210) = W := ⟨_, rfl⟩
 have kW : Kept (fun _ => False) w W := by rw [<- hW]; exact (((Kept.refl _ w).alloc _).alloc _).alloc _
 have bp0 : W.heap[w.heap.size]? = some (.cells #[.int .i64 fg, .int .i64 bg, .int .i64 fl] 53 (0, 0)) := by rw [<- hW]; exact blk_alloc (blk_alloc (blk_new _ _) _) _
 have bf0 : W.heap[w.heap.size + 1]? = some (.cells #[.int .u8 0, .int .u8 0, .int .u8 0] 210 (0, 0)) := by rw [<- hW]; exact blk_alloc (blk_at _ _ (by simp)) _
 have bb0 : W.heap[w.heap.size + 1 + 1]? = some (.cells #[.int .u8 0, .int .u8 0, .int .u8 0] 210 (0, 0)) := by rw [<- hW]; exact blk_at _ _ (by simp)
 have HP := Lib.hid bp0
 have HF0 := Lib.hid bf0
 have HB0 := Lib.hid bb0
 have HKW := Lib.hid kW
 obtain ⟨⟨cp0a, fp0a⟩, ⟨cp0b, fp0b⟩, cp0c, fp0c⟩ := blk3 bp0
 clear kW bp0 bf0 bb0
 unfold lookV
 by_cases hq : B.r = (F.r / 2) /\ B.g = (F.g / 2) /\ B.b = (F.b / 2)
 ·as_aux_lemma =>
   have HNE := fun w => (show (binOp .neq 210 (.agg #[.int .u8 B.r, .int .u8 B.g, .int .u8 B.b]) (.agg #[.int .u8 (F.r / 2), .int .u8 (F.g / 2), .int .u8 (F.b / 2)])).run Tryz.prog w = .ok (.bool false) w from by rw [run_neRgb]; simp [hq])
   have hqg := @run_eqGuard_agg Tryz.prog
   have HQ := Lib.hid hq
   clear hq
   have hkp0 : Kept (fun _ => False) W W.drew := (Kept.refl _ _).drew
   go_enter Tryz.func538, Tryz.ntmps538
   go_wp2
   go_region_held3 (fun w' => w'.cell? ⟨w.heap.size, 0, none⟩ = some (.int .i64 fg) /\ w'.cell? ⟨w.heap.size, 1, none⟩ = some (.int .i64 bg)) (first | ((go_keep; done)) | (go_split_ands; all_goals go_keep)) ((go_at_call 542; first
    | ((with_reducible refine Calls.mono (HF.out _) ?_); (rintro e w1 ⟨rfl, hk⟩); (have hkq := (show Kept (fun _ => False) W w1 from by first | exact hkq.then hk | exact hkp0.then hk)); clear hk; have kq := HKW.out.then hkq; have q0 := hkq.blk HP.out id; have q1 := hkq.blk HF0.out id; have q2 := hkq.blk HB0.out id; obtain ⟨⟨cp0a, fp0a⟩, ⟨cp0b, fp0b⟩, cp0c, fp0c⟩ := blk3 q0; obtain ⟨⟨cf0a, ff0a⟩, ⟨cf0b, ff0b⟩, cf0c, ff0c⟩ := blk3 q1; obtain ⟨⟨cb0a, fb0a⟩, ⟨cb0b, fb0b⟩, cb0c, fb0c⟩ := blk3 q2; obtain ⟨V1a, V1b, V1, e1a, e1b, e1c, ⟨x1a, y1a⟩, ⟨x1b, y1b⟩, ⟨x1c, y1c⟩, bp1, bf1, bb1, K1, k1, ⟨⟨cp1a, fp1a⟩, ⟨cp1b, fp1b⟩, cp1c, fp1c⟩, ⟨⟨cf1a, ff1a⟩, ⟨cf1b, ff1b⟩, cf1c, ff1c⟩, ⟨cb1a, fb1a⟩, ⟨cb1b, fb1b⟩, cb1c, fb1c⟩ := stF q0 q1 q2 kq (.int .u8 F.r) (.int .u8 F.g) (.int .u8 F.b); obtain ⟨V2a, V2b, V2, e2a, e2b, e2c, ⟨x2a, y2a⟩, ⟨x2b, y2b⟩, ⟨x2c, y2c⟩, bp2, bf2, bb2, K2, k2, ⟨⟨cp2a, fp2a⟩, ⟨cp2b, fp2b⟩, cp2c, fp2c⟩, ⟨⟨cf2a, ff2a⟩, ⟨cf2b, ff2b⟩, cf2c, ff2c⟩, ⟨cb2a, fb2a⟩, ⟨cb2b, fb2b⟩, cb2c, fb2c⟩ := stB bp1 bf1 bb1 K1 (.int .u8 B.r) (.int .u8 B.g) (.int .u8 B.b); have HP2 := Lib.hid bp2; have HF2 := Lib.hid bf2; have HB2 := Lib.hid bb2; have HK2 := Lib.hid K2; clear bp1 bf1 bb1 bp2 bf2 bb2 k1 k2 K1 K2 q0 q1 q2 kq)
    | ((with_reducible refine Calls.mono (HB.out _) ?_); (rintro e w1 ⟨rfl, hk⟩); (have hkq := (show Kept (fun _ => False) W w1 from by first | exact hkq.then hk | exact hkp0.then hk)); clear hk; have kq := HKW.out.then hkq; have q0 := hkq.blk HP.out id; have q1 := hkq.blk HF0.out id; have q2 := hkq.blk HB0.out id; obtain ⟨⟨cp0a, fp0a⟩, ⟨cp0b, fp0b⟩, cp0c, fp0c⟩ := blk3 q0; obtain ⟨⟨cf0a, ff0a⟩, ⟨cf0b, ff0b⟩, cf0c, ff0c⟩ := blk3 q1; obtain ⟨⟨cb0a, fb0a⟩, ⟨cb0b, fb0b⟩, cb0c, fb0c⟩ := blk3 q2; obtain ⟨V1a, V1b, V1, e1a, e1b, e1c, ⟨x1a, y1a⟩, ⟨x1b, y1b⟩, ⟨x1c, y1c⟩, bp1, bf1, bb1, K1, k1, ⟨⟨cp1a, fp1a⟩, ⟨cp1b, fp1b⟩, cp1c, fp1c⟩, ⟨⟨cf1a, ff1a⟩, ⟨cf1b, ff1b⟩, cf1c, ff1c⟩, ⟨cb1a, fb1a⟩, ⟨cb1b, fb1b⟩, cb1c, fb1c⟩ := stF q0 q1 q2 kq (.int .u8 F.r) (.int .u8 F.g) (.int .u8 F.b); obtain ⟨V2a, V2b, V2, e2a, e2b, e2c, ⟨x2a, y2a⟩, ⟨x2b, y2b⟩, ⟨x2c, y2c⟩, bp2, bf2, bb2, K2, k2, ⟨⟨cp2a, fp2a⟩, ⟨cp2b, fp2b⟩, cp2c, fp2c⟩, ⟨⟨cf2a, ff2a⟩, ⟨cf2b, ff2b⟩, cf2c, ff2c⟩, ⟨cb2a, fb2a⟩, ⟨cb2b, fb2b⟩, cb2c, fb2c⟩ := stB bp1 bf1 bb1 K1 (.int .u8 B.r) (.int .u8 B.g) (.int .u8 B.b); have HP2 := Lib.hid bp2; have HF2 := Lib.hid bf2; have HB2 := Lib.hid bb2; have HK2 := Lib.hid K2; clear bp1 bf1 bb1 bp2 bf2 bb2 k1 k2 K1 K2 q0 q1 q2 kq)))
   all_goals as_aux_lemma =>
    clear hkp0 hkq
    obtain ⟨V3, e3⟩ : ∃ V, V2.setCell ⟨w.heap.size + 1, 0, none⟩ (.int .u8 (F.r / 2)) = V := ⟨_, rfl⟩
    have bf3 : V3.heap[w.heap.size + 1]? = some (.cells #[.int .u8 (F.r / 2), .int .u8 F.g, .int .u8 F.b] 210 (0, 0)) := by rw [<- e3]; exact blk_set HF2.out 0 _
    have k3 : Kept (fun i => i = w.heap.size + 1) V2 V3 := by rw [<- e3]; exact (Kept.refl (fun i => i = w.heap.size + 1) _).setCell (p := ⟨w.heap.size + 1, 0, none⟩) (.inl rfl) _
    have bp3 := k3.blk HP2.out (fun (h : w.heap.size = w.heap.size + 1) => by omega)
    have bb3 := k3.blk HB2.out (fun (h : w.heap.size + 1 + 1 = w.heap.size + 1) => by omega)
    have K3 := HK2.out.trans (k3.mono fun i _ hi => Or.inr (by have h9 : i = w.heap.size + 1 := hi; omega))
    obtain ⟨⟨cp3a, fp3a⟩, ⟨cp3b, fp3b⟩, cp3c, fp3c⟩ := blk3 bp3
    obtain ⟨⟨cf3a, ff3a⟩, ⟨cf3b, ff3b⟩, cf3c, ff3c⟩ := blk3 bf3
    obtain ⟨⟨cb3a, fb3a⟩, ⟨cb3b, fb3b⟩, cb3c, fb3c⟩ := blk3 bb3
    obtain ⟨V4, e4⟩ : ∃ V, V3.setCell ⟨w.heap.size + 1, 1, none⟩ (.int .u8 (F.g / 2)) = V := ⟨_, rfl⟩
    have bf4 : V4.heap[w.heap.size + 1]? = some (.cells #[.int .u8 (F.r / 2), .int .u8 (F.g / 2), .int .u8 F.b] 210 (0, 0)) := by rw [<- e4]; exact blk_set bf3 1 _
    have k4 : Kept (fun i => i = w.heap.size + 1) V3 V4 := by rw [<- e4]; exact (Kept.refl (fun i => i = w.heap.size + 1) _).setCell (p := ⟨w.heap.size + 1, 1, none⟩) (.inl rfl) _
    have bp4 := k4.blk bp3 (fun (h : w.heap.size = w.heap.size + 1) => by omega)
    have bb4 := k4.blk bb3 (fun (h : w.heap.size + 1 + 1 = w.heap.size + 1) => by omega)
    have K4 := K3.trans (k4.mono fun i _ hi => Or.inr (by have h9 : i = w.heap.size + 1 := hi; omega))
    obtain ⟨⟨cp4a, fp4a⟩, ⟨cp4b, fp4b⟩, cp4c, fp4c⟩ := blk3 bp4
    obtain ⟨⟨cf4a, ff4a⟩, ⟨cf4b, ff4b⟩, cf4c, ff4c⟩ := blk3 bf4
    obtain ⟨⟨cb4a, fb4a⟩, ⟨cb4b, fb4b⟩, cb4c, fb4c⟩ := blk3 bb4
    obtain ⟨V5, e5⟩ : ∃ V, V4.setCell ⟨w.heap.size + 1, 2, none⟩ (.int .u8 (F.b / 2)) = V := ⟨_, rfl⟩
    have bf5 : V5.heap[w.heap.size + 1]? = some (.cells #[.int .u8 (F.r / 2), .int .u8 (F.g / 2), .int .u8 (F.b / 2)] 210 (0, 0)) := by rw [<- e5]; exact blk_set bf4 2 _
    have k5 : Kept (fun i => i = w.heap.size + 1) V4 V5 := by rw [<- e5]; exact (Kept.refl (fun i => i = w.heap.size + 1) _).setCell (p := ⟨w.heap.size + 1, 2, none⟩) (.inl rfl) _
    have bp5 := k5.blk bp4 (fun (h : w.heap.size = w.heap.size + 1) => by omega)
    have bb5 := k5.blk bb4 (fun (h : w.heap.size + 1 + 1 = w.heap.size + 1) => by omega)
    have K5 := K4.trans (k5.mono fun i _ hi => Or.inr (by have h9 : i = w.heap.size + 1 := hi; omega))
    obtain ⟨⟨cp5a, fp5a⟩, ⟨cp5b, fp5b⟩, cp5c, fp5c⟩ := blk3 bp5
    obtain ⟨⟨cf5a, ff5a⟩, ⟨cf5b, ff5b⟩, cf5c, ff5c⟩ := blk3 bf5
    obtain ⟨⟨cb5a, fb5a⟩, ⟨cb5b, fb5b⟩, cb5c, fb5c⟩ := blk3 bb5
    obtain ⟨V6a, V6b, V6, e6a, e6b, e6c, ⟨x6a, y6a⟩, ⟨x6b, y6b⟩, ⟨x6c, y6c⟩, bp6, bf6, bb6, K6, k6, ⟨⟨cp6a, fp6a⟩, ⟨cp6b, fp6b⟩, cp6c, fp6c⟩, ⟨⟨cf6a, ff6a⟩, ⟨cf6b, ff6b⟩, cf6c, ff6c⟩, ⟨cb6a, fb6a⟩, ⟨cb6b, fb6b⟩, cb6c, fb6c⟩ := stF bp5 bf5 bb5 K5 (.int .u8 B.r) (.int .u8 B.g) (.int .u8 B.b)
    obtain ⟨V7a, V7b, V7, e7a, e7b, e7c, ⟨x7a, y7a⟩, ⟨x7b, y7b⟩, ⟨x7c, y7c⟩, bp7, bf7, bb7, K7, k7, ⟨⟨cp7a, fp7a⟩, ⟨cp7b, fp7b⟩, cp7c, fp7c⟩, ⟨⟨cf7a, ff7a⟩, ⟨cf7b, ff7b⟩, cf7c, ff7c⟩, ⟨cb7a, fb7a⟩, ⟨cb7b, fb7b⟩, cb7c, fb7c⟩ := stB bp6 bf6 bb6 K6 (.int .u8 (F.r / 2)) (.int .u8 (F.g / 2)) (.int .u8 (F.b / 2))
    obtain ⟨V8a, V8b, V8, e8a, e8b, e8c, ⟨x8a, y8a⟩, ⟨x8b, y8b⟩, ⟨x8c, y8c⟩, bp8, bf8, bb8, K8, k8, ⟨⟨cp8a, fp8a⟩, ⟨cp8b, fp8b⟩, cp8c, fp8c⟩, ⟨⟨cf8a, ff8a⟩, ⟨cf8b, ff8b⟩, cf8c, ff8c⟩, ⟨cb8a, fb8a⟩, ⟨cb8b, fb8b⟩, cb8c, fb8c⟩ := stF bp7 bf7 bb7 K7 (.int .u8 B.r) (.int .u8 B.g) (.int .u8 B.b)
    obtain ⟨V9a, V9b, V9, e9a, e9b, e9c, ⟨x9a, y9a⟩, ⟨x9b, y9b⟩, ⟨x9c, y9c⟩, bp9, bf9, bb9, K9, k9, ⟨⟨cp9a, fp9a⟩, ⟨cp9b, fp9b⟩, cp9c, fp9c⟩, ⟨⟨cf9a, ff9a⟩, ⟨cf9b, ff9b⟩, cf9c, ff9c⟩, ⟨cb9a, fb9a⟩, ⟨cb9b, fb9b⟩, cb9c, fb9c⟩ := stB bp8 bf8 bb8 K8 (.int .u8 (F.r / 2)) (.int .u8 (F.g / 2)) (.int .u8 (F.b / 2))
    have HK := Lib.hid K9
    clear bp3  bf3  bb3  bp4  bf4  bb4  bp5  bf5  bb5  bp6  bf6  bb6  bp7  bf7  bb7  bp8  bf8  bb8  bp9  bf9  bb9 k3 K3 k4 K4 k5 K5 k6 K6 k7 K7 k8 K8 k9 K9
    go_wp2
    refine wp_loop_rounds 4 ?_
    rw [rounds_succ]
    go_wp2
    rw [rounds_succ]
    go_wp2
    rw [rounds_succ]
    go_wp2
    rw [rounds_succ]
    go_wp2
    go_region
    all_goals go_wp2
    all_goals
     exact bodyPost_ret (v := .tuple #[.agg #[.int .u8 B.r, .int .u8 B.g, .int .u8 B.b], .agg #[.int .u8 (F.r / 2), .int .u8 (F.g / 2), .int .u8 (F.b / 2)]]) (by simp [results, Tryz.results538, go_sem, *]) rfl ⟨by rw [HCOL.out]; obtain ⟨q1, q2, q3⟩ := HQ.out; simp [rgbV, q1, q2, q3], HK.out.drew⟩
 ·as_aux_lemma =>
   have HNE := fun w => (show (binOp .neq 210 (.agg #[.int .u8 B.r, .int .u8 B.g, .int .u8 B.b]) (.agg #[.int .u8 (F.r / 2), .int .u8 (F.g / 2), .int .u8 (F.b / 2)])).run Tryz.prog w = .ok (.bool true) w from by rw [run_neRgb]; simp; omega)
   have hqg := @run_eqGuard_agg Tryz.prog
   have HQ := Lib.hid hq
   clear hq
   have hkp0 : Kept (fun _ => False) W W.drew := (Kept.refl _ _).drew
   go_enter Tryz.func538, Tryz.ntmps538
   go_wp2
   go_region_held3 (fun w' => w'.cell? ⟨w.heap.size, 0, none⟩ = some (.int .i64 fg) /\ w'.cell? ⟨w.heap.size, 1, none⟩ = some (.int .i64 bg)) (first | ((go_keep; done)) | (go_split_ands; all_goals go_keep)) ((go_at_call 542; first
    | ((with_reducible refine Calls.mono (HF.out _) ?_); (rintro e w1 ⟨rfl, hk⟩); (have hkq := (show Kept (fun _ => False) W w1 from by first | exact hkq.then hk | exact hkp0.then hk)); clear hk; have kq := HKW.out.then hkq; have q0 := hkq.blk HP.out id; have q1 := hkq.blk HF0.out id; have q2 := hkq.blk HB0.out id; obtain ⟨⟨cp0a, fp0a⟩, ⟨cp0b, fp0b⟩, cp0c, fp0c⟩ := blk3 q0; obtain ⟨⟨cf0a, ff0a⟩, ⟨cf0b, ff0b⟩, cf0c, ff0c⟩ := blk3 q1; obtain ⟨⟨cb0a, fb0a⟩, ⟨cb0b, fb0b⟩, cb0c, fb0c⟩ := blk3 q2; obtain ⟨V1a, V1b, V1, e1a, e1b, e1c, ⟨x1a, y1a⟩, ⟨x1b, y1b⟩, ⟨x1c, y1c⟩, bp1, bf1, bb1, K1, k1, ⟨⟨cp1a, fp1a⟩, ⟨cp1b, fp1b⟩, cp1c, fp1c⟩, ⟨⟨cf1a, ff1a⟩, ⟨cf1b, ff1b⟩, cf1c, ff1c⟩, ⟨cb1a, fb1a⟩, ⟨cb1b, fb1b⟩, cb1c, fb1c⟩ := stF q0 q1 q2 kq (.int .u8 F.r) (.int .u8 F.g) (.int .u8 F.b); obtain ⟨V2a, V2b, V2, e2a, e2b, e2c, ⟨x2a, y2a⟩, ⟨x2b, y2b⟩, ⟨x2c, y2c⟩, bp2, bf2, bb2, K2, k2, ⟨⟨cp2a, fp2a⟩, ⟨cp2b, fp2b⟩, cp2c, fp2c⟩, ⟨⟨cf2a, ff2a⟩, ⟨cf2b, ff2b⟩, cf2c, ff2c⟩, ⟨cb2a, fb2a⟩, ⟨cb2b, fb2b⟩, cb2c, fb2c⟩ := stB bp1 bf1 bb1 K1 (.int .u8 B.r) (.int .u8 B.g) (.int .u8 B.b); have HP2 := Lib.hid bp2; have HF2 := Lib.hid bf2; have HB2 := Lib.hid bb2; have HK2 := Lib.hid K2; clear bp1 bf1 bb1 bp2 bf2 bb2 k1 k2 K1 K2 q0 q1 q2 kq)
    | ((with_reducible refine Calls.mono (HB.out _) ?_); (rintro e w1 ⟨rfl, hk⟩); (have hkq := (show Kept (fun _ => False) W w1 from by first | exact hkq.then hk | exact hkp0.then hk)); clear hk; have kq := HKW.out.then hkq; have q0 := hkq.blk HP.out id; have q1 := hkq.blk HF0.out id; have q2 := hkq.blk HB0.out id; obtain ⟨⟨cp0a, fp0a⟩, ⟨cp0b, fp0b⟩, cp0c, fp0c⟩ := blk3 q0; obtain ⟨⟨cf0a, ff0a⟩, ⟨cf0b, ff0b⟩, cf0c, ff0c⟩ := blk3 q1; obtain ⟨⟨cb0a, fb0a⟩, ⟨cb0b, fb0b⟩, cb0c, fb0c⟩ := blk3 q2; obtain ⟨V1a, V1b, V1, e1a, e1b, e1c, ⟨x1a, y1a⟩, ⟨x1b, y1b⟩, ⟨x1c, y1c⟩, bp1, bf1, bb1, K1, k1, ⟨⟨cp1a, fp1a⟩, ⟨cp1b, fp1b⟩, cp1c, fp1c⟩, ⟨⟨cf1a, ff1a⟩, ⟨cf1b, ff1b⟩, cf1c, ff1c⟩, ⟨cb1a, fb1a⟩, ⟨cb1b, fb1b⟩, cb1c, fb1c⟩ := stF q0 q1 q2 kq (.int .u8 F.r) (.int .u8 F.g) (.int .u8 F.b); obtain ⟨V2a, V2b, V2, e2a, e2b, e2c, ⟨x2a, y2a⟩, ⟨x2b, y2b⟩, ⟨x2c, y2c⟩, bp2, bf2, bb2, K2, k2, ⟨⟨cp2a, fp2a⟩, ⟨cp2b, fp2b⟩, cp2c, fp2c⟩, ⟨⟨cf2a, ff2a⟩, ⟨cf2b, ff2b⟩, cf2c, ff2c⟩, ⟨cb2a, fb2a⟩, ⟨cb2b, fb2b⟩, cb2c, fb2c⟩ := stB bp1 bf1 bb1 K1 (.int .u8 B.r) (.int .u8 B.g) (.int .u8 B.b); have HP2 := Lib.hid bp2; have HF2 := Lib.hid bf2; have HB2 := Lib.hid bb2; have HK2 := Lib.hid K2; clear bp1 bf1 bb1 bp2 bf2 bb2 k1 k2 K1 K2 q0 q1 q2 kq)))
   all_goals as_aux_lemma =>
    clear hkp0 hkq
    obtain ⟨V3, e3⟩ : ∃ V, V2.setCell ⟨w.heap.size + 1, 0, none⟩ (.int .u8 (F.r / 2)) = V := ⟨_, rfl⟩
    have bf3 : V3.heap[w.heap.size + 1]? = some (.cells #[.int .u8 (F.r / 2), .int .u8 F.g, .int .u8 F.b] 210 (0, 0)) := by rw [<- e3]; exact blk_set HF2.out 0 _
    have k3 : Kept (fun i => i = w.heap.size + 1) V2 V3 := by rw [<- e3]; exact (Kept.refl (fun i => i = w.heap.size + 1) _).setCell (p := ⟨w.heap.size + 1, 0, none⟩) (.inl rfl) _
    have bp3 := k3.blk HP2.out (fun (h : w.heap.size = w.heap.size + 1) => by omega)
    have bb3 := k3.blk HB2.out (fun (h : w.heap.size + 1 + 1 = w.heap.size + 1) => by omega)
    have K3 := HK2.out.trans (k3.mono fun i _ hi => Or.inr (by have h9 : i = w.heap.size + 1 := hi; omega))
    obtain ⟨⟨cp3a, fp3a⟩, ⟨cp3b, fp3b⟩, cp3c, fp3c⟩ := blk3 bp3
    obtain ⟨⟨cf3a, ff3a⟩, ⟨cf3b, ff3b⟩, cf3c, ff3c⟩ := blk3 bf3
    obtain ⟨⟨cb3a, fb3a⟩, ⟨cb3b, fb3b⟩, cb3c, fb3c⟩ := blk3 bb3
    obtain ⟨V4, e4⟩ : ∃ V, V3.setCell ⟨w.heap.size + 1, 1, none⟩ (.int .u8 (F.g / 2)) = V := ⟨_, rfl⟩
    have bf4 : V4.heap[w.heap.size + 1]? = some (.cells #[.int .u8 (F.r / 2), .int .u8 (F.g / 2), .int .u8 F.b] 210 (0, 0)) := by rw [<- e4]; exact blk_set bf3 1 _
    have k4 : Kept (fun i => i = w.heap.size + 1) V3 V4 := by rw [<- e4]; exact (Kept.refl (fun i => i = w.heap.size + 1) _).setCell (p := ⟨w.heap.size + 1, 1, none⟩) (.inl rfl) _
    have bp4 := k4.blk bp3 (fun (h : w.heap.size = w.heap.size + 1) => by omega)
    have bb4 := k4.blk bb3 (fun (h : w.heap.size + 1 + 1 = w.heap.size + 1) => by omega)
    have K4 := K3.trans (k4.mono fun i _ hi => Or.inr (by have h9 : i = w.heap.size + 1 := hi; omega))
    obtain ⟨⟨cp4a, fp4a⟩, ⟨cp4b, fp4b⟩, cp4c, fp4c⟩ := blk3 bp4
    obtain ⟨⟨cf4a, ff4a⟩, ⟨cf4b, ff4b⟩, cf4c, ff4c⟩ := blk3 bf4
    obtain ⟨⟨cb4a, fb4a⟩, ⟨cb4b, fb4b⟩, cb4c, fb4c⟩ := blk3 bb4
    obtain ⟨V5, e5⟩ : ∃ V, V4.setCell ⟨w.heap.size + 1, 2, none⟩ (.int .u8 (F.b / 2)) = V := ⟨_, rfl⟩
    have bf5 : V5.heap[w.heap.size + 1]? = some (.cells #[.int .u8 (F.r / 2), .int .u8 (F.g / 2), .int .u8 (F.b / 2)] 210 (0, 0)) := by rw [<- e5]; exact blk_set bf4 2 _
    have k5 : Kept (fun i => i = w.heap.size + 1) V4 V5 := by rw [<- e5]; exact (Kept.refl (fun i => i = w.heap.size + 1) _).setCell (p := ⟨w.heap.size + 1, 2, none⟩) (.inl rfl) _
    have bp5 := k5.blk bp4 (fun (h : w.heap.size = w.heap.size + 1) => by omega)
    have bb5 := k5.blk bb4 (fun (h : w.heap.size + 1 + 1 = w.heap.size + 1) => by omega)
    have K5 := K4.trans (k5.mono fun i _ hi => Or.inr (by have h9 : i = w.heap.size + 1 := hi; omega))
    obtain ⟨⟨cp5a, fp5a⟩, ⟨cp5b, fp5b⟩, cp5c, fp5c⟩ := blk3 bp5
    obtain ⟨⟨cf5a, ff5a⟩, ⟨cf5b, ff5b⟩, cf5c, ff5c⟩ := blk3 bf5
    obtain ⟨⟨cb5a, fb5a⟩, ⟨cb5b, fb5b⟩, cb5c, fb5c⟩ := blk3 bb5
    obtain ⟨V6a, V6b, V6, e6a, e6b, e6c, ⟨x6a, y6a⟩, ⟨x6b, y6b⟩, ⟨x6c, y6c⟩, bp6, bf6, bb6, K6, k6, ⟨⟨cp6a, fp6a⟩, ⟨cp6b, fp6b⟩, cp6c, fp6c⟩, ⟨⟨cf6a, ff6a⟩, ⟨cf6b, ff6b⟩, cf6c, ff6c⟩, ⟨cb6a, fb6a⟩, ⟨cb6b, fb6b⟩, cb6c, fb6c⟩ := stF bp5 bf5 bb5 K5 (.int .u8 B.r) (.int .u8 B.g) (.int .u8 B.b)
    obtain ⟨V7a, V7b, V7, e7a, e7b, e7c, ⟨x7a, y7a⟩, ⟨x7b, y7b⟩, ⟨x7c, y7c⟩, bp7, bf7, bb7, K7, k7, ⟨⟨cp7a, fp7a⟩, ⟨cp7b, fp7b⟩, cp7c, fp7c⟩, ⟨⟨cf7a, ff7a⟩, ⟨cf7b, ff7b⟩, cf7c, ff7c⟩, ⟨cb7a, fb7a⟩, ⟨cb7b, fb7b⟩, cb7c, fb7c⟩ := stB bp6 bf6 bb6 K6 (.int .u8 (F.r / 2)) (.int .u8 (F.g / 2)) (.int .u8 (F.b / 2))
    obtain ⟨V8a, V8b, V8, e8a, e8b, e8c, ⟨x8a, y8a⟩, ⟨x8b, y8b⟩, ⟨x8c, y8c⟩, bp8, bf8, bb8, K8, k8, ⟨⟨cp8a, fp8a⟩, ⟨cp8b, fp8b⟩, cp8c, fp8c⟩, ⟨⟨cf8a, ff8a⟩, ⟨cf8b, ff8b⟩, cf8c, ff8c⟩, ⟨cb8a, fb8a⟩, ⟨cb8b, fb8b⟩, cb8c, fb8c⟩ := stF bp7 bf7 bb7 K7 (.int .u8 (F.r / 2)) (.int .u8 (F.g / 2)) (.int .u8 (F.b / 2))
    obtain ⟨V9a, V9b, V9, e9a, e9b, e9c, ⟨x9a, y9a⟩, ⟨x9b, y9b⟩, ⟨x9c, y9c⟩, bp9, bf9, bb9, K9, k9, ⟨⟨cp9a, fp9a⟩, ⟨cp9b, fp9b⟩, cp9c, fp9c⟩, ⟨⟨cf9a, ff9a⟩, ⟨cf9b, ff9b⟩, cf9c, ff9c⟩, ⟨cb9a, fb9a⟩, ⟨cb9b, fb9b⟩, cb9c, fb9c⟩ := stF bp8 bf8 bb8 K8 (.int .u8 (F.r / 2)) (.int .u8 (F.g / 2)) (.int .u8 (F.b / 2))
    obtain ⟨V10a, V10b, V10, e10a, e10b, e10c, ⟨x10a, y10a⟩, ⟨x10b, y10b⟩, ⟨x10c, y10c⟩, bp10, bf10, bb10, K10, k10, ⟨⟨cp10a, fp10a⟩, ⟨cp10b, fp10b⟩, cp10c, fp10c⟩, ⟨⟨cf10a, ff10a⟩, ⟨cf10b, ff10b⟩, cf10c, ff10c⟩, ⟨cb10a, fb10a⟩, ⟨cb10b, fb10b⟩, cb10c, fb10c⟩ := stB bp9 bf9 bb9 K9 (.int .u8 (F.r / 2)) (.int .u8 (F.g / 2)) (.int .u8 (F.b / 2))
    have HK := Lib.hid K10
    clear bp3  bf3  bb3  bp4  bf4  bb4  bp5  bf5  bb5  bp6  bf6  bb6  bp7  bf7  bb7  bp8  bf8  bb8  bp9  bf9  bb9  bp10  bf10  bb10 k3 K3 k4 K4 k5 K5 k6 K6 k7 K7 k8 K8 k9 K9 k10 K10
    go_wp2
    refine wp_loop_rounds 4 ?_
    rw [rounds_succ]
    go_wp2
    rw [rounds_succ]
    go_wp2
    rw [rounds_succ]
    go_wp2
    rw [rounds_succ]
    go_wp2
    go_region
    all_goals go_wp2
    all_goals
     exact bodyPost_ret (v := .tuple #[.agg #[.int .u8 (F.r / 2), .int .u8 (F.g / 2), .int .u8 (F.b / 2)], .agg #[.int .u8 (F.r / 2), .int .u8 (F.g / 2), .int .u8 (F.b / 2)]]) (by simp [results, Tryz.results538, go_sem, *]) rfl ⟨by rw [HCOL.out]; rfl, HK.out.drew⟩
theorem cols_any (a : Look) (w : World) : Calls Tryz.prog 538 #[lookV a] w (ColsPost a w) := by
 cases h2 : hasB a.fl 2 <;> cases h32 : hasB a.fl 32 <;> cases h64 : hasB a.fl 64
 ·exact cols13_nnn a w h2 h32 h64
 ·exact cols13_nnh a w h2 h32 h64
 ·exact cols13_nin a w h2 h32 h64
 ·exact cols13_nih a w h2 h32 h64
 ·exact cols13_fnn a w h2 h32 h64
 ·exact cols13_fnh a w h2 h32 h64
 ·exact cols13_fin a w h2 h32 h64
 ·exact cols13_fih a w h2 h32 h64
end Go.Proofs.YtmplpcmcbliadaaGreatDoor
