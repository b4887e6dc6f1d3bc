/- The colours of an attribute: both sides. -/
import Derived.Test.YtdjgmhbfohbenaaCol
import Derived.Test.YtdjgmhbfohbenaaKnown0
import Derived.Deep.RegionHeld3
namespace Go.Proofs.Ytdjgmhbfohbenaa
open Go.RowKit Pl
set_option linter.unusedVariables false
set_option linter.unusedSimpArgs false
set_option maxRecDepth 100000 in
set_option maxHeartbeats 4000000 in
theorem colr_none (c : Int) (fore : Bool) (h : ¬ c = 0 ∧ ¬ (16777216 ≤ c ∧ c < 16777472) ∧ ¬ (33554432 ≤ c ∧ c < 50331648)) (w : World) : Calls Try.prog 72 #[.int .i64 c, .bool fore] w (RgbPost ⟨0, 0, 0⟩ w) := by
  obtain ⟨W, hW⟩ : ∃ W, w.alloc (.cells #[.int .u8 0, .int .u8 0, .int .u8 0] 96) = W := ⟨_, rfl⟩
  have b0 : W.heap[w.heap.size]? = some (.cells #[.int .u8 0, .int .u8 0, .int .u8 0] 96 (0, 0)) := by rw [← hW]; exact blk_new _ _
  have kW : Kept (fun _ => False) w W := by rw [← hW]; exact (Kept.refl _ w).alloc _
  obtain ⟨V1, V2, V3, e1, e2, e3, ⟨c0, f0⟩, ⟨c1, f1⟩, ⟨c2, f2⟩, bV, kV⟩ := store3 b0 (.int .u8 (0)) (.int .u8 (0)) (.int .u8 (0))
  obtain ⟨⟨m0, -⟩, ⟨m1, -⟩, m2, -⟩ := blk3 bV
  have HK := Lib.hid (show Kept (fun _ => False) w V3 from kW.trans (kV.mono fun i _ hi => Or.inr (by have h9 : i = w.heap.size := hi; omega)))
  clear kW kV b0 bV
  have g0 : (c == 0) = false := by simp; omega
  have hcb : colB c = false := decide_eq_false (by omega)
  have HC := Lib.hid (show ∀ w, Calls Try.prog 78 #[.int .i64 c] w fun e w' => e = .returned (.bool false) ∧ w = w' from fun w => by have h := color_any c w; rw [hcb] at h; exact h)
  clear hcb
  clear h
  go_enter Try.func72, Try.ntmps72
  go_wp2_with fail
  refine (HC.out _).mono ?_; rintro e w' ⟨rfl, rfl⟩
  go_wp2
  exact bodyPost_ret (v := .agg #[.int .u8 (0), .int .u8 (0), .int .u8 (0)]) (by simp [results, Try.results72, go_sem, m0, m1, m2]) rfl ⟨rfl, HK.out⟩

set_option maxRecDepth 100000 in
set_option maxHeartbeats 4000000 in
theorem colr_back0 (w : World) : Calls Try.prog 72 #[.int .i64 0, .bool false] w (RgbPost ⟨0, 0, 0⟩ w) := by
  obtain ⟨W, hW⟩ : ∃ W, w.alloc (.cells #[.int .u8 0, .int .u8 0, .int .u8 0] 96) = W := ⟨_, rfl⟩
  have b0 : W.heap[w.heap.size]? = some (.cells #[.int .u8 0, .int .u8 0, .int .u8 0] 96 (0, 0)) := by rw [← hW]; exact blk_new _ _
  have kW : Kept (fun _ => False) w W := by rw [← hW]; exact (Kept.refl _ w).alloc _
  obtain ⟨V1, V2, V3, e1, e2, e3, ⟨c0, f0⟩, ⟨c1, f1⟩, ⟨c2, f2⟩, bV, kV⟩ := store3 b0 (.int .u8 (0)) (.int .u8 (0)) (.int .u8 (0))
  obtain ⟨⟨m0, -⟩, ⟨m1, -⟩, m2, -⟩ := blk3 bV
  have HK := Lib.hid (show Kept (fun _ => False) w V3 from kW.trans (kV.mono fun i _ hi => Or.inr (by have h9 : i = w.heap.size := hi; omega)))
  clear kW kV b0 bV
  have HC := Lib.hid (show ∀ w, Calls Try.prog 78 #[.int .i64 0] w fun e w' => e = .returned (.bool true) ∧ w = w' from fun w => color_any 0 w)
  go_enter Try.func72, Try.ntmps72
  go_wp2_with fail
  refine (HC.out _).mono ?_; rintro e w' ⟨rfl, rfl⟩
  go_wp2
  exact bodyPost_ret (v := .agg #[.int .u8 (0), .int .u8 (0), .int .u8 (0)]) (by simp [results, Try.results72, go_sem, m0, m1, m2]) rfl ⟨rfl, HK.out⟩

set_option maxRecDepth 100000 in
set_option maxHeartbeats 4000000 in
theorem colr_fore0 (w : World) : Calls Try.prog 72 #[.int .i64 0, .bool true] w (RgbPost ⟨229, 229, 229⟩ w) := by
  obtain ⟨W, hW⟩ : ∃ W, w.alloc (.cells #[.int .u8 0, .int .u8 0, .int .u8 0] 96) = W := ⟨_, rfl⟩
  have b0 : W.heap[w.heap.size]? = some (.cells #[.int .u8 0, .int .u8 0, .int .u8 0] 96 (0, 0)) := by rw [← hW]; exact blk_new _ _
  have kW : Kept (fun _ => False) w W := by rw [← hW]; exact (Kept.refl _ w).alloc _
  have HC := Lib.hid (show ∀ w, Calls Try.prog 78 #[.int .i64 0] w fun e w' => e = .returned (.bool true) ∧ w = w' from fun w => color_any 0 w)
  obtain ⟨C, hC⟩ : ∃ C, rgb 15066597 = C := ⟨_, rfl⟩
  have HF := Lib.hid (show ∀ w, Calls Try.prog 79 #[.int .i64 15066597] w (RgbPost C w) from fun w => by have h := direct_any 15066597 (by omega) w; rw [hC] at h; exact h)
  unfold RgbPost rgbV at HF
  have hC' : (⟨229, 229, 229⟩ : Rgb) = C := by rw [← hC]; rfl
  rw [hC']
  clear hC hC'
  go_enter Try.func72, Try.ntmps72
  go_wp2_with fail
  refine (HC.out _).mono ?_; rintro e w' ⟨rfl, rfl⟩
  go_wp2_with fail
  refine (HF.out _).mono ?_; rintro e w1 ⟨rfl, hk⟩
  have b1 := hk.blk b0 id
  obtain ⟨V1, V2, V3, e1, e2, e3, ⟨c0, f0⟩, ⟨c1, f1⟩, ⟨c2, f2⟩, bV, kV⟩ := store3 b1 (.int .u8 C.r) (.int .u8 C.g) (.int .u8 C.b)
  obtain ⟨⟨m0, -⟩, ⟨m1, -⟩, m2, -⟩ := blk3 bV
  have HK := Lib.hid (show Kept (fun _ => False) w V3 from (kW.then hk).trans (kV.mono fun i _ hi => Or.inr (by have h9 : i = w.heap.size := hi; omega)))
  clear hk kW kV b0 b1 bV
  go_wp2
  exact bodyPost_ret (v := .agg #[.int .u8 (C.r), .int .u8 (C.g), .int .u8 (C.b)]) (by simp [results, Try.results72, go_sem, m0, m1, m2]) rfl ⟨rfl, HK.out⟩

set_option maxRecDepth 100000 in
set_option maxHeartbeats 4000000 in
theorem colr_pal (c : Int) (fore : Bool) (h1 : 16777216 ≤ c) (h2 : c < 16777472) (w : World) : Calls Try.prog 72 #[.int .i64 c, .bool fore] w (RgbPost (basic (c - 16777216)) w) := by
  obtain ⟨W, hW⟩ : ∃ W, w.alloc (.cells #[.int .u8 0, .int .u8 0, .int .u8 0] 96) = W := ⟨_, rfl⟩
  have b0 : W.heap[w.heap.size]? = some (.cells #[.int .u8 0, .int .u8 0, .int .u8 0] 96 (0, 0)) := by rw [← hW]; exact blk_new _ _
  have kW : Kept (fun _ => False) w W := by rw [← hW]; exact (Kept.refl _ w).alloc _
  have g0 : (c == 0) = false := by simp; omega
  have g1 : decide (16777216 ≤ c) = true := decide_eq_true (by omega)
  have g2 : decide (c ≤ 16777471) = true := decide_eq_true (by omega)
  have g3 : decide (c < 33554432) = true := decide_eq_true (by omega)
  obtain ⟨C, hC⟩ : ∃ C, basic (c - 16777216) = C := ⟨_, rfl⟩
  have HF := Lib.hid (show ∀ w, Calls Try.prog 80 #[.int .i64 (c - 16777216)] w (RgbPost C w) from fun w => by have h := basic_any (c - 16777216) w; rw [hC] at h; exact h)
  unfold RgbPost rgbV at HF
  rw [hC]
  clear hC
  have hcb : colB c = true := decide_eq_true (by omega)
  have HC := Lib.hid (show ∀ w, Calls Try.prog 78 #[.int .i64 c] w fun e w' => e = .returned (.bool true) ∧ w = w' from fun w => by have h := color_any c w; rw [hcb] at h; exact h)
  clear hcb
  go_enter Try.func72, Try.ntmps72
  go_wp2_with fail
  refine (HC.out _).mono ?_; rintro e w' ⟨rfl, rfl⟩
  go_wp2_with fail
  refine (HF.out _).mono ?_; rintro e w1 ⟨rfl, hk⟩
  have b1 := hk.blk b0 id
  obtain ⟨V1, V2, V3, e1, e2, e3, ⟨c0, f0⟩, ⟨c1, f1⟩, ⟨c2, f2⟩, bV, kV⟩ := store3 b1 (.int .u8 C.r) (.int .u8 C.g) (.int .u8 C.b)
  obtain ⟨⟨m0, -⟩, ⟨m1, -⟩, m2, -⟩ := blk3 bV
  have HK := Lib.hid (show Kept (fun _ => False) w V3 from (kW.then hk).trans (kV.mono fun i _ hi => Or.inr (by have h9 : i = w.heap.size := hi; omega)))
  clear hk kW kV b0 b1 bV
  go_wp2
  exact bodyPost_ret (v := .agg #[.int .u8 (C.r), .int .u8 (C.g), .int .u8 (C.b)]) (by simp [results, Try.results72, go_sem, m0, m1, m2]) rfl ⟨rfl, HK.out⟩

set_option maxRecDepth 100000 in
set_option maxHeartbeats 4000000 in
theorem colr_dir (c : Int) (fore : Bool) (h1 : 33554432 ≤ c) (h2 : c < 50331648) (w : World) : Calls Try.prog 72 #[.int .i64 c, .bool fore] w (RgbPost (rgb (c - 33554432)) w) := by
  obtain ⟨W, hW⟩ : ∃ W, w.alloc (.cells #[.int .u8 0, .int .u8 0, .int .u8 0] 96) = W := ⟨_, rfl⟩
  have b0 : W.heap[w.heap.size]? = some (.cells #[.int .u8 0, .int .u8 0, .int .u8 0] 96 (0, 0)) := by rw [← hW]; exact blk_new _ _
  have kW : Kept (fun _ => False) w W := by rw [← hW]; exact (Kept.refl _ w).alloc _
  have g0 : (c == 0) = false := by simp; omega
  have g3 : decide (c < 33554432) = false := decide_eq_false (by omega)
  obtain ⟨C, hC⟩ : ∃ C, rgb (c - 33554432) = C := ⟨_, rfl⟩
  have HF := Lib.hid (show ∀ w, Calls Try.prog 79 #[.int .i64 (c - 33554432)] w (RgbPost C w) from fun w => by have h := direct_any (c - 33554432) (by omega) w; rw [hC] at h; exact h)
  unfold RgbPost rgbV at HF
  rw [hC]
  clear hC
  have hcb : colB c = true := decide_eq_true (by omega)
  have HC := Lib.hid (show ∀ w, Calls Try.prog 78 #[.int .i64 c] w fun e w' => e = .returned (.bool true) ∧ w = w' from fun w => by have h := color_any c w; rw [hcb] at h; exact h)
  clear hcb
  go_enter Try.func72, Try.ntmps72
  go_wp2_with fail
  refine (HC.out _).mono ?_; rintro e w' ⟨rfl, rfl⟩
  go_wp2_with fail
  refine (HF.out _).mono ?_; rintro e w1 ⟨rfl, hk⟩
  have b1 := hk.blk b0 id
  obtain ⟨V1, V2, V3, e1, e2, e3, ⟨c0, f0⟩, ⟨c1, f1⟩, ⟨c2, f2⟩, bV, kV⟩ := store3 b1 (.int .u8 C.r) (.int .u8 C.g) (.int .u8 C.b)
  obtain ⟨⟨m0, -⟩, ⟨m1, -⟩, m2, -⟩ := blk3 bV
  have HK := Lib.hid (show Kept (fun _ => False) w V3 from (kW.then hk).trans (kV.mono fun i _ hi => Or.inr (by have h9 : i = w.heap.size := hi; omega)))
  clear hk kW kV b0 b1 bV
  go_wp2
  exact bodyPost_ret (v := .agg #[.int .u8 (C.r), .int .u8 (C.g), .int .u8 (C.b)]) (by simp [results, Try.results72, go_sem, m0, m1, m2]) rfl ⟨rfl, HK.out⟩

theorem colr_any (c : Int) (fore : Bool) (w : World) : Calls Try.prog 72 #[.int .i64 c, .bool fore] w (RgbPost (colour c fore) w) := by
  by_cases h0 : c = 0
  · subst h0
    cases fore with
    | true => exact colr_fore0 w
    | false =>
      have e : colour 0 false = ⟨0, 0, 0⟩ := by unfold colour; rw [if_neg (by simp), if_neg (by omega), if_neg (by omega)]
      rw [e]; exact colr_back0 w
  unfold colour
  rw [if_neg (fun h => h0 h.1)]
  split
  · rename_i h; exact colr_pal c fore h.1 h.2 w
  split
  · rename_i h1 h
    exact colr_dir c fore h.1 h.2 w
  · rename_i h1 h2; exact colr_none c fore ⟨h0, h1, h2⟩ w

set_option maxRecDepth 100000 in
set_option maxHeartbeats 4000000 in
theorem rcolr_none (c : Int) (fore : Bool) (h : ¬ c = 0 ∧ ¬ (16777216 ≤ c ∧ c < 16777472) ∧ ¬ (33554432 ≤ c ∧ c < 50331648)) (w : World) : Calls Try.prog 66 #[.int .i64 c, .bool fore] w (RgbPost ⟨0, 0, 0⟩ w) := by
  obtain ⟨W, hW⟩ : ∃ W, w.alloc (.cells #[.int .u8 0, .int .u8 0, .int .u8 0] 96) = W := ⟨_, rfl⟩
  have b0 : W.heap[w.heap.size]? = some (.cells #[.int .u8 0, .int .u8 0, .int .u8 0] 96 (0, 0)) := by rw [← hW]; exact blk_new _ _
  have kW : Kept (fun _ => False) w W := by rw [← hW]; exact (Kept.refl _ w).alloc _
  obtain ⟨V1, V2, V3, e1, e2, e3, ⟨c0, f0⟩, ⟨c1, f1⟩, ⟨c2, f2⟩, bV, kV⟩ := store3 b0 (.int .u8 (0)) (.int .u8 (0)) (.int .u8 (0))
  obtain ⟨⟨m0, -⟩, ⟨m1, -⟩, m2, -⟩ := blk3 bV
  have HK := Lib.hid (show Kept (fun _ => False) w V3 from kW.trans (kV.mono fun i _ hi => Or.inr (by have h9 : i = w.heap.size := hi; omega)))
  clear kW kV b0 bV
  have g0 : (c == 0) = false := by simp; omega
  obtain ⟨h0, h1, h2⟩ := h
  by_cases z1 : c < 16777216
  · have g1 : decide (16777216 ≤ c) = false := decide_eq_false (by omega)
    have g2 : decide (33554432 ≤ c) = false := decide_eq_false (by omega)
    clear h0 h1 h2
    go_enter Try.func66, Try.ntmps66
    go_wp2
    exact bodyPost_ret (v := .agg #[.int .u8 (0), .int .u8 (0), .int .u8 (0)]) (by simp [results, Try.results66, go_sem, m0, m1, m2]) rfl ⟨rfl, HK.out⟩
  · have g1 : decide (16777216 ≤ c) = true := decide_eq_true (by omega)
    have g2 : decide (c ≤ 16777471) = false := decide_eq_false (by omega)
    by_cases z2 : c < 33554432
    · have g3 : decide (33554432 ≤ c) = false := decide_eq_false (by omega)
      clear h0 h1 h2
      go_enter Try.func66, Try.ntmps66
      go_wp2
      exact bodyPost_ret (v := .agg #[.int .u8 (0), .int .u8 (0), .int .u8 (0)]) (by simp [results, Try.results66, go_sem, m0, m1, m2]) rfl ⟨rfl, HK.out⟩
    · have g3 : decide (33554432 ≤ c) = true := decide_eq_true (by omega)
      have g4 : decide (c < 50331648) = false := decide_eq_false (by omega)
      clear h0 h1 h2
      go_enter Try.func66, Try.ntmps66
      go_wp2
      exact bodyPost_ret (v := .agg #[.int .u8 (0), .int .u8 (0), .int .u8 (0)]) (by simp [results, Try.results66, go_sem, m0, m1, m2]) rfl ⟨rfl, HK.out⟩

set_option maxRecDepth 100000 in
set_option maxHeartbeats 4000000 in
theorem rcolr_back0 (w : World) : Calls Try.prog 66 #[.int .i64 0, .bool false] w (RgbPost ⟨0, 0, 0⟩ w) := by
  obtain ⟨W, hW⟩ : ∃ W, w.alloc (.cells #[.int .u8 0, .int .u8 0, .int .u8 0] 96) = W := ⟨_, rfl⟩
  have b0 : W.heap[w.heap.size]? = some (.cells #[.int .u8 0, .int .u8 0, .int .u8 0] 96 (0, 0)) := by rw [← hW]; exact blk_new _ _
  have kW : Kept (fun _ => False) w W := by rw [← hW]; exact (Kept.refl _ w).alloc _
  obtain ⟨V1, V2, V3, e1, e2, e3, ⟨c0, f0⟩, ⟨c1, f1⟩, ⟨c2, f2⟩, bV, kV⟩ := store3 b0 (.int .u8 (0)) (.int .u8 (0)) (.int .u8 (0))
  obtain ⟨⟨m0, -⟩, ⟨m1, -⟩, m2, -⟩ := blk3 bV
  have HK := Lib.hid (show Kept (fun _ => False) w V3 from kW.trans (kV.mono fun i _ hi => Or.inr (by have h9 : i = w.heap.size := hi; omega)))
  clear kW kV b0 bV
  go_enter Try.func66, Try.ntmps66
  go_wp2
  exact bodyPost_ret (v := .agg #[.int .u8 (0), .int .u8 (0), .int .u8 (0)]) (by simp [results, Try.results66, go_sem, m0, m1, m2]) rfl ⟨rfl, HK.out⟩

set_option maxRecDepth 100000 in
set_option maxHeartbeats 4000000 in
theorem rcolr_fore0 (w : World) : Calls Try.prog 66 #[.int .i64 0, .bool true] w (RgbPost ⟨229, 229, 229⟩ w) := by
  obtain ⟨W, hW⟩ : ∃ W, w.alloc (.cells #[.int .u8 0, .int .u8 0, .int .u8 0] 96) = W := ⟨_, rfl⟩
  have b0 : W.heap[w.heap.size]? = some (.cells #[.int .u8 0, .int .u8 0, .int .u8 0] 96 (0, 0)) := by rw [← hW]; exact blk_new _ _
  have kW : Kept (fun _ => False) w W := by rw [← hW]; exact (Kept.refl _ w).alloc _
  obtain ⟨V1, V2, V3, e1, e2, e3, ⟨c0, f0⟩, ⟨c1, f1⟩, ⟨c2, f2⟩, bV, kV⟩ := store3 b0 (.int .u8 (229)) (.int .u8 (229)) (.int .u8 (229))
  obtain ⟨⟨m0, -⟩, ⟨m1, -⟩, m2, -⟩ := blk3 bV
  have HK := Lib.hid (show Kept (fun _ => False) w V3 from kW.trans (kV.mono fun i _ hi => Or.inr (by have h9 : i = w.heap.size := hi; omega)))
  clear kW kV b0 bV
  go_enter Try.func66, Try.ntmps66
  go_wp2
  exact bodyPost_ret (v := .agg #[.int .u8 (229), .int .u8 (229), .int .u8 (229)]) (by simp [results, Try.results66, go_sem, m0, m1, m2]) rfl ⟨rfl, HK.out⟩

set_option maxRecDepth 100000 in
set_option maxHeartbeats 4000000 in
theorem rcolr_pal (c : Int) (fore : Bool) (h1 : 16777216 ≤ c) (h2 : c < 16777472) (w : World) : Calls Try.prog 66 #[.int .i64 c, .bool fore] w (RgbPost (basic (c - 16777216)) w) := by
  obtain ⟨W, hW⟩ : ∃ W, w.alloc (.cells #[.int .u8 0, .int .u8 0, .int .u8 0] 96) = W := ⟨_, rfl⟩
  have b0 : W.heap[w.heap.size]? = some (.cells #[.int .u8 0, .int .u8 0, .int .u8 0] 96 (0, 0)) := by rw [← hW]; exact blk_new _ _
  have kW : Kept (fun _ => False) w W := by rw [← hW]; exact (Kept.refl _ w).alloc _
  have g0 : (c == 0) = false := by simp; omega
  have g1 : decide (16777216 ≤ c) = true := decide_eq_true (by omega)
  have g2 : decide (c ≤ 16777471) = true := decide_eq_true (by omega)
  have g3 : decide (c < 33554432) = true := decide_eq_true (by omega)
  obtain ⟨C, hC⟩ : ∃ C, basic (c - 16777216) = C := ⟨_, rfl⟩
  have HF := Lib.hid (show ∀ w, Calls Try.prog 75 #[.int .i64 (c - 16777216)] w (RgbPost C w) from fun w => by have h := rbasic_any (c - 16777216) w; rw [hC] at h; exact h)
  unfold RgbPost rgbV at HF
  rw [hC]
  clear hC
  go_enter Try.func66, Try.ntmps66
  go_wp2_with fail
  refine (HF.out _).mono ?_; rintro e w1 ⟨rfl, hk⟩
  have b1 := hk.blk b0 id
  obtain ⟨V1, V2, V3, e1, e2, e3, ⟨c0, f0⟩, ⟨c1, f1⟩, ⟨c2, f2⟩, bV, kV⟩ := store3 b1 (.int .u8 C.r) (.int .u8 C.g) (.int .u8 C.b)
  obtain ⟨⟨m0, -⟩, ⟨m1, -⟩, m2, -⟩ := blk3 bV
  have HK := Lib.hid (show Kept (fun _ => False) w V3 from (kW.then hk).trans (kV.mono fun i _ hi => Or.inr (by have h9 : i = w.heap.size := hi; omega)))
  clear hk kW kV b0 b1 bV
  go_wp2
  exact bodyPost_ret (v := .agg #[.int .u8 (C.r), .int .u8 (C.g), .int .u8 (C.b)]) (by simp [results, Try.results66, go_sem, m0, m1, m2]) rfl ⟨rfl, HK.out⟩

set_option maxRecDepth 100000 in
set_option maxHeartbeats 4000000 in
theorem rcolr_dir (v : Int) (fore : Bool) (h1 : 0 ≤ v) (h2 : v < 16777216) (w : World) : Calls Try.prog 66 #[.int .i64 (v + 33554432), .bool fore] w (RgbPost (rgb v) w) := by
  obtain ⟨W, hW⟩ : ∃ W, w.alloc (.cells #[.int .u8 0, .int .u8 0, .int .u8 0] 96) = W := ⟨_, rfl⟩
  have b0 : W.heap[w.heap.size]? = some (.cells #[.int .u8 0, .int .u8 0, .int .u8 0] 96 (0, 0)) := by rw [← hW]; exact blk_new _ _
  have kW : Kept (fun _ => False) w W := by rw [← hW]; exact (Kept.refl _ w).alloc _
  obtain ⟨V1, V2, V3, e1, e2, e3, ⟨c0, f0⟩, ⟨c1, f1⟩, ⟨c2, f2⟩, bV, kV⟩ := store3 b0 (.int .u8 (v / 65536)) (.int .u8 (v / 256 % 256)) (.int .u8 (v % 256))
  obtain ⟨⟨m0, -⟩, ⟨m1, -⟩, m2, -⟩ := blk3 bV
  have HK := Lib.hid (show Kept (fun _ => False) w V3 from kW.trans (kV.mono fun i _ hi => Or.inr (by have h9 : i = w.heap.size := hi; omega)))
  clear kW kV b0 bV
  have g0 : (v + 33554432 == 0) = false := by simp; omega
  have g1 : decide (16777216 ≤ v + 33554432) = true := decide_eq_true (by omega)
  have g2 : decide (v + 33554432 ≤ 16777471) = false := decide_eq_false (by omega)
  have g3 : decide (33554432 ≤ v + 33554432) = true := decide_eq_true (by omega)
  have g4 : decide (v + 33554432 < 50331648) = true := decide_eq_true (by omega)
  have e1' : IntKind.u8.wrap (v / 65536) = v / 65536 := IntWalk.u8_in _ (by omega)
  have e2' : IntKind.u8.wrap (v / 256) = v / 256 % 256 := by rw [IntKind.wrap_u8]
  have e3' : IntKind.u8.wrap v = v % 256 := by rw [IntKind.wrap_u8]
  go_enter Try.func66, Try.ntmps66
  go_wp2
  exact bodyPost_ret (v := .agg #[.int .u8 (v / 65536), .int .u8 (v / 256 % 256), .int .u8 (v % 256)]) (by simp [results, Try.results66, go_sem, m0, m1, m2]) rfl ⟨rfl, HK.out⟩

theorem rcolr_any (c : Int) (fore : Bool) (w : World) : Calls Try.prog 66 #[.int .i64 c, .bool fore] w (RgbPost (colour c fore) w) := by
  by_cases h0 : c = 0
  · subst h0
    cases fore with
    | true => exact rcolr_fore0 w
    | false =>
      have e : colour 0 false = ⟨0, 0, 0⟩ := by unfold colour; rw [if_neg (by simp), if_neg (by omega), if_neg (by omega)]
      rw [e]; exact rcolr_back0 w
  unfold colour
  rw [if_neg (fun h => h0 h.1)]
  split
  · rename_i h; exact rcolr_pal c fore h.1 h.2 w
  split
  · rename_i h1 h
    obtain ⟨v, rfl⟩ : ∃ v, c = v + 33554432 := ⟨c - 33554432, by omega⟩
    rw [show v + 33554432 - 33554432 = v by omega]
    exact rcolr_dir v fore (by omega) (by omega) w
  · rename_i h1 h2; exact rcolr_none c fore ⟨h0, h1, h2⟩ w


end Go.Proofs.Ytdjgmhbfohbenaa
