/- The law of parts, walked. -/
import Derived.Test.YtgejefhnoloebaaPartsP
import Derived.Test.YtgejefhnoloebaaLDraws
import Derived.RegionTactic
namespace Go.Proofs.Ytgejefhnoloebaa
open Go.RowKit Go.Sort
set_option linter.unusedVariables false
set_option linter.unusedSimpArgs false

set_option maxRecDepth 100000 in
set_option maxHeartbeats 8000000 in
theorem parts_few (W H : Int) (p : List Int) (x y cw ch : Int) (a : Option Addr) (n cap : Nat) (c0 c1 c2 c3 : Int) (w : World) (hW : I64 W) (hH : I64 H) (hl : p.length = n) (hn9 : n ≤ 9223372036854775807) (h : 16384 < n) :
    Calls Try.prog 8 #[.agg #[.int .i64 W, .int .i64 H, .slice a n cap], .int .i64 x, .int .i64 y, .int .i64 cw, .int .i64 ch, .agg #[.int .u8 c0, .int .u8 c1, .int .u8 c2, .int .u8 c3]] w fun e w' => e = .returned (.bool true) ∧ Kept (fun _ => False) w w' := by
  have CF := Lib.hid (fun w => show Calls Try.prog 18 #[.agg #[.int .i64 W, .int .i64 H, .slice a n cap]] w fun e w' => e = .returned (.bool false) ∧ Kept (fun _ => False) w w' from by have h := few_any W H a n cap w (by omega); rw [decide_eq_false (by omega)] at h; exact h)
  clear h
  go_enter Try.func8, Try.ntmps8
  go_wp2_with fail
  refine (known_any _).mono ?_; rintro e w1 ⟨rfl, hk⟩
  have kk := (((Kept.refl (fun _ => False) w).alloc (.cells #[.int .i64 W, .int .i64 H, .slice a n cap] 35)).alloc (.cells #[.int .u8 c0, .int .u8 c1, .int .u8 c2, .int .u8 c3] 23)).then hk
  have HM1 := Lib.hid (hk.blk (blk_alloc (blk_new w (.cells #[.int .i64 W, .int .i64 H, .slice a n cap] 35)) (.cells #[.int .u8 c0, .int .u8 c1, .int .u8 c2, .int .u8 c3] 23)) id)
  have HC1 := Lib.hid (hk.blk (blk_at (w.alloc (.cells #[.int .i64 W, .int .i64 H, .slice a n cap] 35)) (.cells #[.int .u8 c0, .int .u8 c1, .int .u8 c2, .int .u8 c3] 23) (b := w.heap.size + 1) (by simp)) id)
  have HK1 := Lib.hid kk
  obtain ⟨⟨a0, -⟩, ⟨a1, -⟩, a2, -⟩ := blk3 HM1.out
  clear hk kk
  go_wp2_with fail
  refine (CF.out _).mono ?_; rintro e w2 ⟨rfl, hk⟩
  have HM2 := Lib.hid (hk.blk HM1.out id)
  have HC2 := Lib.hid (hk.blk HC1.out id)
  have HK2 := Lib.hid (HK1.out.then hk)
  clear hk a0 a1 a2
  obtain ⟨⟨a0, -⟩, ⟨a1, -⟩, a2, -⟩ := blk3 HM2.out
  go_wp2
  go_ret
  exact ⟨rfl, HK2.out⟩

set_option maxRecDepth 100000 in
set_option maxHeartbeats 8000000 in
theorem parts_wrong (W H : Int) (p : List Int) (x y cw ch : Int) (a : Option Addr) (n cap : Nat) (c0 c1 c2 c3 : Int) (w : World) (hW : I64 W) (hH : I64 H) (hl : p.length = n) (hn9 : n ≤ 9223372036854775807) (h : n ≤ 16384) (hr : rightM ⟨W, H, p⟩ = false) :
    Calls Try.prog 8 #[.agg #[.int .i64 W, .int .i64 H, .slice a n cap], .int .i64 x, .int .i64 y, .int .i64 cw, .int .i64 ch, .agg #[.int .u8 c0, .int .u8 c1, .int .u8 c2, .int .u8 c3]] w fun e w' => e = .returned (.bool true) ∧ Kept (fun _ => False) w w' := by
  have CF := Lib.hid (fun w => show Calls Try.prog 18 #[.agg #[.int .i64 W, .int .i64 H, .slice a n cap]] w fun e w' => e = .returned (.bool true) ∧ Kept (fun _ => False) w w' from by have h := few_any W H a n cap w (by omega); rw [decide_eq_true (by omega)] at h; exact h)
  have CO := Lib.hid (fun w => show Calls Try.prog 27 #[.agg #[.int .i64 W, .int .i64 H, .slice a n cap]] w fun e w' => e = .returned (.agg #[.int .i64 W, .int .i64 H, .slice a n cap]) ∧ Kept (fun _ => False) w w' from of_any _ _ _ _ _ _)
  have CR := Lib.hid (fun w => show Calls Try.prog 26 #[.agg #[.int .i64 W, .int .i64 H, .slice a n cap]] w fun e w' => e = .returned (.bool false) ∧ Kept (fun _ => False) w w' from by rw [← hr]; exact rright_any ⟨W, H, p⟩ a n cap w hW hH hl (by omega))
  clear h hr
  go_enter Try.func8, Try.ntmps8
  go_wp2_with fail
  refine (known_any _).mono ?_; rintro e w1 ⟨rfl, hk⟩
  have kk := (((Kept.refl (fun _ => False) w).alloc (.cells #[.int .i64 W, .int .i64 H, .slice a n cap] 35)).alloc (.cells #[.int .u8 c0, .int .u8 c1, .int .u8 c2, .int .u8 c3] 23)).then hk
  have HM1 := Lib.hid (hk.blk (blk_alloc (blk_new w (.cells #[.int .i64 W, .int .i64 H, .slice a n cap] 35)) (.cells #[.int .u8 c0, .int .u8 c1, .int .u8 c2, .int .u8 c3] 23)) id)
  have HC1 := Lib.hid (hk.blk (blk_at (w.alloc (.cells #[.int .i64 W, .int .i64 H, .slice a n cap] 35)) (.cells #[.int .u8 c0, .int .u8 c1, .int .u8 c2, .int .u8 c3] 23) (b := w.heap.size + 1) (by simp)) id)
  have HK1 := Lib.hid kk
  obtain ⟨⟨a0, -⟩, ⟨a1, -⟩, a2, -⟩ := blk3 HM1.out
  clear hk kk
  go_wp2_with fail
  refine (CF.out _).mono ?_; rintro e w2 ⟨rfl, hk⟩
  have HM2 := Lib.hid (hk.blk HM1.out id)
  have HC2 := Lib.hid (hk.blk HC1.out id)
  have HK2 := Lib.hid (HK1.out.then hk)
  clear hk a0 a1 a2
  obtain ⟨⟨a0, -⟩, ⟨a1, -⟩, a2, -⟩ := blk3 HM2.out
  go_wp2_with fail
  refine (CO.out _).mono ?_; rintro e w3 ⟨rfl, hk⟩
  have HM3 := Lib.hid (hk.blk HM2.out id)
  have HC3 := Lib.hid (hk.blk HC2.out id)
  have HK3 := Lib.hid (HK2.out.then hk)
  clear hk a0 a1 a2
  obtain ⟨⟨a0, -⟩, ⟨a1, -⟩, a2, -⟩ := blk3 HM3.out
  go_wp2_with fail
  refine (CR.out _).mono ?_; rintro e w4 ⟨rfl, hk⟩
  have HM4 := Lib.hid (hk.blk HM3.out id)
  have HC4 := Lib.hid (hk.blk HC3.out id)
  have HK4 := Lib.hid (HK3.out.then hk)
  clear hk a0 a1 a2
  obtain ⟨⟨a0, -⟩, ⟨a1, -⟩, a2, -⟩ := blk3 HM4.out
  go_wp2
  go_ret
  exact ⟨rfl, HK4.out⟩

set_option maxRecDepth 100000 in
set_option maxHeartbeats 8000000 in
theorem calls_few (W H : Int) (p : List Int) (x y cw ch : Int) (a : Option Addr) (n cap : Nat) (c0 c1 c2 c3 : Int) (w : World) (hW : I64 W) (hH : I64 H) (hl : p.length = n) (hn9 : n ≤ 9223372036854775807) (h : 16384 < n) :
    Calls Try.prog 9 #[.agg #[.int .i64 W, .int .i64 H, .slice a n cap], .int .i64 x, .int .i64 y, .int .i64 cw, .int .i64 ch, .agg #[.int .u8 c0, .int .u8 c1, .int .u8 c2, .int .u8 c3]] w fun e w' => e = .returned (.bool true) ∧ Kept (fun _ => False) w w' := by
  have CF := Lib.hid (fun w => show Calls Try.prog 18 #[.agg #[.int .i64 W, .int .i64 H, .slice a n cap]] w fun e w' => e = .returned (.bool false) ∧ Kept (fun _ => False) w w' from by have h := few_any W H a n cap w (by omega); rw [decide_eq_false (by omega)] at h; exact h)
  clear h
  go_enter Try.func9, Try.ntmps9
  go_wp2_with fail
  refine (known_any _).mono ?_; rintro e w1 ⟨rfl, hk⟩
  have kk := (((Kept.refl (fun _ => False) w).alloc (.cells #[.int .i64 W, .int .i64 H, .slice a n cap] 35)).alloc (.cells #[.int .u8 c0, .int .u8 c1, .int .u8 c2, .int .u8 c3] 23)).then hk
  have HM1 := Lib.hid (hk.blk (blk_alloc (blk_new w (.cells #[.int .i64 W, .int .i64 H, .slice a n cap] 35)) (.cells #[.int .u8 c0, .int .u8 c1, .int .u8 c2, .int .u8 c3] 23)) id)
  have HC1 := Lib.hid (hk.blk (blk_at (w.alloc (.cells #[.int .i64 W, .int .i64 H, .slice a n cap] 35)) (.cells #[.int .u8 c0, .int .u8 c1, .int .u8 c2, .int .u8 c3] 23) (b := w.heap.size + 1) (by simp)) id)
  have HK1 := Lib.hid kk
  obtain ⟨⟨a0, -⟩, ⟨a1, -⟩, a2, -⟩ := blk3 HM1.out
  clear hk kk
  go_wp2_with fail
  refine (CF.out _).mono ?_; rintro e w2 ⟨rfl, hk⟩
  have HM2 := Lib.hid (hk.blk HM1.out id)
  have HC2 := Lib.hid (hk.blk HC1.out id)
  have HK2 := Lib.hid (HK1.out.then hk)
  clear hk a0 a1 a2
  obtain ⟨⟨a0, -⟩, ⟨a1, -⟩, a2, -⟩ := blk3 HM2.out
  go_wp2
  go_ret
  exact ⟨rfl, HK2.out⟩

set_option maxRecDepth 100000 in
set_option maxHeartbeats 8000000 in
theorem calls_wrong (W H : Int) (p : List Int) (x y cw ch : Int) (a : Option Addr) (n cap : Nat) (c0 c1 c2 c3 : Int) (w : World) (hW : I64 W) (hH : I64 H) (hl : p.length = n) (hn9 : n ≤ 9223372036854775807) (h : n ≤ 16384) (hr : rightM ⟨W, H, p⟩ = false) :
    Calls Try.prog 9 #[.agg #[.int .i64 W, .int .i64 H, .slice a n cap], .int .i64 x, .int .i64 y, .int .i64 cw, .int .i64 ch, .agg #[.int .u8 c0, .int .u8 c1, .int .u8 c2, .int .u8 c3]] w fun e w' => e = .returned (.bool true) ∧ Kept (fun _ => False) w w' := by
  have CF := Lib.hid (fun w => show Calls Try.prog 18 #[.agg #[.int .i64 W, .int .i64 H, .slice a n cap]] w fun e w' => e = .returned (.bool true) ∧ Kept (fun _ => False) w w' from by have h := few_any W H a n cap w (by omega); rw [decide_eq_true (by omega)] at h; exact h)
  have CO := Lib.hid (fun w => show Calls Try.prog 27 #[.agg #[.int .i64 W, .int .i64 H, .slice a n cap]] w fun e w' => e = .returned (.agg #[.int .i64 W, .int .i64 H, .slice a n cap]) ∧ Kept (fun _ => False) w w' from of_any _ _ _ _ _ _)
  have CR := Lib.hid (fun w => show Calls Try.prog 26 #[.agg #[.int .i64 W, .int .i64 H, .slice a n cap]] w fun e w' => e = .returned (.bool false) ∧ Kept (fun _ => False) w w' from by rw [← hr]; exact rright_any ⟨W, H, p⟩ a n cap w hW hH hl (by omega))
  clear h hr
  go_enter Try.func9, Try.ntmps9
  go_wp2_with fail
  refine (known_any _).mono ?_; rintro e w1 ⟨rfl, hk⟩
  have kk := (((Kept.refl (fun _ => False) w).alloc (.cells #[.int .i64 W, .int .i64 H, .slice a n cap] 35)).alloc (.cells #[.int .u8 c0, .int .u8 c1, .int .u8 c2, .int .u8 c3] 23)).then hk
  have HM1 := Lib.hid (hk.blk (blk_alloc (blk_new w (.cells #[.int .i64 W, .int .i64 H, .slice a n cap] 35)) (.cells #[.int .u8 c0, .int .u8 c1, .int .u8 c2, .int .u8 c3] 23)) id)
  have HC1 := Lib.hid (hk.blk (blk_at (w.alloc (.cells #[.int .i64 W, .int .i64 H, .slice a n cap] 35)) (.cells #[.int .u8 c0, .int .u8 c1, .int .u8 c2, .int .u8 c3] 23) (b := w.heap.size + 1) (by simp)) id)
  have HK1 := Lib.hid kk
  obtain ⟨⟨a0, -⟩, ⟨a1, -⟩, a2, -⟩ := blk3 HM1.out
  clear hk kk
  go_wp2_with fail
  refine (CF.out _).mono ?_; rintro e w2 ⟨rfl, hk⟩
  have HM2 := Lib.hid (hk.blk HM1.out id)
  have HC2 := Lib.hid (hk.blk HC1.out id)
  have HK2 := Lib.hid (HK1.out.then hk)
  clear hk a0 a1 a2
  obtain ⟨⟨a0, -⟩, ⟨a1, -⟩, a2, -⟩ := blk3 HM2.out
  go_wp2_with fail
  refine (CO.out _).mono ?_; rintro e w3 ⟨rfl, hk⟩
  have HM3 := Lib.hid (hk.blk HM2.out id)
  have HC3 := Lib.hid (hk.blk HC2.out id)
  have HK3 := Lib.hid (HK2.out.then hk)
  clear hk a0 a1 a2
  obtain ⟨⟨a0, -⟩, ⟨a1, -⟩, a2, -⟩ := blk3 HM3.out
  go_wp2_with fail
  refine (CR.out _).mono ?_; rintro e w4 ⟨rfl, hk⟩
  have HM4 := Lib.hid (hk.blk HM3.out id)
  have HC4 := Lib.hid (hk.blk HC3.out id)
  have HK4 := Lib.hid (HK3.out.then hk)
  clear hk a0 a1 a2
  obtain ⟨⟨a0, -⟩, ⟨a1, -⟩, a2, -⟩ := blk3 HM4.out
  go_wp2
  go_ret
  exact ⟨rfl, HK4.out⟩

set_option maxRecDepth 100000 in
set_option maxHeartbeats 8000000 in
theorem parts_far (W H : Int) (p : List Int) (x y cw ch : Int) (a : Option Addr) (n cap : Nat) (c0 c1 c2 c3 : Int) (w : World) (hW : I64 W) (hH : I64 H) (hl : p.length = n) (hn9 : n ≤ 9223372036854775807) (h : n ≤ 16384) (hr : rightM ⟨W, H, p⟩ = true) (hx : x < 0 ∨ y < 0 ∨ 100 < x ∨ 100 < y) :
    Calls Try.prog 8 #[.agg #[.int .i64 W, .int .i64 H, .slice a n cap], .int .i64 x, .int .i64 y, .int .i64 cw, .int .i64 ch, .agg #[.int .u8 c0, .int .u8 c1, .int .u8 c2, .int .u8 c3]] w fun e w' => e = .returned (.bool true) ∧ Kept (fun _ => False) w w' := by
  have CF := Lib.hid (fun w => show Calls Try.prog 18 #[.agg #[.int .i64 W, .int .i64 H, .slice a n cap]] w fun e w' => e = .returned (.bool true) ∧ Kept (fun _ => False) w w' from by have h := few_any W H a n cap w (by omega); rw [decide_eq_true (by omega)] at h; exact h)
  have CO := Lib.hid (fun w => show Calls Try.prog 27 #[.agg #[.int .i64 W, .int .i64 H, .slice a n cap]] w fun e w' => e = .returned (.agg #[.int .i64 W, .int .i64 H, .slice a n cap]) ∧ Kept (fun _ => False) w w' from of_any _ _ _ _ _ _)
  have CR := Lib.hid (fun w => show Calls Try.prog 26 #[.agg #[.int .i64 W, .int .i64 H, .slice a n cap]] w fun e w' => e = .returned (.bool true) ∧ Kept (fun _ => False) w w' from by rw [← hr]; exact rright_any ⟨W, H, p⟩ a n cap w hW hH hl (by omega))
  clear h hr
  go_enter Try.func8, Try.ntmps8
  go_wp2_with fail
  refine (known_any _).mono ?_; rintro e w1 ⟨rfl, hk⟩
  have kk := (((Kept.refl (fun _ => False) w).alloc (.cells #[.int .i64 W, .int .i64 H, .slice a n cap] 35)).alloc (.cells #[.int .u8 c0, .int .u8 c1, .int .u8 c2, .int .u8 c3] 23)).then hk
  have HM1 := Lib.hid (hk.blk (blk_alloc (blk_new w (.cells #[.int .i64 W, .int .i64 H, .slice a n cap] 35)) (.cells #[.int .u8 c0, .int .u8 c1, .int .u8 c2, .int .u8 c3] 23)) id)
  have HC1 := Lib.hid (hk.blk (blk_at (w.alloc (.cells #[.int .i64 W, .int .i64 H, .slice a n cap] 35)) (.cells #[.int .u8 c0, .int .u8 c1, .int .u8 c2, .int .u8 c3] 23) (b := w.heap.size + 1) (by simp)) id)
  have HK1 := Lib.hid kk
  obtain ⟨⟨a0, -⟩, ⟨a1, -⟩, a2, -⟩ := blk3 HM1.out
  clear hk kk
  go_wp2_with fail
  refine (CF.out _).mono ?_; rintro e w2 ⟨rfl, hk⟩
  have HM2 := Lib.hid (hk.blk HM1.out id)
  have HC2 := Lib.hid (hk.blk HC1.out id)
  have HK2 := Lib.hid (HK1.out.then hk)
  clear hk a0 a1 a2
  obtain ⟨⟨a0, -⟩, ⟨a1, -⟩, a2, -⟩ := blk3 HM2.out
  go_wp2_with fail
  refine (CO.out _).mono ?_; rintro e w3 ⟨rfl, hk⟩
  have HM3 := Lib.hid (hk.blk HM2.out id)
  have HC3 := Lib.hid (hk.blk HC2.out id)
  have HK3 := Lib.hid (HK2.out.then hk)
  clear hk a0 a1 a2
  obtain ⟨⟨a0, -⟩, ⟨a1, -⟩, a2, -⟩ := blk3 HM3.out
  go_wp2_with fail
  refine (CR.out _).mono ?_; rintro e w4 ⟨rfl, hk⟩
  have HM4 := Lib.hid (hk.blk HM3.out id)
  have HC4 := Lib.hid (hk.blk HC3.out id)
  have HK4 := Lib.hid (HK3.out.then hk)
  clear hk a0 a1 a2
  obtain ⟨⟨a0, -⟩, ⟨a1, -⟩, a2, -⟩ := blk3 HM4.out
  by_cases z0 : x < 0
  · have g0 : decide (x < 0) = true := decide_eq_true z0
    clear hx
    go_wp2
    go_ret
    exact ⟨rfl, HK4.out⟩
  have g0 : decide (x < 0) = false := decide_eq_false z0
  by_cases z1 : y < 0
  · have g1 : decide (y < 0) = true := decide_eq_true z1
    clear hx
    go_wp2
    go_ret
    exact ⟨rfl, HK4.out⟩
  have g1 : decide (y < 0) = false := decide_eq_false z1
  by_cases z2 : 100 < x
  · have g2 : decide (100 < x) = true := decide_eq_true z2
    clear hx
    go_wp2
    go_ret
    exact ⟨rfl, HK4.out⟩
  have g2 : decide (100 < x) = false := decide_eq_false z2
  have g3 : decide (100 < y) = true := decide_eq_true (by omega)
  clear hx
  go_wp2
  go_ret
  exact ⟨rfl, HK4.out⟩

end Go.Proofs.Ytgejefhnoloebaa
