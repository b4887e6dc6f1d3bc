/- Is there a pixel: the program's. -/
import Derived.Test.YtdjgmhbfohbenaaLay
namespace Go.Proofs.Ytdjgmhbfohbenaa
open Go.RowKit Go.Sort
set_option linter.unusedVariables false
set_option linter.unusedSimpArgs false

set_option maxRecDepth 100000 in
set_option maxHeartbeats 4000000 in
theorem in_any (W H x y : Int) (a : Option Addr) (n cap : Nat) (w : World) (hn : (n : Int) = 4 * W * H) (hs : sizeB W H = true) : Calls Try.prog 57 #[.agg #[.int .i64 W, .int .i64 H, .slice a n cap], .int .i64 x, .int .i64 y] w fun e w' => e = .returned (.bool (inB W H x y)) ∧ Kept (fun _ => False) w w' := by
  obtain ⟨a1, a2, a3, a4, a5, a6, -⟩ := sizeB_t hs
  have hn' : 4 * W * H = (n : Int) := hn.symm
  have hnb : n ≤ 268435456 := by rw [Int.mul_assoc] at hn; omega
  obtain ⟨V, hV⟩ : ∃ V, w.alloc (.cells #[.int .i64 W, .int .i64 H, .slice a n cap] 31) = V := ⟨_, rfl⟩
  have kV : Kept (fun _ => False) w V := by rw [← hV]; exact (Kept.refl _ w).alloc _
  have b0 : V.heap[w.heap.size]? = some (.cells #[.int .i64 W, .int .i64 H, .slice a n cap] 31 (0, 0)) := by rw [← hV]; exact blk_new _ _
  obtain ⟨⟨c0, -⟩, ⟨c1, -⟩, c2, -⟩ := blk3 b0
  have HK := Lib.hid kV
  clear b0 kV hn hs a5 a6
  by_cases h0 : ¬ (0 ≤ x)
  · have g0 : decide (0 ≤ x) = false := decide_eq_false h0
    have HE := Lib.hid (show inB W H x y = false from decide_eq_false (by omega))
    clear h0
    go_enter Try.func57, Try.ntmps57
    go_wp2
    go_ret
    exact ⟨ret_bool (by rw [HE.out]), HK.out⟩
  have g0 : decide (0 ≤ x) = true := decide_eq_true (by omega)
  by_cases h1 : ¬ (x < W)
  · have g1 : decide (x < W) = false := decide_eq_false h1
    have HE := Lib.hid (show inB W H x y = false from decide_eq_false (by omega))
    clear h1
    go_enter Try.func57, Try.ntmps57
    go_wp2
    go_ret
    exact ⟨ret_bool (by rw [HE.out]), HK.out⟩
  have g1 : decide (x < W) = true := decide_eq_true (by omega)
  by_cases h2 : ¬ (0 ≤ y)
  · have g2 : decide (0 ≤ y) = false := decide_eq_false h2
    have HE := Lib.hid (show inB W H x y = false from decide_eq_false (by omega))
    clear h2
    go_enter Try.func57, Try.ntmps57
    go_wp2
    go_ret
    exact ⟨ret_bool (by rw [HE.out]), HK.out⟩
  have g2 : decide (0 ≤ y) = true := decide_eq_true (by omega)
  by_cases h3 : ¬ (y < H)
  · have g3 : decide (y < H) = false := decide_eq_false h3
    have HE := Lib.hid (show inB W H x y = false from decide_eq_false (by omega))
    clear h3
    go_enter Try.func57, Try.ntmps57
    go_wp2
    go_ret
    exact ⟨ret_bool (by rw [HE.out]), HK.out⟩
  have g3 : decide (y < H) = true := decide_eq_true (by omega)
  have HE := Lib.hid (show inB W H x y = true from decide_eq_true (by omega))
  clear h0 h1 h2 h3
  go_enter Try.func57, Try.ntmps57
  go_wp2
  go_ret
  exact ⟨ret_bool (by rw [HE.out]), HK.out⟩

set_option maxRecDepth 100000 in
set_option maxHeartbeats 4000000 in
theorem atc_no (W H x y : Int) (a : Option Addr) (n cap : Nat) (w : World) (hn : (n : Int) = 4 * W * H) (hs : sizeB W H = true) (h : inB W H x y = false) : Calls Try.prog 26 #[.agg #[.int .i64 W, .int .i64 H, .slice a n cap], .int .i64 x, .int .i64 y] w fun e w' => e = .returned (.tuple #[.agg #[.int .u8 0, .int .u8 0, .int .u8 0, .int .u8 0], .bool false]) ∧ Kept (fun _ => False) w w' := by
  obtain ⟨V, hV⟩ : ∃ V, (w.alloc (.cells #[.int .i64 W, .int .i64 H, .slice a n cap] 31)).alloc (.cells #[.int .u8 0, .int .u8 0, .int .u8 0, .int .u8 0] 66) = V := ⟨_, rfl⟩
  have kV : Kept (fun _ => False) w V := by rw [← hV]; exact ((Kept.refl _ w).alloc _).alloc _
  have b0 : V.heap[w.heap.size]? = some (.cells #[.int .i64 W, .int .i64 H, .slice a n cap] 31 (0, 0)) := by rw [← hV]; exact blk_alloc (blk_new _ _) _
  have b1 : V.heap[w.heap.size + 1]? = some (.cells #[.int .u8 0, .int .u8 0, .int .u8 0, .int .u8 0] 66 (0, 0)) := by rw [← hV]; exact blk_at _ _ (by simp)
  have HI := Lib.hid (fun w => show Calls Try.prog 57 #[.agg #[.int .i64 W, .int .i64 H, .slice a n cap], .int .i64 x, .int .i64 y] w fun e w' => e = .returned (.bool false) ∧ Kept (fun _ => False) w w' from by rw [← h]; exact in_any W H x y a n cap w hn hs)
  obtain ⟨⟨c0, -⟩, ⟨c1, -⟩, c2, -⟩ := blk3 b0
  have HB1 := Lib.hid b1
  have HK := Lib.hid kV
  clear b0 b1 kV h hn hs
  go_enter Try.func26, Try.ntmps26
  go_wp2_with fail
  refine (HI.out _).mono ?_; rintro e w1 ⟨rfl, hk⟩
  obtain ⟨V1, V2, V3, V4, f1, f2, f3, f4, ⟨g0, g0'⟩, ⟨g1, g1'⟩, ⟨g2, g2'⟩, ⟨g3, g3'⟩, bV, kV4⟩ := store4 (hk.blk HB1.out id) (.int .u8 0) (.int .u8 0) (.int .u8 0) (.int .u8 0)
  obtain ⟨⟨m0, -⟩, ⟨m1, -⟩, ⟨m2, -⟩, m3, -⟩ := blk4 bV
  have HKV := Lib.hid ((HK.out.then hk).trans (kV4.mono fun i _ hi => Or.inr (by have h9 : i = w.heap.size + 1 := hi; omega)))
  clear hk bV kV4
  go_wp2
  exact bodyPost_ret (v := .tuple #[.agg #[.int .u8 0, .int .u8 0, .int .u8 0, .int .u8 0], .bool false]) (by simp [results, Try.results26, go_sem, m0, m1, m2, m3]) rfl ⟨rfl, HKV.out⟩

set_option maxRecDepth 100000 in
set_option maxHeartbeats 4000000 in
theorem atc_yes (W H x y : Nat) (p : List Int) (a : Option Addr) (n cap : Nat) (w : World) (hr : rightM ⟨W, H, p⟩ = true) (hx : x < W) (hy : y < H) (hs : SlAt .u8 w a n p) (hc : n ≤ cap) (hcm : cap ≤ 9223372036854775807) :
    Calls Try.prog 26 #[.agg #[.int .i64 W, .int .i64 H, .slice a n cap], .int .i64 x, .int .i64 y] w fun e w' => e = .returned (.tuple #[pixV p (y * W + x), .bool true]) ∧ Kept (fun _ => False) w w' := by
  have hr2 := hr
  unfold rightM at hr2
  rw [Bool.and_eq_true] at hr2
  have hsz : sizeB W H = true := hr2.1
  have h4 : (p.length : Int) = 4 * (W : Int) * (H : Int) := of_decide_eq_true hr2.2
  obtain ⟨b1, b2, b3, b4, b5, b6, -⟩ := sizeB_t hsz
  have hwh : (W : Int) * (H : Int) = ((W * H : Nat) : Int) := by simp
  have hpl := hs.1
  have hnI : (n : Int) = 4 * (W : Int) * (H : Int) := by rw [← hpl]; exact h4
  rw [Int.mul_assoc, hwh] at h4
  rw [hwh] at b6
  have HI := Lib.hid (fun w => show Calls Try.prog 57 #[.agg #[.int .i64 W, .int .i64 H, .slice a n cap], .int .i64 x, .int .i64 y] w fun e w' => e = .returned (.bool true) ∧ Kept (fun _ => False) w w' from by
    have h := in_any W H x y a n cap w hnI hsz
    rw [show inB W H x y = true from decide_eq_true (by omega)] at h; exact h)
  obtain ⟨V, hV⟩ : ∃ V, (w.alloc (.cells #[.int .i64 W, .int .i64 H, .slice a n cap] 31)).alloc (.cells #[.int .u8 0, .int .u8 0, .int .u8 0, .int .u8 0] 66) = V := ⟨_, rfl⟩
  have kV : Kept (fun _ => False) w V := by rw [← hV]; exact ((Kept.refl _ w).alloc _).alloc _
  have b0 : V.heap[w.heap.size]? = some (.cells #[.int .i64 W, .int .i64 H, .slice a n cap] 31 (0, 0)) := by rw [← hV]; exact blk_alloc (blk_new _ _) _
  have bb1 : V.heap[w.heap.size + 1]? = some (.cells #[.int .u8 0, .int .u8 0, .int .u8 0, .int .u8 0] 66 (0, 0)) := by rw [← hV]; exact blk_at _ _ (by simp)
  obtain ⟨c0, hc0⟩ : ∃ z, p.getD (4 * (y * W + x)) 0 = z := ⟨_, rfl⟩
  obtain ⟨c1, hc1⟩ : ∃ z, p.getD (4 * (y * W + x) + 1) 0 = z := ⟨_, rfl⟩
  obtain ⟨c2, hc2⟩ : ∃ z, p.getD (4 * (y * W + x) + 2) 0 = z := ⟨_, rfl⟩
  obtain ⟨c3, hc3⟩ : ∃ z, p.getD (4 * (y * W + x) + 3) 0 = z := ⟨_, rfl⟩
  have hE : pixV p (y * W + x) = .agg #[.int .u8 c0, .int .u8 c1, .int .u8 c2, .int .u8 c3] := by unfold pixV; rw [hc0, hc1, hc2, hc3]
  have HA := Lib.hid (fun (V' : World) (hk : Kept (fun _ => False) w V') => show Calls Try.prog 58 #[.agg #[.int .i64 W, .int .i64 H, .slice a n cap], .int .i64 x, .int .i64 y] V' fun e w' => e = .returned (.agg #[.int .u8 c0, .int .u8 c1, .int .u8 c2, .int .u8 c3]) ∧ Kept (fun _ => False) V' w' from by
    rw [← hE]; exact at_any W H x y p a n cap V' hx hy (by omega) (by omega) (hs.up hk) hc hcm (by omega) (by omega))
  obtain ⟨⟨x0, -⟩, ⟨x1, -⟩, x2, -⟩ := blk3 b0
  rw [hE]
  have HB0 := Lib.hid b0
  have HB1 := Lib.hid bb1
  have HK := Lib.hid kV
  clear b0 bb1 kV hr hr2 hsz h4 b1 b2 b3 b4 b5 b6 hwh hpl hnI hc0 hc1 hc2 hc3 hE hs hx hy
  go_enter Try.func26, Try.ntmps26
  go_wp2_with fail
  refine (HI.out _).mono ?_; rintro e w1 ⟨rfl, hk⟩
  have HK1 := Lib.hid (HK.out.then hk)
  obtain ⟨⟨x0, -⟩, ⟨x1, -⟩, x2, -⟩ := blk3 (hk.blk HB0.out id)
  have HB1' := Lib.hid (hk.blk HB1.out id)
  clear hk
  go_wp2_with fail
  refine (HA.out _ HK1.out).mono ?_; rintro e w2 ⟨rfl, hk⟩
  obtain ⟨V1, V2, V3, V4, f1, f2, f3, f4, ⟨g0, g0'⟩, ⟨g1, g1'⟩, ⟨g2, g2'⟩, ⟨g3, g3'⟩, bV, kV4⟩ := store4 (hk.blk HB1'.out id) (.int .u8 c0) (.int .u8 c1) (.int .u8 c2) (.int .u8 c3)
  obtain ⟨⟨m0, -⟩, ⟨m1, -⟩, ⟨m2, -⟩, m3, -⟩ := blk4 bV
  have HKV := Lib.hid ((HK1.out.then hk).trans (kV4.mono fun i _ hi => Or.inr (by have h9 : i = w.heap.size + 1 := hi; omega)))
  clear hk bV kV4
  go_wp2
  exact bodyPost_ret (v := .tuple #[.agg #[.int .u8 c0, .int .u8 c1, .int .u8 c2, .int .u8 c3], .bool true]) (by simp [results, Try.results26, go_sem, m0, m1, m2, m3]) rfl ⟨rfl, HKV.out⟩

end Go.Proofs.Ytdjgmhbfohbenaa
