/- Is there a pixel; the pixel: the document's. -/
import Derived.Test.YtdjgmhbfohbenaaPut
namespace Go.Proofs.Ytdjgmhbfohbenaa
open Go.RowKit Go.Sort
set_option linter.unusedVariables false
set_option linter.unusedSimpArgs false
def inB (W H x y : Int) : Bool := decide (0 ≤ x ∧ x < W ∧ 0 ≤ y ∧ y < H)

set_option maxRecDepth 100000 in
set_option maxHeartbeats 4000000 in
theorem rin_any (W H x y : Int) (a : Option Addr) (n cap : Nat) (w : World) : Calls Try.prog 82 #[.agg #[.int .i64 W, .int .i64 H, .slice a n cap], .int .i64 x, .int .i64 y] w fun e w' => e = .returned (.bool (inB W H x y)) ∧ Kept (fun _ => False) w w' := by
  obtain ⟨V, hV⟩ : ∃ V, w.alloc (.cells #[.int .i64 W, .int .i64 H, .slice a n cap] 35) = V := ⟨_, rfl⟩
  have kV : Kept (fun _ => False) w V := by rw [← hV]; exact (Kept.refl _ w).alloc _
  have b0 : V.heap[w.heap.size]? = some (.cells #[.int .i64 W, .int .i64 H, .slice a n cap] 35 (0, 0)) := by rw [← hV]; exact blk_new _ _
  obtain ⟨⟨c0, -⟩, ⟨c1, -⟩, c2, -⟩ := blk3 b0
  have HK := Lib.hid kV
  clear b0 kV
  by_cases h0 : ¬ (0 ≤ x)
  · have g0 : decide (0 ≤ x) = false := decide_eq_false h0
    have HE := Lib.hid (show inB W H x y = false from decide_eq_false (by omega))
    clear h0
    go_enter Try.func82, Try.ntmps82
    go_wp2
    go_ret
    exact ⟨ret_bool (by rw [HE.out]), HK.out⟩
  have g0 : decide (0 ≤ x) = true := decide_eq_true (by omega)
  by_cases h1 : ¬ (0 ≤ y)
  · have g1 : decide (0 ≤ y) = false := decide_eq_false h1
    have HE := Lib.hid (show inB W H x y = false from decide_eq_false (by omega))
    clear h1
    go_enter Try.func82, Try.ntmps82
    go_wp2
    go_ret
    exact ⟨ret_bool (by rw [HE.out]), HK.out⟩
  have g1 : decide (0 ≤ y) = true := decide_eq_true (by omega)
  by_cases h2 : ¬ (x < W)
  · have g2 : decide (x < W) = false := decide_eq_false h2
    have HE := Lib.hid (show inB W H x y = false from decide_eq_false (by omega))
    clear h2
    go_enter Try.func82, Try.ntmps82
    go_wp2
    go_ret
    exact ⟨ret_bool (by rw [HE.out]), HK.out⟩
  have g2 : decide (x < W) = true := decide_eq_true (by omega)
  by_cases h3 : ¬ (y < H)
  · have g3 : decide (y < H) = false := decide_eq_false h3
    have HE := Lib.hid (show inB W H x y = false from decide_eq_false (by omega))
    clear h3
    go_enter Try.func82, Try.ntmps82
    go_wp2
    go_ret
    exact ⟨ret_bool (by rw [HE.out]), HK.out⟩
  have g3 : decide (y < H) = true := decide_eq_true (by omega)
  have HE := Lib.hid (show inB W H x y = true from decide_eq_true (by omega))
  clear h0 h1 h2 h3
  go_enter Try.func82, Try.ntmps82
  go_wp2
  go_ret
  exact ⟨ret_bool (by rw [HE.out]), HK.out⟩

set_option maxRecDepth 100000 in
set_option maxHeartbeats 4000000 in
theorem rat_no (W H x y : Int) (a : Option Addr) (n cap : Nat) (w : World) (h : inB W H x y = false) : Calls Try.prog 76 #[.agg #[.int .i64 W, .int .i64 H, .slice a n cap], .int .i64 x, .int .i64 y] w fun e w' => e = .returned (.tuple #[.agg #[.int .u8 0, .int .u8 0, .int .u8 0, .int .u8 0], .bool false]) ∧ Kept (fun _ => False) w w' := by
  obtain ⟨V, hV⟩ : ∃ V, (w.alloc (.cells #[.int .i64 W, .int .i64 H, .slice a n cap] 35)).alloc (.cells #[.int .u8 0, .int .u8 0, .int .u8 0, .int .u8 0] 65) = V := ⟨_, rfl⟩
  have kV : Kept (fun _ => False) w V := by rw [← hV]; exact ((Kept.refl _ w).alloc _).alloc _
  have b0 : V.heap[w.heap.size]? = some (.cells #[.int .i64 W, .int .i64 H, .slice a n cap] 35 (0, 0)) := by rw [← hV]; exact blk_alloc (blk_new _ _) _
  have b1 : V.heap[w.heap.size + 1]? = some (.cells #[.int .u8 0, .int .u8 0, .int .u8 0, .int .u8 0] 65 (0, 0)) := by rw [← hV]; exact blk_at _ _ (by simp)
  have HI := Lib.hid (fun w => show Calls Try.prog 82 #[.agg #[.int .i64 W, .int .i64 H, .slice a n cap], .int .i64 x, .int .i64 y] w fun e w' => e = .returned (.bool false) ∧ Kept (fun _ => False) w w' from by rw [← h]; exact rin_any W H x y a n cap w)
  obtain ⟨⟨c0, -⟩, ⟨c1, -⟩, c2, -⟩ := blk3 b0
  have HB1 := Lib.hid b1
  have HK := Lib.hid kV
  clear b0 b1 kV h
  go_enter Try.func76, Try.ntmps76
  go_wp2_with fail
  refine (HI.out _).mono ?_; rintro e w1 ⟨rfl, hk⟩
  obtain ⟨V1, V2, V3, V4, f1, f2, f3, f4, ⟨g0, g0'⟩, ⟨g1, g1'⟩, ⟨g2, g2'⟩, ⟨g3, g3'⟩, bV, kV4⟩ := store4 (hk.blk HB1.out id) (.int .u8 0) (.int .u8 0) (.int .u8 0) (.int .u8 0)
  obtain ⟨⟨m0, -⟩, ⟨m1, -⟩, ⟨m2, -⟩, m3, -⟩ := blk4 bV
  have HKV := Lib.hid ((HK.out.then hk).trans (kV4.mono fun i _ hi => Or.inr (by have h9 : i = w.heap.size + 1 := hi; omega)))
  clear hk bV kV4
  go_wp2
  exact bodyPost_ret (v := .tuple #[.agg #[.int .u8 0, .int .u8 0, .int .u8 0, .int .u8 0], .bool false]) (by simp [results, Try.results76, go_sem, m0, m1, m2, m3]) rfl ⟨rfl, HKV.out⟩

set_option maxRecDepth 100000 in
set_option maxHeartbeats 4000000 in
theorem rat_yes (W H x y : Nat) (p : List Int) (a : Option Addr) (n cap : Nat) (w : World) (hx : x < W) (hy : y < H) (hb : W * H ≤ 67108864) (hn : n = 4 * (W * H)) (hs : SlAt .u8 w a n p) (hW : W ≤ 16384) (hH : H ≤ 16384) :
    Calls Try.prog 76 #[.agg #[.int .i64 W, .int .i64 H, .slice a n cap], .int .i64 x, .int .i64 y] w fun e w' => e = .returned (.tuple #[pixV p (y * W + x), .bool true]) ∧ Kept (fun _ => False) w w' := by
  have hub := ub_of hs
  have hP := fit_idx hx hy
  have n1 : y * W ≤ 16384 * 16384 := Nat.mul_le_mul (by omega) (by omega)
  obtain ⟨M, hM⟩ : ∃ M, W * H = M := ⟨_, rfl⟩
  rw [hM] at hP hb hn
  obtain ⟨q, hq⟩ : ∃ q, y * W = q := ⟨_, rfl⟩
  rw [hq] at hP n1 ⊢
  subst hn
  obtain ⟨b, off, rfl, hcell⟩ := hs.2.resolve_left (by omega)
  obtain ⟨V, hV⟩ : ∃ V, (w.alloc (.cells #[.int .i64 W, .int .i64 H, .slice (some ⟨b, off, none⟩) (4 * M) cap] 35)).alloc (.cells #[.int .u8 0, .int .u8 0, .int .u8 0, .int .u8 0] 65) = V := ⟨_, rfl⟩
  have kV : Kept (fun _ => False) w V := by rw [← hV]; exact ((Kept.refl _ w).alloc _).alloc _
  have HB0 := Lib.hid (show V.heap[w.heap.size]? = some (.cells #[.int .i64 W, .int .i64 H, .slice (some ⟨b, off, none⟩) (4 * M) cap] 35 (0, 0)) by rw [← hV]; exact blk_alloc (blk_new _ _) _)
  have HB1 := Lib.hid (show V.heap[w.heap.size + 1]? = some (.cells #[.int .u8 0, .int .u8 0, .int .u8 0, .int .u8 0] 65 (0, 0)) by rw [← hV]; exact blk_at _ _ (by simp))
  have HI := Lib.hid (fun w => show Calls Try.prog 82 #[.agg #[.int .i64 W, .int .i64 H, .slice (some ⟨b, off, none⟩) (4 * M) cap], .int .i64 x, .int .i64 y] w fun e w' => e = .returned (.bool true) ∧ Kept (fun _ => False) w w' from by
    have h := rin_any W H x y (some ⟨b, off, none⟩) (4 * M) cap w
    rw [show inB W H x y = true from decide_eq_true (by omega)] at h; exact h)
  obtain ⟨⟨c0, -⟩, ⟨c1, -⟩, c2, -⟩ := blk3 HB0.out
  have HK := Lib.hid kV
  have v1 : (y : Int) * (W : Int) = (q : Int) := by rw [← hq]; simp
  have HC := Lib.hid hcell
  clear kV hcell hs hM hq
  go_enter Try.func76, Try.ntmps76
  go_wp2_with fail
  refine (HI.out _).mono ?_; rintro e w1 ⟨rfl, hk⟩
  obtain ⟨⟨c0, -⟩, ⟨c1, -⟩, c2, -⟩ := blk3 (hk.blk HB0.out id)
  have kk := HK.out.then hk
  have x0 := kk.cell (HC.out (4 * (q + x)) (by omega)) id
  have x1 := kk.cell (HC.out (4 * (q + x) + 1) (by omega)) id
  have x2 := kk.cell (HC.out (4 * (q + x) + 2) (by omega)) id
  have x3 := kk.cell (HC.out (4 * (q + x) + 3) (by omega)) id
  obtain ⟨y0, hy0⟩ : ∃ z, p.getD (4 * (q + x)) 0 = z := ⟨_, rfl⟩
  obtain ⟨y1, hy1⟩ : ∃ z, p.getD (4 * (q + x) + 1) 0 = z := ⟨_, rfl⟩
  obtain ⟨y2, hy2⟩ : ∃ z, p.getD (4 * (q + x) + 2) 0 = z := ⟨_, rfl⟩
  obtain ⟨y3, hy3⟩ : ∃ z, p.getD (4 * (q + x) + 3) 0 = z := ⟨_, rfl⟩
  rw [hy0] at x0
  rw [hy1] at x1
  rw [hy2] at x2
  rw [hy3] at x3
  have HE := Lib.hid (show pixV p (q + x) = .agg #[.int .u8 y0, .int .u8 y1, .int .u8 y2, .int .u8 y3] by unfold pixV; rw [hy0, hy1, hy2, hy3])
  obtain ⟨V1, V2, V3, V4, f1, f2, f3, f4, ⟨g0, g0'⟩, ⟨g1, g1'⟩, ⟨g2, g2'⟩, ⟨g3, g3'⟩, bV, kV4⟩ := store4 (hk.blk HB1.out id) (.int .u8 y0) (.int .u8 y1) (.int .u8 y2) (.int .u8 y3)
  obtain ⟨⟨m0, -⟩, ⟨m1, -⟩, ⟨m2, -⟩, m3, -⟩ := blk4 bV
  have HKV := Lib.hid ((HK.out.then hk).trans (kV4.mono fun i _ hi => Or.inr (by have h9 : i = w.heap.size + 1 := hi; omega)))
  have t0 : (4 * ((q : Int) + (x : Int))).toNat = 4 * (q + x) := by omega
  have t1 : (4 * ((q : Int) + (x : Int)) + 1).toNat = 4 * (q + x) + 1 := by omega
  have t2 : (4 * ((q : Int) + (x : Int)) + 2).toNat = 4 * (q + x) + 2 := by omega
  have t3 : (4 * ((q : Int) + (x : Int)) + 3).toNat = 4 * (q + x) + 3 := by omega
  have w1' : IntKind.i64.wrap (4 * ((q : Int) + (x : Int)) + 1) = 4 * ((q : Int) + (x : Int)) + 1 := IntWalk.i64_in _ (by omega)
  have w2' : IntKind.i64.wrap (4 * ((q : Int) + (x : Int)) + 2) = 4 * ((q : Int) + (x : Int)) + 2 := IntWalk.i64_in _ (by omega)
  have w3' : IntKind.i64.wrap (4 * ((q : Int) + (x : Int)) + 3) = 4 * ((q : Int) + (x : Int)) + 3 := IntWalk.i64_in _ (by omega)
  have l0 : 0 ≤ 4 * ((q : Int) + (x : Int)) := by omega
  have l1 : 0 ≤ 4 * ((q : Int) + (x : Int)) + 1 := by omega
  have l2 : 0 ≤ 4 * ((q : Int) + (x : Int)) + 2 := by omega
  have l3 : 0 ≤ 4 * ((q : Int) + (x : Int)) + 3 := by omega
  have l4 : 4 * ((q : Int) + (x : Int)) < 4 * (M : Int) := by omega
  have l5 : 4 * ((q : Int) + (x : Int)) + 1 < 4 * (M : Int) := by omega
  have l6 : 4 * ((q : Int) + (x : Int)) + 2 < 4 * (M : Int) := by omega
  have l7 : 4 * ((q : Int) + (x : Int)) + 3 < 4 * (M : Int) := by omega
  have l8 : (q : Int) + (x : Int) < (M : Int) := by omega
  clear hk bV kV4 kk hy0 hy1 hy2 hy3 hV
  go_wp2
  go_still_tail 24, (by kernel_rfl)
  clear t0 t1 t2 t3 w1' w2' w3' l0 l1 l2 l3 l4 l5 l6 l7
  change wpList _ _ _ _ _ w1.drew
  go_wp2
  exact bodyPost_ret (v := .tuple #[.agg #[.int .u8 y0, .int .u8 y1, .int .u8 y2, .int .u8 y3], .bool true]) (by simp [results, Try.results76, go_sem, m0, m1, m2, m3]) rfl ⟨by rw [HE.out], HKV.out.drew⟩

end Go.Proofs.Ytdjgmhbfohbenaa
