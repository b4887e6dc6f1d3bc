/- A pixel set: both sides. -/
import Derived.Test.YtgejefhnoloebaaIn
namespace Go.Proofs.Ytgejefhnoloebaa
open Go.RowKit Go.Sort
set_option linter.unusedVariables false
set_option linter.unusedSimpArgs false

set_option maxRecDepth 100000 in
set_option maxHeartbeats 4000000 in
theorem set_no (W H x y : Int) (p : List Int) (a : Option Addr) (n cap : Nat) (c0 c1 c2 c3 : Int) (w : World) (hnI : (n : Int) = 4 * W * H) (hsz : sizeB W H = true) (hin : inB W H x y = false) (hp : SlAt .u8 w a n p) (hn2 : n ≤ 16384) (hnil : a = none → n = 0 ∧ cap = 0) :
    Calls Try.prog 37 #[.agg #[.int .i64 W, .int .i64 H, .slice a n cap], .int .i64 x, .int .i64 y, .agg #[.int .u8 c0, .int .u8 c1, .int .u8 c2, .int .u8 c3]] w fun e w' => ∃ v, e = .returned (.tuple #[.agg #[.int .i64 W, .int .i64 H, v], .bool false]) ∧ Made w p v w' := by
  obtain ⟨V, hV⟩ : ∃ V, ((w.alloc (.cells #[.int .i64 W, .int .i64 H, .slice a n cap] 35)).alloc (.cells #[.int .u8 c0, .int .u8 c1, .int .u8 c2, .int .u8 c3] 23)).alloc (.cells #[.int .i64 0, .int .i64 0, .slice none 0 0] 35) = V := ⟨_, rfl⟩
  have kV : Kept (fun _ => False) w V := by rw [← hV]; exact (((Kept.refl _ w).alloc _).alloc _).alloc _
  have b0 : V.heap[w.heap.size]? = some (.cells #[.int .i64 W, .int .i64 H, .slice a n cap] 35 (0, 0)) := by rw [← hV]; exact blk_alloc (blk_alloc (blk_new _ _) _) _
  have b1 : V.heap[w.heap.size + 1]? = some (.cells #[.int .u8 c0, .int .u8 c1, .int .u8 c2, .int .u8 c3] 23 (0, 0)) := by rw [← hV]; exact blk_alloc (blk_at _ _ (by simp)) _
  have b2 : V.heap[w.heap.size + 1 + 1]? = some (.cells #[.int .i64 0, .int .i64 0, .slice none 0 0] 35 (0, 0)) := by rw [← hV]; exact blk_at _ _ (by simp)
  have sV : w.heap.size + 3 ≤ V.heap.size := by rw [← hV]; simp
  have HTW := Lib.hid (twin_any W H a n cap p V (hp.up kV) hn2 hnil)
  have HI := Lib.hid (fun (w : World) (av : Option Addr) (cv : Nat) => show Calls Try.prog 52 #[.agg #[.int .i64 W, .int .i64 H, .slice av n cv], .int .i64 x, .int .i64 y] w fun e w' => e = .returned (.bool false) ∧ Kept (fun _ => False) w w' from by
    have h := in_any W H x y av n cv w hnI hsz
    rw [hin] at h; exact h)
  obtain ⟨⟨x0, -⟩, ⟨x1, -⟩, x2, -⟩ := blk3 b0
  have HB0 := Lib.hid b0
  have HB1 := Lib.hid b1
  have HB2 := Lib.hid b2
  have HK := Lib.hid kV
  have HPL := Lib.hid hp.1
  clear b0 b1 b2 kV hnil hp hin hsz hnI
  go_enter Try.func37, Try.ntmps37
  go_wp2_with fail
  refine HTW.out.mono ?_; rintro e w1 ⟨v, rfl, ho, hk, hf⟩
  obtain ⟨av, cv, rfl, -⟩ := ho.shape
  rw [HPL.out] at ho hf ⊢
  obtain ⟨V1, V2, V3, f1, f2, f3, ⟨g0, g0'⟩, ⟨g1, g1'⟩, ⟨g2, g2'⟩, bV, kV3⟩ := store3 (hk.blk HB0.out id) (.int .i64 W) (.int .i64 H) (.slice av n cv)
  obtain ⟨⟨q0, -⟩, ⟨q1, -⟩, q2, -⟩ := blk3 bV
  have HF := Lib.hid (show ∀ b, (Value.slice av n cv).ownBlock = some b → w.heap.size + 3 ≤ b from fun b hb => by have := hf b hb; omega)
  have HO1 := Lib.hid (ho.kept kV3 (fun b hb (hS : b = w.heap.size) => by have := HF.out b hb; omega))
  have HK1 := Lib.hid ((HK.out.then hk).trans (kV3.mono fun i _ hi => Or.inr (by have h9 : i = w.heap.size := hi; omega)))
  have HB0' := Lib.hid bV
  have HB1' := Lib.hid (kV3.blk (hk.blk HB1.out id) (fun (h : w.heap.size + 1 = w.heap.size) => by omega))
  have HB2' := Lib.hid (kV3.blk (hk.blk HB2.out id) (fun (h : w.heap.size + 1 + 1 = w.heap.size) => by omega))
  clear ho hf hk bV kV3 x0 x1 x2 hV
  go_wp2_with fail
  refine (HI.out _ av cv).mono ?_; rintro e w2 ⟨rfl, hk⟩
  have HO2 := Lib.hid (HO1.out.kept hk (fun _ _ => id))
  have HK2 := Lib.hid (HK1.out.then hk)
  have HB0'' := Lib.hid (hk.blk HB0'.out id)
  have HB1'' := Lib.hid (hk.blk HB1'.out id)
  have HB2'' := Lib.hid (hk.blk HB2'.out id)
  clear hk g0 g0' g1 g1' g2 g2' f1 f2 f3 q0 q1 q2
  obtain ⟨⟨q0, -⟩, ⟨q1, -⟩, q2, -⟩ := blk3 HB0''.out
  obtain ⟨U1, U2, U3, f1, f2, f3, ⟨g0, g0'⟩, ⟨g1, g1'⟩, ⟨g2, g2'⟩, bU, kU3⟩ := store3 HB2''.out (.int .i64 W) (.int .i64 H) (.slice av n cv)
  obtain ⟨⟨m0, -⟩, ⟨m1, -⟩, m2, -⟩ := blk3 bU
  have HO3 := Lib.hid (HO2.out.kept kU3 (fun b hb (hS : b = w.heap.size + 1 + 1) => by have := HF.out b hb; omega))
  have HK3 := Lib.hid (HK2.out.trans (kU3.mono fun i _ hi => Or.inr (by have h9 : i = w.heap.size + 1 + 1 := hi; omega)))
  clear bU kU3
  go_wp2
  exact bodyPost_ret (v := .tuple #[.agg #[.int .i64 W, .int .i64 H, .slice av n cv], .bool false]) (by simp [results, Try.results37, go_sem, m0, m1, m2]) rfl ⟨_, rfl, HO3.out, HK3.out, fun b hb => by have := HF.out b hb; omega⟩

set_option maxRecDepth 100000 in
set_option maxHeartbeats 4000000 in
theorem set_yes (W H x y : Nat) (p : List Int) (a : Option Addr) (n cap : Nat) (c0 c1 c2 c3 : Int) (w : World) (hnI : (n : Int) = 4 * (W : Int) * (H : Int)) (hsz : sizeB W H = true) (hx : x < W) (hy : y < H) (hp : SlAt .u8 w a n p) (hn2 : n ≤ 16384) (hnil : a = none → n = 0 ∧ cap = 0) :
    Calls Try.prog 37 #[.agg #[.int .i64 W, .int .i64 H, .slice a n cap], .int .i64 x, .int .i64 y, .agg #[.int .u8 c0, .int .u8 c1, .int .u8 c2, .int .u8 c3]] w fun e w' => ∃ v, e = .returned (.tuple #[.agg #[.int .i64 W, .int .i64 H, v], .bool true]) ∧ Made w (spl p (4 * (y * W + x)) [c0, c1, c2, c3]) v w' := by
  have hin : inB W H x y = true := decide_eq_true (by omega)
  obtain ⟨z1, z2, z3, z4, -⟩ := sizeB_t hsz
  have hP := fit_idx hx hy
  have hN : n = 4 * (W * H) := by rw [Int.mul_assoc, show (W : Int) * (H : Int) = ((W * H : Nat) : Int) by simp] at hnI; omega
  have yWb : y * W ≤ 16384 * 16384 := Nat.mul_le_mul (by omega) (by omega)
  obtain ⟨yW, hyW⟩ : ∃ q, y * W = q := ⟨_, rfl⟩
  rw [hyW] at hP yWb ⊢
  have hn4 : 4 * (yW + x) + 4 ≤ n := by omega
  have v5 : (y : Int) * (W : Int) = (yW : Int) := by rw [← hyW]; simp
  clear hN hP hyW
  obtain ⟨V, hV⟩ : ∃ V, ((w.alloc (.cells #[.int .i64 W, .int .i64 H, .slice a n cap] 35)).alloc (.cells #[.int .u8 c0, .int .u8 c1, .int .u8 c2, .int .u8 c3] 23)).alloc (.cells #[.int .i64 0, .int .i64 0, .slice none 0 0] 35) = V := ⟨_, rfl⟩
  have kV : Kept (fun _ => False) w V := by rw [← hV]; exact (((Kept.refl _ w).alloc _).alloc _).alloc _
  have b0 : V.heap[w.heap.size]? = some (.cells #[.int .i64 W, .int .i64 H, .slice a n cap] 35 (0, 0)) := by rw [← hV]; exact blk_alloc (blk_alloc (blk_new _ _) _) _
  have b1 : V.heap[w.heap.size + 1]? = some (.cells #[.int .u8 c0, .int .u8 c1, .int .u8 c2, .int .u8 c3] 23 (0, 0)) := by rw [← hV]; exact blk_alloc (blk_at _ _ (by simp)) _
  have b2 : V.heap[w.heap.size + 1 + 1]? = some (.cells #[.int .i64 0, .int .i64 0, .slice none 0 0] 35 (0, 0)) := by rw [← hV]; exact blk_at _ _ (by simp)
  have sV : w.heap.size + 3 ≤ V.heap.size := by rw [← hV]; simp
  have HTW := Lib.hid (twin_any W H a n cap p V (hp.up kV) hn2 hnil)
  have HI := Lib.hid (fun (w : World) (av : Option Addr) (cv : Nat) => show Calls Try.prog 52 #[.agg #[.int .i64 W, .int .i64 H, .slice av n cv], .int .i64 x, .int .i64 y] w fun e w' => e = .returned (.bool true) ∧ Kept (fun _ => False) w w' from by
    have h := in_any W H x y av n cv w hnI hsz
    rw [hin] at h; exact h)
  obtain ⟨⟨x0, -⟩, ⟨x1, -⟩, x2, -⟩ := blk3 b0
  have HB0 := Lib.hid b0
  have HB1 := Lib.hid b1
  have HB2 := Lib.hid b2
  have HK := Lib.hid kV
  have HPL := Lib.hid hp.1
  clear b0 b1 b2 kV hnil hp hin hsz hnI
  go_enter Try.func37, Try.ntmps37
  go_wp2_with fail
  refine HTW.out.mono ?_; rintro e w1 ⟨v, rfl, ho, hk, hf⟩
  obtain ⟨av, cv, rfl, -⟩ := ho.shape
  rw [HPL.out] at ho hf ⊢
  obtain ⟨V1, V2, V3, f1, f2, f3, ⟨g0, g0'⟩, ⟨g1, g1'⟩, ⟨g2, g2'⟩, bV, kV3⟩ := store3 (hk.blk HB0.out id) (.int .i64 W) (.int .i64 H) (.slice av n cv)
  obtain ⟨⟨q0, -⟩, ⟨q1, -⟩, q2, -⟩ := blk3 bV
  have HF := Lib.hid (show ∀ b, (Value.slice av n cv).ownBlock = some b → w.heap.size + 3 ≤ b from fun b hb => by have := hf b hb; omega)
  have HO1 := Lib.hid (ho.kept kV3 (fun b hb (hS : b = w.heap.size) => by have := HF.out b hb; omega))
  have HK1 := Lib.hid ((HK.out.then hk).trans (kV3.mono fun i _ hi => Or.inr (by have h9 : i = w.heap.size := hi; omega)))
  have HB0' := Lib.hid bV
  have HB1' := Lib.hid (kV3.blk (hk.blk HB1.out id) (fun (h : w.heap.size + 1 = w.heap.size) => by omega))
  have HB2' := Lib.hid (kV3.blk (hk.blk HB2.out id) (fun (h : w.heap.size + 1 + 1 = w.heap.size) => by omega))
  clear ho hf hk bV kV3 x0 x1 x2 hV
  go_wp2_with fail
  refine (HI.out _ av cv).mono ?_; rintro e w2 ⟨rfl, hk⟩
  have HO2 := Lib.hid (HO1.out.kept hk (fun _ _ => id))
  have HK2 := Lib.hid (HK1.out.then hk)
  have HB0'' := Lib.hid (hk.blk HB0'.out id)
  have HB1'' := Lib.hid (hk.blk HB1'.out id)
  have HB2'' := Lib.hid (hk.blk HB2'.out id)
  clear hk g0 g0' g1 g1' g2 g2' f1 f2 f3 q0 q1 q2
  obtain ⟨⟨q0, -⟩, ⟨q1, -⟩, q2, -⟩ := blk3 HB0''.out
  have hcv : n ≤ cv ∧ cv ≤ 9223372036854775807 := by obtain ⟨_, _, hv, -, h1, h2, -⟩ := HO2.out.shape; cases hv; rw [HPL.out] at h1; exact ⟨h1, by simpa [maxLen] using h2⟩
  obtain ⟨g, rfl⟩ := HO2.out.form (by omega)
  have hgF := HF.out g rfl
  obtain ⟨⟨k0, -⟩, ⟨k1, -⟩, ⟨k2, -⟩, k3, -⟩ := blk4 HB1''.out
  have HS18 := Lib.hid (show SlAt .u8 w2 (some ⟨w.heap.size + 1, 0, none⟩) 4 [c0, c1, c2, c3] from slAt_blk HB1''.out rfl rfl)
  have l2 : 4 * ((yW : Int) + (x : Int)) ≤ (n : Int) := by omega
  have l3 : 4 * ((yW : Int) + (x : Int)) ≤ (cv : Int) := by omega
  have t1 : (4 * ((yW : Int) + (x : Int))).toNat = 4 * (yW + x) := by omega
  have w1' : IntKind.i64.wrap (yW : Int) = (yW : Int) := IntWalk.i64_in _ (by omega)
  have w2' : IntKind.i64.wrap ((yW : Int) + (x : Int)) = (yW : Int) + (x : Int) := IntWalk.i64_in _ (by omega)
  have w3' : IntKind.i64.wrap (4 * ((yW : Int) + (x : Int))) = 4 * ((yW : Int) + (x : Int)) := IntWalk.i64_in _ (by omega)
  have l1 : 0 ≤ 4 * ((yW : Int) + (x : Int)) := by omega
  have hcap : ¬ (cv = 4 * (yW + x)) := by omega
  have hmin := Lib.hid (show 4 = Nat.min 4 (n - 4 * (yW + x)) from (Nat.min_eq_left (show 4 ≤ n - 4 * (yW + x) by omega)).symm)
  go_wp2
  go_still_tail 11, (by kernel_rfl)
  clear l1 l2 l3 t1 w1' w2' w3'
  change wpList _ _ _ _ _ w2.drew
  refine wpList_cp rfl (.tmp 27) (.tmp 28) 33 33 rfl 5 .u8 Try.underlying33 Try.size5 g n cv (4 * (yW + x)) _ _ _ rfl (HO2.out.kept ((Kept.refl (fun _ => False) w2).drew) (fun _ _ => id)) (some ⟨w.heap.size + 1, 0, none⟩) 4 _ _ rfl (HS18.out.up ((Kept.refl (fun _ => False) w2).drew)) 4 hmin.out (by omega) ?_
  intro w4 ho4 hk4
  have kd := (Kept.refl (fun i => i = g) w2).drew
  have HO4 := Lib.hid ho4
  have HK4 := Lib.hid (HK2.out.drew.trans (hk4.mono fun i _ hi => Or.inr (by have h9 : i = g := hi; omega)))
  have q2' := hk4.blk (show w2.drew.heap[w.heap.size + 1 + 1]? = _ from HB2''.out) (fun (h : w.heap.size + 1 + 1 = g) => by omega)
  obtain ⟨⟨q0, -⟩, ⟨q1, -⟩, q2, -⟩ := blk3 (hk4.blk (show w2.drew.heap[w.heap.size]? = _ from HB0''.out) (fun (h : w.heap.size = g) => by omega))
  clear ho4 hk4 kd k0 k1 k2 k3
  obtain ⟨U1, U2, U3, f1, f2, f3, ⟨g0, g0'⟩, ⟨g1, g1'⟩, ⟨g2, g2'⟩, bU, kU3⟩ := store3 q2' (.int .i64 W) (.int .i64 H) (.slice (some ⟨g, 0, none⟩) n cv)
  obtain ⟨⟨m0, -⟩, ⟨m1, -⟩, m2, -⟩ := blk3 bU
  have HO3 := Lib.hid (HO4.out.kept kU3 (fun b hb (hS : b = w.heap.size + 1 + 1) => by have := HF.out b hb; omega))
  have HK3 := Lib.hid (HK4.out.trans (kU3.mono fun i _ hi => Or.inr (by have h9 : i = w.heap.size + 1 + 1 := hi; omega)))
  clear bU kU3
  go_wp2
  exact bodyPost_ret (v := .tuple #[.agg #[.int .i64 W, .int .i64 H, .slice (some ⟨g, 0, none⟩) n cv], .bool true]) (by simp [results, Try.results37, go_sem, m0, m1, m2]) rfl ⟨_, rfl, HO3.out, HK3.out, fun b hb => by have := HF.out b hb; omega⟩

end Go.Proofs.Ytgejefhnoloebaa
