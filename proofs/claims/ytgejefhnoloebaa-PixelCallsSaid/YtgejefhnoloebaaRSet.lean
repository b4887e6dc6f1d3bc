/- A pixel set: the document's. -/
import Derived.Test.YtgejefhnoloebaaIn
namespace Go.Proofs.Ytgejefhnoloebaa
open Go.RowKit Go.Sort
set_option linter.unusedVariables false
set_option linter.unusedSimpArgs false

set_option maxRecDepth 100000 in
set_option maxHeartbeats 4000000 in
theorem rset_no (W H x y : Int) (p : List Int) (a : Option Addr) (n cap : Nat) (c0 c1 c2 c3 : Int) (w : World) (hin : inB W H x y = false) (hp : SlAt .u8 w a n p) (hn2 : n ≤ 16384) (hnil : a = none → n = 0 ∧ cap = 0) :
    Calls Try.prog 38 #[.agg #[.int .i64 W, .int .i64 H, .slice a n cap], .int .i64 x, .int .i64 y, .agg #[.int .u8 c0, .int .u8 c1, .int .u8 c2, .int .u8 c3]] w fun e w' => ∃ v, e = .returned (.tuple #[.agg #[.int .i64 W, .int .i64 H, v], .bool false]) ∧ Made w p v w' := by
  obtain ⟨V, hV⟩ : ∃ V, ((w.alloc (.cells #[.int .i64 W, .int .i64 H, .slice a n cap] 41)).alloc (.cells #[.int .u8 c0, .int .u8 c1, .int .u8 c2, .int .u8 c3] 22)).alloc (.cells #[.int .i64 0, .int .i64 0, .slice none 0 0] 41) = V := ⟨_, rfl⟩
  have kV : Kept (fun _ => False) w V := by rw [← hV]; exact (((Kept.refl _ w).alloc _).alloc _).alloc _
  have b0 : V.heap[w.heap.size]? = some (.cells #[.int .i64 W, .int .i64 H, .slice a n cap] 41 (0, 0)) := by rw [← hV]; exact blk_alloc (blk_alloc (blk_new _ _) _) _
  have b1 : V.heap[w.heap.size + 1]? = some (.cells #[.int .u8 c0, .int .u8 c1, .int .u8 c2, .int .u8 c3] 22 (0, 0)) := by rw [← hV]; exact blk_alloc (blk_at _ _ (by simp)) _
  have b2 : V.heap[w.heap.size + 1 + 1]? = some (.cells #[.int .i64 0, .int .i64 0, .slice none 0 0] 41 (0, 0)) := by rw [← hV]; exact blk_at _ _ (by simp)
  have sV : w.heap.size + 3 ≤ V.heap.size := by rw [← hV]; simp
  have HTW := Lib.hid (rtwin_any W H a n cap p V (hp.up kV) hn2 hnil)
  have HI := Lib.hid (fun (w : World) => show Calls Try.prog 54 #[.agg #[.int .i64 W, .int .i64 H, .slice a n cap], .int .i64 x, .int .i64 y] w fun e w' => e = .returned (.bool false) ∧ Kept (fun _ => False) w w' from by
    have h := rin_any W H x y a n cap w
    rw [hin] at h; exact h)
  obtain ⟨⟨x0, -⟩, ⟨x1, -⟩, x2, -⟩ := blk3 b0
  have HB0 := Lib.hid b0
  have HB1 := Lib.hid b1
  have HB2 := Lib.hid b2
  have HK := Lib.hid kV
  have HPL := Lib.hid hp.1
  clear b0 b1 b2 kV hnil hp hin
  go_enter Try.func38, Try.ntmps38
  go_wp2_with fail
  refine HTW.out.mono ?_; rintro e w1 ⟨v, rfl, ho, hk, hf⟩
  obtain ⟨av, cv, rfl, -⟩ := ho.shape
  rw [HPL.out] at ho hf ⊢
  obtain ⟨U, hU⟩ : ∃ U, w1.alloc (.cells #[.int .i64 W, .int .i64 H, .slice av n cv] 41) = U := ⟨_, rfl⟩
  obtain ⟨P9, hP9⟩ : ∃ P, w1.heap.size = P := ⟨_, rfl⟩
  have kU : Kept (fun _ => False) w1 U := by rw [← hU]; exact (Kept.refl _ _).alloc _
  have hP9l : V.heap.size ≤ P9 := by have := hk.size; omega
  have HBU := Lib.hid (show U.heap[P9]? = some (.cells #[.int .i64 W, .int .i64 H, .slice av n cv] 41 (0, 0)) by rw [← hU, ← hP9]; exact blk_new _ _)
  have HB0 := Lib.hid ((hk.then kU).blk HB0.out id)
  have HB1 := Lib.hid ((hk.then kU).blk HB1.out id)
  have HB2 := Lib.hid ((hk.then kU).blk HB2.out id)
  have HOU := Lib.hid (ho.kept kU (fun _ _ => id))
  have HKU := Lib.hid ((HK.out.then hk).then kU)
  have HF := Lib.hid (show ∀ b, (Value.slice av n cv).ownBlock = some b → w.heap.size + 3 ≤ b ∧ b < P9 from fun b hb => ⟨by have := hf b hb; omega, by have := Own.lt ho b hb; omega⟩)
  clear hk kU ho hf x0 x1 x2
  obtain ⟨⟨x0, -⟩, ⟨x1, -⟩, x2, -⟩ := blk3 HB0.out
  go_wp2_with fail
  refine (HI.out _).mono ?_; rintro e w2 ⟨rfl, hk⟩
  have HBU2 := Lib.hid (hk.blk HBU.out id)
  have HB12 := Lib.hid (hk.blk HB1.out id)
  have HB22 := Lib.hid (hk.blk HB2.out id)
  have HO2 := Lib.hid (HOU.out.kept hk (fun _ _ => id))
  have HK2 := Lib.hid (HKU.out.then hk)
  obtain ⟨⟨u0', -⟩, ⟨u1', -⟩, u2', -⟩ := blk3 HBU2.out
  clear hk x0 x1 x2 hU hP9 hV
  obtain ⟨U1, U2, U3, f1, f2, f3, ⟨g0, g0'⟩, ⟨g1, g1'⟩, ⟨g2, g2'⟩, bU, kU3⟩ := store3 HB22.out (.int .i64 W) (.int .i64 H) (.slice av n cv)
  obtain ⟨⟨m0, -⟩, ⟨m1, -⟩, m2, -⟩ := blk3 bU
  have HO3 := Lib.hid (HO2.out.kept kU3 (fun b hb (hS : b = w.heap.size + 1 + 1) => by have := HF.out b hb; omega))
  have HK3 := Lib.hid (HK2.out.trans (kU3.mono fun i _ hi => Or.inr (by have h9 : i = w.heap.size + 1 + 1 := hi; omega)))
  clear bU kU3
  go_wp2
  exact bodyPost_ret (v := .tuple #[.agg #[.int .i64 W, .int .i64 H, .slice av n cv], .bool false]) (by simp [results, Try.results38, go_sem, m0, m1, m2]) rfl ⟨_, rfl, HO3.out, HK3.out, fun b hb => by have := HF.out b hb; omega⟩

set_option maxRecDepth 100000 in
set_option maxHeartbeats 4000000 in
theorem rset_yes (W H x y : Nat) (p : List Int) (a : Option Addr) (n cap : Nat) (c0 c1 c2 c3 : Int) (w : World) (hx : x < W) (hy : y < H) (hM : W * H ≤ 67108864) (hN : n = 4 * (W * H)) (hW : W ≤ 16384) (hH : H ≤ 16384) (hp : SlAt .u8 w a n p) (hn2 : n ≤ 16384) (hnil : a = none → n = 0 ∧ cap = 0) :
    Calls Try.prog 38 #[.agg #[.int .i64 W, .int .i64 H, .slice a n cap], .int .i64 x, .int .i64 y, .agg #[.int .u8 c0, .int .u8 c1, .int .u8 c2, .int .u8 c3]] w fun e w' => ∃ v, e = .returned (.tuple #[.agg #[.int .i64 W, .int .i64 H, v], .bool true]) ∧ Made w (spl p (4 * (y * W + x)) [c0, c1, c2, c3]) v w' := by
  have hin : inB W H x y = true := decide_eq_true (by omega)
  have hform := fit_idx hx hy
  have hn0 : 0 < n := by omega
  have HN := Lib.hid hN
  clear hN hform
  obtain ⟨V, hV⟩ : ∃ V, ((w.alloc (.cells #[.int .i64 W, .int .i64 H, .slice a n cap] 41)).alloc (.cells #[.int .u8 c0, .int .u8 c1, .int .u8 c2, .int .u8 c3] 22)).alloc (.cells #[.int .i64 0, .int .i64 0, .slice none 0 0] 41) = V := ⟨_, rfl⟩
  have kV : Kept (fun _ => False) w V := by rw [← hV]; exact (((Kept.refl _ w).alloc _).alloc _).alloc _
  have b0 : V.heap[w.heap.size]? = some (.cells #[.int .i64 W, .int .i64 H, .slice a n cap] 41 (0, 0)) := by rw [← hV]; exact blk_alloc (blk_alloc (blk_new _ _) _) _
  have b1 : V.heap[w.heap.size + 1]? = some (.cells #[.int .u8 c0, .int .u8 c1, .int .u8 c2, .int .u8 c3] 22 (0, 0)) := by rw [← hV]; exact blk_alloc (blk_at _ _ (by simp)) _
  have b2 : V.heap[w.heap.size + 1 + 1]? = some (.cells #[.int .i64 0, .int .i64 0, .slice none 0 0] 41 (0, 0)) := by rw [← hV]; exact blk_at _ _ (by simp)
  have sV : w.heap.size + 3 ≤ V.heap.size := by rw [← hV]; simp
  have HTW := Lib.hid (rtwin_any W H a n cap p V (hp.up kV) hn2 hnil)
  have HI := Lib.hid (fun (w : World) => show Calls Try.prog 54 #[.agg #[.int .i64 W, .int .i64 H, .slice a n cap], .int .i64 x, .int .i64 y] w fun e w' => e = .returned (.bool true) ∧ Kept (fun _ => False) w w' from by
    have h := rin_any W H x y a n cap w
    rw [hin] at h; exact h)
  obtain ⟨⟨x0, -⟩, ⟨x1, -⟩, x2, -⟩ := blk3 b0
  have HB0 := Lib.hid b0
  have HB1 := Lib.hid b1
  have HB2 := Lib.hid b2
  have HK := Lib.hid kV
  have HPL := Lib.hid hp.1
  clear b0 b1 b2 kV hnil hp hin
  go_enter Try.func38, Try.ntmps38
  go_wp2_with fail
  refine HTW.out.mono ?_; rintro e w1 ⟨v, rfl, ho, hk, hf⟩
  obtain ⟨av, cv, rfl, -⟩ := ho.shape
  rw [HPL.out] at ho hf ⊢
  obtain ⟨U, hU⟩ : ∃ U, w1.alloc (.cells #[.int .i64 W, .int .i64 H, .slice av n cv] 41) = U := ⟨_, rfl⟩
  obtain ⟨P9, hP9⟩ : ∃ P, w1.heap.size = P := ⟨_, rfl⟩
  have kU : Kept (fun _ => False) w1 U := by rw [← hU]; exact (Kept.refl _ _).alloc _
  have hP9l : V.heap.size ≤ P9 := by have := hk.size; omega
  have HBU := Lib.hid (show U.heap[P9]? = some (.cells #[.int .i64 W, .int .i64 H, .slice av n cv] 41 (0, 0)) by rw [← hU, ← hP9]; exact blk_new _ _)
  have HB0 := Lib.hid ((hk.then kU).blk HB0.out id)
  have HB1 := Lib.hid ((hk.then kU).blk HB1.out id)
  have HB2 := Lib.hid ((hk.then kU).blk HB2.out id)
  have HOU := Lib.hid (ho.kept kU (fun _ _ => id))
  have HKU := Lib.hid ((HK.out.then hk).then kU)
  have HF := Lib.hid (show ∀ b, (Value.slice av n cv).ownBlock = some b → w.heap.size + 3 ≤ b ∧ b < P9 from fun b hb => ⟨by have := hf b hb; omega, by have := Own.lt ho b hb; omega⟩)
  clear hk kU ho hf x0 x1 x2
  obtain ⟨⟨x0, -⟩, ⟨x1, -⟩, x2, -⟩ := blk3 HB0.out
  go_wp2_with fail
  refine (HI.out _).mono ?_; rintro e w2 ⟨rfl, hk⟩
  have HBU2 := Lib.hid (hk.blk HBU.out id)
  have HB12 := Lib.hid (hk.blk HB1.out id)
  have HB22 := Lib.hid (hk.blk HB2.out id)
  have HO2 := Lib.hid (HOU.out.kept hk (fun _ _ => id))
  have HK2 := Lib.hid (HKU.out.then hk)
  obtain ⟨⟨u0', -⟩, ⟨u1', -⟩, u2', -⟩ := blk3 HBU2.out
  clear hk x0 x1 x2 hU hP9 hV
  obtain ⟨g, rfl⟩ := HO2.out.form hn0
  have hgF := HF.out g rfl
  obtain ⟨⟨k0, -⟩, ⟨k1, -⟩, ⟨k2, -⟩, k3, -⟩ := blk4 HB12.out
  have HPT := Lib.hid (put_any W H x y p [] g n cv w2 hx hy hM HN.out HO2.out hW hH c0 c1 c2 c3)
  clear hM
  go_wp2_with fail
  refine HPT.out.mono ?_; rintro e w4 ⟨rfl, ho4, hk4⟩
  have HO4 := Lib.hid ho4
  have HK4 := Lib.hid (HK2.out.trans (hk4.mono fun i _ hi => Or.inr (by have h9 : i = g := hi; omega)))
  have q2' := hk4.blk HB22.out (fun (h : w.heap.size + 1 + 1 = g) => by omega)
  obtain ⟨⟨q0, -⟩, ⟨q1, -⟩, q2, -⟩ := blk3 (hk4.blk HBU2.out (fun (h : P9 = g) => by omega))
  clear ho4 hk4 k0 k1 k2 k3 u0' u1' u2'
  obtain ⟨U1, U2, U3, f1, f2, f3, ⟨g0, g0'⟩, ⟨g1, g1'⟩, ⟨g2, g2'⟩, bU, kU3⟩ := store3 q2' (.int .i64 W) (.int .i64 H) (.slice (some ⟨g, 0, none⟩) n cv)
  obtain ⟨⟨m0, -⟩, ⟨m1, -⟩, m2, -⟩ := blk3 bU
  have HO3 := Lib.hid (HO4.out.kept kU3 (fun b hb (hS : b = w.heap.size + 1 + 1) => by have := HF.out b hb; omega))
  have HK3 := Lib.hid (HK4.out.trans (kU3.mono fun i _ hi => Or.inr (by have h9 : i = w.heap.size + 1 + 1 := hi; omega)))
  clear bU kU3
  go_wp2
  exact bodyPost_ret (v := .tuple #[.agg #[.int .i64 W, .int .i64 H, .slice (some ⟨g, 0, none⟩) n cv], .bool true]) (by simp [results, Try.results38, go_sem, m0, m1, m2]) rfl ⟨_, rfl, HO3.out, HK3.out, fun b hb => by have := HF.out b hb; omega⟩

end Go.Proofs.Ytgejefhnoloebaa
