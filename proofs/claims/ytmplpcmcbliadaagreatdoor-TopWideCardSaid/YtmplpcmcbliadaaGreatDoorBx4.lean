/- The parts of a glyph laid: the program's box, by one of its closures; The glyphs of all cells; The cursor turns the colours of its cell round; Several texts in one: DrwD, CompD, DrawD, Known, PicP. -/
import Derived.Test.YtmplpcmcbliadaaGreatDoorBx3
set_option linter.unusedVariables false
set_option linter.unusedSimpArgs false
namespace Go.Proofs.YtmplpcmcbliadaaGreatDoor
open Go.RowKit Go.Sort Pl
attribute [local go_sem] A2.growOp A2.growUpon A2.sameUpon
set_option maxRecDepth 100000 in
set_option maxHeartbeats 8000000 in
theorem box113_any (c0 c1 c2 c3 : Value) (S : Nat -> Prop) (I : List Int -> World -> Prop) (L : Int -> Int -> Int -> Int -> Rgb -> List Int -> List Int) (r w h : Int) (a : Look) (P : List Int) (wd : World)
  (hI : I P wd) (hIk : ∀ P w w', I P w -> Kept (fun _ => False) w w' -> I P w') (hS : ∀ i, S i -> i < wd.heap.size) (hlay : Lays 554 #[c0, c1, c2, c3] S I L)
  (hr : -2147483648 <= r /\ r <= 2147483647) (hw : 1 <= w /\ w <= 128) (hh : 1 <= h /\ h <= 64) :
  Calls Tryz.prog 553 #[.int .i32 r, .int .i64 w, .int .i64 h, lookV a, .func (.func 554) #[] #[c0, c1, c2, c3]] wd fun e w' => e = .returned (.tuple #[]) /\ I (boxS L r w h a P) w' /\ Kept S wd w' := by
 obtain ⟨fg, bg, fl⟩ := a
 obtain ⟨F, hF⟩ : ∃ F, (colors ⟨fg, bg, fl⟩).1 = F := ⟨_, rfl⟩
 obtain ⟨B, hB⟩ : ∃ B, (colors ⟨fg, bg, fl⟩).2 = B := ⟨_, rfl⟩
 unfold boxS
 simp only
 rw [hF, hB]
 obtain ⟨x4, hx4⟩ : ∃ x, w / 4 = x := ⟨_, rfl⟩
 obtain ⟨y4, hy4⟩ : ∃ x, h / 4 = x := ⟨_, rfl⟩
 obtain ⟨bw, hbw⟩ : ∃ x, (w + 1) / 2 = x := ⟨_, rfl⟩
 obtain ⟨bh, hbh⟩ : ∃ x, (h + 1) / 2 = x := ⟨_, rfl⟩
 obtain ⟨h2, hh2⟩ : ∃ x, h / 2 = x := ⟨_, rfl⟩
 obtain ⟨z8, hz8⟩ : ∃ z, bits .and .i64 fl 8 = z := ⟨_, rfl⟩
 obtain ⟨z128, hz128⟩ : ∃ z, bits .and .i64 fl 128 = z := ⟨_, rfl⟩
 unfold hasB
 simp only [hz8, hz128]
 rw [hx4, hy4, hbw, hbh, hh2]
 have bx4 : 0 <= x4 /\ x4 <= 32 := by omega
 have by4 : 0 <= y4 /\ y4 <= 16 := by omega
 have bbw : 1 <= bw /\ bw <= 64 := by omega
 have bbh : 1 <= bh /\ bh <= 32 := by omega
 have bh2 : 0 <= h2 /\ h2 <= 32 := by omega
 have t1 : w.tdiv 4 = x4 := by rw [Int.tdiv_eq_ediv_of_nonneg (by omega)]; exact hx4
 have t2 : h.tdiv 4 = y4 := by rw [Int.tdiv_eq_ediv_of_nonneg (by omega)]; exact hy4
 have t3 : (w + 1).tdiv 2 = bw := by rw [Int.tdiv_eq_ediv_of_nonneg (by omega)]; exact hbw
 have t4 : (h + 1).tdiv 2 = bh := by rw [Int.tdiv_eq_ediv_of_nonneg (by omega)]; exact hbh
 have t5 : h.tdiv 2 = h2 := by rw [Int.tdiv_eq_ediv_of_nonneg (by omega)]; exact hh2
 have u1 : IntKind.i64.wrap x4 = x4 := IntWalk.i64_in _ (by omega)
 have u2 : IntKind.i64.wrap y4 = y4 := IntWalk.i64_in _ (by omega)
 have u3 : IntKind.i64.wrap bw = bw := IntWalk.i64_in _ (by omega)
 have u4 : IntKind.i64.wrap bh = bh := IntWalk.i64_in _ (by omega)
 have u5 : IntKind.i64.wrap h2 = h2 := IntWalk.i64_in _ (by omega)
 have u6 : IntKind.i64.wrap (w + 1) = w + 1 := IntWalk.i64_in _ (by omega)
 have u7 : IntKind.i64.wrap (h + 1) = h + 1 := IntWalk.i64_in _ (by omega)
 have u8 : IntKind.i64.wrap (h - 1) = h - 1 := IntWalk.i64_in _ (by omega)
 have u9 : IntKind.i64.wrap r = r := IntWalk.i64_in _ (by omega)
 obtain ⟨m1, hm1⟩ : ∃ m, r % bw = m := ⟨_, rfl⟩
 obtain ⟨m2, hm2⟩ : ∃ m, r / 256 % bh = m := ⟨_, rfl⟩
 have bm1 : 0 <= m1 /\ m1 < 64 := by rw [<- hm1]; exact ⟨Int.emod_nonneg _ (by omega), by have := Int.emod_lt_of_pos r (show 0 < bw by omega); omega⟩
 have bm2 : 0 <= m2 /\ m2 < 32 := by rw [<- hm2]; exact ⟨Int.emod_nonneg _ (by omega), by have := Int.emod_lt_of_pos (r / 256) (show 0 < bh by omega); omega⟩
 rw [hm1, hm2]
 obtain ⟨RES, hRES⟩ : ∃ X, (if (z128 != 0) = true then L 0 h2 w 1 F (if (z8 != 0) = true then L 0 (h - 1) w 1 F (if 32 < r then (if 2 < bw /\ 2 < bh then L (x4 + m1) (y4 + m2) 1 1 B (L x4 y4 bw bh F P) else L x4 y4 bw bh F P) else P) else (if 32 < r then (if 2 < bw /\ 2 < bh then L (x4 + m1) (y4 + m2) 1 1 B (L x4 y4 bw bh F P) else L x4 y4 bw bh F P) else P)) else (if (z8 != 0) = true then L 0 (h - 1) w 1 F (if 32 < r then (if 2 < bw /\ 2 < bh then L (x4 + m1) (y4 + m2) 1 1 B (L x4 y4 bw bh F P) else L x4 y4 bw bh F P) else P) else (if 32 < r then (if 2 < bw /\ 2 < bh then L (x4 + m1) (y4 + m2) 1 1 B (L x4 y4 bw bh F P) else L x4 y4 bw bh F P) else P))) = X := ⟨_, rfl⟩
 rw [hRES]
 have HRES := Lib.hid hRES
 have HM := Lib.hid (And.intro hm1 hm2)
 have HB := Lib.hid (And.intro hw (And.intro hh hr))
 clear hx4 hy4 hbw hbh hh2 hm1 hm2 hRES
 obtain ⟨W, hW⟩ : ∃ W, wd.alloc (.cells #[.int .i64 fg, .int .i64 bg, .int .i64 fl] 53) = W := ⟨_, rfl⟩
 have hkW : Kept (fun _ => False) wd W := by rw [<- hW]; exact (Kept.refl _ _).alloc _
 have hbW : W.heap[wd.heap.size]? = some (.cells #[.int .i64 fg, .int .i64 bg, .int .i64 fl] 53 (0, 0)) := by rw [<- hW]; exact blk_new _ _
 have HC := Lib.hid (show ∀ w, Calls Tryz.prog 538 #[.agg #[.int .i64 fg, .int .i64 bg, .int .i64 fl]] w fun e w' => e = .returned (.tuple #[.agg #[.int .u8 F.r, .int .u8 F.g, .int .u8 F.b], .agg #[.int .u8 B.r, .int .u8 B.g, .int .u8 B.b]]) /\ Kept (fun _ => False) w w' from fun w => by have h := cols_any ⟨fg, bg, fl⟩ w; unfold ColsPost at h; rw [hF, hB] at h; exact h)
 have HL := Lib.hid (show ∀ (x y bw bh : Int) (c : Rgb) (P : List Int) (w : World), Sml x -> Sml y -> Sml bw -> Sml bh -> I P w ->
  Calls Tryz.prog 554 #[.int .i64 x, .int .i64 y, .int .i64 bw, .int .i64 bh, .agg #[.int .u8 c.r, .int .u8 c.g, .int .u8 c.b, .int .u8 255], c0, c1, c2, c3] w fun e w' => e = .returned (.tuple #[]) /\ I (L x y bw bh c P) w' /\ Kept S w w' from hlay)
 have HSO := Lib.hid (And.intro hIk (And.intro hS hI))
 obtain ⟨⟨a0, -⟩, ⟨a1, -⟩, a2, -⟩ := blk3 hbW
 have HW := Lib.hid (And.intro hkW hbW)
 clear hF hB hlay hIk hS hI hkW hbW hw hh hr
 unfold lookV
 go_enter Tryz.func553, Tryz.ntmps553
 go_wp2_with fail
 refine (HC.out _).mono ?_; rintro e w1 ⟨rfl, hk1⟩
 obtain ⟨V, hV⟩ : ∃ V, (w1.alloc (.cells #[.int .u8 F.r, .int .u8 F.g, .int .u8 F.b] 210)).alloc (.cells #[.int .u8 B.r, .int .u8 B.g, .int .u8 B.b] 210) = V := ⟨_, rfl⟩
 have kV : Kept (fun _ => False) w1 V := by rw [<- hV]; exact ((Kept.refl _ _).alloc _).alloc _
 have v0 : V.heap[w1.heap.size]? = some (.cells #[.int .u8 F.r, .int .u8 F.g, .int .u8 F.b] 210 (0, 0)) := by rw [<- hV]; exact blk_alloc (blk_new _ _) _
 have v1 : V.heap[w1.heap.size + 1]? = some (.cells #[.int .u8 B.r, .int .u8 B.g, .int .u8 B.b] 210 (0, 0)) := by rw [<- hV]; exact blk_at _ _ (by simp)
 obtain ⟨WR, hWR⟩ : ∃ WR, WR = V.drew := ⟨_, rfl⟩
 have kR : Kept (fun _ => False) V WR := by rw [hWR]; exact (Kept.refl _ _).drew
 have HKR := Lib.hid (And.intro ((HW.out.1.then hk1).then (kV.then kR)) (((hk1.then (kV.then kR)).blk HW.out.2 id)))
 obtain ⟨⟨d0, -⟩, ⟨d1, -⟩, d2, -⟩ := blk3 (kR.blk v0 id)
 obtain ⟨⟨e0, -⟩, ⟨e1, -⟩, e2, -⟩ := blk3 (kR.blk v1 id)
 have X0 := cell_regrown d0
 have X1 := cell_regrown d1
 have X2 := cell_regrown d2
 have Y0 := cell_regrown e0
 have Y1 := cell_regrown e1
 have Y2 := cell_regrown e2
 have HSF := Lib.hid (show ∀ w, Calls Tryz.prog 540 #[.agg #[.int .u8 F.r, .int .u8 F.g, .int .u8 F.b]] w fun e w' => e = .returned (rgbaV F) /\ Kept (fun _ => False) w w' from fun w => solid_any F w)
 have HSB := Lib.hid (show ∀ w, Calls Tryz.prog 540 #[.agg #[.int .u8 B.r, .int .u8 B.g, .int .u8 B.b]] w fun e w' => e = .returned (rgbaV B) /\ Kept (fun _ => False) w w' from fun w => solid_any B w)
 obtain ⟨RF, hRF⟩ : ∃ R : Value -> World -> Prop, R = fun v _ => v = .agg #[.int .u8 F.r, .int .u8 F.g, .int .u8 F.b, .int .u8 255] := ⟨_, rfl⟩
 obtain ⟨RB, hRB⟩ : ∃ R : Value -> World -> Prop, R = fun v _ => v = .agg #[.int .u8 B.r, .int .u8 B.g, .int .u8 B.b, .int .u8 255] := ⟨_, rfl⟩
 obtain ⟨RA, hRA⟩ : ∃ R : Value -> World -> Prop, R = fun v w' => ∃ q, v = .pointer (some ⟨q, 0, none⟩) /\ WR.heap.size <= q /\ w'.heap.size = q + 1 /\ w'.heap[q]? = some (.cells #[.int .u8 0, .int .u8 0, .int .u8 0, .int .u8 0] 43 (0, 0)) := ⟨_, rfl⟩
 have HRF := Lib.hid hRF
 have HRB := Lib.hid hRB
 have HRA := Lib.hid hRA
 have HWR := Lib.hid hWR
 clear hk1 kV v0 v1 kR d0 d1 d2 e0 e1 e2 hRF hRB hRA hWR a0 a1 a2
 go_wp2
 refine A2.wp_region_grow (fun i => i == 4 || i == 5) #[0, 1, 0, 7, 0, 0, 63, 127] 6 [] (fun i => if i = 1 then some RF else if i = 3 then some RB else if i = 4 then some RA else if i = 5 then some RA else none) (by kernel_rfl) rfl (by kernel_rfl) (fun i hi => by cases hi) (fun _ _ _ _ _ h => h) ?_
 rintro _ rfl
 rw [<- HWR.out]
 simp only [List.take_succ_cons, List.take_zero, List.drop_succ_cons, List.drop_zero, A2.number, Nat.reduceAdd]
 refine A2.wpGrow_step (fun K hK => ?_); go_simp; refine hK _ _ ?_; clear hK K
 refine A2.wpGrow_step (fun K hK => ?_)
 go_simp
 refine ⟨fun w' hg => (HSF.out w').mono (fun e9 w'' ⟨he, hk⟩ => ⟨_, he, hk, by rw [HRF.out]; rfl⟩), fun v2 w2 hv2 hg2 _ => ?_⟩
 rw [HRF.out] at hv2
 subst hv2
 refine hK _ _ ?_; clear hK K
 refine A2.wpGrow_step (fun K hK => ?_); go_simp; refine hK _ _ ?_; clear hK K
 refine A2.wpGrow_step (fun K hK => ?_)
 go_simp
 refine ⟨fun w' hg => (HSB.out w').mono (fun e9 w'' ⟨he, hk⟩ => ⟨_, he, hk, by rw [HRB.out]; rfl⟩), fun v3 w3 hv3 hg3 _ => ?_⟩
 rw [HRB.out] at hv3
 subst hv3
 refine hK _ _ ?_; clear hK K
 refine A2.wpGrow_step (fun K hK => ?_)
 go_simp
 refine ⟨fun w' hg => ⟨(Kept.refl _ _).alloc _, by rw [HRA.out]; exact ⟨_, rfl, hg.old.size, by simp, blk_new _ _⟩⟩, fun v4 w4 hv4 hg4 _ => ?_⟩
 rw [HRA.out] at hv4
 obtain ⟨q4, rfl, hq4, hs4, hb4⟩ := hv4
 have HQ4 := Lib.hid (And.intro hq4 (And.intro hs4 hb4))
 clear hq4 hs4 hb4
 refine hK _ _ ?_; clear hK K
 refine A2.wpGrow_step (fun K hK => ?_)
 go_simp
 refine ⟨fun w' hg => ⟨(Kept.refl _ _).alloc _, by rw [HRA.out]; exact ⟨_, rfl, hg.old.size, by simp, blk_new _ _⟩⟩, fun v5 w5 hv5 hg5 hap => ?_⟩
 rw [HRA.out] at hv5
 obtain ⟨q5, rfl, hq5, hs5, hb5⟩ := hv5
 have hne : q4 ≠ q5 := by
  have h := (hap rfl).2 4 rfl (by decide)
  rw [A2.moment_self, HQ4.out.2.1, hs5] at h
  omega
 have HQ5 := Lib.hid (And.intro hq5 (And.intro hb5 hne))
 clear hq5 hs5 hb5 hne hap
 refine hK _ _ ?_; clear hK K
 refine A2.wpGrow_nil ?_
 intro w6 hk6 hω
 have c4 : w6.heap[q4]? = some (.cells #[.int .u8 0, .int .u8 0, .int .u8 0, .int .u8 0] 43 (0, 0)) := (show Kept (fun _ => False) w4 w6 from hω 4).blk HQ4.out.2.2 id
 have c5 : w6.heap[q5]? = some (.cells #[.int .u8 0, .int .u8 0, .int .u8 0, .int .u8 0] 43 (0, 0)) := (show Kept (fun _ => False) w5 w6 from hω 5).blk HQ5.out.2.1 id
 obtain ⟨U1, U2, U3, U4, f1, f2, f3, f4, ⟨g0, g0'⟩, ⟨g1, g1'⟩, ⟨g2, g2'⟩, ⟨g3, g3'⟩, bU, kU⟩ := store4 c4 (.int .u8 F.r) (.int .u8 F.g) (.int .u8 F.b) (.int .u8 255)
 have c5' := kU.blk c5 (fun (h : q5 = q4) => HQ5.out.2.2 h.symm)
 obtain ⟨T1, T2, T3, T4, i1, i2, i3, i4, ⟨j0, j0'⟩, ⟨j1, j1'⟩, ⟨j2, j2'⟩, ⟨j3, j3'⟩, bT, kT⟩ := store4 c5' (.int .u8 B.r) (.int .u8 B.g) (.int .u8 B.b) (.int .u8 255)
 have hzz : wd.heap.size + 1 <= WR.heap.size := by have h := lt_of_blk HKR.out.2; omega
 have hkT : Kept (fun i => i = q4 \/ i = q5) w6 T4 := (kU.mono (fun _ _ h => .inl h)).then (kT.mono (fun _ _ h => .inr h))
 have hkT0 : Kept (fun _ => False) wd T4 := (HKR.out.1.then hk6).trans (hkT.mono fun i _ hi => Or.inr (by have h4 := HQ4.out.1; have h5 := HQ5.out.1; rcases hi with h | h <;> omega))
 have HB0 := Lib.hid (show BoxI S I wd fg bg fl q4 q5 F B P T4 from ⟨HSO.out.1 _ _ _ HSO.out.2.2 hkT0, hkT0.mono (fun _ _ h => h.elim), hkT.blk (hk6.blk HKR.out.2 id) (fun hi => by have h4 := HQ4.out.1; have h5 := HQ5.out.1; rcases hi with h | h <;> omega), kT.blk bU (fun (h : q4 = q5) => HQ5.out.2.2 h), bT, by have h4 := HQ4.out.1; have h5 := HQ5.out.1; omega⟩)
 clear hω hk6 c4 c5 c5' bU kU bT kT hzz hkT hkT0 X0 X1 X2 Y0 Y1 Y2
 obtain ⟨⟨n0a0, -⟩, ⟨n0a1, -⟩, n0a2, -⟩ := blk3 HB0.out.a
 obtain ⟨⟨x0f0, -⟩, ⟨x0f1, -⟩, ⟨x0f2, -⟩, x0f3, -⟩ := blk4 HB0.out.f
 obtain ⟨⟨x0b0, -⟩, ⟨x0b1, -⟩, ⟨x0b2, -⟩, x0b3, -⟩ := blk4 HB0.out.b
 by_cases c32 : 32 < r
 ·have g32 : decide (32 < r) = true := decide_eq_true c32
  have HC32 := Lib.hid c32
  clear c32
  go_wp2_with fail
  refine (HL.out x4 y4 bw bh F _ _ (by unfold Sml; omega) (by unfold Sml; omega) (by unfold Sml; omega) (by unfold Sml; omega) HB0.out.i).mono ?_
  rintro e w7 ⟨rfl, hi7, hk7⟩
  have HB7 := Lib.hid (HB0.out.lay HSO.out.2.1 hi7 hk7)
  clear hi7 hk7
  clear n0a0 n0a1 n0a2 x0f0 x0f1 x0f2 x0f3 x0b0 x0b1 x0b2 x0b3
  obtain ⟨⟨n7a0, -⟩, ⟨n7a1, -⟩, n7a2, -⟩ := blk3 HB7.out.a
  obtain ⟨⟨n7f0, -⟩, ⟨n7f1, -⟩, ⟨n7f2, -⟩, n7f3, -⟩ := blk4 HB7.out.f
  obtain ⟨⟨n7b0, -⟩, ⟨n7b1, -⟩, ⟨n7b2, -⟩, n7b3, -⟩ := blk4 HB7.out.b
  have hc32 := HC32.out
  have r1 : r.tmod bw = m1 := by rw [Int.tmod_eq_emod_of_nonneg (by omega)]; exact HM.out.1
  have r2 : r.tdiv 256 = r / 256 := by rw [Int.tdiv_eq_ediv_of_nonneg (by omega)]
  have r3 : (r / 256).tmod bh = m2 := by rw [Int.tmod_eq_emod_of_nonneg (by omega)]; exact HM.out.2
  clear hc32
  by_cases cb : 2 < bw /\ 2 < bh
  ·obtain ⟨cbw, cbh⟩ := cb
   have gbw : decide (2 < bw) = true := decide_eq_true cbw
   have gbh : decide (2 < bh) = true := decide_eq_true cbh
   have HCB := Lib.hid (And.intro cbw cbh)
   obtain ⟨rq, hrq⟩ : ∃ x, r / 256 = x := ⟨_, rfl⟩
   rw [hrq] at r2 r3
   have s1 : IntKind.i64.wrap m1 = m1 := IntWalk.i64_in _ (by omega)
   have s2 : IntKind.i64.wrap rq = rq := IntWalk.i64_in _ (by have := HB.out; have := HC32.out; omega)
   have s3 : IntKind.i64.wrap m2 = m2 := IntWalk.i64_in _ (by omega)
   have s4 : IntKind.i64.wrap (x4 + m1) = x4 + m1 := IntWalk.i64_in _ (by omega)
   have s5 : IntKind.i64.wrap (y4 + m2) = y4 + m2 := IntWalk.i64_in _ (by omega)
   have zb1 : (bw == 0) = false := by simp; omega
   have zb2 : (bh == 0) = false := by simp; omega
   have zb3 : ¬ bw = 0 := by omega
   have zb4 : ¬ bh = 0 := by omega
   have s6 : IntKind.i64.wrap 256 = 256 := IntWalk.i64_in _ (by omega)
   clear hrq
   go_wp2
   have HB7D := Lib.hid (HB7.out.kept HSO.out.1 ((Kept.refl (fun _ => False) w7).drew))
   go_still_tail 15, (by kernel_rfl)
   change wpList _ _ _ _ _ w7.drew
   clear s1 s2 s3 s4 s5 zb1 zb2 zb3 zb4 r1 r2 r3 s6 gbw gbh
   clear n7a0 n7a1 n7a2 n7f0 n7f1 n7f2 n7f3 n7b0 n7b1 n7b2 n7b3
   obtain ⟨WD, hWD⟩ : ∃ WD, w7.drew = WD := ⟨_, rfl⟩
   rw [hWD] at HB7D
   rw [hWD]
   obtain ⟨⟨nda0, -⟩, ⟨nda1, -⟩, nda2, -⟩ := blk3 HB7D.out.a
   obtain ⟨⟨ndf0, -⟩, ⟨ndf1, -⟩, ⟨ndf2, -⟩, ndf3, -⟩ := blk4 HB7D.out.f
   obtain ⟨⟨ndb0, -⟩, ⟨ndb1, -⟩, ⟨ndb2, -⟩, ndb3, -⟩ := blk4 HB7D.out.b
   go_wp2_with fail
   refine (HL.out (x4 + m1) (y4 + m2) 1 1 B _ _ (by unfold Sml; omega) (by unfold Sml; omega) (by unfold Sml; omega) (by unfold Sml; omega) HB7D.out.i).mono ?_
   rintro e wA ⟨rfl, hiA, hkA⟩
   have HBA := Lib.hid (HB7D.out.lay HSO.out.2.1 hiA hkA)
   clear hiA hkA
   clear nda0 nda1 nda2 ndf0 ndf1 ndf2 ndf3 ndb0 ndb1 ndb2 ndb3
   obtain ⟨⟨nAa0, -⟩, ⟨nAa1, -⟩, nAa2, -⟩ := blk3 HBA.out.a
   obtain ⟨⟨nAf0, -⟩, ⟨nAf1, -⟩, ⟨nAf2, -⟩, nAf3, -⟩ := blk4 HBA.out.f
   obtain ⟨⟨nAb0, -⟩, ⟨nAb1, -⟩, ⟨nAb2, -⟩, nAb3, -⟩ := blk4 HBA.out.b
   cases g8 : (z8 != 0) with
   | true =>
    go_wp2_with fail
    refine (HL.out 0 (h - 1) w 1 F _ _ (by unfold Sml; omega) (by unfold Sml; have := HB.out; omega) (by unfold Sml; have := HB.out; omega) (by unfold Sml; omega) HBA.out.i).mono ?_
    rintro e w8 ⟨rfl, hi8, hk8⟩
    have HB8 := Lib.hid (HBA.out.lay HSO.out.2.1 hi8 hk8)
    clear hi8 hk8
    clear nAa0 nAa1 nAa2 nAf0 nAf1 nAf2 nAf3 nAb0 nAb1 nAb2 nAb3
    obtain ⟨⟨n8a0, -⟩, ⟨n8a1, -⟩, n8a2, -⟩ := blk3 HB8.out.a
    obtain ⟨⟨n8f0, -⟩, ⟨n8f1, -⟩, ⟨n8f2, -⟩, n8f3, -⟩ := blk4 HB8.out.f
    obtain ⟨⟨n8b0, -⟩, ⟨n8b1, -⟩, ⟨n8b2, -⟩, n8b3, -⟩ := blk4 HB8.out.b
    cases g128 : (z128 != 0) with
    | true =>
     go_wp2_with fail
     refine (HL.out 0 h2 w 1 F _ _ (by unfold Sml; omega) (by unfold Sml; omega) (by unfold Sml; have := HB.out; omega) (by unfold Sml; omega) HB8.out.i).mono ?_
     rintro e w9 ⟨rfl, hi9, hk9⟩
     have HB9 := Lib.hid (HB8.out.lay HSO.out.2.1 hi9 hk9)
     clear hi9 hk9
     clear n8a0 n8a1 n8a2 n8f0 n8f1 n8f2 n8f3 n8b0 n8b1 n8b2 n8b3
     go_wp2
     go_end0
     exact ⟨rfl, by rw [<- HRES.out, if_pos HC32.out, if_pos HCB.out, g8, if_pos rfl, g128, if_pos rfl]; exact HB9.out.i, HB9.out.k⟩
    | false =>
     go_wp2
     go_end0
     exact ⟨rfl, by rw [<- HRES.out, if_pos HC32.out, if_pos HCB.out, g8, if_pos rfl, g128, if_neg Bool.false_ne_true]; exact HB8.out.i, HB8.out.k⟩
   | false =>
    cases g128 : (z128 != 0) with
    | true =>
     go_wp2_with fail
     refine (HL.out 0 h2 w 1 F _ _ (by unfold Sml; omega) (by unfold Sml; omega) (by unfold Sml; have := HB.out; omega) (by unfold Sml; omega) HBA.out.i).mono ?_
     rintro e w9 ⟨rfl, hi9, hk9⟩
     have HB9 := Lib.hid (HBA.out.lay HSO.out.2.1 hi9 hk9)
     clear hi9 hk9
     clear nAa0 nAa1 nAa2 nAf0 nAf1 nAf2 nAf3 nAb0 nAb1 nAb2 nAb3
     go_wp2
     go_end0
     exact ⟨rfl, by rw [<- HRES.out, if_pos HC32.out, if_pos HCB.out, g8, if_neg Bool.false_ne_true, g128, if_pos rfl]; exact HB9.out.i, HB9.out.k⟩
    | false =>
     go_wp2
     go_end0
     exact ⟨rfl, by rw [<- HRES.out, if_pos HC32.out, if_pos HCB.out, g8, if_neg Bool.false_ne_true, g128, if_neg Bool.false_ne_true]; exact HBA.out.i, HBA.out.k⟩
  ·have HCB := Lib.hid cb
   clear r1 r2 r3
   by_cases cbw : 2 < bw
   ·have gbw : decide (2 < bw) = true := decide_eq_true cbw
    have cbh : ¬ 2 < bh := fun h => cb ⟨cbw, h⟩
    have gbh : decide (2 < bh) = false := decide_eq_false cbh
    clear cb
    cases g8 : (z8 != 0) with
    | true =>
     go_wp2_with fail
     refine (HL.out 0 (h - 1) w 1 F _ _ (by unfold Sml; omega) (by unfold Sml; have := HB.out; omega) (by unfold Sml; have := HB.out; omega) (by unfold Sml; omega) HB7.out.i).mono ?_
     rintro e w8 ⟨rfl, hi8, hk8⟩
     have HB8 := Lib.hid (HB7.out.lay HSO.out.2.1 hi8 hk8)
     clear hi8 hk8
     clear n7a0 n7a1 n7a2 n7f0 n7f1 n7f2 n7f3 n7b0 n7b1 n7b2 n7b3
     obtain ⟨⟨n8a0, -⟩, ⟨n8a1, -⟩, n8a2, -⟩ := blk3 HB8.out.a
     obtain ⟨⟨n8f0, -⟩, ⟨n8f1, -⟩, ⟨n8f2, -⟩, n8f3, -⟩ := blk4 HB8.out.f
     obtain ⟨⟨n8b0, -⟩, ⟨n8b1, -⟩, ⟨n8b2, -⟩, n8b3, -⟩ := blk4 HB8.out.b
     cases g128 : (z128 != 0) with
     | true =>
      go_wp2_with fail
      refine (HL.out 0 h2 w 1 F _ _ (by unfold Sml; omega) (by unfold Sml; omega) (by unfold Sml; have := HB.out; omega) (by unfold Sml; omega) HB8.out.i).mono ?_
      rintro e w9 ⟨rfl, hi9, hk9⟩
      have HB9 := Lib.hid (HB8.out.lay HSO.out.2.1 hi9 hk9)
      clear hi9 hk9
      clear n8a0 n8a1 n8a2 n8f0 n8f1 n8f2 n8f3 n8b0 n8b1 n8b2 n8b3
      go_wp2
      go_end0
      exact ⟨rfl, by rw [<- HRES.out, if_pos HC32.out, if_neg HCB.out, g8, if_pos rfl, g128, if_pos rfl]; exact HB9.out.i, HB9.out.k⟩
     | false =>
      go_wp2
      go_end0
      exact ⟨rfl, by rw [<- HRES.out, if_pos HC32.out, if_neg HCB.out, g8, if_pos rfl, g128, if_neg Bool.false_ne_true]; exact HB8.out.i, HB8.out.k⟩
    | false =>
     cases g128 : (z128 != 0) with
     | true =>
      go_wp2_with fail
      refine (HL.out 0 h2 w 1 F _ _ (by unfold Sml; omega) (by unfold Sml; omega) (by unfold Sml; have := HB.out; omega) (by unfold Sml; omega) HB7.out.i).mono ?_
      rintro e w9 ⟨rfl, hi9, hk9⟩
      have HB9 := Lib.hid (HB7.out.lay HSO.out.2.1 hi9 hk9)
      clear hi9 hk9
      clear n7a0 n7a1 n7a2 n7f0 n7f1 n7f2 n7f3 n7b0 n7b1 n7b2 n7b3
      go_wp2
      go_end0
      exact ⟨rfl, by rw [<- HRES.out, if_pos HC32.out, if_neg HCB.out, g8, if_neg Bool.false_ne_true, g128, if_pos rfl]; exact HB9.out.i, HB9.out.k⟩
     | false =>
      go_wp2
      go_end0
      exact ⟨rfl, by rw [<- HRES.out, if_pos HC32.out, if_neg HCB.out, g8, if_neg Bool.false_ne_true, g128, if_neg Bool.false_ne_true]; exact HB7.out.i, HB7.out.k⟩
   ·have gbw : decide (2 < bw) = false := decide_eq_false cbw
    clear cb
    cases g8 : (z8 != 0) with
    | true =>
     go_wp2_with fail
     refine (HL.out 0 (h - 1) w 1 F _ _ (by unfold Sml; omega) (by unfold Sml; have := HB.out; omega) (by unfold Sml; have := HB.out; omega) (by unfold Sml; omega) HB7.out.i).mono ?_
     rintro e w8 ⟨rfl, hi8, hk8⟩
     have HB8 := Lib.hid (HB7.out.lay HSO.out.2.1 hi8 hk8)
     clear hi8 hk8
     clear n7a0 n7a1 n7a2 n7f0 n7f1 n7f2 n7f3 n7b0 n7b1 n7b2 n7b3
     obtain ⟨⟨n8a0, -⟩, ⟨n8a1, -⟩, n8a2, -⟩ := blk3 HB8.out.a
     obtain ⟨⟨n8f0, -⟩, ⟨n8f1, -⟩, ⟨n8f2, -⟩, n8f3, -⟩ := blk4 HB8.out.f
     obtain ⟨⟨n8b0, -⟩, ⟨n8b1, -⟩, ⟨n8b2, -⟩, n8b3, -⟩ := blk4 HB8.out.b
     cases g128 : (z128 != 0) with
     | true =>
      go_wp2_with fail
      refine (HL.out 0 h2 w 1 F _ _ (by unfold Sml; omega) (by unfold Sml; omega) (by unfold Sml; have := HB.out; omega) (by unfold Sml; omega) HB8.out.i).mono ?_
      rintro e w9 ⟨rfl, hi9, hk9⟩
      have HB9 := Lib.hid (HB8.out.lay HSO.out.2.1 hi9 hk9)
      clear hi9 hk9
      clear n8a0 n8a1 n8a2 n8f0 n8f1 n8f2 n8f3 n8b0 n8b1 n8b2 n8b3
      go_wp2
      go_end0
      exact ⟨rfl, by rw [<- HRES.out, if_pos HC32.out, if_neg HCB.out, g8, if_pos rfl, g128, if_pos rfl]; exact HB9.out.i, HB9.out.k⟩
     | false =>
      go_wp2
      go_end0
      exact ⟨rfl, by rw [<- HRES.out, if_pos HC32.out, if_neg HCB.out, g8, if_pos rfl, g128, if_neg Bool.false_ne_true]; exact HB8.out.i, HB8.out.k⟩
    | false =>
     cases g128 : (z128 != 0) with
     | true =>
      go_wp2_with fail
      refine (HL.out 0 h2 w 1 F _ _ (by unfold Sml; omega) (by unfold Sml; omega) (by unfold Sml; have := HB.out; omega) (by unfold Sml; omega) HB7.out.i).mono ?_
      rintro e w9 ⟨rfl, hi9, hk9⟩
      have HB9 := Lib.hid (HB7.out.lay HSO.out.2.1 hi9 hk9)
      clear hi9 hk9
      clear n7a0 n7a1 n7a2 n7f0 n7f1 n7f2 n7f3 n7b0 n7b1 n7b2 n7b3
      go_wp2
      go_end0
      exact ⟨rfl, by rw [<- HRES.out, if_pos HC32.out, if_neg HCB.out, g8, if_neg Bool.false_ne_true, g128, if_pos rfl]; exact HB9.out.i, HB9.out.k⟩
     | false =>
      go_wp2
      go_end0
      exact ⟨rfl, by rw [<- HRES.out, if_pos HC32.out, if_neg HCB.out, g8, if_neg Bool.false_ne_true, g128, if_neg Bool.false_ne_true]; exact HB7.out.i, HB7.out.k⟩
 ·have g32 : decide (32 < r) = false := decide_eq_false c32
  have HC32 := Lib.hid c32
  clear c32
  cases g8 : (z8 != 0) with
  | true =>
   go_wp2_with fail
   refine (HL.out 0 (h - 1) w 1 F _ _ (by unfold Sml; omega) (by unfold Sml; have := HB.out; omega) (by unfold Sml; have := HB.out; omega) (by unfold Sml; omega) HB0.out.i).mono ?_
   rintro e w8 ⟨rfl, hi8, hk8⟩
   have HB8 := Lib.hid (HB0.out.lay HSO.out.2.1 hi8 hk8)
   clear hi8 hk8
   clear n0a0 n0a1 n0a2 x0f0 x0f1 x0f2 x0f3 x0b0 x0b1 x0b2 x0b3
   obtain ⟨⟨n8a0, -⟩, ⟨n8a1, -⟩, n8a2, -⟩ := blk3 HB8.out.a
   obtain ⟨⟨n8f0, -⟩, ⟨n8f1, -⟩, ⟨n8f2, -⟩, n8f3, -⟩ := blk4 HB8.out.f
   obtain ⟨⟨n8b0, -⟩, ⟨n8b1, -⟩, ⟨n8b2, -⟩, n8b3, -⟩ := blk4 HB8.out.b
   cases g128 : (z128 != 0) with
   | true =>
    go_wp2_with fail
    refine (HL.out 0 h2 w 1 F _ _ (by unfold Sml; omega) (by unfold Sml; omega) (by unfold Sml; have := HB.out; omega) (by unfold Sml; omega) HB8.out.i).mono ?_
    rintro e w9 ⟨rfl, hi9, hk9⟩
    have HB9 := Lib.hid (HB8.out.lay HSO.out.2.1 hi9 hk9)
    clear hi9 hk9
    clear n8a0 n8a1 n8a2 n8f0 n8f1 n8f2 n8f3 n8b0 n8b1 n8b2 n8b3
    go_wp2
    go_end0
    exact ⟨rfl, by rw [<- HRES.out, if_neg (Int.not_lt.2 HC32.out), g8, if_pos rfl, g128, if_pos rfl]; exact HB9.out.i, HB9.out.k⟩
   | false =>
    go_wp2
    go_end0
    exact ⟨rfl, by rw [<- HRES.out, if_neg (Int.not_lt.2 HC32.out), g8, if_pos rfl, g128, if_neg Bool.false_ne_true]; exact HB8.out.i, HB8.out.k⟩
  | false =>
   cases g128 : (z128 != 0) with
   | true =>
    go_wp2_with fail
    refine (HL.out 0 h2 w 1 F _ _ (by unfold Sml; omega) (by unfold Sml; omega) (by unfold Sml; have := HB.out; omega) (by unfold Sml; omega) HB0.out.i).mono ?_
    rintro e w9 ⟨rfl, hi9, hk9⟩
    have HB9 := Lib.hid (HB0.out.lay HSO.out.2.1 hi9 hk9)
    clear hi9 hk9
    clear n0a0 n0a1 n0a2 x0f0 x0f1 x0f2 x0f3 x0b0 x0b1 x0b2 x0b3
    go_wp2
    go_end0
    exact ⟨rfl, by rw [<- HRES.out, if_neg (Int.not_lt.2 HC32.out), g8, if_neg Bool.false_ne_true, g128, if_pos rfl]; exact HB9.out.i, HB9.out.k⟩
   | false =>
    go_wp2
    go_end0
    exact ⟨rfl, by rw [<- HRES.out, if_neg (Int.not_lt.2 HC32.out), g8, if_neg Bool.false_ne_true, g128, if_neg Bool.false_ne_true]; exact HB0.out.i, HB0.out.k⟩
end Go.Proofs.YtmplpcmcbliadaaGreatDoor
namespace Go.Proofs.YtmplpcmcbliadaaGreatDoor
open Go.RowKit Go.Sort Pl
def glsL (W H : Nat) (X Y : Nat) (x y bw bh : Int) (c : Rgb) (P : List Int) : List Int := layL W H ((X : Int) + x) ((Y : Int) + y) bw bh c P
def glsW (s : Sc) (c : Cl) (col : Nat) : Int := if c.k = 1 /\ col + 1 < s.cols then 2 * (s.cw : Int) else s.cw
def glsF (s : Sc) (ls : List (List Cl)) (W H : Nat) (row col : Nat) (P : List Int) : List Int :=
 if (cellS ls row col).r = 0 \/ (cellS ls row col).k = 2 then P else boxS (glsL W H (col * s.cw) (row * s.ch)) (cellS ls row col).r (glsW s (cellS ls row col) col) s.ch (cellS ls row col).a P
def SJ (s : Sc) (W H n m g lb rb cb : Nat) (row col : Nat) (P : List Int) (w : World) : Prop := SI s W H n m g lb 161 P w /\ w.heap[rb]? = some (.cells #[.int .i64 row] 3 (0, 0)) /\ w.heap[cb]? = some (.cells #[.int .i64 col] 3 (0, 0))
theorem SJ.kept {s : Sc} {W H n m g lb rb cb row col : Nat} {P : List Int} {w w' : World} (h : SJ s W H n m g lb rb cb row col P w) (hk : Kept (fun _ => False) w w') : SJ s W H n m g lb rb cb row col P w' := ⟨h.1.kept hk, hk.blk h.2.1 id, hk.blk h.2.2 id⟩
set_option maxRecDepth 100000 in
set_option maxHeartbeats 8000000 in
theorem lays113 (s : Sc) (W H n m g lb rb cb row col : Nat) (hd : Dim s W H n) (hm : m ≠ g) (hb : lb ≠ g) (hrb : rb ≠ g) (hcb : cb ≠ g) (hrow : row < s.rows) (hcol : col < s.cols) :
  Lays 554 #[.pointer (some ⟨m, 0, none⟩), .pointer (some ⟨cb, 0, none⟩), .pointer (some ⟨lb, 0, none⟩), .pointer (some ⟨rb, 0, none⟩)] (fun i => i = g) (SJ s W H n m g lb rb cb row col) (glsL W H (col * s.cw) (row * s.ch)) := by
 intro x y bw bh c P w hx hy hbw hbh hI
 obtain ⟨r, gg, b⟩ := c
 unfold Sml at hx hy hbw hbh
 obtain ⟨rows, cols, cw, ch, la, ln, lc, pa, pn, pc, im, top, cur, srow, scol⟩ := s
 have d1 := hd.rows
 have d2 := hd.cols
 have d3 := hd.cw
 have d4 := hd.ch
 simp only at d1 d2 d3 d4 hrow hcol ⊢
 have bx : col * cw <= 1000 * 64 := Nat.mul_le_mul (by omega) d3.2
 have by' : row * ch <= 1000 * 64 := Nat.mul_le_mul (by omega) d4.2
 obtain ⟨X, hX⟩ : ∃ x, col * cw = x := ⟨_, rfl⟩
 obtain ⟨Y, hY⟩ : ∃ x, row * ch = x := ⟨_, rfl⟩
 rw [hX] at bx ⊢
 rw [hY] at by' ⊢
 have v1 : (col : Int) * (cw : Int) = (X : Int) := by rw [<- hX]; simp
 have v2 : (row : Int) * (ch : Int) = (Y : Int) := by rw [<- hY]; simp
 have u1 : IntKind.i64.wrap (X : Int) = (X : Int) := IntWalk.i64_in _ (by omega)
 have u2 : IntKind.i64.wrap (Y : Int) = (Y : Int) := IntWalk.i64_in _ (by omega)
 have u3 : IntKind.i64.wrap ((X : Int) + x) = (X : Int) + x := IntWalk.i64_in _ (by omega)
 have u4 : IntKind.i64.wrap ((Y : Int) + y) = (Y : Int) + y := IntWalk.i64_in _ (by omega)
 obtain ⟨V, hV⟩ : ∃ V, w.alloc (.cells #[.int .u8 r, .int .u8 gg, .int .u8 b, .int .u8 255] 43) = V := ⟨_, rfl⟩
 have kV : Kept (fun _ => False) w V := by rw [<- hV]; exact (Kept.refl _ _).alloc _
 have b0 : V.heap[w.heap.size]? = some (.cells #[.int .u8 r, .int .u8 gg, .int .u8 b, .int .u8 255] 43 (0, 0)) := by rw [<- hV]; exact blk_new _ _
 have hIV := hI.kept kV
 obtain ⟨⟨a0, -⟩, ⟨a1, -⟩, ⟨a2, -⟩, a3, -⟩ := blk4 b0
 obtain ⟨⟨e0, -⟩, ⟨e1, -⟩, e2, -⟩ := blk3 hIV.1.1.2
 obtain ⟨-, -, s2, s3, -⟩ := blk11 hIV.1.2
 obtain ⟨q0, -⟩ := blk1 hIV.2.1
 obtain ⟨p0, -⟩ := blk1 hIV.2.2
 have HF := Lib.hid (filD_any W H (X + x) (Y + y) bw bh P (some ⟨g, 0, none⟩) n n r gg b 255 V (by unfold Mid; omega) (by unfold Mid; omega) (by unfold Mid; omega) (by unfold Mid; omega) hd.bW hd.bH hd.bn hd.bn2 hIV.1.1.1)
 have HK := Lib.hid (And.intro kV (And.intro hIV (And.intro hm (And.intro hb (And.intro hrb (And.intro hcb hd.bn))))))
 clear b0 kV hI hIV hx hy hbw hbh hd hm hb hrb hcb hrow hcol d1 d2 d3 d4 bx by' hX hY
 show Calls Tryz.prog 554 #[.int .i64 x, .int .i64 y, .int .i64 bw, .int .i64 bh, .agg #[.int .u8 r, .int .u8 gg, .int .u8 b, .int .u8 255], .pointer (some ⟨m, 0, none⟩), .pointer (some ⟨cb, 0, none⟩), .pointer (some ⟨lb, 0, none⟩), .pointer (some ⟨rb, 0, none⟩)] w _
 go_enter Tryz.func554, Tryz.ntmps554
 go_wp2_with fail
 refine HF.out.mono ?_
 rintro e w2 ⟨rfl, ho, hk⟩
 have hk2 : Kept (fun i => i = g) V w2 := hk.mono fun i _ hi => by cases hi; rfl
 have HR := Lib.hid (And.intro ho (And.intro hk2 (And.intro (hk2.blk HK.out.2.1.1.1.2 HK.out.2.2.1) (And.intro (hk2.blk HK.out.2.1.1.2 HK.out.2.2.2.1) (And.intro (hk2.blk HK.out.2.1.2.1 HK.out.2.2.2.2.1) (hk2.blk HK.out.2.1.2.2 HK.out.2.2.2.2.2.1))))))
 clear ho hk hk2 a0 a1 a2 a3 e0 e1 e2 s2 s3 q0 p0
 go_wp2
 go_end0
 refine ⟨rfl, ⟨⟨⟨?_, HR.out.2.2.1⟩, HR.out.2.2.2.1⟩, HR.out.2.2.2.2⟩, (HK.out.1.mono fun _ _ h => h.elim).then HR.out.2.1⟩
 unfold glsL layL
 rw [<- HK.out.2.2.2.2.2.2]
 exact HR.out.1
set_option maxRecDepth 100000 in
set_option maxHeartbeats 8000000 in
theorem do112 (s : Sc) (ls : List (List Cl)) (W H n m g lb : Nat) (hd : Dim s W H n) (hm : m ≠ g) (hb : lb ≠ g) (hcl : ∀ row col, -2147483648 <= (cellS ls row col).r /\ (cellS ls row col).r <= 2147483647) :
  Does 552 (.pointer (some ⟨lb, 0, none⟩)) (.pointer (some ⟨m, 0, none⟩)) (fun i => i = g) (SI s W H n m g lb 161) ls s.rows s.cols (glsF s ls W H) := by
 intro row col P w hrow hcol hI
 have hgw : g < w.heap.size := hI.1.1.lt g rfl
 have hr := hcl row col
 have hfn : glsF s ls W H row col P = if (cellS ls row col).r = 0 \/ (cellS ls row col).k = 2 then P else boxS (glsL W H (col * s.cw) (row * s.ch)) (cellS ls row col).r (glsW s (cellS ls row col) col) s.ch (cellS ls row col).a P := rfl
 obtain ⟨CL, hCL⟩ : ∃ c, cellS ls row col = c := ⟨_, rfl⟩
 rw [hCL] at hr hfn ⊢
 obtain ⟨cr, ck, fg, bg, fl⟩ := CL
 obtain ⟨RES, hRES⟩ : ∃ R, glsF s ls W H row col P = R := ⟨_, rfl⟩
 rw [hRES] at hfn ⊢
 unfold Cl.val
 simp only at hr hfn ⊢
 obtain ⟨V, hV⟩ : ∃ V, ((w.alloc (.cells #[.int .i64 row] 3)).alloc (.cells #[.int .i64 col] 3)).alloc (.cells #[.int .i32 cr, .int .i64 ck, .int .i64 fg, .int .i64 bg, .int .i64 fl] 70) = V := ⟨_, rfl⟩
 have kV : Kept (fun _ => False) w V := by rw [<- hV]; exact (((Kept.refl _ _).alloc _).alloc _).alloc _
 have b0 : V.heap[w.heap.size]? = some (.cells #[.int .i64 row] 3 (0, 0)) := by rw [<- hV]; exact blk_alloc (blk_alloc (blk_new _ _) _) _
 have b1 : V.heap[w.heap.size + 1]? = some (.cells #[.int .i64 col] 3 (0, 0)) := by rw [<- hV]; exact blk_alloc (blk_at _ _ (by simp)) _
 have b2 : V.heap[w.heap.size + 1 + 1]? = some (.cells #[.int .i32 cr, .int .i64 ck, .int .i64 fg, .int .i64 bg, .int .i64 fl] 70 (0, 0)) := by rw [<- hV]; exact blk_at _ _ (by simp)
 have hIV := hI.kept kV
 have hSJ : SJ s W H n m g lb w.heap.size (w.heap.size + 1) row col P V := ⟨hIV, b0, b1⟩
 have HLAY := Lib.hid (lays113 s W H n m g lb w.heap.size (w.heap.size + 1) row col hd hm hb (by omega) (by omega) hrow hcol)
 have HBOX := Lib.hid (fun (gw : Int) (hgw : 1 <= gw /\ gw <= 128) => box113_any (.pointer (some ⟨m, 0, none⟩)) (.pointer (some ⟨w.heap.size + 1, 0, none⟩)) (.pointer (some ⟨lb, 0, none⟩)) (.pointer (some ⟨w.heap.size, 0, none⟩)) (fun i => i = g) (SJ s W H n m g lb w.heap.size (w.heap.size + 1) row col) (glsL W H (col * s.cw) (row * s.ch)) cr gw s.ch ⟨fg, bg, fl⟩ P V hSJ (fun P w w' h hk => h.kept hk) (fun i hi => by have h9 : i = g := hi; rw [h9]; exact hIV.1.1.lt g rfl) HLAY.out hr hgw (by have := hd.ch; omega))
 have d2 := hd.cols
 have d3 := hd.cw
 obtain ⟨x0, x1, x2, x3, x4⟩ := blk5 b2
 obtain ⟨p0, -⟩ := blk1 b0
 obtain ⟨q0, -⟩ := blk1 b1
 obtain ⟨-, s1, s2, s3, -⟩ := blk11 hIV.2
 have HK := Lib.hid (And.intro kV hIV)
 obtain ⟨rows, cols, cw, ch, la, ln, lc, pa, pn, pc, im, top, cur, srow, scol⟩ := s
 unfold glsW at hfn
 simp only at d2 d3 hrow hcol hfn s1 s2 s3 HBOX
 have HFN := Lib.hid hfn
 clear hfn hI hgw hr hCL hRES hd hm hb hcl b0 b1 b2 kV hIV hSJ
 by_cases e1 : cr = 0
 ·have g1 : (cr == 0) = true := by simp [e1]
  have hP : RES = P := by rw [HFN.out, if_pos (.inl e1)]
  rw [hP]
  clear hP e1
  go_enter Tryz.func552, Tryz.ntmps552
  go_wp2
  exact bodyPost_ret (results_none rfl _ _ _) rfl ⟨rfl, HK.out.2, HK.out.1.mono fun _ _ h => h.elim⟩
 have g1 : (cr == 0) = false := by simp [e1]
 by_cases e2 : ck = 2
 ·have g2 : (ck == 2) = true := by simp [e2]
  have hP : RES = P := by rw [HFN.out, if_pos (.inr e2)]
  rw [hP]
  clear hP e1 e2
  go_enter Tryz.func552, Tryz.ntmps552
  go_wp2
  exact bodyPost_ret (results_none rfl _ _ _) rfl ⟨rfl, HK.out.2, HK.out.1.mono fun _ _ h => h.elim⟩
 have g2 : (ck == 2) = false := by simp [e2]
 have hP : RES = boxS (glsL W H (col * cw) (row * ch)) cr (if ck = 1 /\ col + 1 < cols then 2 * (cw : Int) else cw) ch ⟨fg, bg, fl⟩ P := by rw [HFN.out, if_neg (fun h => h.elim e1 e2)]
 have w1 : IntKind.i64.wrap ((col : Int) + 1) = (col : Int) + 1 := IntWalk.i64_in _ (by omega)
 have w2 : IntKind.i64.wrap ((cw : Int) * 2) = (cw : Int) * 2 := IntWalk.i64_in _ (by omega)
 by_cases e3 : ck = 1
 ·have g3 : (ck == 1) = true := by simp [e3]
  by_cases e4 : col + 1 < cols
  ·have g4 : decide ((col : Int) + 1 < (cols : Int)) = true := decide_eq_true (by omega)
   have g4' : decide (col + 1 < cols) = true := decide_eq_true e4
   rw [if_pos ⟨e3, e4⟩] at hP
   have HB := Lib.hid (HBOX.out (2 * (cw : Int)) (by omega))
   rw [<- hP, show (2 : Int) * (cw : Int) = (cw : Int) * 2 from Int.mul_comm ..] at HB
   clear hP e1 e2 e3 e4
   unfold lookV at HB
   go_enter Tryz.func552, Tryz.ntmps552
   go_wp2_with fail
   refine HB.out.mono ?_
   rintro e w3 ⟨rfl, hi, hk⟩
   have HE := Lib.hid (And.intro hi.1 ((HK.out.1.mono fun _ _ h => h.elim).then hk))
   clear hi hk x0 x1 x2 x3 x4 p0 q0 s1 s2 s3
   go_wp2
   go_end0
   exact ⟨rfl, HE.out⟩
  ·have g4 : decide ((col : Int) + 1 < (cols : Int)) = false := decide_eq_false (by omega)
   have g4' : decide (col + 1 < cols) = false := decide_eq_false e4
   rw [if_neg (fun h => e4 h.2)] at hP
   have HB := Lib.hid (HBOX.out cw (by omega))
   rw [<- hP] at HB
   clear hP e1 e2 e3 e4
   unfold lookV at HB
   go_enter Tryz.func552, Tryz.ntmps552
   go_wp2_with fail
   refine HB.out.mono ?_
   rintro e w3 ⟨rfl, hi, hk⟩
   have HE := Lib.hid (And.intro hi.1 ((HK.out.1.mono fun _ _ h => h.elim).then hk))
   clear hi hk x0 x1 x2 x3 x4 p0 q0 s1 s2 s3
   go_wp2
   go_end0
   exact ⟨rfl, HE.out⟩
 ·have g3 : (ck == 1) = false := by simp [e3]
  rw [if_neg (fun h => e3 h.1)] at hP
  have HB := Lib.hid (HBOX.out cw (by omega))
  rw [<- hP] at HB
  clear hP e1 e2 e3
  unfold lookV at HB
  go_enter Tryz.func552, Tryz.ntmps552
  go_wp2_with fail
  refine HB.out.mono ?_
  rintro e w3 ⟨rfl, hi, hk⟩
  have HE := Lib.hid (And.intro hi.1 ((HK.out.1.mono fun _ _ h => h.elim).then hk))
  clear hi hk x0 x1 x2 x3 x4 p0 q0 s1 s2 s3
  go_wp2
  go_end0
  exact ⟨rfl, HE.out⟩
set_option maxRecDepth 100000 in
set_option maxHeartbeats 8000000 in
theorem glyphs_any (B : Nat) (s : Sc) (ls : List (List Cl)) (W H n g : Nat) (P : List Int) (wd : World) (hd : Dim s W H n) (hl : LinesAt B wd s.la s.ln ls) (hlen : s.ln <= 9223372036854775807) (hB : B <= g) (hcl : ∀ row col, -2147483648 <= (cellS ls row col).r /\ (cellS ls row col).r <= 2147483647)
  (ho : Own .u8 5 wd (.slice (some ⟨g, 0, none⟩) n n) P) :
  Calls Tryz.prog 551 #[s.val, .agg #[.int .i64 W, .int .i64 H, .slice (some ⟨g, 0, none⟩) n n]] wd fun e w' => e = .returned (.agg #[.int .i64 W, .int .i64 H, .slice (some ⟨g, 0, none⟩) n n]) /\ Own .u8 5 w' (.slice (some ⟨g, 0, none⟩) n n) (eachF (glsF s ls W H) s.cols s.rows P) /\ Kept (fun i => i = g) wd w' := by
 have hgw := ho.lt g rfl
 obtain ⟨V, hV⟩ : ∃ V, ((wd.alloc (.cells s.cs 161)).alloc (.cells #[.int .i64 W, .int .i64 H, .slice (some ⟨g, 0, none⟩) n n] 38)).alloc (.cells #[.int .i64 0, .int .i64 0, .slice none 0 0] 38) = V := ⟨_, rfl⟩
 have kV : Kept (fun _ => False) wd V := by rw [<- hV]; exact (((Kept.refl _ _).alloc _).alloc _).alloc _
 have b0 : V.heap[wd.heap.size]? = some (.cells s.cs 161 (0, 0)) := by rw [<- hV]; exact blk_alloc (blk_alloc (blk_new _ _) _) _
 have b1 : V.heap[wd.heap.size + 1]? = some (.cells #[.int .i64 W, .int .i64 H, .slice (some ⟨g, 0, none⟩) n n] 38 (0, 0)) := by rw [<- hV]; exact blk_alloc (blk_at _ _ (by simp)) _
 have b2 : V.heap[wd.heap.size + 1 + 1]? = some (.cells #[.int .i64 0, .int .i64 0, .slice none 0 0] 38 (0, 0)) := by rw [<- hV]; exact blk_at _ _ (by simp)
 have hgV : g < V.heap.size := (ho.kept kV (fun _ _ => id)).lt g rfl
 have HEACH := Lib.hid (each112_any B s ls (.pointer (some ⟨wd.heap.size, 0, none⟩)) (.pointer (some ⟨wd.heap.size + 1, 0, none⟩)) (fun i => i = g) (SI s W H n (wd.heap.size + 1) g wd.heap.size 161) (glsF s ls W H) P V
  (hl.kept kV (fun _ h => h.elim)) hlen (by have := hd.rows; omega) (by have := hd.cols; omega) ⟨⟨ho.kept kV (fun _ _ => id), b1⟩, b0⟩ (fun P w w' h hk => h.kept hk) (fun i hi => by have h9 : i = g := hi; rw [h9]; exact ⟨hB, hgV⟩) (do112 s ls W H n (wd.heap.size + 1) g wd.heap.size hd (by omega) (by omega) hcl))
 have HK := Lib.hid (And.intro kV (And.intro b2 hgw))
 obtain ⟨R, hR⟩ : ∃ R, eachF (glsF s ls W H) s.cols s.rows P = R := ⟨_, rfl⟩
 rw [hR] at HEACH
 rw [hR]
 obtain ⟨x0, x1, x2, x3, x4, x5, x6, x7, x8, x9, x10⟩ := blk11 b0
 obtain ⟨rows, cols, cw, ch, la, ln, lc, pa, pn, pc, im, top, cur, srow, scol⟩ := s
 unfold Sc.cs at hV
 unfold Sc.val at HEACH ⊢
 simp only at x0 x1 x2 x3 x4 x5 x6 x7 x8 x9 x10 hV HEACH ⊢
 clear hR hd hl hlen hB ho hgw kV b0 b1 b2 hgV
 go_enter Tryz.func551, Tryz.ntmps551
 go_wp2_with fail
 refine HEACH.out.mono ?_
 rintro e w2 ⟨rfl, hi2, hk2⟩
 obtain ⟨⟨d0, -⟩, ⟨d1, -⟩, d2, -⟩ := blk3 hi2.1.2
 obtain ⟨U1, U2, U3, f1, f2, f3, ⟨z0, z0'⟩, ⟨z1, z1'⟩, ⟨z2, z2'⟩, bU, kU⟩ := store3 (hk2.blk HK.out.2.1 (fun (h : wd.heap.size + 1 + 1 = g) => by have := HK.out.2.2; omega)) (.int .i64 W) (.int .i64 H) (.slice (some ⟨g, 0, none⟩) n n)
 obtain ⟨⟨m0, -⟩, ⟨m1, -⟩, m2, -⟩ := blk3 bU
 have HE := Lib.hid (And.intro (hi2.1.1.kept kU (fun b hb hS => by have h9 : b = wd.heap.size + 1 + 1 := hS; have h8 : g = b := (by cases hb; rfl); have := HK.out.2.2; omega)) (((HK.out.1.mono (fun _ _ h => h.elim)).then hk2).trans (kU.mono fun i _ hi => Or.inr (by have h9 : i = wd.heap.size + 1 + 1 := hi; omega))))
 clear hi2 hk2 bU kU x0 x1 x2 x3 x4 x5 x6 x7 x8 x9 x10
 go_wp2
 exact bodyPost_ret (v := .agg #[.int .i64 W, .int .i64 H, .slice (some ⟨g, 0, none⟩) n n]) (by simp [results, Tryz.results551, go_sem, m0, m1, m2]) rfl ⟨rfl, HE.out⟩
def curD (t : Spot) (P : List Int) (Y X k q : Nat) : Int := if t.inside (q / 4) /\ q % 4 < 3 /\ (t.done Y X (q / 4) \/ (q / 4 = Y * t.W + X /\ q % 4 < k)) then 255 - P.getD q 0 else P.getD q 0
def curF (t : Spot) (P : List Int) (q : Nat) : Int := if t.inside (q / 4) /\ q % 4 < 3 then 255 - P.getD q 0 else P.getD q 0
theorem curD_start (t : Spot) (P : List Int) (n : Nat) (hp : P.length = n) : tab n (curD t P t.y0 t.x0 0) = P := by
 refine list_ext (by rw [tab_length, hp]) (fun j hj => ?_)
 rw [tab_length] at hj
 rw [tab_get hj]
 unfold curD
 rw [if_neg]
 rintro ⟨h1, -, h2⟩
 unfold Spot.inside at h1
 unfold Spot.done at h2
 omega
theorem curD_end (t : Spot) (P : List Int) (n X Y : Nat) (hY : t.y1 <= Y) : tab n (curD t P Y X 0) = tab n (curF t P) := by
 refine tab_ext fun j hj => ?_
 unfold curD curF
 by_cases h : t.inside (j / 4) /\ j % 4 < 3
 ·rw [if_pos h, if_pos]
  refine ⟨h.1, h.2, .inl ?_⟩
  have h1 := h.1
  unfold Spot.inside at h1
  unfold Spot.done
  omega
 ·rw [if_neg h, if_neg (fun h2 => h ⟨h2.1, h2.2.1⟩)]
theorem curD_row (t : Spot) (P : List Int) (n X Y : Nat) (hX : t.x1 <= X) : tab n (curD t P Y X 0) = tab n (curD t P (Y + 1) t.x0 0) := by
 refine tab_ext fun j hj => ?_
 unfold curD
 by_cases h : t.inside (j / 4)
 ·have e : (t.done Y X (j / 4) \/ (j / 4 = Y * t.W + X /\ j % 4 < 0)) ↔ (t.done (Y + 1) t.x0 (j / 4) \/ (j / 4 = (Y + 1) * t.W + t.x0 /\ j % 4 < 0)) := by
   unfold Spot.inside at h
   unfold Spot.done
   omega
  by_cases h2 : j % 4 < 3
  ·by_cases h3 : t.done Y X (j / 4) \/ (j / 4 = Y * t.W + X /\ j % 4 < 0)
   ·rw [if_pos ⟨h, h2, h3⟩, if_pos ⟨h, h2, e.1 h3⟩]
   ·rw [if_neg (fun h4 => h3 h4.2.2), if_neg (fun h4 => h3 (e.2 h4.2.2))]
  ·rw [if_neg (fun h4 => h2 h4.2.1), if_neg (fun h4 => h2 h4.2.1)]
 ·rw [if_neg (fun h4 => h h4.1), if_neg (fun h4 => h h4.1)]
theorem curD_pix (t : Spot) (P : List Int) (n X Y : Nat) (hX : X < t.W) : tab n (curD t P Y X 3) = tab n (curD t P Y (X + 1) 0) := by
 refine tab_ext fun j hj => ?_
 unfold curD
 obtain ⟨e1, e2⟩ := pos_of (y := Y) hX
 have e : j % 4 < 3 -> ((t.done Y X (j / 4) \/ (j / 4 = Y * t.W + X /\ j % 4 < 3)) ↔ (t.done Y (X + 1) (j / 4) \/ (j / 4 = Y * t.W + (X + 1) /\ j % 4 < 0))) := by
  intro hk
  constructor
  ·rintro (h | ⟨h, -⟩)
   ·left; unfold Spot.done at *; omega
   ·left; unfold Spot.done; rw [h, e1, e2]; omega
  ·rintro (h | ⟨-, h⟩)
   ·unfold Spot.done at *
    by_cases h2 : j / 4 / t.W < Y \/ j / 4 / t.W = Y /\ j / 4 % t.W < X
    ·exact .inl h2
    ·exact .inr ⟨unpos (by omega) (by omega), hk⟩
   ·omega
 by_cases h : t.inside (j / 4)
 ·by_cases h2 : j % 4 < 3
  ·by_cases h3 : t.done Y X (j / 4) \/ (j / 4 = Y * t.W + X /\ j % 4 < 3)
   ·rw [if_pos ⟨h, h2, h3⟩, if_pos ⟨h, h2, (e h2).1 h3⟩]
   ·rw [if_neg (fun h4 => h3 h4.2.2), if_neg (fun h4 => h3 ((e h2).2 h4.2.2))]
  ·rw [if_neg (fun h4 => h2 h4.2.1), if_neg (fun h4 => h2 h4.2.1)]
 ·rw [if_neg (fun h4 => h h4.1), if_neg (fun h4 => h h4.1)]
theorem curD_get (t : Spot) (P : List Int) (n X Y k : Nat) (hX : X < t.W) (hk : k < 3) (hn : 4 * (Y * t.W + X) + 4 <= n) : (tab n (curD t P Y X k)).getD (4 * (Y * t.W + X) + k) 0 = P.getD (4 * (Y * t.W + X) + k) 0 := by
 rw [tab_get (by omega)]
 unfold curD
 rw [if_neg]
 rintro ⟨-, -, h⟩
 have e4 : (4 * (Y * t.W + X) + k) / 4 = Y * t.W + X := by omega
 obtain ⟨e1, e2⟩ := pos_of (y := Y) hX
 rw [e4] at h
 unfold Spot.done at h
 rw [e1, e2] at h
 omega
theorem curD_step (t : Spot) (P : List Int) (n X Y k : Nat) (hX : X < t.W) (h0 : t.x0 <= X) (h1 : X < t.x1) (h2 : t.y0 <= Y) (h3 : Y < t.y1) (hk : k < 3) (hn : 4 * (Y * t.W + X) + 4 <= n) :
  (tab n (curD t P Y X k)).set (4 * (Y * t.W + X) + k) (255 - P.getD (4 * (Y * t.W + X) + k) 0) = tab n (curD t P Y X (k + 1)) := by
 rw [tab_set (by omega)]
 obtain ⟨e1, e2⟩ := pos_of (y := Y) hX
 refine tab_ext fun j hj => ?_
 by_cases hj4 : j = 4 * (Y * t.W + X) + k
 ·rw [if_pos hj4]
  have e4 : j / 4 = Y * t.W + X := by omega
  have e5 : j % 4 = k := by omega
  unfold curD
  rw [if_pos, hj4]
  refine ⟨?_, by omega, .inr ⟨e4, by omega⟩⟩
  rw [e4]
  unfold Spot.inside
  rw [e1, e2]
  omega
 ·rw [if_neg hj4]
  unfold curD
  have e : (t.done Y X (j / 4) \/ (j / 4 = Y * t.W + X /\ j % 4 < k)) ↔ (t.done Y X (j / 4) \/ (j / 4 = Y * t.W + X /\ j % 4 < k + 1)) := by
   constructor
   ·rintro (h | h)
    ·exact .inl h
    ·exact .inr ⟨h.1, by omega⟩
   ·rintro (h | h)
    ·exact .inl h
    ·exact .inr ⟨h.1, by omega⟩
  by_cases h : t.inside (j / 4) /\ j % 4 < 3
  ·by_cases h5 : t.done Y X (j / 4) \/ (j / 4 = Y * t.W + X /\ j % 4 < k)
   ·rw [if_pos ⟨h.1, h.2, h5⟩, if_pos ⟨h.1, h.2, e.1 h5⟩]
   ·rw [if_neg (fun h4 => h5 h4.2.2), if_neg (fun h4 => h5 (e.2 h4.2.2))]
  ·rw [if_neg (fun h4 => h ⟨h4.1, h4.2.1⟩), if_neg (fun h4 => h ⟨h4.1, h4.2.1⟩)]
def curS (s : Sc) : Prop := s.cur = true /\ (0 <= s.row /\ s.row <= (s.rows : Int) - 1) /\ (0 <= s.col /\ s.col <= (s.cols : Int) - 1)
instance (s : Sc) : Decidable (curS s) := inferInstanceAs (Decidable (_ /\ _))
def curSpot (s : Sc) (W : Nat) : Spot := ⟨W, 0, 0, 0, s.col.toNat * s.cw, (s.col.toNat + 1) * s.cw, s.row.toNat * s.ch, (s.row.toNat + 1) * s.ch⟩
def curP (s : Sc) (W n : Nat) (P : List Int) : List Int := if curS s then tab n (curF (curSpot s W) P) else P
def CuI (s : Sc) (wd : World) (W H n g : Nat) (L : List Int) (wr : World) : Prop :=
 MatI W H n (wd.heap.size + 1) g L wr /\ Kept (fun i => i = g) wd wr /\ wr.heap[wd.heap.size + 1 + 1]? = some (.cells #[.int .i64 0, .int .i64 0, .slice none 0 0] 38 (0, 0)) /\ wr.heap[wd.heap.size + 1 + 1 + 1]? = some (.cells s.cs 107 (0, 0))
theorem CuI.kept {s : Sc} {wd : World} {W H n g : Nat} {L : List Int} {wr w2 : World} (h : CuI s wd W H n g L wr) (hk : Kept (fun _ => False) wr w2) : CuI s wd W H n g L w2 :=
 ⟨h.1.kept hk, h.2.1.then (hk.mono fun _ _ h => h.elim), hk.blk h.2.2.1 id, hk.blk h.2.2.2 id⟩
theorem CuI.put {s : Sc} {wd : World} {W H n g : Nat} {L L' : List Int} {wr w2 : World} (h : CuI s wd W H n g L wr) (ho : Own .u8 5 w2 (.slice (some ⟨g, 0, none⟩) n n) L') (hk : Kept (fun i => i = g) wr w2) (hgw : g < wd.heap.size) : CuI s wd W H n g L' w2 :=
 ⟨⟨ho, hk.blk h.1.2 (fun (h : wd.heap.size + 1 = g) => by omega)⟩, h.2.1.then hk, hk.blk h.2.2.1 (fun (h : wd.heap.size + 1 + 1 = g) => by omega), hk.blk h.2.2.2 (fun (h : wd.heap.size + 1 + 1 + 1 = g) => by omega)⟩
set_option maxRecDepth 100000 in
set_option maxHeartbeats 8000000 in
theorem cursor_any (s : Sc) (W H n g : Nat) (P : List Int) (wd : World) (hd : Dim s W H n) (hWW : W = s.cols * s.cw) (hHH : H = s.rows * s.ch) (hPb : IsBytes P)
  (ho : Own .u8 5 wd (.slice (some ⟨g, 0, none⟩) n n) P) :
  Calls Tryz.prog 555 #[s.val, .agg #[.int .i64 W, .int .i64 H, .slice (some ⟨g, 0, none⟩) n n]] wd fun e w' => e = .returned (.agg #[.int .i64 W, .int .i64 H, .slice (some ⟨g, 0, none⟩) n n]) /\ Own .u8 5 w' (.slice (some ⟨g, 0, none⟩) n n) (curP s W n P) /\ Kept (fun i => i = g) wd w' := by
 have hgw := ho.lt g rfl
 have HG := Lib.hid hgw
 have hPl : P.length = n := by obtain ⟨_, _, hv, -⟩ := ho.shape; cases hv; rfl
 obtain ⟨V, hV⟩ : ∃ V, (((wd.alloc (.cells s.cs 162)).alloc (.cells #[.int .i64 W, .int .i64 H, .slice (some ⟨g, 0, none⟩) n n] 38)).alloc (.cells #[.int .i64 0, .int .i64 0, .slice none 0 0] 38)).alloc (.cells s.cs 107) = V := ⟨_, rfl⟩
 have kV : Kept (fun _ => False) wd V := by rw [<- hV]; exact ((((Kept.refl _ _).alloc _).alloc _).alloc _).alloc _
 have b0 : ((wd.alloc (.cells s.cs 162)).alloc (.cells #[.int .i64 W, .int .i64 H, .slice (some ⟨g, 0, none⟩) n n] 38)).heap[wd.heap.size]? = some (.cells s.cs 162 (0, 0)) := blk_alloc (blk_new _ _) _
 have b1 : V.heap[wd.heap.size + 1]? = some (.cells #[.int .i64 W, .int .i64 H, .slice (some ⟨g, 0, none⟩) n n] 38 (0, 0)) := by rw [<- hV]; exact blk_alloc (blk_alloc (blk_at _ _ (by simp)) _) _
 have b2 : V.heap[wd.heap.size + 1 + 1]? = some (.cells #[.int .i64 0, .int .i64 0, .slice none 0 0] 38 (0, 0)) := by rw [<- hV]; exact blk_alloc (blk_at _ _ (by simp)) _
 have b3 : V.heap[wd.heap.size + 1 + 1 + 1]? = some (.cells s.cs 107 (0, 0)) := by rw [<- hV]; exact blk_at _ _ (by simp)
 have HI0 := Lib.hid (show CuI s wd W H n g P V from ⟨⟨ho.kept kV (fun _ _ => id), b1⟩, kV.mono (fun _ _ h => h.elim), b2, b3⟩)
 have hcp : curP s W n P = if curS s then tab n (curF (curSpot s W) P) else P := rfl
 obtain ⟨RES, hRES⟩ : ∃ R, curP s W n P = R := ⟨_, rfl⟩
 rw [hRES] at hcp ⊢
 have hd1 := hd.rows
 have hd2 := hd.cols
 have hd3 := hd.cw
 have hd4 := hd.ch
 have hd5 := hd.bn
 have hd6 := hd.bW
 have hd7 := hd.bH
 have hd8 := hd.bn2
 obtain ⟨y0, y1, y2, y3, y4, y5, y6, y7, y8, y9, y10⟩ := blk11 b3
 obtain ⟨U9, hU9⟩ : ∃ U, (wd.alloc (.cells s.cs 162)).alloc (.cells #[.int .i64 W, .int .i64 H, .slice (some ⟨g, 0, none⟩) n n] 38) = U := ⟨_, rfl⟩
 obtain ⟨U8, hU8⟩ : ∃ U, U9.alloc (.cells #[.int .i64 0, .int .i64 0, .slice none 0 0] 38) = U := ⟨_, rfl⟩
 rw [hU9] at b0 hV
 rw [hU8] at hV
 have k8 : Kept (fun _ => False) U9 U8 := by rw [<- hU8]; exact (Kept.refl _ _).alloc _
 obtain ⟨x0, x1, x2, x3, x4, x5, x6, x7, x8, x9, x10⟩ := blk11 (k8.blk b0 id)
 have s8 : U8.heap.size = wd.heap.size + 1 + 1 + 1 := by rw [<- hU8, <- hU9]; simp
 have s9 : U9.heap.size = wd.heap.size + 1 + 1 := by rw [<- hU9]; simp
 obtain ⟨rows, cols, cw, ch, la, ln, lc, pa, pn, pc, im, top, cur, row, col⟩ := s
 unfold Sc.cs at hU9 hV
 unfold Sc.val
 simp only at x0 x1 x2 x3 x4 x5 x6 x7 x8 x9 x10 y0 y1 y2 y3 y4 y5 y6 y7 y8 y9 y10 hV hU9 hd1 hd2 hd3 hd4 hWW hHH ⊢
 have HCP := Lib.hid hcp
 have w1 : IntKind.i64.wrap ((rows : Int) - 1) = (rows : Int) - 1 := IntWalk.i64_in _ (by omega)
 have w2 : IntKind.i64.wrap ((cols : Int) - 1) = (cols : Int) - 1 := IntWalk.i64_in _ (by omega)
 have HBT := Lib.hid (fun (v lo hi : Int) (b : Bool) (hb : (decide (lo <= v) && decide (v <= hi)) = b) (x : World) => show Calls Tryz.prog 87 #[.int .i64 v, .int .i64 lo, .int .i64 hi] x fun e w' => e = .returned (.bool b) /\ x = w' from by rw [<- hb]; exact (betw_any v lo hi x).mono fun _ _ h => ⟨h.1, h.2.symm⟩)
 clear hcp hRES hd b0 b1 b2 b3 kV ho hgw k8
 cases cur with
 | false =>
  have hR : RES = P := by rw [HCP.out, if_neg (fun h => by cases h.1)]
  subst hR
  obtain ⟨⟨d0, -⟩, ⟨d1, -⟩, d2, -⟩ := blk3 HI0.out.1.2
  obtain ⟨U1, U2, U3, f1, f2, f3, ⟨z0, z0'⟩, ⟨z1, z1'⟩, ⟨z2, z2'⟩, bU, kU⟩ := store3 HI0.out.2.2.1 (.int .i64 W) (.int .i64 H) (.slice (some ⟨g, 0, none⟩) n n)
  obtain ⟨⟨m0, -⟩, ⟨m1, -⟩, m2, -⟩ := blk3 bU
  have HE := Lib.hid (And.intro (HI0.out.1.1.kept kU (fun b hb hS => by have h9 : b = wd.heap.size + 1 + 1 := hS; have h8 : g = b := (by cases hb; rfl); have := HG.out; omega)) (HI0.out.2.1.trans (kU.mono fun i _ hi => Or.inr (by have h9 : i = wd.heap.size + 1 + 1 := hi; omega))))
  clear bU kU
  clear hPl hWW hHH hd1 hd2 hd3 hd4 hd5 hd6 hd7 hd8
  go_enter Tryz.func555, Tryz.ntmps555
  go_wp2
  exact bodyPost_ret (v := .agg #[.int .i64 W, .int .i64 H, .slice (some ⟨g, 0, none⟩) n n]) (by simp [results, Tryz.results555, go_sem, m0, m1, m2]) rfl ⟨rfl, HE.out⟩
 | true =>
  by_cases c1 : 0 <= row /\ row <= (rows : Int) - 1
  rotate_left
  ·have hR : RES = P := by rw [HCP.out, if_neg (fun h => c1 h.2.1)]
   subst hR
   have B1 := Lib.hid (fun x => HBT.out row 0 ((rows : Int) - 1) false (by rw [<- Bool.decide_and]; exact decide_eq_false c1) x)
   obtain ⟨⟨d0, -⟩, ⟨d1, -⟩, d2, -⟩ := blk3 HI0.out.1.2
   obtain ⟨U1, U2, U3, f1, f2, f3, ⟨z0, z0'⟩, ⟨z1, z1'⟩, ⟨z2, z2'⟩, bU, kU⟩ := store3 HI0.out.2.2.1 (.int .i64 W) (.int .i64 H) (.slice (some ⟨g, 0, none⟩) n n)
   obtain ⟨⟨m0, -⟩, ⟨m1, -⟩, m2, -⟩ := blk3 bU
   have HE := Lib.hid (And.intro (HI0.out.1.1.kept kU (fun b hb hS => by have h9 : b = wd.heap.size + 1 + 1 := hS; have h8 : g = b := (by cases hb; rfl); have := HG.out; omega)) (HI0.out.2.1.trans (kU.mono fun i _ hi => Or.inr (by have h9 : i = wd.heap.size + 1 + 1 := hi; omega))))
   clear bU kU
   clear hPl hWW hHH hd1 hd2 hd3 hd4 hd5 hd6 hd7 hd8 c1
   go_enter Tryz.func555, Tryz.ntmps555
   go_wp2_with (go_at_call 87; (with_reducible refine (B1.out _).mono ?_); rintro e w' ⟨rfl, rfl⟩)
   exact bodyPost_ret (v := .agg #[.int .i64 W, .int .i64 H, .slice (some ⟨g, 0, none⟩) n n]) (by simp [results, Tryz.results555, go_sem, m0, m1, m2]) rfl ⟨rfl, HE.out⟩
  have B1 := Lib.hid (fun x => HBT.out row 0 ((rows : Int) - 1) true (by rw [<- Bool.decide_and]; exact decide_eq_true c1) x)
  by_cases c2 : 0 <= col /\ col <= (cols : Int) - 1
  rotate_left
  ·have hR : RES = P := by rw [HCP.out, if_neg (fun h => c2 h.2.2)]
   subst hR
   have B2 := Lib.hid (fun x => HBT.out col 0 ((cols : Int) - 1) false (by rw [<- Bool.decide_and]; exact decide_eq_false c2) x)
   obtain ⟨⟨d0, -⟩, ⟨d1, -⟩, d2, -⟩ := blk3 HI0.out.1.2
   obtain ⟨U1, U2, U3, f1, f2, f3, ⟨z0, z0'⟩, ⟨z1, z1'⟩, ⟨z2, z2'⟩, bU, kU⟩ := store3 HI0.out.2.2.1 (.int .i64 W) (.int .i64 H) (.slice (some ⟨g, 0, none⟩) n n)
   obtain ⟨⟨m0, -⟩, ⟨m1, -⟩, m2, -⟩ := blk3 bU
   have HE := Lib.hid (And.intro (HI0.out.1.1.kept kU (fun b hb hS => by have h9 : b = wd.heap.size + 1 + 1 := hS; have h8 : g = b := (by cases hb; rfl); have := HG.out; omega)) (HI0.out.2.1.trans (kU.mono fun i _ hi => Or.inr (by have h9 : i = wd.heap.size + 1 + 1 := hi; omega))))
   clear bU kU
   clear hPl hWW hHH hd1 hd2 hd3 hd4 hd5 hd6 hd7 hd8 c1 c2
   go_enter Tryz.func555, Tryz.ntmps555
   go_wp2_with (go_at_call 87; first | ((with_reducible refine (B1.out _).mono ?_); rintro e w' ⟨rfl, rfl⟩) | ((with_reducible refine (B2.out _).mono ?_); rintro e w' ⟨rfl, rfl⟩))
   exact bodyPost_ret (v := .agg #[.int .i64 W, .int .i64 H, .slice (some ⟨g, 0, none⟩) n n]) (by simp [results, Tryz.results555, go_sem, m0, m1, m2]) rfl ⟨rfl, HE.out⟩
  have B2 := Lib.hid (fun x => HBT.out col 0 ((cols : Int) - 1) true (by rw [<- Bool.decide_and]; exact decide_eq_true c2) x)
  obtain ⟨R, rfl⟩ : ∃ R : Nat, row = (R : Int) := ⟨row.toNat, by omega⟩
  obtain ⟨C, rfl⟩ : ∃ C : Nat, col = (C : Int) := ⟨col.toNat, by omega⟩
  have hR1 : R < rows := by omega
  have hC1 : C < cols := by omega
  have HRES := Lib.hid (show RES = tab n (curF ⟨W, 0, 0, 0, C * cw, (C + 1) * cw, R * ch, (R + 1) * ch⟩ P) by rw [HCP.out, if_pos ⟨rfl, c1, c2⟩]; unfold curSpot; simp only [Int.toNat_natCast])
  have bx1 : (C + 1) * cw <= W := by rw [hWW]; exact Nat.mul_le_mul (by omega) (Nat.le_refl _)
  have by1 : (R + 1) * ch <= H := by rw [hHH]; exact Nat.mul_le_mul (by omega) (Nat.le_refl _)
  have ex1 : (C + 1) * cw = C * cw + cw := Nat.succ_mul ..
  have ey1 : (R + 1) * ch = R * ch + ch := Nat.succ_mul ..
  obtain ⟨x0', hx0'⟩ : ∃ x, C * cw = x := ⟨_, rfl⟩
  obtain ⟨y0', hy0'⟩ : ∃ x, R * ch = x := ⟨_, rfl⟩
  obtain ⟨x1', hx1'⟩ : ∃ x, (C + 1) * cw = x := ⟨_, rfl⟩
  obtain ⟨y1', hy1'⟩ : ∃ x, (R + 1) * ch = x := ⟨_, rfl⟩
  rw [hx0', hx1'] at ex1
  rw [hy0', hy1'] at ey1
  rw [hx1'] at bx1
  rw [hy1'] at by1
  rw [hx0', hx1', hy0', hy1'] at HRES
  have q1 : (R : Int) * (ch : Int) = (y0' : Int) := by rw [<- hy0']; simp
  have q2 : (C : Int) * (cw : Int) = (x0' : Int) := by rw [<- hx0']; simp
  have q3 : ((R : Int) + 1) * (ch : Int) = (y1' : Int) := by rw [<- hy1']; simp
  have q4 : ((C : Int) + 1) * (cw : Int) = (x1' : Int) := by rw [<- hx1']; simp
  have u1 : IntKind.i64.wrap (y0' : Int) = (y0' : Int) := IntWalk.i64_in _ (by omega)
  have u2 : IntKind.i64.wrap (x0' : Int) = (x0' : Int) := IntWalk.i64_in _ (by omega)
  have u3 : IntKind.i64.wrap (y1' : Int) = (y1' : Int) := IntWalk.i64_in _ (by omega)
  have u4 : IntKind.i64.wrap (x1' : Int) = (x1' : Int) := IntWalk.i64_in _ (by omega)
  have u5 : IntKind.i64.wrap ((R : Int) + 1) = (R : Int) + 1 := IntWalk.i64_in _ (by omega)
  have u6 : IntKind.i64.wrap ((C : Int) + 1) = (C : Int) + 1 := IntWalk.i64_in _ (by omega)
  obtain ⟨t, ht⟩ : ∃ t : Spot, (⟨W, 0, 0, 0, x0', x1', y0', y1'⟩ : Spot) = t := ⟨_, rfl⟩
  rw [ht] at HRES
  have HSTART := Lib.hid (show tab n (curD t P y0' x0' 0) = P from by have h := curD_start t P n hPl; rw [<- ht] at h ⊢; exact h)
  have HEND := Lib.hid (show tab n (curD t P y1' x0' 0) = tab n (curF t P) from curD_end t P n x0' y1' (by rw [<- ht]; exact Nat.le_refl _))
  have HROW := Lib.hid (fun (Y : Nat) => show tab n (curD t P Y x1' 0) = tab n (curD t P (Y + 1) x0' 0) from by have h := curD_row t P n x1' Y (by rw [<- ht]; exact Nat.le_refl _); rw [<- ht] at h ⊢; exact h)
  have HPIX := Lib.hid (fun (Y X : Nat) (hX : X < W) => show tab n (curD t P Y X 3) = tab n (curD t P Y (X + 1) 0) from curD_pix t P n X Y (by rw [<- ht]; exact hX))
  have HGET := Lib.hid (fun (Y X k : Nat) (hX : X < W) (hk : k < 3) (hn : 4 * (Y * W + X) + 4 <= n) => show (tab n (curD t P Y X k)).getD (4 * (Y * W + X) + k) 0 = P.getD (4 * (Y * W + X) + k) 0 from by have h := curD_get t P n X Y k (by rw [<- ht]; exact hX) hk (by rw [<- ht]; exact hn); rw [<- ht] at h ⊢; exact h)
  have HSTEP := Lib.hid (fun (Y X k : Nat) (hX : X < W) (h0 : x0' <= X) (h1 : X < x1') (h2 : y0' <= Y) (h3 : Y < y1') (hk : k < 3) (hn : 4 * (Y * W + X) + 4 <= n) => show (tab n (curD t P Y X k)).set (4 * (Y * W + X) + k) (255 - P.getD (4 * (Y * W + X) + k) 0) = tab n (curD t P Y X (k + 1)) from by
   have h := curD_step t P n X Y k (by rw [<- ht]; exact hX) (by rw [<- ht]; exact h0) (by rw [<- ht]; exact h1) (by rw [<- ht]; exact h2) (by rw [<- ht]; exact h3) hk (by rw [<- ht]; exact hn)
   rw [<- ht] at h ⊢
   exact h)
  have HPB := Lib.hid hPb
  have HEX := Lib.hid (And.intro ex1 ey1)
  clear ex1 ey1
  have HDIM := Lib.hid (And.intro hd5 (And.intro hd6 (And.intro hd7 hd8)))
  clear ht hPl hx0' hx1' hy0' hy1' hWW hHH hd5 c1 c2 hPb
  go_enter Tryz.func555, Tryz.ntmps555
  go_wp2_with (go_at_call 87; first | ((with_reducible refine (B1.out _).mono ?_); rintro e w' ⟨rfl, rfl⟩) | ((with_reducible refine (B2.out _).mono ?_); rintro e w' ⟨rfl, rfl⟩))
  clear x0 x1 x2 x3 x4 x5 x6 x7 x8 x9 x10 y0 y1 y2 y3 y4 y5 y6 y7 y8 y9 y10
  go_loopg [6, 7, 8, 63] y1' (fun gg yv _ _ _ wr => ∃ Y : Nat, y1' <= gg + Y /\ y0' <= Y /\ Y <= y1' /\ yv = .int .i64 Y /\ CuI ⟨rows, cols, cw, ch, la, ln, lc, pa, pn, pc, im, top, true, R, C⟩ wd W H n g (tab n (curD t P Y x0' 0)) wr)
  case atStart => exact ⟨y0', by omega, by omega, by have := HEX.out; omega, rfl, by rw [HSTART.out]; exact HI0.out⟩
  case round =>
   obtain ⟨Y, hgg, hYa, hYb, rfl, hinv⟩ := hrel
   obtain ⟨y0, y1, y2, y3, -, -, -, -, -, y9, y10⟩ := blk11 hinv.2.2.2
   by_cases hY1 : Y < y1'
   ·have gy : decide (Y < y1') = true := decide_eq_true hY1
    have gy' : decide ((Y : Int) < (y1' : Int)) = true := decide_eq_true (by omega)
    have wY : IntKind.i64.wrap ((Y : Int) + 1) = (Y : Int) + 1 := IntWalk.i64_in _ (by omega)
    have HI := Lib.hid hinv
    obtain ⟨gko, hgo⟩ : ∃ x, x = gk := ⟨_, rfl⟩
    subst hgo
    clear hinv
    go_wp2
    clear y0 y1 y2 y3 y9 y10
    go_loopg [7, 8, 63] x1' (fun gg xv _ _ wr => ∃ X : Nat, x1' <= gg + X /\ x0' <= X /\ X <= x1' /\ xv = .int .i64 X /\ CuI ⟨rows, cols, cw, ch, la, ln, lc, pa, pn, pc, im, top, true, R, C⟩ wd W H n g (tab n (curD t P Y X 0)) wr)
    case atStart => exact ⟨x0', by omega, by omega, by have := HEX.out; omega, rfl, HI.out⟩
    case round =>
     obtain ⟨X, hgx, hXa, hXb, rfl, hinv⟩ := hrel
     obtain ⟨y0, y1, y2, y3, -, -, -, -, -, y9, y10⟩ := blk11 hinv.2.2.2
     by_cases hX1 : X < x1'
     ·have gx : decide (X < x1') = true := decide_eq_true hX1
      have gx' : decide ((X : Int) < (x1' : Int)) = true := decide_eq_true (by omega)
      have wX : IntKind.i64.wrap ((X : Int) + 1) = (X : Int) + 1 := IntWalk.i64_in _ (by omega)
      have hXW : X < W := by omega
      have hYH : Y < H := by omega
      have hPn := fit_idx hXW hYH
      have hn4 : 4 * (Y * W + X) + 4 <= n := by have := HDIM.out.1; omega
      have HI2 := Lib.hid hinv
      obtain ⟨gkx, hgo⟩ : ∃ x, x = gk := ⟨_, rfl⟩
      subst hgo
      have HXN := Lib.hid (And.intro hXW hn4)
      obtain ⟨yW, hyW⟩ : ∃ q, Y * W = q := ⟨_, rfl⟩
      rw [hyW] at hPn hn4
      have v5 : (Y : Int) * (W : Int) = (yW : Int) := by rw [<- hyW]; simp
      have HYW := Lib.hid hyW
      have HGET2 := Lib.hid (fun (k : Nat) (hk : k < 3) => show (tab n (curD t P Y X k)).getD (4 * (yW + X) + k) 0 = P.getD (4 * (yW + X) + k) 0 from by have h := HGET.out Y X k hXW hk HXN.out.2; rw [hyW] at h; exact h)
      have HSTEP2 := Lib.hid (fun (k : Nat) (hk : k < 3) => show (tab n (curD t P Y X k)).set (4 * (yW + X) + k) (255 - P.getD (4 * (yW + X) + k) 0) = tab n (curD t P Y X (k + 1)) from by have h := HSTEP.out Y X k hXW hXa hX1 hYa hY1 hk HXN.out.2; rw [hyW] at h; exact h)
      clear hinv hPn hyW
      go_wp2
      clear y0 y1 y2 y3 y9 y10
      go_loopg [8, 63] 3 (fun gg _ kv wr => ∃ k : Nat, k <= 3 /\ 3 <= gg + k /\ kv = .int .i64 k /\ CuI ⟨rows, cols, cw, ch, la, ln, lc, pa, pn, pc, im, top, true, R, C⟩ wd W H n g (tab n (curD t P Y X k)) wr)
      case atStart => exact ⟨0, by omega, by omega, rfl, HI2.out⟩
      case round =>
       obtain ⟨k, hk, hgk, rfl, hinv⟩ := hrel
       by_cases hk3 : k < 3
       ·have gk' : decide ((k : Int) < 3) = true := decide_eq_true (by omega)
        have wK : IntKind.i64.wrap ((k : Int) + 1) = (k : Int) + 1 := IntWalk.i64_in _ (by omega)
        obtain ⟨⟨a0, -⟩, ⟨a1, -⟩, a2, -⟩ := blk3 hinv.1.2
        have hog := hinv.1.1
        obtain ⟨z, hz⟩ : ∃ z, P.getD (4 * (yW + X) + k) 0 = z := ⟨_, rfl⟩
        have bz : 0 <= z /\ z < 256 := by rw [<- hz]; exact getD_byte HPB.out _
        have d3 := hog.at.2.2.2.1 (4 * (yW + X) + k) (by omega)
        have e3 := hog.at.2.2.2.2 (4 * (yW + X) + k)
        rw [HGET2.out k hk3, hz] at d3
        obtain ⟨V2, hV2⟩ : ∃ V2, wr.setCell ⟨g, 4 * (yW + X) + k, none⟩ (.int .u8 (255 - z)) = V2 := ⟨_, rfl⟩
        have ho1 : Own .u8 5 V2 (.slice (some ⟨g, 0, none⟩) n n) (tab n (curD t P Y X (k + 1))) := by
         have h := hog.set (show 4 * (yW + X) + k < n by omega) (255 - z)
         rw [hV2] at h
         have hs := HSTEP2.out k hk3
         rw [hz] at hs
         rw [hs] at h
         exact h
        have kV2 : Kept (fun i => i = g) wr V2 := by rw [<- hV2]; exact (Kept.refl (fun i => i = g) _).setCell (p := ⟨g, 4 * (yW + X) + k, none⟩) (.inl rfl) _
        have HI3 := Lib.hid (hinv.put ho1 kV2 HG.out)
        have p1 : IntKind.i64.wrap (4 * ((yW : Int) + (X : Int)) + (k : Int)) = 4 * ((yW : Int) + (X : Int)) + (k : Int) := IntWalk.i64_in _ (by omega)
        have p2 : IntKind.i64.wrap (4 * ((yW : Int) + (X : Int))) = 4 * ((yW : Int) + (X : Int)) := IntWalk.i64_in _ (by omega)
        have p3 : IntKind.i64.wrap ((yW : Int) + (X : Int)) = (yW : Int) + (X : Int) := IntWalk.i64_in _ (by omega)
        have p4 : IntKind.i64.wrap (yW : Int) = (yW : Int) := IntWalk.i64_in _ (by omega)
        have p5 : IntKind.u8.wrap (255 - z) = 255 - z := IntWalk.u8_in _ (by omega)
        have t1 : (4 * ((yW : Int) + (X : Int)) + (k : Int)).toNat = 4 * (yW + X) + k := by omega
        have l1 : 0 <= 4 * ((yW : Int) + (X : Int)) + (k : Int) := by omega
        have l2 : 4 * ((yW : Int) + (X : Int)) + (k : Int) < (n : Int) := by omega
        clear hinv hog ho1 kV2 hz
        go_wp2
        go_still_tail 26, (by kernel_rfl)
        clear p1 p2 p3 p4 p5 t1 l1 l2
        change wpList _ _ _ _ _ wr.drew
        go_wp2
        go_roundg (gk - 1)
        case rel => exact ⟨k + 1, by omega, by omega, by go_num, HI3.out.kept ((Kept.refl (fun _ => False) _).drew)⟩
        case measure => omega
       ·obtain rfl : k = 3 := by omega
        have gk' : decide (((3 : Nat) : Int) < 3) = false := by decide
        rw [HPIX.out Y X HXN.out.1] at hinv
        have HI4 := Lib.hid hinv
        clear hinv
        go_wp2
        go_roundg (gkx - 1)
        case rel => exact ⟨X + 1, by omega, by omega, by omega, by go_num, HI4.out⟩
        case measure => omega
     ·obtain rfl : X = x1' := by omega
      have gx : decide (X < X) = false := decide_eq_false (by omega)
      rw [HROW.out Y] at hinv
      have HI2 := Lib.hid hinv
      clear hinv
      go_wp2
      go_roundg (gko - 1)
      case rel => exact ⟨Y + 1, by omega, by omega, by omega, by go_num, HI2.out⟩
      case measure => omega
   ·obtain rfl : Y = y1' := by omega
    have gy : decide (Y < Y) = false := decide_eq_false (by omega)
    rw [HEND.out, <- HRES.out] at hinv
    obtain ⟨⟨d0, -⟩, ⟨d1, -⟩, d2, -⟩ := blk3 hinv.1.2
    obtain ⟨U1, U2, U3, f1, f2, f3, ⟨z0, z0'⟩, ⟨z1, z1'⟩, ⟨z2, z2'⟩, bU, kU⟩ := store3 hinv.2.2.1 (.int .i64 W) (.int .i64 H) (.slice (some ⟨g, 0, none⟩) n n)
    obtain ⟨⟨m0, -⟩, ⟨m1, -⟩, m2, -⟩ := blk3 bU
    have HE := Lib.hid (And.intro (hinv.1.1.kept kU (fun b hb hS => by have h9 : b = wd.heap.size + 1 + 1 := hS; have h8 : g = b := (by cases hb; rfl); have := HG.out; omega)) (hinv.2.1.trans (kU.mono fun i _ hi => Or.inr (by have h9 : i = wd.heap.size + 1 + 1 := hi; omega))))
    clear bU kU hinv
    go_wp2
    exact bodyPost_ret (v := .agg #[.int .i64 W, .int .i64 H, .slice (some ⟨g, 0, none⟩) n n]) (by simp [results, Tryz.results555, go_sem, m0, m1, m2]) rfl ⟨rfl, HE.out⟩
def Imgs (s : Sc) (W H n B : Nat) (w0 : World) (img : Bool -> List Int -> List Int) : Prop :=
 ∀ (above : Bool) (P : List Int) (g : Nat) (w : World), B <= g -> Kept (fun i => B <= i) w0 w -> Own .u8 5 w (.slice (some ⟨g, 0, none⟩) n n) P -> IsBytes P ->
  Calls Tryz.prog 546 #[.agg #[.int .i64 s.rows, .int .i64 s.cols, .int .i64 s.cw, .int .i64 s.ch, .slice s.la s.ln s.lc, .slice s.pa s.pn s.pc, .map s.im, .int .i64 s.top, .bool s.cur, .int .i64 s.row, .int .i64 s.col, .bool above], .agg #[.int .i64 W, .int .i64 H, .slice (some ⟨g, 0, none⟩) n n]] w fun e w' =>
   e = .returned (.agg #[.int .i64 W, .int .i64 H, .slice (some ⟨g, 0, none⟩) n n]) /\ Own .u8 5 w' (.slice (some ⟨g, 0, none⟩) n n) (img above P) /\ Kept (fun i => i = g) w w'
theorem ta90_92 (vs : Array Value) (w : World) : (Instr.typeAssert (.iface 158 (.agg vs)) 238 160 true).run Tryz.prog w = .ok (.tuple #[.agg #[.int .i64 0, .int .i64 0, .int .i64 0, .int .i64 0, .slice none 0 0, .slice none 0 0, .map none, .int .i64 0, .bool false, .int .i64 0, .int .i64 0, .bool false], .bool false]) w := by kernel_rfl
theorem ta90_90 (vs : Array Value) (w : World) : (Instr.typeAssert (.iface 158 (.agg vs)) 238 158 true).run Tryz.prog w = .ok (.tuple #[.agg vs, .bool true]) w := by kernel_rfl
theorem ta90_93 (vs : Array Value) (w : World) : (Instr.typeAssert (.iface 158 (.agg vs)) 238 161 true).run Tryz.prog w = .ok (.tuple #[.agg #[.int .i64 0, .int .i64 0, .int .i64 0, .int .i64 0, .slice none 0 0, .slice none 0 0, .map none, .int .i64 0, .bool false, .int .i64 0, .int .i64 0], .bool false]) w := by kernel_rfl
theorem ta90_94 (vs : Array Value) (w : World) : (Instr.typeAssert (.iface 158 (.agg vs)) 238 162 true).run Tryz.prog w = .ok (.tuple #[.agg #[.int .i64 0, .int .i64 0, .int .i64 0, .int .i64 0, .slice none 0 0, .slice none 0 0, .map none, .int .i64 0, .bool false, .int .i64 0, .int .i64 0], .bool false]) w := by kernel_rfl
theorem m_grounds (vs : Array Value) (w : World) : (method 238 158 (.agg vs) "Paint").run Tryz.prog w = .ok (536, .agg vs) w := by kernel_rfl
set_option maxRecDepth 100000 in
set_option maxHeartbeats 8000000 in
theorem names_grounds (vs : Array Value) (w : World) : Calls Tryz.prog 145 #[.iface 158 (.agg vs)] w fun e w' => e = .returned (.string ⟨#[99, 101, 108, 108, 115]⟩) /\ w = w' := by
 have ta92 := ta90_92 vs
 have ta90 := ta90_90 vs
 have ta93 := ta90_93 vs
 have ta94 := ta90_94 vs
 go_enter Tryz.func145, Tryz.ntmps145
 go_wp2
 go_ret
 exact ⟨rfl, rfl⟩
theorem ta92_92 (vs : Array Value) (w : World) : (Instr.typeAssert (.iface 160 (.agg vs)) 238 160 true).run Tryz.prog w = .ok (.tuple #[.agg vs, .bool true]) w := by kernel_rfl
theorem ta92_90 (vs : Array Value) (w : World) : (Instr.typeAssert (.iface 160 (.agg vs)) 238 158 true).run Tryz.prog w = .ok (.tuple #[.agg #[.int .i64 0, .int .i64 0, .int .i64 0, .int .i64 0, .slice none 0 0, .slice none 0 0, .map none, .int .i64 0, .bool false, .int .i64 0, .int .i64 0], .bool false]) w := by kernel_rfl
theorem ta92_93 (vs : Array Value) (w : World) : (Instr.typeAssert (.iface 160 (.agg vs)) 238 161 true).run Tryz.prog w = .ok (.tuple #[.agg #[.int .i64 0, .int .i64 0, .int .i64 0, .int .i64 0, .slice none 0 0, .slice none 0 0, .map none, .int .i64 0, .bool false, .int .i64 0, .int .i64 0], .bool false]) w := by kernel_rfl
theorem ta92_94 (vs : Array Value) (w : World) : (Instr.typeAssert (.iface 160 (.agg vs)) 238 162 true).run Tryz.prog w = .ok (.tuple #[.agg #[.int .i64 0, .int .i64 0, .int .i64 0, .int .i64 0, .slice none 0 0, .slice none 0 0, .map none, .int .i64 0, .bool false, .int .i64 0, .int .i64 0], .bool false]) w := by kernel_rfl
theorem m_images (vs : Array Value) (w : World) : (method 238 160 (.agg vs) "Paint").run Tryz.prog w = .ok (546, .agg vs) w := by kernel_rfl
set_option maxRecDepth 100000 in
set_option maxHeartbeats 8000000 in
theorem names_images (vs : Array Value) (w : World) : Calls Tryz.prog 145 #[.iface 160 (.agg vs)] w fun e w' => e = .returned (.string ⟨#[105, 109, 97, 103, 101, 115]⟩) /\ w = w' := by
 have ta92 := ta92_92 vs
 have ta90 := ta92_90 vs
 have ta93 := ta92_93 vs
 have ta94 := ta92_94 vs
 go_enter Tryz.func145, Tryz.ntmps145
 go_wp2
 go_ret
 exact ⟨rfl, rfl⟩
theorem ta93_92 (vs : Array Value) (w : World) : (Instr.typeAssert (.iface 161 (.agg vs)) 238 160 true).run Tryz.prog w = .ok (.tuple #[.agg #[.int .i64 0, .int .i64 0, .int .i64 0, .int .i64 0, .slice none 0 0, .slice none 0 0, .map none, .int .i64 0, .bool false, .int .i64 0, .int .i64 0, .bool false], .bool false]) w := by kernel_rfl
theorem ta93_90 (vs : Array Value) (w : World) : (Instr.typeAssert (.iface 161 (.agg vs)) 238 158 true).run Tryz.prog w = .ok (.tuple #[.agg #[.int .i64 0, .int .i64 0, .int .i64 0, .int .i64 0, .slice none 0 0, .slice none 0 0, .map none, .int .i64 0, .bool false, .int .i64 0, .int .i64 0], .bool false]) w := by kernel_rfl
theorem ta93_93 (vs : Array Value) (w : World) : (Instr.typeAssert (.iface 161 (.agg vs)) 238 161 true).run Tryz.prog w = .ok (.tuple #[.agg vs, .bool true]) w := by kernel_rfl
theorem ta93_94 (vs : Array Value) (w : World) : (Instr.typeAssert (.iface 161 (.agg vs)) 238 162 true).run Tryz.prog w = .ok (.tuple #[.agg #[.int .i64 0, .int .i64 0, .int .i64 0, .int .i64 0, .slice none 0 0, .slice none 0 0, .map none, .int .i64 0, .bool false, .int .i64 0, .int .i64 0], .bool false]) w := by kernel_rfl
theorem m_glyphs (vs : Array Value) (w : World) : (method 238 161 (.agg vs) "Paint").run Tryz.prog w = .ok (551, .agg vs) w := by kernel_rfl
set_option maxRecDepth 100000 in
set_option maxHeartbeats 8000000 in
theorem names_glyphs (vs : Array Value) (w : World) : Calls Tryz.prog 145 #[.iface 161 (.agg vs)] w fun e w' => e = .returned (.string ⟨#[99, 101, 108, 108, 115]⟩) /\ w = w' := by
 have ta92 := ta93_92 vs
 have ta90 := ta93_90 vs
 have ta93 := ta93_93 vs
 have ta94 := ta93_94 vs
 go_enter Tryz.func145, Tryz.ntmps145
 go_wp2
 go_ret
 exact ⟨rfl, rfl⟩
theorem ta94_92 (vs : Array Value) (w : World) : (Instr.typeAssert (.iface 162 (.agg vs)) 238 160 true).run Tryz.prog w = .ok (.tuple #[.agg #[.int .i64 0, .int .i64 0, .int .i64 0, .int .i64 0, .slice none 0 0, .slice none 0 0, .map none, .int .i64 0, .bool false, .int .i64 0, .int .i64 0, .bool false], .bool false]) w := by kernel_rfl
theorem ta94_90 (vs : Array Value) (w : World) : (Instr.typeAssert (.iface 162 (.agg vs)) 238 158 true).run Tryz.prog w = .ok (.tuple #[.agg #[.int .i64 0, .int .i64 0, .int .i64 0, .int .i64 0, .slice none 0 0, .slice none 0 0, .map none, .int .i64 0, .bool false, .int .i64 0, .int .i64 0], .bool false]) w := by kernel_rfl
theorem ta94_93 (vs : Array Value) (w : World) : (Instr.typeAssert (.iface 162 (.agg vs)) 238 161 true).run Tryz.prog w = .ok (.tuple #[.agg #[.int .i64 0, .int .i64 0, .int .i64 0, .int .i64 0, .slice none 0 0, .slice none 0 0, .map none, .int .i64 0, .bool false, .int .i64 0, .int .i64 0], .bool false]) w := by kernel_rfl
theorem ta94_94 (vs : Array Value) (w : World) : (Instr.typeAssert (.iface 162 (.agg vs)) 238 162 true).run Tryz.prog w = .ok (.tuple #[.agg vs, .bool true]) w := by kernel_rfl
theorem m_cursor (vs : Array Value) (w : World) : (method 238 162 (.agg vs) "Paint").run Tryz.prog w = .ok (555, .agg vs) w := by kernel_rfl
set_option maxRecDepth 100000 in
set_option maxHeartbeats 8000000 in
theorem names_cursor (vs : Array Value) (w : World) : Calls Tryz.prog 145 #[.iface 162 (.agg vs)] w fun e w' => e = .returned (.string ⟨#[99, 117, 114, 115, 111, 114]⟩) /\ w = w' := by
 have ta92 := ta94_92 vs
 have ta90 := ta94_90 vs
 have ta93 := ta94_93 vs
 have ta94 := ta94_94 vs
 go_enter Tryz.func145, Tryz.ntmps145
 go_wp2
 go_ret
 exact ⟨rfl, rfl⟩
theorem layL_bytes {W H : Nat} {x y bw bh : Int} {c : Rgb} {P : List Int} (hc : c.IsB) (hP : IsBytes P) : IsBytes (layL W H x y bw bh c P) := by
 intro v hv
 obtain ⟨j, hj, rfl⟩ := List.getElem_of_mem hv
 rw [layL_len] at hj
 have h := layL_get (x := x) (y := y) (bw := bw) (bh := bh) (c := c) (P := P) hj
 rw [List.getD_eq_getElem?_getD, List.getElem?_eq_getElem (by rw [layL_len]; exact hj)] at h
 simp only [Option.getD_some] at h
 rw [h]
 obtain ⟨h1, h2, h3⟩ := hc
 split
 ·match j % 4, Nat.mod_lt j (show 4 > 0 by omega) with
  | 0, _ => exact h1
  | 1, _ => exact h2
  | 2, _ => exact h3
  | 3, _ => exact ⟨by show (0 : Int) <= 255; decide, by show (255 : Int) < 256; decide⟩
 ·exact getD_byte hP _
theorem colors_isB (a : Look) : (colors a).1.IsB /\ (colors a).2.IsB := by
 have h1 := colour_isB a.fg true
 have h2 := colour_isB a.bg false
 have hh : ∀ c : Rgb, c.IsB -> c.half.IsB := fun c ⟨⟨p1, p2⟩, ⟨q1, q2⟩, r1, r2⟩ => ⟨⟨by show 0 <= c.r / 2; omega, by show c.r / 2 < 256; omega⟩, ⟨by show 0 <= c.g / 2; omega, by show c.g / 2 < 256; omega⟩, by show 0 <= c.b / 2; omega, by show c.b / 2 < 256; omega⟩
 unfold colors
 simp only
 cases hasB a.fl 2 <;> cases hasB a.fl 32 <;> cases hasB a.fl 64 <;> simp [h1, h2, hh]
theorem rowF_ind {C : List Int -> Prop} {step : Nat -> Nat -> List Int -> List Int} (hs : ∀ r c P, C P -> C (step r c P)) (row : Nat) : ∀ (k : Nat) {P : List Int}, C P -> C (rowF step row k P)
 | 0, _, h => h
 | k + 1, _, h => hs _ _ _ (rowF_ind hs row k h)
theorem eachF_ind {C : List Int -> Prop} {step : Nat -> Nat -> List Int -> List Int} (hs : ∀ r c P, C P -> C (step r c P)) (cols : Nat) : ∀ (k : Nat) {P : List Int}, C P -> C (eachF step cols k P)
 | 0, _, h => h
 | k + 1, _, h => rowF_ind hs k cols (eachF_ind hs cols k h)
theorem boxS_ind {C : List Int -> Prop} {L : Int -> Int -> Int -> Int -> Rgb -> List Int -> List Int} (hL : ∀ x y bw bh c P, c.IsB -> C P -> C (L x y bw bh c P)) (r w h : Int) (a : Look) {P : List Int} (hP : C P) : C (boxS L r w h a P) := by
 obtain ⟨hF, hB⟩ := colors_isB a
 unfold boxS
 simp only
 have h1 : C (if 32 < r then (if 2 < (w + 1) / 2 /\ 2 < (h + 1) / 2 then L (w / 4 + r % ((w + 1) / 2)) (h / 4 + r / 256 % ((h + 1) / 2)) 1 1 (colors a).2 (L (w / 4) (h / 4) ((w + 1) / 2) ((h + 1) / 2) (colors a).1 P) else L (w / 4) (h / 4) ((w + 1) / 2) ((h + 1) / 2) (colors a).1 P) else P) := by
  split
  ·split
   ·exact hL _ _ _ _ _ _ hB (hL _ _ _ _ _ _ hF hP)
   ·exact hL _ _ _ _ _ _ hF hP
  ·exact hP
 split
 ·refine hL _ _ _ _ _ _ hF ?_
  split
  ·exact hL _ _ _ _ _ _ hF h1
  ·exact h1
 ·split
  ·exact hL _ _ _ _ _ _ hF h1
  ·exact h1
theorem gro_bytes (s : Sc) (ls : List (List Cl)) (W H : Nat) {P : List Int} (hP : IsBytes P) : IsBytes (eachF (groF s ls W H) s.cols s.rows P) :=
 eachF_ind (fun r c P hP => by unfold groF; exact layL_bytes (colors_isB _).2 hP) _ _ hP
theorem gls_bytes (s : Sc) (ls : List (List Cl)) (W H : Nat) {P : List Int} (hP : IsBytes P) : IsBytes (eachF (glsF s ls W H) s.cols s.rows P) :=
 eachF_ind (fun r c P hP => by
  unfold glsF
  split
  ·exact hP
  ·exact boxS_ind (fun x y bw bh c P hc hP => by unfold glsL; exact layL_bytes hc hP) _ _ _ _ hP) _ _ hP
def drawP (s : Sc) (ls : List (List Cl)) (img : Bool -> List Int -> List Int) (W H n : Nat) (P : List Int) : List Int :=
 curP s W n (img true (eachF (glsF s ls W H) s.cols s.rows (img false (eachF (groF s ls W H) s.cols s.rows P))))
def Sc.valB (s : Sc) (b : Bool) : Value := .agg #[.int .i64 s.rows, .int .i64 s.cols, .int .i64 s.cw, .int .i64 s.ch, .slice s.la s.ln s.lc, .slice s.pa s.pn s.pc, .map s.im, .int .i64 s.top, .bool s.cur, .int .i64 s.row, .int .i64 s.col, .bool b]
structure CoI (s : Sc) (ls : List (List Cl)) (B : Nat) (w0 wd : World) (W H n g lb : Nat) (L : List Int) (wr : World) : Prop where
 o : Own .u8 5 wr (.slice (some ⟨g, 0, none⟩) n n) L
 k : Kept (fun i => i = g) wd wr
 m : wr.heap[wd.heap.size]? = some (.cells #[.int .i64 W, .int .i64 H, .slice (some ⟨g, 0, none⟩) n n] 38 (0, 0))
 z : wr.heap[wd.heap.size + 1]? = some (.cells #[.int .i64 0, .int .i64 0, .slice none 0 0] 38 (0, 0))
 l : wr.heap[lb]? = some (.cells #[.iface 158 s.val, .iface 160 (s.valB false), .iface 161 s.val, .iface 160 (s.valB true), .iface 162 s.val] 238 (0, 0))
 w : Kept (fun i => B <= i) w0 wr
 s : LinesAt B wr s.la s.ln ls
theorem CoI.kept {s : Sc} {ls : List (List Cl)} {B : Nat} {w0 wd : World} {W H n g lb : Nat} {L : List Int} {wr w2 : World} (h : CoI s ls B w0 wd W H n g lb L wr) (hk : Kept (fun _ => False) wr w2) : CoI s ls B w0 wd W H n g lb L w2 :=
 ⟨h.o.kept hk (fun _ _ => id), h.k.then (hk.mono fun _ _ h => h.elim), hk.blk h.m id, hk.blk h.z id, hk.blk h.l id, h.w.then (hk.mono fun _ _ h => h.elim), h.s.kept hk (fun _ h => h.elim)⟩
theorem CoI.lay {s : Sc} {ls : List (List Cl)} {B : Nat} {w0 wd : World} {W H n g lb : Nat} {L L' : List Int} {wr w2 : World} (h : CoI s ls B w0 wd W H n g lb L wr) (ho : Own .u8 5 w2 (.slice (some ⟨g, 0, none⟩) n n) L') (hk : Kept (fun i => i = g) wr w2) (hg : g < wd.heap.size) (hB : B <= g) (hl : lb ≠ g) : CoI s ls B w0 wd W H n g lb L' w2 :=
 ⟨ho, h.k.then hk, hk.blk h.m (fun (h : wd.heap.size = g) => by omega), hk.blk h.z (fun (h : wd.heap.size + 1 = g) => by omega), hk.blk h.l hl, h.w.then (hk.mono fun i _ hi => by have h9 : i = g := hi; omega), h.s.kept hk (fun i hi => by have h9 : i = g := hi; omega)⟩
theorem same3 {w : World} {b : Nat} {x y z : Value} {t : TypeId} (h : w.heap[b]? = some (.cells #[x, y, z] t (0, 0))) : ∃ V1 V2 V3, w.setCell ⟨b, 0, none⟩ x = V1 /\ V1.setCell ⟨b, 1, none⟩ y = V2 /\ V2.setCell ⟨b, 2, none⟩ z = V3 /\ (w.cell? ⟨b, 0, none⟩ = some x /\ w.frozen? ⟨b, 0, none⟩ = false) /\ (V1.cell? ⟨b, 1, none⟩ = some y /\ V1.frozen? ⟨b, 1, none⟩ = false) /\ (V2.cell? ⟨b, 2, none⟩ = some z /\ V2.frozen? ⟨b, 2, none⟩ = false) /\ V3.heap[b]? = some (.cells #[x, y, z] t (0, 0)) /\ Kept (· = b) w V3 := store3 h x y z
theorem CoI.same {s : Sc} {ls : List (List Cl)} {B : Nat} {w0 wd : World} {W H n g lb : Nat} {L : List Int} {wr w2 : World} (h : CoI s ls B w0 wd W H n g lb L wr) (hb : w2.heap[wd.heap.size]? = some (.cells #[.int .i64 W, .int .i64 H, .slice (some ⟨g, 0, none⟩) n n] 38 (0, 0))) (hk : Kept (fun i => i = wd.heap.size) wr w2) (hg : g < wd.heap.size) (hB : B <= wd.heap.size) (hl : lb < wd.heap.size) : CoI s ls B w0 wd W H n g lb L w2 :=
 ⟨h.o.kept hk (fun b hb hS => by have h9 : b = wd.heap.size := hS; have h8 : g = b := (by cases hb; rfl); omega), h.k.trans (hk.mono fun i _ hi => Or.inr (by have h9 : i = wd.heap.size := hi; omega)), hb, hk.blk h.z (fun (h : wd.heap.size + 1 = wd.heap.size) => by omega), hk.blk h.l (fun (h : lb = wd.heap.size) => by omega), h.w.then (hk.mono fun i _ hi => by have h9 : i = wd.heap.size := hi; omega), h.s.kept hk (fun i hi => by have h9 : i = wd.heap.size := hi; omega)⟩
set_option maxRecDepth 100000 in
set_option maxHeartbeats 8000000 in
theorem compose_any (s : Sc) (ls : List (List Cl)) (img : Bool -> List Int -> List Int) (B : Nat) (w0 wd : World) (W H n g lb : Nat) (P : List Int) (hd : Dim s W H n) (hWW : W = s.cols * s.cw) (hHH : H = s.rows * s.ch) (hn0 : 0 < n)
  (hcl : ∀ row col, -2147483648 <= (cellS ls row col).r /\ (cellS ls row col).r <= 2147483647) (hlen : s.ln <= 9223372036854775807) (himg : Imgs s W H n B w0 img) (hib : ∀ a P, IsBytes P -> IsBytes (img a P))
  (hPb : IsBytes P) (hBg : B <= g) (hlg : lb ≠ g) (hw0 : Kept (fun i => B <= i) w0 wd) (hls : LinesAt B wd s.la s.ln ls) (hBw : B <= wd.heap.size)
  (ho : Own .u8 5 wd (.slice (some ⟨g, 0, none⟩) n n) P) (hlb : wd.heap[lb]? = some (.cells #[.iface 158 s.val, .iface 160 (s.valB false), .iface 161 s.val, .iface 160 (s.valB true), .iface 162 s.val] 238 (0, 0))) :
  Calls Tryz.prog 89 #[.agg #[.int .i64 W, .int .i64 H, .slice (some ⟨g, 0, none⟩) n n], .slice (some ⟨lb, 0, none⟩) 5 5] wd fun e w' => e = .returned (.agg #[.int .i64 W, .int .i64 H, .slice (some ⟨g, 0, none⟩) n n]) /\ Own .u8 5 w' (.slice (some ⟨g, 0, none⟩) n n) (drawP s ls img W H n P) /\ Kept (fun i => i = g) wd w' := by
 have hgw := ho.lt g rfl
 have hlw := lt_of_blk hlb
 obtain ⟨V, hV⟩ : ∃ V, (wd.alloc (.cells #[.int .i64 W, .int .i64 H, .slice (some ⟨g, 0, none⟩) n n] 38)).alloc (.cells #[.int .i64 0, .int .i64 0, .slice none 0 0] 38) = V := ⟨_, rfl⟩
 have kV : Kept (fun _ => False) wd V := by rw [<- hV]; exact ((Kept.refl _ _).alloc _).alloc _
 have b0 : V.heap[wd.heap.size]? = some (.cells #[.int .i64 W, .int .i64 H, .slice (some ⟨g, 0, none⟩) n n] 38 (0, 0)) := by rw [<- hV]; exact blk_alloc (blk_new _ _) _
 have b1 : V.heap[wd.heap.size + 1]? = some (.cells #[.int .i64 0, .int .i64 0, .slice none 0 0] 38 (0, 0)) := by rw [<- hV]; exact blk_at _ _ (by simp)
 obtain ⟨P1, hP1⟩ : ∃ x, eachF (groF s ls W H) s.cols s.rows P = x := ⟨_, rfl⟩
 obtain ⟨P2, hP2⟩ : ∃ x, img false P1 = x := ⟨_, rfl⟩
 obtain ⟨P3, hP3⟩ : ∃ x, eachF (glsF s ls W H) s.cols s.rows P2 = x := ⟨_, rfl⟩
 obtain ⟨P4, hP4⟩ : ∃ x, img true P3 = x := ⟨_, rfl⟩
 obtain ⟨P5, hP5⟩ : ∃ x, curP s W n P4 = x := ⟨_, rfl⟩
 have c1 : IsBytes P1 := by rw [<- hP1]; exact gro_bytes s ls W H hPb
 have c2 : IsBytes P2 := by rw [<- hP2]; exact hib _ _ c1
 have c3 : IsBytes P3 := by rw [<- hP3]; exact gls_bytes s ls W H c2
 have c4 : IsBytes P4 := by rw [<- hP4]; exact hib _ _ c3
 have hR : drawP s ls img W H n P = P5 := by unfold drawP; rw [hP1, hP2, hP3, hP4, hP5]
 rw [hR]
 have HI0 := Lib.hid (show CoI s ls B w0 wd W H n g lb P V from ⟨ho.kept kV (fun _ _ => id), kV.mono (fun _ _ h => h.elim), b0, b1, kV.blk hlb id, hw0.then (kV.mono fun _ _ h => h.elim), hls.kept kV (fun _ h => h.elim)⟩)
 have HN := Lib.hid (And.intro hgw (And.intro hBg (And.intro hlg (And.intro hlw hBw))))
 have S1 := Lib.hid (fun (w : World) (h : CoI s ls B w0 wd W H n g lb P w) => show Calls Tryz.prog 536 #[s.val, .agg #[.int .i64 W, .int .i64 H, .slice (some ⟨g, 0, none⟩) n n]] w fun e w' => e = .returned (.agg #[.int .i64 W, .int .i64 H, .slice (some ⟨g, 0, none⟩) n n]) /\ Own .u8 5 w' (.slice (some ⟨g, 0, none⟩) n n) P1 /\ Kept (fun i => i = g) w w' from by rw [<- hP1]; exact grounds_any B s ls W H n g P w hd h.s hlen hBg h.o)
 have S2 := Lib.hid (fun (w : World) (h : CoI s ls B w0 wd W H n g lb P1 w) => show Calls Tryz.prog 546 #[s.valB false, .agg #[.int .i64 W, .int .i64 H, .slice (some ⟨g, 0, none⟩) n n]] w fun e w' => e = .returned (.agg #[.int .i64 W, .int .i64 H, .slice (some ⟨g, 0, none⟩) n n]) /\ Own .u8 5 w' (.slice (some ⟨g, 0, none⟩) n n) P2 /\ Kept (fun i => i = g) w w' from by rw [<- hP2]; exact himg false P1 g w hBg h.w h.o c1)
 have S3 := Lib.hid (fun (w : World) (h : CoI s ls B w0 wd W H n g lb P2 w) => show Calls Tryz.prog 551 #[s.val, .agg #[.int .i64 W, .int .i64 H, .slice (some ⟨g, 0, none⟩) n n]] w fun e w' => e = .returned (.agg #[.int .i64 W, .int .i64 H, .slice (some ⟨g, 0, none⟩) n n]) /\ Own .u8 5 w' (.slice (some ⟨g, 0, none⟩) n n) P3 /\ Kept (fun i => i = g) w w' from by rw [<- hP3]; exact glyphs_any B s ls W H n g P2 w hd h.s hlen hBg hcl h.o)
 have S4 := Lib.hid (fun (w : World) (h : CoI s ls B w0 wd W H n g lb P3 w) => show Calls Tryz.prog 546 #[s.valB true, .agg #[.int .i64 W, .int .i64 H, .slice (some ⟨g, 0, none⟩) n n]] w fun e w' => e = .returned (.agg #[.int .i64 W, .int .i64 H, .slice (some ⟨g, 0, none⟩) n n]) /\ Own .u8 5 w' (.slice (some ⟨g, 0, none⟩) n n) P4 /\ Kept (fun i => i = g) w w' from by rw [<- hP4]; exact himg true P3 g w hBg h.w h.o c3)
 have S5 := Lib.hid (fun (w : World) (h : CoI s ls B w0 wd W H n g lb P4 w) => show Calls Tryz.prog 555 #[s.val, .agg #[.int .i64 W, .int .i64 H, .slice (some ⟨g, 0, none⟩) n n]] w fun e w' => e = .returned (.agg #[.int .i64 W, .int .i64 H, .slice (some ⟨g, 0, none⟩) n n]) /\ Own .u8 5 w' (.slice (some ⟨g, 0, none⟩) n n) P5 /\ Kept (fun i => i = g) w w' from by rw [<- hP5]; exact cursor_any s W H n g P4 w hd hWW hHH c4 h.o)
 obtain ⟨CS, hCS⟩ : ∃ C : Array Value, C = #[.int .i64 s.rows, .int .i64 s.cols, .int .i64 s.cw, .int .i64 s.ch, .slice s.la s.ln s.lc, .slice s.pa s.pn s.pc, .map s.im, .int .i64 s.top, .bool s.cur, .int .i64 s.row, .int .i64 s.col] := ⟨_, rfl⟩
 obtain ⟨CF, hCF⟩ : ∃ C : Array Value, C = #[.int .i64 s.rows, .int .i64 s.cols, .int .i64 s.cw, .int .i64 s.ch, .slice s.la s.ln s.lc, .slice s.pa s.pn s.pc, .map s.im, .int .i64 s.top, .bool s.cur, .int .i64 s.row, .int .i64 s.col, .bool false] := ⟨_, rfl⟩
 obtain ⟨CT, hCT⟩ : ∃ C : Array Value, C = #[.int .i64 s.rows, .int .i64 s.cols, .int .i64 s.cw, .int .i64 s.ch, .slice s.la s.ln s.lc, .slice s.pa s.pn s.pc, .map s.im, .int .i64 s.top, .bool s.cur, .int .i64 s.row, .int .i64 s.col, .bool true] := ⟨_, rfl⟩
 have eS : s.val = .agg CS := by rw [hCS]; rfl
 have eF : s.valB false = .agg CF := by rw [hCF]; rfl
 have eT : s.valB true = .agg CT := by rw [hCT]; rfl
 rw [eS] at S1 S3 S5
 rw [eF] at S2
 rw [eT] at S4
 have HL := Lib.hid (fun (L : List Int) (w : World) (h : CoI s ls B w0 wd W H n g lb L w) => show w.heap[lb]? = some (.cells #[.iface 158 (.agg CS), .iface 160 (.agg CF), .iface 161 (.agg CS), .iface 160 (.agg CT), .iface 162 (.agg CS)] 238 (0, 0)) from by have h2 := h.l; rw [eS, eF, eT] at h2; exact h2)
 have g0 : decide (0 < n) = true := decide_eq_true hn0
 have g0' : decide ((0 : Int) < (n : Int)) = true := decide_eq_true (by omega)
 clear hCS hCF hCT eS eF eT hd hWW hHH hn0 hcl hlen himg hib hPb hBg hlg hw0 hls hBw ho hlb hgw hlw kV b0 b1 hP1 hP2 hP3 hP4 hP5 c1 c2 c3 c4 hR
 obtain ⟨y0, y1, y2, y3, y4⟩ := blk5 (HL.out _ _ HI0.out)
 obtain ⟨⟨d0, -⟩, ⟨d1, -⟩, d2, -⟩ := blk3 HI0.out.m
 have mm0 := m_grounds
 have mm1 := m_images
 have mm2 := m_glyphs
 have mm3 := m_cursor
 go_enter Tryz.func89, Tryz.ntmps89
 go_wp2
 refine wp_loop_rounds 6 ?_
 rw [rounds_succ]
 go_wp2_with fail
 refine (names_grounds CS _).mono ?_
 rintro e w' ⟨rfl, rfl⟩
 go_wp2_with fail
 refine (S1.out _ HI0.out).mono ?_
 rintro e w' ⟨rfl, ho, hk⟩
 have hJ := HI0.out.lay ho hk HN.out.1 HN.out.2.1 HN.out.2.2.1
 obtain ⟨U1, U2, U3, f1, f2, f3, ⟨q0, q0'⟩, ⟨q1, q1'⟩, ⟨q2, q2'⟩, bU, kU⟩ := same3 hJ.m
 have HI1 := Lib.hid (hJ.same bU kU HN.out.1 HN.out.2.2.2.2 HN.out.2.2.2.1)
 clear ho hk hJ bU kU y0 y1 y2 y3 y4 d0 d1 d2
 go_wp2
 clear q0 q0' q1 q1' q2 q2' f1 f2 f3
 obtain ⟨y0, y1, y2, y3, y4⟩ := blk5 (HL.out _ _ HI1.out)
 obtain ⟨⟨d0, -⟩, ⟨d1, -⟩, d2, -⟩ := blk3 HI1.out.m
 rw [rounds_succ]
 go_wp2_with fail
 refine (names_images CF _).mono ?_
 rintro e w' ⟨rfl, rfl⟩
 go_wp2_with fail
 refine (S2.out _ HI1.out).mono ?_
 rintro e w' ⟨rfl, ho, hk⟩
 have hJ := HI1.out.lay ho hk HN.out.1 HN.out.2.1 HN.out.2.2.1
 obtain ⟨U1, U2, U3, f1, f2, f3, ⟨q0, q0'⟩, ⟨q1, q1'⟩, ⟨q2, q2'⟩, bU, kU⟩ := same3 hJ.m
 have HI2 := Lib.hid (hJ.same bU kU HN.out.1 HN.out.2.2.2.2 HN.out.2.2.2.1)
 clear ho hk hJ bU kU y0 y1 y2 y3 y4 d0 d1 d2
 go_wp2
 clear q0 q0' q1 q1' q2 q2' f1 f2 f3
 obtain ⟨y0, y1, y2, y3, y4⟩ := blk5 (HL.out _ _ HI2.out)
 obtain ⟨⟨d0, -⟩, ⟨d1, -⟩, d2, -⟩ := blk3 HI2.out.m
 rw [rounds_succ]
 go_wp2_with fail
 refine (names_glyphs CS _).mono ?_
 rintro e w' ⟨rfl, rfl⟩
 go_wp2_with fail
 refine (S3.out _ HI2.out).mono ?_
 rintro e w' ⟨rfl, ho, hk⟩
 have hJ := HI2.out.lay ho hk HN.out.1 HN.out.2.1 HN.out.2.2.1
 obtain ⟨U1, U2, U3, f1, f2, f3, ⟨q0, q0'⟩, ⟨q1, q1'⟩, ⟨q2, q2'⟩, bU, kU⟩ := same3 hJ.m
 have HI3 := Lib.hid (hJ.same bU kU HN.out.1 HN.out.2.2.2.2 HN.out.2.2.2.1)
 clear ho hk hJ bU kU y0 y1 y2 y3 y4 d0 d1 d2
 go_wp2
 clear q0 q0' q1 q1' q2 q2' f1 f2 f3
 obtain ⟨y0, y1, y2, y3, y4⟩ := blk5 (HL.out _ _ HI3.out)
 obtain ⟨⟨d0, -⟩, ⟨d1, -⟩, d2, -⟩ := blk3 HI3.out.m
 rw [rounds_succ]
 go_wp2_with fail
 refine (names_images CT _).mono ?_
 rintro e w' ⟨rfl, rfl⟩
 go_wp2_with fail
 refine (S4.out _ HI3.out).mono ?_
 rintro e w' ⟨rfl, ho, hk⟩
 have hJ := HI3.out.lay ho hk HN.out.1 HN.out.2.1 HN.out.2.2.1
 obtain ⟨U1, U2, U3, f1, f2, f3, ⟨q0, q0'⟩, ⟨q1, q1'⟩, ⟨q2, q2'⟩, bU, kU⟩ := same3 hJ.m
 have HI4 := Lib.hid (hJ.same bU kU HN.out.1 HN.out.2.2.2.2 HN.out.2.2.2.1)
 clear ho hk hJ bU kU y0 y1 y2 y3 y4 d0 d1 d2
 go_wp2
 clear q0 q0' q1 q1' q2 q2' f1 f2 f3
 obtain ⟨y0, y1, y2, y3, y4⟩ := blk5 (HL.out _ _ HI4.out)
 obtain ⟨⟨d0, -⟩, ⟨d1, -⟩, d2, -⟩ := blk3 HI4.out.m
 rw [rounds_succ]
 go_wp2_with fail
 refine (names_cursor CS _).mono ?_
 rintro e w' ⟨rfl, rfl⟩
 go_wp2_with fail
 refine (S5.out _ HI4.out).mono ?_
 rintro e w' ⟨rfl, ho, hk⟩
 have hJ := HI4.out.lay ho hk HN.out.1 HN.out.2.1 HN.out.2.2.1
 obtain ⟨U1, U2, U3, f1, f2, f3, ⟨q0, q0'⟩, ⟨q1, q1'⟩, ⟨q2, q2'⟩, bU, kU⟩ := same3 hJ.m
 have HI5 := Lib.hid (hJ.same bU kU HN.out.1 HN.out.2.2.2.2 HN.out.2.2.2.1)
 clear ho hk hJ bU kU y0 y1 y2 y3 y4 d0 d1 d2
 go_wp2
 clear q0 q0' q1 q1' q2 q2' f1 f2 f3
 obtain ⟨y0, y1, y2, y3, y4⟩ := blk5 (HL.out _ _ HI5.out)
 obtain ⟨⟨d0, -⟩, ⟨d1, -⟩, d2, -⟩ := blk3 HI5.out.m
 rw [rounds_succ]
 obtain ⟨U1, U2, U3, f1, f2, f3, ⟨q0, q0'⟩, ⟨q1, q1'⟩, ⟨q2, q2'⟩, bU, kU⟩ := store3 HI5.out.z (.int .i64 W) (.int .i64 H) (.slice (some ⟨g, 0, none⟩) n n)
 obtain ⟨⟨m0, -⟩, ⟨m1, -⟩, m2, -⟩ := blk3 bU
 have HE := Lib.hid (And.intro (HI5.out.o.kept kU (fun b hb hS => by have h9 : b = wd.heap.size + 1 := hS; have h8 : g = b := (by cases hb; rfl); have := HN.out.1; omega)) (HI5.out.k.trans (kU.mono fun i _ hi => Or.inr (by have h9 : i = wd.heap.size + 1 := hi; omega))))
 clear bU kU
 go_wp2
 exact bodyPost_ret (v := .agg #[.int .i64 W, .int .i64 H, .slice (some ⟨g, 0, none⟩) n n]) (by simp [results, Tryz.results89, go_sem, m0, m1, m2]) rfl ⟨rfl, HE.out⟩
set_option maxRecDepth 100000 in
set_option maxHeartbeats 8000000 in
theorem draw_yes (s : Sc) (ls : List (List Cl)) (img : Bool -> List Int -> List Int) (wd : World) (W H n : Nat) (hd : Dim s W H n) (hr : 1 <= s.rows) (hc : 1 <= s.cols) (hWW : W = s.cols * s.cw) (hHH : H = s.rows * s.ch)
  (hcl : ∀ row col, -2147483648 <= (cellS ls row col).r /\ (cellS ls row col).r <= 2147483647) (hlen : s.ln <= 9223372036854775807) (himg : Imgs s W H n wd.heap.size wd img) (hib : ∀ a P, IsBytes P -> IsBytes (img a P))
  (hls : LinesAt wd.heap.size wd s.la s.ln ls) :
  Calls Tryz.prog 48 #[s.val] wd fun e w' => ∃ g : Nat, e = .returned (.tuple #[mat W H (some ⟨g, 0, none⟩) n n, .int .i64 0]) /\ wd.heap.size <= g /\ Own .u8 5 w' (.slice (some ⟨g, 0, none⟩) n n) (drawP s ls img W H n (List.replicate n 0)) /\ Kept (fun _ => False) wd w' := by
 have hd1 := hd.rows
 have hd2 := hd.cols
 have hd3 := hd.cw
 have hd4 := hd.ch
 have hW1 : 1 <= W := by rw [hWW]; exact Nat.mul_pos (by omega) (by omega)
 have hH1 : 1 <= H := by rw [hHH]; exact Nat.mul_pos (by omega) (by omega)
 have hWH : 1 <= W * H := Nat.mul_pos hW1 hH1
 have hn0 : 0 < n := by have := hd.bn; omega
 have hsz : sizeB W H = true := by
  unfold sizeB
  have h1 := hd.bW
  have h2 := hd.bH
  have h3 := hd.bn
  have h4 := hd.bn2
  refine decide_eq_true (.inr ⟨by omega, by omega, by omega, by omega, ?_⟩)
  rw [show (W : Int) * (H : Int) = ((W * H : Nat) : Int) by simp]; omega
 have HNEW := Lib.hid (fun w => show Calls Tryz.prog 88 #[.int .i64 W, .int .i64 H] w fun e w' => ∃ g, e = .returned (.tuple #[.agg #[.int .i64 W, .int .i64 H, .slice (some ⟨g, 0, none⟩) n n], .int .i64 0]) /\ w.heap.size <= g /\ Own .u8 5 w' (.slice (some ⟨g, 0, none⟩) n n) (List.replicate n 0) /\ Kept (fun _ => False) w w' from (new_yes W H w hsz).mono fun e w' ⟨g, k, hk, he, h1, h2, h3⟩ => by
  have h5 := hd.bn
  obtain rfl : k = n := by
   rw [Int.mul_assoc, show (W : Int) * (H : Int) = ((W * H : Nat) : Int) by simp] at hk
   omega
  exact ⟨g, he, h1, h2, h3⟩)
 have HBT := fun (v lo hi : Int) (h1 : lo <= v) (h2 : v <= hi) (x : World) => show Calls Tryz.prog 87 #[.int .i64 v, .int .i64 lo, .int .i64 hi] x fun e w' => e = .returned (.bool true) /\ x = w' from by
  have h := betw_any v lo hi x
  rw [decide_eq_true h1, decide_eq_true h2] at h
  exact h.mono fun _ _ h => ⟨h.1, h.2.symm⟩
 have B1 := Lib.hid (HBT s.rows 1 1000 (by omega) (by omega))
 have B2 := Lib.hid (HBT s.cols 1 1000 (by omega) (by omega))
 have B3 := Lib.hid (HBT s.cw 1 64 (by omega) (by omega))
 have B4 := Lib.hid (HBT s.ch 1 64 (by omega) (by omega))
 have HCO := Lib.hid (fun (w : World) (g lb : Nat) (hg : wd.heap.size <= g) (hl : lb ≠ g) (hw0 : Kept (fun i => wd.heap.size <= i) wd w) (hlw : LinesAt wd.heap.size w s.la s.ln ls) (hz : wd.heap.size <= w.heap.size) (ho : Own .u8 5 w (.slice (some ⟨g, 0, none⟩) n n) (List.replicate n 0)) (hlb : w.heap[lb]? = some (.cells #[.iface 158 s.val, .iface 160 (s.valB false), .iface 161 s.val, .iface 160 (s.valB true), .iface 162 s.val] 238 (0, 0))) =>
  compose_any s ls img wd.heap.size wd w W H n g lb (List.replicate n 0) hd hWW hHH hn0 hcl hlen himg hib (by intro v hv; rw [List.eq_of_mem_replicate hv]; exact ⟨by decide, by decide⟩) hg hl hw0 hlw hz ho hlb)
 obtain ⟨RES, hRES⟩ : ∃ R, drawP s ls img W H n (List.replicate n 0) = R := ⟨_, rfl⟩
 rw [hRES] at HCO ⊢
 have HLS := Lib.hid hls
 have v1 : (s.cols : Int) * (s.cw : Int) = (W : Int) := by rw [hWW]; simp
 have v2 : (s.rows : Int) * (s.ch : Int) = (H : Int) := by rw [hHH]; simp
 have u1 : IntKind.i64.wrap (W : Int) = (W : Int) := IntWalk.i64_in _ (by have := hd.bW; omega)
 have u2 : IntKind.i64.wrap (H : Int) = (H : Int) := IntWalk.i64_in _ (by have := hd.bH; omega)
 obtain ⟨V, hV⟩ : ∃ V, (wd.alloc (.cells s.cs 107)).alloc (.cells #[.int .i64 0, .int .i64 0, .slice none 0 0] 38) = V := ⟨_, rfl⟩
 have kV : Kept (fun _ => False) wd V := by rw [<- hV]; exact ((Kept.refl _ _).alloc _).alloc _
 have b0 : V.heap[wd.heap.size]? = some (.cells s.cs 107 (0, 0)) := by rw [<- hV]; exact blk_alloc (blk_new _ _) _
 have b1 : V.heap[wd.heap.size + 1]? = some (.cells #[.int .i64 0, .int .i64 0, .slice none 0 0] 38 (0, 0)) := by rw [<- hV]; exact blk_at _ _ (by simp)
 have H0 := Lib.hid (And.intro kV (And.intro b0 b1))
 obtain ⟨x0, x1, x2, x3, x4, x5, x6, x7, x8, x9, x10⟩ := blk11 b0
 obtain ⟨rows, cols, cw, ch, la, ln, lc, pa, pn, pc, im, top, cur, row, col⟩ := s
 unfold Sc.cs at hV H0
 unfold Sc.val Sc.valB at HCO
 unfold Sc.val
 simp only at x0 x1 x2 x3 x4 x5 x6 x7 x8 x9 x10 hV B1 B2 B3 B4 v1 v2 HLS ⊢
 clear hd hr hc hWW hHH hcl hlen himg hib hls hW1 hH1 hWH hn0 hsz HBT hRES kV b0 b1 hd1 hd2 hd3 hd4
 go_enter Tryz.func48, Tryz.ntmps48
 go_wp2_with (go_at_call 87; first | ((with_reducible refine (B1.out _).mono ?_); rintro e w' ⟨rfl, rfl⟩) | ((with_reducible refine (B2.out _).mono ?_); rintro e w' ⟨rfl, rfl⟩) | ((with_reducible refine (B3.out _).mono ?_); rintro e w' ⟨rfl, rfl⟩) | ((with_reducible refine (B4.out _).mono ?_); rintro e w' ⟨rfl, rfl⟩))
 refine (HNEW.out _).mono ?_
 rintro e w1 ⟨g, rfl, hg, ho, hk1⟩
 obtain ⟨V1, hV1⟩ : ∃ V, w1.alloc (.cells #[.int .i64 W, .int .i64 H, .slice (some ⟨g, 0, none⟩) n n] 38) = V := ⟨_, rfl⟩
 have k1 : Kept (fun _ => False) w1 V1 := by rw [<- hV1]; exact (Kept.refl _ _).alloc _
 have c0 : V1.heap[w1.heap.size]? = some (.cells #[.int .i64 W, .int .i64 H, .slice (some ⟨g, 0, none⟩) n n] 38 (0, 0)) := by rw [<- hV1]; exact blk_new _ _
 obtain ⟨V2, hV2⟩ : ∃ V, V1.alloc (.cells #[.iface 158 (.agg #[.int .i64 rows, .int .i64 cols, .int .i64 cw, .int .i64 ch, .slice la ln lc, .slice pa pn pc, .map im, .int .i64 top, .bool cur, .int .i64 row, .int .i64 col]), .iface 160 (.agg #[.int .i64 rows, .int .i64 cols, .int .i64 cw, .int .i64 ch, .slice la ln lc, .slice pa pn pc, .map im, .int .i64 top, .bool cur, .int .i64 row, .int .i64 col, .bool false]), .iface 161 (.agg #[.int .i64 rows, .int .i64 cols, .int .i64 cw, .int .i64 ch, .slice la ln lc, .slice pa pn pc, .map im, .int .i64 top, .bool cur, .int .i64 row, .int .i64 col]), .iface 160 (.agg #[.int .i64 rows, .int .i64 cols, .int .i64 cw, .int .i64 ch, .slice la ln lc, .slice pa pn pc, .map im, .int .i64 top, .bool cur, .int .i64 row, .int .i64 col, .bool true]), .iface 162 (.agg #[.int .i64 rows, .int .i64 cols, .int .i64 cw, .int .i64 ch, .slice la ln lc, .slice pa pn pc, .map im, .int .i64 top, .bool cur, .int .i64 row, .int .i64 col])] 238) = V := ⟨_, rfl⟩
 have k2 : Kept (fun _ => False) V1 V2 := by rw [<- hV2]; exact (Kept.refl _ _).alloc _
 have c1 := blk_new V1 (.cells #[.iface 158 (.agg #[.int .i64 rows, .int .i64 cols, .int .i64 cw, .int .i64 ch, .slice la ln lc, .slice pa pn pc, .map im, .int .i64 top, .bool cur, .int .i64 row, .int .i64 col]), .iface 160 (.agg #[.int .i64 rows, .int .i64 cols, .int .i64 cw, .int .i64 ch, .slice la ln lc, .slice pa pn pc, .map im, .int .i64 top, .bool cur, .int .i64 row, .int .i64 col, .bool false]), .iface 161 (.agg #[.int .i64 rows, .int .i64 cols, .int .i64 cw, .int .i64 ch, .slice la ln lc, .slice pa pn pc, .map im, .int .i64 top, .bool cur, .int .i64 row, .int .i64 col]), .iface 160 (.agg #[.int .i64 rows, .int .i64 cols, .int .i64 cw, .int .i64 ch, .slice la ln lc, .slice pa pn pc, .map im, .int .i64 top, .bool cur, .int .i64 row, .int .i64 col, .bool true]), .iface 162 (.agg #[.int .i64 rows, .int .i64 cols, .int .i64 cw, .int .i64 ch, .slice la ln lc, .slice pa pn pc, .map im, .int .i64 top, .bool cur, .int .i64 row, .int .i64 col])] 238)
 rw [hV2] at c1
 have kA := hk1.then k1
 have kAll := H0.out.1.then (kA.then k2)
 have hgV : g < V1.heap.size := (ho.kept k1 (fun _ _ => id)).lt g rfl
 have hs2 : wd.heap.size <= V2.heap.size := kAll.size
 have HC := Lib.hid (HCO.out V2 g V1.heap.size (by have := H0.out.1.size; omega) (by omega) (kAll.mono fun _ _ h => h.elim) (HLS.out.kept kAll (fun _ h => h.elim)) hs2 (ho.kept (k1.then k2) (fun _ _ => id)) c1)
 obtain ⟨x0, x1, x2, x3, x4, x5, x6, x7, x8, x9, x10⟩ := blk11 (kA.blk H0.out.2.1 id)
 obtain ⟨⟨d0, -⟩, ⟨d1, -⟩, d2, -⟩ := blk3 c0
 have hzg : wd.heap.size + 1 < V.heap.size := lt_of_blk H0.out.2.2
 have H2 := Lib.hid (And.intro kAll (And.intro ((kA.then k2).blk H0.out.2.2 id) (And.intro hg hzg)))
 clear hg ho hk1 k1 c0 k2 c1 kA kAll hgV hs2 hzg
 go_wp2_with fail
 refine HC.out.mono ?_
 rintro e w3 ⟨rfl, ho3, hk3⟩
 obtain ⟨U1, U2, U3, f1, f2, f3, ⟨q0, q0'⟩, ⟨q1, q1'⟩, ⟨q2, q2'⟩, bU, kU⟩ := store3 (hk3.blk H2.out.2.1 (fun (h : wd.heap.size + 1 = g) => by have := H2.out.2.2; omega)) (.int .i64 W) (.int .i64 H) (.slice (some ⟨g, 0, none⟩) n n)
 obtain ⟨⟨m0, -⟩, ⟨m1, -⟩, m2, -⟩ := blk3 bU
 have HE := Lib.hid (And.intro (ho3.kept kU (fun b hb hS => by have h9 : b = wd.heap.size + 1 := hS; have h8 : g = b := (by cases hb; rfl); have := H2.out.2.2; omega)) ((H2.out.1.trans (hk3.mono fun i _ hi => Or.inr (by have h9 : i = g := hi; have := H2.out.2.2; omega))).trans (kU.mono fun i _ hi => Or.inr (by have h9 : i = wd.heap.size + 1 := hi; omega))))
 clear ho3 hk3 bU kU x0 x1 x2 x3 x4 x5 x6 x7 x8 x9 x10 d0 d1 d2
 go_wp2
 exact bodyPost_ret (v := .tuple #[.agg #[.int .i64 W, .int .i64 H, .slice (some ⟨g, 0, none⟩) n n], .int .i64 0]) (by simp [results, Tryz.results48, go_sem, m0, m1, m2]) rfl ⟨g, rfl, by have := H2.out.2.2; omega, HE.out.1, HE.out.2⟩
set_option maxRecDepth 100000 in
set_option maxHeartbeats 8000000 in
theorem imgs0 (s : Sc) (W H n B : Nat) (w0 : World) (hp : s.pn = 0) : Imgs s W H n B w0 (fun _ P => P) := by
 intro above P g w hg hk ho hb
 have hgw := ho.lt g rfl
 obtain ⟨rows, cols, cw, ch, la, ln, lc, pa, pn, pc, im, top, cur, row, col⟩ := s
 simp only at hp ⊢
 subst hp
 obtain ⟨V, hV⟩ : ∃ V, ((w.alloc (.cells #[.int .i64 rows, .int .i64 cols, .int .i64 cw, .int .i64 ch, .slice la ln lc, .slice pa 0 pc, .map im, .int .i64 top, .bool cur, .int .i64 row, .int .i64 col, .bool above] 160)).alloc (.cells #[.int .i64 W, .int .i64 H, .slice (some ⟨g, 0, none⟩) n n] 38)).alloc (.cells #[.int .i64 0, .int .i64 0, .slice none 0 0] 38) = V := ⟨_, rfl⟩
 have kV : Kept (fun _ => False) w V := by rw [<- hV]; exact (((Kept.refl _ _).alloc _).alloc _).alloc _
 have b0 : V.heap[w.heap.size]? = some (.cells #[.int .i64 rows, .int .i64 cols, .int .i64 cw, .int .i64 ch, .slice la ln lc, .slice pa 0 pc, .map im, .int .i64 top, .bool cur, .int .i64 row, .int .i64 col, .bool above] 160 (0, 0)) := by rw [<- hV]; exact blk_alloc (blk_alloc (blk_new _ _) _) _
 have b1 : V.heap[w.heap.size + 1]? = some (.cells #[.int .i64 W, .int .i64 H, .slice (some ⟨g, 0, none⟩) n n] 38 (0, 0)) := by rw [<- hV]; exact blk_alloc (blk_at _ _ (by simp)) _
 have b2 : V.heap[w.heap.size + 1 + 1]? = some (.cells #[.int .i64 0, .int .i64 0, .slice none 0 0] 38 (0, 0)) := by rw [<- hV]; exact blk_at _ _ (by simp)
 have x5 : V.cell? ⟨w.heap.size, 5, none⟩ = some (.slice pa 0 pc) := blk_cell b0 5
 obtain ⟨⟨d0, -⟩, ⟨d1, -⟩, d2, -⟩ := blk3 b1
 obtain ⟨U1, U2, U3, f1, f2, f3, ⟨q0, q0'⟩, ⟨q1, q1'⟩, ⟨q2, q2'⟩, bU, kU⟩ := store3 b2 (.int .i64 W) (.int .i64 H) (.slice (some ⟨g, 0, none⟩) n n)
 obtain ⟨⟨m0, -⟩, ⟨m1, -⟩, m2, -⟩ := blk3 bU
 have HE := Lib.hid (And.intro ((ho.kept kV (fun _ _ => id)).kept kU (fun b hb hS => by have h9 : b = w.heap.size + 1 + 1 := hS; have h8 : g = b := (by cases hb; rfl); omega)) ((kV.mono (fun _ _ h => h.elim) : Kept (fun i => i = g) w V).trans (kU.mono fun i _ hi => Or.inr (by have h9 : i = w.heap.size + 1 + 1 := hi; omega))))
 clear hg hk ho hb hgw kV b0 b1 b2 bU kU
 go_enter Tryz.func546, Tryz.ntmps546
 go_wp2
 refine wp_loop_rounds 1 ?_
 rw [rounds_succ]
 go_wp2
 exact bodyPost_ret (v := .agg #[.int .i64 W, .int .i64 H, .slice (some ⟨g, 0, none⟩) n n]) (by simp [results, Tryz.results546, go_sem, m0, m1, m2]) rfl ⟨rfl, HE.out⟩
section
variable {s : Sc} {ls : List (List Cl)} {W H : Nat} {j : Nat}
end
end Go.Proofs.YtmplpcmcbliadaaGreatDoor
