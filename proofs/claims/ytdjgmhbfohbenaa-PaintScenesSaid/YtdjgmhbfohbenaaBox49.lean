/- The parts of a glyph laid: the program's box, by one of its closures. -/
import Derived.Test.YtdjgmhbfohbenaaMFil
namespace Go.Proofs.Ytdjgmhbfohbenaa
open Go.RowKit Go.Sort Pl
set_option linter.unusedVariables false
set_option linter.unusedSimpArgs false
attribute [local go_sem] A2.growOp A2.growUpon A2.sameUpon
set_option maxRecDepth 100000 in
set_option maxHeartbeats 8000000 in
theorem box49_any (c0 : Value) (S : Nat → Prop) (I : List Int → World → Prop) (L : Int → Int → Int → Int → Rgb → List Int → List Int) (r w h : Int) (a : Look) (P : List Int) (wd : World)
    (hI : I P wd) (hIk : ∀ P w w', I P w → Kept (fun _ => False) w w' → I P w') (hS : ∀ i, S i → i < wd.heap.size) (hlay : Lays 49 #[c0] S I L)
    (hr : -2147483648 ≤ r ∧ r ≤ 2147483647) (hw : 1 ≤ w ∧ w ≤ 128) (hh : 1 ≤ h ∧ h ≤ 64) :
    Calls Try.prog 48 #[.int .i32 r, .int .i64 w, .int .i64 h, lookV a, .func (.func 49) #[] #[c0]] wd fun e w' => e = .returned (.tuple #[]) ∧ I (boxS L r w h a P) w' ∧ Kept S wd w' := by
  obtain ⟨fg, bg, fl⟩ := a
  obtain ⟨F, hF⟩ : ∃ F, (colors ⟨fg, bg, fl⟩).1 = F := ⟨_, rfl⟩
  obtain ⟨B, hB⟩ : ∃ B, (colors ⟨fg, bg, fl⟩).2 = B := ⟨_, rfl⟩
  unfold boxS
  simp only
  rw [hF, hB]
  obtain ⟨x4, hx4⟩ : ∃ x, w / 4 = x := ⟨_, rfl⟩
  obtain ⟨y4, hy4⟩ : ∃ x, h / 4 = x := ⟨_, rfl⟩
  obtain ⟨bw, hbw⟩ : ∃ x, (w + 1) / 2 = x := ⟨_, rfl⟩
  obtain ⟨bh, hbh⟩ : ∃ x, (h + 1) / 2 = x := ⟨_, rfl⟩
  obtain ⟨h2, hh2⟩ : ∃ x, h / 2 = x := ⟨_, rfl⟩
  obtain ⟨z8, hz8⟩ : ∃ z, bits .and .i64 fl 8 = z := ⟨_, rfl⟩
  obtain ⟨z128, hz128⟩ : ∃ z, bits .and .i64 fl 128 = z := ⟨_, rfl⟩
  unfold hasB
  simp only [hz8, hz128]
  rw [hx4, hy4, hbw, hbh, hh2]
  have bx4 : 0 ≤ x4 ∧ x4 ≤ 32 := by omega
  have by4 : 0 ≤ y4 ∧ y4 ≤ 16 := by omega
  have bbw : 1 ≤ bw ∧ bw ≤ 64 := by omega
  have bbh : 1 ≤ bh ∧ bh ≤ 32 := by omega
  have bh2 : 0 ≤ h2 ∧ h2 ≤ 32 := by omega
  have t1 : w.tdiv 4 = x4 := by rw [Int.tdiv_eq_ediv_of_nonneg (by omega)]; exact hx4
  have t2 : h.tdiv 4 = y4 := by rw [Int.tdiv_eq_ediv_of_nonneg (by omega)]; exact hy4
  have t3 : (w + 1).tdiv 2 = bw := by rw [Int.tdiv_eq_ediv_of_nonneg (by omega)]; exact hbw
  have t4 : (h + 1).tdiv 2 = bh := by rw [Int.tdiv_eq_ediv_of_nonneg (by omega)]; exact hbh
  have t5 : h.tdiv 2 = h2 := by rw [Int.tdiv_eq_ediv_of_nonneg (by omega)]; exact hh2
  have u1 : IntKind.i64.wrap x4 = x4 := IntWalk.i64_in _ (by omega)
  have u2 : IntKind.i64.wrap y4 = y4 := IntWalk.i64_in _ (by omega)
  have u3 : IntKind.i64.wrap bw = bw := IntWalk.i64_in _ (by omega)
  have u4 : IntKind.i64.wrap bh = bh := IntWalk.i64_in _ (by omega)
  have u5 : IntKind.i64.wrap h2 = h2 := IntWalk.i64_in _ (by omega)
  have u6 : IntKind.i64.wrap (w + 1) = w + 1 := IntWalk.i64_in _ (by omega)
  have u7 : IntKind.i64.wrap (h + 1) = h + 1 := IntWalk.i64_in _ (by omega)
  have u8 : IntKind.i64.wrap (h - 1) = h - 1 := IntWalk.i64_in _ (by omega)
  have u9 : IntKind.i64.wrap r = r := IntWalk.i64_in _ (by omega)
  obtain ⟨m1, hm1⟩ : ∃ m, r % bw = m := ⟨_, rfl⟩
  obtain ⟨m2, hm2⟩ : ∃ m, r / 256 % bh = m := ⟨_, rfl⟩
  have bm1 : 0 ≤ m1 ∧ m1 < 64 := by rw [← hm1]; exact ⟨Int.emod_nonneg _ (by omega), by have := Int.emod_lt_of_pos r (show 0 < bw by omega); omega⟩
  have bm2 : 0 ≤ m2 ∧ m2 < 32 := by rw [← hm2]; exact ⟨Int.emod_nonneg _ (by omega), by have := Int.emod_lt_of_pos (r / 256) (show 0 < bh by omega); omega⟩
  rw [hm1, hm2]
  obtain ⟨RES, hRES⟩ : ∃ X, (if (z128 != 0) = true then L 0 h2 w 1 F (if (z8 != 0) = true then L 0 (h - 1) w 1 F (if 32 < r then (if 2 < bw ∧ 2 < bh then L (x4 + m1) (y4 + m2) 1 1 B (L x4 y4 bw bh F P) else L x4 y4 bw bh F P) else P) else (if 32 < r then (if 2 < bw ∧ 2 < bh then L (x4 + m1) (y4 + m2) 1 1 B (L x4 y4 bw bh F P) else L x4 y4 bw bh F P) else P)) else (if (z8 != 0) = true then L 0 (h - 1) w 1 F (if 32 < r then (if 2 < bw ∧ 2 < bh then L (x4 + m1) (y4 + m2) 1 1 B (L x4 y4 bw bh F P) else L x4 y4 bw bh F P) else P) else (if 32 < r then (if 2 < bw ∧ 2 < bh then L (x4 + m1) (y4 + m2) 1 1 B (L x4 y4 bw bh F P) else L x4 y4 bw bh F P) else P))) = X := ⟨_, rfl⟩
  rw [hRES]
  have HRES := Lib.hid hRES
  have HM := Lib.hid (And.intro hm1 hm2)
  have HB := Lib.hid (And.intro hw (And.intro hh hr))
  clear hx4 hy4 hbw hbh hh2 hm1 hm2 hRES
  obtain ⟨W, hW⟩ : ∃ W, wd.alloc (.cells #[.int .i64 fg, .int .i64 bg, .int .i64 fl] 54) = W := ⟨_, rfl⟩
  have hkW : Kept (fun _ => False) wd W := by rw [← hW]; exact (Kept.refl _ _).alloc _
  have hbW : W.heap[wd.heap.size]? = some (.cells #[.int .i64 fg, .int .i64 bg, .int .i64 fl] 54 (0, 0)) := by rw [← hW]; exact blk_new _ _
  have HC := Lib.hid (show ∀ w, Calls Try.prog 45 #[.agg #[.int .i64 fg, .int .i64 bg, .int .i64 fl]] w fun e w' => e = .returned (.tuple #[.agg #[.int .u8 F.r, .int .u8 F.g, .int .u8 F.b], .agg #[.int .u8 B.r, .int .u8 B.g, .int .u8 B.b]]) ∧ Kept (fun _ => False) w w' from fun w => by have h := cols_any ⟨fg, bg, fl⟩ w; unfold ColsPost at h; rw [hF, hB] at h; exact h)
  have HL := Lib.hid (show ∀ (x y bw bh : Int) (c : Rgb) (P : List Int) (w : World), Sml x → Sml y → Sml bw → Sml bh → I P w →
    Calls Try.prog 49 #[.int .i64 x, .int .i64 y, .int .i64 bw, .int .i64 bh, .agg #[.int .u8 c.r, .int .u8 c.g, .int .u8 c.b, .int .u8 255], c0] w fun e w' => e = .returned (.tuple #[]) ∧ I (L x y bw bh c P) w' ∧ Kept S w w' from hlay)
  have HSO := Lib.hid (And.intro hIk (And.intro hS hI))
  obtain ⟨⟨a0, -⟩, ⟨a1, -⟩, a2, -⟩ := blk3 hbW
  have HW := Lib.hid (And.intro hkW hbW)
  clear hF hB hlay hIk hS hI hkW hbW hw hh hr
  unfold lookV
  go_enter Try.func48, Try.ntmps48
  go_wp2_with fail
  refine (HC.out _).mono ?_; rintro e w1 ⟨rfl, hk1⟩
  obtain ⟨V, hV⟩ : ∃ V, (w1.alloc (.cells #[.int .u8 F.r, .int .u8 F.g, .int .u8 F.b] 96)).alloc (.cells #[.int .u8 B.r, .int .u8 B.g, .int .u8 B.b] 96) = V := ⟨_, rfl⟩
  have kV : Kept (fun _ => False) w1 V := by rw [← hV]; exact ((Kept.refl _ _).alloc _).alloc _
  have v0 : V.heap[w1.heap.size]? = some (.cells #[.int .u8 F.r, .int .u8 F.g, .int .u8 F.b] 96 (0, 0)) := by rw [← hV]; exact blk_alloc (blk_new _ _) _
  have v1 : V.heap[w1.heap.size + 1]? = some (.cells #[.int .u8 B.r, .int .u8 B.g, .int .u8 B.b] 96 (0, 0)) := by rw [← hV]; exact blk_at _ _ (by simp)
  obtain ⟨WR, hWR⟩ : ∃ WR, WR = V.drew := ⟨_, rfl⟩
  have kR : Kept (fun _ => False) V WR := by rw [hWR]; exact (Kept.refl _ _).drew
  have HKR := Lib.hid (And.intro ((HW.out.1.then hk1).then (kV.then kR)) (((hk1.then (kV.then kR)).blk HW.out.2 id)))
  obtain ⟨⟨d0, -⟩, ⟨d1, -⟩, d2, -⟩ := blk3 (kR.blk v0 id)
  obtain ⟨⟨e0, -⟩, ⟨e1, -⟩, e2, -⟩ := blk3 (kR.blk v1 id)
  have X0 := cell_regrown d0
  have X1 := cell_regrown d1
  have X2 := cell_regrown d2
  have Y0 := cell_regrown e0
  have Y1 := cell_regrown e1
  have Y2 := cell_regrown e2
  have HSF := Lib.hid (show ∀ w, Calls Try.prog 47 #[.agg #[.int .u8 F.r, .int .u8 F.g, .int .u8 F.b]] w fun e w' => e = .returned (rgbaV F) ∧ Kept (fun _ => False) w w' from fun w => solid_any F w)
  have HSB := Lib.hid (show ∀ w, Calls Try.prog 47 #[.agg #[.int .u8 B.r, .int .u8 B.g, .int .u8 B.b]] w fun e w' => e = .returned (rgbaV B) ∧ Kept (fun _ => False) w w' from fun w => solid_any B w)
  obtain ⟨RF, hRF⟩ : ∃ R : Value → World → Prop, R = fun v _ => v = .agg #[.int .u8 F.r, .int .u8 F.g, .int .u8 F.b, .int .u8 255] := ⟨_, rfl⟩
  obtain ⟨RB, hRB⟩ : ∃ R : Value → World → Prop, R = fun v _ => v = .agg #[.int .u8 B.r, .int .u8 B.g, .int .u8 B.b, .int .u8 255] := ⟨_, rfl⟩
  obtain ⟨RA, hRA⟩ : ∃ R : Value → World → Prop, R = fun v w' => ∃ q, v = .pointer (some ⟨q, 0, none⟩) ∧ WR.heap.size ≤ q ∧ w'.heap.size = q + 1 ∧ w'.heap[q]? = some (.cells #[.int .u8 0, .int .u8 0, .int .u8 0, .int .u8 0] 66 (0, 0)) := ⟨_, rfl⟩
  have HRF := Lib.hid hRF
  have HRB := Lib.hid hRB
  have HRA := Lib.hid hRA
  have HWR := Lib.hid hWR
  clear hk1 kV v0 v1 kR d0 d1 d2 e0 e1 e2 hRF hRB hRA hWR a0 a1 a2
  go_wp2
  refine A2.wp_region_grow (fun i => i == 4 || i == 5) #[0, 1, 0, 7, 0, 0, 63, 127] 6 [] (fun i => if i = 1 then some RF else if i = 3 then some RB else if i = 4 then some RA else if i = 5 then some RA else none) (by kernel_rfl) rfl (by kernel_rfl) (fun i hi => by cases hi) (fun _ _ _ _ _ h => h) ?_
  rintro _ rfl
  rw [← HWR.out]
  simp only [List.take_succ_cons, List.take_zero, List.drop_succ_cons, List.drop_zero, A2.number, Nat.reduceAdd]
  refine A2.wpGrow_step (fun K hK => ?_); go_simp; refine hK _ _ ?_; clear hK K
  refine A2.wpGrow_step (fun K hK => ?_)
  go_simp
  refine ⟨fun w' hg => (HSF.out w').mono (fun e9 w'' ⟨he, hk⟩ => ⟨_, he, hk, by rw [HRF.out]; rfl⟩), fun v2 w2 hv2 hg2 _ => ?_⟩
  rw [HRF.out] at hv2
  subst hv2
  refine hK _ _ ?_; clear hK K
  refine A2.wpGrow_step (fun K hK => ?_); go_simp; refine hK _ _ ?_; clear hK K
  refine A2.wpGrow_step (fun K hK => ?_)
  go_simp
  refine ⟨fun w' hg => (HSB.out w').mono (fun e9 w'' ⟨he, hk⟩ => ⟨_, he, hk, by rw [HRB.out]; rfl⟩), fun v3 w3 hv3 hg3 _ => ?_⟩
  rw [HRB.out] at hv3
  subst hv3
  refine hK _ _ ?_; clear hK K
  refine A2.wpGrow_step (fun K hK => ?_)
  go_simp
  refine ⟨fun w' hg => ⟨(Kept.refl _ _).alloc _, by rw [HRA.out]; exact ⟨_, rfl, hg.old.size, by simp, blk_new _ _⟩⟩, fun v4 w4 hv4 hg4 _ => ?_⟩
  rw [HRA.out] at hv4
  obtain ⟨q4, rfl, hq4, hs4, hb4⟩ := hv4
  have HQ4 := Lib.hid (And.intro hq4 (And.intro hs4 hb4))
  clear hq4 hs4 hb4
  refine hK _ _ ?_; clear hK K
  refine A2.wpGrow_step (fun K hK => ?_)
  go_simp
  refine ⟨fun w' hg => ⟨(Kept.refl _ _).alloc _, by rw [HRA.out]; exact ⟨_, rfl, hg.old.size, by simp, blk_new _ _⟩⟩, fun v5 w5 hv5 hg5 hap => ?_⟩
  rw [HRA.out] at hv5
  obtain ⟨q5, rfl, hq5, hs5, hb5⟩ := hv5
  have hne : q4 ≠ q5 := by
    have h := (hap rfl).2 4 rfl (by decide)
    rw [A2.moment_self, HQ4.out.2.1, hs5] at h
    omega
  have HQ5 := Lib.hid (And.intro hq5 (And.intro hb5 hne))
  clear hq5 hs5 hb5 hne hap
  refine hK _ _ ?_; clear hK K
  refine A2.wpGrow_nil ?_
  intro w6 hk6 hω
  have c4 : w6.heap[q4]? = some (.cells #[.int .u8 0, .int .u8 0, .int .u8 0, .int .u8 0] 66 (0, 0)) := (show Kept (fun _ => False) w4 w6 from hω 4).blk HQ4.out.2.2 id
  have c5 : w6.heap[q5]? = some (.cells #[.int .u8 0, .int .u8 0, .int .u8 0, .int .u8 0] 66 (0, 0)) := (show Kept (fun _ => False) w5 w6 from hω 5).blk HQ5.out.2.1 id
  obtain ⟨U1, U2, U3, U4, f1, f2, f3, f4, ⟨g0, g0'⟩, ⟨g1, g1'⟩, ⟨g2, g2'⟩, ⟨g3, g3'⟩, bU, kU⟩ := store4 c4 (.int .u8 F.r) (.int .u8 F.g) (.int .u8 F.b) (.int .u8 255)
  have c5' := kU.blk c5 (fun (h : q5 = q4) => HQ5.out.2.2 h.symm)
  obtain ⟨T1, T2, T3, T4, i1, i2, i3, i4, ⟨j0, j0'⟩, ⟨j1, j1'⟩, ⟨j2, j2'⟩, ⟨j3, j3'⟩, bT, kT⟩ := store4 c5' (.int .u8 B.r) (.int .u8 B.g) (.int .u8 B.b) (.int .u8 255)
  have hzz : wd.heap.size + 1 ≤ WR.heap.size := by have h := lt_of_blk HKR.out.2; omega
  have hkT : Kept (fun i => i = q4 ∨ i = q5) w6 T4 := (kU.mono (fun _ _ h => .inl h)).then (kT.mono (fun _ _ h => .inr h))
  have hkT0 : Kept (fun _ => False) wd T4 := (HKR.out.1.then hk6).trans (hkT.mono fun i _ hi => Or.inr (by have h4 := HQ4.out.1; have h5 := HQ5.out.1; rcases hi with h | h <;> omega))
  have HB0 := Lib.hid (show BoxI S I wd fg bg fl q4 q5 F B P T4 from ⟨HSO.out.1 _ _ _ HSO.out.2.2 hkT0, hkT0.mono (fun _ _ h => h.elim), hkT.blk (hk6.blk HKR.out.2 id) (fun hi => by have h4 := HQ4.out.1; have h5 := HQ5.out.1; rcases hi with h | h <;> omega), kT.blk bU (fun (h : q4 = q5) => HQ5.out.2.2 h), bT, by have h4 := HQ4.out.1; have h5 := HQ5.out.1; omega⟩)
  clear hω hk6 c4 c5 c5' bU kU bT kT hzz hkT hkT0 X0 X1 X2 Y0 Y1 Y2
  obtain ⟨⟨n0a0, -⟩, ⟨n0a1, -⟩, n0a2, -⟩ := blk3 HB0.out.a
  obtain ⟨⟨x0f0, -⟩, ⟨x0f1, -⟩, ⟨x0f2, -⟩, x0f3, -⟩ := blk4 HB0.out.f
  obtain ⟨⟨x0b0, -⟩, ⟨x0b1, -⟩, ⟨x0b2, -⟩, x0b3, -⟩ := blk4 HB0.out.b
  by_cases c32 : 32 < r
  · have g32 : decide (32 < r) = true := decide_eq_true c32
    have HC32 := Lib.hid c32
    clear c32
    go_wp2_with fail
    refine (HL.out x4 y4 bw bh F _ _ (by unfold Sml; omega) (by unfold Sml; omega) (by unfold Sml; omega) (by unfold Sml; omega) HB0.out.i).mono ?_
    rintro e w7 ⟨rfl, hi7, hk7⟩
    have HB7 := Lib.hid (HB0.out.lay HSO.out.2.1 hi7 hk7)
    clear hi7 hk7
    clear n0a0 n0a1 n0a2 x0f0 x0f1 x0f2 x0f3 x0b0 x0b1 x0b2 x0b3
    obtain ⟨⟨n7a0, -⟩, ⟨n7a1, -⟩, n7a2, -⟩ := blk3 HB7.out.a
    obtain ⟨⟨n7f0, -⟩, ⟨n7f1, -⟩, ⟨n7f2, -⟩, n7f3, -⟩ := blk4 HB7.out.f
    obtain ⟨⟨n7b0, -⟩, ⟨n7b1, -⟩, ⟨n7b2, -⟩, n7b3, -⟩ := blk4 HB7.out.b
    have hc32 := HC32.out
    have r1 : r.tmod bw = m1 := by rw [Int.tmod_eq_emod_of_nonneg (by omega)]; exact HM.out.1
    have r2 : r.tdiv 256 = r / 256 := by rw [Int.tdiv_eq_ediv_of_nonneg (by omega)]
    have r3 : (r / 256).tmod bh = m2 := by rw [Int.tmod_eq_emod_of_nonneg (by omega)]; exact HM.out.2
    clear hc32
    by_cases cb : 2 < bw ∧ 2 < bh
    · obtain ⟨cbw, cbh⟩ := cb
      have gbw : decide (2 < bw) = true := decide_eq_true cbw
      have gbh : decide (2 < bh) = true := decide_eq_true cbh
      have HCB := Lib.hid (And.intro cbw cbh)
      obtain ⟨rq, hrq⟩ : ∃ x, r / 256 = x := ⟨_, rfl⟩
      rw [hrq] at r2 r3
      have s1 : IntKind.i64.wrap m1 = m1 := IntWalk.i64_in _ (by omega)
      have s2 : IntKind.i64.wrap rq = rq := IntWalk.i64_in _ (by have := HB.out; have := HC32.out; omega)
      have s3 : IntKind.i64.wrap m2 = m2 := IntWalk.i64_in _ (by omega)
      have s4 : IntKind.i64.wrap (x4 + m1) = x4 + m1 := IntWalk.i64_in _ (by omega)
      have s5 : IntKind.i64.wrap (y4 + m2) = y4 + m2 := IntWalk.i64_in _ (by omega)
      have zb1 : (bw == 0) = false := by simp; omega
      have zb2 : (bh == 0) = false := by simp; omega
      have zb3 : ¬ bw = 0 := by omega
      have zb4 : ¬ bh = 0 := by omega
      have s6 : IntKind.i64.wrap 256 = 256 := IntWalk.i64_in _ (by omega)
      clear hrq
      go_wp2
      have HB7D := Lib.hid (HB7.out.kept HSO.out.1 ((Kept.refl (fun _ => False) w7).drew))
      go_still_tail 15, (by kernel_rfl)
      change wpList _ _ _ _ _ w7.drew
      clear s1 s2 s3 s4 s5 zb1 zb2 zb3 zb4 r1 r2 r3 s6 gbw gbh
      clear n7a0 n7a1 n7a2 n7f0 n7f1 n7f2 n7f3 n7b0 n7b1 n7b2 n7b3
      obtain ⟨WD, hWD⟩ : ∃ WD, w7.drew = WD := ⟨_, rfl⟩
      rw [hWD] at HB7D
      rw [hWD]
      obtain ⟨⟨nda0, -⟩, ⟨nda1, -⟩, nda2, -⟩ := blk3 HB7D.out.a
      obtain ⟨⟨ndf0, -⟩, ⟨ndf1, -⟩, ⟨ndf2, -⟩, ndf3, -⟩ := blk4 HB7D.out.f
      obtain ⟨⟨ndb0, -⟩, ⟨ndb1, -⟩, ⟨ndb2, -⟩, ndb3, -⟩ := blk4 HB7D.out.b
      go_wp2_with fail
      refine (HL.out (x4 + m1) (y4 + m2) 1 1 B _ _ (by unfold Sml; omega) (by unfold Sml; omega) (by unfold Sml; omega) (by unfold Sml; omega) HB7D.out.i).mono ?_
      rintro e wA ⟨rfl, hiA, hkA⟩
      have HBA := Lib.hid (HB7D.out.lay HSO.out.2.1 hiA hkA)
      clear hiA hkA
      clear nda0 nda1 nda2 ndf0 ndf1 ndf2 ndf3 ndb0 ndb1 ndb2 ndb3
      obtain ⟨⟨nAa0, -⟩, ⟨nAa1, -⟩, nAa2, -⟩ := blk3 HBA.out.a
      obtain ⟨⟨nAf0, -⟩, ⟨nAf1, -⟩, ⟨nAf2, -⟩, nAf3, -⟩ := blk4 HBA.out.f
      obtain ⟨⟨nAb0, -⟩, ⟨nAb1, -⟩, ⟨nAb2, -⟩, nAb3, -⟩ := blk4 HBA.out.b
      cases g8 : (z8 != 0) with
      | true =>
        go_wp2_with fail
        refine (HL.out 0 (h - 1) w 1 F _ _ (by unfold Sml; omega) (by unfold Sml; have := HB.out; omega) (by unfold Sml; have := HB.out; omega) (by unfold Sml; omega) HBA.out.i).mono ?_
        rintro e w8 ⟨rfl, hi8, hk8⟩
        have HB8 := Lib.hid (HBA.out.lay HSO.out.2.1 hi8 hk8)
        clear hi8 hk8
        clear nAa0 nAa1 nAa2 nAf0 nAf1 nAf2 nAf3 nAb0 nAb1 nAb2 nAb3
        obtain ⟨⟨n8a0, -⟩, ⟨n8a1, -⟩, n8a2, -⟩ := blk3 HB8.out.a
        obtain ⟨⟨n8f0, -⟩, ⟨n8f1, -⟩, ⟨n8f2, -⟩, n8f3, -⟩ := blk4 HB8.out.f
        obtain ⟨⟨n8b0, -⟩, ⟨n8b1, -⟩, ⟨n8b2, -⟩, n8b3, -⟩ := blk4 HB8.out.b
        cases g128 : (z128 != 0) with
        | true =>
          go_wp2_with fail
          refine (HL.out 0 h2 w 1 F _ _ (by unfold Sml; omega) (by unfold Sml; omega) (by unfold Sml; have := HB.out; omega) (by unfold Sml; omega) HB8.out.i).mono ?_
          rintro e w9 ⟨rfl, hi9, hk9⟩
          have HB9 := Lib.hid (HB8.out.lay HSO.out.2.1 hi9 hk9)
          clear hi9 hk9
          clear n8a0 n8a1 n8a2 n8f0 n8f1 n8f2 n8f3 n8b0 n8b1 n8b2 n8b3
          go_wp2
          go_end0
          exact ⟨rfl, by rw [← HRES.out, if_pos HC32.out, if_pos HCB.out, g8, if_pos rfl, g128, if_pos rfl]; exact HB9.out.i, HB9.out.k⟩
        | false =>
          go_wp2
          go_end0
          exact ⟨rfl, by rw [← HRES.out, if_pos HC32.out, if_pos HCB.out, g8, if_pos rfl, g128, if_neg Bool.false_ne_true]; exact HB8.out.i, HB8.out.k⟩
      | false =>
        cases g128 : (z128 != 0) with
        | true =>
          go_wp2_with fail
          refine (HL.out 0 h2 w 1 F _ _ (by unfold Sml; omega) (by unfold Sml; omega) (by unfold Sml; have := HB.out; omega) (by unfold Sml; omega) HBA.out.i).mono ?_
          rintro e w9 ⟨rfl, hi9, hk9⟩
          have HB9 := Lib.hid (HBA.out.lay HSO.out.2.1 hi9 hk9)
          clear hi9 hk9
          clear nAa0 nAa1 nAa2 nAf0 nAf1 nAf2 nAf3 nAb0 nAb1 nAb2 nAb3
          go_wp2
          go_end0
          exact ⟨rfl, by rw [← HRES.out, if_pos HC32.out, if_pos HCB.out, g8, if_neg Bool.false_ne_true, g128, if_pos rfl]; exact HB9.out.i, HB9.out.k⟩
        | false =>
          go_wp2
          go_end0
          exact ⟨rfl, by rw [← HRES.out, if_pos HC32.out, if_pos HCB.out, g8, if_neg Bool.false_ne_true, g128, if_neg Bool.false_ne_true]; exact HBA.out.i, HBA.out.k⟩
    · have HCB := Lib.hid cb
      clear r1 r2 r3
      by_cases cbw : 2 < bw
      · have gbw : decide (2 < bw) = true := decide_eq_true cbw
        have cbh : ¬ 2 < bh := fun h => cb ⟨cbw, h⟩
        have gbh : decide (2 < bh) = false := decide_eq_false cbh
        clear cb
        cases g8 : (z8 != 0) with
        | true =>
          go_wp2_with fail
          refine (HL.out 0 (h - 1) w 1 F _ _ (by unfold Sml; omega) (by unfold Sml; have := HB.out; omega) (by unfold Sml; have := HB.out; omega) (by unfold Sml; omega) HB7.out.i).mono ?_
          rintro e w8 ⟨rfl, hi8, hk8⟩
          have HB8 := Lib.hid (HB7.out.lay HSO.out.2.1 hi8 hk8)
          clear hi8 hk8
          clear n7a0 n7a1 n7a2 n7f0 n7f1 n7f2 n7f3 n7b0 n7b1 n7b2 n7b3
          obtain ⟨⟨n8a0, -⟩, ⟨n8a1, -⟩, n8a2, -⟩ := blk3 HB8.out.a
          obtain ⟨⟨n8f0, -⟩, ⟨n8f1, -⟩, ⟨n8f2, -⟩, n8f3, -⟩ := blk4 HB8.out.f
          obtain ⟨⟨n8b0, -⟩, ⟨n8b1, -⟩, ⟨n8b2, -⟩, n8b3, -⟩ := blk4 HB8.out.b
          cases g128 : (z128 != 0) with
          | true =>
            go_wp2_with fail
            refine (HL.out 0 h2 w 1 F _ _ (by unfold Sml; omega) (by unfold Sml; omega) (by unfold Sml; have := HB.out; omega) (by unfold Sml; omega) HB8.out.i).mono ?_
            rintro e w9 ⟨rfl, hi9, hk9⟩
            have HB9 := Lib.hid (HB8.out.lay HSO.out.2.1 hi9 hk9)
            clear hi9 hk9
            clear n8a0 n8a1 n8a2 n8f0 n8f1 n8f2 n8f3 n8b0 n8b1 n8b2 n8b3
            go_wp2
            go_end0
            exact ⟨rfl, by rw [← HRES.out, if_pos HC32.out, if_neg HCB.out, g8, if_pos rfl, g128, if_pos rfl]; exact HB9.out.i, HB9.out.k⟩
          | false =>
            go_wp2
            go_end0
            exact ⟨rfl, by rw [← HRES.out, if_pos HC32.out, if_neg HCB.out, g8, if_pos rfl, g128, if_neg Bool.false_ne_true]; exact HB8.out.i, HB8.out.k⟩
        | false =>
          cases g128 : (z128 != 0) with
          | true =>
            go_wp2_with fail
            refine (HL.out 0 h2 w 1 F _ _ (by unfold Sml; omega) (by unfold Sml; omega) (by unfold Sml; have := HB.out; omega) (by unfold Sml; omega) HB7.out.i).mono ?_
            rintro e w9 ⟨rfl, hi9, hk9⟩
            have HB9 := Lib.hid (HB7.out.lay HSO.out.2.1 hi9 hk9)
            clear hi9 hk9
            clear n7a0 n7a1 n7a2 n7f0 n7f1 n7f2 n7f3 n7b0 n7b1 n7b2 n7b3
            go_wp2
            go_end0
            exact ⟨rfl, by rw [← HRES.out, if_pos HC32.out, if_neg HCB.out, g8, if_neg Bool.false_ne_true, g128, if_pos rfl]; exact HB9.out.i, HB9.out.k⟩
          | false =>
            go_wp2
            go_end0
            exact ⟨rfl, by rw [← HRES.out, if_pos HC32.out, if_neg HCB.out, g8, if_neg Bool.false_ne_true, g128, if_neg Bool.false_ne_true]; exact HB7.out.i, HB7.out.k⟩
      · have gbw : decide (2 < bw) = false := decide_eq_false cbw
        clear cb
        cases g8 : (z8 != 0) with
        | true =>
          go_wp2_with fail
          refine (HL.out 0 (h - 1) w 1 F _ _ (by unfold Sml; omega) (by unfold Sml; have := HB.out; omega) (by unfold Sml; have := HB.out; omega) (by unfold Sml; omega) HB7.out.i).mono ?_
          rintro e w8 ⟨rfl, hi8, hk8⟩
          have HB8 := Lib.hid (HB7.out.lay HSO.out.2.1 hi8 hk8)
          clear hi8 hk8
          clear n7a0 n7a1 n7a2 n7f0 n7f1 n7f2 n7f3 n7b0 n7b1 n7b2 n7b3
          obtain ⟨⟨n8a0, -⟩, ⟨n8a1, -⟩, n8a2, -⟩ := blk3 HB8.out.a
          obtain ⟨⟨n8f0, -⟩, ⟨n8f1, -⟩, ⟨n8f2, -⟩, n8f3, -⟩ := blk4 HB8.out.f
          obtain ⟨⟨n8b0, -⟩, ⟨n8b1, -⟩, ⟨n8b2, -⟩, n8b3, -⟩ := blk4 HB8.out.b
          cases g128 : (z128 != 0) with
          | true =>
            go_wp2_with fail
            refine (HL.out 0 h2 w 1 F _ _ (by unfold Sml; omega) (by unfold Sml; omega) (by unfold Sml; have := HB.out; omega) (by unfold Sml; omega) HB8.out.i).mono ?_
            rintro e w9 ⟨rfl, hi9, hk9⟩
            have HB9 := Lib.hid (HB8.out.lay HSO.out.2.1 hi9 hk9)
            clear hi9 hk9
            clear n8a0 n8a1 n8a2 n8f0 n8f1 n8f2 n8f3 n8b0 n8b1 n8b2 n8b3
            go_wp2
            go_end0
            exact ⟨rfl, by rw [← HRES.out, if_pos HC32.out, if_neg HCB.out, g8, if_pos rfl, g128, if_pos rfl]; exact HB9.out.i, HB9.out.k⟩
          | false =>
            go_wp2
            go_end0
            exact ⟨rfl, by rw [← HRES.out, if_pos HC32.out, if_neg HCB.out, g8, if_pos rfl, g128, if_neg Bool.false_ne_true]; exact HB8.out.i, HB8.out.k⟩
        | false =>
          cases g128 : (z128 != 0) with
          | true =>
            go_wp2_with fail
            refine (HL.out 0 h2 w 1 F _ _ (by unfold Sml; omega) (by unfold Sml; omega) (by unfold Sml; have := HB.out; omega) (by unfold Sml; omega) HB7.out.i).mono ?_
            rintro e w9 ⟨rfl, hi9, hk9⟩
            have HB9 := Lib.hid (HB7.out.lay HSO.out.2.1 hi9 hk9)
            clear hi9 hk9
            clear n7a0 n7a1 n7a2 n7f0 n7f1 n7f2 n7f3 n7b0 n7b1 n7b2 n7b3
            go_wp2
            go_end0
            exact ⟨rfl, by rw [← HRES.out, if_pos HC32.out, if_neg HCB.out, g8, if_neg Bool.false_ne_true, g128, if_pos rfl]; exact HB9.out.i, HB9.out.k⟩
          | false =>
            go_wp2
            go_end0
            exact ⟨rfl, by rw [← HRES.out, if_pos HC32.out, if_neg HCB.out, g8, if_neg Bool.false_ne_true, g128, if_neg Bool.false_ne_true]; exact HB7.out.i, HB7.out.k⟩
  · have g32 : decide (32 < r) = false := decide_eq_false c32
    have HC32 := Lib.hid c32
    clear c32
    cases g8 : (z8 != 0) with
    | true =>
      go_wp2_with fail
      refine (HL.out 0 (h - 1) w 1 F _ _ (by unfold Sml; omega) (by unfold Sml; have := HB.out; omega) (by unfold Sml; have := HB.out; omega) (by unfold Sml; omega) HB0.out.i).mono ?_
      rintro e w8 ⟨rfl, hi8, hk8⟩
      have HB8 := Lib.hid (HB0.out.lay HSO.out.2.1 hi8 hk8)
      clear hi8 hk8
      clear n0a0 n0a1 n0a2 x0f0 x0f1 x0f2 x0f3 x0b0 x0b1 x0b2 x0b3
      obtain ⟨⟨n8a0, -⟩, ⟨n8a1, -⟩, n8a2, -⟩ := blk3 HB8.out.a
      obtain ⟨⟨n8f0, -⟩, ⟨n8f1, -⟩, ⟨n8f2, -⟩, n8f3, -⟩ := blk4 HB8.out.f
      obtain ⟨⟨n8b0, -⟩, ⟨n8b1, -⟩, ⟨n8b2, -⟩, n8b3, -⟩ := blk4 HB8.out.b
      cases g128 : (z128 != 0) with
      | true =>
        go_wp2_with fail
        refine (HL.out 0 h2 w 1 F _ _ (by unfold Sml; omega) (by unfold Sml; omega) (by unfold Sml; have := HB.out; omega) (by unfold Sml; omega) HB8.out.i).mono ?_
        rintro e w9 ⟨rfl, hi9, hk9⟩
        have HB9 := Lib.hid (HB8.out.lay HSO.out.2.1 hi9 hk9)
        clear hi9 hk9
        clear n8a0 n8a1 n8a2 n8f0 n8f1 n8f2 n8f3 n8b0 n8b1 n8b2 n8b3
        go_wp2
        go_end0
        exact ⟨rfl, by rw [← HRES.out, if_neg (Int.not_lt.2 HC32.out), g8, if_pos rfl, g128, if_pos rfl]; exact HB9.out.i, HB9.out.k⟩
      | false =>
        go_wp2
        go_end0
        exact ⟨rfl, by rw [← HRES.out, if_neg (Int.not_lt.2 HC32.out), g8, if_pos rfl, g128, if_neg Bool.false_ne_true]; exact HB8.out.i, HB8.out.k⟩
    | false =>
      cases g128 : (z128 != 0) with
      | true =>
        go_wp2_with fail
        refine (HL.out 0 h2 w 1 F _ _ (by unfold Sml; omega) (by unfold Sml; omega) (by unfold Sml; have := HB.out; omega) (by unfold Sml; omega) HB0.out.i).mono ?_
        rintro e w9 ⟨rfl, hi9, hk9⟩
        have HB9 := Lib.hid (HB0.out.lay HSO.out.2.1 hi9 hk9)
        clear hi9 hk9
        clear n0a0 n0a1 n0a2 x0f0 x0f1 x0f2 x0f3 x0b0 x0b1 x0b2 x0b3
        go_wp2
        go_end0
        exact ⟨rfl, by rw [← HRES.out, if_neg (Int.not_lt.2 HC32.out), g8, if_neg Bool.false_ne_true, g128, if_pos rfl]; exact HB9.out.i, HB9.out.k⟩
      | false =>
        go_wp2
        go_end0
        exact ⟨rfl, by rw [← HRES.out, if_neg (Int.not_lt.2 HC32.out), g8, if_neg Bool.false_ne_true, g128, if_neg Bool.false_ne_true]; exact HB0.out.i, HB0.out.k⟩
end Go.Proofs.Ytdjgmhbfohbenaa
