/- The document's Fit and Draw, of greater matrices. -/
import Derived.Test.YtdjgmhbfohbenaaRFit
namespace Go.Proofs.Ytdjgmhbfohbenaa
open Go.RowKit Go.Sort
set_option linter.unusedVariables false
set_option linter.unusedSimpArgs false
attribute [local go_sem] growOp growUpon sameUpon
set_option maxRecDepth 100000 in
set_option maxHeartbeats 8000000 in
theorem rfitG_yes (W H MW MH : Nat) (p : List Int) (a : Option Addr) (n cap : Nat) (w : World) (hs : sizeB W H = true) (hz : (W = 0 ↔ MW = 0)) (hr : rightM ⟨MW, MH, p⟩ = true) (hx : SlAt .u8 w a n p) (hWH : W * H ≤ 16777216) :
    Calls Try.prog 68 #[.agg #[.int .i64 MW, .int .i64 MH, .slice a n cap], .int .i64 W, .int .i64 H] w fun e w' =>
      ∃ g k : Nat, k = 4 * (W * H) ∧ e = .returned (.tuple #[mat W H (some ⟨g, 0, none⟩) k k, .int .i64 0]) ∧ w.heap.size ≤ g ∧ Own .u8 5 w' (.slice (some ⟨g, 0, none⟩) k k) (tab k (fitF W H MW MH p)) ∧ Kept (fun _ => False) w w' := by
  obtain ⟨a1, a2, a3, a4, a5, a6, a7⟩ := sizeB_t hs
  have hr2 := hr
  unfold rightM at hr2
  rw [Bool.and_eq_true] at hr2
  have hr3 : sizeB MW MH = true := hr2.1
  have hr4 : decide ((p.length : Int) = 4 * (MW : Int) * (MH : Int)) = true := hr2.2
  obtain ⟨b1, b2, b3, b4, b5, b6, b7⟩ := sizeB_t hr3
  have hr5 : (p.length : Int) = 4 * (MW : Int) * (MH : Int) := of_decide_eq_true hr4
  have hwh : (W : Int) * (H : Int) = ((W * H : Nat) : Int) := by simp
  have hmm : (MW : Int) * (MH : Int) = ((MW * MH : Nat) : Int) := by simp
  rw [Int.mul_assoc, hmm] at hr5
  have HN := Lib.hid (show n = 4 * (MW * MH) by have h := hx.1; omega)
  have HNM := Lib.hid (show MW * MH ≤ 67108864 by rw [hmm] at b6; omega)
  obtain ⟨M, hM⟩ : ∃ M, W * H = M := ⟨_, rfl⟩
  rw [hM] at hwh hWH
  have e6 : 4 * (W : Int) * (H : Int) = 4 * (M : Int) := by rw [Int.mul_assoc, hwh]
  have c1 : W ≤ 16384 := by omega
  have c2 : H ≤ 16384 := by omega
  have c3 : MW ≤ 16384 := by omega
  have c4 : MH ≤ 16384 := by omega
  have HX := Lib.hid hx
  have HM := Lib.hid hM
  have HZ := Lib.hid (show (W = 0 → MW = 0) ∧ (1 ≤ W → 1 ≤ H ∧ 1 ≤ MW ∧ 1 ≤ MH) from ⟨hz.1, fun h => by
    have : ¬ MW = 0 := fun h2 => by have := hz.2 h2; omega
    omega⟩)
  have gz : ((W : Int) == 0) = ((MW : Int) == 0) := by
    by_cases h : W = 0
    · have h2 := hz.1 h; simp [h, h2]
    · have h2 : ¬ MW = 0 := fun h2 => h (hz.2 h2)
      have e1 : ((W : Int) == 0) = false := by simp; omega
      have e2 : ((MW : Int) == 0) = false := by simp; omega
      rw [e1, e2]
  have HSZ := Lib.hid (fun wd => show Calls Try.prog 51 #[.int .i64 W, .int .i64 H] wd fun e w' => e = .returned (.bool true) ∧ wd = w' from by have h := refSize_any W H wd (by omega) (by omega); rw [hs] at h; exact h)
  obtain ⟨U, hU⟩ : ∃ V, (w.alloc (.cells #[.int .i64 MW, .int .i64 MH, .slice a n cap] 35)).alloc (.cells #[.int .i64 0, .int .i64 0, .slice none 0 0] 35) = V := ⟨_, rfl⟩
  have kU : Kept (fun _ => False) w U := by rw [← hU]; exact ((Kept.refl _ w).alloc _).alloc _
  have HB0 := Lib.hid (show U.heap[w.heap.size]? = some (.cells #[.int .i64 MW, .int .i64 MH, .slice a n cap] 35 (0, 0)) by rw [← hU]; exact blk_alloc (blk_new _ _) _)
  have HB1 := Lib.hid (show U.heap[w.heap.size + 1]? = some (.cells #[.int .i64 0, .int .i64 0, .slice none 0 0] 35 (0, 0)) by rw [← hU]; exact blk_at _ _ (by simp))
  have sU : w.heap.size + 2 = U.heap.size := by rw [← hU]; simp
  have HK := Lib.hid kU
  obtain ⟨⟨x0, -⟩, ⟨x1, -⟩, x2, -⟩ := blk3 HB0.out
  obtain ⟨i0, hi, hz0, hz1, hz2⟩ := info_parts Try.info5
  have HI := Lib.hid (And.intro hi (And.intro hz0 (And.intro hz1 hz2)))
  obtain ⟨z, hzz⟩ : ∃ z : List Int, List.replicate (4 * M) 0 = z := ⟨_, rfl⟩
  have HZZ := Lib.hid hzz
  have HST := Lib.hid (show tab (4 * M) (fitK W H MW MH p (0 * W)) = z from by rw [← hzz, tab_zero]; exact tab_ext (fun j _ => by simp [fitK]))
  clear hs hz hr hr2 hr3 hr4 hr5 hx hwh hmm a1 a2 a3 a4 a5 a6 a7 b1 b2 b3 b4 b5 b6 b7 hM hzz kU hi hz0 hz1 hz2
  go_enter Try.func68, Try.ntmps68
  go_wp2_with (first
    | (go_at_call 51; refine (HSZ.out _).mono ?_; rintro e w' ⟨rfl, rfl⟩)
    | (refine wpList_makeInts rfl (.tmp 31) (.tmp 31) 29 rfl 5 .u8 i0 1 Try.underlying29 HI.out.1 HI.out.2.1 HI.out.2.2.1 HI.out.2.2.2 .i64 .i64 _ _ (4 * M) rfl rfl (by simp) (by simp) (by omega) (by simp [maxLen]; omega) ?_; intro w2 ho2 hk2 hs2; rw [HZZ.out] at ho2; have hk02 := Lib.hid (HK.out.then hk2); have HO2 := Lib.hid ho2; have HB02 := Lib.hid (hk2.blk HB0.out id); have HB12 := Lib.hid (hk2.blk HB1.out id); obtain ⟨P9, hP9⟩ : ∃ P, w2.heap.size = P := ⟨_, rfl⟩; have hP9l : U.heap.size < P9 := (by omega); obtain ⟨X, hX⟩ : ∃ X, w2.alloc (.cells #[.int .i64 0, .int .i64 0, .slice none 0 0] 35) = X := ⟨_, rfl⟩; have kX : Kept (fun _ => False) w2 X := (by rw [← hX]; exact (Kept.refl _ _).alloc _); have bX : X.heap[P9]? = some (.cells #[.int .i64 0, .int .i64 0, .slice none 0 0] 35 (0, 0)) := (by rw [← hX]; exact blk_at _ _ hP9.symm); obtain ⟨V1, V2, V3, f1, f2, f3, ⟨g0, g0'⟩, ⟨g1, g1'⟩, ⟨g2, g2'⟩, bV, kV3⟩ := store3 bX (.int .i64 W) (.int .i64 H) (.slice (some ⟨U.heap.size, 0, none⟩) (4 * M) (4 * M)); have hinv : RcInv w 35 MW MH a n cap P9 W H U.heap.size (4 * M) z V3 := ⟨(HO2.out.kept kX (fun _ _ => id)).kept kV3 (fun b hb (hS : b = P9) => by have h9 : U.heap.size = b := Option.some.inj hb; omega), ((HK.out.then hk2).then kX).trans (kV3.mono fun i _ hi => Or.inr (by have h9 : i = P9 := hi; omega)), kV3.blk (kX.blk HB02.out id) (fun (h : w.heap.size = P9) => by omega), kV3.blk (kX.blk HB12.out id) (fun (h : w.heap.size + 1 = P9) => by omega), bV⟩; have HINV := Lib.hid hinv; clear ho2 hk2 kX bX bV kV3 hinv x0 x1 x2))
  have hG : w.heap.size + 2 ≤ U.heap.size := by omega
  obtain ⟨g, hg⟩ : ∃ g, U.heap.size = g := ⟨_, rfl⟩
  rw [hg] at HINV hG hP9l
  clear hg hU hX f1 f2 f3 g0 g0' g1 g1' g2 g2' hP9 hs2 sU
  go_loopg [9, 10, 11, 12] H (fun gg yv _ _ _ wr => ∃ y : Nat, H ≤ gg + y ∧ y ≤ H ∧ yv = .int .i64 (y : Int) ∧ RcInv w 35 MW MH a n cap P9 W H g (4 * M) (tab (4 * M) (fitK W H MW MH p (y * W))) wr)
  case atStart => exact ⟨0, by omega, by omega, rfl, by rw [HST.out]; exact HINV.out⟩
  case round =>
    obtain ⟨y, hgg, hyH', rfl, hinv⟩ := hrel
    by_cases hyH : y < H
    · have gy : decide (y < H) = true := decide_eq_true hyH
      have HI := Lib.hid hinv
      obtain ⟨gko, hgo⟩ : ∃ x, x = gk := ⟨_, rfl⟩
      subst hgo
      clear hinv
      go_wp2
      go_loopg [10, 11, 12] W (fun gg xv _ _ wr => ∃ x : Nat, W ≤ gg + x ∧ x ≤ W ∧ xv = .int .i64 (x : Int) ∧ RcInv w 35 MW MH a n cap P9 W H g (4 * M) (tab (4 * M) (fitK W H MW MH p (y * W + x))) wr)
      case atStart => exact ⟨0, by omega, by omega, rfl, HI.out⟩
      case round =>
        obtain ⟨x, hgx, hxW', rfl, hinv⟩ := hrel
        by_cases hxW : x < W
        · have gx : decide (x < W) = true := decide_eq_true hxW
          obtain ⟨z1, z2, z3⟩ := HZ.out.2 (by omega)
          have hP := fit_idx hxW hyH
          rw [HM.out] at hP
          obtain ⟨hsrc, hQ⟩ := fit_src hxW hyH (show 0 < MW by omega) (show 0 < MH by omega)
          have d1 := div_lt hyH (show 0 < MH by omega)
          have d2 := div_lt hxW (show 0 < MW by omega)
          have n2 : y * MH ≤ 16384 * 16384 := Nat.mul_le_mul (by omega) (by omega)
          have n3 : x * MW ≤ 16384 * 16384 := Nat.mul_le_mul (by omega) (by omega)
          obtain ⟨q1, hq1⟩ : ∃ q, y * MH = q := ⟨_, rfl⟩
          obtain ⟨q2, hq2⟩ : ∃ q, q1 / H = q := ⟨_, rfl⟩
          obtain ⟨q4, hq4⟩ : ∃ q, x * MW = q := ⟨_, rfl⟩
          obtain ⟨q5, hq5⟩ : ∃ q, q4 / W = q := ⟨_, rfl⟩
          rw [hq1, hq2, hq4, hq5] at hsrc hQ
          rw [hq1] at n2 d1
          rw [hq2] at d1
          rw [hq4] at n3 d2
          rw [hq5] at d2
          have v4 : IntKind.i64.wrap ((y : Int) * (MH : Int)) = (q1 : Int) := by rw [show (y : Int) * (MH : Int) = (q1 : Int) by rw [← hq1]; simp]; exact IntWalk.i64_in _ (by omega)
          have v5 : (q1 : Int).tdiv (H : Int) = (q2 : Int) := by rw [Int.tdiv_eq_ediv_of_nonneg (by omega)]; omega
          have v5' : IntKind.i64.wrap (q2 : Int) = (q2 : Int) := IntWalk.i64_in _ (by omega)
          have v7 : IntKind.i64.wrap ((x : Int) * (MW : Int)) = (q4 : Int) := by rw [show (x : Int) * (MW : Int) = (q4 : Int) by rw [← hq4]; simp]; exact IntWalk.i64_in _ (by omega)
          have v8 : (q4 : Int).tdiv (W : Int) = (q5 : Int) := by rw [Int.tdiv_eq_ediv_of_nonneg (by omega)]; omega
          have v8' : IntKind.i64.wrap (q5 : Int) = (q5 : Int) := IntWalk.i64_in _ (by omega)
          have w1' : ((H : Int) == 0) = false := by simp; omega
          have w2' : ((W : Int) == 0) = false := by simp; omega
          have w3' : ¬ (H : Int) = 0 := by omega
          have w5' : ¬ H = 0 := by omega
          have w6' : ¬ W = 0 := by omega
          have w4' : ¬ (W : Int) = 0 := by omega
          obtain ⟨QQ, hQQ⟩ : ∃ q, q2 * MW + q5 = q := ⟨_, rfl⟩
          obtain ⟨s0, hs0⟩ : ∃ z, p.getD (4 * QQ) 0 = z := ⟨_, rfl⟩
          obtain ⟨s1, hs1⟩ : ∃ z, p.getD (4 * QQ + 1) 0 = z := ⟨_, rfl⟩
          obtain ⟨s2, hs2⟩ : ∃ z, p.getD (4 * QQ + 2) 0 = z := ⟨_, rfl⟩
          obtain ⟨s3, hs3⟩ : ∃ z, p.getD (4 * QQ + 3) 0 = z := ⟨_, rfl⟩
          have HR1 := Lib.hid (fun (V' : World) (hk : Kept (fun _ => False) w V') => show Calls Try.prog 76 #[.agg #[.int .i64 MW, .int .i64 MH, .slice a n cap], .int .i64 q5, .int .i64 q2] V' fun e w' => e = .returned (.tuple #[.agg #[.int .u8 s0, .int .u8 s1, .int .u8 s2, .int .u8 s3], .bool true]) ∧ Kept (fun _ => False) V' w' from by
            have h := rat_yes MW MH q5 q2 p a n cap V' d2 d1 HNM.out HN.out (HX.out.up hk) c3 c4
            rw [hQQ] at h
            unfold pixV at h
            rw [hs0, hs1, hs2, hs3] at h
            exact h)
          have HPUT := Lib.hid (fun (V' : World) (hi : RcInv w 35 MW MH a n cap P9 W H g (4 * M) (tab (4 * M) (fitK W H MW MH p (y * W + x))) V') => show Calls Try.prog 54 #[.agg #[.int .i64 W, .int .i64 H, .slice (some ⟨g, 0, none⟩) (4 * M) (4 * M)], .int .i64 x, .int .i64 y, .agg #[.int .u8 s0, .int .u8 s1, .int .u8 s2, .int .u8 s3]] V' fun e w' => e = .returned (.tuple #[]) ∧ RcInv w 35 MW MH a n cap P9 W H g (4 * M) (tab (4 * M) (fitK W H MW MH p (y * W + (x + 1)))) w' from by
            refine (put_any W H x y _ [] g (4 * M) (4 * M) V' hxW hyH (by rw [HM.out]; omega) (by rw [HM.out]) hi.1 c1 c2 _ _ _ _).mono ?_
            rintro e w' ⟨rfl, ho', hk'⟩
            have hst := fitK_s W H MW MH p (y * W + x) (4 * M) (by omega) QQ (by rw [← hQQ]; exact hsrc) [s0, s1, s2, s3] rfl (fun k hk => by
              match k, hk with
              | 0, _ => exact hs0.symm
              | 1, _ => exact hs1.symm
              | 2, _ => exact hs2.symm
              | 3, _ => exact hs3.symm)
            rw [hst] at ho'
            exact ⟨rfl, hi.put ho' hk' (by omega) (by omega)⟩)
          have HI := Lib.hid hinv
          obtain ⟨WR, hWR⟩ : ∃ WR, WR = wr.drew := ⟨_, rfl⟩
          have hiR : RcInv w 35 MW MH a n cap P9 W H g (4 * M) (tab (4 * M) (fitK W H MW MH p (y * W + x))) WR := by rw [hWR]; exact hinv.kept ((Kept.refl (fun _ => False) wr).drew)
          have HIR := Lib.hid hiR
          obtain ⟨⟨d0', -⟩, ⟨d1', -⟩, d2', -⟩ := blk3 hiR.2.2.1
          have X0 := cell_regrown d0'
          have X1 := cell_regrown d1'
          have X2 := cell_regrown d2'
          obtain ⟨RC, hRC⟩ : ∃ R : Value → World → Prop, R = fun v _ => v = .tuple #[.agg #[.int .u8 s0, .int .u8 s1, .int .u8 s2, .int .u8 s3], .bool true] := ⟨_, rfl⟩
          obtain ⟨RA, hRA⟩ : ∃ R : Value → World → Prop, R = fun v w' => ∃ q, v = .pointer (some ⟨q, 0, none⟩) ∧ WR.heap.size ≤ q ∧ w'.heap[q]? = some (.cells #[.int .u8 0, .int .u8 0, .int .u8 0, .int .u8 0] 65 (0, 0)) := ⟨_, rfl⟩
          have HRC := Lib.hid hRC
          have HRA := Lib.hid hRA
          have HWR := Lib.hid hWR
          clear hinv hs0 hs1 hs2 hs3 hQQ hP hQ hsrc d0' d1' d2' hiR hRC hRA hq1 hq2 hq4 hq5 d1 d2 hWR
          go_wp2
          refine wp_region_grow #[0, 0, 0, 4, 14, 0, 62, 0, 0, 256, 896, 0, 3968, 8191, 16383, 32767, 32767, 0, 196607, 524287] 18 [16] (fun i => if i = 13 then some RC else if i = 17 then some RA else none) (by kernel_rfl) rfl (by kernel_rfl) (fun i hi => by simp at hi; subst hi; rfl) (fun _ _ _ _ _ h => h) ?_
          rintro _ rfl
          rw [← HWR.out]
          simp only [List.take_succ_cons, List.take_zero, List.drop_succ_cons, List.drop_zero, number, Nat.reduceAdd]
          repeat (refine wpGrow_step (fun K hK => ?_); go_simp; refine hK _ _ ?_; clear hK K)
          refine wpGrow_step (fun K hK => ?_)
          go_simp
          refine ⟨fun w' hg => (HR1.out _ (HIR.out.kept hg.old).2.1).mono (fun e w'' ⟨he, hk⟩ => ⟨_, he, hk, by rw [HRC.out]⟩), fun v w' hv _ => ?_⟩
          rw [HRC.out] at hv
          subst hv
          refine hK _ _ ?_; clear hK K
          repeat (refine wpGrow_step (fun K hK => ?_); go_simp; refine hK _ _ ?_; clear hK K)
          refine wpGrow_step (fun K hK => ?_)
          go_simp
          refine ⟨fun w' hg => ⟨(Kept.refl _ _).alloc _, by rw [HRA.out]; exact ⟨_, rfl, hg.old.size, blk_new _ _⟩⟩, fun v w'' hv _ => ?_⟩
          rw [HRA.out] at hv
          obtain ⟨q, rfl, hq, hqb⟩ := hv
          refine hK _ _ ?_; clear hK K
          refine wpGrow_nil ?_
          intro w3 hk3 hω
          have hqb3 := (hω 17).blk (show (moment (moment (fun _ => WR) 13 w') 17 w'' 17).heap[q]? = _ from hqb) id
          obtain ⟨V1, V2, V3, V4, f1, f2, f3, f4, ⟨g0, g0'⟩, ⟨g1, g1'⟩, ⟨g2, g2'⟩, ⟨g3, g3'⟩, bV, kV4⟩ := store4 hqb3 (.int .u8 s0) (.int .u8 s1) (.int .u8 s2) (.int .u8 s3)
          obtain ⟨⟨m0, -⟩, ⟨m1, -⟩, ⟨m2, -⟩, m3, -⟩ := blk4 bV
          have hlt9 := lt_of_blk HIR.out.2.2.2.2
          have hlt1 := lt_of_blk HIR.out.2.2.2.1
          have hi4 := (HIR.out.kept hk3).fresh kV4 (by omega) (by omega) (by omega)
          obtain ⟨⟨d0', -⟩, ⟨d1', -⟩, d2', -⟩ := blk3 hi4.2.2.2.2
          have HI4 := Lib.hid hi4
          clear hqb hqb3 hω hk3 bV kV4 hi4 X0 X1 X2 v4 v5 v5' v7 v8 v8'
          go_wp2_with fail
          refine (HPUT.out _ HI4.out).mono ?_; rintro e w5 ⟨rfl, hi5⟩
          have HI5 := Lib.hid hi5
          clear hi5 d0' d1' d2' m0 m1 m2 m3 f1 f2 f3 f4 g0 g0' g1 g1' g2 g2' g3 g3'
          go_wp2
          go_roundg (gk - 1)
          case rel => exact ⟨x + 1, by omega, by omega, by go_num, HI5.out⟩
          case measure => omega
        · obtain rfl : x = W := by omega
          have gx : decide (x < x) = false := decide_eq_false (by omega)
          have HI := Lib.hid (show RcInv w 35 MW MH a n cap P9 x H g (4 * M) (tab (4 * M) (fitK x H MW MH p ((y + 1) * x))) wr by rw [show (y + 1) * x = y * x + x from Nat.succ_mul ..]; exact hinv)
          clear hinv
          go_wp2
          go_roundg (gko - 1)
          case rel => exact ⟨y + 1, by omega, by omega, by go_num, HI.out⟩
          case measure => omega
    · obtain rfl : y = H := by omega
      have gy : decide (y < y) = false := decide_eq_false (by omega)
      have hfin : tab (4 * M) (fitK W y MW MH p (y * W)) = tab (4 * M) (fitF W y MW MH p) := tab_ext (fun j hj => by unfold fitK; rw [if_pos (by rw [Nat.mul_comm y W, HM.out]; omega)])
      rw [hfin] at hinv
      obtain ⟨⟨c0, -⟩, ⟨c1', -⟩, c2', -⟩ := blk3 hinv.2.2.2.2
      obtain ⟨V1, V2, V3, f1, f2, f3, ⟨g0, g0'⟩, ⟨g1, g1'⟩, ⟨g2, g2'⟩, bV, kV3⟩ := store3 hinv.2.2.2.1 (.int .i64 W) (.int .i64 y) (.slice (some ⟨g, 0, none⟩) (4 * M) (4 * M))
      obtain ⟨⟨m0, -⟩, ⟨m1, -⟩, m2, -⟩ := blk3 bV
      have HO := Lib.hid (hinv.1.kept kV3 (fun b hb (hS : b = w.heap.size + 1) => by have h9 : g = b := Option.some.inj hb; omega))
      have HK := Lib.hid (hinv.2.1.trans (kV3.mono fun i _ hi => Or.inr (by have h9 : i = w.heap.size + 1 := hi; omega)))
      clear hinv bV kV3 hfin
      go_wp2
      exact bodyPost_ret (v := .tuple #[mat W y (some ⟨g, 0, none⟩) (4 * M) (4 * M), .int .i64 0]) (by simp [results, Try.results68, go_sem, mat, m0, m1, m2]) rfl ⟨g, 4 * M, by rw [HM.out], rfl, by omega, HO.out, HK.out⟩

set_option maxRecDepth 100000 in
set_option maxHeartbeats 8000000 in
theorem rdrawG_any (W H SW SH : Nat) (x y : Int) (p s : List Int) (a sa : Option Addr) (n cap sn scap : Nat) (w : World) (hxx : I64 x) (hyy : I64 y)
    (hW : W ≤ 16384) (hH : H ≤ 16384) (hSW : SW ≤ 16384) (hSH : SH ≤ 16384) (hn : n = 4 * (W * H)) (hsn : sn = 4 * (SW * SH)) (hn2 : n ≤ 16384) (hsn2 : sn ≤ 67108864)
    (hp : SlAt .u8 w a n p) (hs : SlAt .u8 w sa sn s) (hpb : IsBytes p) (hsb : IsBytes s) (hnil : a = none → n = 0 ∧ cap = 0) :
    Calls Try.prog 69 #[.agg #[.int .i64 W, .int .i64 H, .slice a n cap], .agg #[.int .i64 SW, .int .i64 SH, .slice sa sn scap], .int .i64 x, .int .i64 y] w fun e w' => ∃ v, e = .returned (.agg #[.int .i64 W, .int .i64 H, v]) ∧ Made w (tab n (drawF (spotOf W H SW SH x y) p s)) v w' := by
  have hpl := hp.1
  obtain ⟨t, ht⟩ : ∃ t, spotOf W H SW SH x y = t := ⟨_, rfl⟩
  have bx := partS_bd x SW W (by omega)
  have by' := partS_bd y SH H (by omega)
  obtain ⟨x0, hx0⟩ : ∃ k : Nat, (partS x SW W).1 = (k : Int) := ⟨_, Int.eq_ofNat_of_zero_le bx.1 |>.choose_spec⟩
  obtain ⟨x1, hx1⟩ : ∃ k : Nat, (partS x SW W).2 = (k : Int) := ⟨_, Int.eq_ofNat_of_zero_le bx.2.2.1 |>.choose_spec⟩
  obtain ⟨y0, hy0⟩ : ∃ k : Nat, (partS y SH H).1 = (k : Int) := ⟨_, Int.eq_ofNat_of_zero_le by'.1 |>.choose_spec⟩
  obtain ⟨y1, hy1⟩ : ∃ k : Nat, (partS y SH H).2 = (k : Int) := ⟨_, Int.eq_ofNat_of_zero_le by'.2.2.1 |>.choose_spec⟩
  have PX := Lib.hid (fun (k : Nat) (h0 : x0 ≤ k) (h1 : k < x1) => part_in (at' := x) (n := SW) (side := W) (k := k) (by omega) (by omega))
  have PY := Lib.hid (fun (k : Nat) (h0 : y0 ≤ k) (h1 : k < y1) => part_in (at' := y) (n := SH) (side := H) (k := k) (by omega) (by omega))
  have HSX := Lib.hid (fun w => show Calls Try.prog 53 #[.int .i64 x, .int .i64 SW, .int .i64 W] w fun e w' => e = .returned (.tuple #[.int .i64 x0, .int .i64 x1]) ∧ w = w' from by rw [← hx0, ← hx1]; exact span_any x SW W w hxx (by unfold I64; omega) (by omega))
  have HSY := Lib.hid (fun w => show Calls Try.prog 53 #[.int .i64 y, .int .i64 SH, .int .i64 H] w fun e w' => e = .returned (.tuple #[.int .i64 y0, .int .i64 y1]) ∧ w = w' from by rw [← hy0, ← hy1]; exact span_any y SH H w hyy (by unfold I64; omega) (by omega))
  have htt : t = ⟨W, SW, x, y, x0, x1, y0, y1⟩ := by rw [← ht]; unfold spotOf; rw [hx0, hx1, hy0, hy1]; simp
  have hx1W : x1 ≤ W := by have := bx.2.1; omega
  have hy1H : y1 ≤ H := by have := by'.2.1; omega
  have hx0W : x0 ≤ W := by have := bx.2.2.2; omega
  have hy0H : y0 ≤ H := by have := by'.2.2.2; omega
  have TW : t.W = W := by rw [htt]
  have TX0 : t.x0 = x0 := by rw [htt]
  have TX1 : t.x1 = x1 := by rw [htt]
  have TY0 : t.y0 = y0 := by rw [htt]
  have TY1 : t.y1 = y1 := by rw [htt]
  have HSTEP := Lib.hid (fun (X Y : Nat) (hX : X < W) (h0 : x0 ≤ X) (h1 : X < x1) (h2 : y0 ≤ Y) (h3 : Y < y1) (hn' : 4 * (Y * W + X) + 4 ≤ n) => show _ from by
    have h := drawD_step t p s n X Y (by rw [TW]; exact hX) (by rw [TX0]; exact h0) (by rw [TX1]; exact h1) (by rw [TY0]; exact h2) (by rw [TY1]; exact h3) (by rw [TW]; exact hn')
    rw [TW] at h
    rw [show t.y = y by rw [htt], show t.x = x by rw [htt], show t.SW = SW by rw [htt]] at h
    exact h)
  have HGET := Lib.hid (fun (X Y k : Nat) (hX : X < W) (hk : k < 4) (hn' : 4 * (Y * W + X) + 4 ≤ n) => show _ from by
    have h := drawD_get t p s n X Y k (by rw [TW]; exact hX) hk (by rw [TW]; exact hn')
    rw [TW] at h
    exact h)
  have HSTART := Lib.hid (show tab n (drawD t p s y0 x0) = p from by have h := drawD_start t p s n hpl; rw [TX0, TY0] at h; exact h)
  have HEND := Lib.hid (fun (X Y : Nat) (h : y1 ≤ Y) => drawD_end t p s n X Y (by rw [TY1]; exact h))
  have HROW := Lib.hid (fun (X Y : Nat) (h : x1 ≤ X) => show tab n (drawD t p s Y X) = tab n (drawD t p s (Y + 1) x0) from by have h := drawD_row t p s n X Y (by rw [TX1]; exact h); rw [TX0] at h; exact h)
  have HN := Lib.hid hn
  have HSN := Lib.hid hsn
  have HP := Lib.hid hp
  have HS := Lib.hid hs
  have HPB := Lib.hid hpb
  have HSB := Lib.hid hsb
  have HT := Lib.hid ht
  clear bx by' hx0 hx1 hy0 hy1 htt TW TX0 TX1 TY0 TY1 hpl ht hn hsn
  obtain ⟨V, hV⟩ : ∃ V, ((w.alloc (.cells #[.int .i64 W, .int .i64 H, .slice a n cap] 35)).alloc (.cells #[.int .i64 SW, .int .i64 SH, .slice sa sn scap] 35)).alloc (.cells #[.int .i64 0, .int .i64 0, .slice none 0 0] 35) = V := ⟨_, rfl⟩
  have kV : Kept (fun _ => False) w V := by rw [← hV]; exact (((Kept.refl _ w).alloc _).alloc _).alloc _
  have HB0 := Lib.hid (show V.heap[w.heap.size]? = some (.cells #[.int .i64 W, .int .i64 H, .slice a n cap] 35 (0, 0)) by rw [← hV]; exact blk_alloc (blk_alloc (blk_new _ _) _) _)
  have HB1 := Lib.hid (show V.heap[w.heap.size + 1]? = some (.cells #[.int .i64 SW, .int .i64 SH, .slice sa sn scap] 35 (0, 0)) by rw [← hV]; exact blk_alloc (blk_at _ _ (by simp)) _)
  have HB2 := Lib.hid (show V.heap[w.heap.size + 1 + 1]? = some (.cells #[.int .i64 0, .int .i64 0, .slice none 0 0] 35 (0, 0)) by rw [← hV]; exact blk_at _ _ (by simp))
  have sV : w.heap.size + 3 ≤ V.heap.size := by rw [← hV]; simp
  have HTW := Lib.hid (rtwin_any W H a n cap p V (hp.up kV) hn2 hnil)
  have HKV := Lib.hid kV
  obtain ⟨⟨c0, -⟩, ⟨c1, -⟩, c2, -⟩ := blk3 HB0.out
  clear kV hp hs hpb hsb hnil
  go_enter Try.func69, Try.ntmps69
  go_wp2_with fail
  refine HTW.out.mono ?_; rintro e w1 ⟨v, rfl, ho, hk, hf⟩
  obtain ⟨av, cv, rfl, -⟩ := ho.shape
  have hpl2 : p.length = n := HP.out.1
  rw [hpl2] at ho hf ⊢
  obtain ⟨U, hU⟩ : ∃ U, w1.alloc (.cells #[.int .i64 W, .int .i64 H, .slice av n cv] 35) = U := ⟨_, rfl⟩
  obtain ⟨P9, hP9⟩ : ∃ P, w1.heap.size = P := ⟨_, rfl⟩
  have kU : Kept (fun _ => False) w1 U := by rw [← hU]; exact (Kept.refl _ _).alloc _
  have hP9l : V.heap.size ≤ P9 := by have := hk.size; omega
  have HBU := Lib.hid (show U.heap[P9]? = some (.cells #[.int .i64 W, .int .i64 H, .slice av n cv] 35 (0, 0)) by rw [← hU, ← hP9]; exact blk_new _ _)
  have HB0 := Lib.hid ((hk.then kU).blk HB0.out id)
  have HB1 := Lib.hid ((hk.then kU).blk HB1.out id)
  have HB2 := Lib.hid ((hk.then kU).blk HB2.out id)
  have HOU := Lib.hid (ho.kept kU (fun _ _ => id))
  have HKU := Lib.hid ((HKV.out.then hk).then kU)
  have HF := Lib.hid (show ∀ b, (Value.slice av n cv).ownBlock = some b → w.heap.size + 3 ≤ b ∧ b < P9 from fun b hb => ⟨by have := hf b hb; omega, by have := Own.lt ho b hb; omega⟩)
  clear hk kU ho hf c0 c1 c2 hpl2
  obtain ⟨⟨c0, -⟩, ⟨c1, -⟩, c2, -⟩ := blk3 HB0.out
  obtain ⟨⟨d0, -⟩, ⟨d1, -⟩, d2, -⟩ := blk3 HB1.out
  go_wp2_with (go_at_call 53; first | ((with_reducible refine (HSX.out _).mono ?_); rintro e w' ⟨rfl, rfl⟩) | ((with_reducible refine (HSY.out _).mono ?_); rintro e w' ⟨rfl, rfl⟩))
  clear hU hP9 hV c0 c1 c2 d0 d1 d2
  have HINV := Lib.hid (show DrawInv w P9 35 W H SW SH sa sn scap av n cv (tab n (drawD t p s y0 x0)) U from ⟨by rw [HSTART.out]; exact HOU.out, HKU.out, HB1.out, HB2.out, HBU.out⟩)
  go_loopg [14, 15, 16, 17, 18, 19] y1 (fun gg yv _ _ _ _ _ wr => ∃ Y : Nat, y0 ≤ Y ∧ y1 ≤ gg + Y ∧ Y ≤ H ∧ yv = .int .i64 Y ∧ DrawInv w P9 35 W H SW SH sa sn scap av n cv (tab n (drawD t p s Y x0)) wr)
  case atStart => exact ⟨y0, by omega, by omega, by omega, rfl, HINV.out⟩
  case round =>
    obtain ⟨Y, hY0, hgg, hYH, rfl, hinv⟩ := hrel
    by_cases hY1 : Y < y1
    · have gy : decide (Y < y1) = true := decide_eq_true hY1
      have HI := Lib.hid hinv
      obtain ⟨gko, hgo⟩ : ∃ x, x = gk := ⟨_, rfl⟩
      subst hgo
      clear hinv
      go_wp2
      go_loopg [15, 16, 17, 18, 19] x1 (fun gg xv _ _ _ _ wr => ∃ X : Nat, x0 ≤ X ∧ x1 ≤ gg + X ∧ X ≤ W ∧ xv = .int .i64 X ∧ DrawInv w P9 35 W H SW SH sa sn scap av n cv (tab n (drawD t p s Y X)) wr)
      case atStart => exact ⟨x0, by omega, by omega, by omega, rfl, HI.out⟩
      case round =>
        obtain ⟨X, hX0, hgx, hXW', rfl, hinv⟩ := hrel
        by_cases hX1 : X < x1
        · have gx : decide (X < x1) = true := decide_eq_true hX1
          obtain ⟨px1, px2, hXW⟩ := PX.out X hX0 hX1
          obtain ⟨py1, py2, hYHl⟩ := PY.out Y hY0 hY1
          obtain ⟨QX, hqx⟩ : ∃ q : Nat, (X : Int) - x = (q : Int) := ⟨((X : Int) - x).toNat, by omega⟩
          obtain ⟨QY, hqy⟩ : ∃ q : Nat, (Y : Int) - y = (q : Int) := ⟨((Y : Int) - y).toNat, by omega⟩
          have hPn := fit_idx hXW hYHl
          have hn4 : 4 * (Y * W + X) + 4 ≤ n := by have := HN.out; omega
          have hQn := fit_idx (W := SW) (H := SH) (x := QX) (y := QY) (by omega) (by omega)
          have hM1 : W * H ≤ 67108864 := by have := HN.out; omega
          have hM2 : SW * SH ≤ 67108864 := by have := HSN.out; omega
          obtain ⟨g, hg⟩ := hinv.1.form (by omega)
          have hgF := HF.out g (by rw [hg]; rfl)
          obtain ⟨PP, hPP⟩ : ∃ q, Y * W + X = q := ⟨_, rfl⟩
          obtain ⟨QQ, hQQ⟩ : ∃ q, QY * SW + QX = q := ⟨_, rfl⟩
          obtain ⟨s0, hs0⟩ : ∃ z, s.getD (4 * QQ) 0 = z := ⟨_, rfl⟩
          obtain ⟨s1, hs1⟩ : ∃ z, s.getD (4 * QQ + 1) 0 = z := ⟨_, rfl⟩
          obtain ⟨s2, hs2⟩ : ∃ z, s.getD (4 * QQ + 2) 0 = z := ⟨_, rfl⟩
          obtain ⟨s3, hs3⟩ : ∃ z, s.getD (4 * QQ + 3) 0 = z := ⟨_, rfl⟩
          obtain ⟨p0, hp0⟩ : ∃ z, p.getD (4 * PP) 0 = z := ⟨_, rfl⟩
          obtain ⟨p1, hp1⟩ : ∃ z, p.getD (4 * PP + 1) 0 = z := ⟨_, rfl⟩
          obtain ⟨p2, hp2⟩ : ∃ z, p.getD (4 * PP + 2) 0 = z := ⟨_, rfl⟩
          obtain ⟨p3, hp3⟩ : ∃ z, p.getD (4 * PP + 3) 0 = z := ⟨_, rfl⟩
          have bs0 := getD_byte HSB.out (4 * QQ)
          have bs1 := getD_byte HSB.out (4 * QQ + 1)
          have bs2 := getD_byte HSB.out (4 * QQ + 2)
          have bs3 := getD_byte HSB.out (4 * QQ + 3)
          have bp0 := getD_byte HPB.out (4 * PP)
          have bp1 := getD_byte HPB.out (4 * PP + 1)
          have bp2 := getD_byte HPB.out (4 * PP + 2)
          rw [hs0] at bs0; rw [hs1] at bs1; rw [hs2] at bs2; rw [hs3] at bs3; rw [hp0] at bp0; rw [hp1] at bp1; rw [hp2] at bp2
          have HR1 := Lib.hid (fun (V' : World) (hk : Kept (fun _ => False) w V') => show Calls Try.prog 76 #[.agg #[.int .i64 SW, .int .i64 SH, .slice sa sn scap], .int .i64 QX, .int .i64 QY] V' fun e w' => e = .returned (.tuple #[.agg #[.int .u8 s0, .int .u8 s1, .int .u8 s2, .int .u8 s3], .bool true]) ∧ Kept (fun _ => False) V' w' from by
            have h := rat_yes SW SH QX QY s sa sn scap V' (by omega) (by omega) hM2 HSN.out (HS.out.up hk) hSW hSH
            rw [hQQ] at h
            unfold pixV at h
            rw [hs0, hs1, hs2, hs3] at h
            exact h)
          have HR2 := Lib.hid (fun (V' : World) (hi : DrawInv w P9 35 W H SW SH sa sn scap av n cv (tab n (drawD t p s Y X)) V') => show Calls Try.prog 76 #[.agg #[.int .i64 W, .int .i64 H, .slice av n cv], .int .i64 X, .int .i64 Y] V' fun e w' => e = .returned (.tuple #[.agg #[.int .u8 p0, .int .u8 p1, .int .u8 p2, .int .u8 p3], .bool true]) ∧ Kept (fun _ => False) V' w' from by
            have hsl : SlAt .u8 V' av n (tab n (drawD t p s Y X)) := by have h := hi.1; rw [hg] at h ⊢; exact h.slAt
            have h := rat_yes W H X Y (tab n (drawD t p s Y X)) av n cv V' hXW hYHl hM1 HN.out hsl hW hH
            have e0 := HGET.out X Y 0 hXW (by omega) hn4
            have e1 := HGET.out X Y 1 hXW (by omega) hn4
            have e2 := HGET.out X Y 2 hXW (by omega) hn4
            have e3 := HGET.out X Y 3 hXW (by omega) hn4
            rw [hPP] at h e0 e1 e2 e3
            unfold pixV at h
            rw [Nat.add_zero] at e0
            rw [e0, e1, e2, e3, hp0, hp1, hp2, hp3] at h
            exact h)
          have HOV := Lib.hid (fun w => show Calls Try.prog 77 #[.agg #[.int .u8 p0, .int .u8 p1, .int .u8 p2, .int .u8 p3], .agg #[.int .u8 s0, .int .u8 s1, .int .u8 s2, .int .u8 s3]] w fun e w' => e = .returned (.agg #[.int .u8 (ov p0 s0 s3), .int .u8 (ov p1 s1 s3), .int .u8 (ov p2 s2 s3), .int .u8 255]) ∧ Kept (fun _ => False) w w' from
            refOver_any p0 p1 p2 p3 s0 s1 s2 s3 w (by omega) (by omega) (by omega) (by omega) (by omega) (by omega) (by omega))
          have HPUT := Lib.hid (fun (V' : World) (hi : DrawInv w P9 35 W H SW SH sa sn scap av n cv (tab n (drawD t p s Y X)) V') => show Calls Try.prog 54 #[.agg #[.int .i64 W, .int .i64 H, .slice av n cv], .int .i64 X, .int .i64 Y, .agg #[.int .u8 (ov p0 s0 s3), .int .u8 (ov p1 s1 s3), .int .u8 (ov p2 s2 s3), .int .u8 255]] V' fun e w' => e = .returned (.tuple #[]) ∧ DrawInv w P9 35 W H SW SH sa sn scap av n cv (tab n (drawD t p s Y (X + 1))) w' ∧ Kept (fun i => i = g) V' w' from by
            have ho := hi.1
            rw [hg] at ho ⊢
            refine (put_any W H X Y _ [] g n cv V' hXW hYHl hM1 HN.out ho hW hH _ _ _ _).mono ?_
            rintro e w' ⟨rfl, ho', hk'⟩
            have hst := HSTEP.out X Y hXW hX0 hX1 hY0 hY1 hn4 QQ (by rw [← hQQ, hqx, hqy]; rfl) [ov p0 s0 s3, ov p1 s1 s3, ov p2 s2 s3, 255] rfl (fun k hk => by
              unfold overK
              match k, hk with
              | 0, _ => rw [hPP]; simp only [Nat.add_zero]; rw [hp0, hs0, hs3]; rfl
              | 1, _ => rw [hPP, hp1, hs1, hs3]; rfl
              | 2, _ => rw [hPP, hp2, hs2, hs3]; rfl
              | 3, _ => rfl)
            rw [hst] at ho'
            refine ⟨rfl, ?_, hk'⟩
            have h := hi.put (L' := tab n (drawD t p s Y (X + 1))) (by rw [hg]; exact ho') hk' hgF.1 hgF.2
            rw [hg] at h
            exact h)
          have HI := Lib.hid hinv
          obtain ⟨⟨d0, -⟩, ⟨d1, -⟩, d2, -⟩ := blk3 hinv.2.2.1
          have HPXY := Lib.hid (And.intro hXW hYHl)
          clear hinv hs0 hs1 hs2 hs3 hp0 hp1 hp2 hp3 hPP hQQ hPn hQn hM1 hM2 hn4 hg
          go_wp2_with fail
          refine (HR1.out _ HI.out.2.1).mono ?_; rintro e w2 ⟨rfl, hk2⟩
          obtain ⟨V2, hV2⟩ : ∃ V, w2.alloc (.cells #[.int .u8 s0, .int .u8 s1, .int .u8 s2, .int .u8 s3] 65) = V := ⟨_, rfl⟩
          have kV2 : Kept (fun _ => False) w2 V2 := by rw [← hV2]; exact (Kept.refl _ _).alloc _
          have HB16 := Lib.hid (show V2.heap[w2.heap.size]? = some (.cells #[.int .u8 s0, .int .u8 s1, .int .u8 s2, .int .u8 s3] 65 (0, 0)) by rw [← hV2]; exact blk_new _ _)
          have HI2 := Lib.hid ((HI.out.kept hk2).kept kV2)
          obtain ⟨⟨c0, -⟩, ⟨c1, -⟩, c2, -⟩ := blk3 HI2.out.2.2.2.2
          have hP92 : P9 < w2.heap.size := by have := lt_of_blk (HI.out.kept hk2).2.2.2.2; exact this
          clear hk2 kV2 d0 d1 d2
          go_wp2_with fail
          refine (HR2.out _ HI2.out).mono ?_; rintro e w3 ⟨rfl, hk3⟩
          obtain ⟨V3, hV3⟩ : ∃ V, w3.alloc (.cells #[.int .u8 p0, .int .u8 p1, .int .u8 p2, .int .u8 p3] 65) = V := ⟨_, rfl⟩
          have kV3 : Kept (fun _ => False) w3 V3 := by rw [← hV3]; exact (Kept.refl _ _).alloc _
          have b18 : V3.heap[w3.heap.size]? = some (.cells #[.int .u8 p0, .int .u8 p1, .int .u8 p2, .int .u8 p3] 65 (0, 0)) := by rw [← hV3]; exact blk_new _ _
          have b16 := (hk3.then kV3).blk HB16.out id
          have hi3 := (HI2.out.kept hk3).kept kV3
          have HI3 := Lib.hid hi3
          have HB18 := Lib.hid b18
          have HB16' := Lib.hid b16
          have hP93 : P9 < w3.heap.size := by have := lt_of_blk (HI2.out.kept hk3).2.2.2.2; exact this
          obtain ⟨⟨c0, -⟩, ⟨c1, -⟩, c2, -⟩ := blk3 hi3.2.2.2.2
          obtain ⟨⟨m0, -⟩, ⟨m1, -⟩, ⟨m2, -⟩, m3, -⟩ := blk4 b16
          obtain ⟨⟨r0, -⟩, ⟨r1, -⟩, ⟨r2, -⟩, r3, -⟩ := blk4 b18
          have hne1 : w2.heap.size ≠ g := by omega
          have hne2 : w3.heap.size ≠ g := by omega
          clear hk3 kV3 b16 b18 hi3 hV2
          go_wp2
          clear hV3
          go_region_held3 (fun w' => w'.cell? ⟨P9, 0, none⟩ = some (.int .i64 W) ∧ w'.cell? ⟨P9, 1, none⟩ = some (.int .i64 H) ∧ w'.cell? ⟨P9, 2, none⟩ = some (.slice av n cv) ∧ w'.cell? ⟨w2.heap.size, 0, none⟩ = some (.int .u8 s0) ∧ w'.cell? ⟨w2.heap.size, 1, none⟩ = some (.int .u8 s1) ∧ w'.cell? ⟨w2.heap.size, 2, none⟩ = some (.int .u8 s2) ∧ w'.cell? ⟨w2.heap.size, 3, none⟩ = some (.int .u8 s3) ∧ w'.cell? ⟨w3.heap.size, 0, none⟩ = some (.int .u8 p0) ∧ w'.cell? ⟨w3.heap.size, 1, none⟩ = some (.int .u8 p1) ∧ w'.cell? ⟨w3.heap.size, 2, none⟩ = some (.int .u8 p2) ∧ w'.cell? ⟨w3.heap.size, 3, none⟩ = some (.int .u8 p3)) (first | ((go_keep; done)) | (go_split_ands; all_goals go_keep)) (first
            | (go_at_call 77; refine Calls.mono (HOV.out _) ?_; rintro e w5 ⟨rfl, h5⟩; have k5 := ((Kept.refl (fun _ => False) V3).drew).then h5; have HI5 := Lib.hid (HI3.out.kept k5); obtain ⟨⟨c0, -⟩, ⟨c1, -⟩, c2, -⟩ := blk3 HI5.out.2.2.2.2; have HB16'' := Lib.hid (k5.blk HB16'.out id); have HB18'' := Lib.hid (k5.blk HB18.out id); obtain ⟨⟨m0, -⟩, ⟨m1, -⟩, ⟨m2, -⟩, m3, -⟩ := blk4 HB16''.out; obtain ⟨⟨r0, -⟩, ⟨r1, -⟩, ⟨r2, -⟩, r3, -⟩ := blk4 HB18''.out; clear h5 k5)
            | (go_at_call 54; refine Calls.mono (HPUT.out _ HI5.out) ?_; rintro e w6 ⟨rfl, hi6, hk6⟩; have HI6 := Lib.hid hi6; obtain ⟨⟨c0, -⟩, ⟨c1, -⟩, c2, -⟩ := blk3 hi6.2.2.2.2; obtain ⟨⟨m0, -⟩, ⟨m1, -⟩, ⟨m2, -⟩, m3, -⟩ := blk4 (hk6.blk HB16''.out (fun h => hne1 h)); obtain ⟨⟨r0, -⟩, ⟨r1, -⟩, ⟨r2, -⟩, r3, -⟩ := blk4 (hk6.blk HB18''.out (fun h => hne2 h)); clear hi6 hk6))
          have hXW2 := HPXY.out.1
          go_wp2
          go_roundg (gk - 1)
          case rel => exact ⟨X + 1, by omega, by omega, by omega, by go_num, HI6.out⟩
          case measure => omega
        · have gx : decide (X < x1) = false := decide_eq_false hX1
          have hrow := HROW.out X Y (by omega)
          rw [hrow] at hinv
          have HI := Lib.hid hinv
          clear hinv hrow
          go_wp2
          go_roundg (gko - 1)
          case rel => exact ⟨Y + 1, by omega, by omega, by omega, by go_num, HI.out⟩
          case measure => omega
    · have gy : decide (Y < y1) = false := decide_eq_false hY1
      have hend := HEND.out x0 Y (by omega)
      rw [hend] at hinv
      obtain ⟨⟨c0, -⟩, ⟨c1, -⟩, c2, -⟩ := blk3 hinv.2.2.2.2
      obtain ⟨V1, V2, V3, f1, f2, f3, ⟨g0, g0'⟩, ⟨g1, g1'⟩, ⟨g2, g2'⟩, bV, kV3⟩ := store3 hinv.2.2.2.1 (.int .i64 W) (.int .i64 H) (.slice av n cv)
      obtain ⟨⟨m0, -⟩, ⟨m1, -⟩, m2, -⟩ := blk3 bV
      have HO := Lib.hid (hinv.1.kept kV3 (fun b hb (hS : b = w.heap.size + 1 + 1) => by have := HF.out b hb; omega))
      have HK := Lib.hid (hinv.2.1.trans (kV3.mono fun i _ hi => Or.inr (by have h9 : i = w.heap.size + 1 + 1 := hi; omega)))
      clear hinv hend bV kV3
      go_wp2
      exact bodyPost_ret (v := .agg #[.int .i64 W, .int .i64 H, .slice av n cv]) (by simp [results, Try.results69, go_sem, m0, m1, m2]) rfl ⟨_, rfl, by rw [HT.out]; exact HO.out, HK.out, fun b hb => by have := HF.out b hb; omega⟩

end Go.Proofs.Ytdjgmhbfohbenaa
