/- A matrix fitted: the document's. -/
import Derived.Test.YtdjgmhbfohbenaaRCut
import Derived.Test.YtdjgmhbfohbenaaGrow
import Derived.Test.YtdjgmhbfohbenaaMMat
namespace Go.Proofs.Ytdjgmhbfohbenaa
open Go.RowKit Go.Sort
set_option linter.unusedVariables false
set_option linter.unusedSimpArgs false
attribute [local go_sem] growOp growUpon sameUpon
theorem RcInv.fresh {w : World} {T W H : Nat} {a : Option Addr} {n cap P9 C D g N : Nat} {L : List Int} {wr w2 : World} {q : Nat} (h : RcInv w T W H a n cap P9 C D g N L wr) (hk : Kept (fun i => i = q) wr w2) (h1 : w.heap.size + 2 ≤ q) (h2 : g ≠ q) (h3 : P9 ≠ q) : RcInv w T W H a n cap P9 C D g N L w2 :=
  ⟨h.1.kept hk (fun b hb (hS : b = q) => by have h9 : g = b := Option.some.inj hb; omega), h.2.1.trans (hk.mono fun i _ hi => Or.inr (by have h9 : i = q := hi; omega)), hk.blk h.2.2.1 (fun (h : w.heap.size = q) => by omega), hk.blk h.2.2.2.1 (fun (h : w.heap.size + 1 = q) => by omega), hk.blk h.2.2.2.2 (fun (h : P9 = q) => by omega)⟩

set_option maxRecDepth 100000 in
set_option maxHeartbeats 8000000 in
theorem rfit_yes (W H MW MH : Nat) (p : List Int) (a : Option Addr) (n cap : Nat) (w : World) (hs : sizeB W H = true) (hz : (W = 0 ↔ MW = 0)) (hr : rightM ⟨MW, MH, p⟩ = true) (hx : SlAt .u8 w a n p) (hWH : W * H ≤ 4096) :
    Calls Try.prog 68 #[.agg #[.int .i64 MW, .int .i64 MH, .slice a n cap], .int .i64 W, .int .i64 H] w fun e w' =>
      ∃ g k : Nat, k = 4 * (W * H) ∧ e = .returned (.tuple #[mat W H (some ⟨g, 0, none⟩) k k, .int .i64 0]) ∧ w.heap.size ≤ g ∧ Own .u8 5 w' (.slice (some ⟨g, 0, none⟩) k k) (tab k (fitF W H MW MH p)) ∧ Kept (fun _ => False) w w' := by
  obtain ⟨a1, a2, a3, a4, a5, a6, a7⟩ := sizeB_t hs
  have hr2 := hr
  unfold rightM at hr2
  rw [Bool.and_eq_true] at hr2
  have hr3 : sizeB MW MH = true := hr2.1
  have hr4 : decide ((p.length : Int) = 4 * (MW : Int) * (MH : Int)) = true := hr2.2
  obtain ⟨b1, b2, b3, b4, b5, b6, b7⟩ := sizeB_t hr3
  have hr5 : (p.length : Int) = 4 * (MW : Int) * (MH : Int) := of_decide_eq_true hr4
  have hwh : (W : Int) * (H : Int) = ((W * H : Nat) : Int) := by simp
  have hmm : (MW : Int) * (MH : Int) = ((MW * MH : Nat) : Int) := by simp
  rw [Int.mul_assoc, hmm] at hr5
  have HN := Lib.hid (show n = 4 * (MW * MH) by have h := hx.1; omega)
  have HNM := Lib.hid (show MW * MH ≤ 67108864 by rw [hmm] at b6; omega)
  obtain ⟨M, hM⟩ : ∃ M, W * H = M := ⟨_, rfl⟩
  rw [hM] at hwh hWH
  have e6 : 4 * (W : Int) * (H : Int) = 4 * (M : Int) := by rw [Int.mul_assoc, hwh]
  have c1 : W ≤ 16384 := by omega
  have c2 : H ≤ 16384 := by omega
  have c3 : MW ≤ 16384 := by omega
  have c4 : MH ≤ 16384 := by omega
  have HX := Lib.hid hx
  have HM := Lib.hid hM
  have HZ := Lib.hid (show (W = 0 → MW = 0) ∧ (1 ≤ W → 1 ≤ H ∧ 1 ≤ MW ∧ 1 ≤ MH) from ⟨hz.1, fun h => by
    have : ¬ MW = 0 := fun h2 => by have := hz.2 h2; omega
    omega⟩)
  have gz : ((W : Int) == 0) = ((MW : Int) == 0) := by
    by_cases h : W = 0
    · have h2 := hz.1 h; simp [h, h2]
    · have h2 : ¬ MW = 0 := fun h2 => h (hz.2 h2)
      have e1 : ((W : Int) == 0) = false := by simp; omega
      have e2 : ((MW : Int) == 0) = false := by simp; omega
      rw [e1, e2]
  have HSZ := Lib.hid (fun wd => show Calls Try.prog 51 #[.int .i64 W, .int .i64 H] wd fun e w' => e = .returned (.bool true) ∧ wd = w' from by have h := refSize_any W H wd (by omega) (by omega); rw [hs] at h; exact h)
  obtain ⟨U, hU⟩ : ∃ V, (w.alloc (.cells #[.int .i64 MW, .int .i64 MH, .slice a n cap] 35)).alloc (.cells #[.int .i64 0, .int .i64 0, .slice none 0 0] 35) = V := ⟨_, rfl⟩
  have kU : Kept (fun _ => False) w U := by rw [← hU]; exact ((Kept.refl _ w).alloc _).alloc _
  have HB0 := Lib.hid (show U.heap[w.heap.size]? = some (.cells #[.int .i64 MW, .int .i64 MH, .slice a n cap] 35 (0, 0)) by rw [← hU]; exact blk_alloc (blk_new _ _) _)
  have HB1 := Lib.hid (show U.heap[w.heap.size + 1]? = some (.cells #[.int .i64 0, .int .i64 0, .slice none 0 0] 35 (0, 0)) by rw [← hU]; exact blk_at _ _ (by simp))
  have sU : w.heap.size + 2 = U.heap.size := by rw [← hU]; simp
  have HK := Lib.hid kU
  obtain ⟨⟨x0, -⟩, ⟨x1, -⟩, x2, -⟩ := blk3 HB0.out
  obtain ⟨i0, hi, hz0, hz1, hz2⟩ := info_parts Try.info5
  have HI := Lib.hid (And.intro hi (And.intro hz0 (And.intro hz1 hz2)))
  obtain ⟨z, hzz⟩ : ∃ z : List Int, List.replicate (4 * M) 0 = z := ⟨_, rfl⟩
  have HZZ := Lib.hid hzz
  have HST := Lib.hid (show tab (4 * M) (fitK W H MW MH p (0 * W)) = z from by rw [← hzz, tab_zero]; exact tab_ext (fun j _ => by simp [fitK]))
  clear hs hz hr hr2 hr3 hr4 hr5 hx hwh hmm a1 a2 a3 a4 a5 a6 a7 b1 b2 b3 b4 b5 b6 b7 hM hzz kU hi hz0 hz1 hz2
  go_enter Try.func68, Try.ntmps68
  go_wp2_with (first
    | (go_at_call 51; refine (HSZ.out _).mono ?_; rintro e w' ⟨rfl, rfl⟩)
    | (refine wpList_makeInts rfl (.tmp 31) (.tmp 31) 29 rfl 5 .u8 i0 1 Try.underlying29 HI.out.1 HI.out.2.1 HI.out.2.2.1 HI.out.2.2.2 .i64 .i64 _ _ (4 * M) rfl rfl (by simp) (by simp) (by omega) (by simp [maxLen]; omega) ?_; intro w2 ho2 hk2 hs2; rw [HZZ.out] at ho2; have hk02 := Lib.hid (HK.out.then hk2); have HO2 := Lib.hid ho2; have HB02 := Lib.hid (hk2.blk HB0.out id); have HB12 := Lib.hid (hk2.blk HB1.out id); obtain ⟨P9, hP9⟩ : ∃ P, w2.heap.size = P := ⟨_, rfl⟩; have hP9l : U.heap.size < P9 := (by omega); obtain ⟨X, hX⟩ : ∃ X, w2.alloc (.cells #[.int .i64 0, .int .i64 0, .slice none 0 0] 35) = X := ⟨_, rfl⟩; have kX : Kept (fun _ => False) w2 X := (by rw [← hX]; exact (Kept.refl _ _).alloc _); have bX : X.heap[P9]? = some (.cells #[.int .i64 0, .int .i64 0, .slice none 0 0] 35 (0, 0)) := (by rw [← hX]; exact blk_at _ _ hP9.symm); obtain ⟨V1, V2, V3, f1, f2, f3, ⟨g0, g0'⟩, ⟨g1, g1'⟩, ⟨g2, g2'⟩, bV, kV3⟩ := store3 bX (.int .i64 W) (.int .i64 H) (.slice (some ⟨U.heap.size, 0, none⟩) (4 * M) (4 * M)); have hinv : RcInv w 35 MW MH a n cap P9 W H U.heap.size (4 * M) z V3 := ⟨(HO2.out.kept kX (fun _ _ => id)).kept kV3 (fun b hb (hS : b = P9) => by have h9 : U.heap.size = b := Option.some.inj hb; omega), ((HK.out.then hk2).then kX).trans (kV3.mono fun i _ hi => Or.inr (by have h9 : i = P9 := hi; omega)), kV3.blk (kX.blk HB02.out id) (fun (h : w.heap.size = P9) => by omega), kV3.blk (kX.blk HB12.out id) (fun (h : w.heap.size + 1 = P9) => by omega), bV⟩; have HINV := Lib.hid hinv; clear ho2 hk2 kX bX bV kV3 hinv x0 x1 x2))
  have hG : w.heap.size + 2 ≤ U.heap.size := by omega
  obtain ⟨g, hg⟩ : ∃ g, U.heap.size = g := ⟨_, rfl⟩
  rw [hg] at HINV hG hP9l
  clear hg hU hX f1 f2 f3 g0 g0' g1 g1' g2 g2' hP9 hs2 sU
  go_loopg [9, 10, 11, 12] H (fun gg yv _ _ _ wr => ∃ y : Nat, H ≤ gg + y ∧ y ≤ H ∧ yv = .int .i64 (y : Int) ∧ RcInv w 35 MW MH a n cap P9 W H g (4 * M) (tab (4 * M) (fitK W H MW MH p (y * W))) wr)
  case atStart => exact ⟨0, by omega, by omega, rfl, by rw [HST.out]; exact HINV.out⟩
  case round =>
    obtain ⟨y, hgg, hyH', rfl, hinv⟩ := hrel
    by_cases hyH : y < H
    · have gy : decide (y < H) = true := decide_eq_true hyH
      have HI := Lib.hid hinv
      obtain ⟨gko, hgo⟩ : ∃ x, x = gk := ⟨_, rfl⟩
      subst hgo
      clear hinv
      go_wp2
      go_loopg [10, 11, 12] W (fun gg xv _ _ wr => ∃ x : Nat, W ≤ gg + x ∧ x ≤ W ∧ xv = .int .i64 (x : Int) ∧ RcInv w 35 MW MH a n cap P9 W H g (4 * M) (tab (4 * M) (fitK W H MW MH p (y * W + x))) wr)
      case atStart => exact ⟨0, by omega, by omega, rfl, HI.out⟩
      case round =>
        obtain ⟨x, hgx, hxW', rfl, hinv⟩ := hrel
        by_cases hxW : x < W
        · have gx : decide (x < W) = true := decide_eq_true hxW
          obtain ⟨z1, z2, z3⟩ := HZ.out.2 (by omega)
          have hP := fit_idx hxW hyH
          rw [HM.out] at hP
          obtain ⟨hsrc, hQ⟩ := fit_src hxW hyH (show 0 < MW by omega) (show 0 < MH by omega)
          have d1 := div_lt hyH (show 0 < MH by omega)
          have d2 := div_lt hxW (show 0 < MW by omega)
          have n2 : y * MH ≤ 16384 * 16384 := Nat.mul_le_mul (by omega) (by omega)
          have n3 : x * MW ≤ 16384 * 16384 := Nat.mul_le_mul (by omega) (by omega)
          obtain ⟨q1, hq1⟩ : ∃ q, y * MH = q := ⟨_, rfl⟩
          obtain ⟨q2, hq2⟩ : ∃ q, q1 / H = q := ⟨_, rfl⟩
          obtain ⟨q4, hq4⟩ : ∃ q, x * MW = q := ⟨_, rfl⟩
          obtain ⟨q5, hq5⟩ : ∃ q, q4 / W = q := ⟨_, rfl⟩
          rw [hq1, hq2, hq4, hq5] at hsrc hQ
          rw [hq1] at n2 d1
          rw [hq2] at d1
          rw [hq4] at n3 d2
          rw [hq5] at d2
          have v4 : IntKind.i64.wrap ((y : Int) * (MH : Int)) = (q1 : Int) := by rw [show (y : Int) * (MH : Int) = (q1 : Int) by rw [← hq1]; simp]; exact IntWalk.i64_in _ (by omega)
          have v5 : (q1 : Int).tdiv (H : Int) = (q2 : Int) := by rw [Int.tdiv_eq_ediv_of_nonneg (by omega)]; omega
          have v5' : IntKind.i64.wrap (q2 : Int) = (q2 : Int) := IntWalk.i64_in _ (by omega)
          have v7 : IntKind.i64.wrap ((x : Int) * (MW : Int)) = (q4 : Int) := by rw [show (x : Int) * (MW : Int) = (q4 : Int) by rw [← hq4]; simp]; exact IntWalk.i64_in _ (by omega)
          have v8 : (q4 : Int).tdiv (W : Int) = (q5 : Int) := by rw [Int.tdiv_eq_ediv_of_nonneg (by omega)]; omega
          have v8' : IntKind.i64.wrap (q5 : Int) = (q5 : Int) := IntWalk.i64_in _ (by omega)
          have w1' : ((H : Int) == 0) = false := by simp; omega
          have w2' : ((W : Int) == 0) = false := by simp; omega
          have w3' : ¬ (H : Int) = 0 := by omega
          have w5' : ¬ H = 0 := by omega
          have w6' : ¬ W = 0 := by omega
          have w4' : ¬ (W : Int) = 0 := by omega
          obtain ⟨QQ, hQQ⟩ : ∃ q, q2 * MW + q5 = q := ⟨_, rfl⟩
          obtain ⟨s0, hs0⟩ : ∃ z, p.getD (4 * QQ) 0 = z := ⟨_, rfl⟩
          obtain ⟨s1, hs1⟩ : ∃ z, p.getD (4 * QQ + 1) 0 = z := ⟨_, rfl⟩
          obtain ⟨s2, hs2⟩ : ∃ z, p.getD (4 * QQ + 2) 0 = z := ⟨_, rfl⟩
          obtain ⟨s3, hs3⟩ : ∃ z, p.getD (4 * QQ + 3) 0 = z := ⟨_, rfl⟩
          have HR1 := Lib.hid (fun (V' : World) (hk : Kept (fun _ => False) w V') => show Calls Try.prog 76 #[.agg #[.int .i64 MW, .int .i64 MH, .slice a n cap], .int .i64 q5, .int .i64 q2] V' fun e w' => e = .returned (.tuple #[.agg #[.int .u8 s0, .int .u8 s1, .int .u8 s2, .int .u8 s3], .bool true]) ∧ Kept (fun _ => False) V' w' from by
            have h := rat_yes MW MH q5 q2 p a n cap V' d2 d1 HNM.out HN.out (HX.out.up hk) c3 c4
            rw [hQQ] at h
            unfold pixV at h
            rw [hs0, hs1, hs2, hs3] at h
            exact h)
          have HPUT := Lib.hid (fun (V' : World) (hi : RcInv w 35 MW MH a n cap P9 W H g (4 * M) (tab (4 * M) (fitK W H MW MH p (y * W + x))) V') => show Calls Try.prog 54 #[.agg #[.int .i64 W, .int .i64 H, .slice (some ⟨g, 0, none⟩) (4 * M) (4 * M)], .int .i64 x, .int .i64 y, .agg #[.int .u8 s0, .int .u8 s1, .int .u8 s2, .int .u8 s3]] V' fun e w' => e = .returned (.tuple #[]) ∧ RcInv w 35 MW MH a n cap P9 W H g (4 * M) (tab (4 * M) (fitK W H MW MH p (y * W + (x + 1)))) w' from by
            refine (put_any W H x y _ [] g (4 * M) (4 * M) V' hxW hyH (by rw [HM.out]; omega) (by rw [HM.out]) hi.1 c1 c2 _ _ _ _).mono ?_
            rintro e w' ⟨rfl, ho', hk'⟩
            have hst := fitK_s W H MW MH p (y * W + x) (4 * M) (by omega) QQ (by rw [← hQQ]; exact hsrc) [s0, s1, s2, s3] rfl (fun k hk => by
              match k, hk with
              | 0, _ => exact hs0.symm
              | 1, _ => exact hs1.symm
              | 2, _ => exact hs2.symm
              | 3, _ => exact hs3.symm)
            rw [hst] at ho'
            exact ⟨rfl, hi.put ho' hk' (by omega) (by omega)⟩)
          have HI := Lib.hid hinv
          obtain ⟨WR, hWR⟩ : ∃ WR, WR = wr.drew := ⟨_, rfl⟩
          have hiR : RcInv w 35 MW MH a n cap P9 W H g (4 * M) (tab (4 * M) (fitK W H MW MH p (y * W + x))) WR := by rw [hWR]; exact hinv.kept ((Kept.refl (fun _ => False) wr).drew)
          have HIR := Lib.hid hiR
          obtain ⟨⟨d0', -⟩, ⟨d1', -⟩, d2', -⟩ := blk3 hiR.2.2.1
          have X0 := cell_regrown d0'
          have X1 := cell_regrown d1'
          have X2 := cell_regrown d2'
          obtain ⟨RC, hRC⟩ : ∃ R : Value → World → Prop, R = fun v _ => v = .tuple #[.agg #[.int .u8 s0, .int .u8 s1, .int .u8 s2, .int .u8 s3], .bool true] := ⟨_, rfl⟩
          obtain ⟨RA, hRA⟩ : ∃ R : Value → World → Prop, R = fun v w' => ∃ q, v = .pointer (some ⟨q, 0, none⟩) ∧ WR.heap.size ≤ q ∧ w'.heap[q]? = some (.cells #[.int .u8 0, .int .u8 0, .int .u8 0, .int .u8 0] 65 (0, 0)) := ⟨_, rfl⟩
          have HRC := Lib.hid hRC
          have HRA := Lib.hid hRA
          have HWR := Lib.hid hWR
          clear hinv hs0 hs1 hs2 hs3 hQQ hP hQ hsrc d0' d1' d2' hiR hRC hRA hq1 hq2 hq4 hq5 d1 d2 hWR
          go_wp2
          refine wp_region_grow #[0, 0, 0, 4, 14, 0, 62, 0, 0, 256, 896, 0, 3968, 8191, 16383, 32767, 32767, 0, 196607, 524287] 18 [16] (fun i => if i = 13 then some RC else if i = 17 then some RA else none) (by kernel_rfl) rfl (by kernel_rfl) (fun i hi => by simp at hi; subst hi; rfl) (fun _ _ _ _ _ h => h) ?_
          rintro _ rfl
          rw [← HWR.out]
          simp only [List.take_succ_cons, List.take_zero, List.drop_succ_cons, List.drop_zero, number, Nat.reduceAdd]
          repeat (refine wpGrow_step (fun K hK => ?_); go_simp; refine hK _ _ ?_; clear hK K)
          refine wpGrow_step (fun K hK => ?_)
          go_simp
          refine ⟨fun w' hg => (HR1.out _ (HIR.out.kept hg.old).2.1).mono (fun e w'' ⟨he, hk⟩ => ⟨_, he, hk, by rw [HRC.out]⟩), fun v w' hv _ => ?_⟩
          rw [HRC.out] at hv
          subst hv
          refine hK _ _ ?_; clear hK K
          repeat (refine wpGrow_step (fun K hK => ?_); go_simp; refine hK _ _ ?_; clear hK K)
          refine wpGrow_step (fun K hK => ?_)
          go_simp
          refine ⟨fun w' hg => ⟨(Kept.refl _ _).alloc _, by rw [HRA.out]; exact ⟨_, rfl, hg.old.size, blk_new _ _⟩⟩, fun v w'' hv _ => ?_⟩
          rw [HRA.out] at hv
          obtain ⟨q, rfl, hq, hqb⟩ := hv
          refine hK _ _ ?_; clear hK K
          refine wpGrow_nil ?_
          intro w3 hk3 hω
          have hqb3 := (hω 17).blk (show (moment (moment (fun _ => WR) 13 w') 17 w'' 17).heap[q]? = _ from hqb) id
          obtain ⟨V1, V2, V3, V4, f1, f2, f3, f4, ⟨g0, g0'⟩, ⟨g1, g1'⟩, ⟨g2, g2'⟩, ⟨g3, g3'⟩, bV, kV4⟩ := store4 hqb3 (.int .u8 s0) (.int .u8 s1) (.int .u8 s2) (.int .u8 s3)
          obtain ⟨⟨m0, -⟩, ⟨m1, -⟩, ⟨m2, -⟩, m3, -⟩ := blk4 bV
          have hlt9 := lt_of_blk HIR.out.2.2.2.2
          have hlt1 := lt_of_blk HIR.out.2.2.2.1
          have hi4 := (HIR.out.kept hk3).fresh kV4 (by omega) (by omega) (by omega)
          obtain ⟨⟨d0', -⟩, ⟨d1', -⟩, d2', -⟩ := blk3 hi4.2.2.2.2
          have HI4 := Lib.hid hi4
          clear hqb hqb3 hω hk3 bV kV4 hi4 X0 X1 X2 v4 v5 v5' v7 v8 v8'
          go_wp2_with fail
          refine (HPUT.out _ HI4.out).mono ?_; rintro e w5 ⟨rfl, hi5⟩
          have HI5 := Lib.hid hi5
          clear hi5 d0' d1' d2' m0 m1 m2 m3 f1 f2 f3 f4 g0 g0' g1 g1' g2 g2' g3 g3'
          go_wp2
          go_roundg (gk - 1)
          case rel => exact ⟨x + 1, by omega, by omega, by go_num, HI5.out⟩
          case measure => omega
        · obtain rfl : x = W := by omega
          have gx : decide (x < x) = false := decide_eq_false (by omega)
          have HI := Lib.hid (show RcInv w 35 MW MH a n cap P9 x H g (4 * M) (tab (4 * M) (fitK x H MW MH p ((y + 1) * x))) wr by rw [show (y + 1) * x = y * x + x from Nat.succ_mul ..]; exact hinv)
          clear hinv
          go_wp2
          go_roundg (gko - 1)
          case rel => exact ⟨y + 1, by omega, by omega, by go_num, HI.out⟩
          case measure => omega
    · obtain rfl : y = H := by omega
      have gy : decide (y < y) = false := decide_eq_false (by omega)
      have hfin : tab (4 * M) (fitK W y MW MH p (y * W)) = tab (4 * M) (fitF W y MW MH p) := tab_ext (fun j hj => by unfold fitK; rw [if_pos (by rw [Nat.mul_comm y W, HM.out]; omega)])
      rw [hfin] at hinv
      obtain ⟨⟨c0, -⟩, ⟨c1', -⟩, c2', -⟩ := blk3 hinv.2.2.2.2
      obtain ⟨V1, V2, V3, f1, f2, f3, ⟨g0, g0'⟩, ⟨g1, g1'⟩, ⟨g2, g2'⟩, bV, kV3⟩ := store3 hinv.2.2.2.1 (.int .i64 W) (.int .i64 y) (.slice (some ⟨g, 0, none⟩) (4 * M) (4 * M))
      obtain ⟨⟨m0, -⟩, ⟨m1, -⟩, m2, -⟩ := blk3 bV
      have HO := Lib.hid (hinv.1.kept kV3 (fun b hb (hS : b = w.heap.size + 1) => by have h9 : g = b := Option.some.inj hb; omega))
      have HK := Lib.hid (hinv.2.1.trans (kV3.mono fun i _ hi => Or.inr (by have h9 : i = w.heap.size + 1 := hi; omega)))
      clear hinv bV kV3 hfin
      go_wp2
      exact bodyPost_ret (v := .tuple #[mat W y (some ⟨g, 0, none⟩) (4 * M) (4 * M), .int .i64 0]) (by simp [results, Try.results68, go_sem, mat, m0, m1, m2]) rfl ⟨g, 4 * M, by rw [HM.out], rfl, by omega, HO.out, HK.out⟩

end Go.Proofs.Ytdjgmhbfohbenaa
