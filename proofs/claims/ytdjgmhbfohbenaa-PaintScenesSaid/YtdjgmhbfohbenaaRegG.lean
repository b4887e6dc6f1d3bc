/- Where a place is drawn: the program's Region. -/
import Derived.Test.YtdjgmhbfohbenaaMReg
namespace Go.Proofs.Ytdjgmhbfohbenaa
open Go.RowKit Go.Sort Pl
set_option linter.unusedVariables false
set_option linter.unusedSimpArgs false
set_option maxRecDepth 100000 in
set_option maxHeartbeats 8000000 in
theorem region_any (s : Sc) (p : Pz) (wd : World) (hcw : 1 ≤ s.cw ∧ s.cw ≤ 64) (hch : 1 ≤ s.ch ∧ s.ch ≤ 64) (htop : 0 ≤ s.top ∧ s.top ≤ 1125899906842624) (hp : p.Ok) :
    Calls Try.prog 15 #[s.val, p.val] wd fun e w' => e = .returned (.tuple #[.int .i64 (regP s.cw s.ch s.top p).x, .int .i64 (regP s.cw s.ch s.top p).y, .int .i64 (regP s.cw s.ch s.top p).w, .int .i64 (regP s.cw s.ch s.top p).h]) ∧ Kept (fun _ => False) wd w' := by
  obtain ⟨h1, h2, h3, h4, h5, h6, h7, h8, h9, h10, h11, h12⟩ := hp
  obtain ⟨im, pid, alt, line, pcol, prows, pcols, px, py, pw, ph, dx, dy, z⟩ := p
  obtain ⟨rows, cols, cw, ch, la, ln, lc, pa, pn, pc, im0, top, cur, srow, scol⟩ := s
  simp only at h1 h2 h3 h4 h5 h6 h7 h8 h9 h10 h11 h12 hcw hch htop
  unfold Sc.val Pz.val
  simp only
  obtain ⟨q1, hq1⟩ : ∃ q, (ph + dy + (ch : Int) - 1) / (ch : Int) = q := ⟨_, rfl⟩
  obtain ⟨q2, hq2⟩ : ∃ q, (pw + dx + (cw : Int) - 1) / (cw : Int) = q := ⟨_, rfl⟩
  have HC := Lib.hid (fun x => show Calls Try.prog 43 #[.int .i64 pw, .int .i64 ph, .int .i64 dx, .int .i64 dy, .int .i64 cw, .int .i64 ch] x fun e w' => e = .returned (.tuple #[.int .i64 q1, .int .i64 q2]) ∧ Kept (fun _ => False) x w' from by
    have h := kCells_any pw ph dx dy cw ch x (by omega) (by omega) (by omega) (by omega) (by omega) (by omega)
    rw [hq1, hq2] at h
    exact h)
  have HBT := fun (v lo hi : Int) (b : Bool) (hb : decide (lo ≤ v ∧ v ≤ hi) = b) (x : World) => show Calls Try.prog 32 #[.int .i64 v, .int .i64 lo, .int .i64 hi] x fun e w' => e = .returned (.bool b) ∧ x = w' from by
    have h := betw_any v lo hi x
    rw [← Bool.decide_and, hb] at h
    exact h.mono fun _ _ h => ⟨h.1, h.2.symm⟩
  have BC := Lib.hid (HBT pcols 0 1048576 true (decide_eq_true (by omega)))
  have BR := Lib.hid (HBT prows 0 1048576 true (decide_eq_true (by omega)))
  obtain ⟨X, hX⟩ : ∃ x, pcol * (cw : Int) = x := ⟨_, rfl⟩
  have bX0 : 0 ≤ pcol * (cw : Int) := Int.mul_nonneg (by omega) (by omega)
  have bX1 : pcol * (cw : Int) ≤ 1000 * 64 := Int.mul_le_mul (by omega) (by omega) (by omega) (by omega)
  obtain ⟨U, hU⟩ : ∃ x, line - top = x := ⟨_, rfl⟩
  obtain ⟨Y, hY⟩ : ∃ x, U * (ch : Int) = x := ⟨_, rfl⟩
  have bY0 : -72057594037927936 ≤ U * (ch : Int) := by
    have h := Int.mul_le_mul_of_nonneg_right (show -1125899906842624 ≤ U by omega) (show (0 : Int) ≤ ch by omega)
    have h2 : (1125899906842624 : Int) * ch ≤ 1125899906842624 * 64 := Int.mul_le_mul_of_nonneg_left (by omega) (by omega)
    rw [Int.neg_mul] at h
    omega
  have bY1 : U * (ch : Int) ≤ 72057594037927936 := by
    have h := Int.mul_le_mul_of_nonneg_right (show U ≤ 1125899906842624 by omega) (show (0 : Int) ≤ ch by omega)
    have h2 : (1125899906842624 : Int) * ch ≤ 1125899906842624 * 64 := Int.mul_le_mul_of_nonneg_left (by omega) (by omega)
    omega
  obtain ⟨A, hA⟩ : ∃ x, pcols * (cw : Int) = x := ⟨_, rfl⟩
  have bA0 : 0 ≤ pcols * (cw : Int) := Int.mul_nonneg (by omega) (by omega)
  have bA1 : pcols * (cw : Int) ≤ 64 * 64 := Int.mul_le_mul (by omega) (by omega) (by omega) (by omega)
  obtain ⟨B, hB⟩ : ∃ x, prows * (ch : Int) = x := ⟨_, rfl⟩
  have bB0 : 0 ≤ prows * (ch : Int) := Int.mul_nonneg (by omega) (by omega)
  have bB1 : prows * (ch : Int) ≤ 64 * 64 := Int.mul_le_mul (by omega) (by omega) (by omega) (by omega)
  rw [hX] at bX0 bX1; rw [hY] at bY0 bY1; rw [hA] at bA0 bA1; rw [hB] at bB0 bB1
  have HFI : fitsP cw ch ⟨im, pid, alt, line, pcol, prows, pcols, px, py, pw, ph, dx, dy, z⟩ ↔ q1 = prows ∧ q2 = pcols := by unfold fitsP; simp only; rw [hq1, hq2]
  have RW : regW cw ch ⟨im, pid, alt, line, pcol, prows, pcols, px, py, pw, ph, dx, dy, z⟩ = if q1 = prows ∧ q2 = pcols then pw else A - dx := by
    unfold regW
    simp only [HFI]
    rw [hA]
  have RH : regH cw ch ⟨im, pid, alt, line, pcol, prows, pcols, px, py, pw, ph, dx, dy, z⟩ = if q1 = prows ∧ q2 = pcols then ph else B - dy := by
    unfold regH
    simp only [HFI]
    rw [hB]
  unfold regP
  simp only
  rw [RW, RH, hX, hU, hY]
  have uX : IntKind.i64.wrap X = X := IntWalk.i64_in _ (by omega)
  have uX2 : IntKind.i64.wrap (X + dx) = X + dx := IntWalk.i64_in _ (by omega)
  have uU : IntKind.i64.wrap U = U := IntWalk.i64_in _ (by omega)
  have uY : IntKind.i64.wrap Y = Y := IntWalk.i64_in _ (by omega)
  have uY2 : IntKind.i64.wrap (Y + dy) = Y + dy := IntWalk.i64_in _ (by omega)
  obtain ⟨V, hV⟩ : ∃ V, (wd.alloc (.cells #[.int .i64 rows, .int .i64 cols, .int .i64 cw, .int .i64 ch, .slice la ln lc, .slice pa pn pc, .map im0, .int .i64 top, .bool cur, .int .i64 srow, .int .i64 scol] 26)).alloc (.cells #[.int .i64 im, .int .i64 pid, .bool alt, .int .i64 line, .int .i64 pcol, .int .i64 prows, .int .i64 pcols, .int .i64 px, .int .i64 py, .int .i64 pw, .int .i64 ph, .int .i64 dx, .int .i64 dy, .int .i64 z] 48) = V := ⟨_, rfl⟩
  have kV : Kept (fun _ => False) wd V := by rw [← hV]; exact ((Kept.refl _ _).alloc _).alloc _
  have b0 : V.heap[wd.heap.size]? = some (.cells #[.int .i64 rows, .int .i64 cols, .int .i64 cw, .int .i64 ch, .slice la ln lc, .slice pa pn pc, .map im0, .int .i64 top, .bool cur, .int .i64 srow, .int .i64 scol] 26 (0, 0)) := by rw [← hV]; exact blk_alloc (blk_new _ _) _
  have b1 : V.heap[wd.heap.size + 1]? = some (.cells #[.int .i64 im, .int .i64 pid, .bool alt, .int .i64 line, .int .i64 pcol, .int .i64 prows, .int .i64 pcols, .int .i64 px, .int .i64 py, .int .i64 pw, .int .i64 ph, .int .i64 dx, .int .i64 dy, .int .i64 z] 48 (0, 0)) := by rw [← hV]; exact blk_at _ _ (by simp)
  have HB := Lib.hid (And.intro kV (And.intro b0 b1))
  obtain ⟨y0, y1, y2, y3, y4, y5, y6, y7, y8, y9, y10, y11, y12, y13⟩ := blk14 b1
  obtain ⟨-, -, s2, s3, -, -, -, s7, -⟩ := blk11 b0
  obtain ⟨E1, hE1⟩ : ∃ E, V.drew = E := ⟨_, rfl⟩
  have kE : Kept (fun _ => False) V E1 := by rw [← hE1]; exact (Kept.refl _ _).drew
  have HE := Lib.hid (kV.then kE)
  obtain ⟨z0, z1, z2, z3, z4, z5, z6, z7, z8, z9, z10, z11, z12, z13⟩ := blk14 (kE.blk b1 id)
  obtain ⟨-, -, r2, r3, -, -, -, r7, -⟩ := blk11 (kE.blk b0 id)
  have HKE := Lib.hid kE
  clear kE kV b0 b1 RW RH HFI h1 h2 h3 h4 h5 h6 h7 hcw hch htop
  by_cases hf : q1 = prows ∧ q2 = pcols
  · obtain ⟨rfl, rfl⟩ := hf
    rw [if_pos (c := q1 = q1 ∧ q2 = q2) ⟨rfl, rfl⟩, if_pos (c := q1 = q1 ∧ q2 = q2) ⟨rfl, rfl⟩, if_pos (by omega)]
    obtain ⟨P, hP⟩ : ∃ x, pw * ph = x := ⟨_, rfl⟩
    have bP0 : 0 ≤ pw * ph := Int.mul_nonneg (by omega) (by omega)
    have bP1 : pw * ph ≤ 400 * 400 := Int.mul_le_mul (by omega) (by omega) (by omega) (by omega)
    rw [hP] at bP0 bP1
    have uP : IntKind.i64.wrap P = P := IntWalk.i64_in _ (by omega)
    have gP : decide (67108864 < P) = false := decide_eq_false (by omega)
    have B1 := Lib.hid (HBT pw 1 16384 true (decide_eq_true (by omega)))
    have B2 := Lib.hid (HBT ph 1 16384 true (decide_eq_true (by omega)))
    clear h8 h9 h10 h11 h12 bX0 bX1 bY0 bY1 bA0 bA1 bB0 bB1 hq1 hq2 HBT bP0 bP1
    go_enter Try.func15, Try.ntmps15
    go_wp2
    go_still (by kernel_rfl)
    rw [show (World.mk V.heap V.tape (V.drawn + 1) V.os V.output) = E1 from hE1]
    go_wp2_with fail
    refine (HC.out _).mono ?_
    rintro e w2 ⟨rfl, hk2⟩
    obtain ⟨y0, y1, y2, y3, y4, y5, y6, y7, y8, y9, y10, y11, y12, y13⟩ := blk14 ((HKE.out.then hk2).blk HB.out.2.2 id)
    obtain ⟨-, -, s2, s3, -, -, -, s7, -⟩ := blk11 ((HKE.out.then hk2).blk HB.out.2.1 id)
    have H2 := Lib.hid (HE.out.then hk2)
    have HK2 := Lib.hid hk2
    clear hk2 z0 z1 z2 z3 z4 z5 z6 z7 z8 z9 z10 z11 z12 z13 r2 r3 r7
    go_wp2_with fail
    refine (B1.out _).mono ?_
    rintro e w' ⟨rfl, rfl⟩
    go_wp2_with fail
    refine (B2.out _).mono ?_
    rintro e w' ⟨rfl, rfl⟩
    go_wp2
    go_still (by kernel_rfl)
    go_wp2
    exact bodyPost_ret (v := .tuple #[.int .i64 (X + dx), .int .i64 (Y + dy), .int .i64 (pw), .int .i64 (ph)]) (by simp [results, Try.results15, go_sem]) rfl ⟨rfl, H2.out.drew⟩
  rw [if_neg hf, if_neg hf]
  have uA : IntKind.i64.wrap A = A := IntWalk.i64_in _ (by omega)
  have uA2 : IntKind.i64.wrap (A - dx) = A - dx := IntWalk.i64_in _ (by omega)
  have uB : IntKind.i64.wrap B = B := IntWalk.i64_in _ (by omega)
  have uB2 : IntKind.i64.wrap (B - dy) = B - dy := IntWalk.i64_in _ (by omega)
  by_cases hr : q1 = prows
  · subst hr
    have n2 : (q2 != pcols) = true := by simp; exact fun h => hf ⟨rfl, h⟩
    have n2' : ¬ q2 = pcols := fun h => hf ⟨rfl, h⟩
    by_cases hw : 1 ≤ A - dx ∧ A - dx ≤ 16384
    rotate_left
    · have B1 := Lib.hid (HBT (A - dx) 1 16384 false (decide_eq_false hw))
      rw [if_neg (fun h => hw h.1)]
      clear h8 h9 h10 h11 h12 bX0 bX1 bY0 bY1 bA0 bA1 bB0 bB1 hq1 hq2 HBT hw hf
      go_enter Try.func15, Try.ntmps15
      go_wp2
      go_still (by kernel_rfl)
      rw [show (World.mk V.heap V.tape (V.drawn + 1) V.os V.output) = E1 from hE1]
      go_wp2_with fail
      refine (HC.out _).mono ?_
      rintro e w2 ⟨rfl, hk2⟩
      obtain ⟨y0, y1, y2, y3, y4, y5, y6, y7, y8, y9, y10, y11, y12, y13⟩ := blk14 ((HKE.out.then hk2).blk HB.out.2.2 id)
      obtain ⟨-, -, s2, s3, -, -, -, s7, -⟩ := blk11 ((HKE.out.then hk2).blk HB.out.2.1 id)
      have H2 := Lib.hid (HE.out.then hk2)
      have HK2 := Lib.hid hk2
      clear hk2 z0 z1 z2 z3 z4 z5 z6 z7 z8 z9 z10 z11 z12 z13 r2 r3 r7
      go_wp2_with fail
      refine (BC.out _).mono ?_
      rintro e w' ⟨rfl, rfl⟩
      go_wp2_with fail
      refine (BR.out _).mono ?_
      rintro e w' ⟨rfl, rfl⟩
      go_wp2
      go_still (by kernel_rfl)
      go_wp2_with fail
      refine (B1.out _).mono ?_
      rintro e w' ⟨rfl, rfl⟩
      go_wp2
      exact bodyPost_ret (v := .tuple #[.int .i64 0, .int .i64 0, .int .i64 0, .int .i64 0]) (by simp [results, Try.results15, go_sem]) rfl ⟨rfl, H2.out.drew⟩
    have B1 := Lib.hid (HBT (A - dx) 1 16384 true (decide_eq_true hw))
    by_cases hh : 1 ≤ B - dy ∧ B - dy ≤ 16384
    rotate_left
    · have B2 := Lib.hid (HBT (B - dy) 1 16384 false (decide_eq_false hh))
      rw [if_neg (fun h => hh h.2)]
      clear h8 h9 h10 h11 h12 bX0 bX1 bY0 bY1 bA0 bA1 bB0 bB1 hq1 hq2 HBT hw hh hf
      go_enter Try.func15, Try.ntmps15
      go_wp2
      go_still (by kernel_rfl)
      rw [show (World.mk V.heap V.tape (V.drawn + 1) V.os V.output) = E1 from hE1]
      go_wp2_with fail
      refine (HC.out _).mono ?_
      rintro e w2 ⟨rfl, hk2⟩
      obtain ⟨y0, y1, y2, y3, y4, y5, y6, y7, y8, y9, y10, y11, y12, y13⟩ := blk14 ((HKE.out.then hk2).blk HB.out.2.2 id)
      obtain ⟨-, -, s2, s3, -, -, -, s7, -⟩ := blk11 ((HKE.out.then hk2).blk HB.out.2.1 id)
      have H2 := Lib.hid (HE.out.then hk2)
      have HK2 := Lib.hid hk2
      clear hk2 z0 z1 z2 z3 z4 z5 z6 z7 z8 z9 z10 z11 z12 z13 r2 r3 r7
      go_wp2_with fail
      refine (BC.out _).mono ?_
      rintro e w' ⟨rfl, rfl⟩
      go_wp2_with fail
      refine (BR.out _).mono ?_
      rintro e w' ⟨rfl, rfl⟩
      go_wp2
      go_still (by kernel_rfl)
      go_wp2_with fail
      refine (B1.out _).mono ?_
      rintro e w' ⟨rfl, rfl⟩
      go_wp2_with fail
      refine (B2.out _).mono ?_
      rintro e w' ⟨rfl, rfl⟩
      go_wp2
      exact bodyPost_ret (v := .tuple #[.int .i64 0, .int .i64 0, .int .i64 0, .int .i64 0]) (by simp [results, Try.results15, go_sem]) rfl ⟨rfl, H2.out.drew⟩
    have B2 := Lib.hid (HBT (B - dy) 1 16384 true (decide_eq_true hh))
    rw [if_pos ⟨hw, hh⟩]
    obtain ⟨WW, hWW⟩ : ∃ x, A - dx = x := ⟨_, rfl⟩
    obtain ⟨HH, hHH⟩ : ∃ x, B - dy = x := ⟨_, rfl⟩
    rw [hWW] at uA2 B1 hw ⊢
    rw [hHH] at uB2 B2 hh ⊢
    obtain ⟨P, hP⟩ : ∃ x, WW * HH = x := ⟨_, rfl⟩
    have bP0 : 0 ≤ WW * HH := Int.mul_nonneg (by omega) (by omega)
    have bP1 : WW * HH ≤ 4096 * 4096 := Int.mul_le_mul (by omega) (by omega) (by omega) (by omega)
    rw [hP] at bP0 bP1
    have uP : IntKind.i64.wrap P = P := IntWalk.i64_in _ (by omega)
    have gP : decide (67108864 < P) = false := decide_eq_false (by omega)
    clear h8 h9 h10 h11 h12 bX0 bX1 bY0 bY1 bA0 bA1 bB0 bB1 hq1 hq2 HBT bP0 bP1 hw hh hf
    go_enter Try.func15, Try.ntmps15
    go_wp2
    go_still (by kernel_rfl)
    rw [show (World.mk V.heap V.tape (V.drawn + 1) V.os V.output) = E1 from hE1]
    go_wp2_with fail
    refine (HC.out _).mono ?_
    rintro e w2 ⟨rfl, hk2⟩
    obtain ⟨y0, y1, y2, y3, y4, y5, y6, y7, y8, y9, y10, y11, y12, y13⟩ := blk14 ((HKE.out.then hk2).blk HB.out.2.2 id)
    obtain ⟨-, -, s2, s3, -, -, -, s7, -⟩ := blk11 ((HKE.out.then hk2).blk HB.out.2.1 id)
    have H2 := Lib.hid (HE.out.then hk2)
    have HK2 := Lib.hid hk2
    clear hk2 z0 z1 z2 z3 z4 z5 z6 z7 z8 z9 z10 z11 z12 z13 r2 r3 r7
    go_wp2_with fail
    refine (BC.out _).mono ?_
    rintro e w' ⟨rfl, rfl⟩
    go_wp2_with fail
    refine (BR.out _).mono ?_
    rintro e w' ⟨rfl, rfl⟩
    obtain ⟨E2, hE2⟩ : ∃ E, w2.drew = E := ⟨_, rfl⟩
    have kE2 : Kept (fun _ => False) w2 E2 := by rw [← hE2]; exact (Kept.refl _ _).drew
    have b2s := HB.out.2.2
    have HY2 := Lib.hid kE2
    clear kE2 b2s
    obtain ⟨z0, z1, z2, z3, z4, z5, z6, z7, z8, z9, z10, z11, z12, z13⟩ := blk14 (((HKE.out.then HK2.out).then HY2.out).blk HB.out.2.2 (fun h => h))
    obtain ⟨-, -, r2, r3, -, -, -, r7, -⟩ := blk11 (((HKE.out.then HK2.out).then HY2.out).blk HB.out.2.1 (fun h => h))
    go_wp2
    go_still (by kernel_rfl)
    rw [show (World.mk w2.heap w2.tape (w2.drawn + 1) w2.os w2.output) = E2 from hE2]
    go_wp2_with fail
    refine (B1.out _).mono ?_
    rintro e w' ⟨rfl, rfl⟩
    go_wp2_with fail
    refine (B2.out _).mono ?_
    rintro e w' ⟨rfl, rfl⟩
    go_wp2
    go_still (by kernel_rfl)
    go_wp2
    exact bodyPost_ret (v := .tuple #[.int .i64 (X + dx), .int .i64 (Y + dy), .int .i64 (WW), .int .i64 (HH)]) (by simp [results, Try.results15, go_sem]) rfl ⟨rfl, (H2.out.then HY2.out).drew⟩
  · have n1 : (q1 != prows) = true := by simpa using hr
    clear hr
    by_cases hw : 1 ≤ A - dx ∧ A - dx ≤ 16384
    rotate_left
    · have B1 := Lib.hid (HBT (A - dx) 1 16384 false (decide_eq_false hw))
      rw [if_neg (fun h => hw h.1)]
      clear h8 h9 h10 h11 h12 bX0 bX1 bY0 bY1 bA0 bA1 bB0 bB1 hq1 hq2 HBT hw hf
      go_enter Try.func15, Try.ntmps15
      go_wp2
      go_still (by kernel_rfl)
      rw [show (World.mk V.heap V.tape (V.drawn + 1) V.os V.output) = E1 from hE1]
      go_wp2_with fail
      refine (HC.out _).mono ?_
      rintro e w2 ⟨rfl, hk2⟩
      obtain ⟨y0, y1, y2, y3, y4, y5, y6, y7, y8, y9, y10, y11, y12, y13⟩ := blk14 ((HKE.out.then hk2).blk HB.out.2.2 id)
      obtain ⟨-, -, s2, s3, -, -, -, s7, -⟩ := blk11 ((HKE.out.then hk2).blk HB.out.2.1 id)
      have H2 := Lib.hid (HE.out.then hk2)
      have HK2 := Lib.hid hk2
      clear hk2 z0 z1 z2 z3 z4 z5 z6 z7 z8 z9 z10 z11 z12 z13 r2 r3 r7
      go_wp2_with fail
      refine (BC.out _).mono ?_
      rintro e w' ⟨rfl, rfl⟩
      go_wp2_with fail
      refine (BR.out _).mono ?_
      rintro e w' ⟨rfl, rfl⟩
      go_wp2
      go_still (by kernel_rfl)
      go_wp2_with fail
      refine (B1.out _).mono ?_
      rintro e w' ⟨rfl, rfl⟩
      go_wp2
      exact bodyPost_ret (v := .tuple #[.int .i64 0, .int .i64 0, .int .i64 0, .int .i64 0]) (by simp [results, Try.results15, go_sem]) rfl ⟨rfl, H2.out.drew⟩
    have B1 := Lib.hid (HBT (A - dx) 1 16384 true (decide_eq_true hw))
    by_cases hh : 1 ≤ B - dy ∧ B - dy ≤ 16384
    rotate_left
    · have B2 := Lib.hid (HBT (B - dy) 1 16384 false (decide_eq_false hh))
      rw [if_neg (fun h => hh h.2)]
      clear h8 h9 h10 h11 h12 bX0 bX1 bY0 bY1 bA0 bA1 bB0 bB1 hq1 hq2 HBT hw hh hf
      go_enter Try.func15, Try.ntmps15
      go_wp2
      go_still (by kernel_rfl)
      rw [show (World.mk V.heap V.tape (V.drawn + 1) V.os V.output) = E1 from hE1]
      go_wp2_with fail
      refine (HC.out _).mono ?_
      rintro e w2 ⟨rfl, hk2⟩
      obtain ⟨y0, y1, y2, y3, y4, y5, y6, y7, y8, y9, y10, y11, y12, y13⟩ := blk14 ((HKE.out.then hk2).blk HB.out.2.2 id)
      obtain ⟨-, -, s2, s3, -, -, -, s7, -⟩ := blk11 ((HKE.out.then hk2).blk HB.out.2.1 id)
      have H2 := Lib.hid (HE.out.then hk2)
      have HK2 := Lib.hid hk2
      clear hk2 z0 z1 z2 z3 z4 z5 z6 z7 z8 z9 z10 z11 z12 z13 r2 r3 r7
      go_wp2_with fail
      refine (BC.out _).mono ?_
      rintro e w' ⟨rfl, rfl⟩
      go_wp2_with fail
      refine (BR.out _).mono ?_
      rintro e w' ⟨rfl, rfl⟩
      go_wp2
      go_still (by kernel_rfl)
      go_wp2_with fail
      refine (B1.out _).mono ?_
      rintro e w' ⟨rfl, rfl⟩
      go_wp2_with fail
      refine (B2.out _).mono ?_
      rintro e w' ⟨rfl, rfl⟩
      go_wp2
      exact bodyPost_ret (v := .tuple #[.int .i64 0, .int .i64 0, .int .i64 0, .int .i64 0]) (by simp [results, Try.results15, go_sem]) rfl ⟨rfl, H2.out.drew⟩
    have B2 := Lib.hid (HBT (B - dy) 1 16384 true (decide_eq_true hh))
    rw [if_pos ⟨hw, hh⟩]
    obtain ⟨WW, hWW⟩ : ∃ x, A - dx = x := ⟨_, rfl⟩
    obtain ⟨HH, hHH⟩ : ∃ x, B - dy = x := ⟨_, rfl⟩
    rw [hWW] at uA2 B1 hw ⊢
    rw [hHH] at uB2 B2 hh ⊢
    obtain ⟨P, hP⟩ : ∃ x, WW * HH = x := ⟨_, rfl⟩
    have bP0 : 0 ≤ WW * HH := Int.mul_nonneg (by omega) (by omega)
    have bP1 : WW * HH ≤ 4096 * 4096 := Int.mul_le_mul (by omega) (by omega) (by omega) (by omega)
    rw [hP] at bP0 bP1
    have uP : IntKind.i64.wrap P = P := IntWalk.i64_in _ (by omega)
    have gP : decide (67108864 < P) = false := decide_eq_false (by omega)
    clear h8 h9 h10 h11 h12 bX0 bX1 bY0 bY1 bA0 bA1 bB0 bB1 hq1 hq2 HBT bP0 bP1 hw hh hf
    go_enter Try.func15, Try.ntmps15
    go_wp2
    go_still (by kernel_rfl)
    rw [show (World.mk V.heap V.tape (V.drawn + 1) V.os V.output) = E1 from hE1]
    go_wp2_with fail
    refine (HC.out _).mono ?_
    rintro e w2 ⟨rfl, hk2⟩
    obtain ⟨y0, y1, y2, y3, y4, y5, y6, y7, y8, y9, y10, y11, y12, y13⟩ := blk14 ((HKE.out.then hk2).blk HB.out.2.2 id)
    obtain ⟨-, -, s2, s3, -, -, -, s7, -⟩ := blk11 ((HKE.out.then hk2).blk HB.out.2.1 id)
    have H2 := Lib.hid (HE.out.then hk2)
    have HK2 := Lib.hid hk2
    clear hk2 z0 z1 z2 z3 z4 z5 z6 z7 z8 z9 z10 z11 z12 z13 r2 r3 r7
    go_wp2_with fail
    refine (BC.out _).mono ?_
    rintro e w' ⟨rfl, rfl⟩
    go_wp2_with fail
    refine (BR.out _).mono ?_
    rintro e w' ⟨rfl, rfl⟩
    obtain ⟨E2, hE2⟩ : ∃ E, w2.drew = E := ⟨_, rfl⟩
    have kE2 : Kept (fun _ => False) w2 E2 := by rw [← hE2]; exact (Kept.refl _ _).drew
    have b2s := HB.out.2.2
    have HY2 := Lib.hid kE2
    clear kE2 b2s
    obtain ⟨z0, z1, z2, z3, z4, z5, z6, z7, z8, z9, z10, z11, z12, z13⟩ := blk14 (((HKE.out.then HK2.out).then HY2.out).blk HB.out.2.2 (fun h => h))
    obtain ⟨-, -, r2, r3, -, -, -, r7, -⟩ := blk11 (((HKE.out.then HK2.out).then HY2.out).blk HB.out.2.1 (fun h => h))
    go_wp2
    go_still (by kernel_rfl)
    rw [show (World.mk w2.heap w2.tape (w2.drawn + 1) w2.os w2.output) = E2 from hE2]
    go_wp2_with fail
    refine (B1.out _).mono ?_
    rintro e w' ⟨rfl, rfl⟩
    go_wp2_with fail
    refine (B2.out _).mono ?_
    rintro e w' ⟨rfl, rfl⟩
    go_wp2
    go_still (by kernel_rfl)
    go_wp2
    exact bodyPost_ret (v := .tuple #[.int .i64 (X + dx), .int .i64 (Y + dy), .int .i64 (WW), .int .i64 (HH)]) (by simp [results, Try.results15, go_sem]) rfl ⟨rfl, (H2.out.then HY2.out).drew⟩
end Go.Proofs.Ytdjgmhbfohbenaa
