/- One matrix laid over another, as if it had other sides: the program's Lay. -/
import Derived.Test.YtdjgmhbfohbenaaMLay
import Derived.Deep.DeepCutAuto
namespace Go.Proofs.Ytdjgmhbfohbenaa
open Go.RowKit Go.Sort
set_option linter.unusedVariables false
set_option linter.unusedSimpArgs false
/-- The pixel of a matrix SW wide, SH high that pixel P of a picture W wide shows, the matrix shown at x, y as if it were FW wide, FH high. -/
def srcG (W SW SH FW FH : Nat) (x y : Int) (P : Nat) : Nat := (((P / W : Nat) : Int) - y).toNat * SH / FH * SW + (((P % W : Nat) : Int) - x).toNat * SW / FW
def layK (W SW SH FW FH : Nat) (x y : Int) (p s : List Int) (P k : Nat) : Int := overK p s P (srcG W SW SH FW FH x y P) k
def layG (W H SW SH FW FH : Nat) (x y : Int) (p s : List Int) (n : Nat) : List Int := tab n (paintF (spotOf W H FW FH x y) p (layK W SW SH FW FH x y p s))
theorem paintD_get (t : Spot) (p : List Int) (K : Nat → Nat → Int) (n X Y k : Nat) (hX : X < t.W) (hk : k < 4) (hn : 4 * (Y * t.W + X) + 4 ≤ n) : (tab n (paintD t p K Y X)).getD (4 * (Y * t.W + X) + k) 0 = p.getD (4 * (Y * t.W + X) + k) 0 := by
  rw [tab_get (by omega)]
  unfold paintD
  obtain ⟨e1, e2⟩ := pos_of (y := Y) hX
  rw [show (4 * (Y * t.W + X) + k) / 4 = Y * t.W + X by omega]
  rw [if_neg]
  rintro ⟨-, h⟩
  unfold Spot.done at h
  rw [e1, e2] at h
  omega
set_option maxRecDepth 100000 in
set_option maxHeartbeats 8000000 in
theorem layG_any (W H SW SH FW FH : Nat) (x y : Int) (p s : List Int) (av sa : Option Addr) (n cv sn scap : Nat) (w : World) (hxx : I64 x) (hyy : I64 y)
    (hW : W ≤ 16384) (hH : H ≤ 16384) (hSW : SW ≤ 16384) (hSH : SH ≤ 16384) (hS1 : 1 ≤ SW ∧ 1 ≤ SH) (hFW : 1 ≤ FW ∧ FW ≤ 16384) (hFH : 1 ≤ FH ∧ FH ≤ 16384) (hn : n = 4 * (W * H)) (hsn : sn = 4 * (SW * SH)) (hn2 : n ≤ 16384) (hsn2 : sn ≤ 16384) (hr1 : rightM ⟨W, H, p⟩ = true) (hr2 : rightM ⟨SW, SH, s⟩ = true)
    (ho : Own .u8 5 w (.slice av n cv) p) (hs : SlAt .u8 w sa sn s) (hpb : IsBytes p) (hsb : IsBytes s) (hsc : sn ≤ scap) (hscm : scap ≤ 9223372036854775807) (hsep : ∀ b off, 0 < sn → sa = some ⟨b, off, none⟩ → (Value.slice av n cv).ownBlock ≠ some b) :
    Calls Try.prog 110 #[.agg #[.int .i64 W, .int .i64 H, .slice av n cv], .agg #[.int .i64 SW, .int .i64 SH, .slice sa sn scap], .int .i64 x, .int .i64 y, .int .i64 FW, .int .i64 FH] w fun e w' => e = .returned (.tuple #[]) ∧ Own .u8 5 w' (.slice av n cv) (layG W H SW SH FW FH x y p s n) ∧ Kept (fun i => (Value.slice av n cv).ownBlock = some i) w w' := by
  have hpl : p.length = n := by obtain ⟨_, _, hv, hsl, -⟩ := ho.shape; cases hv; rfl
  have hcv : n ≤ cv ∧ cv ≤ 9223372036854775807 := by obtain ⟨_, _, hv, -, h1, h2, -⟩ := ho.shape; cases hv; exact ⟨h1, by simpa [maxLen] using h2⟩
  unfold layG
  obtain ⟨KK, hKK⟩ : ∃ K, layK W SW SH FW FH x y p s = K := ⟨_, rfl⟩
  rw [hKK]
  have HKK := Lib.hid hKK
  clear hKK
  obtain ⟨t, ht⟩ : ∃ t, spotOf W H FW FH x y = t := ⟨_, rfl⟩
  have bx := partS_bd x FW W (by omega)
  have by' := partS_bd y FH H (by omega)
  obtain ⟨x0, hx0⟩ : ∃ k : Nat, (partS x FW W).1 = (k : Int) := ⟨_, Int.eq_ofNat_of_zero_le bx.1 |>.choose_spec⟩
  obtain ⟨x1, hx1⟩ : ∃ k : Nat, (partS x FW W).2 = (k : Int) := ⟨_, Int.eq_ofNat_of_zero_le bx.2.2.1 |>.choose_spec⟩
  obtain ⟨y0, hy0⟩ : ∃ k : Nat, (partS y FH H).1 = (k : Int) := ⟨_, Int.eq_ofNat_of_zero_le by'.1 |>.choose_spec⟩
  obtain ⟨y1, hy1⟩ : ∃ k : Nat, (partS y FH H).2 = (k : Int) := ⟨_, Int.eq_ofNat_of_zero_le by'.2.2.1 |>.choose_spec⟩
  have PX := Lib.hid (fun (k : Nat) (h0 : x0 ≤ k) (h1 : k < x1) => part_in (at' := x) (n := FW) (side := W) (k := k) (by omega) (by omega))
  have PY := Lib.hid (fun (k : Nat) (h0 : y0 ≤ k) (h1 : k < y1) => part_in (at' := y) (n := FH) (side := H) (k := k) (by omega) (by omega))
  have HSX := Lib.hid (fun w => show Calls Try.prog 62 #[.int .i64 x, .int .i64 FW, .int .i64 W] w fun e w' => e = .returned (.tuple #[.int .i64 x0, .int .i64 x1]) ∧ w = w' from by rw [← hx0, ← hx1]; exact part_any x FW W w hxx (by unfold I64; omega) (by omega))
  have HSY := Lib.hid (fun w => show Calls Try.prog 62 #[.int .i64 y, .int .i64 FH, .int .i64 H] w fun e w' => e = .returned (.tuple #[.int .i64 y0, .int .i64 y1]) ∧ w = w' from by rw [← hy0, ← hy1]; exact part_any y FH H w hyy (by unfold I64; omega) (by omega))
  have htt : t = ⟨W, FW, x, y, x0, x1, y0, y1⟩ := by rw [← ht]; unfold spotOf; rw [hx0, hx1, hy0, hy1]; simp
  have hx1W : x1 ≤ W := by have := bx.2.1; omega
  have hy1H : y1 ≤ H := by have := by'.2.1; omega
  have hx0W : x0 ≤ W := by have := bx.2.2.2; omega
  have hy0H : y0 ≤ H := by have := by'.2.2.2; omega
  have TW : t.W = W := by rw [htt]
  have TX0 : t.x0 = x0 := by rw [htt]
  have TX1 : t.x1 = x1 := by rw [htt]
  have TY0 : t.y0 = y0 := by rw [htt]
  have TY1 : t.y1 = y1 := by rw [htt]
  have HSTEP := Lib.hid (fun (X Y : Nat) (hX : X < W) (h0 : x0 ≤ X) (h1 : X < x1) (h2 : y0 ≤ Y) (h3 : Y < y1) (hn' : 4 * (Y * W + X) + 4 ≤ n) => show _ from by
    have h := paintD_step t p KK n X Y (by rw [TW]; exact hX) (by rw [TX0]; exact h0) (by rw [TX1]; exact h1) (by rw [TY0]; exact h2) (by rw [TY1]; exact h3) (by rw [TW]; exact hn')
    rw [TW] at h
    exact h)
  have HGET := Lib.hid (fun (X Y k : Nat) (hX : X < W) (hk : k < 4) (hn' : 4 * (Y * W + X) + 4 ≤ n) => show _ from by
    have h := paintD_get t p KK n X Y k (by rw [TW]; exact hX) hk (by rw [TW]; exact hn')
    rw [TW] at h
    exact h)
  have HSTART := Lib.hid (show tab n (paintD t p KK y0 x0) = p from by have h := paintD_start t p KK n hpl; rw [TX0, TY0] at h; exact h)
  have HEND := Lib.hid (fun (X Y : Nat) (h : y1 ≤ Y) => paintD_end t p KK n X Y (by rw [TY1]; exact h))
  have HROW := Lib.hid (fun (X Y : Nat) (h : x1 ≤ X) => show tab n (paintD t p KK Y X) = tab n (paintD t p KK (Y + 1) x0) from by have h := paintD_row t p KK n X Y (by rw [TX1]; exact h); rw [TX0] at h; exact h)
  have HR1 := Lib.hid (fun w => show Calls Try.prog 63 #[.agg #[.int .i64 W, .int .i64 H, .slice av n cv]] w fun e w' => e = .returned (.bool true) ∧ Kept (fun _ => False) w w' from by
    rw [← hr1]; exact right_any ⟨W, H, p⟩ av n cv w (by unfold I64; simp only; omega) (by unfold I64; simp only; omega) hpl (by omega))
  have HR2 := Lib.hid (fun w => show Calls Try.prog 63 #[.agg #[.int .i64 SW, .int .i64 SH, .slice sa sn scap]] w fun e w' => e = .returned (.bool true) ∧ Kept (fun _ => False) w w' from by
    rw [← hr2]; exact right_any ⟨SW, SH, s⟩ sa sn scap w (by unfold I64; simp only; omega) (by unfold I64; simp only; omega) hs.1 (by omega))
  have HF := Lib.hid (show ∀ b, (Value.slice av n cv).ownBlock = some b → b < w.heap.size from fun b hb => Own.lt ho b hb)
  have HSF := Lib.hid (ub_of hs)
  have HSEP := Lib.hid hsep
  have HN := Lib.hid hn
  have HSN := Lib.hid hsn
  have HPB := Lib.hid hpb
  have HSB := Lib.hid hsb
  have HT := Lib.hid ht
  have hcv1 := hcv.1
  have hcv2 := hcv.2
  obtain ⟨U, hU⟩ : ∃ V, (w.alloc (.cells #[.int .i64 W, .int .i64 H, .slice av n cv] 31)).alloc (.cells #[.int .i64 SW, .int .i64 SH, .slice sa sn scap] 31) = V := ⟨_, rfl⟩
  have kU : Kept (fun _ => False) w U := by rw [← hU]; exact ((Kept.refl _ w).alloc _).alloc _
  have hiU : LayInv w W H SW SH sa sn scap av n cv s p U := ⟨ho.kept kU (fun _ _ => id), kU.mono (fun _ _ h => h.elim), by rw [← hU]; exact blk_alloc (blk_new _ _) _, by rw [← hU]; exact blk_at _ _ (by simp), hs.up kU⟩
  obtain ⟨⟨a0, -⟩, ⟨a1, -⟩, a2, -⟩ := blk3 hiU.2.2.1
  obtain ⟨⟨b0, -⟩, ⟨b1, -⟩, b2, -⟩ := blk3 hiU.2.2.2.1
  have HIU := Lib.hid hiU
  clear bx by' hx0 hx1 hy0 hy1 htt TW TX0 TX1 TY0 TY1 hpl ht hn hsn hr1 hr2 ho hs hpb hsb hsep hcv kU hiU
  go_enter Try.func110, Try.ntmps110
  go_wp2_with fail
  refine (HR1.out _).mono ?_; rintro e w1 ⟨rfl, hk⟩
  have hi1 := HIU.out.kept hk
  obtain ⟨⟨a0, -⟩, ⟨a1, -⟩, a2, -⟩ := blk3 hi1.2.2.1
  obtain ⟨⟨b0, -⟩, ⟨b1, -⟩, b2, -⟩ := blk3 hi1.2.2.2.1
  have HI1 := Lib.hid hi1
  clear hk hi1 hU
  go_wp2_with fail
  refine (HR2.out _).mono ?_; rintro e w2 ⟨rfl, hk⟩
  have hi2 := HI1.out.kept hk
  obtain ⟨⟨a0, -⟩, ⟨a1, -⟩, a2, -⟩ := blk3 hi2.2.2.1
  obtain ⟨⟨b0, -⟩, ⟨b1, -⟩, b2, -⟩ := blk3 hi2.2.2.2.1
  have HI2 := Lib.hid hi2
  clear hk hi2
  go_wp2_with (go_at_call 62; first | ((with_reducible refine (HSX.out _).mono ?_); rintro e w' ⟨rfl, rfl⟩) | ((with_reducible refine (HSY.out _).mono ?_); rintro e w' ⟨rfl, rfl⟩))
  clear a0 a1 a2 b0 b1 b2
  go_loopg [16, 17, 18] y1 (fun gg yv _ _ wr => ∃ Y : Nat, y0 ≤ Y ∧ y1 ≤ gg + Y ∧ Y ≤ H ∧ yv = .int .i64 Y ∧ LayInv w W H SW SH sa sn scap av n cv s (tab n (paintD t p KK Y x0)) wr)
  case atStart => exact ⟨y0, by omega, by omega, by omega, rfl, by rw [HSTART.out]; exact HI2.out⟩
  case round =>
    obtain ⟨Y, hY0, hgg, hYH, rfl, hinv⟩ := hrel
    by_cases hY1 : Y < y1
    · have gy : decide (Y < y1) = true := decide_eq_true hY1
      have HI := Lib.hid hinv
      obtain ⟨gko, hgo⟩ : ∃ x, x = gk := ⟨_, rfl⟩
      subst hgo
      clear hinv
      go_wp2
      go_loopg [17, 18] x1 (fun gg xv _ wr => ∃ X : Nat, x0 ≤ X ∧ x1 ≤ gg + X ∧ X ≤ W ∧ xv = .int .i64 X ∧ LayInv w W H SW SH sa sn scap av n cv s (tab n (paintD t p KK Y X)) wr)
      case atStart => exact ⟨x0, by omega, by omega, by omega, rfl, HI.out⟩
      case round =>
        obtain ⟨X, hX0, hgx, hXW', rfl, hinv⟩ := hrel
        by_cases hX1 : X < x1
        · have gx : decide (X < x1) = true := decide_eq_true hX1
          obtain ⟨px1, px2, hXW⟩ := PX.out X hX0 hX1
          obtain ⟨py1, py2, hYHl⟩ := PY.out Y hY0 hY1
          obtain ⟨QX, hqx⟩ : ∃ q : Nat, (X : Int) - x = (q : Int) := ⟨((X : Int) - x).toNat, by omega⟩
          obtain ⟨QY, hqy⟩ : ∃ q : Nat, (Y : Int) - y = (q : Int) := ⟨((Y : Int) - y).toNat, by omega⟩
          have hPn := fit_idx hXW hYHl
          have hn4 : 4 * (Y * W + X) + 4 ≤ n := by have := HN.out; omega
          obtain ⟨m1, hm1⟩ : ∃ q, QX * SW = q := ⟨_, rfl⟩
          obtain ⟨m2, hm2⟩ : ∃ q, QY * SH = q := ⟨_, rfl⟩
          obtain ⟨RX, hRX⟩ : ∃ q, m1 / FW = q := ⟨_, rfl⟩
          obtain ⟨RY, hRY⟩ : ∃ q, m2 / FH = q := ⟨_, rfl⟩
          have hRX1 : RX < SW := by rw [← hRX, ← hm1]; exact Nat.div_lt_of_lt_mul (Nat.mul_lt_mul_of_pos_right (by omega) hS1.1)
          have hRY1 : RY < SH := by rw [← hRY, ← hm2]; exact Nat.div_lt_of_lt_mul (Nat.mul_lt_mul_of_pos_right (by omega) hS1.2)
          have hQn := fit_idx (W := SW) (H := SH) (x := RX) (y := RY) hRX1 hRY1
          have hM1 : W * H ≤ 67108864 := by have := HN.out; omega
          have hM2 : SW * SH ≤ 67108864 := by have := HSN.out; omega
          obtain ⟨g, hg⟩ := hinv.1.form (by omega)
          have hgF := HF.out g (by rw [hg]; rfl)
          obtain ⟨PP, hPP⟩ : ∃ q, Y * W + X = q := ⟨_, rfl⟩
          obtain ⟨QQ, hQQ⟩ : ∃ q, RY * SW + RX = q := ⟨_, rfl⟩
          obtain ⟨s0, hs0⟩ : ∃ z, s.getD (4 * QQ) 0 = z := ⟨_, rfl⟩
          obtain ⟨s1, hs1⟩ : ∃ z, s.getD (4 * QQ + 1) 0 = z := ⟨_, rfl⟩
          obtain ⟨s2, hs2⟩ : ∃ z, s.getD (4 * QQ + 2) 0 = z := ⟨_, rfl⟩
          obtain ⟨s3, hs3⟩ : ∃ z, s.getD (4 * QQ + 3) 0 = z := ⟨_, rfl⟩
          obtain ⟨p0, hp0⟩ : ∃ z, p.getD (4 * PP) 0 = z := ⟨_, rfl⟩
          obtain ⟨p1, hp1⟩ : ∃ z, p.getD (4 * PP + 1) 0 = z := ⟨_, rfl⟩
          obtain ⟨p2, hp2⟩ : ∃ z, p.getD (4 * PP + 2) 0 = z := ⟨_, rfl⟩
          obtain ⟨p3, hp3⟩ : ∃ z, p.getD (4 * PP + 3) 0 = z := ⟨_, rfl⟩
          have bs0 := getD_byte HSB.out (4 * QQ)
          have bs1 := getD_byte HSB.out (4 * QQ + 1)
          have bs2 := getD_byte HSB.out (4 * QQ + 2)
          have bs3 := getD_byte HSB.out (4 * QQ + 3)
          have bp0 := getD_byte HPB.out (4 * PP)
          have bp1 := getD_byte HPB.out (4 * PP + 1)
          have bp2 := getD_byte HPB.out (4 * PP + 2)
          rw [hs0] at bs0; rw [hs1] at bs1; rw [hs2] at bs2; rw [hs3] at bs3; rw [hp0] at bp0; rw [hp1] at bp1; rw [hp2] at bp2
          have HA := Lib.hid (fun (V' : World) (hi : LayInv w W H SW SH sa sn scap av n cv s (tab n (paintD t p KK Y X)) V') => show Calls Try.prog 58 #[.agg #[.int .i64 W, .int .i64 H, .slice av n cv], .int .i64 X, .int .i64 Y] V' fun e w' => e = .returned (.agg #[.int .u8 p0, .int .u8 p1, .int .u8 p2, .int .u8 p3]) ∧ Kept (fun _ => False) V' w' from by
            have hsl : SlAt .u8 V' av n (tab n (paintD t p KK Y X)) := by have h := hi.1; rw [hg] at h ⊢; exact h.slAt
            have h := at_any W H X Y (tab n (paintD t p KK Y X)) av n cv V' hXW hYHl hM1 HN.out hsl hcv1 hcv2 hW hH
            have e0 := HGET.out X Y 0 hXW (by omega) hn4
            have e1 := HGET.out X Y 1 hXW (by omega) hn4
            have e2 := HGET.out X Y 2 hXW (by omega) hn4
            have e3 := HGET.out X Y 3 hXW (by omega) hn4
            rw [hPP] at h e0 e1 e2 e3
            unfold pixV at h
            rw [Nat.add_zero] at e0
            rw [e0, e1, e2, e3, hp0, hp1, hp2, hp3] at h
            exact h)
          have HS2 := Lib.hid (fun (V' : World) (hi : LayInv w W H SW SH sa sn scap av n cv s (tab n (paintD t p KK Y X)) V') => show Calls Try.prog 58 #[.agg #[.int .i64 SW, .int .i64 SH, .slice sa sn scap], .int .i64 RX, .int .i64 RY] V' fun e w' => e = .returned (.agg #[.int .u8 s0, .int .u8 s1, .int .u8 s2, .int .u8 s3]) ∧ Kept (fun _ => False) V' w' from by
            have h := at_any SW SH RX RY s sa sn scap V' hRX1 hRY1 hM2 HSN.out hi.2.2.2.2 hsc hscm hSW hSH
            rw [hQQ] at h
            unfold pixV at h
            rw [hs0, hs1, hs2, hs3] at h
            exact h)
          have HOV := Lib.hid (fun w => show Calls Try.prog 27 #[.agg #[.int .u8 p0, .int .u8 p1, .int .u8 p2, .int .u8 p3], .agg #[.int .u8 s0, .int .u8 s1, .int .u8 s2, .int .u8 s3]] w fun e w' => e = .returned (.agg #[.int .u8 (ov p0 s0 s3), .int .u8 (ov p1 s1 s3), .int .u8 (ov p2 s2 s3), .int .u8 255]) ∧ Kept (fun _ => False) w w' from
            over_any p0 p1 p2 p3 s0 s1 s2 s3 w (by omega) (by omega) (by omega) (by omega) (by omega) (by omega) (by omega))
          have hKv : ∀ k, KK (Y * W + X) k = overK p s (Y * W + X) QQ k := fun k => by
            rw [← HKK.out]
            unfold layK srcG
            obtain ⟨e1, e2⟩ := pos_of (y := Y) hXW
            rw [e1, e2, hqx, hqy, Int.toNat_natCast, Int.toNat_natCast, hm1, hm2, hRX, hRY, hQQ]
          have HST := Lib.hid (show spl (tab n (paintD t p KK Y X)) (4 * PP) [ov p0 s0 s3, ov p1 s1 s3, ov p2 s2 s3, 255] = tab n (paintD t p KK Y (X + 1)) from by
            have hst := HSTEP.out X Y hXW hX0 hX1 hY0 hY1 hn4 [ov p0 s0 s3, ov p1 s1 s3, ov p2 s2 s3, 255] rfl (fun k hk => by
              rw [hKv]
              unfold overK
              match k, hk with
              | 0, _ => rw [hPP]; simp only [Nat.add_zero]; rw [hp0, hs0, hs3]; rfl
              | 1, _ => rw [hPP, hp1, hs1, hs3]; rfl
              | 2, _ => rw [hPP, hp2, hs2, hs3]; rfl
              | 3, _ => rfl)
            rw [hPP] at hst; exact hst)
          clear hKv
          have m1b : QX * SW ≤ 16384 * 16384 := Nat.mul_le_mul (by omega) (by omega)
          have m2b : QY * SH ≤ 16384 * 16384 := Nat.mul_le_mul (by omega) (by omega)
          obtain ⟨yW, hyW⟩ : ∃ q, Y * W = q := ⟨_, rfl⟩
          have yWb : Y * W ≤ 16384 * 16384 := Nat.mul_le_mul (by omega) (by omega)
          rw [hm1] at m1b
          rw [hm2] at m2b
          rw [hyW] at yWb hPP
          have v1 : (QX : Int) * (SW : Int) = (m1 : Int) := by rw [← hm1]; simp
          have v2 : (QY : Int) * (SH : Int) = (m2 : Int) := by rw [← hm2]; simp
          have v3 : (m1 : Int).tdiv (FW : Int) = (RX : Int) := by rw [Int.tdiv_eq_ediv_of_nonneg (by omega)]; omega
          have v4 : (m2 : Int).tdiv (FH : Int) = (RY : Int) := by rw [Int.tdiv_eq_ediv_of_nonneg (by omega)]; omega
          have v3' : (m1 : Int) / (FW : Int) = (RX : Int) := by omega
          have v4' : (m2 : Int) / (FH : Int) = (RY : Int) := by omega
          have v5 : (Y : Int) * (W : Int) = (yW : Int) := by rw [← hyW]; simp
          have u1 : IntKind.i64.wrap (QX : Int) = (QX : Int) := IntWalk.i64_in _ (by omega)
          have u2 : IntKind.i64.wrap (QY : Int) = (QY : Int) := IntWalk.i64_in _ (by omega)
          have u1' : IntKind.i64.wrap (RX : Int) = (RX : Int) := IntWalk.i64_in _ (by omega)
          have u2' : IntKind.i64.wrap (RY : Int) = (RY : Int) := IntWalk.i64_in _ (by omega)
          have u3 : IntKind.i64.wrap (m1 : Int) = (m1 : Int) := IntWalk.i64_in _ (by omega)
          have u4 : IntKind.i64.wrap (m2 : Int) = (m2 : Int) := IntWalk.i64_in _ (by omega)
          have z1 : ¬ FW = 0 := by omega
          have z2 : ¬ FH = 0 := by omega
          have z3 : ((FW : Int) == 0) = false := by simp; omega
          have z4 : ((FH : Int) == 0) = false := by simp; omega
          have z5 : ¬ (FW : Int) = 0 := by omega
          have z6 : ¬ (FH : Int) = 0 := by omega
          have HPP := Lib.hid hPP
          have HG := Lib.hid hg
          have HPXY := Lib.hid (And.intro hXW hYHl)
          have HN4 := Lib.hid (show 4 * (yW + X) + 4 ≤ n by rw [hyW] at hn4; exact hn4)
          obtain ⟨V, hV⟩ : ∃ V, V = wr := ⟨_, rfl⟩
          subst hV
          have HI0 := Lib.hid (hinv.kept ((Kept.refl (fun _ => False) V).drew))
          have HI0z := Lib.hid (hinv.kept (((Kept.refl (fun _ => False) V).alloc (.cells #[.int .u8 0, .int .u8 0, .int .u8 0, .int .u8 0] 66)).drew))
          have hVs : w.heap.size + 2 ≤ V.heap.size := by have := lt_of_blk hinv.2.2.2.1; omega
          have hFF : w.heap.size + 2 ≤ V.heap.size ∧ (∀ b, (Value.slice av n cv).ownBlock = some b → b < w.heap.size) ∧ (∀ b off, 0 < sn → sa = some ⟨b, off, none⟩ → b < w.heap.size) := ⟨hVs, HF.out, HSF.out⟩
          have HFF := Lib.hid hFF
          obtain ⟨⟨a0, -⟩, ⟨a1, -⟩, a2, -⟩ := blk3 hinv.2.2.1
          obtain ⟨⟨b0, -⟩, ⟨b1, -⟩, b2, -⟩ := blk3 hinv.2.2.2.1
          clear hinv hFF hs0 hs1 hs2 hs3 hp0 hp1 hp2 hp3 hPP hQQ hPn hQn hM1 hM2 hn4 hg hm1 hm2 hyW hRX hRY hRX1 hRY1
          go_upto_region 10 with fail
          go_cut [18] (fun v wx => PixAt w V.heap.size v #[.int .u8 (ov p0 s0 s3), .int .u8 (ov p1 s1 s3), .int .u8 (ov p2 s2 s3), .int .u8 255] (LayInv w W H SW SH sa sn scap av n cv s (tab n (paintD t p KK Y X))) wx)
          case first =>
            go_region_held3 (fun w' => w'.cell? ⟨w.heap.size, 0, none⟩ = some (.int .i64 W) ∧ w'.cell? ⟨w.heap.size, 1, none⟩ = some (.int .i64 H) ∧ w'.cell? ⟨w.heap.size, 2, none⟩ = some (.slice av n cv) ∧ w'.cell? ⟨w.heap.size + 1, 0, none⟩ = some (.int .i64 SW) ∧ w'.cell? ⟨w.heap.size + 1, 1, none⟩ = some (.int .i64 SH) ∧ w'.cell? ⟨w.heap.size + 1, 2, none⟩ = some (.slice sa sn scap)) (first | ((go_keep; done)) | (go_split_ands; all_goals go_keep)) (first | (go_at_call 58; first | ((with_reducible refine Calls.mono (HA.out V.drew HI0.out) ?_); rintro e w1 ⟨rfl, h1⟩; have hs1 : V.heap.size ≤ w1.heap.size := h1.size; have hiA := HI0.out.kept h1; obtain ⟨⟨a0, -⟩, ⟨a1, -⟩, a2, -⟩ := blk3 hiA.2.2.1; obtain ⟨⟨b0, -⟩, ⟨b1, -⟩, b2, -⟩ := blk3 hiA.2.2.2.1; have HIA := Lib.hid hiA; clear h1 hiA) | ((with_reducible refine Calls.mono (HA.out (V.alloc (.cells #[.int .u8 0, .int .u8 0, .int .u8 0, .int .u8 0] 66)).drew HI0z.out) ?_); rintro e w1 ⟨rfl, h1⟩; have hs1 : V.heap.size ≤ w1.heap.size := Nat.le_trans (by simp) h1.size; have hiA := HI0z.out.kept h1; have HZ1 := Lib.hid (show w1.heap[V.heap.size]? = some (.cells #[.int .u8 0, .int .u8 0, .int .u8 0, .int .u8 0] 66) from h1.blk (show _ from blk_new V (.cells #[.int .u8 0, .int .u8 0, .int .u8 0, .int .u8 0] 66)) id); obtain ⟨⟨a0, -⟩, ⟨a1, -⟩, a2, -⟩ := blk3 hiA.2.2.1; obtain ⟨⟨b0, -⟩, ⟨b1, -⟩, b2, -⟩ := blk3 hiA.2.2.2.1; have HIA := Lib.hid hiA; clear h1 hiA) | ((with_reducible refine Calls.mono (HS2.out w1 HIA.out) ?_); rintro e w2 ⟨rfl, h2⟩; have hs2 : V.heap.size ≤ w2.heap.size := Nat.le_trans hs1 h2.size; have hiB := HIA.out.kept h2; (first | (have HZ2 := Lib.hid (h2.blk HZ1.out id)) | skip); obtain ⟨⟨a0, -⟩, ⟨a1, -⟩, a2, -⟩ := blk3 hiB.2.2.1; obtain ⟨⟨b0, -⟩, ⟨b1, -⟩, b2, -⟩ := blk3 hiB.2.2.2.1; have HIB := Lib.hid hiB; clear h2 hiB) | ((with_reducible refine Calls.mono (HS2.out (w1.alloc (.cells #[.int .u8 0, .int .u8 0, .int .u8 0, .int .u8 0] 66)) (HIA.out.kept ((Kept.refl (fun _ => False) w1).alloc (.cells #[.int .u8 0, .int .u8 0, .int .u8 0, .int .u8 0] 66)))) ?_); rintro e w2 ⟨rfl, h2⟩; have hs2 : V.heap.size ≤ w2.heap.size := Nat.le_trans hs1 (Nat.le_trans (by simp) h2.size); have hiB := (HIA.out.kept ((Kept.refl (fun _ => False) w1).alloc (.cells #[.int .u8 0, .int .u8 0, .int .u8 0, .int .u8 0] 66))).kept h2; have HZ2 := Lib.hid (show w2.heap[w1.heap.size]? = some (.cells #[.int .u8 0, .int .u8 0, .int .u8 0, .int .u8 0] 66) from h2.blk (blk_new w1 (.cells #[.int .u8 0, .int .u8 0, .int .u8 0, .int .u8 0] 66)) id); obtain ⟨⟨a0, -⟩, ⟨a1, -⟩, a2, -⟩ := blk3 hiB.2.2.1; obtain ⟨⟨b0, -⟩, ⟨b1, -⟩, b2, -⟩ := blk3 hiB.2.2.2.1; have HIB := Lib.hid hiB; clear h2 hiB)) | (go_at_call 27; first | ((with_reducible refine Calls.mono (HOV.out w2) ?_); rintro e w3 ⟨rfl, h3⟩; have hs3 : V.heap.size ≤ w3.heap.size := Nat.le_trans hs2 h3.size; have hi := HIB.out.kept h3; obtain ⟨⟨a0, -⟩, ⟨a1, -⟩, a2, -⟩ := blk3 hi.2.2.1; obtain ⟨⟨b0, -⟩, ⟨b1, -⟩, b2, -⟩ := blk3 hi.2.2.2.1; (first | (have hz := h3.blk HZ2.out id; first | (obtain ⟨V1, V2, V3, V4, f1, f2, f3, f4, ⟨g0, g0'⟩, ⟨g1, g1'⟩, ⟨g2, g2'⟩, ⟨g3, g3'⟩, bV, kV4⟩ := store4 hz (.int .u8 (ov p0 s0 s3)) (.int .u8 (ov p1 s1 s3)) (.int .u8 (ov p2 s2 s3)) (.int .u8 255); have hi4 := hi.put' kV4 ⟨by omega, HFF.out.2⟩; obtain ⟨⟨a0, -⟩, ⟨a1, -⟩, a2, -⟩ := blk3 hi4.2.2.1; obtain ⟨⟨b0, -⟩, ⟨b1, -⟩, b2, -⟩ := blk3 hi4.2.2.2.1; have HM := Lib.hid (show PixAt w V.heap.size (.pointer (some ⟨V.heap.size, 0, none⟩)) #[.int .u8 (ov p0 s0 s3), .int .u8 (ov p1 s1 s3), .int .u8 (ov p2 s2 s3), .int .u8 255] (LayInv w W H SW SH sa sn scap av n cv s (tab n (paintD t p KK Y X))) V4 from ⟨_, rfl, by omega, bV, hi4⟩); clear hz bV kV4 hi4) | (obtain ⟨V1, V2, V3, V4, f1, f2, f3, f4, ⟨g0, g0'⟩, ⟨g1, g1'⟩, ⟨g2, g2'⟩, ⟨g3, g3'⟩, bV, kV4⟩ := store4 hz (.int .u8 (ov p0 s0 s3)) (.int .u8 (ov p1 s1 s3)) (.int .u8 (ov p2 s2 s3)) (.int .u8 255); have hi4 := hi.put' kV4 ⟨by omega, HFF.out.2⟩; obtain ⟨⟨a0, -⟩, ⟨a1, -⟩, a2, -⟩ := blk3 hi4.2.2.1; obtain ⟨⟨b0, -⟩, ⟨b1, -⟩, b2, -⟩ := blk3 hi4.2.2.2.1; have HM := Lib.hid (show PixAt w V.heap.size (.pointer (some ⟨w1.heap.size, 0, none⟩)) #[.int .u8 (ov p0 s0 s3), .int .u8 (ov p1 s1 s3), .int .u8 (ov p2 s2 s3), .int .u8 255] (LayInv w W H SW SH sa sn scap av n cv s (tab n (paintD t p KK Y X))) V4 from ⟨_, rfl, by omega, bV, hi4⟩); clear hz bV kV4 hi4)) | (obtain ⟨V4, hV4⟩ : ∃ V, w3.alloc (.cells #[.int .u8 (ov p0 s0 s3), .int .u8 (ov p1 s1 s3), .int .u8 (ov p2 s2 s3), .int .u8 255] 66) = V := ⟨_, rfl⟩; have hi4 := (show LayInv w W H SW SH sa sn scap av n cv s (tab n (paintD t p KK Y X)) V4 from (by rw [← hV4]; exact hi.kept ((Kept.refl _ w3).alloc _))); obtain ⟨⟨a0, -⟩, ⟨a1, -⟩, a2, -⟩ := blk3 hi4.2.2.1; obtain ⟨⟨b0, -⟩, ⟨b1, -⟩, b2, -⟩ := blk3 hi4.2.2.2.1; have HM := Lib.hid (show PixAt w V.heap.size (.pointer (some ⟨w3.heap.size, 0, none⟩)) #[.int .u8 (ov p0 s0 s3), .int .u8 (ov p1 s1 s3), .int .u8 (ov p2 s2 s3), .int .u8 255] (LayInv w W H SW SH sa sn scap av n cv s (tab n (paintD t p KK Y X))) V4 from ⟨_, rfl, by omega, (by rw [← hV4]; exact blk_new _ _), hi4⟩); clear hi4)); clear h3 hi) | ((with_reducible refine Calls.mono (HOV.out (w2.alloc (.cells #[.int .u8 0, .int .u8 0, .int .u8 0, .int .u8 0] 66))) ?_); rintro e w3 ⟨rfl, h3⟩; have hi := (HIB.out.kept ((Kept.refl (fun _ => False) w2).alloc (.cells #[.int .u8 0, .int .u8 0, .int .u8 0, .int .u8 0] 66))).kept h3; have hz := (show w3.heap[w2.heap.size]? = some (.cells #[.int .u8 0, .int .u8 0, .int .u8 0, .int .u8 0] 66) from h3.blk (blk_new w2 (.cells #[.int .u8 0, .int .u8 0, .int .u8 0, .int .u8 0] 66)) id); obtain ⟨⟨a0, -⟩, ⟨a1, -⟩, a2, -⟩ := blk3 hi.2.2.1; obtain ⟨⟨b0, -⟩, ⟨b1, -⟩, b2, -⟩ := blk3 hi.2.2.2.1; obtain ⟨V1, V2, V3, V4, f1, f2, f3, f4, ⟨g0, g0'⟩, ⟨g1, g1'⟩, ⟨g2, g2'⟩, ⟨g3, g3'⟩, bV, kV4⟩ := store4 hz (.int .u8 (ov p0 s0 s3)) (.int .u8 (ov p1 s1 s3)) (.int .u8 (ov p2 s2 s3)) (.int .u8 255); have hi4 := hi.put' kV4 ⟨by omega, HFF.out.2⟩; obtain ⟨⟨a0, -⟩, ⟨a1, -⟩, a2, -⟩ := blk3 hi4.2.2.1; obtain ⟨⟨b0, -⟩, ⟨b1, -⟩, b2, -⟩ := blk3 hi4.2.2.2.1; have HM := Lib.hid (show PixAt w V.heap.size (.pointer (some ⟨w2.heap.size, 0, none⟩)) #[.int .u8 (ov p0 s0 s3), .int .u8 (ov p1 s1 s3), .int .u8 (ov p2 s2 s3), .int .u8 255] (LayInv w W H SW SH sa sn scap av n cv s (tab n (paintD t p KK Y X))) V4 from ⟨_, rfl, by omega, bV, hi4⟩); clear hz bV kV4 hi4; clear h3 hi)))
            all_goals
              go_wp2_with fail
              go_meet
              exact HM.out
          case rest =>
            obtain ⟨p18, rfl, hp18, b18, hinv⟩ := hcut
            have HI := Lib.hid hinv
            obtain ⟨⟨a0, -⟩, ⟨a1, -⟩, a2, -⟩ := blk3 hinv.2.2.1
            have hgF := HF.out g (by rw [HG.out]; rfl)
            have hg18 : p18 ≠ g := by omega
            have HOW := Lib.hid (show Own .u8 5 wc (.slice (some ⟨g, 0, none⟩) n cv) (tab n (paintD t p KK Y X)) from by have h := hinv.1; rw [HG.out] at h; exact h)
            have HS18 := Lib.hid (show SlAt .u8 wc (some ⟨p18, 0, none⟩) 4 [ov p0 s0 s3, ov p1 s1 s3, ov p2 s2 s3, 255] from slAt_blk b18 rfl rfl)
            have hn4 := HN4.out
            have l1 : 0 ≤ 4 * ((yW : Int) + (X : Int)) := by omega
            have l2 : 4 * ((yW : Int) + (X : Int)) ≤ (n : Int) := by omega
            have l3 : 4 * ((yW : Int) + (X : Int)) ≤ (cv : Int) := by omega
            have t1 : (4 * ((yW : Int) + (X : Int))).toNat = 4 * (yW + X) := by omega
            have w1' : IntKind.i64.wrap (yW : Int) = (yW : Int) := IntWalk.i64_in _ (by omega)
            have w2' : IntKind.i64.wrap ((yW : Int) + (X : Int)) = (yW : Int) + (X : Int) := IntWalk.i64_in _ (by omega)
            have w3' : IntKind.i64.wrap (4 * ((yW : Int) + (X : Int))) = 4 * ((yW : Int) + (X : Int)) := IntWalk.i64_in _ (by omega)
            have hcap : ¬ (cv = 4 * (yW + X)) := by omega
            have hmin := Lib.hid (show 4 = Nat.min 4 (n - 4 * (yW + X)) from (Nat.min_eq_left (show 4 ≤ n - 4 * (yW + X) by omega)).symm)
            have HAV := Lib.hid HG.out
            obtain rfl := HG.out
            clear hinv b18
            go_wp2
            go_still_tail 11, (by kernel_rfl)
            clear l1 l2 l3 t1 w1' w2' w3'
            change wpList _ _ _ _ _ wc.drew
            refine wpList_cp rfl (.tmp 87) (.tmp 88) 29 29 rfl 5 .u8 Try.underlying29 Try.size5 g n cv (4 * (yW + X)) _ _ _ rfl (HOW.out.kept ((Kept.refl (fun _ => False) wc).drew) (fun _ _ => id)) (some ⟨p18, 0, none⟩) 4 _ _ rfl (HS18.out.up ((Kept.refl (fun _ => False) wc).drew)) 4 hmin.out (by omega) ?_
            intro w4 ho4 hk4
            have HI4 := Lib.hid (show LayInv w W H SW SH sa sn scap (some ⟨g, 0, none⟩) n cv s (tab n (paintD t p KK Y (X + 1))) w4 from by
              have hst := HST.out
              rw [← HPP.out] at hst
              rw [← hst]
              exact (HI.out.kept ((Kept.refl (fun _ => False) wc).drew)).put ho4 hk4 rfl hgF (fun b off h0 he hb => HSEP.out b off h0 he (by rw [hb]; rfl)))
            have hXW2 := HPXY.out.1
            clear ho4 hk4
            go_wp2
            go_roundg (gk - 1)
            case rel => exact ⟨X + 1, by omega, by omega, by omega, by go_num, HI4.out⟩
            case measure => omega
        · have gx : decide (X < x1) = false := decide_eq_false hX1
          have hrow := HROW.out X Y (by omega)
          rw [hrow] at hinv
          have HI := Lib.hid hinv
          clear hinv hrow
          go_wp2
          go_roundg (gko - 1)
          case rel => exact ⟨Y + 1, by omega, by omega, by omega, by go_num, HI.out⟩
          case measure => omega
    · have gy : decide (Y < y1) = false := decide_eq_false hY1
      have hend := HEND.out x0 Y (by omega)
      rw [hend] at hinv
      have HO := Lib.hid hinv.1
      have HK := Lib.hid hinv.2.1
      clear hinv hend
      go_wp2
      go_end0
      exact ⟨rfl, by rw [HT.out]; exact HO.out, HK.out⟩

end Go.Proofs.Ytdjgmhbfohbenaa
