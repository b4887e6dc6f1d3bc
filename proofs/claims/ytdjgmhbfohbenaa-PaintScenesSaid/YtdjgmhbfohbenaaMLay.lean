/- Several texts in one: Lay, CutP, In. -/
import Derived.Test.YtdjgmhbfohbenaaMMat
import Derived.Deep.DeepCutAuto
namespace Go.Proofs.Ytdjgmhbfohbenaa
open Go.RowKit Go.Sort
set_option linter.unusedVariables false
set_option linter.unusedSimpArgs false
/-- What holds of memory while one matrix is laid over another. -/
def LayInv (w : World) (W H SW SH : Nat) (sa : Option Addr) (sn scap : Nat) (av : Option Addr) (n cv : Nat) (s L : List Int) (wr : World) : Prop :=
  Own .u8 5 wr (.slice av n cv) L ∧ Kept (fun i => (Value.slice av n cv).ownBlock = some i) w wr ∧ wr.heap[w.heap.size]? = some (.cells #[.int .i64 W, .int .i64 H, .slice av n cv] 31 (0, 0)) ∧ wr.heap[w.heap.size + 1]? = some (.cells #[.int .i64 SW, .int .i64 SH, .slice sa sn scap] 31 (0, 0)) ∧ SlAt .u8 wr sa sn s
theorem LayInv.kept {w : World} {W H SW SH : Nat} {sa : Option Addr} {sn scap : Nat} {av : Option Addr} {n cv : Nat} {s L : List Int} {wr w2 : World} (h : LayInv w W H SW SH sa sn scap av n cv s L wr) (hk : Kept (fun _ => False) wr w2) : LayInv w W H SW SH sa sn scap av n cv s L w2 :=
  ⟨h.1.kept hk (fun _ _ => id), h.2.1.then (hk.mono fun _ _ h => h.elim), hk.blk h.2.2.1 id, hk.blk h.2.2.2.1 id, h.2.2.2.2.up hk⟩
theorem LayInv.put {w : World} {W H SW SH : Nat} {sa : Option Addr} {sn scap : Nat} {av : Option Addr} {n cv : Nat} {s L L' : List Int} {wr w2 : World} {g : Nat} (h : LayInv w W H SW SH sa sn scap av n cv s L wr) (ho : Own .u8 5 w2 (.slice av n cv) L') (hk : Kept (fun i => i = g) wr w2) (hg : (Value.slice av n cv).ownBlock = some g) (hgw : g < w.heap.size)
    (hsep : ∀ b off, 0 < sn → sa = some ⟨b, off, none⟩ → b ≠ g) : LayInv w W H SW SH sa sn scap av n cv s L' w2 :=
  ⟨ho, h.2.1.then (hk.mono fun i _ hi => by rw [show i = g from hi]; exact hg), hk.blk h.2.2.1 (fun (h : w.heap.size = g) => by omega), hk.blk h.2.2.2.1 (fun (h : w.heap.size + 1 = g) => by omega), h.2.2.2.2.kept hk (fun b off h0 he => hsep b off h0 he)⟩
def PixAt (w : World) (b : Nat) (v : Value) (C : Array Value) (I : World → Prop) (wx : World) : Prop := ∃ p, v = .pointer (some ⟨p, 0, none⟩) ∧ b ≤ p ∧ wx.heap[p]? = some (.cells C 66 (0, 0)) ∧ I wx

theorem LayInv.put' {w : World} {W H SW SH : Nat} {sa : Option Addr} {sn scap : Nat} {av : Option Addr} {n cv : Nat} {s L : List Int} {wr w2 : World} {q : Nat} (h : LayInv w W H SW SH sa sn scap av n cv s L wr) (hk : Kept (fun i => i = q) wr w2) (hq : w.heap.size + 2 ≤ q ∧ (∀ b, (Value.slice av n cv).ownBlock = some b → b < w.heap.size) ∧ (∀ b off, 0 < sn → sa = some ⟨b, off, none⟩ → b < w.heap.size)) : LayInv w W H SW SH sa sn scap av n cv s L w2 :=
  ⟨h.1.kept hk (fun b hb (hS : b = q) => by have := hq.2.1 b hb; omega), h.2.1.trans (hk.mono fun i _ hi => Or.inr (by have h9 : i = q := hi; omega)), hk.blk h.2.2.1 (fun (h : w.heap.size = q) => by omega), hk.blk h.2.2.2.1 (fun (h : w.heap.size + 1 = q) => by omega), h.2.2.2.2.kept hk (fun b off h0 he (hS : b = q) => by have := hq.2.2 b off h0 he; omega)⟩

set_option maxRecDepth 100000 in
set_option maxHeartbeats 8000000 in
theorem lay_any (W H SW SH : Nat) (x y : Int) (p s : List Int) (av sa : Option Addr) (n cv sn scap : Nat) (w : World) (hxx : I64 x) (hyy : I64 y)
    (hW : W ≤ 16384) (hH : H ≤ 16384) (hSW : SW ≤ 16384) (hSH : SH ≤ 16384) (hn : n = 4 * (W * H)) (hsn : sn = 4 * (SW * SH)) (hn2 : n ≤ 16384) (hsn2 : sn ≤ 16384) (hr1 : rightM ⟨W, H, p⟩ = true) (hr2 : rightM ⟨SW, SH, s⟩ = true)
    (ho : Own .u8 5 w (.slice av n cv) p) (hs : SlAt .u8 w sa sn s) (hpb : IsBytes p) (hsb : IsBytes s) (hsc : sn ≤ scap) (hscm : scap ≤ 9223372036854775807) (hsep : ∀ b off, 0 < sn → sa = some ⟨b, off, none⟩ → (Value.slice av n cv).ownBlock ≠ some b) :
    Calls Try.prog 110 #[.agg #[.int .i64 W, .int .i64 H, .slice av n cv], .agg #[.int .i64 SW, .int .i64 SH, .slice sa sn scap], .int .i64 x, .int .i64 y, .int .i64 SW, .int .i64 SH] w fun e w' => e = .returned (.tuple #[]) ∧ Own .u8 5 w' (.slice av n cv) (tab n (drawF (spotOf W H SW SH x y) p s)) ∧ Kept (fun i => (Value.slice av n cv).ownBlock = some i) w w' := by
  have hpl : p.length = n := by obtain ⟨_, _, hv, hsl, -⟩ := ho.shape; cases hv; rfl
  have hcv : n ≤ cv ∧ cv ≤ 9223372036854775807 := by obtain ⟨_, _, hv, -, h1, h2, -⟩ := ho.shape; cases hv; exact ⟨h1, by simpa [maxLen] using h2⟩
  obtain ⟨t, ht⟩ : ∃ t, spotOf W H SW SH x y = t := ⟨_, rfl⟩
  have bx := partS_bd x SW W (by omega)
  have by' := partS_bd y SH H (by omega)
  obtain ⟨x0, hx0⟩ : ∃ k : Nat, (partS x SW W).1 = (k : Int) := ⟨_, Int.eq_ofNat_of_zero_le bx.1 |>.choose_spec⟩
  obtain ⟨x1, hx1⟩ : ∃ k : Nat, (partS x SW W).2 = (k : Int) := ⟨_, Int.eq_ofNat_of_zero_le bx.2.2.1 |>.choose_spec⟩
  obtain ⟨y0, hy0⟩ : ∃ k : Nat, (partS y SH H).1 = (k : Int) := ⟨_, Int.eq_ofNat_of_zero_le by'.1 |>.choose_spec⟩
  obtain ⟨y1, hy1⟩ : ∃ k : Nat, (partS y SH H).2 = (k : Int) := ⟨_, Int.eq_ofNat_of_zero_le by'.2.2.1 |>.choose_spec⟩
  have PX := Lib.hid (fun (k : Nat) (h0 : x0 ≤ k) (h1 : k < x1) => part_in (at' := x) (n := SW) (side := W) (k := k) (by omega) (by omega))
  have PY := Lib.hid (fun (k : Nat) (h0 : y0 ≤ k) (h1 : k < y1) => part_in (at' := y) (n := SH) (side := H) (k := k) (by omega) (by omega))
  have HSX := Lib.hid (fun w => show Calls Try.prog 62 #[.int .i64 x, .int .i64 SW, .int .i64 W] w fun e w' => e = .returned (.tuple #[.int .i64 x0, .int .i64 x1]) ∧ w = w' from by rw [← hx0, ← hx1]; exact part_any x SW W w hxx (by unfold I64; omega) (by omega))
  have HSY := Lib.hid (fun w => show Calls Try.prog 62 #[.int .i64 y, .int .i64 SH, .int .i64 H] w fun e w' => e = .returned (.tuple #[.int .i64 y0, .int .i64 y1]) ∧ w = w' from by rw [← hy0, ← hy1]; exact part_any y SH H w hyy (by unfold I64; omega) (by omega))
  have htt : t = ⟨W, SW, x, y, x0, x1, y0, y1⟩ := by rw [← ht]; unfold spotOf; rw [hx0, hx1, hy0, hy1]; simp
  have hx1W : x1 ≤ W := by have := bx.2.1; omega
  have hy1H : y1 ≤ H := by have := by'.2.1; omega
  have hx0W : x0 ≤ W := by have := bx.2.2.2; omega
  have hy0H : y0 ≤ H := by have := by'.2.2.2; omega
  have TW : t.W = W := by rw [htt]
  have TX0 : t.x0 = x0 := by rw [htt]
  have TX1 : t.x1 = x1 := by rw [htt]
  have TY0 : t.y0 = y0 := by rw [htt]
  have TY1 : t.y1 = y1 := by rw [htt]
  have HSTEP := Lib.hid (fun (X Y : Nat) (hX : X < W) (h0 : x0 ≤ X) (h1 : X < x1) (h2 : y0 ≤ Y) (h3 : Y < y1) (hn' : 4 * (Y * W + X) + 4 ≤ n) => show _ from by
    have h := drawD_step t p s n X Y (by rw [TW]; exact hX) (by rw [TX0]; exact h0) (by rw [TX1]; exact h1) (by rw [TY0]; exact h2) (by rw [TY1]; exact h3) (by rw [TW]; exact hn')
    rw [TW] at h
    rw [show t.y = y by rw [htt], show t.x = x by rw [htt], show t.SW = SW by rw [htt]] at h
    exact h)
  have HGET := Lib.hid (fun (X Y k : Nat) (hX : X < W) (hk : k < 4) (hn' : 4 * (Y * W + X) + 4 ≤ n) => show _ from by
    have h := drawD_get t p s n X Y k (by rw [TW]; exact hX) hk (by rw [TW]; exact hn')
    rw [TW] at h
    exact h)
  have HSTART := Lib.hid (show tab n (drawD t p s y0 x0) = p from by have h := drawD_start t p s n hpl; rw [TX0, TY0] at h; exact h)
  have HEND := Lib.hid (fun (X Y : Nat) (h : y1 ≤ Y) => drawD_end t p s n X Y (by rw [TY1]; exact h))
  have HROW := Lib.hid (fun (X Y : Nat) (h : x1 ≤ X) => show tab n (drawD t p s Y X) = tab n (drawD t p s (Y + 1) x0) from by have h := drawD_row t p s n X Y (by rw [TX1]; exact h); rw [TX0] at h; exact h)
  have HR1 := Lib.hid (fun w => show Calls Try.prog 63 #[.agg #[.int .i64 W, .int .i64 H, .slice av n cv]] w fun e w' => e = .returned (.bool true) ∧ Kept (fun _ => False) w w' from by
    rw [← hr1]; exact right_any ⟨W, H, p⟩ av n cv w (by unfold I64; simp only; omega) (by unfold I64; simp only; omega) hpl (by omega))
  have HR2 := Lib.hid (fun w => show Calls Try.prog 63 #[.agg #[.int .i64 SW, .int .i64 SH, .slice sa sn scap]] w fun e w' => e = .returned (.bool true) ∧ Kept (fun _ => False) w w' from by
    rw [← hr2]; exact right_any ⟨SW, SH, s⟩ sa sn scap w (by unfold I64; simp only; omega) (by unfold I64; simp only; omega) hs.1 (by omega))
  have HF := Lib.hid (show ∀ b, (Value.slice av n cv).ownBlock = some b → b < w.heap.size from fun b hb => Own.lt ho b hb)
  have HSF := Lib.hid (ub_of hs)
  have HSEP := Lib.hid hsep
  have HN := Lib.hid hn
  have HSN := Lib.hid hsn
  have HPB := Lib.hid hpb
  have HSB := Lib.hid hsb
  have HT := Lib.hid ht
  have hcv1 := hcv.1
  have hcv2 := hcv.2
  obtain ⟨U, hU⟩ : ∃ V, (w.alloc (.cells #[.int .i64 W, .int .i64 H, .slice av n cv] 31)).alloc (.cells #[.int .i64 SW, .int .i64 SH, .slice sa sn scap] 31) = V := ⟨_, rfl⟩
  have kU : Kept (fun _ => False) w U := by rw [← hU]; exact ((Kept.refl _ w).alloc _).alloc _
  have hiU : LayInv w W H SW SH sa sn scap av n cv s p U := ⟨ho.kept kU (fun _ _ => id), kU.mono (fun _ _ h => h.elim), by rw [← hU]; exact blk_alloc (blk_new _ _) _, by rw [← hU]; exact blk_at _ _ (by simp), hs.up kU⟩
  obtain ⟨⟨a0, -⟩, ⟨a1, -⟩, a2, -⟩ := blk3 hiU.2.2.1
  obtain ⟨⟨b0, -⟩, ⟨b1, -⟩, b2, -⟩ := blk3 hiU.2.2.2.1
  have HIU := Lib.hid hiU
  clear bx by' hx0 hx1 hy0 hy1 htt TW TX0 TX1 TY0 TY1 hpl ht hn hsn hr1 hr2 ho hs hpb hsb hsep hcv kU hiU
  go_enter Try.func110, Try.ntmps110
  go_wp2_with fail
  refine (HR1.out _).mono ?_; rintro e w1 ⟨rfl, hk⟩
  have hi1 := HIU.out.kept hk
  obtain ⟨⟨a0, -⟩, ⟨a1, -⟩, a2, -⟩ := blk3 hi1.2.2.1
  obtain ⟨⟨b0, -⟩, ⟨b1, -⟩, b2, -⟩ := blk3 hi1.2.2.2.1
  have HI1 := Lib.hid hi1
  clear hk hi1 hU
  go_wp2_with fail
  refine (HR2.out _).mono ?_; rintro e w2 ⟨rfl, hk⟩
  have hi2 := HI1.out.kept hk
  obtain ⟨⟨a0, -⟩, ⟨a1, -⟩, a2, -⟩ := blk3 hi2.2.2.1
  obtain ⟨⟨b0, -⟩, ⟨b1, -⟩, b2, -⟩ := blk3 hi2.2.2.2.1
  have HI2 := Lib.hid hi2
  clear hk hi2
  go_wp2_with (go_at_call 62; first | ((with_reducible refine (HSX.out _).mono ?_); rintro e w' ⟨rfl, rfl⟩) | ((with_reducible refine (HSY.out _).mono ?_); rintro e w' ⟨rfl, rfl⟩))
  clear a0 a1 a2 b0 b1 b2
  go_loopg [16, 17, 18] y1 (fun gg yv _ _ wr => ∃ Y : Nat, y0 ≤ Y ∧ y1 ≤ gg + Y ∧ Y ≤ H ∧ yv = .int .i64 Y ∧ LayInv w W H SW SH sa sn scap av n cv s (tab n (drawD t p s Y x0)) wr)
  case atStart => exact ⟨y0, by omega, by omega, by omega, rfl, by rw [HSTART.out]; exact HI2.out⟩
  case round =>
    obtain ⟨Y, hY0, hgg, hYH, rfl, hinv⟩ := hrel
    by_cases hY1 : Y < y1
    · have gy : decide (Y < y1) = true := decide_eq_true hY1
      have HI := Lib.hid hinv
      obtain ⟨gko, hgo⟩ : ∃ x, x = gk := ⟨_, rfl⟩
      subst hgo
      clear hinv
      go_wp2
      go_loopg [17, 18] x1 (fun gg xv _ wr => ∃ X : Nat, x0 ≤ X ∧ x1 ≤ gg + X ∧ X ≤ W ∧ xv = .int .i64 X ∧ LayInv w W H SW SH sa sn scap av n cv s (tab n (drawD t p s Y X)) wr)
      case atStart => exact ⟨x0, by omega, by omega, by omega, rfl, HI.out⟩
      case round =>
        obtain ⟨X, hX0, hgx, hXW', rfl, hinv⟩ := hrel
        by_cases hX1 : X < x1
        · have gx : decide (X < x1) = true := decide_eq_true hX1
          obtain ⟨px1, px2, hXW⟩ := PX.out X hX0 hX1
          obtain ⟨py1, py2, hYHl⟩ := PY.out Y hY0 hY1
          obtain ⟨QX, hqx⟩ : ∃ q : Nat, (X : Int) - x = (q : Int) := ⟨((X : Int) - x).toNat, by omega⟩
          obtain ⟨QY, hqy⟩ : ∃ q : Nat, (Y : Int) - y = (q : Int) := ⟨((Y : Int) - y).toNat, by omega⟩
          have hPn := fit_idx hXW hYHl
          have hn4 : 4 * (Y * W + X) + 4 ≤ n := by have := HN.out; omega
          have hQn := fit_idx (W := SW) (H := SH) (x := QX) (y := QY) (by omega) (by omega)
          have hM1 : W * H ≤ 67108864 := by have := HN.out; omega
          have hM2 : SW * SH ≤ 67108864 := by have := HSN.out; omega
          obtain ⟨g, hg⟩ := hinv.1.form (by omega)
          have hgF := HF.out g (by rw [hg]; rfl)
          obtain ⟨PP, hPP⟩ : ∃ q, Y * W + X = q := ⟨_, rfl⟩
          obtain ⟨QQ, hQQ⟩ : ∃ q, QY * SW + QX = q := ⟨_, rfl⟩
          obtain ⟨s0, hs0⟩ : ∃ z, s.getD (4 * QQ) 0 = z := ⟨_, rfl⟩
          obtain ⟨s1, hs1⟩ : ∃ z, s.getD (4 * QQ + 1) 0 = z := ⟨_, rfl⟩
          obtain ⟨s2, hs2⟩ : ∃ z, s.getD (4 * QQ + 2) 0 = z := ⟨_, rfl⟩
          obtain ⟨s3, hs3⟩ : ∃ z, s.getD (4 * QQ + 3) 0 = z := ⟨_, rfl⟩
          obtain ⟨p0, hp0⟩ : ∃ z, p.getD (4 * PP) 0 = z := ⟨_, rfl⟩
          obtain ⟨p1, hp1⟩ : ∃ z, p.getD (4 * PP + 1) 0 = z := ⟨_, rfl⟩
          obtain ⟨p2, hp2⟩ : ∃ z, p.getD (4 * PP + 2) 0 = z := ⟨_, rfl⟩
          obtain ⟨p3, hp3⟩ : ∃ z, p.getD (4 * PP + 3) 0 = z := ⟨_, rfl⟩
          have bs0 := getD_byte HSB.out (4 * QQ)
          have bs1 := getD_byte HSB.out (4 * QQ + 1)
          have bs2 := getD_byte HSB.out (4 * QQ + 2)
          have bs3 := getD_byte HSB.out (4 * QQ + 3)
          have bp0 := getD_byte HPB.out (4 * PP)
          have bp1 := getD_byte HPB.out (4 * PP + 1)
          have bp2 := getD_byte HPB.out (4 * PP + 2)
          rw [hs0] at bs0; rw [hs1] at bs1; rw [hs2] at bs2; rw [hs3] at bs3; rw [hp0] at bp0; rw [hp1] at bp1; rw [hp2] at bp2
          have HA := Lib.hid (fun (V' : World) (hi : LayInv w W H SW SH sa sn scap av n cv s (tab n (drawD t p s Y X)) V') => show Calls Try.prog 58 #[.agg #[.int .i64 W, .int .i64 H, .slice av n cv], .int .i64 X, .int .i64 Y] V' fun e w' => e = .returned (.agg #[.int .u8 p0, .int .u8 p1, .int .u8 p2, .int .u8 p3]) ∧ Kept (fun _ => False) V' w' from by
            have hsl : SlAt .u8 V' av n (tab n (drawD t p s Y X)) := by have h := hi.1; rw [hg] at h ⊢; exact h.slAt
            have h := at_any W H X Y (tab n (drawD t p s Y X)) av n cv V' hXW hYHl hM1 HN.out hsl hcv1 hcv2 hW hH
            have e0 := HGET.out X Y 0 hXW (by omega) hn4
            have e1 := HGET.out X Y 1 hXW (by omega) hn4
            have e2 := HGET.out X Y 2 hXW (by omega) hn4
            have e3 := HGET.out X Y 3 hXW (by omega) hn4
            rw [hPP] at h e0 e1 e2 e3
            unfold pixV at h
            rw [Nat.add_zero] at e0
            rw [e0, e1, e2, e3, hp0, hp1, hp2, hp3] at h
            exact h)
          have HS2 := Lib.hid (fun (V' : World) (hi : LayInv w W H SW SH sa sn scap av n cv s (tab n (drawD t p s Y X)) V') => show Calls Try.prog 58 #[.agg #[.int .i64 SW, .int .i64 SH, .slice sa sn scap], .int .i64 QX, .int .i64 QY] V' fun e w' => e = .returned (.agg #[.int .u8 s0, .int .u8 s1, .int .u8 s2, .int .u8 s3]) ∧ Kept (fun _ => False) V' w' from by
            have h := at_any SW SH QX QY s sa sn scap V' (by omega) (by omega) hM2 HSN.out hi.2.2.2.2 hsc hscm hSW hSH
            rw [hQQ] at h
            unfold pixV at h
            rw [hs0, hs1, hs2, hs3] at h
            exact h)
          have HOV := Lib.hid (fun w => show Calls Try.prog 27 #[.agg #[.int .u8 p0, .int .u8 p1, .int .u8 p2, .int .u8 p3], .agg #[.int .u8 s0, .int .u8 s1, .int .u8 s2, .int .u8 s3]] w fun e w' => e = .returned (.agg #[.int .u8 (ov p0 s0 s3), .int .u8 (ov p1 s1 s3), .int .u8 (ov p2 s2 s3), .int .u8 255]) ∧ Kept (fun _ => False) w w' from
            over_any p0 p1 p2 p3 s0 s1 s2 s3 w (by omega) (by omega) (by omega) (by omega) (by omega) (by omega) (by omega))
          have HST := Lib.hid (show spl (tab n (drawD t p s Y X)) (4 * PP) [ov p0 s0 s3, ov p1 s1 s3, ov p2 s2 s3, 255] = tab n (drawD t p s Y (X + 1)) from by
            have hst := HSTEP.out X Y hXW hX0 hX1 hY0 hY1 hn4 QQ (by rw [← hQQ, hqx, hqy]; rfl) [ov p0 s0 s3, ov p1 s1 s3, ov p2 s2 s3, 255] rfl (fun k hk => by
              unfold overK
              match k, hk with
              | 0, _ => rw [hPP]; simp only [Nat.add_zero]; rw [hp0, hs0, hs3]; rfl
              | 1, _ => rw [hPP, hp1, hs1, hs3]; rfl
              | 2, _ => rw [hPP, hp2, hs2, hs3]; rfl
              | 3, _ => rfl)
            rw [hPP] at hst; exact hst)
          have m1b : QX * SW ≤ 16384 * 16384 := Nat.mul_le_mul (by omega) (by omega)
          have m2b : QY * SH ≤ 16384 * 16384 := Nat.mul_le_mul (by omega) (by omega)
          obtain ⟨m1, hm1⟩ : ∃ q, QX * SW = q := ⟨_, rfl⟩
          obtain ⟨m2, hm2⟩ : ∃ q, QY * SH = q := ⟨_, rfl⟩
          obtain ⟨yW, hyW⟩ : ∃ q, Y * W = q := ⟨_, rfl⟩
          have hdx : m1 / SW = QX := by rw [← hm1]; exact Nat.mul_div_cancel _ (by omega)
          have hdy : m2 / SH = QY := by rw [← hm2]; exact Nat.mul_div_cancel _ (by omega)
          have yWb : Y * W ≤ 16384 * 16384 := Nat.mul_le_mul (by omega) (by omega)
          rw [hm1] at m1b
          rw [hm2] at m2b
          rw [hyW] at yWb hPP
          have v1 : (QX : Int) * (SW : Int) = (m1 : Int) := by rw [← hm1]; simp
          have v2 : (QY : Int) * (SH : Int) = (m2 : Int) := by rw [← hm2]; simp
          have v3 : (m1 : Int).tdiv (SW : Int) = (QX : Int) := by rw [Int.tdiv_eq_ediv_of_nonneg (by omega)]; omega
          have v4 : (m2 : Int).tdiv (SH : Int) = (QY : Int) := by rw [Int.tdiv_eq_ediv_of_nonneg (by omega)]; omega
          have v3' : (m1 : Int) / (SW : Int) = (QX : Int) := by omega
          have v4' : (m2 : Int) / (SH : Int) = (QY : Int) := by omega
          have v5 : (Y : Int) * (W : Int) = (yW : Int) := by rw [← hyW]; simp
          have u1 : IntKind.i64.wrap (QX : Int) = (QX : Int) := IntWalk.i64_in _ (by omega)
          have u2 : IntKind.i64.wrap (QY : Int) = (QY : Int) := IntWalk.i64_in _ (by omega)
          have u3 : IntKind.i64.wrap (m1 : Int) = (m1 : Int) := IntWalk.i64_in _ (by omega)
          have u4 : IntKind.i64.wrap (m2 : Int) = (m2 : Int) := IntWalk.i64_in _ (by omega)
          have z1 : ¬ SW = 0 := by omega
          have z2 : ¬ SH = 0 := by omega
          have z3 : ((SW : Int) == 0) = false := by simp; omega
          have z4 : ((SH : Int) == 0) = false := by simp; omega
          have z5 : ¬ (SW : Int) = 0 := by omega
          have z6 : ¬ (SH : Int) = 0 := by omega
          have HPP := Lib.hid hPP
          have HG := Lib.hid hg
          have HPXY := Lib.hid (And.intro hXW hYHl)
          have HN4 := Lib.hid (show 4 * (yW + X) + 4 ≤ n by rw [hyW] at hn4; exact hn4)
          obtain ⟨V, hV⟩ : ∃ V, V = wr := ⟨_, rfl⟩
          subst hV
          have HI0 := Lib.hid (hinv.kept ((Kept.refl (fun _ => False) V).drew))
          have HI0z := Lib.hid (hinv.kept (((Kept.refl (fun _ => False) V).alloc (.cells #[.int .u8 0, .int .u8 0, .int .u8 0, .int .u8 0] 66)).drew))
          have hVs : w.heap.size + 2 ≤ V.heap.size := by have := lt_of_blk hinv.2.2.2.1; omega
          have hFF : w.heap.size + 2 ≤ V.heap.size ∧ (∀ b, (Value.slice av n cv).ownBlock = some b → b < w.heap.size) ∧ (∀ b off, 0 < sn → sa = some ⟨b, off, none⟩ → b < w.heap.size) := ⟨hVs, HF.out, HSF.out⟩
          have HFF := Lib.hid hFF
          obtain ⟨⟨a0, -⟩, ⟨a1, -⟩, a2, -⟩ := blk3 hinv.2.2.1
          obtain ⟨⟨b0, -⟩, ⟨b1, -⟩, b2, -⟩ := blk3 hinv.2.2.2.1
          clear hinv hFF hs0 hs1 hs2 hs3 hp0 hp1 hp2 hp3 hPP hQQ hPn hQn hM1 hM2 hn4 hg hm1 hm2 hyW hdx hdy
          go_upto_region 10 with fail
          go_cut [18] (fun v wx => PixAt w V.heap.size v #[.int .u8 (ov p0 s0 s3), .int .u8 (ov p1 s1 s3), .int .u8 (ov p2 s2 s3), .int .u8 255] (LayInv w W H SW SH sa sn scap av n cv s (tab n (drawD t p s Y X))) wx)
          case first =>
            go_region_held3 (fun w' => w'.cell? ⟨w.heap.size, 0, none⟩ = some (.int .i64 W) ∧ w'.cell? ⟨w.heap.size, 1, none⟩ = some (.int .i64 H) ∧ w'.cell? ⟨w.heap.size, 2, none⟩ = some (.slice av n cv) ∧ w'.cell? ⟨w.heap.size + 1, 0, none⟩ = some (.int .i64 SW) ∧ w'.cell? ⟨w.heap.size + 1, 1, none⟩ = some (.int .i64 SH) ∧ w'.cell? ⟨w.heap.size + 1, 2, none⟩ = some (.slice sa sn scap)) (first | ((go_keep; done)) | (go_split_ands; all_goals go_keep)) (first | (go_at_call 58; first | ((with_reducible refine Calls.mono (HA.out V.drew HI0.out) ?_); rintro e w1 ⟨rfl, h1⟩; have hs1 : V.heap.size ≤ w1.heap.size := h1.size; have hiA := HI0.out.kept h1; obtain ⟨⟨a0, -⟩, ⟨a1, -⟩, a2, -⟩ := blk3 hiA.2.2.1; obtain ⟨⟨b0, -⟩, ⟨b1, -⟩, b2, -⟩ := blk3 hiA.2.2.2.1; have HIA := Lib.hid hiA; clear h1 hiA) | ((with_reducible refine Calls.mono (HA.out (V.alloc (.cells #[.int .u8 0, .int .u8 0, .int .u8 0, .int .u8 0] 66)).drew HI0z.out) ?_); rintro e w1 ⟨rfl, h1⟩; have hs1 : V.heap.size ≤ w1.heap.size := Nat.le_trans (by simp) h1.size; have hiA := HI0z.out.kept h1; have HZ1 := Lib.hid (show w1.heap[V.heap.size]? = some (.cells #[.int .u8 0, .int .u8 0, .int .u8 0, .int .u8 0] 66) from h1.blk (show _ from blk_new V (.cells #[.int .u8 0, .int .u8 0, .int .u8 0, .int .u8 0] 66)) id); obtain ⟨⟨a0, -⟩, ⟨a1, -⟩, a2, -⟩ := blk3 hiA.2.2.1; obtain ⟨⟨b0, -⟩, ⟨b1, -⟩, b2, -⟩ := blk3 hiA.2.2.2.1; have HIA := Lib.hid hiA; clear h1 hiA) | ((with_reducible refine Calls.mono (HS2.out w1 HIA.out) ?_); rintro e w2 ⟨rfl, h2⟩; have hs2 : V.heap.size ≤ w2.heap.size := Nat.le_trans hs1 h2.size; have hiB := HIA.out.kept h2; (first | (have HZ2 := Lib.hid (h2.blk HZ1.out id)) | skip); obtain ⟨⟨a0, -⟩, ⟨a1, -⟩, a2, -⟩ := blk3 hiB.2.2.1; obtain ⟨⟨b0, -⟩, ⟨b1, -⟩, b2, -⟩ := blk3 hiB.2.2.2.1; have HIB := Lib.hid hiB; clear h2 hiB) | ((with_reducible refine Calls.mono (HS2.out (w1.alloc (.cells #[.int .u8 0, .int .u8 0, .int .u8 0, .int .u8 0] 66)) (HIA.out.kept ((Kept.refl (fun _ => False) w1).alloc (.cells #[.int .u8 0, .int .u8 0, .int .u8 0, .int .u8 0] 66)))) ?_); rintro e w2 ⟨rfl, h2⟩; have hs2 : V.heap.size ≤ w2.heap.size := Nat.le_trans hs1 (Nat.le_trans (by simp) h2.size); have hiB := (HIA.out.kept ((Kept.refl (fun _ => False) w1).alloc (.cells #[.int .u8 0, .int .u8 0, .int .u8 0, .int .u8 0] 66))).kept h2; have HZ2 := Lib.hid (show w2.heap[w1.heap.size]? = some (.cells #[.int .u8 0, .int .u8 0, .int .u8 0, .int .u8 0] 66) from h2.blk (blk_new w1 (.cells #[.int .u8 0, .int .u8 0, .int .u8 0, .int .u8 0] 66)) id); obtain ⟨⟨a0, -⟩, ⟨a1, -⟩, a2, -⟩ := blk3 hiB.2.2.1; obtain ⟨⟨b0, -⟩, ⟨b1, -⟩, b2, -⟩ := blk3 hiB.2.2.2.1; have HIB := Lib.hid hiB; clear h2 hiB)) | (go_at_call 27; first | ((with_reducible refine Calls.mono (HOV.out w2) ?_); rintro e w3 ⟨rfl, h3⟩; have hs3 : V.heap.size ≤ w3.heap.size := Nat.le_trans hs2 h3.size; have hi := HIB.out.kept h3; obtain ⟨⟨a0, -⟩, ⟨a1, -⟩, a2, -⟩ := blk3 hi.2.2.1; obtain ⟨⟨b0, -⟩, ⟨b1, -⟩, b2, -⟩ := blk3 hi.2.2.2.1; (first | (have hz := h3.blk HZ2.out id; first | (obtain ⟨V1, V2, V3, V4, f1, f2, f3, f4, ⟨g0, g0'⟩, ⟨g1, g1'⟩, ⟨g2, g2'⟩, ⟨g3, g3'⟩, bV, kV4⟩ := store4 hz (.int .u8 (ov p0 s0 s3)) (.int .u8 (ov p1 s1 s3)) (.int .u8 (ov p2 s2 s3)) (.int .u8 255); have hi4 := hi.put' kV4 ⟨by omega, HFF.out.2⟩; obtain ⟨⟨a0, -⟩, ⟨a1, -⟩, a2, -⟩ := blk3 hi4.2.2.1; obtain ⟨⟨b0, -⟩, ⟨b1, -⟩, b2, -⟩ := blk3 hi4.2.2.2.1; have HM := Lib.hid (show PixAt w V.heap.size (.pointer (some ⟨V.heap.size, 0, none⟩)) #[.int .u8 (ov p0 s0 s3), .int .u8 (ov p1 s1 s3), .int .u8 (ov p2 s2 s3), .int .u8 255] (LayInv w W H SW SH sa sn scap av n cv s (tab n (drawD t p s Y X))) V4 from ⟨_, rfl, by omega, bV, hi4⟩); clear hz bV kV4 hi4) | (obtain ⟨V1, V2, V3, V4, f1, f2, f3, f4, ⟨g0, g0'⟩, ⟨g1, g1'⟩, ⟨g2, g2'⟩, ⟨g3, g3'⟩, bV, kV4⟩ := store4 hz (.int .u8 (ov p0 s0 s3)) (.int .u8 (ov p1 s1 s3)) (.int .u8 (ov p2 s2 s3)) (.int .u8 255); have hi4 := hi.put' kV4 ⟨by omega, HFF.out.2⟩; obtain ⟨⟨a0, -⟩, ⟨a1, -⟩, a2, -⟩ := blk3 hi4.2.2.1; obtain ⟨⟨b0, -⟩, ⟨b1, -⟩, b2, -⟩ := blk3 hi4.2.2.2.1; have HM := Lib.hid (show PixAt w V.heap.size (.pointer (some ⟨w1.heap.size, 0, none⟩)) #[.int .u8 (ov p0 s0 s3), .int .u8 (ov p1 s1 s3), .int .u8 (ov p2 s2 s3), .int .u8 255] (LayInv w W H SW SH sa sn scap av n cv s (tab n (drawD t p s Y X))) V4 from ⟨_, rfl, by omega, bV, hi4⟩); clear hz bV kV4 hi4)) | (obtain ⟨V4, hV4⟩ : ∃ V, w3.alloc (.cells #[.int .u8 (ov p0 s0 s3), .int .u8 (ov p1 s1 s3), .int .u8 (ov p2 s2 s3), .int .u8 255] 66) = V := ⟨_, rfl⟩; have hi4 := (show LayInv w W H SW SH sa sn scap av n cv s (tab n (drawD t p s Y X)) V4 from (by rw [← hV4]; exact hi.kept ((Kept.refl _ w3).alloc _))); obtain ⟨⟨a0, -⟩, ⟨a1, -⟩, a2, -⟩ := blk3 hi4.2.2.1; obtain ⟨⟨b0, -⟩, ⟨b1, -⟩, b2, -⟩ := blk3 hi4.2.2.2.1; have HM := Lib.hid (show PixAt w V.heap.size (.pointer (some ⟨w3.heap.size, 0, none⟩)) #[.int .u8 (ov p0 s0 s3), .int .u8 (ov p1 s1 s3), .int .u8 (ov p2 s2 s3), .int .u8 255] (LayInv w W H SW SH sa sn scap av n cv s (tab n (drawD t p s Y X))) V4 from ⟨_, rfl, by omega, (by rw [← hV4]; exact blk_new _ _), hi4⟩); clear hi4)); clear h3 hi) | ((with_reducible refine Calls.mono (HOV.out (w2.alloc (.cells #[.int .u8 0, .int .u8 0, .int .u8 0, .int .u8 0] 66))) ?_); rintro e w3 ⟨rfl, h3⟩; have hi := (HIB.out.kept ((Kept.refl (fun _ => False) w2).alloc (.cells #[.int .u8 0, .int .u8 0, .int .u8 0, .int .u8 0] 66))).kept h3; have hz := (show w3.heap[w2.heap.size]? = some (.cells #[.int .u8 0, .int .u8 0, .int .u8 0, .int .u8 0] 66) from h3.blk (blk_new w2 (.cells #[.int .u8 0, .int .u8 0, .int .u8 0, .int .u8 0] 66)) id); obtain ⟨⟨a0, -⟩, ⟨a1, -⟩, a2, -⟩ := blk3 hi.2.2.1; obtain ⟨⟨b0, -⟩, ⟨b1, -⟩, b2, -⟩ := blk3 hi.2.2.2.1; obtain ⟨V1, V2, V3, V4, f1, f2, f3, f4, ⟨g0, g0'⟩, ⟨g1, g1'⟩, ⟨g2, g2'⟩, ⟨g3, g3'⟩, bV, kV4⟩ := store4 hz (.int .u8 (ov p0 s0 s3)) (.int .u8 (ov p1 s1 s3)) (.int .u8 (ov p2 s2 s3)) (.int .u8 255); have hi4 := hi.put' kV4 ⟨by omega, HFF.out.2⟩; obtain ⟨⟨a0, -⟩, ⟨a1, -⟩, a2, -⟩ := blk3 hi4.2.2.1; obtain ⟨⟨b0, -⟩, ⟨b1, -⟩, b2, -⟩ := blk3 hi4.2.2.2.1; have HM := Lib.hid (show PixAt w V.heap.size (.pointer (some ⟨w2.heap.size, 0, none⟩)) #[.int .u8 (ov p0 s0 s3), .int .u8 (ov p1 s1 s3), .int .u8 (ov p2 s2 s3), .int .u8 255] (LayInv w W H SW SH sa sn scap av n cv s (tab n (drawD t p s Y X))) V4 from ⟨_, rfl, by omega, bV, hi4⟩); clear hz bV kV4 hi4; clear h3 hi)))
            all_goals
              go_wp2_with fail
              go_meet
              exact HM.out
          case rest =>
            obtain ⟨p18, rfl, hp18, b18, hinv⟩ := hcut
            have HI := Lib.hid hinv
            obtain ⟨⟨a0, -⟩, ⟨a1, -⟩, a2, -⟩ := blk3 hinv.2.2.1
            have hgF := HF.out g (by rw [HG.out]; rfl)
            have hg18 : p18 ≠ g := by omega
            have HOW := Lib.hid (show Own .u8 5 wc (.slice (some ⟨g, 0, none⟩) n cv) (tab n (drawD t p s Y X)) from by have h := hinv.1; rw [HG.out] at h; exact h)
            have HS18 := Lib.hid (show SlAt .u8 wc (some ⟨p18, 0, none⟩) 4 [ov p0 s0 s3, ov p1 s1 s3, ov p2 s2 s3, 255] from slAt_blk b18 rfl rfl)
            have hn4 := HN4.out
            have l1 : 0 ≤ 4 * ((yW : Int) + (X : Int)) := by omega
            have l2 : 4 * ((yW : Int) + (X : Int)) ≤ (n : Int) := by omega
            have l3 : 4 * ((yW : Int) + (X : Int)) ≤ (cv : Int) := by omega
            have t1 : (4 * ((yW : Int) + (X : Int))).toNat = 4 * (yW + X) := by omega
            have w1' : IntKind.i64.wrap (yW : Int) = (yW : Int) := IntWalk.i64_in _ (by omega)
            have w2' : IntKind.i64.wrap ((yW : Int) + (X : Int)) = (yW : Int) + (X : Int) := IntWalk.i64_in _ (by omega)
            have w3' : IntKind.i64.wrap (4 * ((yW : Int) + (X : Int))) = 4 * ((yW : Int) + (X : Int)) := IntWalk.i64_in _ (by omega)
            have hcap : ¬ (cv = 4 * (yW + X)) := by omega
            have hmin := Lib.hid (show 4 = Nat.min 4 (n - 4 * (yW + X)) from (Nat.min_eq_left (show 4 ≤ n - 4 * (yW + X) by omega)).symm)
            have HAV := Lib.hid HG.out
            obtain rfl := HG.out
            clear hinv b18
            go_wp2
            go_still_tail 11, (by kernel_rfl)
            clear l1 l2 l3 t1 w1' w2' w3'
            change wpList _ _ _ _ _ wc.drew
            refine wpList_cp rfl (.tmp 87) (.tmp 88) 29 29 rfl 5 .u8 Try.underlying29 Try.size5 g n cv (4 * (yW + X)) _ _ _ rfl (HOW.out.kept ((Kept.refl (fun _ => False) wc).drew) (fun _ _ => id)) (some ⟨p18, 0, none⟩) 4 _ _ rfl (HS18.out.up ((Kept.refl (fun _ => False) wc).drew)) 4 hmin.out (by omega) ?_
            intro w4 ho4 hk4
            have HI4 := Lib.hid (show LayInv w W H SW SH sa sn scap (some ⟨g, 0, none⟩) n cv s (tab n (drawD t p s Y (X + 1))) w4 from by
              have hst := HST.out
              rw [← HPP.out] at hst
              rw [← hst]
              exact (HI.out.kept ((Kept.refl (fun _ => False) wc).drew)).put ho4 hk4 rfl hgF (fun b off h0 he hb => HSEP.out b off h0 he (by rw [hb]; rfl)))
            have hXW2 := HPXY.out.1
            clear ho4 hk4
            go_wp2
            go_roundg (gk - 1)
            case rel => exact ⟨X + 1, by omega, by omega, by omega, by go_num, HI4.out⟩
            case measure => omega
        · have gx : decide (X < x1) = false := decide_eq_false hX1
          have hrow := HROW.out X Y (by omega)
          rw [hrow] at hinv
          have HI := Lib.hid hinv
          clear hinv hrow
          go_wp2
          go_roundg (gko - 1)
          case rel => exact ⟨Y + 1, by omega, by omega, by omega, by go_num, HI.out⟩
          case measure => omega
    · have gy : decide (Y < y1) = false := decide_eq_false hY1
      have hend := HEND.out x0 Y (by omega)
      rw [hend] at hinv
      have HO := Lib.hid hinv.1
      have HK := Lib.hid hinv.2.1
      clear hinv hend
      go_wp2
      go_end0
      exact ⟨rfl, by rw [HT.out]; exact HO.out, HK.out⟩

end Go.Proofs.Ytdjgmhbfohbenaa
namespace Go.Proofs.Ytdjgmhbfohbenaa
open Go.RowKit Go.Sort
set_option linter.unusedVariables false
set_option linter.unusedSimpArgs false
/-- A part painted pixel by pixel: pixel P, byte k gets K P k. -/
def paintD (t : Spot) (p : List Int) (K : Nat → Nat → Int) (Y X q : Nat) : Int := if t.inside (q / 4) ∧ t.done Y X (q / 4) then K (q / 4) (q % 4) else p.getD q 0
def paintF (t : Spot) (p : List Int) (K : Nat → Nat → Int) (q : Nat) : Int := if t.inside (q / 4) then K (q / 4) (q % 4) else p.getD q 0
theorem paintD_start (t : Spot) (p : List Int) (K : Nat → Nat → Int) (n : Nat) (hp : p.length = n) : tab n (paintD t p K t.y0 t.x0) = p := by
  refine list_ext (by rw [tab_length, hp]) (fun j hj => ?_)
  rw [tab_length] at hj
  rw [tab_get hj]
  unfold paintD
  rw [if_neg]
  rintro ⟨h1, h2⟩
  unfold Spot.inside at h1
  unfold Spot.done at h2
  omega
theorem paintD_end (t : Spot) (p : List Int) (K : Nat → Nat → Int) (n X Y : Nat) (hY : t.y1 ≤ Y) : tab n (paintD t p K Y X) = tab n (paintF t p K) := by
  refine tab_ext fun j hj => ?_
  unfold paintD paintF
  by_cases h : t.inside (j / 4)
  · have h2 : t.done Y X (j / 4) := by unfold Spot.inside at h; unfold Spot.done; omega
    rw [if_pos ⟨h, h2⟩, if_pos h]
  · rw [if_neg (fun h2 => h h2.1), if_neg h]
theorem paintD_row (t : Spot) (p : List Int) (K : Nat → Nat → Int) (n X Y : Nat) (hX : t.x1 ≤ X) : tab n (paintD t p K Y X) = tab n (paintD t p K (Y + 1) t.x0) := by
  refine tab_ext fun j hj => ?_
  unfold paintD
  by_cases h : t.inside (j / 4)
  · by_cases h2 : t.done Y X (j / 4)
    · have h3 : t.done (Y + 1) t.x0 (j / 4) := by unfold Spot.inside at h; unfold Spot.done at *; omega
      rw [if_pos ⟨h, h2⟩, if_pos ⟨h, h3⟩]
    · have h3 : ¬ t.done (Y + 1) t.x0 (j / 4) := by unfold Spot.inside at h; unfold Spot.done at *; omega
      rw [if_neg (fun h4 => h2 h4.2), if_neg (fun h4 => h3 h4.2)]
  · rw [if_neg (fun h2 => h h2.1), if_neg (fun h2 => h h2.1)]
theorem paintD_step (t : Spot) (p : List Int) (K : Nat → Nat → Int) (n X Y : Nat) (hX : X < t.W) (h0 : t.x0 ≤ X) (h1 : X < t.x1) (h2 : t.y0 ≤ Y) (h3 : Y < t.y1) (hn : 4 * (Y * t.W + X) + 4 ≤ n) (ys : List Int) (hl : ys.length = 4)
    (hy : ∀ k, k < 4 → ys.getD k 0 = K (Y * t.W + X) k) :
    spl (tab n (paintD t p K Y X)) (4 * (Y * t.W + X)) ys = tab n (paintD t p K Y (X + 1)) := by
  rw [spl_tab (by omega)]
  obtain ⟨e1, e2⟩ := pos_of (y := Y) hX
  refine tab_ext fun j hj => ?_
  by_cases hj4 : j / 4 = Y * t.W + X
  · rw [if_pos (by omega), hy _ (by omega)]
    unfold paintD
    rw [hj4, if_pos]
    · congr 1; omega
    · unfold Spot.inside Spot.done; rw [e1, e2]; omega
  · rw [if_neg (by omega)]
    unfold paintD
    by_cases hi : t.inside (j / 4)
    · by_cases hd : t.done Y X (j / 4)
      · have hd2 : t.done Y (X + 1) (j / 4) := by unfold Spot.done at *; omega
        rw [if_pos ⟨hi, hd⟩, if_pos ⟨hi, hd2⟩]
      · have hd2 : ¬ t.done Y (X + 1) (j / 4) := by
          intro h
          apply hj4
          unfold Spot.done at h hd
          exact unpos (by omega) (by omega)
        rw [if_neg (fun h => hd h.2), if_neg (fun h => hd2 h.2)]
    · rw [if_neg (fun h => hi h.1), if_neg (fun h => hi h.1)]
/-- Byte k of pixel P of a part that is C wide and begins at x0, y0 of p, W wide. -/
def cutK (W x0 y0 C : Nat) (p : List Int) (P k : Nat) : Int := p.getD (4 * ((P / C + y0) * W + (P % C + x0)) + k) 0
def cutF (W x0 y0 C : Nat) (p : List Int) (q : Nat) : Int := cutK W x0 y0 C p (q / 4) (q % 4)
theorem tab_app {n m : Nat} {f : Nat → Int} {ys : List Int} (h : ys.length = m) (hy : ∀ j, j < m → ys.getD j 0 = f (n + j)) : tab n f ++ ys = tab (n + m) f := by
  refine list_ext (by simp [tab, h]) (fun j hj => ?_)
  rw [List.length_append, tab_length, h] at hj
  rw [tab_get hj]
  by_cases h1 : j < n
  · rw [← tab_get (f := f) h1]
    rw [List.getD_eq_getElem?_getD, List.getD_eq_getElem?_getD, List.getElem?_append_left (by rw [tab_length]; exact h1)]
  · have := hy (j - n) (by omega)
    rw [show n + (j - n) = j by omega] at this
    rw [← this, List.getD_eq_getElem?_getD, List.getD_eq_getElem?_getD, List.getElem?_append_right (by rw [tab_length]; omega), tab_length]
theorem cut_row {W x0 y0 C r j : Nat} (hj : j < 4 * C) (p : List Int) : cutF W x0 y0 C p (4 * C * r + j) = p.getD (4 * ((r + y0) * W + x0) + j) 0 := by
  unfold cutF cutK
  have hC : 0 < C := by omega
  have e1 : (4 * C * r + j) / 4 = r * C + j / 4 := by rw [Nat.mul_assoc, show C * r = r * C from Nat.mul_comm ..]; omega
  have e2 : (4 * C * r + j) % 4 = j % 4 := by rw [Nat.mul_assoc]; omega
  obtain ⟨e3, e4⟩ := pos_of (W := C) (x := j / 4) (y := r) (by omega)
  rw [e1, e2, e3, e4]
  congr 1
  omega
theorem paintF_all {C H x0 y0 W : Nat} (p z : List Int) : tab (4 * (C * H)) (paintF ⟨C, 0, 0, 0, 0, C, 0, H⟩ z (cutK W x0 y0 C p)) = tab (4 * (C * H)) (cutF W x0 y0 C p) := by
  refine tab_ext fun j hj => ?_
  unfold paintF cutF
  have hC : 0 < C := Nat.pos_of_ne_zero (by rintro rfl; simp at hj)
  have hP : j / 4 < C * H := by omega
  rw [if_pos]
  refine ⟨Nat.zero_le _, Nat.mod_lt _ hC, Nat.zero_le _, ?_⟩
  exact Nat.div_lt_of_lt_mul hP
end Go.Proofs.Ytdjgmhbfohbenaa
namespace Go.Proofs.Ytdjgmhbfohbenaa
open Go.RowKit Go.Sort
set_option linter.unusedVariables false
set_option linter.unusedSimpArgs false

set_option maxRecDepth 100000 in
set_option maxHeartbeats 4000000 in
theorem in_any (W H x y : Int) (a : Option Addr) (n cap : Nat) (w : World) (hn : (n : Int) = 4 * W * H) (hs : sizeB W H = true) : Calls Try.prog 57 #[.agg #[.int .i64 W, .int .i64 H, .slice a n cap], .int .i64 x, .int .i64 y] w fun e w' => e = .returned (.bool (inB W H x y)) ∧ Kept (fun _ => False) w w' := by
  obtain ⟨a1, a2, a3, a4, a5, a6, -⟩ := sizeB_t hs
  have hn' : 4 * W * H = (n : Int) := hn.symm
  have hnb : n ≤ 268435456 := by rw [Int.mul_assoc] at hn; omega
  obtain ⟨V, hV⟩ : ∃ V, w.alloc (.cells #[.int .i64 W, .int .i64 H, .slice a n cap] 31) = V := ⟨_, rfl⟩
  have kV : Kept (fun _ => False) w V := by rw [← hV]; exact (Kept.refl _ w).alloc _
  have b0 : V.heap[w.heap.size]? = some (.cells #[.int .i64 W, .int .i64 H, .slice a n cap] 31 (0, 0)) := by rw [← hV]; exact blk_new _ _
  obtain ⟨⟨c0, -⟩, ⟨c1, -⟩, c2, -⟩ := blk3 b0
  have HK := Lib.hid kV
  clear b0 kV hn hs a5 a6
  by_cases h0 : ¬ (0 ≤ x)
  · have g0 : decide (0 ≤ x) = false := decide_eq_false h0
    have HE := Lib.hid (show inB W H x y = false from decide_eq_false (by omega))
    clear h0
    go_enter Try.func57, Try.ntmps57
    go_wp2
    go_ret
    exact ⟨ret_bool (by rw [HE.out]), HK.out⟩
  have g0 : decide (0 ≤ x) = true := decide_eq_true (by omega)
  by_cases h1 : ¬ (x < W)
  · have g1 : decide (x < W) = false := decide_eq_false h1
    have HE := Lib.hid (show inB W H x y = false from decide_eq_false (by omega))
    clear h1
    go_enter Try.func57, Try.ntmps57
    go_wp2
    go_ret
    exact ⟨ret_bool (by rw [HE.out]), HK.out⟩
  have g1 : decide (x < W) = true := decide_eq_true (by omega)
  by_cases h2 : ¬ (0 ≤ y)
  · have g2 : decide (0 ≤ y) = false := decide_eq_false h2
    have HE := Lib.hid (show inB W H x y = false from decide_eq_false (by omega))
    clear h2
    go_enter Try.func57, Try.ntmps57
    go_wp2
    go_ret
    exact ⟨ret_bool (by rw [HE.out]), HK.out⟩
  have g2 : decide (0 ≤ y) = true := decide_eq_true (by omega)
  by_cases h3 : ¬ (y < H)
  · have g3 : decide (y < H) = false := decide_eq_false h3
    have HE := Lib.hid (show inB W H x y = false from decide_eq_false (by omega))
    clear h3
    go_enter Try.func57, Try.ntmps57
    go_wp2
    go_ret
    exact ⟨ret_bool (by rw [HE.out]), HK.out⟩
  have g3 : decide (y < H) = true := decide_eq_true (by omega)
  have HE := Lib.hid (show inB W H x y = true from decide_eq_true (by omega))
  clear h0 h1 h2 h3
  go_enter Try.func57, Try.ntmps57
  go_wp2
  go_ret
  exact ⟨ret_bool (by rw [HE.out]), HK.out⟩

set_option maxRecDepth 100000 in
set_option maxHeartbeats 4000000 in
theorem atc_no (W H x y : Int) (a : Option Addr) (n cap : Nat) (w : World) (hn : (n : Int) = 4 * W * H) (hs : sizeB W H = true) (h : inB W H x y = false) : Calls Try.prog 26 #[.agg #[.int .i64 W, .int .i64 H, .slice a n cap], .int .i64 x, .int .i64 y] w fun e w' => e = .returned (.tuple #[.agg #[.int .u8 0, .int .u8 0, .int .u8 0, .int .u8 0], .bool false]) ∧ Kept (fun _ => False) w w' := by
  obtain ⟨V, hV⟩ : ∃ V, (w.alloc (.cells #[.int .i64 W, .int .i64 H, .slice a n cap] 31)).alloc (.cells #[.int .u8 0, .int .u8 0, .int .u8 0, .int .u8 0] 66) = V := ⟨_, rfl⟩
  have kV : Kept (fun _ => False) w V := by rw [← hV]; exact ((Kept.refl _ w).alloc _).alloc _
  have b0 : V.heap[w.heap.size]? = some (.cells #[.int .i64 W, .int .i64 H, .slice a n cap] 31 (0, 0)) := by rw [← hV]; exact blk_alloc (blk_new _ _) _
  have b1 : V.heap[w.heap.size + 1]? = some (.cells #[.int .u8 0, .int .u8 0, .int .u8 0, .int .u8 0] 66 (0, 0)) := by rw [← hV]; exact blk_at _ _ (by simp)
  have HI := Lib.hid (fun w => show Calls Try.prog 57 #[.agg #[.int .i64 W, .int .i64 H, .slice a n cap], .int .i64 x, .int .i64 y] w fun e w' => e = .returned (.bool false) ∧ Kept (fun _ => False) w w' from by rw [← h]; exact in_any W H x y a n cap w hn hs)
  obtain ⟨⟨c0, -⟩, ⟨c1, -⟩, c2, -⟩ := blk3 b0
  have HB1 := Lib.hid b1
  have HK := Lib.hid kV
  clear b0 b1 kV h hn hs
  go_enter Try.func26, Try.ntmps26
  go_wp2_with fail
  refine (HI.out _).mono ?_; rintro e w1 ⟨rfl, hk⟩
  obtain ⟨V1, V2, V3, V4, f1, f2, f3, f4, ⟨g0, g0'⟩, ⟨g1, g1'⟩, ⟨g2, g2'⟩, ⟨g3, g3'⟩, bV, kV4⟩ := store4 (hk.blk HB1.out id) (.int .u8 0) (.int .u8 0) (.int .u8 0) (.int .u8 0)
  obtain ⟨⟨m0, -⟩, ⟨m1, -⟩, ⟨m2, -⟩, m3, -⟩ := blk4 bV
  have HKV := Lib.hid ((HK.out.then hk).trans (kV4.mono fun i _ hi => Or.inr (by have h9 : i = w.heap.size + 1 := hi; omega)))
  clear hk bV kV4
  go_wp2
  exact bodyPost_ret (v := .tuple #[.agg #[.int .u8 0, .int .u8 0, .int .u8 0, .int .u8 0], .bool false]) (by simp [results, Try.results26, go_sem, m0, m1, m2, m3]) rfl ⟨rfl, HKV.out⟩

set_option maxRecDepth 100000 in
set_option maxHeartbeats 4000000 in
theorem atc_yes (W H x y : Nat) (p : List Int) (a : Option Addr) (n cap : Nat) (w : World) (hr : rightM ⟨W, H, p⟩ = true) (hx : x < W) (hy : y < H) (hs : SlAt .u8 w a n p) (hc : n ≤ cap) (hcm : cap ≤ 9223372036854775807) :
    Calls Try.prog 26 #[.agg #[.int .i64 W, .int .i64 H, .slice a n cap], .int .i64 x, .int .i64 y] w fun e w' => e = .returned (.tuple #[pixV p (y * W + x), .bool true]) ∧ Kept (fun _ => False) w w' := by
  have hr2 := hr
  unfold rightM at hr2
  rw [Bool.and_eq_true] at hr2
  have hsz : sizeB W H = true := hr2.1
  have h4 : (p.length : Int) = 4 * (W : Int) * (H : Int) := of_decide_eq_true hr2.2
  obtain ⟨b1, b2, b3, b4, b5, b6, -⟩ := sizeB_t hsz
  have hwh : (W : Int) * (H : Int) = ((W * H : Nat) : Int) := by simp
  have hpl := hs.1
  have hnI : (n : Int) = 4 * (W : Int) * (H : Int) := by rw [← hpl]; exact h4
  rw [Int.mul_assoc, hwh] at h4
  rw [hwh] at b6
  have HI := Lib.hid (fun w => show Calls Try.prog 57 #[.agg #[.int .i64 W, .int .i64 H, .slice a n cap], .int .i64 x, .int .i64 y] w fun e w' => e = .returned (.bool true) ∧ Kept (fun _ => False) w w' from by
    have h := in_any W H x y a n cap w hnI hsz
    rw [show inB W H x y = true from decide_eq_true (by omega)] at h; exact h)
  obtain ⟨V, hV⟩ : ∃ V, (w.alloc (.cells #[.int .i64 W, .int .i64 H, .slice a n cap] 31)).alloc (.cells #[.int .u8 0, .int .u8 0, .int .u8 0, .int .u8 0] 66) = V := ⟨_, rfl⟩
  have kV : Kept (fun _ => False) w V := by rw [← hV]; exact ((Kept.refl _ w).alloc _).alloc _
  have b0 : V.heap[w.heap.size]? = some (.cells #[.int .i64 W, .int .i64 H, .slice a n cap] 31 (0, 0)) := by rw [← hV]; exact blk_alloc (blk_new _ _) _
  have bb1 : V.heap[w.heap.size + 1]? = some (.cells #[.int .u8 0, .int .u8 0, .int .u8 0, .int .u8 0] 66 (0, 0)) := by rw [← hV]; exact blk_at _ _ (by simp)
  obtain ⟨c0, hc0⟩ : ∃ z, p.getD (4 * (y * W + x)) 0 = z := ⟨_, rfl⟩
  obtain ⟨c1, hc1⟩ : ∃ z, p.getD (4 * (y * W + x) + 1) 0 = z := ⟨_, rfl⟩
  obtain ⟨c2, hc2⟩ : ∃ z, p.getD (4 * (y * W + x) + 2) 0 = z := ⟨_, rfl⟩
  obtain ⟨c3, hc3⟩ : ∃ z, p.getD (4 * (y * W + x) + 3) 0 = z := ⟨_, rfl⟩
  have hE : pixV p (y * W + x) = .agg #[.int .u8 c0, .int .u8 c1, .int .u8 c2, .int .u8 c3] := by unfold pixV; rw [hc0, hc1, hc2, hc3]
  have HA := Lib.hid (fun (V' : World) (hk : Kept (fun _ => False) w V') => show Calls Try.prog 58 #[.agg #[.int .i64 W, .int .i64 H, .slice a n cap], .int .i64 x, .int .i64 y] V' fun e w' => e = .returned (.agg #[.int .u8 c0, .int .u8 c1, .int .u8 c2, .int .u8 c3]) ∧ Kept (fun _ => False) V' w' from by
    rw [← hE]; exact at_any W H x y p a n cap V' hx hy (by omega) (by omega) (hs.up hk) hc hcm (by omega) (by omega))
  obtain ⟨⟨x0, -⟩, ⟨x1, -⟩, x2, -⟩ := blk3 b0
  rw [hE]
  have HB0 := Lib.hid b0
  have HB1 := Lib.hid bb1
  have HK := Lib.hid kV
  clear b0 bb1 kV hr hr2 hsz h4 b1 b2 b3 b4 b5 b6 hwh hpl hnI hc0 hc1 hc2 hc3 hE hs hx hy
  go_enter Try.func26, Try.ntmps26
  go_wp2_with fail
  refine (HI.out _).mono ?_; rintro e w1 ⟨rfl, hk⟩
  have HK1 := Lib.hid (HK.out.then hk)
  obtain ⟨⟨x0, -⟩, ⟨x1, -⟩, x2, -⟩ := blk3 (hk.blk HB0.out id)
  have HB1' := Lib.hid (hk.blk HB1.out id)
  clear hk
  go_wp2_with fail
  refine (HA.out _ HK1.out).mono ?_; rintro e w2 ⟨rfl, hk⟩
  obtain ⟨V1, V2, V3, V4, f1, f2, f3, f4, ⟨g0, g0'⟩, ⟨g1, g1'⟩, ⟨g2, g2'⟩, ⟨g3, g3'⟩, bV, kV4⟩ := store4 (hk.blk HB1'.out id) (.int .u8 c0) (.int .u8 c1) (.int .u8 c2) (.int .u8 c3)
  obtain ⟨⟨m0, -⟩, ⟨m1, -⟩, ⟨m2, -⟩, m3, -⟩ := blk4 bV
  have HKV := Lib.hid ((HK1.out.then hk).trans (kV4.mono fun i _ hi => Or.inr (by have h9 : i = w.heap.size + 1 := hi; omega)))
  clear hk bV kV4
  go_wp2
  exact bodyPost_ret (v := .tuple #[.agg #[.int .u8 c0, .int .u8 c1, .int .u8 c2, .int .u8 c3], .bool true]) (by simp [results, Try.results26, go_sem, m0, m1, m2, m3]) rfl ⟨rfl, HKV.out⟩

end Go.Proofs.Ytdjgmhbfohbenaa
