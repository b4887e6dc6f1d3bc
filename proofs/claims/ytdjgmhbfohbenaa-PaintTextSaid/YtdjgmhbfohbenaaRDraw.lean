/- One matrix drawn over another: the document's. -/
import Derived.Test.YtdjgmhbfohbenaaRAt
import Derived.Test.YtdjgmhbfohbenaaApp
import Derived.Deep.RegionHeld3
namespace Go.Proofs.Ytdjgmhbfohbenaa
open Go.RowKit Go.Sort
set_option linter.unusedVariables false
set_option linter.unusedSimpArgs false
theorem Own.form {k : IntKind} {e : TypeId} {w : World} {a : Option Addr} {n c : Nat} {xs : List Int} (h : Own k e w (.slice a n c) xs) (h0 : 0 < n) : ∃ g, a = some ⟨g, 0, none⟩ := by
  obtain ⟨h1, h2⟩ := h
  rcases h2 with ⟨h3, h4⟩ | ⟨g', cap', cur, h3, -⟩
  · cases h3; omega
  · cases h3; exact ⟨g', rfl⟩
def spotOf (W H SW SH : Nat) (x y : Int) : Spot := ⟨W, SW, x, y, (partS x SW W).1.toNat, (partS x SW W).2.toNat, (partS y SH H).1.toNat, (partS y SH H).2.toNat⟩
theorem part_in {at' : Int} {n side k : Nat} (h0 : (partS at' n side).1 ≤ k) (h1 : (k : Int) < (partS at' n side).2) : at' ≤ k ∧ (k : Int) - at' < n ∧ k < side := by
  unfold partS at h0 h1
  split at h0
  · rename_i h; rw [if_pos h] at h1; simp at h0 h1; omega
  · rename_i h; rw [if_neg h] at h1; simp only at h0 h1; omega
/-- What holds of memory while one matrix is drawn over another. -/
def DrawInv (w : World) (P9 T : Nat) (W H SW SH : Nat) (sa : Option Addr) (sn scap : Nat) (av : Option Addr) (n cv : Nat) (L : List Int) (wr : World) : Prop :=
  Own .u8 5 wr (.slice av n cv) L ∧ Kept (fun _ => False) w wr ∧ wr.heap[w.heap.size + 1]? = some (.cells #[.int .i64 SW, .int .i64 SH, .slice sa sn scap] T (0, 0)) ∧ wr.heap[w.heap.size + 1 + 1]? = some (.cells #[.int .i64 0, .int .i64 0, .slice none 0 0] T (0, 0)) ∧ wr.heap[P9]? = some (.cells #[.int .i64 W, .int .i64 H, .slice av n cv] T (0, 0))
theorem DrawInv.kept {w : World} {P9 T W H SW SH : Nat} {sa : Option Addr} {sn scap : Nat} {av : Option Addr} {n cv : Nat} {L : List Int} {wr w2 : World} (h : DrawInv w P9 T W H SW SH sa sn scap av n cv L wr) (hk : Kept (fun _ => False) wr w2) : DrawInv w P9 T W H SW SH sa sn scap av n cv L w2 :=
  ⟨h.1.kept hk (fun _ _ => id), h.2.1.then hk, hk.blk h.2.2.1 id, hk.blk h.2.2.2.1 id, hk.blk h.2.2.2.2 id⟩
theorem DrawInv.put {w : World} {P9 T W H SW SH : Nat} {sa : Option Addr} {sn scap : Nat} {av : Option Addr} {n cv : Nat} {L L' : List Int} {wr w2 : World} {g : Nat} (h : DrawInv w P9 T W H SW SH sa sn scap av n cv L wr) (ho : Own .u8 5 w2 (.slice av n cv) L') (hk : Kept (fun i => i = g) wr w2) (hg : w.heap.size + 3 ≤ g) (hgP : g < P9) : DrawInv w P9 T W H SW SH sa sn scap av n cv L' w2 :=
  ⟨ho, h.2.1.trans (hk.mono fun i _ hi => Or.inr (by have h9 : i = g := hi; omega)), hk.blk h.2.2.1 (fun (h : w.heap.size + 1 = g) => by omega), hk.blk h.2.2.2.1 (fun (h : w.heap.size + 1 + 1 = g) => by omega), hk.blk h.2.2.2.2 (fun (h : P9 = g) => by omega)⟩

set_option maxRecDepth 100000 in
set_option maxHeartbeats 8000000 in
theorem rdraw_any (W H SW SH : Nat) (x y : Int) (p s : List Int) (a sa : Option Addr) (n cap sn scap : Nat) (w : World) (hxx : I64 x) (hyy : I64 y)
    (hW : W ≤ 16384) (hH : H ≤ 16384) (hSW : SW ≤ 16384) (hSH : SH ≤ 16384) (hn : n = 4 * (W * H)) (hsn : sn = 4 * (SW * SH)) (hn2 : n ≤ 16384) (hsn2 : sn ≤ 16384)
    (hp : SlAt .u8 w a n p) (hs : SlAt .u8 w sa sn s) (hpb : IsBytes p) (hsb : IsBytes s) (hnil : a = none → n = 0 ∧ cap = 0) :
    Calls Try.prog 69 #[.agg #[.int .i64 W, .int .i64 H, .slice a n cap], .agg #[.int .i64 SW, .int .i64 SH, .slice sa sn scap], .int .i64 x, .int .i64 y] w fun e w' => ∃ v, e = .returned (.agg #[.int .i64 W, .int .i64 H, v]) ∧ Made w (tab n (drawF (spotOf W H SW SH x y) p s)) v w' := by
  have hpl := hp.1
  obtain ⟨t, ht⟩ : ∃ t, spotOf W H SW SH x y = t := ⟨_, rfl⟩
  have bx := partS_bd x SW W (by omega)
  have by' := partS_bd y SH H (by omega)
  obtain ⟨x0, hx0⟩ : ∃ k : Nat, (partS x SW W).1 = (k : Int) := ⟨_, Int.eq_ofNat_of_zero_le bx.1 |>.choose_spec⟩
  obtain ⟨x1, hx1⟩ : ∃ k : Nat, (partS x SW W).2 = (k : Int) := ⟨_, Int.eq_ofNat_of_zero_le bx.2.2.1 |>.choose_spec⟩
  obtain ⟨y0, hy0⟩ : ∃ k : Nat, (partS y SH H).1 = (k : Int) := ⟨_, Int.eq_ofNat_of_zero_le by'.1 |>.choose_spec⟩
  obtain ⟨y1, hy1⟩ : ∃ k : Nat, (partS y SH H).2 = (k : Int) := ⟨_, Int.eq_ofNat_of_zero_le by'.2.2.1 |>.choose_spec⟩
  have PX := Lib.hid (fun (k : Nat) (h0 : x0 ≤ k) (h1 : k < x1) => part_in (at' := x) (n := SW) (side := W) (k := k) (by omega) (by omega))
  have PY := Lib.hid (fun (k : Nat) (h0 : y0 ≤ k) (h1 : k < y1) => part_in (at' := y) (n := SH) (side := H) (k := k) (by omega) (by omega))
  have HSX := Lib.hid (fun w => show Calls Try.prog 53 #[.int .i64 x, .int .i64 SW, .int .i64 W] w fun e w' => e = .returned (.tuple #[.int .i64 x0, .int .i64 x1]) ∧ w = w' from by rw [← hx0, ← hx1]; exact span_any x SW W w hxx (by unfold I64; omega) (by omega))
  have HSY := Lib.hid (fun w => show Calls Try.prog 53 #[.int .i64 y, .int .i64 SH, .int .i64 H] w fun e w' => e = .returned (.tuple #[.int .i64 y0, .int .i64 y1]) ∧ w = w' from by rw [← hy0, ← hy1]; exact span_any y SH H w hyy (by unfold I64; omega) (by omega))
  have htt : t = ⟨W, SW, x, y, x0, x1, y0, y1⟩ := by rw [← ht]; unfold spotOf; rw [hx0, hx1, hy0, hy1]; simp
  have hx1W : x1 ≤ W := by have := bx.2.1; omega
  have hy1H : y1 ≤ H := by have := by'.2.1; omega
  have hx0W : x0 ≤ W := by have := bx.2.2.2; omega
  have hy0H : y0 ≤ H := by have := by'.2.2.2; omega
  have TW : t.W = W := by rw [htt]
  have TX0 : t.x0 = x0 := by rw [htt]
  have TX1 : t.x1 = x1 := by rw [htt]
  have TY0 : t.y0 = y0 := by rw [htt]
  have TY1 : t.y1 = y1 := by rw [htt]
  have HSTEP := Lib.hid (fun (X Y : Nat) (hX : X < W) (h0 : x0 ≤ X) (h1 : X < x1) (h2 : y0 ≤ Y) (h3 : Y < y1) (hn' : 4 * (Y * W + X) + 4 ≤ n) => show _ from by
    have h := drawD_step t p s n X Y (by rw [TW]; exact hX) (by rw [TX0]; exact h0) (by rw [TX1]; exact h1) (by rw [TY0]; exact h2) (by rw [TY1]; exact h3) (by rw [TW]; exact hn')
    rw [TW] at h
    rw [show t.y = y by rw [htt], show t.x = x by rw [htt], show t.SW = SW by rw [htt]] at h
    exact h)
  have HGET := Lib.hid (fun (X Y k : Nat) (hX : X < W) (hk : k < 4) (hn' : 4 * (Y * W + X) + 4 ≤ n) => show _ from by
    have h := drawD_get t p s n X Y k (by rw [TW]; exact hX) hk (by rw [TW]; exact hn')
    rw [TW] at h
    exact h)
  have HSTART := Lib.hid (show tab n (drawD t p s y0 x0) = p from by have h := drawD_start t p s n hpl; rw [TX0, TY0] at h; exact h)
  have HEND := Lib.hid (fun (X Y : Nat) (h : y1 ≤ Y) => drawD_end t p s n X Y (by rw [TY1]; exact h))
  have HROW := Lib.hid (fun (X Y : Nat) (h : x1 ≤ X) => show tab n (drawD t p s Y X) = tab n (drawD t p s (Y + 1) x0) from by have h := drawD_row t p s n X Y (by rw [TX1]; exact h); rw [TX0] at h; exact h)
  have HN := Lib.hid hn
  have HSN := Lib.hid hsn
  have HP := Lib.hid hp
  have HS := Lib.hid hs
  have HPB := Lib.hid hpb
  have HSB := Lib.hid hsb
  have HT := Lib.hid ht
  clear bx by' hx0 hx1 hy0 hy1 htt TW TX0 TX1 TY0 TY1 hpl ht hn hsn
  obtain ⟨V, hV⟩ : ∃ V, ((w.alloc (.cells #[.int .i64 W, .int .i64 H, .slice a n cap] 35)).alloc (.cells #[.int .i64 SW, .int .i64 SH, .slice sa sn scap] 35)).alloc (.cells #[.int .i64 0, .int .i64 0, .slice none 0 0] 35) = V := ⟨_, rfl⟩
  have kV : Kept (fun _ => False) w V := by rw [← hV]; exact (((Kept.refl _ w).alloc _).alloc _).alloc _
  have HB0 := Lib.hid (show V.heap[w.heap.size]? = some (.cells #[.int .i64 W, .int .i64 H, .slice a n cap] 35 (0, 0)) by rw [← hV]; exact blk_alloc (blk_alloc (blk_new _ _) _) _)
  have HB1 := Lib.hid (show V.heap[w.heap.size + 1]? = some (.cells #[.int .i64 SW, .int .i64 SH, .slice sa sn scap] 35 (0, 0)) by rw [← hV]; exact blk_alloc (blk_at _ _ (by simp)) _)
  have HB2 := Lib.hid (show V.heap[w.heap.size + 1 + 1]? = some (.cells #[.int .i64 0, .int .i64 0, .slice none 0 0] 35 (0, 0)) by rw [← hV]; exact blk_at _ _ (by simp))
  have sV : w.heap.size + 3 ≤ V.heap.size := by rw [← hV]; simp
  have HTW := Lib.hid (rtwin_any W H a n cap p V (hp.up kV) hn2 hnil)
  have HKV := Lib.hid kV
  obtain ⟨⟨c0, -⟩, ⟨c1, -⟩, c2, -⟩ := blk3 HB0.out
  clear kV hp hs hpb hsb hnil
  go_enter Try.func69, Try.ntmps69
  go_wp2_with fail
  refine HTW.out.mono ?_; rintro e w1 ⟨v, rfl, ho, hk, hf⟩
  obtain ⟨av, cv, rfl, -⟩ := ho.shape
  have hpl2 : p.length = n := HP.out.1
  rw [hpl2] at ho hf ⊢
  obtain ⟨U, hU⟩ : ∃ U, w1.alloc (.cells #[.int .i64 W, .int .i64 H, .slice av n cv] 35) = U := ⟨_, rfl⟩
  obtain ⟨P9, hP9⟩ : ∃ P, w1.heap.size = P := ⟨_, rfl⟩
  have kU : Kept (fun _ => False) w1 U := by rw [← hU]; exact (Kept.refl _ _).alloc _
  have hP9l : V.heap.size ≤ P9 := by have := hk.size; omega
  have HBU := Lib.hid (show U.heap[P9]? = some (.cells #[.int .i64 W, .int .i64 H, .slice av n cv] 35 (0, 0)) by rw [← hU, ← hP9]; exact blk_new _ _)
  have HB0 := Lib.hid ((hk.then kU).blk HB0.out id)
  have HB1 := Lib.hid ((hk.then kU).blk HB1.out id)
  have HB2 := Lib.hid ((hk.then kU).blk HB2.out id)
  have HOU := Lib.hid (ho.kept kU (fun _ _ => id))
  have HKU := Lib.hid ((HKV.out.then hk).then kU)
  have HF := Lib.hid (show ∀ b, (Value.slice av n cv).ownBlock = some b → w.heap.size + 3 ≤ b ∧ b < P9 from fun b hb => ⟨by have := hf b hb; omega, by have := Own.lt ho b hb; omega⟩)
  clear hk kU ho hf c0 c1 c2 hpl2
  obtain ⟨⟨c0, -⟩, ⟨c1, -⟩, c2, -⟩ := blk3 HB0.out
  obtain ⟨⟨d0, -⟩, ⟨d1, -⟩, d2, -⟩ := blk3 HB1.out
  go_wp2_with (go_at_call 53; first | ((with_reducible refine (HSX.out _).mono ?_); rintro e w' ⟨rfl, rfl⟩) | ((with_reducible refine (HSY.out _).mono ?_); rintro e w' ⟨rfl, rfl⟩))
  clear hU hP9 hV c0 c1 c2 d0 d1 d2
  have HINV := Lib.hid (show DrawInv w P9 35 W H SW SH sa sn scap av n cv (tab n (drawD t p s y0 x0)) U from ⟨by rw [HSTART.out]; exact HOU.out, HKU.out, HB1.out, HB2.out, HBU.out⟩)
  go_loopg [14, 15, 16, 17, 18, 19] y1 (fun gg yv _ _ _ _ _ wr => ∃ Y : Nat, y0 ≤ Y ∧ y1 ≤ gg + Y ∧ Y ≤ H ∧ yv = .int .i64 Y ∧ DrawInv w P9 35 W H SW SH sa sn scap av n cv (tab n (drawD t p s Y x0)) wr)
  case atStart => exact ⟨y0, by omega, by omega, by omega, rfl, HINV.out⟩
  case round =>
    obtain ⟨Y, hY0, hgg, hYH, rfl, hinv⟩ := hrel
    by_cases hY1 : Y < y1
    · have gy : decide (Y < y1) = true := decide_eq_true hY1
      have HI := Lib.hid hinv
      obtain ⟨gko, hgo⟩ : ∃ x, x = gk := ⟨_, rfl⟩
      subst hgo
      clear hinv
      go_wp2
      go_loopg [15, 16, 17, 18, 19] x1 (fun gg xv _ _ _ _ wr => ∃ X : Nat, x0 ≤ X ∧ x1 ≤ gg + X ∧ X ≤ W ∧ xv = .int .i64 X ∧ DrawInv w P9 35 W H SW SH sa sn scap av n cv (tab n (drawD t p s Y X)) wr)
      case atStart => exact ⟨x0, by omega, by omega, by omega, rfl, HI.out⟩
      case round =>
        obtain ⟨X, hX0, hgx, hXW', rfl, hinv⟩ := hrel
        by_cases hX1 : X < x1
        · have gx : decide (X < x1) = true := decide_eq_true hX1
          obtain ⟨px1, px2, hXW⟩ := PX.out X hX0 hX1
          obtain ⟨py1, py2, hYHl⟩ := PY.out Y hY0 hY1
          obtain ⟨QX, hqx⟩ : ∃ q : Nat, (X : Int) - x = (q : Int) := ⟨((X : Int) - x).toNat, by omega⟩
          obtain ⟨QY, hqy⟩ : ∃ q : Nat, (Y : Int) - y = (q : Int) := ⟨((Y : Int) - y).toNat, by omega⟩
          have hPn := fit_idx hXW hYHl
          have hn4 : 4 * (Y * W + X) + 4 ≤ n := by have := HN.out; omega
          have hQn := fit_idx (W := SW) (H := SH) (x := QX) (y := QY) (by omega) (by omega)
          have hM1 : W * H ≤ 67108864 := by have := HN.out; omega
          have hM2 : SW * SH ≤ 67108864 := by have := HSN.out; omega
          obtain ⟨g, hg⟩ := hinv.1.form (by omega)
          have hgF := HF.out g (by rw [hg]; rfl)
          obtain ⟨PP, hPP⟩ : ∃ q, Y * W + X = q := ⟨_, rfl⟩
          obtain ⟨QQ, hQQ⟩ : ∃ q, QY * SW + QX = q := ⟨_, rfl⟩
          obtain ⟨s0, hs0⟩ : ∃ z, s.getD (4 * QQ) 0 = z := ⟨_, rfl⟩
          obtain ⟨s1, hs1⟩ : ∃ z, s.getD (4 * QQ + 1) 0 = z := ⟨_, rfl⟩
          obtain ⟨s2, hs2⟩ : ∃ z, s.getD (4 * QQ + 2) 0 = z := ⟨_, rfl⟩
          obtain ⟨s3, hs3⟩ : ∃ z, s.getD (4 * QQ + 3) 0 = z := ⟨_, rfl⟩
          obtain ⟨p0, hp0⟩ : ∃ z, p.getD (4 * PP) 0 = z := ⟨_, rfl⟩
          obtain ⟨p1, hp1⟩ : ∃ z, p.getD (4 * PP + 1) 0 = z := ⟨_, rfl⟩
          obtain ⟨p2, hp2⟩ : ∃ z, p.getD (4 * PP + 2) 0 = z := ⟨_, rfl⟩
          obtain ⟨p3, hp3⟩ : ∃ z, p.getD (4 * PP + 3) 0 = z := ⟨_, rfl⟩
          have bs0 := getD_byte HSB.out (4 * QQ)
          have bs1 := getD_byte HSB.out (4 * QQ + 1)
          have bs2 := getD_byte HSB.out (4 * QQ + 2)
          have bs3 := getD_byte HSB.out (4 * QQ + 3)
          have bp0 := getD_byte HPB.out (4 * PP)
          have bp1 := getD_byte HPB.out (4 * PP + 1)
          have bp2 := getD_byte HPB.out (4 * PP + 2)
          rw [hs0] at bs0; rw [hs1] at bs1; rw [hs2] at bs2; rw [hs3] at bs3; rw [hp0] at bp0; rw [hp1] at bp1; rw [hp2] at bp2
          have HR1 := Lib.hid (fun (V' : World) (hk : Kept (fun _ => False) w V') => show Calls Try.prog 76 #[.agg #[.int .i64 SW, .int .i64 SH, .slice sa sn scap], .int .i64 QX, .int .i64 QY] V' fun e w' => e = .returned (.tuple #[.agg #[.int .u8 s0, .int .u8 s1, .int .u8 s2, .int .u8 s3], .bool true]) ∧ Kept (fun _ => False) V' w' from by
            have h := rat_yes SW SH QX QY s sa sn scap V' (by omega) (by omega) hM2 HSN.out (HS.out.up hk) hSW hSH
            rw [hQQ] at h
            unfold pixV at h
            rw [hs0, hs1, hs2, hs3] at h
            exact h)
          have HR2 := Lib.hid (fun (V' : World) (hi : DrawInv w P9 35 W H SW SH sa sn scap av n cv (tab n (drawD t p s Y X)) V') => show Calls Try.prog 76 #[.agg #[.int .i64 W, .int .i64 H, .slice av n cv], .int .i64 X, .int .i64 Y] V' fun e w' => e = .returned (.tuple #[.agg #[.int .u8 p0, .int .u8 p1, .int .u8 p2, .int .u8 p3], .bool true]) ∧ Kept (fun _ => False) V' w' from by
            have hsl : SlAt .u8 V' av n (tab n (drawD t p s Y X)) := by have h := hi.1; rw [hg] at h ⊢; exact h.slAt
            have h := rat_yes W H X Y (tab n (drawD t p s Y X)) av n cv V' hXW hYHl hM1 HN.out hsl hW hH
            have e0 := HGET.out X Y 0 hXW (by omega) hn4
            have e1 := HGET.out X Y 1 hXW (by omega) hn4
            have e2 := HGET.out X Y 2 hXW (by omega) hn4
            have e3 := HGET.out X Y 3 hXW (by omega) hn4
            rw [hPP] at h e0 e1 e2 e3
            unfold pixV at h
            rw [Nat.add_zero] at e0
            rw [e0, e1, e2, e3, hp0, hp1, hp2, hp3] at h
            exact h)
          have HOV := Lib.hid (fun w => show Calls Try.prog 77 #[.agg #[.int .u8 p0, .int .u8 p1, .int .u8 p2, .int .u8 p3], .agg #[.int .u8 s0, .int .u8 s1, .int .u8 s2, .int .u8 s3]] w fun e w' => e = .returned (.agg #[.int .u8 (ov p0 s0 s3), .int .u8 (ov p1 s1 s3), .int .u8 (ov p2 s2 s3), .int .u8 255]) ∧ Kept (fun _ => False) w w' from
            refOver_any p0 p1 p2 p3 s0 s1 s2 s3 w (by omega) (by omega) (by omega) (by omega) (by omega) (by omega) (by omega))
          have HPUT := Lib.hid (fun (V' : World) (hi : DrawInv w P9 35 W H SW SH sa sn scap av n cv (tab n (drawD t p s Y X)) V') => show Calls Try.prog 54 #[.agg #[.int .i64 W, .int .i64 H, .slice av n cv], .int .i64 X, .int .i64 Y, .agg #[.int .u8 (ov p0 s0 s3), .int .u8 (ov p1 s1 s3), .int .u8 (ov p2 s2 s3), .int .u8 255]] V' fun e w' => e = .returned (.tuple #[]) ∧ DrawInv w P9 35 W H SW SH sa sn scap av n cv (tab n (drawD t p s Y (X + 1))) w' ∧ Kept (fun i => i = g) V' w' from by
            have ho := hi.1
            rw [hg] at ho ⊢
            refine (put_any W H X Y _ [] g n cv V' hXW hYHl hM1 HN.out ho hW hH _ _ _ _).mono ?_
            rintro e w' ⟨rfl, ho', hk'⟩
            have hst := HSTEP.out X Y hXW hX0 hX1 hY0 hY1 hn4 QQ (by rw [← hQQ, hqx, hqy]; rfl) [ov p0 s0 s3, ov p1 s1 s3, ov p2 s2 s3, 255] rfl (fun k hk => by
              unfold overK
              match k, hk with
              | 0, _ => rw [hPP]; simp only [Nat.add_zero]; rw [hp0, hs0, hs3]; rfl
              | 1, _ => rw [hPP, hp1, hs1, hs3]; rfl
              | 2, _ => rw [hPP, hp2, hs2, hs3]; rfl
              | 3, _ => rfl)
            rw [hst] at ho'
            refine ⟨rfl, ?_, hk'⟩
            have h := hi.put (L' := tab n (drawD t p s Y (X + 1))) (by rw [hg]; exact ho') hk' hgF.1 hgF.2
            rw [hg] at h
            exact h)
          have HI := Lib.hid hinv
          obtain ⟨⟨d0, -⟩, ⟨d1, -⟩, d2, -⟩ := blk3 hinv.2.2.1
          have HPXY := Lib.hid (And.intro hXW hYHl)
          clear hinv hs0 hs1 hs2 hs3 hp0 hp1 hp2 hp3 hPP hQQ hPn hQn hM1 hM2 hn4 hg
          go_wp2_with fail
          refine (HR1.out _ HI.out.2.1).mono ?_; rintro e w2 ⟨rfl, hk2⟩
          obtain ⟨V2, hV2⟩ : ∃ V, w2.alloc (.cells #[.int .u8 s0, .int .u8 s1, .int .u8 s2, .int .u8 s3] 65) = V := ⟨_, rfl⟩
          have kV2 : Kept (fun _ => False) w2 V2 := by rw [← hV2]; exact (Kept.refl _ _).alloc _
          have HB16 := Lib.hid (show V2.heap[w2.heap.size]? = some (.cells #[.int .u8 s0, .int .u8 s1, .int .u8 s2, .int .u8 s3] 65 (0, 0)) by rw [← hV2]; exact blk_new _ _)
          have HI2 := Lib.hid ((HI.out.kept hk2).kept kV2)
          obtain ⟨⟨c0, -⟩, ⟨c1, -⟩, c2, -⟩ := blk3 HI2.out.2.2.2.2
          have hP92 : P9 < w2.heap.size := by have := lt_of_blk (HI.out.kept hk2).2.2.2.2; exact this
          clear hk2 kV2 d0 d1 d2
          go_wp2_with fail
          refine (HR2.out _ HI2.out).mono ?_; rintro e w3 ⟨rfl, hk3⟩
          obtain ⟨V3, hV3⟩ : ∃ V, w3.alloc (.cells #[.int .u8 p0, .int .u8 p1, .int .u8 p2, .int .u8 p3] 65) = V := ⟨_, rfl⟩
          have kV3 : Kept (fun _ => False) w3 V3 := by rw [← hV3]; exact (Kept.refl _ _).alloc _
          have b18 : V3.heap[w3.heap.size]? = some (.cells #[.int .u8 p0, .int .u8 p1, .int .u8 p2, .int .u8 p3] 65 (0, 0)) := by rw [← hV3]; exact blk_new _ _
          have b16 := (hk3.then kV3).blk HB16.out id
          have hi3 := (HI2.out.kept hk3).kept kV3
          have HI3 := Lib.hid hi3
          have HB18 := Lib.hid b18
          have HB16' := Lib.hid b16
          have hP93 : P9 < w3.heap.size := by have := lt_of_blk (HI2.out.kept hk3).2.2.2.2; exact this
          obtain ⟨⟨c0, -⟩, ⟨c1, -⟩, c2, -⟩ := blk3 hi3.2.2.2.2
          obtain ⟨⟨m0, -⟩, ⟨m1, -⟩, ⟨m2, -⟩, m3, -⟩ := blk4 b16
          obtain ⟨⟨r0, -⟩, ⟨r1, -⟩, ⟨r2, -⟩, r3, -⟩ := blk4 b18
          have hne1 : w2.heap.size ≠ g := by omega
          have hne2 : w3.heap.size ≠ g := by omega
          clear hk3 kV3 b16 b18 hi3 hV2
          go_wp2
          clear hV3
          go_region_held3 (fun w' => w'.cell? ⟨P9, 0, none⟩ = some (.int .i64 W) ∧ w'.cell? ⟨P9, 1, none⟩ = some (.int .i64 H) ∧ w'.cell? ⟨P9, 2, none⟩ = some (.slice av n cv) ∧ w'.cell? ⟨w2.heap.size, 0, none⟩ = some (.int .u8 s0) ∧ w'.cell? ⟨w2.heap.size, 1, none⟩ = some (.int .u8 s1) ∧ w'.cell? ⟨w2.heap.size, 2, none⟩ = some (.int .u8 s2) ∧ w'.cell? ⟨w2.heap.size, 3, none⟩ = some (.int .u8 s3) ∧ w'.cell? ⟨w3.heap.size, 0, none⟩ = some (.int .u8 p0) ∧ w'.cell? ⟨w3.heap.size, 1, none⟩ = some (.int .u8 p1) ∧ w'.cell? ⟨w3.heap.size, 2, none⟩ = some (.int .u8 p2) ∧ w'.cell? ⟨w3.heap.size, 3, none⟩ = some (.int .u8 p3)) (first | ((go_keep; done)) | (go_split_ands; all_goals go_keep)) (first
            | (go_at_call 77; refine Calls.mono (HOV.out _) ?_; rintro e w5 ⟨rfl, h5⟩; have k5 := ((Kept.refl (fun _ => False) V3).drew).then h5; have HI5 := Lib.hid (HI3.out.kept k5); obtain ⟨⟨c0, -⟩, ⟨c1, -⟩, c2, -⟩ := blk3 HI5.out.2.2.2.2; have HB16'' := Lib.hid (k5.blk HB16'.out id); have HB18'' := Lib.hid (k5.blk HB18.out id); obtain ⟨⟨m0, -⟩, ⟨m1, -⟩, ⟨m2, -⟩, m3, -⟩ := blk4 HB16''.out; obtain ⟨⟨r0, -⟩, ⟨r1, -⟩, ⟨r2, -⟩, r3, -⟩ := blk4 HB18''.out; clear h5 k5)
            | (go_at_call 54; refine Calls.mono (HPUT.out _ HI5.out) ?_; rintro e w6 ⟨rfl, hi6, hk6⟩; have HI6 := Lib.hid hi6; obtain ⟨⟨c0, -⟩, ⟨c1, -⟩, c2, -⟩ := blk3 hi6.2.2.2.2; obtain ⟨⟨m0, -⟩, ⟨m1, -⟩, ⟨m2, -⟩, m3, -⟩ := blk4 (hk6.blk HB16''.out (fun h => hne1 h)); obtain ⟨⟨r0, -⟩, ⟨r1, -⟩, ⟨r2, -⟩, r3, -⟩ := blk4 (hk6.blk HB18''.out (fun h => hne2 h)); clear hi6 hk6))
          have hXW2 := HPXY.out.1
          go_wp2
          go_roundg (gk - 1)
          case rel => exact ⟨X + 1, by omega, by omega, by omega, by go_num, HI6.out⟩
          case measure => omega
        · have gx : decide (X < x1) = false := decide_eq_false hX1
          have hrow := HROW.out X Y (by omega)
          rw [hrow] at hinv
          have HI := Lib.hid hinv
          clear hinv hrow
          go_wp2
          go_roundg (gko - 1)
          case rel => exact ⟨Y + 1, by omega, by omega, by omega, by go_num, HI.out⟩
          case measure => omega
    · have gy : decide (Y < y1) = false := decide_eq_false hY1
      have hend := HEND.out x0 Y (by omega)
      rw [hend] at hinv
      obtain ⟨⟨c0, -⟩, ⟨c1, -⟩, c2, -⟩ := blk3 hinv.2.2.2.2
      obtain ⟨V1, V2, V3, f1, f2, f3, ⟨g0, g0'⟩, ⟨g1, g1'⟩, ⟨g2, g2'⟩, bV, kV3⟩ := store3 hinv.2.2.2.1 (.int .i64 W) (.int .i64 H) (.slice av n cv)
      obtain ⟨⟨m0, -⟩, ⟨m1, -⟩, m2, -⟩ := blk3 bV
      have HO := Lib.hid (hinv.1.kept kV3 (fun b hb (hS : b = w.heap.size + 1 + 1) => by have := HF.out b hb; omega))
      have HK := Lib.hid (hinv.2.1.trans (kV3.mono fun i _ hi => Or.inr (by have h9 : i = w.heap.size + 1 + 1 := hi; omega)))
      clear hinv hend bV kV3
      go_wp2
      exact bodyPost_ret (v := .agg #[.int .i64 W, .int .i64 H, .slice av n cv]) (by simp [results, Try.results69, go_sem, m0, m1, m2]) rfl ⟨_, rfl, by rw [HT.out]; exact HO.out, HK.out, fun b hb => by have := HF.out b hb; omega⟩

end Go.Proofs.Ytdjgmhbfohbenaa
