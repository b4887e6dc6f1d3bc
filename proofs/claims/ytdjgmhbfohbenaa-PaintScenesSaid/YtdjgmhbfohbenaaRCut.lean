/- A part of a matrix cut out: the document's. -/
import Derived.Test.YtdjgmhbfohbenaaMCut
namespace Go.Proofs.Ytdjgmhbfohbenaa
open Go.RowKit Go.Sort
set_option linter.unusedVariables false
set_option linter.unusedSimpArgs false
/-- What holds of memory while the document cuts out. -/
def RcInv (w : World) (T W H : Nat) (a : Option Addr) (n cap P9 C D : Nat) (g N : Nat) (L : List Int) (wr : World) : Prop :=
  Own .u8 5 wr (.slice (some ⟨g, 0, none⟩) N N) L ∧ Kept (fun _ => False) w wr ∧ wr.heap[w.heap.size]? = some (.cells #[.int .i64 W, .int .i64 H, .slice a n cap] T (0, 0)) ∧ wr.heap[w.heap.size + 1]? = some (.cells #[.int .i64 0, .int .i64 0, .slice none 0 0] T (0, 0)) ∧ wr.heap[P9]? = some (.cells #[.int .i64 C, .int .i64 D, .slice (some ⟨g, 0, none⟩) N N] T (0, 0))
theorem RcInv.kept {w : World} {T W H : Nat} {a : Option Addr} {n cap P9 C D g N : Nat} {L : List Int} {wr w2 : World} (h : RcInv w T W H a n cap P9 C D g N L wr) (hk : Kept (fun _ => False) wr w2) : RcInv w T W H a n cap P9 C D g N L w2 :=
  ⟨h.1.kept hk (fun _ _ => id), h.2.1.then hk, hk.blk h.2.2.1 id, hk.blk h.2.2.2.1 id, hk.blk h.2.2.2.2 id⟩
theorem RcInv.put {w : World} {T W H : Nat} {a : Option Addr} {n cap P9 C D g N : Nat} {L L' : List Int} {wr w2 : World} (h : RcInv w T W H a n cap P9 C D g N L wr) (ho : Own .u8 5 w2 (.slice (some ⟨g, 0, none⟩) N N) L') (hk : Kept (fun i => i = g) wr w2) (hg : w.heap.size + 2 ≤ g) (hgP : g < P9) : RcInv w T W H a n cap P9 C D g N L' w2 :=
  ⟨ho, h.2.1.trans (hk.mono fun i _ hi => Or.inr (by have h9 : i = g := hi; omega)), hk.blk h.2.2.1 (fun (h : w.heap.size = g) => by omega), hk.blk h.2.2.2.1 (fun (h : w.heap.size + 1 = g) => by omega), hk.blk h.2.2.2.2 (fun (h : P9 = g) => by omega)⟩

set_option maxRecDepth 100000 in
set_option maxHeartbeats 4000000 in
theorem rcut_any (W H : Nat) (x y cw ch : Int) (p : List Int) (a : Option Addr) (n cap : Nat) (w : World) (hxx : I64 x) (hyy : I64 y) (hcw : I64 cw) (hch : I64 ch)
    (hr : rightM ⟨W, H, p⟩ = true) (hs : SlAt .u8 w a n p) (hn2 : n ≤ 16384) (hc : n ≤ cap) (hcm : cap ≤ 9223372036854775807) :
    Calls Try.prog 67 #[.agg #[.int .i64 W, .int .i64 H, .slice a n cap], .int .i64 x, .int .i64 y, .int .i64 cw, .int .i64 ch] w fun e w' => ∃ v, e = .returned (.agg #[.int .i64 (cutM W H x y cw ch p).1, .int .i64 (cutM W H x y cw ch p).2.1, v]) ∧ Made w (cutM W H x y cw ch p).2.2 v w' := by
  have hr2 := hr
  unfold rightM at hr2
  rw [Bool.and_eq_true] at hr2
  have hsz : sizeB W H = true := hr2.1
  have h4 : (p.length : Int) = 4 * (W : Int) * (H : Int) := of_decide_eq_true hr2.2
  obtain ⟨z1, z2, z3, z4, -⟩ := sizeB_t hsz
  have hpl := hs.1
  have bx := partS_bd x cw W (by omega)
  have by' := partS_bd y ch H (by omega)
  obtain ⟨x0, hx0⟩ : ∃ k : Nat, (partS x cw W).1 = (k : Int) := ⟨_, Int.eq_ofNat_of_zero_le bx.1 |>.choose_spec⟩
  obtain ⟨x1, hx1⟩ : ∃ k : Nat, (partS x cw W).2 = (k : Int) := ⟨_, Int.eq_ofNat_of_zero_le bx.2.2.1 |>.choose_spec⟩
  obtain ⟨y0, hy0⟩ : ∃ k : Nat, (partS y ch H).1 = (k : Int) := ⟨_, Int.eq_ofNat_of_zero_le by'.1 |>.choose_spec⟩
  obtain ⟨y1, hy1⟩ : ∃ k : Nat, (partS y ch H).2 = (k : Int) := ⟨_, Int.eq_ofNat_of_zero_le by'.2.2.1 |>.choose_spec⟩
  have HSX := Lib.hid (fun w => show Calls Try.prog 53 #[.int .i64 x, .int .i64 cw, .int .i64 W] w fun e w' => e = .returned (.tuple #[.int .i64 x0, .int .i64 x1]) ∧ w = w' from by rw [← hx0, ← hx1]; exact span_any x cw W w hxx hcw (by omega))
  have HSY := Lib.hid (fun w => show Calls Try.prog 53 #[.int .i64 y, .int .i64 ch, .int .i64 H] w fun e w' => e = .returned (.tuple #[.int .i64 y0, .int .i64 y1]) ∧ w = w' from by rw [← hy0, ← hy1]; exact span_any y ch H w hyy hch (by omega))
  have hx1W : x1 ≤ W := by have := bx.2.1; omega
  have hy1H : y1 ≤ H := by have := by'.2.1; omega
  have hx0W : x0 ≤ W := by have := bx.2.2.2; omega
  have hy0H : y0 ≤ H := by have := by'.2.2.2; omega
  obtain ⟨U, hU⟩ : ∃ V, (w.alloc (.cells #[.int .i64 W, .int .i64 H, .slice a n cap] 35)).alloc (.cells #[.int .i64 0, .int .i64 0, .slice none 0 0] 35) = V := ⟨_, rfl⟩
  have kU : Kept (fun _ => False) w U := by rw [← hU]; exact ((Kept.refl _ w).alloc _).alloc _
  have HB0 := Lib.hid (show U.heap[w.heap.size]? = some (.cells #[.int .i64 W, .int .i64 H, .slice a n cap] 35 (0, 0)) by rw [← hU]; exact blk_alloc (blk_new _ _) _)
  have HB1 := Lib.hid (show U.heap[w.heap.size + 1]? = some (.cells #[.int .i64 0, .int .i64 0, .slice none 0 0] 35 (0, 0)) by rw [← hU]; exact blk_at _ _ (by simp))
  have sU : w.heap.size + 2 = U.heap.size := by rw [← hU]; simp
  have HK := Lib.hid kU
  obtain ⟨⟨a0, -⟩, ⟨a1, -⟩, a2, -⟩ := blk3 HB0.out
  by_cases hno : x1 ≤ x0 ∨ y1 ≤ y0
  · have hE : cutM W H x y cw ch p = (0, 0, []) := by unfold cutM; simp only; rw [if_pos]; rw [hx0, hx1, hy0, hy1]; simpa using hno
    rw [hE]
    obtain ⟨V1, V2, V3, f1, f2, f3, ⟨g0, g0'⟩, ⟨g1, g1'⟩, ⟨g2, g2'⟩, bV, kV3⟩ := store3 HB1.out (.int .i64 0) (.int .i64 0) (.slice none 0 0)
    obtain ⟨⟨m0, -⟩, ⟨m1, -⟩, m2, -⟩ := blk3 bV
    have HK3 := Lib.hid (HK.out.trans (kV3.mono fun i _ hi => Or.inr (by have h9 : i = w.heap.size + 1 := hi; omega)))
    clear bx by' hx0 hx1 hy0 hy1 hr hr2 hsz h4 hpl hs kU bV kV3 hE
    by_cases hx : x1 ≤ x0
    · have gx : decide (x1 ≤ x0) = true := decide_eq_true hx
      clear hno
      go_enter Try.func67, Try.ntmps67
      go_wp2_with (go_at_call 53; first | ((with_reducible refine (HSX.out _).mono ?_); rintro e w' ⟨rfl, rfl⟩) | ((with_reducible refine (HSY.out _).mono ?_); rintro e w' ⟨rfl, rfl⟩))
      exact bodyPost_ret (v := .agg #[.int .i64 0, .int .i64 0, .slice none 0 0]) (by simp [results, Try.results67, go_sem, m0, m1, m2]) rfl ⟨_, rfl, Own.nil _ _ _, HK3.out, fun b hb => by cases hb⟩
    · have gx : decide (x1 ≤ x0) = false := decide_eq_false hx
      have gy : decide (y1 ≤ y0) = true := decide_eq_true (by omega)
      clear hno
      go_enter Try.func67, Try.ntmps67
      go_wp2_with (go_at_call 53; first | ((with_reducible refine (HSX.out _).mono ?_); rintro e w' ⟨rfl, rfl⟩) | ((with_reducible refine (HSY.out _).mono ?_); rintro e w' ⟨rfl, rfl⟩))
      exact bodyPost_ret (v := .agg #[.int .i64 0, .int .i64 0, .slice none 0 0]) (by simp [results, Try.results67, go_sem, m0, m1, m2]) rfl ⟨_, rfl, Own.nil _ _ _, HK3.out, fun b hb => by cases hb⟩
  have gx : decide (x1 ≤ x0) = false := decide_eq_false (by omega)
  have gy : decide (y1 ≤ y0) = false := decide_eq_false (by omega)
  have hE : cutM W H x y cw ch p = (x1 - x0, y1 - y0, tab (4 * ((x1 - x0) * (y1 - y0))) (cutF W x0 y0 (x1 - x0) p)) := by unfold cutM; simp only; rw [if_neg]; rw [hx0, hx1, hy0, hy1]; simp; rw [hx0, hx1, hy0, hy1]; simpa using hno
  rw [hE]
  simp only
  obtain ⟨C, hC⟩ : ∃ C, x1 - x0 = C := ⟨_, rfl⟩
  obtain ⟨D, hD⟩ : ∃ D, y1 - y0 = D := ⟨_, rfl⟩
  have eC : (x1 : Int) - (x0 : Int) = (C : Int) := by omega
  have eD : (y1 : Int) - (y0 : Int) = (D : Int) := by omega
  rw [hC, hD]
  have hxlt : x0 < x1 := by omega
  have hylt : y0 < y1 := by omega
  have hN : n = 4 * (W * H) := by rw [Int.mul_assoc, show (W : Int) * (H : Int) = ((W * H : Nat) : Int) by simp] at h4; omega
  have HN := Lib.hid hN
  have hCD0 : C * D ≤ W * H := Nat.mul_le_mul (by omega) (by omega)
  have hCD1 : 1 * 1 ≤ C * D := Nat.mul_le_mul (by omega) (by omega)
  obtain ⟨M, hM⟩ : ∃ M, C * D = M := ⟨_, rfl⟩
  have HM := Lib.hid hM
  have hMb : 1 ≤ M ∧ 4 * M ≤ 16384 := by omega
  have e6 : 4 * (C : Int) * (D : Int) = 4 * (M : Int) := by rw [Int.mul_assoc, ← hM]; simp
  rw [hM]
  have HS := Lib.hid hs
  have HFIN := Lib.hid (show tab (4 * M) (paintF ⟨C, 0, 0, 0, 0, C, 0, D⟩ (List.replicate (4 * M) 0) (cutK W x0 y0 C p)) = tab (4 * M) (cutF W x0 y0 C p) by rw [← hM]; exact paintF_all p _)
  obtain ⟨t, ht⟩ : ∃ t : Spot, (⟨C, 0, 0, 0, 0, C, 0, D⟩ : Spot) = t := ⟨_, rfl⟩
  rw [ht] at HFIN
  obtain ⟨z, hz⟩ : ∃ z : List Int, List.replicate (4 * M) 0 = z := ⟨_, rfl⟩
  have hzl : z.length = 4 * M := by rw [← hz]; simp
  rw [hz] at HFIN
  have HSTART := Lib.hid (show tab (4 * M) (paintD t z (cutK W x0 y0 C p) 0 0) = z from by have h := paintD_start t z (cutK W x0 y0 C p) (4 * M) hzl; rw [← ht] at h ⊢; exact h)
  have HEND := Lib.hid (fun (X Y : Nat) (h : D ≤ Y) => show tab (4 * M) (paintD t z (cutK W x0 y0 C p) Y X) = _ from paintD_end t z (cutK W x0 y0 C p) (4 * M) X Y (by rw [← ht]; exact h))
  have HROWS := Lib.hid (fun (X Y : Nat) (h : C ≤ X) => show tab (4 * M) (paintD t z (cutK W x0 y0 C p) Y X) = tab (4 * M) (paintD t z (cutK W x0 y0 C p) (Y + 1) 0) from by have h := paintD_row t z (cutK W x0 y0 C p) (4 * M) X Y (by rw [← ht]; exact h); rw [← ht] at h ⊢; exact h)
  have HSTEP := Lib.hid (fun (X Y : Nat) (hX : X < C) (hY : Y < D) (hn : 4 * (Y * C + X) + 4 ≤ 4 * M) (ys : List Int) (hl : ys.length = 4) (hy : ∀ k, k < 4 → ys.getD k 0 = cutK W x0 y0 C p (Y * C + X) k) => show spl (tab (4 * M) (paintD t z (cutK W x0 y0 C p) Y X)) (4 * (Y * C + X)) ys = tab (4 * M) (paintD t z (cutK W x0 y0 C p) Y (X + 1)) from by
    have h := paintD_step t z (cutK W x0 y0 C p) (4 * M) X Y (by rw [← ht]; exact hX) (by rw [← ht]; exact Nat.zero_le _) (by rw [← ht]; exact hX) (by rw [← ht]; exact Nat.zero_le _) (by rw [← ht]; exact hY) (by rw [← ht]; exact hn) ys hl (by rw [← ht]; exact hy)
    rw [← ht] at h ⊢
    exact h)
  obtain ⟨i0, hi, hz0, hz1, hz2⟩ := info_parts Try.info5
  have HI := Lib.hid (And.intro hi (And.intro hz0 (And.intro hz1 hz2)))
  have HZ := Lib.hid hz
  clear bx by' hx0 hx1 hy0 hy1 hr hr2 hsz h4 hpl hs kU hE hN hM hCD0 hCD1 ht hz hi hz0 hz1 hz2
  go_enter Try.func67, Try.ntmps67
  go_wp2_with (first
    | (go_at_call 53; first | ((with_reducible refine (HSX.out _).mono ?_); rintro e w' ⟨rfl, rfl⟩) | ((with_reducible refine (HSY.out _).mono ?_); rintro e w' ⟨rfl, rfl⟩))
    | (refine wpList_makeInts rfl (.tmp 58) (.tmp 58) 29 rfl 5 .u8 i0 1 Try.underlying29 HI.out.1 HI.out.2.1 HI.out.2.2.1 HI.out.2.2.2 .i64 .i64 _ _ (4 * M) rfl rfl (by simp) (by simp) (by omega) (by simp [maxLen]; omega) ?_; intro w2 ho2 hk2 hs2; rw [HZ.out] at ho2; have hk02 := Lib.hid (HK.out.then hk2); have HO2 := Lib.hid ho2; have HB02 := Lib.hid (hk2.blk HB0.out id); have HB12 := Lib.hid (hk2.blk HB1.out id); obtain ⟨P9, hP9⟩ : ∃ P, w2.heap.size = P := ⟨_, rfl⟩; have hP9l : U.heap.size < P9 := (by omega); obtain ⟨X, hX⟩ : ∃ X, w2.alloc (.cells #[.int .i64 0, .int .i64 0, .slice none 0 0] 35) = X := ⟨_, rfl⟩; have kX : Kept (fun _ => False) w2 X := (by rw [← hX]; exact (Kept.refl _ _).alloc _); have bX : X.heap[P9]? = some (.cells #[.int .i64 0, .int .i64 0, .slice none 0 0] 35 (0, 0)) := (by rw [← hX]; exact blk_at _ _ hP9.symm); obtain ⟨V1, V2, V3, f1, f2, f3, ⟨g0, g0'⟩, ⟨g1, g1'⟩, ⟨g2, g2'⟩, bV, kV3⟩ := store3 bX (.int .i64 C) (.int .i64 D) (.slice (some ⟨U.heap.size, 0, none⟩) (4 * M) (4 * M)); have hinv : RcInv w 35 W H a n cap P9 C D U.heap.size (4 * M) z V3 := ⟨(HO2.out.kept kX (fun _ _ => id)).kept kV3 (fun b hb (hS : b = P9) => by have h9 : U.heap.size = b := Option.some.inj hb; omega), ((HK.out.then hk2).then kX).trans (kV3.mono fun i _ hi => Or.inr (by have h9 : i = P9 := hi; omega)), kV3.blk (kX.blk HB02.out id) (fun (h : w.heap.size = P9) => by omega), kV3.blk (kX.blk HB12.out id) (fun (h : w.heap.size + 1 = P9) => by omega), bV⟩; have HINV := Lib.hid hinv; clear ho2 hk2 kX bX bV kV3 hinv a0 a1 a2))
  have hG : w.heap.size + 2 ≤ U.heap.size := by omega
  obtain ⟨g, hg⟩ : ∃ g, U.heap.size = g := ⟨_, rfl⟩
  rw [hg] at HINV hG hP9l
  clear hg hU hX f1 f2 f3 g0 g0' g1 g1' g2 g2' hP9 hs2 sU
  go_loopg [16, 17, 18, 19] y1 (fun gg yv _ _ _ wr => ∃ Y : Nat, y1 ≤ gg + (y0 + Y) ∧ Y ≤ D ∧ yv = .int .i64 ((y0 : Int) + (Y : Int)) ∧ RcInv w 35 W H a n cap P9 C D g (4 * M) (tab (4 * M) (paintD t z (cutK W x0 y0 C p) Y 0)) wr)
  case atStart => exact ⟨0, by omega, by omega, rfl, by rw [HSTART.out]; exact HINV.out⟩
  case round =>
    obtain ⟨Y, hgg, hYD, rfl, hinv⟩ := hrel
    by_cases hY1 : Y < D
    · have gy : decide ((y0 : Int) + (Y : Int) < (y1 : Int)) = true := decide_eq_true (by omega)
      have HI := Lib.hid hinv
      obtain ⟨gko, hgo⟩ : ∃ x, x = gk := ⟨_, rfl⟩
      subst hgo
      clear hinv
      go_wp2
      go_loopg [17, 18, 19] x1 (fun gg xv _ _ wr => ∃ X : Nat, x1 ≤ gg + (x0 + X) ∧ X ≤ C ∧ xv = .int .i64 ((x0 : Int) + (X : Int)) ∧ RcInv w 35 W H a n cap P9 C D g (4 * M) (tab (4 * M) (paintD t z (cutK W x0 y0 C p) Y X)) wr)
      case atStart => exact ⟨0, by omega, by omega, rfl, HI.out⟩
      case round =>
        obtain ⟨X, hgx, hXC, rfl, hinv⟩ := hrel
        by_cases hX1 : X < C
        · have gx : decide ((x0 : Int) + (X : Int) < (x1 : Int)) = true := decide_eq_true (by omega)
          have hPn := fit_idx hX1 hY1
          have hn4 : 4 * (Y * C + X) + 4 ≤ 4 * M := by have := HM.out; omega
          have hWH : W * H ≤ 67108864 := by have := HN.out; omega
          have hM2 : C * D ≤ 67108864 := by have := HM.out; omega
          obtain ⟨QQ, hQQ⟩ : ∃ q, (y0 + Y) * W + (x0 + X) = q := ⟨_, rfl⟩
          obtain ⟨s0, hs0⟩ : ∃ z, p.getD (4 * QQ) 0 = z := ⟨_, rfl⟩
          obtain ⟨s1, hs1⟩ : ∃ z, p.getD (4 * QQ + 1) 0 = z := ⟨_, rfl⟩
          obtain ⟨s2, hs2⟩ : ∃ z, p.getD (4 * QQ + 2) 0 = z := ⟨_, rfl⟩
          obtain ⟨s3, hs3⟩ : ∃ z, p.getD (4 * QQ + 3) 0 = z := ⟨_, rfl⟩
          have HR1 := Lib.hid (fun (V' : World) (hk : Kept (fun _ => False) w V') => show Calls Try.prog 76 #[.agg #[.int .i64 W, .int .i64 H, .slice a n cap], .int .i64 ((x0 + X : Nat) : Int), .int .i64 ((y0 + Y : Nat) : Int)] V' fun e w' => e = .returned (.tuple #[.agg #[.int .u8 s0, .int .u8 s1, .int .u8 s2, .int .u8 s3], .bool true]) ∧ Kept (fun _ => False) V' w' from by
            have h := rat_yes W H (x0 + X) (y0 + Y) p a n cap V' (by omega) (by omega) hWH HN.out (HS.out.up hk) (by omega) (by omega)
            rw [hQQ] at h
            unfold pixV at h
            rw [hs0, hs1, hs2, hs3] at h
            exact h)
          have HPUT := Lib.hid (fun (V' : World) (hi : RcInv w 35 W H a n cap P9 C D g (4 * M) (tab (4 * M) (paintD t z (cutK W x0 y0 C p) Y X)) V') => show Calls Try.prog 54 #[.agg #[.int .i64 C, .int .i64 D, .slice (some ⟨g, 0, none⟩) (4 * M) (4 * M)], .int .i64 X, .int .i64 Y, .agg #[.int .u8 s0, .int .u8 s1, .int .u8 s2, .int .u8 s3]] V' fun e w' => e = .returned (.tuple #[]) ∧ RcInv w 35 W H a n cap P9 C D g (4 * M) (tab (4 * M) (paintD t z (cutK W x0 y0 C p) Y (X + 1))) w' ∧ Kept (fun i => i = g) V' w' from by
            refine (put_any C D X Y _ [] g (4 * M) (4 * M) V' hX1 hY1 hM2 (by rw [HM.out]) hi.1 (by omega) (by omega) _ _ _ _).mono ?_
            rintro e w' ⟨rfl, ho', hk'⟩
            have hst := HSTEP.out X Y hX1 hY1 hn4 [s0, s1, s2, s3] rfl (fun k hk => by
              unfold cutK
              obtain ⟨e3, e4⟩ := pos_of (y := Y) hX1
              rw [e3, e4, show (Y + y0) * W + (X + x0) = QQ by rw [← hQQ, Nat.add_comm Y, Nat.add_comm X]]
              match k, hk with
              | 0, _ => exact hs0.symm
              | 1, _ => exact hs1.symm
              | 2, _ => exact hs2.symm
              | 3, _ => exact hs3.symm)
            rw [hst] at ho'
            exact ⟨rfl, hi.put ho' hk' (by omega) (by omega), hk'⟩)
          have HI := Lib.hid hinv
          have HLT := Lib.hid (And.intro hX1 hY1)
          obtain ⟨⟨d0, -⟩, ⟨d1, -⟩, d2, -⟩ := blk3 hinv.2.2.1
          clear hinv hs0 hs1 hs2 hs3 hQQ hPn hM2 hn4 hWH
          go_wp2_with fail
          refine (HR1.out _ HI.out.2.1).mono ?_; rintro e w2 ⟨rfl, hk2⟩
          obtain ⟨V2, hV2⟩ : ∃ V, w2.alloc (.cells #[.int .u8 s0, .int .u8 s1, .int .u8 s2, .int .u8 s3] 65) = V := ⟨_, rfl⟩
          have kV2 : Kept (fun _ => False) w2 V2 := by rw [← hV2]; exact (Kept.refl _ _).alloc _
          have hb18 : V2.heap[w2.heap.size]? = some (.cells #[.int .u8 s0, .int .u8 s1, .int .u8 s2, .int .u8 s3] 65 (0, 0)) := by rw [← hV2]; exact blk_new _ _
          have hi2 := (HI.out.kept hk2).kept kV2
          have HI2 := Lib.hid hi2
          obtain ⟨⟨c0, -⟩, ⟨c1, -⟩, c2, -⟩ := blk3 hi2.2.2.2.2
          obtain ⟨⟨m0, -⟩, ⟨m1, -⟩, ⟨m2, -⟩, m3, -⟩ := blk4 hb18
          have e7 : (x0 : Int) + (X : Int) - (x0 : Int) = (X : Int) := by omega
          have e8 : (y0 : Int) + (Y : Int) - (y0 : Int) = (Y : Int) := by omega
          clear hk2 kV2 hb18 hi2 d0 d1 d2
          go_wp2_with fail
          refine (HPUT.out _ HI2.out).mono ?_; rintro e w3 ⟨rfl, hi3, -⟩
          have HI3 := Lib.hid hi3
          clear hi3 c0 c1 c2 m0 m1 m2 m3 e7 e8 hV2
          go_wp2
          go_roundg (gk - 1)
          case rel => exact ⟨X + 1, by omega, by omega, by go_num, HI3.out⟩
          case measure => omega
        · obtain rfl : X = C := by omega
          have gx : decide ((x0 : Int) + (X : Int) < (x1 : Int)) = false := decide_eq_false (by omega)
          have hrow := HROWS.out X Y (by omega)
          rw [hrow] at hinv
          have HI := Lib.hid hinv
          clear hinv hrow
          go_wp2
          go_roundg (gko - 1)
          case rel => exact ⟨Y + 1, by omega, by omega, by go_num, HI.out⟩
          case measure => omega
    · obtain rfl : Y = D := by omega
      have gy : decide ((y0 : Int) + (Y : Int) < (y1 : Int)) = false := decide_eq_false (by omega)
      have hend := HEND.out 0 Y (by omega)
      rw [hend, HFIN.out] at hinv
      obtain ⟨⟨c0, -⟩, ⟨c1, -⟩, c2, -⟩ := blk3 hinv.2.2.2.2
      obtain ⟨V1, V2, V3, f1, f2, f3, ⟨g0, g0'⟩, ⟨g1, g1'⟩, ⟨g2, g2'⟩, bV, kV3⟩ := store3 hinv.2.2.2.1 (.int .i64 C) (.int .i64 Y) (.slice (some ⟨g, 0, none⟩) (4 * M) (4 * M))
      obtain ⟨⟨m0, -⟩, ⟨m1, -⟩, m2, -⟩ := blk3 bV
      have HO := Lib.hid (hinv.1.kept kV3 (fun b hb (hS : b = w.heap.size + 1) => by have h9 : g = b := Option.some.inj hb; omega))
      have HK := Lib.hid (hinv.2.1.trans (kV3.mono fun i _ hi => Or.inr (by have h9 : i = w.heap.size + 1 := hi; omega)))
      clear hinv hend bV kV3
      go_wp2
      exact bodyPost_ret (v := .agg #[.int .i64 C, .int .i64 Y, .slice (some ⟨g, 0, none⟩) (4 * M) (4 * M)]) (by simp [results, Try.results67, go_sem, m0, m1, m2]) rfl ⟨_, rfl, HO.out, HK.out, fun b hb => by have h9 : g = b := Option.some.inj hb; omega⟩

end Go.Proofs.Ytdjgmhbfohbenaa
