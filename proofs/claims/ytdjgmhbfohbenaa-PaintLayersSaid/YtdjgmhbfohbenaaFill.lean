/- A part of a matrix filled: both sides. -/
import Derived.Test.YtdjgmhbfohbenaaRCut
namespace Go.Proofs.Ytdjgmhbfohbenaa
open Go.RowKit Go.Sort
set_option linter.unusedVariables false
set_option linter.unusedSimpArgs false
def fillL (W H : Nat) (x y cw ch : Int) (p : List Int) (c0 c1 c2 c3 : Int) (n : Nat) : List Int :=
  tab n (paintF ⟨W, 0, 0, 0, (partS x cw W).1.toNat, (partS x cw W).2.toNat, (partS y ch H).1.toNat, (partS y ch H).2.toNat⟩ p (fun _ k => [c0, c1, c2, c3].getD k 0))
/-- What holds of memory while a part is filled. -/
def FillInv (w : World) (T T2 P9 W H : Nat) (av : Option Addr) (n cv : Nat) (c0 c1 c2 c3 : Int) (L : List Int) (wr : World) : Prop :=
  Own .u8 5 wr (.slice av n cv) L ∧ Kept (fun _ => False) w wr ∧ wr.heap[P9]? = some (.cells #[.int .i64 W, .int .i64 H, .slice av n cv] T (0, 0)) ∧ wr.heap[w.heap.size + 1]? = some (.cells #[.int .u8 c0, .int .u8 c1, .int .u8 c2, .int .u8 c3] T2 (0, 0)) ∧ wr.heap[w.heap.size + 1 + 1]? = some (.cells #[.int .i64 0, .int .i64 0, .slice none 0 0] T (0, 0))
theorem FillInv.kept {w : World} {T T2 P9 W H : Nat} {av : Option Addr} {n cv : Nat} {c0 c1 c2 c3 : Int} {L : List Int} {wr w2 : World} (h : FillInv w T T2 P9 W H av n cv c0 c1 c2 c3 L wr) (hk : Kept (fun _ => False) wr w2) : FillInv w T T2 P9 W H av n cv c0 c1 c2 c3 L w2 :=
  ⟨h.1.kept hk (fun _ _ => id), h.2.1.then hk, hk.blk h.2.2.1 id, hk.blk h.2.2.2.1 id, hk.blk h.2.2.2.2 id⟩
theorem FillInv.put {w : World} {T T2 P9 W H : Nat} {av : Option Addr} {n cv : Nat} {c0 c1 c2 c3 : Int} {L L' : List Int} {wr w2 : World} {g : Nat} (h : FillInv w T T2 P9 W H av n cv c0 c1 c2 c3 L wr) (ho : Own .u8 5 w2 (.slice av n cv) L') (hk : Kept (fun i => i = g) wr w2) (hg : w.heap.size + 3 ≤ g) (hgP : P9 ≠ g) : FillInv w T T2 P9 W H av n cv c0 c1 c2 c3 L' w2 :=
  ⟨ho, h.2.1.trans (hk.mono fun i _ hi => Or.inr (by have h9 : i = g := hi; omega)), hk.blk h.2.2.1 hgP, hk.blk h.2.2.2.1 (fun (h : w.heap.size + 1 = g) => by omega), hk.blk h.2.2.2.2 (fun (h : w.heap.size + 1 + 1 = g) => by omega)⟩

set_option maxRecDepth 100000 in
set_option maxHeartbeats 4000000 in
theorem fill_any (W H : Nat) (x y cw ch : Int) (p : List Int) (a : Option Addr) (n cap : Nat) (c0 c1 c2 c3 : Int) (w : World) (hxx : I64 x) (hyy : I64 y) (hcw : I64 cw) (hch : I64 ch)
    (hr : rightM ⟨W, H, p⟩ = true) (hp : SlAt .u8 w a n p) (hn2 : n ≤ 16384) (hnil : a = none → n = 0 ∧ cap = 0) :
    Calls Try.prog 102 #[.agg #[.int .i64 W, .int .i64 H, .slice a n cap], .int .i64 x, .int .i64 y, .int .i64 cw, .int .i64 ch, .agg #[.int .u8 c0, .int .u8 c1, .int .u8 c2, .int .u8 c3]] w fun e w' => ∃ v, e = .returned (.agg #[.int .i64 W, .int .i64 H, v]) ∧ Made w (fillL W H x y cw ch p c0 c1 c2 c3 n) v w' := by
  have hr2 := hr
  unfold rightM at hr2
  rw [Bool.and_eq_true] at hr2
  have hsz : sizeB W H = true := hr2.1
  have h4 : (p.length : Int) = 4 * (W : Int) * (H : Int) := of_decide_eq_true hr2.2
  obtain ⟨z1, z2, z3, z4, -⟩ := sizeB_t hsz
  have hpl := hp.1
  have hnI : (n : Int) = 4 * (W : Int) * (H : Int) := by rw [← hpl]; exact h4
  have hN : n = 4 * (W * H) := by rw [Int.mul_assoc, show (W : Int) * (H : Int) = ((W * H : Nat) : Int) by simp] at h4; omega
  have bx := partS_bd x cw W (by omega)
  have by' := partS_bd y ch H (by omega)
  obtain ⟨x0, hx0⟩ : ∃ k : Nat, (partS x cw W).1 = (k : Int) := ⟨_, Int.eq_ofNat_of_zero_le bx.1 |>.choose_spec⟩
  obtain ⟨x1, hx1⟩ : ∃ k : Nat, (partS x cw W).2 = (k : Int) := ⟨_, Int.eq_ofNat_of_zero_le bx.2.2.1 |>.choose_spec⟩
  obtain ⟨y0, hy0⟩ : ∃ k : Nat, (partS y ch H).1 = (k : Int) := ⟨_, Int.eq_ofNat_of_zero_le by'.1 |>.choose_spec⟩
  obtain ⟨y1, hy1⟩ : ∃ k : Nat, (partS y ch H).2 = (k : Int) := ⟨_, Int.eq_ofNat_of_zero_le by'.2.2.1 |>.choose_spec⟩
  have HSX := Lib.hid (fun w => show Calls Try.prog 62 #[.int .i64 x, .int .i64 cw, .int .i64 W] w fun e w' => e = .returned (.tuple #[.int .i64 x0, .int .i64 x1]) ∧ w = w' from by rw [← hx0, ← hx1]; exact part_any x cw W w hxx hcw (by omega))
  have HSY := Lib.hid (fun w => show Calls Try.prog 62 #[.int .i64 y, .int .i64 ch, .int .i64 H] w fun e w' => e = .returned (.tuple #[.int .i64 y0, .int .i64 y1]) ∧ w = w' from by rw [← hy0, ← hy1]; exact part_any y ch H w hyy hch (by omega))
  have hx1W : x1 ≤ W := by have := bx.2.1; omega
  have hy1H : y1 ≤ H := by have := by'.2.1; omega
  have hx0W : x0 ≤ W := by have := bx.2.2.2; omega
  have hy0H : y0 ≤ H := by have := by'.2.2.2; omega
  obtain ⟨t, ht⟩ : ∃ t : Spot, (⟨W, 0, 0, 0, x0, x1, y0, y1⟩ : Spot) = t := ⟨_, rfl⟩
  obtain ⟨K, hK⟩ : ∃ K : Nat → Nat → Int, (fun _ k => [c0, c1, c2, c3].getD k 0) = K := ⟨_, rfl⟩
  have hE : fillL W H x y cw ch p c0 c1 c2 c3 n = tab n (paintF t p K) := by unfold fillL; rw [hx0, hx1, hy0, hy1]; simp only [Int.toNat_natCast]; rw [ht, hK]
  rw [hE]
  have HSTART := Lib.hid (show tab n (paintD t p K y0 x0) = p from by have h := paintD_start t p K n hpl; rw [← ht] at h ⊢; exact h)
  have HEND := Lib.hid (fun (X Y : Nat) (h : y1 ≤ Y) => show tab n (paintD t p K Y X) = tab n (paintF t p K) from paintD_end t p K n X Y (by rw [← ht]; exact h))
  have HROWS := Lib.hid (fun (X Y : Nat) (h : x1 ≤ X) => show tab n (paintD t p K Y X) = tab n (paintD t p K (Y + 1) x0) from by have h := paintD_row t p K n X Y (by rw [← ht]; exact h); rw [← ht] at h ⊢; exact h)
  have HSTEP := Lib.hid (fun (X Y : Nat) (hXW : X < W) (hX0 : x0 ≤ X) (hX : X < x1) (hY0 : y0 ≤ Y) (hY : Y < y1) (hn : 4 * (Y * W + X) + 4 ≤ n) => show spl (tab n (paintD t p K Y X)) (4 * (Y * W + X)) [c0, c1, c2, c3] = tab n (paintD t p K Y (X + 1)) from by
    have h := paintD_step t p K n X Y (by rw [← ht]; exact hXW) (by rw [← ht]; exact hX0) (by rw [← ht]; exact hX) (by rw [← ht]; exact hY0) (by rw [← ht]; exact hY) (by rw [← ht]; exact hn) [c0, c1, c2, c3] rfl (fun k _ => by rw [← hK])
    rw [← ht] at h ⊢
    exact h)
  have HPL := Lib.hid hpl
  have HN := Lib.hid hN
  obtain ⟨V, hV⟩ : ∃ V, ((w.alloc (.cells #[.int .i64 W, .int .i64 H, .slice a n cap] 31)).alloc (.cells #[.int .u8 c0, .int .u8 c1, .int .u8 c2, .int .u8 c3] 66)).alloc (.cells #[.int .i64 0, .int .i64 0, .slice none 0 0] 31) = V := ⟨_, rfl⟩
  have kV : Kept (fun _ => False) w V := by rw [← hV]; exact (((Kept.refl _ w).alloc _).alloc _).alloc _
  have b0 : V.heap[w.heap.size]? = some (.cells #[.int .i64 W, .int .i64 H, .slice a n cap] 31 (0, 0)) := by rw [← hV]; exact blk_alloc (blk_alloc (blk_new _ _) _) _
  have b1 : V.heap[w.heap.size + 1]? = some (.cells #[.int .u8 c0, .int .u8 c1, .int .u8 c2, .int .u8 c3] 66 (0, 0)) := by rw [← hV]; exact blk_alloc (blk_at _ _ (by simp)) _
  have b2 : V.heap[w.heap.size + 1 + 1]? = some (.cells #[.int .i64 0, .int .i64 0, .slice none 0 0] 31 (0, 0)) := by rw [← hV]; exact blk_at _ _ (by simp)
  have sV : w.heap.size + 3 ≤ V.heap.size := by rw [← hV]; simp
  have HTW := Lib.hid (twin_any W H a n cap p V (hp.up kV) hn2 hnil)
  have HIN := Lib.hid (fun (X Y : Nat) (hx : X < W) (hy : Y < H) (w : World) (av : Option Addr) (cv : Nat) => show Calls Try.prog 57 #[.agg #[.int .i64 W, .int .i64 H, .slice av n cv], .int .i64 X, .int .i64 Y] w fun e w' => e = .returned (.bool true) ∧ Kept (fun _ => False) w w' from by
    have h := in_any W H X Y av n cv w hnI hsz
    rw [show inB W H X Y = true from decide_eq_true (by omega)] at h; exact h)
  obtain ⟨⟨x0', -⟩, ⟨x1', -⟩, x2', -⟩ := blk3 b0
  have HB0 := Lib.hid b0
  have HB1 := Lib.hid b1
  have HB2 := Lib.hid b2
  have HK := Lib.hid kV
  clear b0 b1 b2 kV hnil hp hsz hnI bx by' hx0 hx1 hy0 hy1 hE ht hK hpl hN h4 hr hr2
  go_enter Try.func102, Try.ntmps102
  go_wp2_with fail
  refine HTW.out.mono ?_; rintro e w1 ⟨v, rfl, ho, hk, hf⟩
  obtain ⟨av, cv, rfl, -⟩ := ho.shape
  rw [HPL.out] at ho hf ⊢
  obtain ⟨V1, V2, U, f1, f2, f3, ⟨g0, g0'⟩, ⟨g1, g1'⟩, ⟨g2, g2'⟩, bV, kV3⟩ := store3 (hk.blk HB0.out id) (.int .i64 W) (.int .i64 H) (.slice av n cv)
  obtain ⟨⟨q0, -⟩, ⟨q1, -⟩, q2, -⟩ := blk3 bV
  have HF := Lib.hid (show ∀ b, (Value.slice av n cv).ownBlock = some b → w.heap.size + 3 ≤ b ∧ w.heap.size ≠ b from fun b hb => by have := hf b hb; omega)
  have HINV := Lib.hid (show FillInv w 31 66 w.heap.size W H av n cv c0 c1 c2 c3 (tab n (paintD t p K y0 x0)) U from ⟨by rw [HSTART.out]; exact ho.kept kV3 (fun b hb (hS : b = w.heap.size) => by have := HF.out b hb; omega), (HK.out.then hk).trans (kV3.mono fun i _ hi => Or.inr (by have h9 : i = w.heap.size := hi; omega)), bV, kV3.blk (hk.blk HB1.out id) (fun (h : w.heap.size + 1 = w.heap.size) => by omega), kV3.blk (hk.blk HB2.out id) (fun (h : w.heap.size + 1 + 1 = w.heap.size) => by omega)⟩)
  clear ho hf hk bV kV3 x0' x1' x2' hV
  go_wp2_with (go_at_call 62; first | ((with_reducible refine (HSX.out _).mono ?_); rintro e w' ⟨rfl, rfl⟩) | ((with_reducible refine (HSY.out _).mono ?_); rintro e w' ⟨rfl, rfl⟩))
  clear q0 q1 q2 f1 f2 f3 g0 g0' g1 g1' g2 g2'
  go_loopg [17, 18] y1 (fun gg yv _ wr => ∃ Y : Nat, y0 ≤ Y ∧ y1 ≤ gg + Y ∧ yv = .int .i64 Y ∧ FillInv w 31 66 w.heap.size W H av n cv c0 c1 c2 c3 (tab n (paintD t p K Y x0)) wr)
  case atStart => exact ⟨y0, by omega, by omega, rfl, HINV.out⟩
  case round =>
    obtain ⟨Y, hY0, hgg, rfl, hinv⟩ := hrel
    by_cases hY1 : Y < y1
    · have gy : decide (Y < y1) = true := decide_eq_true hY1
      have HI := Lib.hid hinv
      obtain ⟨gko, hgo⟩ : ∃ x, x = gk := ⟨_, rfl⟩
      subst hgo
      clear hinv
      go_wp2
      go_loopg [18] x1 (fun gg xv wr => ∃ X : Nat, x0 ≤ X ∧ x1 ≤ gg + X ∧ xv = .int .i64 X ∧ FillInv w 31 66 w.heap.size W H av n cv c0 c1 c2 c3 (tab n (paintD t p K Y X)) wr)
      case atStart => exact ⟨x0, by omega, by omega, rfl, HI.out⟩
      case round =>
        obtain ⟨X, hX0, hgx, rfl, hinv⟩ := hrel
        by_cases hX1 : X < x1
        · have gx : decide (X < x1) = true := decide_eq_true hX1
          have hXW : X < W := by omega
          have hYH : Y < H := by omega
          have hPn := fit_idx hXW hYH
          have hn4 : 4 * (Y * W + X) + 4 ≤ n := by have := HN.out; omega
          have hWH : W * H ≤ 67108864 := by have := HN.out; omega
          obtain ⟨g, rfl⟩ := hinv.1.form (by omega)
          have hgF := HF.out g rfl
          have HST := Lib.hid (HSTEP.out X Y hXW hX0 hX1 hY0 hY1 hn4)
          obtain ⟨⟨d0, -⟩, ⟨d1, -⟩, d2, -⟩ := blk3 hinv.2.2.1
          obtain ⟨⟨k0, -⟩, ⟨k1, -⟩, ⟨k2, -⟩, k3, -⟩ := blk4 hinv.2.2.2.1
          have yWb : Y * W ≤ 16384 * 16384 := Nat.mul_le_mul (by omega) (by omega)
          obtain ⟨yW, hyW⟩ : ∃ q, Y * W = q := ⟨_, rfl⟩
          rw [hyW] at hPn hn4 yWb HST
          have v5 : (Y : Int) * (W : Int) = (yW : Int) := by rw [← hyW]; simp
          have hcv : n ≤ cv ∧ cv ≤ 9223372036854775807 := by obtain ⟨_, _, hv, -, h1, h2, -⟩ := hinv.1.shape; rw [tab_length] at hv h1; cases hv; exact ⟨h1, by simpa [maxLen] using h2⟩
          have HI := Lib.hid hinv
          clear hinv hPn hyW hWH
          go_wp2_with fail
          refine (HIN.out X Y hXW hYH _ _ _).mono ?_; rintro e w2 ⟨rfl, hk⟩
          have HI2 := Lib.hid (HI.out.kept hk)
          obtain ⟨⟨q0, -⟩, ⟨q1, -⟩, q2, -⟩ := blk3 HI2.out.2.2.1
          obtain ⟨⟨m0, -⟩, ⟨m1, -⟩, ⟨m2, -⟩, m3, -⟩ := blk4 HI2.out.2.2.2.1
          have HS18 := Lib.hid (show SlAt .u8 w2 (some ⟨w.heap.size + 1, 0, none⟩) 4 [c0, c1, c2, c3] from slAt_blk HI2.out.2.2.2.1 rfl rfl)
          have l2 : 4 * ((yW : Int) + (X : Int)) ≤ (n : Int) := by omega
          have l3 : 4 * ((yW : Int) + (X : Int)) ≤ (cv : Int) := by omega
          have t1 : (4 * ((yW : Int) + (X : Int))).toNat = 4 * (yW + X) := by omega
          have w1' : IntKind.i64.wrap (yW : Int) = (yW : Int) := IntWalk.i64_in _ (by omega)
          have w2' : IntKind.i64.wrap ((yW : Int) + (X : Int)) = (yW : Int) + (X : Int) := IntWalk.i64_in _ (by omega)
          have w3' : IntKind.i64.wrap (4 * ((yW : Int) + (X : Int))) = 4 * ((yW : Int) + (X : Int)) := IntWalk.i64_in _ (by omega)
          have l1 : 0 ≤ 4 * ((yW : Int) + (X : Int)) := by omega
          have hcap : ¬ (cv = 4 * (yW + X)) := by omega
          have hmin := Lib.hid (show 4 = Nat.min 4 (n - 4 * (yW + X)) from (Nat.min_eq_left (show 4 ≤ n - 4 * (yW + X) by omega)).symm)
          clear hk d0 d1 d2 k0 k1 k2 k3
          go_wp2
          go_still_tail 11, (by kernel_rfl)
          clear l1 l2 l3 t1 w1' w2' w3' q0 q1 q2 m0 m1 m2 m3
          change wpList _ _ _ _ _ w2.drew
          refine wpList_cp rfl (.tmp 62) (.tmp 63) 29 29 rfl 5 .u8 Try.underlying29 Try.size5 g n cv (4 * (yW + X)) _ _ _ rfl (HI2.out.1.kept ((Kept.refl (fun _ => False) w2).drew) (fun _ _ => id)) (some ⟨w.heap.size + 1, 0, none⟩) 4 _ _ rfl (HS18.out.up ((Kept.refl (fun _ => False) w2).drew)) 4 hmin.out (by omega) ?_
          intro w4 ho4 hk4
          rw [show ([c0, c1, c2, c3] : List Int).take 4 = [c0, c1, c2, c3] from rfl, HST.out] at ho4
          have HI4 := Lib.hid ((HI2.out.kept (Kept.refl (fun _ => False) w2).drew).put ho4 hk4 hgF.1 hgF.2)
          clear ho4 hk4
          go_wp2
          go_roundg (gk - 1)
          case rel => exact ⟨X + 1, by omega, by omega, by go_num, HI4.out⟩
          case measure => omega
        · have gx : decide (X < x1) = false := decide_eq_false hX1
          have hrow := HROWS.out X Y (by omega)
          rw [hrow] at hinv
          have HI := Lib.hid hinv
          clear hinv hrow
          go_wp2
          go_roundg (gko - 1)
          case rel => exact ⟨Y + 1, by omega, by omega, by go_num, HI.out⟩
          case measure => omega
    · have gy : decide (Y < y1) = false := decide_eq_false hY1
      have hend := HEND.out x0 Y (by omega)
      rw [hend] at hinv
      obtain ⟨⟨c0', -⟩, ⟨c1', -⟩, c2', -⟩ := blk3 hinv.2.2.1
      obtain ⟨V1, V2, V3, f1, f2, f3, ⟨g0, g0'⟩, ⟨g1, g1'⟩, ⟨g2, g2'⟩, bV, kV3⟩ := store3 hinv.2.2.2.2 (.int .i64 W) (.int .i64 H) (.slice av n cv)
      obtain ⟨⟨m0, -⟩, ⟨m1, -⟩, m2, -⟩ := blk3 bV
      have HO := Lib.hid (hinv.1.kept kV3 (fun b hb (hS : b = w.heap.size + 1 + 1) => by have := HF.out b hb; omega))
      have HK := Lib.hid (hinv.2.1.trans (kV3.mono fun i _ hi => Or.inr (by have h9 : i = w.heap.size + 1 + 1 := hi; omega)))
      clear hinv hend bV kV3
      go_wp2
      exact bodyPost_ret (v := .agg #[.int .i64 W, .int .i64 H, .slice av n cv]) (by simp [results, Try.results102, go_sem, m0, m1, m2]) rfl ⟨_, rfl, HO.out, HK.out, fun b hb => by have := HF.out b hb; omega⟩

set_option maxRecDepth 100000 in
set_option maxHeartbeats 4000000 in
theorem rfill_any (W H : Nat) (x y cw ch : Int) (p : List Int) (a : Option Addr) (n cap : Nat) (c0 c1 c2 c3 : Int) (w : World) (hxx : I64 x) (hyy : I64 y) (hcw : I64 cw) (hch : I64 ch)
    (hr : rightM ⟨W, H, p⟩ = true) (hp : SlAt .u8 w a n p) (hn2 : n ≤ 16384) (hnil : a = none → n = 0 ∧ cap = 0) :
    Calls Try.prog 23 #[.agg #[.int .i64 W, .int .i64 H, .slice a n cap], .int .i64 x, .int .i64 y, .int .i64 cw, .int .i64 ch, .agg #[.int .u8 c0, .int .u8 c1, .int .u8 c2, .int .u8 c3]] w fun e w' => ∃ v, e = .returned (.agg #[.int .i64 W, .int .i64 H, v]) ∧ Made w (fillL W H x y cw ch p c0 c1 c2 c3 n) v w' := by
  have hr2 := hr
  unfold rightM at hr2
  rw [Bool.and_eq_true] at hr2
  have hsz : sizeB W H = true := hr2.1
  have h4 : (p.length : Int) = 4 * (W : Int) * (H : Int) := of_decide_eq_true hr2.2
  obtain ⟨z1, z2, z3, z4, -⟩ := sizeB_t hsz
  have hpl := hp.1
  have hnI : (n : Int) = 4 * (W : Int) * (H : Int) := by rw [← hpl]; exact h4
  have hN : n = 4 * (W * H) := by rw [Int.mul_assoc, show (W : Int) * (H : Int) = ((W * H : Nat) : Int) by simp] at h4; omega
  have bx := partS_bd x cw W (by omega)
  have by' := partS_bd y ch H (by omega)
  obtain ⟨x0, hx0⟩ : ∃ k : Nat, (partS x cw W).1 = (k : Int) := ⟨_, Int.eq_ofNat_of_zero_le bx.1 |>.choose_spec⟩
  obtain ⟨x1, hx1⟩ : ∃ k : Nat, (partS x cw W).2 = (k : Int) := ⟨_, Int.eq_ofNat_of_zero_le bx.2.2.1 |>.choose_spec⟩
  obtain ⟨y0, hy0⟩ : ∃ k : Nat, (partS y ch H).1 = (k : Int) := ⟨_, Int.eq_ofNat_of_zero_le by'.1 |>.choose_spec⟩
  obtain ⟨y1, hy1⟩ : ∃ k : Nat, (partS y ch H).2 = (k : Int) := ⟨_, Int.eq_ofNat_of_zero_le by'.2.2.1 |>.choose_spec⟩
  have HSX := Lib.hid (fun w => show Calls Try.prog 53 #[.int .i64 x, .int .i64 cw, .int .i64 W] w fun e w' => e = .returned (.tuple #[.int .i64 x0, .int .i64 x1]) ∧ w = w' from by rw [← hx0, ← hx1]; exact span_any x cw W w hxx hcw (by omega))
  have HSY := Lib.hid (fun w => show Calls Try.prog 53 #[.int .i64 y, .int .i64 ch, .int .i64 H] w fun e w' => e = .returned (.tuple #[.int .i64 y0, .int .i64 y1]) ∧ w = w' from by rw [← hy0, ← hy1]; exact span_any y ch H w hyy hch (by omega))
  have hx1W : x1 ≤ W := by have := bx.2.1; omega
  have hy1H : y1 ≤ H := by have := by'.2.1; omega
  have hx0W : x0 ≤ W := by have := bx.2.2.2; omega
  have hy0H : y0 ≤ H := by have := by'.2.2.2; omega
  obtain ⟨t, ht⟩ : ∃ t : Spot, (⟨W, 0, 0, 0, x0, x1, y0, y1⟩ : Spot) = t := ⟨_, rfl⟩
  obtain ⟨K, hK⟩ : ∃ K : Nat → Nat → Int, (fun _ k => [c0, c1, c2, c3].getD k 0) = K := ⟨_, rfl⟩
  have hE : fillL W H x y cw ch p c0 c1 c2 c3 n = tab n (paintF t p K) := by unfold fillL; rw [hx0, hx1, hy0, hy1]; simp only [Int.toNat_natCast]; rw [ht, hK]
  rw [hE]
  have HSTART := Lib.hid (show tab n (paintD t p K y0 x0) = p from by have h := paintD_start t p K n hpl; rw [← ht] at h ⊢; exact h)
  have HEND := Lib.hid (fun (X Y : Nat) (h : y1 ≤ Y) => show tab n (paintD t p K Y X) = tab n (paintF t p K) from paintD_end t p K n X Y (by rw [← ht]; exact h))
  have HROWS := Lib.hid (fun (X Y : Nat) (h : x1 ≤ X) => show tab n (paintD t p K Y X) = tab n (paintD t p K (Y + 1) x0) from by have h := paintD_row t p K n X Y (by rw [← ht]; exact h); rw [← ht] at h ⊢; exact h)
  have HSTEP := Lib.hid (fun (X Y : Nat) (hXW : X < W) (hX0 : x0 ≤ X) (hX : X < x1) (hY0 : y0 ≤ Y) (hY : Y < y1) (hn : 4 * (Y * W + X) + 4 ≤ n) => show spl (tab n (paintD t p K Y X)) (4 * (Y * W + X)) [c0, c1, c2, c3] = tab n (paintD t p K Y (X + 1)) from by
    have h := paintD_step t p K n X Y (by rw [← ht]; exact hXW) (by rw [← ht]; exact hX0) (by rw [← ht]; exact hX) (by rw [← ht]; exact hY0) (by rw [← ht]; exact hY) (by rw [← ht]; exact hn) [c0, c1, c2, c3] rfl (fun k _ => by rw [← hK])
    rw [← ht] at h ⊢
    exact h)
  have HPL := Lib.hid hpl
  have HN := Lib.hid hN
  obtain ⟨V, hV⟩ : ∃ V, ((w.alloc (.cells #[.int .i64 W, .int .i64 H, .slice a n cap] 35)).alloc (.cells #[.int .u8 c0, .int .u8 c1, .int .u8 c2, .int .u8 c3] 65)).alloc (.cells #[.int .i64 0, .int .i64 0, .slice none 0 0] 35) = V := ⟨_, rfl⟩
  have kV : Kept (fun _ => False) w V := by rw [← hV]; exact (((Kept.refl _ w).alloc _).alloc _).alloc _
  have b0 : V.heap[w.heap.size]? = some (.cells #[.int .i64 W, .int .i64 H, .slice a n cap] 35 (0, 0)) := by rw [← hV]; exact blk_alloc (blk_alloc (blk_new _ _) _) _
  have b1 : V.heap[w.heap.size + 1]? = some (.cells #[.int .u8 c0, .int .u8 c1, .int .u8 c2, .int .u8 c3] 65 (0, 0)) := by rw [← hV]; exact blk_alloc (blk_at _ _ (by simp)) _
  have b2 : V.heap[w.heap.size + 1 + 1]? = some (.cells #[.int .i64 0, .int .i64 0, .slice none 0 0] 35 (0, 0)) := by rw [← hV]; exact blk_at _ _ (by simp)
  have sV : w.heap.size + 3 ≤ V.heap.size := by rw [← hV]; simp
  have HTW := Lib.hid (rtwin_any W H a n cap p V (hp.up kV) hn2 hnil)
  obtain ⟨⟨x0', -⟩, ⟨x1', -⟩, x2', -⟩ := blk3 b0
  have HB0 := Lib.hid b0
  have HB1 := Lib.hid b1
  have HB2 := Lib.hid b2
  have HK := Lib.hid kV
  clear b0 b1 b2 kV hnil hp hsz hnI bx by' hx0 hx1 hy0 hy1 hE ht hK hpl hN h4 hr hr2
  go_enter Try.func23, Try.ntmps23
  go_wp2_with fail
  refine HTW.out.mono ?_; rintro e w1 ⟨v, rfl, ho, hk, hf⟩
  obtain ⟨av, cv, rfl, -⟩ := ho.shape
  rw [HPL.out] at ho hf ⊢
  obtain ⟨U, hU⟩ : ∃ U, w1.alloc (.cells #[.int .i64 W, .int .i64 H, .slice av n cv] 35) = U := ⟨_, rfl⟩
  obtain ⟨P9, hP9⟩ : ∃ P, w1.heap.size = P := ⟨_, rfl⟩
  have kU : Kept (fun _ => False) w1 U := by rw [← hU]; exact (Kept.refl _ _).alloc _
  have hP9l : V.heap.size ≤ P9 := by have := hk.size; omega
  have HBU := Lib.hid (show U.heap[P9]? = some (.cells #[.int .i64 W, .int .i64 H, .slice av n cv] 35 (0, 0)) by rw [← hU, ← hP9]; exact blk_new _ _)
  have HF := Lib.hid (show ∀ b, (Value.slice av n cv).ownBlock = some b → w.heap.size + 3 ≤ b ∧ P9 ≠ b from fun b hb => ⟨by have := hf b hb; omega, by have := Own.lt ho b hb; omega⟩)
  have HINV := Lib.hid (show FillInv w 35 65 P9 W H av n cv c0 c1 c2 c3 (tab n (paintD t p K y0 x0)) U from ⟨by rw [HSTART.out]; exact ho.kept kU (fun _ _ => id), (HK.out.then hk).then kU, HBU.out, (hk.then kU).blk HB1.out id, (hk.then kU).blk HB2.out id⟩)
  obtain ⟨⟨q0, -⟩, ⟨q1, -⟩, q2, -⟩ := blk3 ((hk.then kU).blk HB0.out id)
  clear ho hf hk kU x0' x1' x2' hV
  go_wp2_with (go_at_call 53; first | ((with_reducible refine (HSX.out _).mono ?_); rintro e w' ⟨rfl, rfl⟩) | ((with_reducible refine (HSY.out _).mono ?_); rintro e w' ⟨rfl, rfl⟩))
  clear q0 q1 q2 hU hP9
  go_loopg [18, 19] y1 (fun gg yv _ wr => ∃ Y : Nat, y0 ≤ Y ∧ y1 ≤ gg + Y ∧ yv = .int .i64 Y ∧ FillInv w 35 65 P9 W H av n cv c0 c1 c2 c3 (tab n (paintD t p K Y x0)) wr)
  case atStart => exact ⟨y0, by omega, by omega, rfl, HINV.out⟩
  case round =>
    obtain ⟨Y, hY0, hgg, rfl, hinv⟩ := hrel
    by_cases hY1 : Y < y1
    · have gy : decide (Y < y1) = true := decide_eq_true hY1
      have HI := Lib.hid hinv
      obtain ⟨gko, hgo⟩ : ∃ x, x = gk := ⟨_, rfl⟩
      subst hgo
      clear hinv
      go_wp2
      go_loopg [19] x1 (fun gg xv wr => ∃ X : Nat, x0 ≤ X ∧ x1 ≤ gg + X ∧ xv = .int .i64 X ∧ FillInv w 35 65 P9 W H av n cv c0 c1 c2 c3 (tab n (paintD t p K Y X)) wr)
      case atStart => exact ⟨x0, by omega, by omega, rfl, HI.out⟩
      case round =>
        obtain ⟨X, hX0, hgx, rfl, hinv⟩ := hrel
        by_cases hX1 : X < x1
        · have gx : decide (X < x1) = true := decide_eq_true hX1
          have hXW : X < W := by omega
          have hYH : Y < H := by omega
          have hPn := fit_idx hXW hYH
          have hn4 : 4 * (Y * W + X) + 4 ≤ n := by have := HN.out; omega
          have hWH : W * H ≤ 67108864 := by have := HN.out; omega
          obtain ⟨g, rfl⟩ := hinv.1.form (by omega)
          have hgF := HF.out g rfl
          have HST := Lib.hid (HSTEP.out X Y hXW hX0 hX1 hY0 hY1 hn4)
          obtain ⟨⟨d0, -⟩, ⟨d1, -⟩, d2, -⟩ := blk3 hinv.2.2.1
          obtain ⟨⟨k0, -⟩, ⟨k1, -⟩, ⟨k2, -⟩, k3, -⟩ := blk4 hinv.2.2.2.1
          have HPUT := Lib.hid (fun (V' : World) (hi : FillInv w 35 65 P9 W H (some ⟨g, 0, none⟩) n cv c0 c1 c2 c3 (tab n (paintD t p K Y X)) V') => show Calls Try.prog 54 #[.agg #[.int .i64 W, .int .i64 H, .slice (some ⟨g, 0, none⟩) n cv], .int .i64 X, .int .i64 Y, .agg #[.int .u8 c0, .int .u8 c1, .int .u8 c2, .int .u8 c3]] V' fun e w' => e = .returned (.tuple #[]) ∧ FillInv w 35 65 P9 W H (some ⟨g, 0, none⟩) n cv c0 c1 c2 c3 (tab n (paintD t p K Y (X + 1))) w' from by
            refine (put_any W H X Y _ [] g n cv V' hXW hYH hWH HN.out hi.1 (by omega) (by omega) _ _ _ _).mono ?_
            rintro e w' ⟨rfl, ho', hk'⟩
            rw [HST.out] at ho'
            exact ⟨rfl, hi.put ho' hk' hgF.1 hgF.2⟩)
          have HI := Lib.hid hinv
          clear hinv hPn hn4 hWH
          go_wp2_with fail
          refine (HPUT.out _ HI.out).mono ?_; rintro e w3 ⟨rfl, hi3⟩
          have HI3 := Lib.hid hi3
          clear hi3 d0 d1 d2 k0 k1 k2 k3
          go_wp2
          go_roundg (gk - 1)
          case rel => exact ⟨X + 1, by omega, by omega, by go_num, HI3.out⟩
          case measure => omega
        · have gx : decide (X < x1) = false := decide_eq_false hX1
          have hrow := HROWS.out X Y (by omega)
          rw [hrow] at hinv
          have HI := Lib.hid hinv
          clear hinv hrow
          go_wp2
          go_roundg (gko - 1)
          case rel => exact ⟨Y + 1, by omega, by omega, by go_num, HI.out⟩
          case measure => omega
    · have gy : decide (Y < y1) = false := decide_eq_false hY1
      have hend := HEND.out x0 Y (by omega)
      rw [hend] at hinv
      obtain ⟨⟨c0', -⟩, ⟨c1', -⟩, c2', -⟩ := blk3 hinv.2.2.1
      obtain ⟨V1, V2, V3, f1, f2, f3, ⟨g0, g0'⟩, ⟨g1, g1'⟩, ⟨g2, g2'⟩, bV, kV3⟩ := store3 hinv.2.2.2.2 (.int .i64 W) (.int .i64 H) (.slice av n cv)
      obtain ⟨⟨m0, -⟩, ⟨m1, -⟩, m2, -⟩ := blk3 bV
      have HO := Lib.hid (hinv.1.kept kV3 (fun b hb (hS : b = w.heap.size + 1 + 1) => by have := HF.out b hb; omega))
      have HK := Lib.hid (hinv.2.1.trans (kV3.mono fun i _ hi => Or.inr (by have h9 : i = w.heap.size + 1 + 1 := hi; omega)))
      clear hinv hend bV kV3
      go_wp2
      exact bodyPost_ret (v := .agg #[.int .i64 W, .int .i64 H, .slice av n cv]) (by simp [results, Try.results23, go_sem, m0, m1, m2]) rfl ⟨_, rfl, HO.out, HK.out, fun b hb => by have := HF.out b hb; omega⟩

end Go.Proofs.Ytdjgmhbfohbenaa
