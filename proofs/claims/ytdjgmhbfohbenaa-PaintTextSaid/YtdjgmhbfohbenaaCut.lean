/- A part of a matrix cut out: the program's. -/
import Derived.Test.YtdjgmhbfohbenaaCutP
import Derived.Test.YtdjgmhbfohbenaaIn
namespace Go.Proofs.Ytdjgmhbfohbenaa
open Go.RowKit Go.Sort
set_option linter.unusedVariables false
set_option linter.unusedSimpArgs false
/-- What is cut out: its sides, its bytes. -/
def cutM (W H : Nat) (x y cw ch : Int) (p : List Int) : Nat × Nat × List Int :=
  let x0 := (partS x cw W).1.toNat; let x1 := (partS x cw W).2.toNat; let y0 := (partS y ch H).1.toNat; let y1 := (partS y ch H).2.toNat
  if x1 ≤ x0 ∨ y1 ≤ y0 then (0, 0, []) else (x1 - x0, y1 - y0, tab (4 * ((x1 - x0) * (y1 - y0))) (cutF W x0 y0 (x1 - x0) p))
def CutInv (w : World) (T W H : Nat) (a : Option Addr) (n cap P9 C D : Nat) (L : List Int) (wr : World) : Prop :=
  ∃ v, Own .u8 5 wr v L ∧ Kept (fun _ => False) w wr ∧ wr.heap[w.heap.size]? = some (.cells #[.int .i64 W, .int .i64 H, .slice a n cap] T (0, 0)) ∧ wr.heap[w.heap.size + 1]? = some (.cells #[.int .i64 0, .int .i64 0, .slice none 0 0] T (0, 0)) ∧ wr.heap[P9]? = some (.cells #[.int .i64 C, .int .i64 D, v] T (0, 0)) ∧ w.heap.size + 2 ≤ P9 ∧ ∀ b, v.ownBlock = some b → w.heap.size + 2 ≤ b ∧ b ≠ P9
theorem row_at {w : World} {b off n : Nat} {p : List Int} (h : SlAt .u8 w (some ⟨b, off, none⟩) n p) (A m : Nat) (hA : A + m ≤ n) (h0 : 0 < m) : SlAt .u8 w (some ⟨b, off + A, none⟩) m (tab m (fun j => p.getD (A + j) 0)) := by
  refine ⟨tab_length _ _, .inr ⟨b, off + A, rfl, fun j hj => ?_⟩⟩
  obtain ⟨b', off', he, hc⟩ := h.2.resolve_left (by omega)
  cases he
  have h2 := hc (A + j) (by omega)
  rw [tab_get hj, Nat.add_assoc]
  exact h2

set_option maxRecDepth 100000 in
set_option maxHeartbeats 4000000 in
theorem cut_any (W H : Nat) (x y cw ch : Int) (p : List Int) (a : Option Addr) (n cap : Nat) (w : World) (hxx : I64 x) (hyy : I64 y) (hcw : I64 cw) (hch : I64 ch)
    (hr : rightM ⟨W, H, p⟩ = true) (hs : SlAt .u8 w a n p) (hn2 : n ≤ 16384) (hc : n ≤ cap) (hcm : cap ≤ 9223372036854775807) :
    Calls Try.prog 30 #[.agg #[.int .i64 W, .int .i64 H, .slice a n cap], .int .i64 x, .int .i64 y, .int .i64 cw, .int .i64 ch] w fun e w' => ∃ v, e = .returned (.agg #[.int .i64 (cutM W H x y cw ch p).1, .int .i64 (cutM W H x y cw ch p).2.1, v]) ∧ Made w (cutM W H x y cw ch p).2.2 v w' := by
  have hr2 := hr
  unfold rightM at hr2
  rw [Bool.and_eq_true] at hr2
  have hsz : sizeB W H = true := hr2.1
  have h4 : (p.length : Int) = 4 * (W : Int) * (H : Int) := of_decide_eq_true hr2.2
  obtain ⟨z1, z2, z3, z4, -⟩ := sizeB_t hsz
  have hpl := hs.1
  have bx := partS_bd x cw W (by omega)
  have by' := partS_bd y ch H (by omega)
  obtain ⟨x0, hx0⟩ : ∃ k : Nat, (partS x cw W).1 = (k : Int) := ⟨_, Int.eq_ofNat_of_zero_le bx.1 |>.choose_spec⟩
  obtain ⟨x1, hx1⟩ : ∃ k : Nat, (partS x cw W).2 = (k : Int) := ⟨_, Int.eq_ofNat_of_zero_le bx.2.2.1 |>.choose_spec⟩
  obtain ⟨y0, hy0⟩ : ∃ k : Nat, (partS y ch H).1 = (k : Int) := ⟨_, Int.eq_ofNat_of_zero_le by'.1 |>.choose_spec⟩
  obtain ⟨y1, hy1⟩ : ∃ k : Nat, (partS y ch H).2 = (k : Int) := ⟨_, Int.eq_ofNat_of_zero_le by'.2.2.1 |>.choose_spec⟩
  have HSX := Lib.hid (fun w => show Calls Try.prog 62 #[.int .i64 x, .int .i64 cw, .int .i64 W] w fun e w' => e = .returned (.tuple #[.int .i64 x0, .int .i64 x1]) ∧ w = w' from by rw [← hx0, ← hx1]; exact part_any x cw W w hxx hcw (by omega))
  have HSY := Lib.hid (fun w => show Calls Try.prog 62 #[.int .i64 y, .int .i64 ch, .int .i64 H] w fun e w' => e = .returned (.tuple #[.int .i64 y0, .int .i64 y1]) ∧ w = w' from by rw [← hy0, ← hy1]; exact part_any y ch H w hyy hch (by omega))
  have hx1W : x1 ≤ W := by have := bx.2.1; omega
  have hy1H : y1 ≤ H := by have := by'.2.1; omega
  have hx0W : x0 ≤ W := by have := bx.2.2.2; omega
  have hy0H : y0 ≤ H := by have := by'.2.2.2; omega
  have HR := Lib.hid (fun w => show Calls Try.prog 63 #[.agg #[.int .i64 W, .int .i64 H, .slice a n cap]] w fun e w' => e = .returned (.bool true) ∧ Kept (fun _ => False) w w' from by
    rw [← hr]; exact right_any ⟨W, H, p⟩ a n cap w (by unfold I64; simp only; omega) (by unfold I64; simp only; omega) hpl (by omega))
  obtain ⟨U, hU⟩ : ∃ V, (w.alloc (.cells #[.int .i64 W, .int .i64 H, .slice a n cap] 31)).alloc (.cells #[.int .i64 0, .int .i64 0, .slice none 0 0] 31) = V := ⟨_, rfl⟩
  have kU : Kept (fun _ => False) w U := by rw [← hU]; exact ((Kept.refl _ w).alloc _).alloc _
  have HB0 := Lib.hid (show U.heap[w.heap.size]? = some (.cells #[.int .i64 W, .int .i64 H, .slice a n cap] 31 (0, 0)) by rw [← hU]; exact blk_alloc (blk_new _ _) _)
  have HB1 := Lib.hid (show U.heap[w.heap.size + 1]? = some (.cells #[.int .i64 0, .int .i64 0, .slice none 0 0] 31 (0, 0)) by rw [← hU]; exact blk_at _ _ (by simp))
  have sU : w.heap.size + 2 ≤ U.heap.size := by rw [← hU]; simp
  have HK := Lib.hid kU
  obtain ⟨⟨a0, -⟩, ⟨a1, -⟩, a2, -⟩ := blk3 HB0.out
  by_cases hno : x1 ≤ x0 ∨ y1 ≤ y0
  · have hE : cutM W H x y cw ch p = (0, 0, []) := by unfold cutM; simp only; rw [if_pos]; rw [hx0, hx1, hy0, hy1]; simpa using hno
    rw [hE]
    obtain ⟨V1, V2, V3, f1, f2, f3, ⟨g0, g0'⟩, ⟨g1, g1'⟩, ⟨g2, g2'⟩, bV, kV3⟩ := store3 HB1.out (.int .i64 0) (.int .i64 0) (.slice none 0 0)
    obtain ⟨⟨m0, -⟩, ⟨m1, -⟩, m2, -⟩ := blk3 bV
    have HK3 := Lib.hid (HK.out.trans (kV3.mono fun i _ hi => Or.inr (by have h9 : i = w.heap.size + 1 := hi; omega)))
    have HR1 := HR
    clear bx by' hx0 hx1 hy0 hy1 hr hr2 hsz h4 hpl hs kU bV kV3 hE HR
    by_cases hx : x1 ≤ x0
    · have gx : decide (x1 ≤ x0) = true := decide_eq_true hx
      clear hno
      go_enter Try.func30, Try.ntmps30
      go_wp2_with (go_at_call 62; first | ((with_reducible refine (HSX.out _).mono ?_); rintro e w' ⟨rfl, rfl⟩) | ((with_reducible refine (HSY.out _).mono ?_); rintro e w' ⟨rfl, rfl⟩))
      exact bodyPost_ret (v := .agg #[.int .i64 0, .int .i64 0, .slice none 0 0]) (by simp [results, Try.results30, go_sem, m0, m1, m2]) rfl ⟨_, rfl, Own.nil _ _ _, HK3.out, fun b hb => by cases hb⟩
    · have gx : decide (x1 ≤ x0) = false := decide_eq_false hx
      have gy : decide (y1 ≤ y0) = true := decide_eq_true (by omega)
      clear hno
      go_enter Try.func30, Try.ntmps30
      go_wp2_with (go_at_call 62; first | ((with_reducible refine (HSX.out _).mono ?_); rintro e w' ⟨rfl, rfl⟩) | ((with_reducible refine (HSY.out _).mono ?_); rintro e w' ⟨rfl, rfl⟩))
      exact bodyPost_ret (v := .agg #[.int .i64 0, .int .i64 0, .slice none 0 0]) (by simp [results, Try.results30, go_sem, m0, m1, m2]) rfl ⟨_, rfl, Own.nil _ _ _, HK3.out, fun b hb => by cases hb⟩
  have gx : decide (x1 ≤ x0) = false := decide_eq_false (by omega)
  have gy : decide (y1 ≤ y0) = false := decide_eq_false (by omega)
  have hE : cutM W H x y cw ch p = (x1 - x0, y1 - y0, tab (4 * ((x1 - x0) * (y1 - y0))) (cutF W x0 y0 (x1 - x0) p)) := by unfold cutM; simp only; rw [if_neg]; rw [hx0, hx1, hy0, hy1]; simp; rw [hx0, hx1, hy0, hy1]; simpa using hno
  rw [hE]
  simp only
  obtain ⟨C, hC⟩ : ∃ C, x1 - x0 = C := ⟨_, rfl⟩
  obtain ⟨D, hD⟩ : ∃ D, y1 - y0 = D := ⟨_, rfl⟩
  have eC : (x1 : Int) - (x0 : Int) = (C : Int) := by omega
  have eD : (y1 : Int) - (y0 : Int) = (D : Int) := by omega
  rw [hC, hD]
  have hxlt : x0 < x1 := by omega
  have hN : n = 4 * (W * H) := by rw [Int.mul_assoc, show (W : Int) * (H : Int) = ((W * H : Nat) : Int) by simp] at h4; omega
  have HN := Lib.hid hN
  obtain ⟨b, off, rfl, -⟩ := hs.2.resolve_left (by have := fit_idx (W := W) (H := H) (x := x0) (y := y0) (by omega) (by omega); omega)
  have HS := Lib.hid hs
  clear bx by' hx0 hx1 hy0 hy1 hr hr2 hsz h4 hpl hs kU hE hN
  go_enter Try.func30, Try.ntmps30
  go_wp2_with (first | (go_at_call 62; first | ((with_reducible refine (HSX.out _).mono ?_); rintro e w' ⟨rfl, rfl⟩) | ((with_reducible refine (HSY.out _).mono ?_); rintro e w' ⟨rfl, rfl⟩)))
  refine (HR.out _).mono ?_; rintro e w1 ⟨rfl, hk⟩
  obtain ⟨P9, hP9⟩ : ∃ P, w1.heap.size = P := ⟨_, rfl⟩
  have hP9l : w.heap.size + 2 ≤ P9 := by have := hk.size; omega
  obtain ⟨X, hX⟩ : ∃ X, w1.alloc (.cells #[.int .i64 0, .int .i64 0, .slice none 0 0] 31) = X := ⟨_, rfl⟩
  have kX : Kept (fun _ => False) w1 X := by rw [← hX]; exact (Kept.refl _ _).alloc _
  have bX : X.heap[P9]? = some (.cells #[.int .i64 0, .int .i64 0, .slice none 0 0] 31 (0, 0)) := by rw [← hX]; exact blk_at _ _ hP9.symm
  obtain ⟨V1, V2, V3, f1, f2, f3, ⟨g0, g0'⟩, ⟨g1, g1'⟩, ⟨g2, g2'⟩, bV, kV3⟩ := store3 bX (.int .i64 C) (.int .i64 D) (.slice none 0 0)
  have HINV := Lib.hid (show CutInv w 31 W H (some ⟨b, off, none⟩) n cap P9 C D (tab (4 * C * (y0 - y0)) (cutF W x0 y0 C p)) V3 from ⟨_, by rw [Nat.sub_self, Nat.mul_zero]; exact Own.nil _ _ _, ((HK.out.then hk).then kX).trans (kV3.mono fun i _ hi => Or.inr (by have h9 : i = P9 := hi; omega)), kV3.blk (kX.blk (hk.blk HB0.out id) id) (fun (h : w.heap.size = P9) => by omega), kV3.blk (kX.blk (hk.blk HB1.out id) id) (fun (h : w.heap.size + 1 = P9) => by omega), bV, hP9l, fun b hb => by cases hb⟩)
  clear hk kX bX bV kV3 a0 a1 a2
  go_wp2
  go_loopg [16] y1 (fun gg yv wr => ∃ Y : Nat, y0 ≤ Y ∧ y1 ≤ gg + Y ∧ Y ≤ y1 ∧ yv = .int .i64 Y ∧ CutInv w 31 W H (some ⟨b, off, none⟩) n cap P9 C D (tab (4 * C * (Y - y0)) (cutF W x0 y0 C p)) wr)
  case atStart => exact ⟨y0, by omega, by omega, by omega, rfl, HINV.out⟩
  case round =>
    obtain ⟨Y, hY0, hgg, hYH, rfl, v, ho, hk, hb0, hb1, hb9, hP9l, hf⟩ := hrel
    by_cases hY1 : Y < y1
    · have gy : decide (Y < y1) = true := decide_eq_true hY1
      obtain ⟨i0, hi, hz0, hz1, hz2⟩ := info_parts Try.info5
      have HI := Lib.hid (And.intro hi (And.intro hz0 (And.intro hz1 hz2)))
      clear hi hz0 hz1 hz2
      have yWb : Y * W ≤ 16384 * 16384 := Nat.mul_le_mul (by omega) (by omega)
      have hPn := fit_idx (W := W) (H := H) (x := x1 - 1) (y := Y) (by omega) (by omega)
      have hn4 : 4 * (Y * W + x1) ≤ n := by have := HN.out; omega
      have hll : 4 * C * (Y - y0) ≤ 16384 := by
        have h1 : C * (Y - y0) ≤ W * H := Nat.mul_le_mul (by omega) (by omega)
        have := HN.out
        rw [Nat.mul_assoc]; omega
      obtain ⟨q, hq⟩ : ∃ q, Y * W = q := ⟨_, rfl⟩
      have v5 : (Y : Int) * (W : Int) = (q : Int) := by rw [← hq]; simp
      rw [hq] at hn4 yWb
      obtain ⟨av, cv, rfl, -⟩ := ho.shape
      rw [tab_length] at ho hb9 hf
      obtain ⟨m, hm⟩ : ∃ m, 4 * C * (Y - y0) = m := ⟨_, rfl⟩
      have HM := Lib.hid hm
      rw [hm] at ho hb9 hf hll
      have HROW := Lib.hid (show tab m (cutF W x0 y0 C p) ++ tab (4 * C) (fun j => p.getD (4 * (q + x0) + j) 0) = tab (4 * C * (Y + 1 - y0)) (cutF W x0 y0 C p) by
        rw [show 4 * C * (Y + 1 - y0) = m + 4 * C by rw [← hm, show Y + 1 - y0 = (Y - y0) + 1 by omega, Nat.mul_add, Nat.mul_one]]
        refine tab_app (tab_length _ _) (fun j hj => ?_)
        rw [tab_get hj, ← hm, cut_row hj, ← hq, show Y - y0 + y0 = Y by omega])
      have HSR := Lib.hid (fun (V : World) (hk : Kept (fun _ => False) w V) => show SlAt .u8 V (some ⟨b, off + 4 * (q + x0), none⟩) (4 * C) _ from row_at (HS.out.up hk) (4 * (q + x0)) (4 * C) (by omega) (by omega))
      have HO := Lib.hid ho
      have HKr := Lib.hid hk
      have HB9 := Lib.hid hb9
      have HB0' := Lib.hid hb0
      have HB1' := Lib.hid hb1
      have HF := Lib.hid hf
      obtain ⟨⟨a0, -⟩, ⟨a1, -⟩, a2, -⟩ := blk3 hb0
      obtain ⟨⟨c0, -⟩, ⟨c1, -⟩, c2, c2'⟩ := blk3 hb9
      clear ho hk hb0 hb1 hb9 hf hPn hq hm hno
      have w1' : IntKind.i64.wrap (q : Int) = (q : Int) := IntWalk.i64_in _ (by omega)
      have w2' : IntKind.i64.wrap ((q : Int) + (x0 : Int)) = (q : Int) + (x0 : Int) := IntWalk.i64_in _ (by omega)
      have w3' : IntKind.i64.wrap (4 * ((q : Int) + (x0 : Int))) = 4 * ((q : Int) + (x0 : Int)) := IntWalk.i64_in _ (by omega)
      have w4' : IntKind.i64.wrap ((q : Int) + (x1 : Int)) = (q : Int) + (x1 : Int) := IntWalk.i64_in _ (by omega)
      have w5' : IntKind.i64.wrap (4 * ((q : Int) + (x1 : Int))) = 4 * ((q : Int) + (x1 : Int)) := IntWalk.i64_in _ (by omega)
      have l1 : 0 ≤ 4 * ((q : Int) + (x0 : Int)) := by omega
      have l2 : 4 * ((q : Int) + (x0 : Int)) ≤ 4 * ((q : Int) + (x1 : Int)) := by omega
      have l3 : 4 * ((q : Int) + (x1 : Int)) ≤ (cap : Int) := by omega
      have l4 : 0 ≤ 4 * ((q : Int) + (x1 : Int)) := by omega
      have l5 : x0 ≤ x1 := by omega
      have t1 : (4 * ((q : Int) + (x0 : Int))).toNat = 4 * (q + x0) := by omega
      have t2 : (4 * ((q : Int) + (x1 : Int))).toNat = 4 * (q + x1) := by omega
      have e4 : 4 * (q + x1) - 4 * (q + x0) = 4 * C := by omega
      have hcap : ¬ (cap = 4 * (q + x0)) := by omega
      go_wp2
      go_still_tail 19, (by kernel_rfl)
      clear l1 l2 l3 l4 l5 t1 t2 w1' w2' w3' w4' w5' a0 a1 a2 c0 c1 c2 c2'
      change wpList _ _ _ _ _ wr.drew
      refine wpList_appInts rfl (.tmp 61) (.tmp 78) 29 rfl 5 .u8 i0 (.int .u8 0) 1 Try.underlying29 HI.out.1 HI.out.2.1 HI.out.2.2.1 HI.out.2.2.2 rfl (.slice av m cv) _ rfl (HO.out.kept (Kept.refl (fun _ => False) wr).drew (fun _ _ => id)) (some ⟨b, off + 4 * (q + x0), none⟩) (4 * C) _ _ rfl (fun h => by cases h) (HSR.out _ HKr.out.drew) (by rw [tab_length]; omega) (by rw [tab_length]; simp [maxLen]; omega) ?_
      intro v5' w5 ho5 hk5 hpr5
      obtain ⟨a5, cap5, hv5, -⟩ := ho5.shape
      rw [HROW.out, tab_length] at hv5
      subst hv5
      obtain ⟨r1, r2, r3, r4, r5⟩ := app_field (i := 2) HB9.out rfl (fun h => (HF.out P9 h).2 rfl) (Kept.refl (fun _ => False) wr).drew ho5 hk5 hpr5
      rw [HROW.out] at r2
      have hb5 : w5.heap[P9]? = some (.cells #[.int .i64 C, .int .i64 D, .slice av m cv] 31 (0, 0)) := hk5.blk (show wr.drew.heap[P9]? = _ from HB9.out) (fun h => (HF.out P9 h).2 rfl)
      obtain ⟨⟨c0, -⟩, ⟨c1, -⟩, c2, c2'⟩ := blk3 hb5
      obtain ⟨V, hV⟩ : ∃ V, w5.setCell ⟨P9, 2, none⟩ (.slice a5 (4 * C * (Y + 1 - y0)) cap5) = V := ⟨_, rfl⟩
      rw [hV] at r1 r2 r4
      have hwr := (lt_of_blk HB9.out)
      have hw2 := HKr.out.size
      have HINV2 := Lib.hid (show CutInv w 31 W H (some ⟨b, off, none⟩) n cap P9 C D (tab (4 * C * (Y + 1 - y0)) (cutF W x0 y0 C p)) V from ⟨_, r2, HKr.out.trans (r4.mono fun i _ hi => Or.inr (hi.elim (fun h => by omega) (fun h => by have := (HF.out i h).1; omega))), r4.blk HB0'.out (fun h => h.elim (fun h => by omega) (fun h => by have := (HF.out _ h).1; omega)), r4.blk HB1'.out (fun h => h.elim (fun h => by omega) (fun h => by have := (HF.out _ h).1; omega)), by simpa using r1, hP9l, fun b hb => by
        rcases r5 with h | ⟨b', h, h2⟩
        · exact HF.out b (by rw [← h, hb])
        · rw [hb] at h; cases h; omega⟩)
      clear ho5 hk5 hpr5 r1 r2 r3 r4 r5 hb5
      go_wp2
      go_roundg (gk - 1)
      case rel => exact ⟨Y + 1, by omega, by omega, by omega, by go_num, HINV2.out⟩
      case measure => omega
    · have gy : decide (Y < y1) = false := decide_eq_false hY1
      obtain rfl : Y = y1 := by omega
      rw [hD] at ho
      obtain ⟨av, cv, rfl, -⟩ := ho.shape
      rw [tab_length] at ho hb9 hf
      obtain ⟨⟨c0, -⟩, ⟨c1, -⟩, c2, -⟩ := blk3 hb9
      obtain ⟨V1, V2, V3, f1, f2, f3, ⟨g0, g0'⟩, ⟨g1, g1'⟩, ⟨g2, g2'⟩, bV, kV3⟩ := store3 hb1 (.int .i64 C) (.int .i64 D) (.slice av (4 * C * D) cv)
      obtain ⟨⟨m0, -⟩, ⟨m1, -⟩, m2, -⟩ := blk3 bV
      have HO := Lib.hid ((ho.kept kV3 (fun b hb (hS : b = w.heap.size + 1) => by have := (hf b hb).1; omega)).retag (show tab (4 * (C * D)) (cutF W x0 y0 C p) = _ by rw [Nat.mul_assoc]))
      have HK := Lib.hid (hk.trans (kV3.mono fun i _ hi => Or.inr (by have h9 : i = w.heap.size + 1 := hi; omega)))
      have HF := Lib.hid hf
      clear ho hk hb0 hb1 hb9 hf bV kV3
      go_wp2
      exact bodyPost_ret (v := .agg #[.int .i64 C, .int .i64 D, .slice av (4 * C * D) cv]) (by simp [results, Try.results30, go_sem, m0, m1, m2]) rfl ⟨_, rfl, HO.out, HK.out, fun b hb => by have := (HF.out b hb).1; omega⟩


end Go.Proofs.Ytdjgmhbfohbenaa
