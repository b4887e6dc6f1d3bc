/- The document's parameters 38, 48 with what stands behind. -/
import Derived.Test.YtdcbaobipogmnaaFar
import Derived.Deep.RegionWith
namespace Go.Proofs.Ytdcbaobipogmnaa
open Go.RowKit Pl
set_option linter.unusedVariables false
set_option linter.unusedSimpArgs false
theorem i64_or_nat (a b : Nat) (ha : a < 9223372036854775808) (hb : b < 9223372036854775808) : bits .or .i64 (a : Int) (b : Int) = ((a ||| b : Nat) : Int) := by
  have hx : a ||| b < 2 ^ 63 := Nat.or_lt_two_pow (by omega) (by omega)
  show IntKind.i64.wrap ((BitVec.ofInt 64 (a : Int) ||| BitVec.ofInt 64 (b : Int)).toNat : Int) = _
  rw [BitVec.toNat_or, BitVec.ofInt_natCast, BitVec.ofInt_natCast, BitVec.toNat_ofNat, BitVec.toNat_ofNat, Nat.mod_eq_of_lt (show a < 2 ^ 64 by omega), Nat.mod_eq_of_lt (show b < 2 ^ 64 by omega)]
  exact IntWalk.i64_in _ (by omega)
/-- An or of what does not meet is a sum. -/
theorem or_sum (k : Nat) (x v : Int) (hx : 0 ≤ x ∧ x < 4611686018427387904) (hk : k ≤ 60) (hd : x % 2 ^ k = 0) (hv : 0 ≤ v ∧ v < 2 ^ k) : bits .or .i64 x v = x + v := by
  obtain ⟨a, rfl⟩ := Int.eq_ofNat_of_zero_le hx.1
  obtain ⟨b, rfl⟩ := Int.eq_ofNat_of_zero_le hv.1
  have hp : (2 : Nat) ^ k ≤ 2 ^ 60 := Nat.pow_le_pow_right (by omega) hk
  have hb : b < 2 ^ k := by have := hv.2; exact_mod_cast this
  have ha : a % 2 ^ k = 0 := by exact_mod_cast hd
  rw [i64_or_nat a b (by omega) (by omega)]
  have hq : 2 ^ k * (a / 2 ^ k) = a := by have := Nat.div_add_mod a (2 ^ k); omega
  have := Nat.two_pow_add_eq_or_of_lt hb (a / 2 ^ k)
  rw [hq] at this
  omega
def setL (a : Look) (c : Int) (fore : Bool) : Look := if fore = true then { a with fg := c } else { a with bg := c }
/-- The document's: what stands behind 38, 48; how many were used. -/
def lng (a : Look) (fore : Bool) : List Int → Look × Int
  | 5 :: v :: l => (if byteB v = true then setL a (16777216 + v) fore else a, 3)
  | 2 :: r :: g :: b :: l => (if byteB r = true ∧ byteB g = true ∧ byteB b = true then setL a (33554432 + r * 65536 + g * 256 + b) fore else a, 5)
  | _ => (a, -1)
/-! ### a block of three numbers, stored into whole -/
theorem st3 {w : World} {p : Nat} {X : Look} {T : TypeId} (h : w.heap[p]? = some (.cells (cells3 X) T (0, 0))) (x y z : Int) :
    (((w.setCell ⟨p, 0, none⟩ (.int .i64 x)).setCell ⟨p, 1, none⟩ (.int .i64 y)).setCell ⟨p, 2, none⟩ (.int .i64 z)).heap[p]? = some (.cells (cells3 ⟨x, y, z⟩) T (0, 0)) :=
  blk_set (blk_set (blk_set h 0 _) 1 _) 2 _
theorem st3_other {w : World} {p b : Nat} {o : Obj} (h : w.heap[b]? = some o) (hne : b ≠ p) (x y z : Value) :
    (((w.setCell ⟨p, 0, none⟩ x).setCell ⟨p, 1, none⟩ y).setCell ⟨p, 2, none⟩ z).heap[b]? = some o := blk_set_other (blk_set_other (blk_set_other h hne _) hne _) hne _
theorem st3_kept {S : Nat → Prop} {w v : World} {p : Nat} (h : Kept S w v) (hp : S p ∨ w.heap.size ≤ p) (x y z : Value) : Kept S w (((v.setCell ⟨p, 0, none⟩ x).setCell ⟨p, 1, none⟩ y).setCell ⟨p, 2, none⟩ z) :=
  ((h.setCell (p := ⟨p, 0, none⟩) hp _).setCell (p := ⟨p, 1, none⟩) hp _).setCell (p := ⟨p, 2, none⟩) hp _
theorem cells_of {w : World} {p : Nat} {X : Look} {T : TypeId} (h : w.heap[p]? = some (.cells (cells3 X) T (0, 0))) :
    (w.cell? ⟨p, 0, none⟩ = some (.int .i64 X.fg) ∧ w.frozen? ⟨p, 0, none⟩ = false) ∧ (w.cell? ⟨p, 1, none⟩ = some (.int .i64 X.bg) ∧ w.frozen? ⟨p, 1, none⟩ = false) ∧ (w.cell? ⟨p, 2, none⟩ = some (.int .i64 X.fl) ∧ w.frozen? ⟨p, 2, none⟩ = false) := blk3 h
def LongPost (X : Look) (u : Int) (w : World) (e : Ending) (w' : World) : Prop := e = .returned (.tuple #[lookV X, .int .i64 u]) ∧ Kept (fun _ => False) w w'
theorem Arg.cellAt {B : Nat} {w : World} {b off len cap : Nat} {l : List Int} (h : Arg B w (some ⟨b, off, none⟩) len cap l) (j : Nat) (hj : j < len) : w.cell? ⟨b, off + j, none⟩ = some (.int .i64 (l.getD j 0)) ∧ b < B := by
  obtain ⟨b', o', he, hc⟩ := h.1.2.resolve_left (by omega)
  cases he
  exact ⟨hc j hj, h.2.2.2.1 b off (by omega) rfl⟩
set_option maxRecDepth 100000 in
set_option maxHeartbeats 2000000 in
theorem long_A_true (a : Look) (b off len cap : Nat) (v : Int) (r : List Int) (w : World) (h : Arg w.heap.size w (some ⟨b, off, none⟩) len cap (38 :: 5 :: v :: r)) :
    Calls Try.prog 24 #[lookV a, .slice (some ⟨b, off, none⟩) len cap] w (LongPost (if byteB v = true then setL a (16777216 + v) true else a) 3 w) := by
  have hlen : 3 ≤ len := by have := h.1.1; simp at this; omega
  have hlc := h.2.1
  have hcm := h.2.2.1
  have hlen0 := h.1.1
  obtain ⟨x0, -⟩ := h.cellAt 0 (by omega)
  obtain ⟨x1, -⟩ := h.cellAt 1 (by omega)
  obtain ⟨x2, -⟩ := h.cellAt 2 (by omega)
  simp only [Nat.add_zero, List.getD_cons_zero, List.getD_cons_succ] at x0 x1 x2
  have t0 : 0 < len := by omega
  have t1 : 1 < len := by omega
  have t2 : 2 < len := by omega
  obtain ⟨fg, bg, fl⟩ := a
  obtain ⟨W, hW⟩ : ∃ W, (w.alloc (.cells #[.int .i64 fg, .int .i64 bg, .int .i64 fl] 23)).alloc (.cells #[.int .i64 0, .int .i64 0, .int .i64 0] 23) = W := ⟨_, rfl⟩
  have kW : Kept (fun _ => False) w W := by rw [← hW]; exact ((Kept.refl _ w).alloc _).alloc _
  have b0 : W.heap[w.heap.size]? = some (.cells (cells3 ⟨fg, bg, fl⟩) 23 (0, 0)) := by rw [← hW]; exact blk_alloc (blk_new _ _) _
  have b1 : W.heap[w.heap.size + 1]? = some (.cells (cells3 ⟨0, 0, 0⟩) 23 (0, 0)) := by rw [← hW]; exact blk_at _ _ (by simp)
  replace x0 := kW.cell x0 id
  replace x1 := kW.cell x1 id
  replace x2 := kW.cell x2 id
  unfold lookV
  clear h
  have g1 : decide (3 ≤ (len : Int)) = true := decide_eq_true (by omega)
  cases hyv : byteB v with
  | false =>
    have HC := Lib.hid (show ∀ w, Calls Try.prog 30 #[.int .i64 v] w fun e w' => e = .returned (.bool false) ∧ w = w' from fun w => by have h := rbyte_any v w; rw [hyv] at h; exact h)
    clear hyv
    rw [if_neg (by simp)]
    have HK := Lib.hid (st3_kept kW (p := w.heap.size + 1) (.inr (by omega)) (.int .i64 fg) (.int .i64 bg) (.int .i64 fl))
    obtain ⟨⟨c0, f0⟩, ⟨c1, f1⟩, c2, f2⟩ := cells_of b0
    obtain ⟨⟨d0, e0⟩, ⟨d1, e1⟩, d2, e2⟩ := cells_of b1
    obtain ⟨⟨k0, -⟩, ⟨k1, -⟩, k2, -⟩ := cells_of (st3 b1 fg bg fl)
    clear b0 b1 kW
    go_enter Try.func24, Try.ntmps24
    go_wp2_with fail
    refine (HC.out _).mono ?_; rintro e w' ⟨rfl, rfl⟩
    go_wp2
    exact bodyPost_ret (v := .tuple #[.agg #[.int .i64 fg, .int .i64 bg, .int .i64 fl], .int .i64 3]) (by simp [results, Try.results24, go_sem, k0, k1, k2]) rfl ⟨rfl, HK.out⟩
  | true =>
    have hv : 0 ≤ v ∧ v ≤ 255 := of_decide_eq_true hyv
    have HC := Lib.hid (show ∀ w, Calls Try.prog 30 #[.int .i64 v] w fun e w' => e = .returned (.bool true) ∧ w = w' from fun w => by have h := rbyte_any v w; rw [hyv] at h; exact h)
    have hor : bits .or .i64 16777216 v = 16777216 + v := or_sum 8 _ _ (by omega) (by omega) (by decide) (by omega)
    clear hyv
    rw [if_pos rfl]
    have HS := Lib.hid (show ∀ w, Calls Try.prog 25 #[lookV ⟨fg, bg, fl⟩, .int .i64 (16777216 + v), .bool true] w fun e w' => e = .returned (lookV (setL ⟨fg, bg, fl⟩ (16777216 + v) true)) ∧ Kept (fun _ => False) w w' from fun w => set_any _ _ _ w)
    unfold setL lookV at HS
    simp only [if_true, if_false, Bool.false_eq_true] at HS
    unfold setL
    simp only [if_true, if_false, Bool.false_eq_true]
    have HK := Lib.hid kW
    have HB0 := Lib.hid b0
    have HB1 := Lib.hid b1
    obtain ⟨⟨c0, f0⟩, ⟨c1, f1⟩, c2, f2⟩ := cells_of b0
    clear b0 b1 kW
    have i0 : (0 : Int) ≤ 2 := by omega
    have i2 : (2 : Int) < (len : Int) := by omega
    go_enter Try.func24, Try.ntmps24
    go_wp2_with fail
    refine (HC.out _).mono ?_; rintro e w' ⟨rfl, rfl⟩
    go_wp2
    go_still_tail 6, (by kernel_rfl)
    change wpList _ _ _ _ _ W.drew
    obtain ⟨V, hV⟩ : ∃ V, W.drew = V := ⟨_, rfl⟩
    rw [hV]
    go_wp2_with fail
    refine (HS.out _).mono ?_; rintro e w1 ⟨rfl, h1⟩
    have h1 := (show Kept (fun _ => False) W V by rw [← hV]; exact (Kept.refl _ _).drew).then h1
    have b0 := h1.blk HB0.out id
    have b1 := h1.blk HB1.out id
    have kk := HK.out.then h1
    clear h1 hV
    obtain ⟨⟨c0, f0⟩, ⟨c1, f1⟩, c2, f2⟩ := cells_of b0
    obtain ⟨⟨k0, l0⟩, ⟨k1, l1⟩, k2, l2⟩ := cells_of (st3 b0 (16777216 + v) bg fl)
    obtain ⟨⟨d0, e0⟩, ⟨d1, e1⟩, d2, e2⟩ := cells_of (st3_other b1 (p := w.heap.size) (by omega) (.int .i64 (16777216 + v)) (.int .i64 bg) (.int .i64 fl))
    have HB := Lib.hid (st3_other b1 (p := w.heap.size) (by omega) (.int .i64 (16777216 + v)) (.int .i64 bg) (.int .i64 fl))
    have HKK := Lib.hid (st3_kept kk (p := w.heap.size) (.inr (by omega)) (.int .i64 (16777216 + v)) (.int .i64 bg) (.int .i64 fl))
    clear b0 b1 kk
    go_wp2
    obtain ⟨⟨m0, -⟩, ⟨m1, -⟩, m2, -⟩ := cells_of (st3 HB.out (16777216 + v) bg fl)
    exact bodyPost_ret (v := .tuple #[.agg #[.int .i64 (16777216 + v), .int .i64 bg, .int .i64 fl], .int .i64 3]) (by simp [results, Try.results24, go_sem, m0, m1, m2]) rfl ⟨rfl, st3_kept HKK.out (.inr (by omega)) _ _ _⟩
set_option maxRecDepth 100000 in
set_option maxHeartbeats 2000000 in
theorem long_B_true (a : Look) (b off len cap : Nat) (r g bb : Int) (t : List Int) (w : World) (h : Arg w.heap.size w (some ⟨b, off, none⟩) len cap (38 :: 2 :: r :: g :: bb :: t)) :
    Calls Try.prog 24 #[lookV a, .slice (some ⟨b, off, none⟩) len cap] w (LongPost (if byteB r = true ∧ byteB g = true ∧ byteB bb = true then setL a (33554432 + r * 65536 + g * 256 + bb) true else a) 5 w) := by
  have hlen : 5 ≤ len := by have := h.1.1; simp at this; omega
  have hlc := h.2.1
  have hcm := h.2.2.1
  have hlen0 := h.1.1
  obtain ⟨x0, -⟩ := h.cellAt 0 (by omega)
  obtain ⟨x1, -⟩ := h.cellAt 1 (by omega)
  obtain ⟨x2, -⟩ := h.cellAt 2 (by omega)
  obtain ⟨x3, -⟩ := h.cellAt 3 (by omega)
  obtain ⟨x4, -⟩ := h.cellAt 4 (by omega)
  simp only [Nat.add_zero, List.getD_cons_zero, List.getD_cons_succ] at x0 x1 x2 x3 x4
  have t0 : 0 < len := by omega
  have t1 : 1 < len := by omega
  have t2 : 2 < len := by omega
  have t3 : 3 < len := by omega
  have t4 : 4 < len := by omega
  obtain ⟨fg, bg, fl⟩ := a
  obtain ⟨W, hW⟩ : ∃ W, (w.alloc (.cells #[.int .i64 fg, .int .i64 bg, .int .i64 fl] 23)).alloc (.cells #[.int .i64 0, .int .i64 0, .int .i64 0] 23) = W := ⟨_, rfl⟩
  have kW : Kept (fun _ => False) w W := by rw [← hW]; exact ((Kept.refl _ w).alloc _).alloc _
  have b0 : W.heap[w.heap.size]? = some (.cells (cells3 ⟨fg, bg, fl⟩) 23 (0, 0)) := by rw [← hW]; exact blk_alloc (blk_new _ _) _
  have b1 : W.heap[w.heap.size + 1]? = some (.cells (cells3 ⟨0, 0, 0⟩) 23 (0, 0)) := by rw [← hW]; exact blk_at _ _ (by simp)
  replace x0 := kW.cell x0 id
  replace x1 := kW.cell x1 id
  replace x2 := kW.cell x2 id
  replace x3 := kW.cell x3 id
  replace x4 := kW.cell x4 id
  unfold lookV
  clear h
  have g1 : decide (3 ≤ (len : Int)) = true := decide_eq_true (by omega)
  have g2 : decide (5 ≤ (len : Int)) = true := decide_eq_true (by omega)
  cases hyr : byteB r with
  | false =>
    have HC := Lib.hid (show ∀ w, Calls Try.prog 30 #[.int .i64 r] w fun e w' => e = .returned (.bool false) ∧ w = w' from fun w => by have h := rbyte_any r w; rw [hyr] at h; exact h)
    clear hyr
    rw [if_neg (by simp)]
    have HK := Lib.hid (st3_kept kW (p := w.heap.size + 1) (.inr (by omega)) (.int .i64 fg) (.int .i64 bg) (.int .i64 fl))
    obtain ⟨⟨c0, f0⟩, ⟨c1, f1⟩, c2, f2⟩ := cells_of b0
    obtain ⟨⟨d0, e0⟩, ⟨d1, e1⟩, d2, e2⟩ := cells_of b1
    obtain ⟨⟨k0, -⟩, ⟨k1, -⟩, k2, -⟩ := cells_of (st3 b1 fg bg fl)
    clear b0 b1 kW
    go_enter Try.func24, Try.ntmps24
    go_wp2_with fail
    refine (HC.out _).mono ?_; rintro e w' ⟨rfl, rfl⟩
    go_wp2
    exact bodyPost_ret (v := .tuple #[.agg #[.int .i64 fg, .int .i64 bg, .int .i64 fl], .int .i64 5]) (by simp [results, Try.results24, go_sem, k0, k1, k2]) rfl ⟨rfl, HK.out⟩
  | true =>
    have hr : 0 ≤ r ∧ r ≤ 255 := of_decide_eq_true hyr
    have HC := Lib.hid (show ∀ w, Calls Try.prog 30 #[.int .i64 r] w fun e w' => e = .returned (.bool true) ∧ w = w' from fun w => by have h := rbyte_any r w; rw [hyr] at h; exact h)
    clear hyr
    cases hyg : byteB g with
    | false =>
      have HG := Lib.hid (show ∀ w, Calls Try.prog 30 #[.int .i64 g] w fun e w' => e = .returned (.bool false) ∧ w = w' from fun w => by have h := rbyte_any g w; rw [hyg] at h; exact h)
      clear hyg
      rw [if_neg (by simp)]
      have HK := Lib.hid (st3_kept kW (p := w.heap.size + 1) (.inr (by omega)) (.int .i64 fg) (.int .i64 bg) (.int .i64 fl))
      obtain ⟨⟨c0, f0⟩, ⟨c1, f1⟩, c2, f2⟩ := cells_of b0
      obtain ⟨⟨d0, e0⟩, ⟨d1, e1⟩, d2, e2⟩ := cells_of b1
      obtain ⟨⟨k0, -⟩, ⟨k1, -⟩, k2, -⟩ := cells_of (st3 b1 fg bg fl)
      clear b0 b1 kW
      go_enter Try.func24, Try.ntmps24
      go_wp2_with fail
      refine (HC.out _).mono ?_; rintro e w' ⟨rfl, rfl⟩
      go_wp2_with fail
      refine (HG.out _).mono ?_; rintro e w' ⟨rfl, rfl⟩
      go_wp2
      exact bodyPost_ret (v := .tuple #[.agg #[.int .i64 fg, .int .i64 bg, .int .i64 fl], .int .i64 5]) (by simp [results, Try.results24, go_sem, k0, k1, k2]) rfl ⟨rfl, HK.out⟩
    | true =>
      have hg : 0 ≤ g ∧ g ≤ 255 := of_decide_eq_true hyg
      have HG := Lib.hid (show ∀ w, Calls Try.prog 30 #[.int .i64 g] w fun e w' => e = .returned (.bool true) ∧ w = w' from fun w => by have h := rbyte_any g w; rw [hyg] at h; exact h)
      clear hyg
      cases hybb : byteB bb with
      | false =>
        have HH := Lib.hid (show ∀ w, Calls Try.prog 30 #[.int .i64 bb] w fun e w' => e = .returned (.bool false) ∧ w = w' from fun w => by have h := rbyte_any bb w; rw [hybb] at h; exact h)
        clear hybb
        rw [if_neg (by simp)]
        have HK := Lib.hid (st3_kept kW (p := w.heap.size + 1) (.inr (by omega)) (.int .i64 fg) (.int .i64 bg) (.int .i64 fl))
        obtain ⟨⟨c0, f0⟩, ⟨c1, f1⟩, c2, f2⟩ := cells_of b0
        obtain ⟨⟨d0, e0⟩, ⟨d1, e1⟩, d2, e2⟩ := cells_of b1
        obtain ⟨⟨k0, -⟩, ⟨k1, -⟩, k2, -⟩ := cells_of (st3 b1 fg bg fl)
        clear b0 b1 kW
        go_enter Try.func24, Try.ntmps24
        go_wp2_with fail
        refine (HC.out _).mono ?_; rintro e w' ⟨rfl, rfl⟩
        go_wp2_with fail
        refine (HG.out _).mono ?_; rintro e w' ⟨rfl, rfl⟩
        go_wp2_with fail
        refine (HH.out _).mono ?_; rintro e w' ⟨rfl, rfl⟩
        go_wp2
        exact bodyPost_ret (v := .tuple #[.agg #[.int .i64 fg, .int .i64 bg, .int .i64 fl], .int .i64 5]) (by simp [results, Try.results24, go_sem, k0, k1, k2]) rfl ⟨rfl, HK.out⟩
      | true =>
        have hb : 0 ≤ bb ∧ bb ≤ 255 := of_decide_eq_true hybb
        have HH := Lib.hid (show ∀ w, Calls Try.prog 30 #[.int .i64 bb] w fun e w' => e = .returned (.bool true) ∧ w = w' from fun w => by have h := rbyte_any bb w; rw [hybb] at h; exact h)
        clear hybb
        rw [if_pos (by simp)]
        have HS := Lib.hid (show ∀ w, Calls Try.prog 25 #[lookV ⟨fg, bg, fl⟩, .int .i64 (33554432 + r * 65536 + g * 256 + bb), .bool true] w fun e w' => e = .returned (lookV (setL ⟨fg, bg, fl⟩ (33554432 + r * 65536 + g * 256 + bb) true)) ∧ Kept (fun _ => False) w w' from fun w => set_any _ _ _ w)
        unfold setL lookV at HS
        simp only [if_true, if_false, Bool.false_eq_true] at HS
        unfold setL
        simp only [if_true, if_false, Bool.false_eq_true]
        have HK := Lib.hid kW
        have HB0 := Lib.hid b0
        have HB1 := Lib.hid b1
        obtain ⟨⟨c0, f0⟩, ⟨c1, f1⟩, c2, f2⟩ := cells_of b0
        clear b0 b1 kW
        have i0 : (0 : Int) ≤ 2 := by omega
        have i2 : (2 : Int) < (len : Int) := by omega
        have i3 : (0 : Int) ≤ 3 := by omega
        have i4 : (3 : Int) < (len : Int) := by omega
        have i5 : (0 : Int) ≤ 4 := by omega
        have i6 : (4 : Int) < (len : Int) := by omega
        have o1 : bits .or .i64 33554432 (r * 65536) = 33554432 + r * 65536 := or_sum 24 _ _ (by omega) (by omega) (by decide) (by omega)
        have o2 : bits .or .i64 (33554432 + r * 65536) (g * 256) = 33554432 + r * 65536 + g * 256 := or_sum 16 _ _ (by omega) (by omega) (by omega) (by omega)
        have o3 : bits .or .i64 (33554432 + r * 65536 + g * 256) bb = 33554432 + r * 65536 + g * 256 + bb := or_sum 8 _ _ (by omega) (by omega) (by omega) (by omega)
        have e1 : IntKind.i64.wrap (r * 65536) = r * 65536 := IntWalk.i64_in _ (by omega)
        have e2 : IntKind.i64.wrap (g * 256) = g * 256 := IntWalk.i64_in _ (by omega)
        have e6 : min 16 64 = 16 := rfl
        have e7 : min 8 64 = 8 := rfl
        go_enter Try.func24, Try.ntmps24
        go_wp2_with fail
        refine (HC.out _).mono ?_; rintro e w' ⟨rfl, rfl⟩
        go_wp2_with fail
        refine (HG.out _).mono ?_; rintro e w' ⟨rfl, rfl⟩
        go_wp2_with fail
        refine (HH.out _).mono ?_; rintro e w' ⟨rfl, rfl⟩
        go_wp2
        go_still_tail 16, (by kernel_rfl)
        change wpList _ _ _ _ _ W.drew
        obtain ⟨V, hV⟩ : ∃ V, W.drew = V := ⟨_, rfl⟩
        rw [hV]
        go_wp2_with fail
        refine (HS.out _).mono ?_; rintro e w1 ⟨rfl, h1⟩
        have h1 := (show Kept (fun _ => False) W V by rw [← hV]; exact (Kept.refl _ _).drew).then h1
        have b0 := h1.blk HB0.out id
        have b1 := h1.blk HB1.out id
        have kk := HK.out.then h1
        clear h1 hV
        obtain ⟨⟨c0, f0⟩, ⟨c1, f1⟩, c2, f2⟩ := cells_of b0
        obtain ⟨⟨k0, l0⟩, ⟨k1, l1⟩, k2, l2⟩ := cells_of (st3 b0 (33554432 + r * 65536 + g * 256 + bb) bg fl)
        obtain ⟨⟨d0, e0⟩, ⟨d1, e1⟩, d2, e2⟩ := cells_of (st3_other b1 (p := w.heap.size) (by omega) (.int .i64 (33554432 + r * 65536 + g * 256 + bb)) (.int .i64 bg) (.int .i64 fl))
        have HB := Lib.hid (st3_other b1 (p := w.heap.size) (by omega) (.int .i64 (33554432 + r * 65536 + g * 256 + bb)) (.int .i64 bg) (.int .i64 fl))
        have HKK := Lib.hid (st3_kept kk (p := w.heap.size) (.inr (by omega)) (.int .i64 (33554432 + r * 65536 + g * 256 + bb)) (.int .i64 bg) (.int .i64 fl))
        clear b0 b1 kk
        go_wp2
        obtain ⟨⟨m0, -⟩, ⟨m1, -⟩, m2, -⟩ := cells_of (st3 HB.out (33554432 + r * 65536 + g * 256 + bb) bg fl)
        exact bodyPost_ret (v := .tuple #[.agg #[.int .i64 (33554432 + r * 65536 + g * 256 + bb), .int .i64 bg, .int .i64 fl], .int .i64 5]) (by simp [results, Try.results24, go_sem, m0, m1, m2]) rfl ⟨rfl, st3_kept HKK.out (.inr (by omega)) _ _ _⟩
set_option maxRecDepth 100000 in
set_option maxHeartbeats 2000000 in
theorem long_C_true (a : Look) (b off len cap : Nat) (l : List Int) (w : World) (h : Arg w.heap.size w (some ⟨b, off, none⟩) len cap (38 :: l))
    (hl : len < 3 ∨ (len < 5 ∧ l.getD 0 0 ≠ 5) ∨ (l.getD 0 0 ≠ 5 ∧ l.getD 0 0 ≠ 2)) :
    Calls Try.prog 24 #[lookV a, .slice (some ⟨b, off, none⟩) len cap] w (LongPost a (-1) w) := by
  have hlen : 1 ≤ len := by have := h.1.1; simp at this; omega
  have hx1 : 2 ≤ len → w.cell? ⟨b, off + 1, none⟩ = some (.int .i64 (l.getD 0 0)) := fun h2 => by have := (h.cellAt 1 (by omega)).1; simpa using this
  have hlc := h.2.1
  have hcm := h.2.2.1
  have hlen0 := h.1.1
  obtain ⟨x0, -⟩ := h.cellAt 0 (by omega)
  simp only [Nat.add_zero, List.getD_cons_zero, List.getD_cons_succ] at x0
  have t0 : 0 < len := by omega
  obtain ⟨fg, bg, fl⟩ := a
  obtain ⟨W, hW⟩ : ∃ W, (w.alloc (.cells #[.int .i64 fg, .int .i64 bg, .int .i64 fl] 23)).alloc (.cells #[.int .i64 0, .int .i64 0, .int .i64 0] 23) = W := ⟨_, rfl⟩
  have kW : Kept (fun _ => False) w W := by rw [← hW]; exact ((Kept.refl _ w).alloc _).alloc _
  have b0 : W.heap[w.heap.size]? = some (.cells (cells3 ⟨fg, bg, fl⟩) 23 (0, 0)) := by rw [← hW]; exact blk_alloc (blk_new _ _) _
  have b1 : W.heap[w.heap.size + 1]? = some (.cells (cells3 ⟨0, 0, 0⟩) 23 (0, 0)) := by rw [← hW]; exact blk_at _ _ (by simp)
  replace x0 := kW.cell x0 id
  unfold lookV
  clear h
  by_cases h2 : len < 3
  · have g1 : decide (3 ≤ (len : Int)) = false := decide_eq_false (by omega)
    have g2 : decide (5 ≤ (len : Int)) = false := decide_eq_false (by omega)
    clear hl hx1
    have HK := Lib.hid (st3_kept kW (p := w.heap.size + 1) (.inr (by omega)) (.int .i64 fg) (.int .i64 bg) (.int .i64 fl))
    obtain ⟨⟨c0, f0⟩, ⟨c1, f1⟩, c2, f2⟩ := cells_of b0
    obtain ⟨⟨d0, e0⟩, ⟨d1, e1⟩, d2, e2⟩ := cells_of b1
    obtain ⟨⟨k0, -⟩, ⟨k1, -⟩, k2, -⟩ := cells_of (st3 b1 fg bg fl)
    clear b0 b1 kW
    go_enter Try.func24, Try.ntmps24
    go_wp2
    exact bodyPost_ret (v := .tuple #[.agg #[.int .i64 fg, .int .i64 bg, .int .i64 fl], .int .i64 (-1)]) (by simp [results, Try.results24, go_sem, k0, k1, k2]) rfl ⟨rfl, HK.out⟩
  · have g1 : decide (3 ≤ (len : Int)) = true := decide_eq_true (by omega)
    have t1 : 1 < len := by omega
    have x1 := kW.cell (hx1 (by omega)) id
    obtain ⟨q, hq⟩ : ∃ q, l.getD 0 0 = q := ⟨_, rfl⟩
    rw [hq] at x1 hl
    have n5 : (q == 5) = false := by simp; omega
    clear hx1 hq
    by_cases h4 : len < 5
    · have g2 : decide (5 ≤ (len : Int)) = false := decide_eq_false (by omega)
      clear hl
      have HK := Lib.hid (st3_kept kW (p := w.heap.size + 1) (.inr (by omega)) (.int .i64 fg) (.int .i64 bg) (.int .i64 fl))
      obtain ⟨⟨c0, f0⟩, ⟨c1, f1⟩, c2, f2⟩ := cells_of b0
      obtain ⟨⟨d0, e0⟩, ⟨d1, e1⟩, d2, e2⟩ := cells_of b1
      obtain ⟨⟨k0, -⟩, ⟨k1, -⟩, k2, -⟩ := cells_of (st3 b1 fg bg fl)
      clear b0 b1 kW
      go_enter Try.func24, Try.ntmps24
      go_wp2
      exact bodyPost_ret (v := .tuple #[.agg #[.int .i64 fg, .int .i64 bg, .int .i64 fl], .int .i64 (-1)]) (by simp [results, Try.results24, go_sem, k0, k1, k2]) rfl ⟨rfl, HK.out⟩
    · have g2 : decide (5 ≤ (len : Int)) = true := decide_eq_true (by omega)
      have n2 : (q == 2) = false := by simp; omega
      clear hl
      have HK := Lib.hid (st3_kept kW (p := w.heap.size + 1) (.inr (by omega)) (.int .i64 fg) (.int .i64 bg) (.int .i64 fl))
      obtain ⟨⟨c0, f0⟩, ⟨c1, f1⟩, c2, f2⟩ := cells_of b0
      obtain ⟨⟨d0, e0⟩, ⟨d1, e1⟩, d2, e2⟩ := cells_of b1
      obtain ⟨⟨k0, -⟩, ⟨k1, -⟩, k2, -⟩ := cells_of (st3 b1 fg bg fl)
      clear b0 b1 kW
      go_enter Try.func24, Try.ntmps24
      go_wp2
      exact bodyPost_ret (v := .tuple #[.agg #[.int .i64 fg, .int .i64 bg, .int .i64 fl], .int .i64 (-1)]) (by simp [results, Try.results24, go_sem, k0, k1, k2]) rfl ⟨rfl, HK.out⟩
theorem long_true (a : Look) (b off len cap : Nat) (l : List Int) (w : World) (h : Arg w.heap.size w (some ⟨b, off, none⟩) len cap (38 :: l)) :
    Calls Try.prog 24 #[lookV a, .slice (some ⟨b, off, none⟩) len cap] w (LongPost (lng a true l).1 (lng a true l).2 w) := by
  have hl := h.1.1
  unfold lng
  split
  · exact long_A_true a b off len cap _ _ w h
  · exact long_B_true a b off len cap _ _ _ _ w h
  · rename_i n1 n2
    refine long_C_true a b off len cap l w h ?_
    match l, hl with
    | [], hl => left; simp at hl; omega
    | [_], hl => left; simp at hl; omega
    | [u, v], hl => right; left; exact ⟨by simp at hl; omega, fun e => n1 v [] (by simp at e; rw [e])⟩
    | [u, v, t], hl => right; left; exact ⟨by simp at hl; omega, fun e => n1 v [t] (by simp at e; rw [e])⟩
    | u :: v :: t :: s :: r, hl => right; right; exact ⟨fun e => n1 v (t :: s :: r) (by simp at e; rw [e]), fun e => n2 v t s r (by simp at e; rw [e])⟩
set_option maxRecDepth 100000 in
set_option maxHeartbeats 2000000 in
theorem long_A_false (a : Look) (b off len cap : Nat) (v : Int) (r : List Int) (w : World) (h : Arg w.heap.size w (some ⟨b, off, none⟩) len cap (48 :: 5 :: v :: r)) :
    Calls Try.prog 24 #[lookV a, .slice (some ⟨b, off, none⟩) len cap] w (LongPost (if byteB v = true then setL a (16777216 + v) false else a) 3 w) := by
  have hlen : 3 ≤ len := by have := h.1.1; simp at this; omega
  have hlc := h.2.1
  have hcm := h.2.2.1
  have hlen0 := h.1.1
  obtain ⟨x0, -⟩ := h.cellAt 0 (by omega)
  obtain ⟨x1, -⟩ := h.cellAt 1 (by omega)
  obtain ⟨x2, -⟩ := h.cellAt 2 (by omega)
  simp only [Nat.add_zero, List.getD_cons_zero, List.getD_cons_succ] at x0 x1 x2
  have t0 : 0 < len := by omega
  have t1 : 1 < len := by omega
  have t2 : 2 < len := by omega
  obtain ⟨fg, bg, fl⟩ := a
  obtain ⟨W, hW⟩ : ∃ W, (w.alloc (.cells #[.int .i64 fg, .int .i64 bg, .int .i64 fl] 23)).alloc (.cells #[.int .i64 0, .int .i64 0, .int .i64 0] 23) = W := ⟨_, rfl⟩
  have kW : Kept (fun _ => False) w W := by rw [← hW]; exact ((Kept.refl _ w).alloc _).alloc _
  have b0 : W.heap[w.heap.size]? = some (.cells (cells3 ⟨fg, bg, fl⟩) 23 (0, 0)) := by rw [← hW]; exact blk_alloc (blk_new _ _) _
  have b1 : W.heap[w.heap.size + 1]? = some (.cells (cells3 ⟨0, 0, 0⟩) 23 (0, 0)) := by rw [← hW]; exact blk_at _ _ (by simp)
  replace x0 := kW.cell x0 id
  replace x1 := kW.cell x1 id
  replace x2 := kW.cell x2 id
  unfold lookV
  clear h
  have g1 : decide (3 ≤ (len : Int)) = true := decide_eq_true (by omega)
  cases hyv : byteB v with
  | false =>
    have HC := Lib.hid (show ∀ w, Calls Try.prog 30 #[.int .i64 v] w fun e w' => e = .returned (.bool false) ∧ w = w' from fun w => by have h := rbyte_any v w; rw [hyv] at h; exact h)
    clear hyv
    rw [if_neg (by simp)]
    have HK := Lib.hid (st3_kept kW (p := w.heap.size + 1) (.inr (by omega)) (.int .i64 fg) (.int .i64 bg) (.int .i64 fl))
    obtain ⟨⟨c0, f0⟩, ⟨c1, f1⟩, c2, f2⟩ := cells_of b0
    obtain ⟨⟨d0, e0⟩, ⟨d1, e1⟩, d2, e2⟩ := cells_of b1
    obtain ⟨⟨k0, -⟩, ⟨k1, -⟩, k2, -⟩ := cells_of (st3 b1 fg bg fl)
    clear b0 b1 kW
    go_enter Try.func24, Try.ntmps24
    go_wp2_with fail
    refine (HC.out _).mono ?_; rintro e w' ⟨rfl, rfl⟩
    go_wp2
    exact bodyPost_ret (v := .tuple #[.agg #[.int .i64 fg, .int .i64 bg, .int .i64 fl], .int .i64 3]) (by simp [results, Try.results24, go_sem, k0, k1, k2]) rfl ⟨rfl, HK.out⟩
  | true =>
    have hv : 0 ≤ v ∧ v ≤ 255 := of_decide_eq_true hyv
    have HC := Lib.hid (show ∀ w, Calls Try.prog 30 #[.int .i64 v] w fun e w' => e = .returned (.bool true) ∧ w = w' from fun w => by have h := rbyte_any v w; rw [hyv] at h; exact h)
    have hor : bits .or .i64 16777216 v = 16777216 + v := or_sum 8 _ _ (by omega) (by omega) (by decide) (by omega)
    clear hyv
    rw [if_pos rfl]
    have HS := Lib.hid (show ∀ w, Calls Try.prog 25 #[lookV ⟨fg, bg, fl⟩, .int .i64 (16777216 + v), .bool false] w fun e w' => e = .returned (lookV (setL ⟨fg, bg, fl⟩ (16777216 + v) false)) ∧ Kept (fun _ => False) w w' from fun w => set_any _ _ _ w)
    unfold setL lookV at HS
    simp only [if_true, if_false, Bool.false_eq_true] at HS
    unfold setL
    simp only [if_true, if_false, Bool.false_eq_true]
    have HK := Lib.hid kW
    have HB0 := Lib.hid b0
    have HB1 := Lib.hid b1
    obtain ⟨⟨c0, f0⟩, ⟨c1, f1⟩, c2, f2⟩ := cells_of b0
    clear b0 b1 kW
    have i0 : (0 : Int) ≤ 2 := by omega
    have i2 : (2 : Int) < (len : Int) := by omega
    go_enter Try.func24, Try.ntmps24
    go_wp2_with fail
    refine (HC.out _).mono ?_; rintro e w' ⟨rfl, rfl⟩
    go_wp2
    go_still_tail 6, (by kernel_rfl)
    change wpList _ _ _ _ _ W.drew
    obtain ⟨V, hV⟩ : ∃ V, W.drew = V := ⟨_, rfl⟩
    rw [hV]
    go_wp2_with fail
    refine (HS.out _).mono ?_; rintro e w1 ⟨rfl, h1⟩
    have h1 := (show Kept (fun _ => False) W V by rw [← hV]; exact (Kept.refl _ _).drew).then h1
    have b0 := h1.blk HB0.out id
    have b1 := h1.blk HB1.out id
    have kk := HK.out.then h1
    clear h1 hV
    obtain ⟨⟨c0, f0⟩, ⟨c1, f1⟩, c2, f2⟩ := cells_of b0
    obtain ⟨⟨k0, l0⟩, ⟨k1, l1⟩, k2, l2⟩ := cells_of (st3 b0 fg (16777216 + v) fl)
    obtain ⟨⟨d0, e0⟩, ⟨d1, e1⟩, d2, e2⟩ := cells_of (st3_other b1 (p := w.heap.size) (by omega) (.int .i64 fg) (.int .i64 (16777216 + v)) (.int .i64 fl))
    have HB := Lib.hid (st3_other b1 (p := w.heap.size) (by omega) (.int .i64 fg) (.int .i64 (16777216 + v)) (.int .i64 fl))
    have HKK := Lib.hid (st3_kept kk (p := w.heap.size) (.inr (by omega)) (.int .i64 fg) (.int .i64 (16777216 + v)) (.int .i64 fl))
    clear b0 b1 kk
    go_wp2
    obtain ⟨⟨m0, -⟩, ⟨m1, -⟩, m2, -⟩ := cells_of (st3 HB.out fg (16777216 + v) fl)
    exact bodyPost_ret (v := .tuple #[.agg #[.int .i64 fg, .int .i64 (16777216 + v), .int .i64 fl], .int .i64 3]) (by simp [results, Try.results24, go_sem, m0, m1, m2]) rfl ⟨rfl, st3_kept HKK.out (.inr (by omega)) _ _ _⟩
set_option maxRecDepth 100000 in
set_option maxHeartbeats 2000000 in
theorem long_B_false (a : Look) (b off len cap : Nat) (r g bb : Int) (t : List Int) (w : World) (h : Arg w.heap.size w (some ⟨b, off, none⟩) len cap (48 :: 2 :: r :: g :: bb :: t)) :
    Calls Try.prog 24 #[lookV a, .slice (some ⟨b, off, none⟩) len cap] w (LongPost (if byteB r = true ∧ byteB g = true ∧ byteB bb = true then setL a (33554432 + r * 65536 + g * 256 + bb) false else a) 5 w) := by
  have hlen : 5 ≤ len := by have := h.1.1; simp at this; omega
  have hlc := h.2.1
  have hcm := h.2.2.1
  have hlen0 := h.1.1
  obtain ⟨x0, -⟩ := h.cellAt 0 (by omega)
  obtain ⟨x1, -⟩ := h.cellAt 1 (by omega)
  obtain ⟨x2, -⟩ := h.cellAt 2 (by omega)
  obtain ⟨x3, -⟩ := h.cellAt 3 (by omega)
  obtain ⟨x4, -⟩ := h.cellAt 4 (by omega)
  simp only [Nat.add_zero, List.getD_cons_zero, List.getD_cons_succ] at x0 x1 x2 x3 x4
  have t0 : 0 < len := by omega
  have t1 : 1 < len := by omega
  have t2 : 2 < len := by omega
  have t3 : 3 < len := by omega
  have t4 : 4 < len := by omega
  obtain ⟨fg, bg, fl⟩ := a
  obtain ⟨W, hW⟩ : ∃ W, (w.alloc (.cells #[.int .i64 fg, .int .i64 bg, .int .i64 fl] 23)).alloc (.cells #[.int .i64 0, .int .i64 0, .int .i64 0] 23) = W := ⟨_, rfl⟩
  have kW : Kept (fun _ => False) w W := by rw [← hW]; exact ((Kept.refl _ w).alloc _).alloc _
  have b0 : W.heap[w.heap.size]? = some (.cells (cells3 ⟨fg, bg, fl⟩) 23 (0, 0)) := by rw [← hW]; exact blk_alloc (blk_new _ _) _
  have b1 : W.heap[w.heap.size + 1]? = some (.cells (cells3 ⟨0, 0, 0⟩) 23 (0, 0)) := by rw [← hW]; exact blk_at _ _ (by simp)
  replace x0 := kW.cell x0 id
  replace x1 := kW.cell x1 id
  replace x2 := kW.cell x2 id
  replace x3 := kW.cell x3 id
  replace x4 := kW.cell x4 id
  unfold lookV
  clear h
  have g1 : decide (3 ≤ (len : Int)) = true := decide_eq_true (by omega)
  have g2 : decide (5 ≤ (len : Int)) = true := decide_eq_true (by omega)
  cases hyr : byteB r with
  | false =>
    have HC := Lib.hid (show ∀ w, Calls Try.prog 30 #[.int .i64 r] w fun e w' => e = .returned (.bool false) ∧ w = w' from fun w => by have h := rbyte_any r w; rw [hyr] at h; exact h)
    clear hyr
    rw [if_neg (by simp)]
    have HK := Lib.hid (st3_kept kW (p := w.heap.size + 1) (.inr (by omega)) (.int .i64 fg) (.int .i64 bg) (.int .i64 fl))
    obtain ⟨⟨c0, f0⟩, ⟨c1, f1⟩, c2, f2⟩ := cells_of b0
    obtain ⟨⟨d0, e0⟩, ⟨d1, e1⟩, d2, e2⟩ := cells_of b1
    obtain ⟨⟨k0, -⟩, ⟨k1, -⟩, k2, -⟩ := cells_of (st3 b1 fg bg fl)
    clear b0 b1 kW
    go_enter Try.func24, Try.ntmps24
    go_wp2_with fail
    refine (HC.out _).mono ?_; rintro e w' ⟨rfl, rfl⟩
    go_wp2
    exact bodyPost_ret (v := .tuple #[.agg #[.int .i64 fg, .int .i64 bg, .int .i64 fl], .int .i64 5]) (by simp [results, Try.results24, go_sem, k0, k1, k2]) rfl ⟨rfl, HK.out⟩
  | true =>
    have hr : 0 ≤ r ∧ r ≤ 255 := of_decide_eq_true hyr
    have HC := Lib.hid (show ∀ w, Calls Try.prog 30 #[.int .i64 r] w fun e w' => e = .returned (.bool true) ∧ w = w' from fun w => by have h := rbyte_any r w; rw [hyr] at h; exact h)
    clear hyr
    cases hyg : byteB g with
    | false =>
      have HG := Lib.hid (show ∀ w, Calls Try.prog 30 #[.int .i64 g] w fun e w' => e = .returned (.bool false) ∧ w = w' from fun w => by have h := rbyte_any g w; rw [hyg] at h; exact h)
      clear hyg
      rw [if_neg (by simp)]
      have HK := Lib.hid (st3_kept kW (p := w.heap.size + 1) (.inr (by omega)) (.int .i64 fg) (.int .i64 bg) (.int .i64 fl))
      obtain ⟨⟨c0, f0⟩, ⟨c1, f1⟩, c2, f2⟩ := cells_of b0
      obtain ⟨⟨d0, e0⟩, ⟨d1, e1⟩, d2, e2⟩ := cells_of b1
      obtain ⟨⟨k0, -⟩, ⟨k1, -⟩, k2, -⟩ := cells_of (st3 b1 fg bg fl)
      clear b0 b1 kW
      go_enter Try.func24, Try.ntmps24
      go_wp2_with fail
      refine (HC.out _).mono ?_; rintro e w' ⟨rfl, rfl⟩
      go_wp2_with fail
      refine (HG.out _).mono ?_; rintro e w' ⟨rfl, rfl⟩
      go_wp2
      exact bodyPost_ret (v := .tuple #[.agg #[.int .i64 fg, .int .i64 bg, .int .i64 fl], .int .i64 5]) (by simp [results, Try.results24, go_sem, k0, k1, k2]) rfl ⟨rfl, HK.out⟩
    | true =>
      have hg : 0 ≤ g ∧ g ≤ 255 := of_decide_eq_true hyg
      have HG := Lib.hid (show ∀ w, Calls Try.prog 30 #[.int .i64 g] w fun e w' => e = .returned (.bool true) ∧ w = w' from fun w => by have h := rbyte_any g w; rw [hyg] at h; exact h)
      clear hyg
      cases hybb : byteB bb with
      | false =>
        have HH := Lib.hid (show ∀ w, Calls Try.prog 30 #[.int .i64 bb] w fun e w' => e = .returned (.bool false) ∧ w = w' from fun w => by have h := rbyte_any bb w; rw [hybb] at h; exact h)
        clear hybb
        rw [if_neg (by simp)]
        have HK := Lib.hid (st3_kept kW (p := w.heap.size + 1) (.inr (by omega)) (.int .i64 fg) (.int .i64 bg) (.int .i64 fl))
        obtain ⟨⟨c0, f0⟩, ⟨c1, f1⟩, c2, f2⟩ := cells_of b0
        obtain ⟨⟨d0, e0⟩, ⟨d1, e1⟩, d2, e2⟩ := cells_of b1
        obtain ⟨⟨k0, -⟩, ⟨k1, -⟩, k2, -⟩ := cells_of (st3 b1 fg bg fl)
        clear b0 b1 kW
        go_enter Try.func24, Try.ntmps24
        go_wp2_with fail
        refine (HC.out _).mono ?_; rintro e w' ⟨rfl, rfl⟩
        go_wp2_with fail
        refine (HG.out _).mono ?_; rintro e w' ⟨rfl, rfl⟩
        go_wp2_with fail
        refine (HH.out _).mono ?_; rintro e w' ⟨rfl, rfl⟩
        go_wp2
        exact bodyPost_ret (v := .tuple #[.agg #[.int .i64 fg, .int .i64 bg, .int .i64 fl], .int .i64 5]) (by simp [results, Try.results24, go_sem, k0, k1, k2]) rfl ⟨rfl, HK.out⟩
      | true =>
        have hb : 0 ≤ bb ∧ bb ≤ 255 := of_decide_eq_true hybb
        have HH := Lib.hid (show ∀ w, Calls Try.prog 30 #[.int .i64 bb] w fun e w' => e = .returned (.bool true) ∧ w = w' from fun w => by have h := rbyte_any bb w; rw [hybb] at h; exact h)
        clear hybb
        rw [if_pos (by simp)]
        have HS := Lib.hid (show ∀ w, Calls Try.prog 25 #[lookV ⟨fg, bg, fl⟩, .int .i64 (33554432 + r * 65536 + g * 256 + bb), .bool false] w fun e w' => e = .returned (lookV (setL ⟨fg, bg, fl⟩ (33554432 + r * 65536 + g * 256 + bb) false)) ∧ Kept (fun _ => False) w w' from fun w => set_any _ _ _ w)
        unfold setL lookV at HS
        simp only [if_true, if_false, Bool.false_eq_true] at HS
        unfold setL
        simp only [if_true, if_false, Bool.false_eq_true]
        have HK := Lib.hid kW
        have HB0 := Lib.hid b0
        have HB1 := Lib.hid b1
        obtain ⟨⟨c0, f0⟩, ⟨c1, f1⟩, c2, f2⟩ := cells_of b0
        clear b0 b1 kW
        have i0 : (0 : Int) ≤ 2 := by omega
        have i2 : (2 : Int) < (len : Int) := by omega
        have i3 : (0 : Int) ≤ 3 := by omega
        have i4 : (3 : Int) < (len : Int) := by omega
        have i5 : (0 : Int) ≤ 4 := by omega
        have i6 : (4 : Int) < (len : Int) := by omega
        have o1 : bits .or .i64 33554432 (r * 65536) = 33554432 + r * 65536 := or_sum 24 _ _ (by omega) (by omega) (by decide) (by omega)
        have o2 : bits .or .i64 (33554432 + r * 65536) (g * 256) = 33554432 + r * 65536 + g * 256 := or_sum 16 _ _ (by omega) (by omega) (by omega) (by omega)
        have o3 : bits .or .i64 (33554432 + r * 65536 + g * 256) bb = 33554432 + r * 65536 + g * 256 + bb := or_sum 8 _ _ (by omega) (by omega) (by omega) (by omega)
        have e1 : IntKind.i64.wrap (r * 65536) = r * 65536 := IntWalk.i64_in _ (by omega)
        have e2 : IntKind.i64.wrap (g * 256) = g * 256 := IntWalk.i64_in _ (by omega)
        have e6 : min 16 64 = 16 := rfl
        have e7 : min 8 64 = 8 := rfl
        go_enter Try.func24, Try.ntmps24
        go_wp2_with fail
        refine (HC.out _).mono ?_; rintro e w' ⟨rfl, rfl⟩
        go_wp2_with fail
        refine (HG.out _).mono ?_; rintro e w' ⟨rfl, rfl⟩
        go_wp2_with fail
        refine (HH.out _).mono ?_; rintro e w' ⟨rfl, rfl⟩
        go_wp2
        go_still_tail 16, (by kernel_rfl)
        change wpList _ _ _ _ _ W.drew
        obtain ⟨V, hV⟩ : ∃ V, W.drew = V := ⟨_, rfl⟩
        rw [hV]
        go_wp2_with fail
        refine (HS.out _).mono ?_; rintro e w1 ⟨rfl, h1⟩
        have h1 := (show Kept (fun _ => False) W V by rw [← hV]; exact (Kept.refl _ _).drew).then h1
        have b0 := h1.blk HB0.out id
        have b1 := h1.blk HB1.out id
        have kk := HK.out.then h1
        clear h1 hV
        obtain ⟨⟨c0, f0⟩, ⟨c1, f1⟩, c2, f2⟩ := cells_of b0
        obtain ⟨⟨k0, l0⟩, ⟨k1, l1⟩, k2, l2⟩ := cells_of (st3 b0 fg (33554432 + r * 65536 + g * 256 + bb) fl)
        obtain ⟨⟨d0, e0⟩, ⟨d1, e1⟩, d2, e2⟩ := cells_of (st3_other b1 (p := w.heap.size) (by omega) (.int .i64 fg) (.int .i64 (33554432 + r * 65536 + g * 256 + bb)) (.int .i64 fl))
        have HB := Lib.hid (st3_other b1 (p := w.heap.size) (by omega) (.int .i64 fg) (.int .i64 (33554432 + r * 65536 + g * 256 + bb)) (.int .i64 fl))
        have HKK := Lib.hid (st3_kept kk (p := w.heap.size) (.inr (by omega)) (.int .i64 fg) (.int .i64 (33554432 + r * 65536 + g * 256 + bb)) (.int .i64 fl))
        clear b0 b1 kk
        go_wp2
        obtain ⟨⟨m0, -⟩, ⟨m1, -⟩, m2, -⟩ := cells_of (st3 HB.out fg (33554432 + r * 65536 + g * 256 + bb) fl)
        exact bodyPost_ret (v := .tuple #[.agg #[.int .i64 fg, .int .i64 (33554432 + r * 65536 + g * 256 + bb), .int .i64 fl], .int .i64 5]) (by simp [results, Try.results24, go_sem, m0, m1, m2]) rfl ⟨rfl, st3_kept HKK.out (.inr (by omega)) _ _ _⟩
set_option maxRecDepth 100000 in
set_option maxHeartbeats 2000000 in
theorem long_C_false (a : Look) (b off len cap : Nat) (l : List Int) (w : World) (h : Arg w.heap.size w (some ⟨b, off, none⟩) len cap (48 :: l))
    (hl : len < 3 ∨ (len < 5 ∧ l.getD 0 0 ≠ 5) ∨ (l.getD 0 0 ≠ 5 ∧ l.getD 0 0 ≠ 2)) :
    Calls Try.prog 24 #[lookV a, .slice (some ⟨b, off, none⟩) len cap] w (LongPost a (-1) w) := by
  have hlen : 1 ≤ len := by have := h.1.1; simp at this; omega
  have hx1 : 2 ≤ len → w.cell? ⟨b, off + 1, none⟩ = some (.int .i64 (l.getD 0 0)) := fun h2 => by have := (h.cellAt 1 (by omega)).1; simpa using this
  have hlc := h.2.1
  have hcm := h.2.2.1
  have hlen0 := h.1.1
  obtain ⟨x0, -⟩ := h.cellAt 0 (by omega)
  simp only [Nat.add_zero, List.getD_cons_zero, List.getD_cons_succ] at x0
  have t0 : 0 < len := by omega
  obtain ⟨fg, bg, fl⟩ := a
  obtain ⟨W, hW⟩ : ∃ W, (w.alloc (.cells #[.int .i64 fg, .int .i64 bg, .int .i64 fl] 23)).alloc (.cells #[.int .i64 0, .int .i64 0, .int .i64 0] 23) = W := ⟨_, rfl⟩
  have kW : Kept (fun _ => False) w W := by rw [← hW]; exact ((Kept.refl _ w).alloc _).alloc _
  have b0 : W.heap[w.heap.size]? = some (.cells (cells3 ⟨fg, bg, fl⟩) 23 (0, 0)) := by rw [← hW]; exact blk_alloc (blk_new _ _) _
  have b1 : W.heap[w.heap.size + 1]? = some (.cells (cells3 ⟨0, 0, 0⟩) 23 (0, 0)) := by rw [← hW]; exact blk_at _ _ (by simp)
  replace x0 := kW.cell x0 id
  unfold lookV
  clear h
  by_cases h2 : len < 3
  · have g1 : decide (3 ≤ (len : Int)) = false := decide_eq_false (by omega)
    have g2 : decide (5 ≤ (len : Int)) = false := decide_eq_false (by omega)
    clear hl hx1
    have HK := Lib.hid (st3_kept kW (p := w.heap.size + 1) (.inr (by omega)) (.int .i64 fg) (.int .i64 bg) (.int .i64 fl))
    obtain ⟨⟨c0, f0⟩, ⟨c1, f1⟩, c2, f2⟩ := cells_of b0
    obtain ⟨⟨d0, e0⟩, ⟨d1, e1⟩, d2, e2⟩ := cells_of b1
    obtain ⟨⟨k0, -⟩, ⟨k1, -⟩, k2, -⟩ := cells_of (st3 b1 fg bg fl)
    clear b0 b1 kW
    go_enter Try.func24, Try.ntmps24
    go_wp2
    exact bodyPost_ret (v := .tuple #[.agg #[.int .i64 fg, .int .i64 bg, .int .i64 fl], .int .i64 (-1)]) (by simp [results, Try.results24, go_sem, k0, k1, k2]) rfl ⟨rfl, HK.out⟩
  · have g1 : decide (3 ≤ (len : Int)) = true := decide_eq_true (by omega)
    have t1 : 1 < len := by omega
    have x1 := kW.cell (hx1 (by omega)) id
    obtain ⟨q, hq⟩ : ∃ q, l.getD 0 0 = q := ⟨_, rfl⟩
    rw [hq] at x1 hl
    have n5 : (q == 5) = false := by simp; omega
    clear hx1 hq
    by_cases h4 : len < 5
    · have g2 : decide (5 ≤ (len : Int)) = false := decide_eq_false (by omega)
      clear hl
      have HK := Lib.hid (st3_kept kW (p := w.heap.size + 1) (.inr (by omega)) (.int .i64 fg) (.int .i64 bg) (.int .i64 fl))
      obtain ⟨⟨c0, f0⟩, ⟨c1, f1⟩, c2, f2⟩ := cells_of b0
      obtain ⟨⟨d0, e0⟩, ⟨d1, e1⟩, d2, e2⟩ := cells_of b1
      obtain ⟨⟨k0, -⟩, ⟨k1, -⟩, k2, -⟩ := cells_of (st3 b1 fg bg fl)
      clear b0 b1 kW
      go_enter Try.func24, Try.ntmps24
      go_wp2
      exact bodyPost_ret (v := .tuple #[.agg #[.int .i64 fg, .int .i64 bg, .int .i64 fl], .int .i64 (-1)]) (by simp [results, Try.results24, go_sem, k0, k1, k2]) rfl ⟨rfl, HK.out⟩
    · have g2 : decide (5 ≤ (len : Int)) = true := decide_eq_true (by omega)
      have n2 : (q == 2) = false := by simp; omega
      clear hl
      have HK := Lib.hid (st3_kept kW (p := w.heap.size + 1) (.inr (by omega)) (.int .i64 fg) (.int .i64 bg) (.int .i64 fl))
      obtain ⟨⟨c0, f0⟩, ⟨c1, f1⟩, c2, f2⟩ := cells_of b0
      obtain ⟨⟨d0, e0⟩, ⟨d1, e1⟩, d2, e2⟩ := cells_of b1
      obtain ⟨⟨k0, -⟩, ⟨k1, -⟩, k2, -⟩ := cells_of (st3 b1 fg bg fl)
      clear b0 b1 kW
      go_enter Try.func24, Try.ntmps24
      go_wp2
      exact bodyPost_ret (v := .tuple #[.agg #[.int .i64 fg, .int .i64 bg, .int .i64 fl], .int .i64 (-1)]) (by simp [results, Try.results24, go_sem, k0, k1, k2]) rfl ⟨rfl, HK.out⟩
theorem long_false (a : Look) (b off len cap : Nat) (l : List Int) (w : World) (h : Arg w.heap.size w (some ⟨b, off, none⟩) len cap (48 :: l)) :
    Calls Try.prog 24 #[lookV a, .slice (some ⟨b, off, none⟩) len cap] w (LongPost (lng a false l).1 (lng a false l).2 w) := by
  have hl := h.1.1
  unfold lng
  split
  · exact long_A_false a b off len cap _ _ w h
  · exact long_B_false a b off len cap _ _ _ _ w h
  · rename_i n1 n2
    refine long_C_false a b off len cap l w h ?_
    match l, hl with
    | [], hl => left; simp at hl; omega
    | [_], hl => left; simp at hl; omega
    | [u, v], hl => right; left; exact ⟨by simp at hl; omega, fun e => n1 v [] (by simp at e; rw [e])⟩
    | [u, v, t], hl => right; left; exact ⟨by simp at hl; omega, fun e => n1 v [t] (by simp at e; rw [e])⟩
    | u :: v :: t :: s :: r, hl => right; right; exact ⟨fun e => n1 v (t :: s :: r) (by simp at e; rw [e]), fun e => n2 v t s r (by simp at e; rw [e])⟩
end Go.Proofs.Ytdcbaobipogmnaa
