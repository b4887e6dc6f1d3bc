/- The law of parameters that make an attribute. -/
import Derived.Test.YtdcbaobipogmnaaParams
import Derived.Test.YtdcbaobipogmnaaLParts
namespace Go.Proofs.Ytdcbaobipogmnaa
open Go.RowKit Pl Go.Sort
set_option linter.unusedVariables false
set_option linter.unusedSimpArgs false
namespace Pl
theorem ap_fold : ∀ (l : List Int) (a : Look), (∀ x ∈ l, x ≠ 38 ∧ x ≠ 48) → ap a l = l.foldl one a := by
  intro l
  induction l with
  | nil => intro a _; rw [ap_nil]; rfl
  | cons x l ih =>
    intro a h
    have hx := h x (by simp)
    have e : stp a x l = (one a x, l) := by unfold stp; rw [if_neg hx.1, if_neg hx.2]
    rw [ap_cons, e, List.foldl_cons]
    exact ih _ (fun y hy => h y (by simp [hy]))
theorem flagsL_mem (fl : Int) (k : Nat) : ∀ x ∈ flagsL fl k, 1 ≤ x ∧ x ≤ k := by
  induction k with
  | zero => intro x hx; cases hx
  | succ k ih =>
    intro x hx
    unfold flagsL at hx
    rw [List.mem_append] at hx
    rcases hx with hx | hx
    · have := ih x hx; omega
    · split at hx
      · simp at hx; omega
      · cases hx
theorem flagsL_len6 (fl : Int) (k : Nat) : (flagsL fl (k + 6)).length ≤ k + 5 := by
  induction k with
  | zero =>
    have h := flagsL_len fl 5
    have e : hasF fl ((5 : Nat) + 1 : Int) = false := rfl
    show (flagsL fl 5 ++ (if hasF fl (((5 : Nat) : Int) + 1) = true then [((5 : Nat) : Int) + 1] else [])).length ≤ _
    rw [List.length_append, e]
    simp; omega
  | succ k ih =>
    show (flagsL fl (k + 6) ++ _).length ≤ _
    rw [List.length_append]
    split <;> simp <;> omega
theorem fold_flags : ∀ f : Fin 256, ((flagsL (f.val : Int) 9).foldl one ⟨0, 0, 0⟩).fg = 0 ∧ ((flagsL (f.val : Int) 9).foldl one ⟨0, 0, 0⟩).bg = 0 ∧ ((flagsL (f.val : Int) 9).foldl one ⟨0, 0, 0⟩).fl = (f.val : Int) := by decide +kernel
theorem ap_flags (fl : Int) (h : 0 ≤ fl ∧ fl ≤ 255) : ap ⟨0, 0, 0⟩ (flagsL fl 9) = ⟨0, 0, fl⟩ := by
  rw [ap_fold _ _ (fun x hx => by have := flagsL_mem fl 9 x hx; omega)]
  obtain ⟨n, rfl⟩ := Int.eq_ofNat_of_zero_le h.1
  obtain ⟨h1, h2, h3⟩ := fold_flags ⟨n, by omega⟩
  simp only at h1 h2 h3
  generalize (flagsL (n : Int) 9).foldl one ⟨0, 0, 0⟩ = X at h1 h2 h3
  obtain ⟨x, y, z⟩ := X
  simp only at h1 h2 h3
  rw [h1, h2, h3]
theorem byteB_of {v : Int} (h : 0 ≤ v ∧ v ≤ 255) : byteB v = true := decide_eq_true h
theorem far5 (c v : Int) (l : List Int) : far c (5 :: v :: l) = (if byteB v = true then 16777216 + v else c, l) := rfl
theorem far2 (c r g b : Int) (l : List Int) : far c (2 :: r :: g :: b :: l) = (if byteB r = true ∧ byteB g = true ∧ byteB b = true then 33554432 + r * 65536 + g * 256 + b else c, l) := rfl
theorem ap_col0 (a : Look) (c : Int) (l : List Int) (h : colB c = true) (h0 : a.fg = 0) : ap a (colL 0 c ++ l) = ap { a with fg := c } l := by
  rw [colB_iff] at h
  unfold colL
  split
  · obtain ⟨v, rfl⟩ : ∃ v, c = v + 33554432 := ⟨c - 33554432, by omega⟩
    rw [show v + 33554432 - 33554432 = v by omega]
    simp only [List.cons_append, List.nil_append]
    rw [ap_cons]
    have e : stp a (38 + 10 * 0) (2 :: v / 65536 :: v / 256 % 256 :: v % 256 :: l) = ({ a with fg := v + 33554432 }, l) := by
      unfold stp
      rw [if_pos (by omega)]
      rw [far2, if_pos ⟨byteB_of (by omega), byteB_of (by omega), byteB_of (by omega)⟩]
      simp only [show (33554432 + v / 65536 * 65536 + v / 256 % 256 * 256 + v % 256) = v + 33554432 by omega]
    rw [e]
  · split
    · simp only [List.cons_append, List.nil_append]
      rw [ap_cons]
      have e : stp a (38 + 10 * 0) (5 :: (c - 16777216) :: l) = ({ a with fg := c }, l) := by
        unfold stp
        rw [if_pos (by omega)]
        rw [far5, if_pos (byteB_of (by omega))]
        simp only [show (16777216 + (c - 16777216)) = c by omega]
      rw [e]
    · obtain rfl : c = 0 := by omega
      rw [List.nil_append]
      obtain ⟨x, y, z⟩ := a
      simp only at h0
      rw [h0]
theorem ap_col1 (a : Look) (c : Int) (l : List Int) (h : colB c = true) (h0 : a.bg = 0) : ap a (colL 1 c ++ l) = ap { a with bg := c } l := by
  rw [colB_iff] at h
  unfold colL
  split
  · obtain ⟨v, rfl⟩ : ∃ v, c = v + 33554432 := ⟨c - 33554432, by omega⟩
    rw [show v + 33554432 - 33554432 = v by omega]
    simp only [List.cons_append, List.nil_append]
    rw [ap_cons]
    have e : stp a (38 + 10 * 1) (2 :: v / 65536 :: v / 256 % 256 :: v % 256 :: l) = ({ a with bg := v + 33554432 }, l) := by
      unfold stp
      rw [if_neg (by omega), if_pos (by omega)]
      rw [far2, if_pos ⟨byteB_of (by omega), byteB_of (by omega), byteB_of (by omega)⟩]
      simp only [show (33554432 + v / 65536 * 65536 + v / 256 % 256 * 256 + v % 256) = v + 33554432 by omega]
    rw [e]
  · split
    · simp only [List.cons_append, List.nil_append]
      rw [ap_cons]
      have e : stp a (38 + 10 * 1) (5 :: (c - 16777216) :: l) = ({ a with bg := c }, l) := by
        unfold stp
        rw [if_neg (by omega), if_pos (by omega)]
        rw [far5, if_pos (byteB_of (by omega))]
        simp only [show (16777216 + (c - 16777216)) = c by omega]
      rw [e]
    · obtain rfl : c = 0 := by omega
      rw [List.nil_append]
      obtain ⟨x, y, z⟩ := a
      simp only at h0
      rw [h0]
theorem apply_params (a b : Look) (h : rightB a = true) : apply b (params a) = a := by
  rw [rightB_iff] at h
  obtain ⟨h1, h2, h3⟩ := h
  unfold apply params
  rw [if_neg (by simp), List.cons_append, ap_cons]
  have e : ∀ l, stp b 0 l = (⟨0, 0, 0⟩, l) := fun l => by unfold stp one; rw [if_neg (by omega), if_neg (by omega), if_pos rfl]
  rw [e, ap_append _ _ _ (fun x hx => by have := flagsL_mem a.fl 9 x hx; omega), ap_flags _ h3]
  show ap ⟨0, 0, a.fl⟩ (colL 0 a.fg ++ colL 1 a.bg) = a
  rw [ap_col0 _ _ _ h1 rfl, ← List.append_nil (colL 1 a.bg), ap_col1 _ _ _ h2 rfl, ap_nil]
theorem params_len (a : Look) : 1 ≤ (params a).length ∧ (params a).length ≤ 19 := by
  unfold params
  have h1 : (flagsL a.fl 9).length ≤ 8 := flagsL_len6 a.fl 3
  have h2 := colsN_len a.fg a.bg 2
  simp only [List.cons_append, List.length_cons, List.length_append]
  omega
theorem params_in (a : Look) (h : a.In) (hr : rightB a = true) : ∀ n ∈ params a, In n := by
  rw [rightB_iff, colB_iff, colB_iff] at hr
  obtain ⟨h1, h2, h3⟩ := hr
  have hc : ∀ (i c : Int), (0 ≤ i ∧ i ≤ 1) → (c = 0 ∨ (16777216 ≤ c ∧ c < 16777472) ∨ (33554432 ≤ c ∧ c < 50331648)) → ∀ n ∈ colL i c, In n := by
    intro i c hi hc n hn
    unfold colL at hn
    split at hn
    · simp at hn; unfold In; omega
    · split at hn
      · simp at hn; unfold In; omega
      · cases hn
  intro n hn
  unfold params at hn
  simp only [List.cons_append, List.mem_cons, List.mem_append] at hn
  rcases hn with rfl | hn | hn
  · unfold In; omega
  · have := flagsL_mem a.fl 9 n hn; unfold In; omega
  · rw [show colsN a.fg a.bg 2 = colL 0 a.fg ++ colL 1 a.bg from rfl, List.mem_append] at hn
    rcases hn with hn | hn
    · exact hc 0 _ (by omega) h1 n hn
    · exact hc 1 _ (by omega) h2 n hn
end Pl
set_option maxRecDepth 100000 in
set_option maxHeartbeats 4000000 in
theorem par_early (a b : Look) (w : World) (h : rightB a = false) :
    Calls Try.prog 7 #[.agg #[.int .i64 a.fg, .int .i64 a.bg, .int .i64 a.fl], .agg #[.int .i64 b.fg, .int .i64 b.bg, .int .i64 b.fl]] w fun e w' => e = .returned (.bool true) ∧ Kept (fun _ => False) w w' := by
  have D := Lib.hid (fun w => show Calls Try.prog 12 #[.agg #[.int .i64 a.fg, .int .i64 a.bg, .int .i64 a.fl]] w fun e w' => e = .returned (.bool false) ∧ Kept (fun _ => False) w w' from by rw [← h]; exact rright_any a w)
  clear h
  go_enter Try.func7, Try.ntmps7
  go_wp2_with fail
  refine (known_any _).mono ?_; rintro e w1 ⟨rfl, hk⟩
  have b1 := hk.blk (blk_alloc (blk_new w (.cells #[.int .i64 a.fg, .int .i64 a.bg, .int .i64 a.fl] 23)) _) id
  have k1 := (((Kept.refl (fun _ => False) w).alloc _).alloc _).then hk
  obtain ⟨⟨c0, f0⟩, ⟨c1, f1⟩, c2, f2⟩ := blk3 b1
  clear hk b1
  go_wp2_with fail
  refine (D.out _).mono ?_; rintro e w2 ⟨rfl, hk⟩
  have k2 := k1.then hk
  clear k1 hk
  go_wp2
  go_ret
  exact ⟨rfl, k2⟩
set_option maxRecDepth 100000 in
set_option maxHeartbeats 4000000 in
theorem par_go (a b : Look) (ha : a.In) (hb : b.In) (w : World) (h : rightB a = true) :
    Calls Try.prog 7 #[.agg #[.int .i64 a.fg, .int .i64 a.bg, .int .i64 a.fl], .agg #[.int .i64 b.fg, .int .i64 b.bg, .int .i64 b.fl]] w fun e w' => e = .returned (.bool true) ∧ Kept (fun _ => False) w w' := by
  have D := Lib.hid (fun w => show Calls Try.prog 12 #[.agg #[.int .i64 a.fg, .int .i64 a.bg, .int .i64 a.fl]] w fun e w' => e = .returned (.bool true) ∧ Kept (fun _ => False) w w' from by rw [← h]; exact rright_any a w)
  have DP := Lib.hid (fun w => params_any a w h (params_in a ha h))
  have hlaw := apply_params a b h
  have hlen := params_len a
  have h0 : (params a).getD 0 0 = 0 := rfl
  obtain ⟨P, hP⟩ : ∃ P, params a = P := ⟨_, rfl⟩
  rw [hP] at hlaw hlen h0
  have HP := Lib.hid hP
  have HLAW := Lib.hid hlaw
  have HB := Lib.hid hb
  have HZ := Lib.hid h0
  clear h hlaw hP h0
  go_enter Try.func7, Try.ntmps7
  go_wp2_with fail
  refine (known_any _).mono ?_; rintro e w1 ⟨rfl, hk⟩
  have b1 := hk.blk (blk_alloc (blk_new w (.cells #[.int .i64 a.fg, .int .i64 a.bg, .int .i64 a.fl] 23)) (.cells #[.int .i64 b.fg, .int .i64 b.bg, .int .i64 b.fl] 23)) id
  have b2 := hk.blk (blk_at (w.alloc (.cells #[.int .i64 a.fg, .int .i64 a.bg, .int .i64 a.fl] 23)) (.cells #[.int .i64 b.fg, .int .i64 b.bg, .int .i64 b.fl] 23) (b := w.heap.size + 1) (by simp)) id
  have k1 := (((Kept.refl (fun _ => False) w).alloc _).alloc _).then hk
  obtain ⟨⟨c0, f0⟩, ⟨c1, f1⟩, c2, f2⟩ := blk3 b1
  have HB1 := Lib.hid b1
  have HB2 := Lib.hid b2
  clear hk b1 b2
  go_wp2_with fail
  refine (D.out _).mono ?_; rintro e w2 ⟨rfl, hk⟩
  have k2 := k1.then hk
  obtain ⟨⟨c0, f0⟩, ⟨c1, f1⟩, c2, f2⟩ := blk3 (hk.blk HB1.out id)
  have HK2 := Lib.hid hk
  clear k1 hk
  go_wp2_with fail
  refine (DP.out _).mono ?_; rintro e V ⟨ad, len, cap, rfl, hA, hk⟩
  rw [HP.out] at hA
  have hll := hA.1.1
  obtain ⟨pb, off, rfl, -⟩ := hA.1.2.resolve_left (by omega)
  have x0 := (hA.cellAt 0 (by omega)).1
  rw [HZ.out, Nat.add_zero] at x0
  have k3 := k2.then hk
  obtain ⟨⟨a0, -⟩, ⟨a1, -⟩, a2, -⟩ := blk3 ((HK2.out.then hk).blk HB1.out id)
  obtain ⟨⟨d0, -⟩, ⟨d1, -⟩, d2, -⟩ := blk3 ((HK2.out.then hk).blk HB2.out id)
  have A0 := cell_regrown a0
  have A1 := cell_regrown a1
  have A2 := cell_regrown a2
  have E0 := cell_regrown d0
  have E1 := cell_regrown d1
  have E2 := cell_regrown d2
  have X0 := cell_regrown x0
  have D9 := Lib.hid (QA hA HB.out a HLAW.out)
  have D10 := Lib.hid (QR hA HB.out a HLAW.out)
  have HK := Lib.hid k3
  have q1 := run_eqLook a a
  have q3 := @run_eqGuard_agg Try.prog
  have g1 : decide ((1 : Int) ≤ len) = true := decide_eq_true (by omega)
  have g2 : decide ((len : Int) ≤ 19) = true := decide_eq_true (by omega)
  have t0 : 0 < len := by omega
  have t1 : (0 : Int) < (len : Int) := by omega
  have hcm := hA.2.2.1
  clear a0 a1 a2 d0 d1 d2 x0 hA hk k2 k3 hll hlen c0 c1 c2 f0 f1 f2
  go_wp2
  refine wp_region_quiet_below (by kernel_rfl) (by kernel_rfl) ?_
  repeat (quiet_step (first | with_reducible exact quietC D9.out | with_reducible exact quietC D10.out))
  refine wpQuiet_nil ?_
  rintro _ ⟨⟨dd, os⟩, rfl⟩
  go_wp2
  go_ret
  exact ⟨rfl, HK.out.then (kept_of_regrown dd os)⟩
theorem law_params {x y z p q r : Int} {w : World} (f0 : (Lit.int .i64 x).wf = true ∧ (Lit.int .i64 y).wf = true ∧ (Lit.int .i64 z).wf = true) (f1 : (Lit.int .i64 p).wf = true ∧ (Lit.int .i64 q).wf = true ∧ (Lit.int .i64 r).wf = true) :
    Calls Try.prog 7 #[.agg #[.int .i64 x, .int .i64 y, .int .i64 z], .agg #[.int .i64 p, .int .i64 q, .int .i64 r]] w fun e w' => e = .returned (.bool true) ∧ Below w.heap.size w w' := by
  refine Calls.mono (R := fun e w' => e = .returned (.bool true) ∧ Kept (fun _ => False) w w') ?_ fun _ _ h => ⟨h.1, h.2.below⟩
  cases hr : rightB ⟨x, y, z⟩ with
  | false => exact par_early ⟨x, y, z⟩ ⟨p, q, r⟩ w hr
  | true => exact par_go ⟨x, y, z⟩ ⟨p, q, r⟩ ⟨in_of_wf f0.1, in_of_wf f0.2.1, in_of_wf f0.2.2⟩ ⟨in_of_wf f1.1, in_of_wf f1.2.1, in_of_wf f1.2.2⟩ w hr
end Go.Proofs.Ytdcbaobipogmnaa
