/- The laws of attributes, walked: parameters applied, parted, flags. -/
import Derived.Test.YtdcbaobipogmnaaKnown
namespace Go.Proofs.Ytdcbaobipogmnaa
open Go.RowKit Pl Go.Sort
set_option linter.unusedVariables false
set_option linter.unusedSimpArgs false
theorem in_of_wf {n : Int} (h : (Lit.int .i64 n).wf = true) : In n := by
  simp [Lit.wf, IntKind.min, IntKind.max, IntKind.signed, IntKind.bits] at h
  unfold In; omega
theorem argOf {w : World} {ad : Option Addr} {len cap : Nat} {zs : List Int} (h : IsRow .i64 w ad len cap zs) : Arg w.heap.size w ad len cap (zs.take len) := by
  obtain ⟨s1, h2, h3, h4, h5, -⟩ := h.slAt
  exact ⟨s1, h2, h3, h5, fun n hn => in_of_wf (h4 n hn)⟩
theorem QA {a : Look} {ad : Option Addr} {len cap : Nat} {l : List Int} {V : World} (h : Arg V.heap.size V ad len cap l) (ha : a.In) (X : Look) (hX : apply a l = X) : ∀ V', Kept (fun _ => False) V V' → Calls Try.prog 9 #[.agg #[.int .i64 a.fg, .int .i64 a.bg, .int .i64 a.fl], .slice ad len cap] V' fun e w' => e = .returned (.agg #[.int .i64 X.fg, .int .i64 X.bg, .int .i64 X.fl]) ∧ Kept (fun _ => False) V' w' := by
  intro V' hk
  rw [← hX]; exact apply_any (h.up hk) ha
theorem QR {a : Look} {ad : Option Addr} {len cap : Nat} {l : List Int} {V : World} (h : Arg V.heap.size V ad len cap l) (ha : a.In) (X : Look) (hX : apply a l = X) : ∀ V', Kept (fun _ => False) V V' → Calls Try.prog 10 #[.agg #[.int .i64 a.fg, .int .i64 a.bg, .int .i64 a.fl], .slice ad len cap] V' fun e w' => e = .returned (.agg #[.int .i64 X.fg, .int .i64 X.bg, .int .i64 X.fl]) ∧ Kept (fun _ => False) V' w' := by
  intro V' hk
  rw [← hX]; exact rapply_any (h.up hk) ha
theorem QB (a : Look) (r : Bool) (hr : rightB a = r) (V : World) : ∀ V', Kept (fun _ => False) V V' → Calls Try.prog 11 #[.agg #[.int .i64 a.fg, .int .i64 a.bg, .int .i64 a.fl]] V' fun e w' => e = .returned (.bool r) ∧ Kept (fun _ => False) V' w' := by
  intro V' hk
  rw [← hr]; exact right_any a V'
theorem QC (a : Look) (r : Bool) (hr : rightB a = r) (V : World) : ∀ V', Kept (fun _ => False) V V' → Calls Try.prog 12 #[.agg #[.int .i64 a.fg, .int .i64 a.bg, .int .i64 a.fl]] V' fun e w' => e = .returned (.bool r) ∧ Kept (fun _ => False) V' w' := by
  intro V' hk
  rw [← hr]; exact rright_any a V'
set_option maxRecDepth 100000 in
set_option maxHeartbeats 2000000 in
theorem applies_early (a : Look) (ad : Option Addr) (len cap : Nat) (w : World) (h : 200 < len) (hm : len ≤ 9223372036854775807) :
    Calls Try.prog 3 #[.agg #[.int .i64 a.fg, .int .i64 a.bg, .int .i64 a.fl], .slice ad len cap] w fun e w' => e = .returned (.bool true) ∧ Kept (fun _ => False) w w' := by
  have g1 : decide ((200 : Int) < len) = true := decide_eq_true (by omega)
  go_enter Try.func3, Try.ntmps3
  go_wp2_with fail
  refine (known_any _).mono ?_; rintro e w1 ⟨rfl, hk⟩
  have k1 := ((Kept.refl (fun _ => False) w).alloc _).then hk
  clear hk
  go_wp2
  go_ret
  exact ⟨rfl, k1⟩
set_option maxRecDepth 100000 in
set_option maxHeartbeats 4000000 in
theorem applies_go (a : Look) (ha : a.In) (ad : Option Addr) (len cap : Nat) (l : List Int) (w : World) (h : Arg w.heap.size w ad len cap l) (hl : len ≤ 200) (hlaw : rightB a = true → rightB (apply a l) = true) :
    Calls Try.prog 3 #[.agg #[.int .i64 a.fg, .int .i64 a.bg, .int .i64 a.fl], .slice ad len cap] w fun e w' => e = .returned (.bool true) ∧ Kept (fun _ => False) w w' := by
  have g1 : decide ((200 : Int) < len) = false := decide_eq_false (by omega)
  have HA := Lib.hid h
  clear h
  go_enter Try.func3, Try.ntmps3
  go_wp2_with fail
  refine (known_any _).mono ?_; rintro e V ⟨rfl, hk⟩
  have b0 := hk.blk (blk_new w _) id
  have k1 := ((Kept.refl (fun _ => False) w).alloc _).then hk
  obtain ⟨⟨c0, f0⟩, ⟨c1, f1⟩, c2, f2⟩ := blk3 b0
  have hV : Arg V.heap.size V ad len cap l := HA.out.up k1
  clear hk b0 f0 f1 f2
  go_wp2
  obtain ⟨X, hX⟩ : ∃ X, apply a l = X := ⟨_, rfl⟩
  have D9 := Lib.hid (QA hV ha X hX)
  have D10 := Lib.hid (QR hV ha X hX)
  have d0 := cell_regrown c0
  have d1 := cell_regrown c1
  have d2 := cell_regrown c2
  have q1 := run_eqLook X X
  have q3 := @run_eqGuard_agg Try.prog
  rw [hX] at hlaw
  have HK := Lib.hid k1
  clear c0 c1 c2 k1
  cases hr : rightB a with
  | false =>
    have D12 := Lib.hid (QC a false hr V)
    have D11 := Lib.hid (QB a false hr V)
    clear hlaw hX hV hr ha
    refine wp_region_quiet_below (by kernel_rfl) (by kernel_rfl) ?_
    repeat (quiet_step (first | with_reducible exact quietC D9.out | with_reducible exact quietC D10.out | with_reducible exact quietC D11.out | with_reducible exact quietC D12.out))
    refine wpQuiet_nil ?_
    rintro _ ⟨⟨dd, os⟩, rfl⟩
    go_wp2
    go_ret
    exact ⟨rfl, HK.out.then (kept_of_regrown dd os)⟩
  | true =>
    have hr2 := hlaw hr
    have D12 := Lib.hid (QC a true hr V)
    have D11 := Lib.hid (QB a true hr V)
    have D13 := Lib.hid (QB X true hr2 V)
    clear hlaw hX hV hr ha hr2
    refine wp_region_quiet_below (by kernel_rfl) (by kernel_rfl) ?_
    repeat (quiet_step (first | with_reducible exact quietC D9.out | with_reducible exact quietC D10.out | with_reducible exact quietC D11.out | with_reducible exact quietC D12.out | with_reducible exact quietC D13.out))
    refine wpQuiet_nil ?_
    rintro _ ⟨⟨dd, os⟩, rfl⟩
    go_wp2
    go_ret
    exact ⟨rfl, HK.out.then (kept_of_regrown dd os)⟩
theorem Pl.colB_iff (c : Int) : colB c = true ↔ (c = 0 ∨ (16777216 ≤ c ∧ c < 16777472) ∨ (33554432 ≤ c ∧ c < 50331648)) := by unfold colB; exact decide_eq_true_iff
theorem Pl.rightB_iff (a : Look) : rightB a = true ↔ colB a.fg = true ∧ colB a.bg = true ∧ 0 ≤ a.fl ∧ a.fl ≤ 255 := by
  unfold rightB; simp [Bool.and_eq_true]
theorem Pl.or_small {x f : Int} (hx : 0 ≤ x ∧ x ≤ 255) (hf : 0 ≤ f ∧ f ≤ 255) : 0 ≤ orI x f ∧ orI x f ≤ 255 := by
  obtain ⟨a, rfl⟩ := Int.eq_ofNat_of_zero_le hx.1
  obtain ⟨b, rfl⟩ := Int.eq_ofNat_of_zero_le hf.1
  unfold orI
  rw [i64_or_nat a b (by omega) (by omega)]
  have : a ||| b < 2 ^ 8 := Nat.or_lt_two_pow (by omega) (by omega)
  omega
theorem Pl.sub_small {x f : Int} (hx : 0 ≤ x ∧ x ≤ 255) : 0 ≤ subI x f ∧ subI x f ≤ 255 := by
  obtain ⟨a, rfl⟩ := Int.eq_ofNat_of_zero_le hx.1
  have h := sub_bv (a : Int) f
  have hlt : (BitVec.ofInt 64 (a : Int) &&& ~~~ BitVec.ofInt 64 f).toNat ≤ 255 := by
    rw [BitVec.toNat_and, BitVec.ofInt_natCast, BitVec.toNat_ofNat, Nat.mod_eq_of_lt (show a < 2 ^ 64 by omega)]
    have : a &&& (~~~ BitVec.ofInt 64 f).toNat ≤ a := Nat.and_le_left
    omega
  have hin := sub_in (a : Int) f
  have h2 := congrArg BitVec.toNat h
  rw [BitVec.toNat_ofInt] at h2
  unfold In at hin
  omega
theorem Pl.flagN_le (n : Int) : 0 ≤ flagN n ∧ flagN n ≤ 255 := by unfold flagN; (repeat (first | split | omega))
theorem Pl.one_right {a : Look} (h : rightB a = true) (n : Int) : rightB (one a n) = true := by
  rw [Pl.rightB_iff] at h ⊢
  obtain ⟨h1, h2, h3⟩ := h
  unfold one
  split
  · exact ⟨by decide, by decide, by simp⟩
  split
  · exact ⟨h1, h2, Pl.or_small h3 (Pl.flagN_le _)⟩
  split
  · exact ⟨h1, h2, Pl.sub_small (Pl.sub_small h3)⟩
  split
  · exact ⟨h1, h2, Pl.sub_small h3⟩
  split
  · exact ⟨h1, (Pl.colB_iff _).2 (by simp only; omega), h3⟩
  split
  · exact ⟨(Pl.colB_iff _).2 (by simp only; omega), h2, h3⟩
  split
  · exact ⟨h1, (Pl.colB_iff _).2 (by simp only; omega), h3⟩
  split
  · exact ⟨(Pl.colB_iff _).2 (by simp only; omega), h2, h3⟩
  split
  · exact ⟨(show colB 0 = true by decide), h2, h3⟩
  split
  · exact ⟨h1, (show colB 0 = true by decide), h3⟩
  exact ⟨h1, h2, h3⟩
theorem Pl.far_right {c : Int} (h : colB c = true) (l : List Int) : colB (far c l).1 = true := by
  unfold far
  split
  · simp only; split
    · rename_i hb; unfold byteB at hb; have := of_decide_eq_true hb; exact (Pl.colB_iff _).2 (by omega)
    · exact h
  · simp only; split
    · rename_i hb; obtain ⟨x, y, z⟩ := hb; unfold byteB at x y z; have := of_decide_eq_true x; have := of_decide_eq_true y; have := of_decide_eq_true z; exact (Pl.colB_iff _).2 (by omega)
    · exact h
  · exact h
theorem Pl.stp_right {a : Look} (h : rightB a = true) (n : Int) (l : List Int) : rightB (stp a n l).1 = true := by
  unfold stp
  split
  · rw [Pl.rightB_iff] at h ⊢; exact ⟨Pl.far_right h.1 _, h.2.1, h.2.2⟩
  · split
    · rw [Pl.rightB_iff] at h ⊢; exact ⟨h.1, Pl.far_right h.2.1 _, h.2.2⟩
    · exact Pl.one_right h n
theorem Pl.ap_right : ∀ (n : Nat) (l : List Int), l.length ≤ n → ∀ a : Look, rightB a = true → rightB (ap a l) = true := by
  intro n
  induction n with
  | zero =>
    intro l hl a ha
    have : l = [] := List.eq_nil_of_length_eq_zero (by omega)
    subst this; rw [ap_nil]; exact ha
  | succ n ih =>
    intro l hl a ha
    match l with
    | [] => rw [ap_nil]; exact ha
    | x :: l =>
      rw [ap_cons]
      exact ih _ (by have := stp_le a x l; simp at hl; omega) _ (Pl.stp_right ha x l)
theorem Pl.apply_right {a : Look} (h : rightB a = true) (l : List Int) : rightB (apply a l) = true := by
  unfold apply
  split
  · decide
  · exact Pl.ap_right l.length l (Nat.le_refl _) a h
theorem law_applies {x y z : Int} {ad : Option Addr} {len cap : Nat} {zs : List Int} {w : World} (f0 : (Lit.int .i64 x).wf = true ∧ (Lit.int .i64 y).wf = true ∧ (Lit.int .i64 z).wf = true) (f1 : IsRow .i64 w ad len cap zs) :
    Calls Try.prog 3 #[.agg #[.int .i64 x, .int .i64 y, .int .i64 z], .slice ad len cap] w fun e w' => e = .returned (.bool true) ∧ Below w.heap.size w w' := by
  refine Calls.mono (R := fun e w' => e = .returned (.bool true) ∧ Kept (fun _ => False) w w') ?_ fun _ _ h => ⟨h.1, h.2.below⟩
  have hA := argOf f1
  by_cases h : len ≤ 200
  · exact applies_go ⟨x, y, z⟩ ⟨in_of_wf f0.1, in_of_wf f0.2.1, in_of_wf f0.2.2⟩ ad len cap _ w hA h (fun hr => Pl.apply_right hr _)
  · exact applies_early ⟨x, y, z⟩ ad len cap w (by omega) (by have := hA.2.1; have := hA.2.2.1; omega)
end Go.Proofs.Ytdcbaobipogmnaa
