/- An image of dots: the law SixelImages. -/
import Derived.Test.YtomcjdonacckfaaSixels
import Derived.Test.YtomcjdonacckfaaWf
import Derived.Test.YtomcjdonacckfaaOpen
namespace Go.Proofs.Ytomcjdonacckfaa
open Go.RowKit
set_option linter.unusedVariables false
set_option linter.unusedSimpArgs false
attribute [local go_sem] growOp growUpon sameUpon
theorem part5q (i : Nat) (x0 x1 x2 x3 : Value) (w : World) (hi : i < 4) : (part 5 #[x0, x1, x2, x3] i).run Try.prog w = .ok (#[x0, x1, x2, x3].getD i undef) w := by
  rcases i with _ | _ | _ | _ | i <;> first | omega | kernel_rfl
theorem eqIn4 (d t : Nat) (ht : Try.prog.underlying t = some (.array 4 5)) (a0 a1 a2 a3 b0 b1 b2 b3 : Int) (w : World) : (Op.equalIn (d + 3) t (.agg #[.int .u8 a0, .int .u8 a1, .int .u8 a2, .int .u8 a3]) (.agg #[.int .u8 b0, .int .u8 b1, .int .u8 b2, .int .u8 b3])).run Try.prog w = .ok (a0 == b0 && (a1 == b1 && (a2 == b2 && a3 == b3))) w := by
  have h5 : ∀ (n : Nat) (a b : Int) (w : World), (Op.equalIn (n + 1) 5 (.int .u8 a) (.int .u8 b)).run Try.prog w = .ok (a == b) w := fun n a b w => run_equalIn_int w n 5 .u8 .u8 a b Try.underlying5
  unfold Op.equalIn
  have hp := part5q
  cases h0 : (a0 == b0) <;> cases h1 : (a1 == b1) <;> cases h2 : (a2 == b2) <;> cases h3 : (a3 == b3) <;>
  simp [run_underlying ht, List.range', hp, h5, h0, h1, h2, h3]
/-- Two colours held against one another. -/
theorem run_eqCol (t : Nat) (ht : Try.prog.underlying t = some (.array 4 5)) (a0 a1 a2 a3 b0 b1 b2 b3 : Int) (w : World) : (binOp .eql t (.agg #[.int .u8 a0, .int .u8 a1, .int .u8 a2, .int .u8 a3]) (.agg #[.int .u8 b0, .int .u8 b1, .int .u8 b2, .int .u8 b3])).run Try.prog w = .ok (.bool (a0 == b0 && (a1 == b1 && (a2 == b2 && a3 == b3)))) w := by
  rw [run_eql_struct, eqIn4 9997 t ht]; rfl
theorem run_neCol (t : Nat) (ht : Try.prog.underlying t = some (.array 4 5)) (a0 a1 a2 a3 b0 b1 b2 b3 : Int) (w : World) : (binOp .neq t (.agg #[.int .u8 a0, .int .u8 a1, .int .u8 a2, .int .u8 a3]) (.agg #[.int .u8 b0, .int .u8 b1, .int .u8 b2, .int .u8 b3])).run Try.prog w = .ok (.bool (!(a0 == b0 && (a1 == b1 && (a2 == b2 && a3 == b3))))) w := by
  rw [run_neq_struct, eqIn4 9997 t ht]; rfl
theorem blk4q {w : World} {b : Nat} {x y z u : Value} {t : TypeId} (h : w.heap[b]? = some (.cells #[x, y, z, u] t (0, 0))) :
    (w.cell? ⟨b, 0, none⟩ = some x ∧ w.frozen? ⟨b, 0, none⟩ = false) ∧ (w.cell? ⟨b, 1, none⟩ = some y ∧ w.frozen? ⟨b, 1, none⟩ = false) ∧ (w.cell? ⟨b, 2, none⟩ = some z ∧ w.frozen? ⟨b, 2, none⟩ = false) ∧ (w.cell? ⟨b, 3, none⟩ = some u ∧ w.frozen? ⟨b, 3, none⟩ = false) :=
  ⟨⟨blk_cell h 0, blk_free h 0⟩, ⟨blk_cell h 1, blk_free h 1⟩, ⟨blk_cell h 2, blk_free h 2⟩, blk_cell h 3, blk_free h 3⟩
theorem store4 {w : World} {q : Nat} {t : TypeId} {x0 x1 x2 x3 : Value} (h : w.heap[q]? = some (.cells #[x0, x1, x2, x3] t (0, 0))) (y0 y1 y2 y3 : Value) :
    ∃ V1 V2 V3 V4, w.setCell ⟨q, 0, none⟩ y0 = V1 ∧ V1.setCell ⟨q, 1, none⟩ y1 = V2 ∧ V2.setCell ⟨q, 2, none⟩ y2 = V3 ∧ V3.setCell ⟨q, 3, none⟩ y3 = V4 ∧
      (w.cell? ⟨q, 0, none⟩ = some x0 ∧ w.frozen? ⟨q, 0, none⟩ = false) ∧ (V1.cell? ⟨q, 1, none⟩ = some x1 ∧ V1.frozen? ⟨q, 1, none⟩ = false) ∧ (V2.cell? ⟨q, 2, none⟩ = some x2 ∧ V2.frozen? ⟨q, 2, none⟩ = false) ∧ (V3.cell? ⟨q, 3, none⟩ = some x3 ∧ V3.frozen? ⟨q, 3, none⟩ = false) ∧
      V4.heap[q]? = some (.cells #[y0, y1, y2, y3] t (0, 0)) ∧ Kept (fun i => i = q) w V4 := by
  have h1 := blk_set h 0 y0
  have h2 := blk_set h1 1 y1
  have h3 := blk_set h2 2 y2
  have h4 := blk_set h3 3 y3
  exact ⟨_, _, _, _, rfl, rfl, rfl, rfl, (blk4q h).1, (blk4q h1).2.1, (blk4q h2).2.2.1, (blk4q h3).2.2.2, h4, ((((Kept.refl (fun i => i = q) w).setCell (p := ⟨q, 0, none⟩) (.inl rfl) _).setCell (p := ⟨q, 1, none⟩) (.inl rfl) _).setCell (p := ⟨q, 2, none⟩) (.inl rfl) _).setCell (p := ⟨q, 3, none⟩) (.inl rfl) _⟩
theorem rowT_256 (on : Nat → Bool) (w h b x : Nat) : ∀ c ∈ rowT on w h b x, c < 256 := by
  induction x with
  | zero => intro c hc; cases hc
  | succ x ih =>
    intro c hc
    rw [rowT] at hc
    rcases List.mem_append.1 hc with h1 | h1
    · exact ih c h1
    · have h2 : c = 63 + vAt on w h (6 * b) x 6 := by simpa using h1
      have h3 := vAt_lt on w h (6 * b) x 6
      have h4 : vAt on w h (6 * b) x 6 < 64 := h3
      omega
theorem bandT_256 (on : Nat → Bool) (w h b : Nat) : ∀ c ∈ bandT on w h b, c < 256 := by
  induction b with
  | zero => intro c hc; cases hc
  | succ b ih =>
    intro c hc
    rw [bandT] at hc
    rcases List.mem_append.1 hc with h1 | h1
    · rcases List.mem_append.1 h1 with h2 | h2
      · exact ih c h2
      · exact rowT_256 on w h b w c h2
    · have h2 : c = 45 := by simpa using h1
      omega
/-- The value of dot i's j-th byte. -/
theorem dot_at (on : Nat → Bool) (R : Int) (n i j : Nat) (hj : j < 4) (hi : 4 * i + j < n) : (tab n (fun k => if on (k / 4) = true then ([R, 0, 0, 255] : List Int).getD (k % 4) 0 else 0)).getD (4 * i + j) 0 = if on i = true then ([R, 0, 0, 255] : List Int).getD j 0 else 0 := by
  rw [tab_get hi, show (4 * i + j) / 4 = i by omega, show (4 * i + j) % 4 = j by omega]
set_option maxRecDepth 100000 in
set_option maxHeartbeats 32000000 in
theorem images_go (wi hi ri : Int) (a0 : Option Addr) (len cap : Nat) (B : Nat → Bool) (W : World) (fw : -9223372036854775808 ≤ wi ∧ wi ≤ 9223372036854775807) (fh : -9223372036854775808 ≤ hi ∧ hi ≤ 9223372036854775807) (fr : -9223372036854775808 ≤ ri ∧ ri ≤ 9223372036854775807) (hb : BoolsAt W a0 len B) (hlm : len ≤ 9223372036854775807) :
    Calls Try.prog 5 #[.int .i64 wi, .int .i64 hi, .slice a0 len cap, .int .i64 ri] W fun e w' => e = .returned (.bool true) ∧ Below W.heap.size W w' := by
  go_enter Try.func5, Try.ntmps5
  go_wp2_with fail
  refine (known_any W).mono ?_
  rintro e w1 ⟨rfl, hk1⟩
  have HK1 := Lib.hid hk1
  clear hk1
  by_cases c1 : wi < 1
  · have g1 : decide (wi < 1) = true := decide_eq_true c1
    go_wp2
    refine bodyPost_ret (v := .bool true) (by simp [results, Try.results5, go_sem]) rfl ⟨rfl, HK1.out.below⟩
  have g1 : decide (wi < 1) = false := decide_eq_false c1
  by_cases c2 : hi < 1
  · have g2 : decide (hi < 1) = true := decide_eq_true c2
    go_wp2
    refine bodyPost_ret (v := .bool true) (by simp [results, Try.results5, go_sem]) rfl ⟨rfl, HK1.out.below⟩
  have g2 : decide (hi < 1) = false := decide_eq_false c2
  by_cases c3 : 40 < wi
  · have g3 : decide (40 < wi) = true := decide_eq_true c3
    go_wp2
    refine bodyPost_ret (v := .bool true) (by simp [results, Try.results5, go_sem]) rfl ⟨rfl, HK1.out.below⟩
  have g3 : decide (40 < wi) = false := decide_eq_false c3
  by_cases c4 : 40 < hi
  · have g4 : decide (40 < hi) = true := decide_eq_true c4
    go_wp2
    refine bodyPost_ret (v := .bool true) (by simp [results, Try.results5, go_sem]) rfl ⟨rfl, HK1.out.below⟩
  have g4 : decide (40 < hi) = false := decide_eq_false c4
  by_cases c5 : 2000 < len
  · have g5 : decide ((2000 : Int) < (len : Int)) = true := decide_eq_true (by omega)
    have g5' : decide (2000 < len) = true := decide_eq_true c5
    go_wp2
    refine bodyPost_ret (v := .bool true) (by simp [results, Try.results5, go_sem]) rfl ⟨rfl, HK1.out.below⟩
  have g5 : decide ((2000 : Int) < (len : Int)) = false := decide_eq_false (by omega)
  have g5' : decide (2000 < len) = false := decide_eq_false c5
  by_cases c6 : ri < 1
  · have g6 : decide (ri < 1) = true := decide_eq_true c6
    go_wp2
    refine bodyPost_ret (v := .bool true) (by simp [results, Try.results5, go_sem]) rfl ⟨rfl, HK1.out.below⟩
  have g6 : decide (ri < 1) = false := decide_eq_false c6
  by_cases c7 : 100 < ri
  · have g7 : decide (100 < ri) = true := decide_eq_true c7
    go_wp2
    refine bodyPost_ret (v := .bool true) (by simp [results, Try.results5, go_sem]) rfl ⟨rfl, HK1.out.below⟩
  have g7 : decide (100 < ri) = false := decide_eq_false c7
  obtain ⟨w, rfl⟩ := Int.eq_ofNat_of_zero_le (show 0 ≤ wi by omega)
  obtain ⟨h, rfl⟩ := Int.eq_ofNat_of_zero_le (show 0 ≤ hi by omega)
  obtain ⟨r, rfl⟩ := Int.eq_ofNat_of_zero_le (show 0 ≤ ri by omega)
  have HN := Lib.hid (show (1 ≤ w ∧ w ≤ 40) ∧ (1 ≤ h ∧ h ≤ 40) ∧ (1 ≤ r ∧ r ≤ 100) ∧ len ≤ 2000 by omega)
  obtain ⟨M, hM⟩ : ∃ M, 4 * w * h = M := ⟨_, rfl⟩
  have hMb : M ≤ 6400 := by
    rw [← hM]
    have : 4 * w * h ≤ 160 * 40 := Nat.mul_le_mul (by omega) (by omega)
    omega
  have m1 : IntKind.i64.wrap (4 * (w : Int)) = 4 * (w : Int) := IntWalk.i64_in _ (by omega)
  have m2 : 4 * (w : Int) * (h : Int) = (M : Int) := by rw [← hM]; simp
  have m3 : IntKind.i64.wrap (M : Int) = (M : Int) := IntWalk.i64_in _ (by omega)
  have HM := Lib.hid hM
  have HB := Lib.hid hb
  have hMb2 : M ≤ 1073741824 := by omega
  clear c1 c2 c3 c4 c5 c6 c7 fw fh fr hM hb hlm
  go_wp2_with fail
  refine (new_any true M w1 hMb2).mono ?_
  rintro e w2 ⟨rfl, hd2, hk2⟩
  obtain ⟨a, ha⟩ : ∃ a, w1.heap.size = a := ⟨_, rfl⟩
  rw [ha] at hd2 ⊢
  have HD2 := Lib.hid (And.intro hd2 (And.intro (hd2.lt a rfl) (And.intro ha (HK1.out.then hk2))))
  have HKA := Lib.hid (show W.heap.size ≤ a from by rw [← ha]; exact HK1.out.size)
  clear hd2 hk2 ha
  have HC1 := Lib.hid (decimal_any w (by have := HN.out; omega))
  have HC2 := Lib.hid (decimal_any h (by have := HN.out; omega))
  obtain ⟨D1, hD1⟩ : ∃ D, nstr (digs w) = D := ⟨_, rfl⟩
  obtain ⟨D2, hD2⟩ : ∃ D, nstr (digs h) = D := ⟨_, rfl⟩
  rw [hD1] at HC1
  rw [hD2] at HC2
  have l1 := digs_len w (by have := HN.out; omega)
  have l2 := digs_len h (by have := HN.out; omega)
  have l3 := digs_len r (by have := HN.out; omega)
  obtain ⟨S1, hS1⟩ : ∃ S, ({ data := #[34, 49, 59, 49, 59] } : ByteArray) ++ D1 = S := ⟨_, rfl⟩
  obtain ⟨S2, hS2⟩ : ∃ S, S1 ++ ({ data := #[59] } : ByteArray) = S := ⟨_, rfl⟩
  obtain ⟨S3, hS3⟩ : ∃ S, S2 ++ D2 = S := ⟨_, rfl⟩
  have t1 : S1 = nstr ([34, 49, 59, 49, 59] ++ digs w) := by rw [← hS1, ← hD1]; exact nstr_append [34, 49, 59, 49, 59] _
  have t2 : S2 = nstr ([34, 49, 59, 49, 59] ++ digs w ++ [59]) := by rw [← hS2, t1]; exact nstr_append _ [59]
  have t3 : S3 = nstr ([34, 49, 59, 49, 59] ++ digs w ++ [59] ++ digs h) := by rw [← hS3, t2, ← hD2]; exact nstr_append _ _
  have z1 : ¬ (9223372036854775807 : Int) < 5 + (D1.size : Int) := by rw [← hD1, nstr_size]; omega
  have z2 : ¬ (9223372036854775807 : Int) < (S1.size : Int) + 1 := by rw [t1, nstr_size]; simp; omega
  have z3 : ¬ (9223372036854775807 : Int) < (S2.size : Int) + (D2.size : Int) := by rw [t2, ← hD2, nstr_size, nstr_size]; simp; omega
  have q1 : ((ByteArray.mk #[34, 49, 59, 49, 59]).size : Int) = 5 := rfl
  have q2 : ((ByteArray.mk #[59]).size : Int) = 1 := rfl
  obtain ⟨X, hX⟩ : ∃ X, sizeSigns 1 1 w h = X := ⟨_, rfl⟩
  have hX2 : [34, 49, 59, 49, 59] ++ digs w ++ [59] ++ digs h = X := by rw [← hX]; unfold sizeSigns; rw [digs_lt (show 1 < 10 by omega)]; simp
  rw [hX2] at t3
  have hX3 : ∀ c ∈ X, c < 256 := by
    rw [← hX2]
    intro c hc
    simp only [List.mem_append, List.mem_cons, List.not_mem_nil, or_false] at hc
    rcases hc with ((h | h) | h) | h
    all_goals first | exact digs_256 _ c h | omega
  have hX4 : X.length ≤ 20 := by rw [← hX2]; simp; omega
  have HT := Lib.hid (And.intro t3 (And.intro hX3 (And.intro hX4 (And.intro hX l3))))
  obtain ⟨i0, hi0, hz0, hz1, hz2⟩ := info_parts Try.infoByte
  have HI := Lib.hid (And.intro hi0 (And.intro hz0 (And.intro hz1 hz2)))
  clear hi0 hz0 hz1 hz2 t1 t2 t3 l1 l2 l3 hX hX2 hX3 hX4 hD1 hD2
  go_wp2_with fail
  refine (HC1.out _).mono ?_
  rintro e w3 ⟨rfl, hk3⟩
  have HK3 := Lib.hid hk3
  clear hk3
  go_wp2_with fail
  refine (HC2.out _).mono ?_
  rintro e w4 ⟨rfl, hk4⟩
  obtain ⟨w5, cap5, hcv, ho5, hk5, hz5⟩ := bytes_convX w4 X HT.out.2.1 S3 HT.out.1 (by have := HT.out.2.2.1; omega)
  have hk25 := (HK3.out.then hk4).then hk5
  have HK5 := Lib.hid (And.intro hk25 (And.intro ho5 (show w2.heap.size ≤ w4.heap.size from (HK3.out.then hk4).size)))
  have HSX := Lib.hid (sixels_any w h r a0 len cap B w5 HN.out.1 HN.out.2.1 HN.out.2.2.1.2 HN.out.2.2.2 (HB.out.kept (S := fun _ => False) (HD2.out.2.2.2.then hk25)))
  clear hk4 ho5 hk5 hz5 hk25
  obtain ⟨NX, hNX⟩ : ∃ n, X.length = n := ⟨_, rfl⟩
  rw [hNX] at hcv HK5
  have HNX := Lib.hid hNX
  clear hNX
  go_wp2_with fail
  refine HSX.out.mono ?_
  rintro e w6 ⟨s6, n6, cc6, b, hb1, hb2, rfl, hs6, -, -, hn6, hk6, hs6b⟩
  obtain ⟨Y, hY⟩ : ∃ Y, [35, 49, 59, 50, 59] ++ digs r ++ [59, 48, 59, 48] ++ bandT (onF len B) w h b = Y := ⟨_, rfl⟩
  rw [hY] at hs6
  have hYl : Y.length = n6 := by have := hs6.1; simpa [ints] using this
  have hY0 : 0 < n6 := by rw [← hYl, ← hY]; simp
  have hYb : n6 ≤ 400 := by
    rw [← hYl, ← hY]
    have h8 : b * (w + 1) ≤ 7 * 41 := Nat.mul_le_mul (by have := HN.out; omega) (by have := HN.out; omega)
    have := HT.out.2.2.2.2
    simp [bandT_len]
    omega
  have hY256 : ∀ c ∈ Y, c < 256 := by
    rw [← hY]
    intro c hc
    simp only [List.mem_append, List.mem_cons, List.not_mem_nil, or_false] at hc
    rcases hc with ((h | h) | h) | h
    · omega
    · exact digs_256 _ c h
    · omega
    · exact bandT_256 _ _ _ _ c h
  obtain ⟨sb, so, rfl, hsc⟩ := hs6.2.resolve_left (by omega)
  have hnews : ∀ j u, (bvals Y)[j]? = some u → w6.cell? ((⟨sb, so, none⟩ : Addr).add j) = some u := by
    intro j u hu
    have hj : j < n6 := by rw [← hYl, ← bvals_len]; exact (List.getElem?_eq_some_iff.1 hu).1
    have hadd : (⟨sb, so, none⟩ : Addr).add j = ⟨sb, so + j, none⟩ := by unfold Addr.add; split <;> simp_all
    rw [hadd, hsc j hj, bvals_at hu]
  have hone : ∀ u ∈ bvals Y, u.oneCell' = true := by
    intro u hu
    obtain ⟨q, -, rfl⟩ := List.mem_map.1 hu
    rfl
  have hbl : (bvals Y).length = n6 := by rw [bvals_len]; exact hYl
  have ho6 : OwnX 5 w6 (.slice (some ⟨w4.heap.size, 0, none⟩) NX cap5) (bvals X) := HK5.out.2.1.kept hk6 (fun _ _ => id)
  have HY := Lib.hid (And.intro hY (And.intro hYl (And.intro hY0 (And.intro hYb (And.intro hY256 (And.intro hb1 (And.intro hb2 (HK5.out.1.then hk6))))))))
  have hxl : (bvals X).length = NX := by rw [bvals_len]; exact HNX.out
  have hNXb : NX ≤ 20 := by rw [← HNX.out]; exact HT.out.2.2.1
  have HXL := Lib.hid (And.intro hxl hNXb)
  clear hY hYl hY256 hs6 hsc hn6 hk6 hs6b hb1 hb2 hxl hNXb
  go_wp2_with (first
    | (at_builtin; refine wpList_appX rfl (.tmp 69) (.tmp 74) 30 rfl 5 i0 (.int .u8 0) 1 Try.underlying30 HI.out.1 HI.out.2.1 HI.out.2.2.1 HI.out.2.2.2 rfl (.slice (some ⟨w4.heap.size, 0, none⟩) NX cap5) (bvals X) rfl ho6 ⟨sb, so, none⟩ n6 cc6 (bvals Y) rfl hbl hnews hone (by rw [HXL.out.1]; have := HXL.out.2; simp [maxLen]; omega) (by rw [HXL.out.1]; have := HXL.out.2; omega) ?_; intro v7 w7 ho7 hk7 hpr7))
  rw [← bvals_append] at ho7
  obtain ⟨sv, sc, rfl, hs7, -, -, -, hs7b⟩ := ho7.slAt
  obtain ⟨Z, hZ⟩ : ∃ Z, X ++ Y = Z := ⟨_, rfl⟩
  rw [hZ] at hs7 hs7b ⊢
  have hk27 : Kept (fun _ => False) w2 w7 := HY.out.2.2.2.2.2.2.2.trans (hk7.mono fun i _ hi => Or.inr (by cases hi; exact HK5.out.2.2))
  have hvb : ∀ q off, sv = some ⟨q, off, none⟩ → w2.heap.size ≤ q ∧ q < w7.heap.size := by
    intro q off h
    have h1 := hs7b q off h
    refine ⟨?_, by have h9 := ho7.lt q (by rw [hZ]; exact h1); exact h9⟩
    rw [hZ] at hpr7
    exact own_prov (e := 5) (w' := w7) hpr7 HY.out.2.2.2.2.2.2.2.size (fun b hb => by cases hb; exact HK5.out.2.2) q h1
  have hZ256 : ∀ c ∈ Z, c < 256 := by
    rw [← hZ]
    intro c hc
    rcases List.mem_append.1 hc with h | h
    · exact HT.out.2.1 c h
    · exact HY.out.2.2.2.2.1 c h
  have hZl : Z.length ≤ 65536 := by rw [← hZ, List.length_append, HY.out.2.1]; have := HT.out.2.2.1; have := HY.out.2.2.2.1; omega
  have hone7 : One a w2.heap.size w7 a (Dec.new true M 256) := ⟨fun i => i = a, HD2.out.1.kept hk27 (fun _ _ => id), fun i hi => by have := HD2.out.2.1; omega⟩
  have HW := Lib.hid (hone7.write (new_ok true M (by omega)) sv Z.length sc Z hs7 hZ256 hZl (by have := HD2.out.2.1; have := hk27.size; omega) (fun q off _ h => ⟨(hvb q off h).2, .inr (hvb q off h).1⟩))
  have hZe : Z = imgSigns (onF len B) w h r b := by
    rw [← hZ, ← HY.out.1, ← HT.out.2.2.2.1]
    unfold imgSigns
    rw [digs_lt (show 1 < 10 by omega), digs_lt (show 2 < 10 by omega), digs_lt (show 0 < 10 by omega)]
    simp
  obtain ⟨d, hd⟩ : ∃ d, (Dec.new true M 256).feed Z = d := ⟨_, rfl⟩
  have hif := img_feed (onF len B) w h r b HN.out.1 HN.out.2.1 HN.out.2.2.1 HY.out.2.2.2.2.2.1 HY.out.2.2.2.2.2.2.1 (d := d) (by rw [HM.out, ← hZe]; exact hd)
  rw [hd, hif.1] at HW
  rw [HM.out] at hif
  obtain ⟨R, hR⟩ : ∃ R, pct r = R := ⟨_, rfl⟩
  rw [hR] at hif
  have hRr : R = ((r : Int) * 255 + 50) / 100 := by rw [← hR]; unfold pct; rw [if_pos (by have := HN.out; omega)]
  obtain ⟨PP, hPP⟩ : ∃ P, d.fin.p = P := ⟨_, rfl⟩
  have HIF := Lib.hid (And.intro hif (And.intro hRr hPP))
  have HK7 := Lib.hid (HD2.out.2.2.2.then hk27)
  obtain ⟨NZ, hNZ⟩ : ∃ n, Z.length = n := ⟨_, rfl⟩
  rw [hNZ] at HW ⊢
  clear ho7 hk7 hpr7 hs7 hs7b hk27 hvb hZ256 hZl hone7 hZ hZe hd hif hR hRr hPP hNZ ho6 hnews hone hbl hY0 hYb
  go_wp2_with fail
  refine HW.out.mono ?_
  rintro e w8 ⟨rfl, hone, hok, hk8⟩
  have HK8 := Lib.hid (HK7.out.trans (hk8.mono fun i _ hi => Or.inr (Nat.le_trans HKA.out hi.1)))
  have hlt8 : a ≤ w8.heap.size := by
    obtain ⟨G, hG, hG2⟩ := hone; obtain ⟨pv, nv, hb, -⟩ := hG; exact Nat.le_of_lt hb.lt
  have HF := Lib.hid (hone.fin hok hlt8)
  rw [HIF.out.1.2.1, HIF.out.1.2.2.1, HIF.out.1.2.2.2.1, HIF.out.2.2] at HF
  clear hone hok hk8 hlt8
  go_wp2_with fail
  refine HF.out.mono ?_
  rintro e w9 ⟨s, k, cp, rfl, hs, -, -, -, -, hk9, -⟩
  have hPl : PP.length = M := by rw [← HIF.out.2.2, HIF.out.1.2.2.2.2]; exact tab_length _ _
  obtain rfl : k = M := by have := hs.1; omega
  obtain ⟨WL, hWL⟩ : ∃ WL, w9.alloc (.cells #[.int .i64 (w : Int), .int .i64 (h : Int), .slice s k cp] 38) = WL := ⟨_, rfl⟩
  obtain ⟨Q, hQ⟩ : ∃ Q, w9.heap.size = Q := ⟨_, rfl⟩
  have hkL : Kept (fun _ => False) w9 WL := by rw [← hWL]; exact (Kept.refl _ _).alloc _
  have hbQ : WL.heap[Q]? = some (.cells #[.int .i64 (w : Int), .int .i64 (h : Int), .slice s k cp] 38 (0, 0)) := by rw [← hWL]; exact blk_at w9 _ hQ.symm
  obtain ⟨⟨u0, -⟩, ⟨u1, -⟩, u2, -⟩ := blk3 hbQ
  have HL := Lib.hid (And.intro (hs.kept hkL (fun _ _ _ _ => id)) (And.intro hbQ ((HK8.out.trans (hk9.mono fun i _ hi => Or.inr (Nat.le_trans HKA.out hi.1))).then hkL)))
  have n1 : IntKind.i64.wrap ((r : Int) * 255) = (r : Int) * 255 := IntWalk.i64_in _ (by have := HN.out; omega)
  have n2 : IntKind.i64.wrap ((r : Int) * 255 + 50) = (r : Int) * 255 + 50 := IntWalk.i64_in _ (by have := HN.out; omega)
  have n3 : ((r : Int) * 255 + 50).tdiv 100 = R := by rw [HIF.out.2.1, Int.tdiv_eq_ediv_of_nonneg (by omega)]
  have n3' : ((r : Int) * 255 + 50) / 100 = R := HIF.out.2.1.symm
  have hRb : 0 ≤ R ∧ R < 256 := by rw [HIF.out.2.1]; have := HN.out; omega
  have n4 : IntKind.u8.wrap R = R := IntWalk.u8_in _ (by omega)
  have n5 : IntKind.i64.wrap R = R := IntWalk.i64_in _ (by omega)
  clear hs hk9 hPl hkL hbQ
  obtain ⟨A, hA⟩ : ∃ A, w * h = A := ⟨_, rfl⟩
  have hkA : k = 4 * A := by rw [← HM.out, ← hA, Nat.mul_assoc]
  have a1 : (w : Int) * (h : Int) = (A : Int) := by rw [← hA]; simp
  have a2 : IntKind.i64.wrap (A : Int) = (A : Int) := IntWalk.i64_in _ (by omega)
  have hHA : k ≤ 4 * A ∧ 4 * A ≤ k := by omega
  have ht45 : Try.prog.underlying 45 = some (.array 4 5) := by kernel_rfl
  have e1 : ∀ w, (binOp .neq 45 (.agg #[.int .u8 R, .int .u8 0, .int .u8 0, .int .u8 255]) (.agg #[.int .u8 R, .int .u8 0, .int .u8 0, .int .u8 255])).run Try.prog w = .ok (.bool false) w := fun w => by rw [run_neCol 45 ht45]; simp
  have e2 : ∀ w, (binOp .neq 45 (.agg #[.int .u8 0, .int .u8 0, .int .u8 0, .int .u8 0]) (.agg #[.int .u8 0, .int .u8 0, .int .u8 0, .int .u8 0])).run Try.prog w = .ok (.bool false) w := fun w => by rw [run_neCol 45 ht45]; simp
  clear hkA hA ht45
  go_wp2
  clear n1 n2 n3 n3' n4 n5 u0 u1 u2
  go_loopg [15, 16, 17] A (fun gg iv _ _ wr => ∃ i : Nat, A ≤ gg + i ∧ i ≤ A ∧ iv = .int .i64 (i : Int) ∧ Kept (fun _ => False) WL wr)
  case atStart => exact ⟨0, by omega, by omega, rfl, Kept.refl _ _⟩
  case round =>
    obtain ⟨i, hgg, hiA, rfl, hkw⟩ := hrel
    have HKW := Lib.hid hkw
    clear hkw
    by_cases hi : i < A
    · have g0 : decide (i < A) = true := decide_eq_true hi
      have g0' : decide ((i : Int) < (A : Int)) = true := decide_eq_true (by omega)
      obtain ⟨b, off, rfl, hc⟩ := HL.out.1.2.resolve_left (by omega)
      obtain ⟨WR, hWR⟩ : ∃ WR, WR = wr.drew := ⟨_, rfl⟩
      have hkR : Kept (fun _ => False) WL WR := by rw [hWR]; exact HKW.out.drew
      obtain ⟨-, -, y0, -⟩ := blk3 (hkR.blk HL.out.2.1 id)
      have hval := fun j (hj : j < 4) => by
        have h9 := hkR.cell (hc (4 * i + j) (by omega)) id
        rw [← HIF.out.2.2, HIF.out.1.2.2.2.2, dot_at (onF len B) R _ i j hj (by omega)] at h9
        exact h9
      have y1 := hval 0 (by omega)
      have y2 := hval 1 (by omega)
      have y3 := hval 2 (by omega)
      have y4 := hval 3 (by omega)
      clear hval hc
      have w1 : IntKind.i64.wrap (4 * (i : Int)) = 4 * (i : Int) := IntWalk.i64_in _ (by omega)
      have w2 : IntKind.i64.wrap (4 * (i : Int) + 1) = 4 * (i : Int) + 1 := IntWalk.i64_in _ (by omega)
      have w3 : IntKind.i64.wrap (4 * (i : Int) + 2) = 4 * (i : Int) + 2 := IntWalk.i64_in _ (by omega)
      have w4 : IntKind.i64.wrap (4 * (i : Int) + 3) = 4 * (i : Int) + 3 := IntWalk.i64_in _ (by omega)
      have w5 : IntKind.i64.wrap ((i : Int) + 1) = (i : Int) + 1 := IntWalk.i64_in _ (by omega)
      have t1 : (4 * (i : Int)).toNat = 4 * i := by omega
      have t2 : (4 * (i : Int) + 1).toNat = 4 * i + 1 := by omega
      have t3 : (4 * (i : Int) + 2).toNat = 4 * i + 2 := by omega
      have t4 : (4 * (i : Int) + 3).toNat = 4 * i + 3 := by omega
      have b1 : 4 * (i : Int) < (k : Int) := by omega
      have b2 : 4 * (i : Int) + 1 < (k : Int) := by omega
      have b3 : 4 * (i : Int) + 2 < (k : Int) := by omega
      have b4 : 4 * (i : Int) + 3 < (k : Int) := by omega
      have c1 : 0 ≤ 4 * (i : Int) := by omega
      have c2 : 0 ≤ 4 * (i : Int) + 1 := by omega
      have c3 : 0 ≤ 4 * (i : Int) + 2 := by omega
      have c4 : 0 ≤ 4 * (i : Int) + 3 := by omega
      rw [Nat.add_zero] at y1
      obtain ⟨RA, hRA⟩ : ∃ R : Value → World → Prop, R = fun v w' => ∃ q, v = .pointer (some ⟨q, 0, none⟩) ∧ WR.heap.size ≤ q ∧ w'.heap[q]? = some (.cells #[.int .u8 0, .int .u8 0, .int .u8 0, .int .u8 0] 45 (0, 0)) := ⟨_, rfl⟩
      have HRA := Lib.hid hRA
      have HWR := Lib.hid hWR
      have HKR := Lib.hid (And.intro hkR (HB.out.kept (S := fun _ => False) (HL.out.2.2.then hkR)))
      clear hRA hWR hkR
      by_cases hil : i < len
      · have gl : decide (i < len) = true := decide_eq_true hil
        cases hBi : B i with
        | true =>
          have hon : onF len B i = true := by unfold onF; rw [gl, hBi]; rfl
          rw [hon, if_pos rfl] at y1 y2 y3 y4
          rw [show ([R, 0, 0, 255] : List Int).getD 0 0 = R from rfl] at y1
          rw [show ([R, 0, 0, 255] : List Int).getD 1 0 = 0 from rfl] at y2
          rw [show ([R, 0, 0, 255] : List Int).getD 2 0 = 0 from rfl] at y3
          rw [show ([R, 0, 0, 255] : List Int).getD 3 0 = 255 from rfl] at y4
          clear hon
          have X0 := cell_regrown y0
          have X1 := cell_regrown y1
          have X2 := cell_regrown y2
          have X3 := cell_regrown y3
          have X4 := cell_regrown y4
          go_wp2
          refine wp_region_grow #[0, 1, 0, 4, 15, 31, 0, 64, 0, 256, 768, 1984, 4032, 0, 8192, 0, 32768, 98304, 253952, 516096, 0, 1048576, 0, 4194304, 12582912, 32505856, 66060288, 134217727, 0, 536870911] 29 [] (fun i => if i = 28 then some RA else none) (by kernel_rfl) rfl (by kernel_rfl) (fun i hi => by cases hi) (fun _ _ _ _ _ h => h) ?_
          rintro _ rfl
          rw [← HWR.out]
          simp only [List.take_succ_cons, List.take_zero, List.drop_succ_cons, List.drop_zero, number, Nat.reduceAdd]
          repeat (refine wpGrow_step (fun K hK => ?_); go_simp; refine hK _ _ ?_; clear hK K)
          refine wpGrow_step (fun K hK => ?_)
          go_simp
          refine ⟨fun w' hg => ⟨(Kept.refl _ _).alloc _, by rw [HRA.out]; exact ⟨_, rfl, hg.old.size, blk_new _ _⟩⟩, fun v9 wa hv9 _ => ?_⟩
          rw [HRA.out] at hv9
          obtain ⟨q, rfl, hqW, hqb⟩ := hv9
          refine hK _ _ ?_; clear hK K
          refine wpGrow_nil ?_
          intro w9 hk9 hω
          have hq9 : w9.heap[q]? = _ := Kept.blk (show Kept _ wa w9 from hω 28) hqb id
          obtain ⟨U1, U2, U3, U4, f1, f2, f3, f4, ⟨s1, s1'⟩, ⟨s2, s2'⟩, ⟨s3, s3'⟩, ⟨s4, s4'⟩, hcU, hkU⟩ := store4 hq9 (.int .u8 R) (.int .u8 0) (.int .u8 0) (.int .u8 255)
          obtain ⟨⟨z0, -⟩, ⟨z1, -⟩, ⟨z2, -⟩, z3, -⟩ := blk4q hcU
          have hkWU : Kept (fun _ => False) WL U4 := (HKR.out.1.then hk9).trans (hkU.mono fun j _ (hj : j = q) => Or.inr (by have := HKR.out.1.size; omega))
          obtain ⟨bo, oo, rfl, hcB⟩ := HB.out.1.resolve_left (by omega)
          have hcI : U4.cell? ⟨bo, oo + i, none⟩ = some (.bool true) := by have h9 := (HL.out.2.2.then hkWU).cell (hcB i hil) id; rw [hBi] at h9; exact h9
          clear hcB
          have HKU := Lib.hid hkWU
          clear hω hq9 hqb hcU hkU hkWU y0 y1 y2 y3 y4 X0 X1 X2 X3 X4
          go_wp2
          go_roundg (gk - 1)
          case rel => exact ⟨i + 1, by omega, by omega, by simp, HKU.out⟩
          case measure => omega
        | false =>
          have hon : onF len B i = false := by unfold onF; rw [gl, hBi]; rfl
          rw [hon, if_neg (by decide)] at y1 y2 y3 y4
          clear hon
          have X0 := cell_regrown y0
          have X1 := cell_regrown y1
          have X2 := cell_regrown y2
          have X3 := cell_regrown y3
          have X4 := cell_regrown y4
          go_wp2
          refine wp_region_grow #[0, 1, 0, 4, 15, 31, 0, 64, 0, 256, 768, 1984, 4032, 0, 8192, 0, 32768, 98304, 253952, 516096, 0, 1048576, 0, 4194304, 12582912, 32505856, 66060288, 134217727, 0, 536870911] 29 [] (fun i => if i = 28 then some RA else none) (by kernel_rfl) rfl (by kernel_rfl) (fun i hi => by cases hi) (fun _ _ _ _ _ h => h) ?_
          rintro _ rfl
          rw [← HWR.out]
          simp only [List.take_succ_cons, List.take_zero, List.drop_succ_cons, List.drop_zero, number, Nat.reduceAdd]
          repeat (refine wpGrow_step (fun K hK => ?_); go_simp; refine hK _ _ ?_; clear hK K)
          refine wpGrow_step (fun K hK => ?_)
          go_simp
          refine ⟨fun w' hg => ⟨(Kept.refl _ _).alloc _, by rw [HRA.out]; exact ⟨_, rfl, hg.old.size, blk_new _ _⟩⟩, fun v9 wa hv9 _ => ?_⟩
          rw [HRA.out] at hv9
          obtain ⟨q, rfl, hqW, hqb⟩ := hv9
          refine hK _ _ ?_; clear hK K
          refine wpGrow_nil ?_
          intro w9 hk9 hω
          have hq9 : w9.heap[q]? = _ := Kept.blk (show Kept _ wa w9 from hω 28) hqb id
          obtain ⟨U1, U2, U3, U4, f1, f2, f3, f4, ⟨s1, s1'⟩, ⟨s2, s2'⟩, ⟨s3, s3'⟩, ⟨s4, s4'⟩, hcU, hkU⟩ := store4 hq9 (.int .u8 0) (.int .u8 0) (.int .u8 0) (.int .u8 0)
          obtain ⟨⟨z0, -⟩, ⟨z1, -⟩, ⟨z2, -⟩, z3, -⟩ := blk4q hcU
          have hkWU : Kept (fun _ => False) WL U4 := (HKR.out.1.then hk9).trans (hkU.mono fun j _ (hj : j = q) => Or.inr (by have := HKR.out.1.size; omega))
          obtain ⟨bo, oo, rfl, hcB⟩ := HB.out.1.resolve_left (by omega)
          have hcI : U4.cell? ⟨bo, oo + i, none⟩ = some (.bool false) := by have h9 := (HL.out.2.2.then hkWU).cell (hcB i hil) id; rw [hBi] at h9; exact h9
          clear hcB
          have HKU := Lib.hid hkWU
          clear hω hq9 hqb hcU hkU hkWU y0 y1 y2 y3 y4 X0 X1 X2 X3 X4
          go_wp2
          go_roundg (gk - 1)
          case rel => exact ⟨i + 1, by omega, by omega, by simp, HKU.out⟩
          case measure => omega
      · have gl : decide (i < len) = false := decide_eq_false hil
        have hon : onF len B i = false := by unfold onF; rw [gl]; rfl
        rw [hon, if_neg (by decide)] at y1 y2 y3 y4
        clear hon
        have X0 := cell_regrown y0
        have X1 := cell_regrown y1
        have X2 := cell_regrown y2
        have X3 := cell_regrown y3
        have X4 := cell_regrown y4
        go_wp2
        refine wp_region_grow #[0, 1, 0, 4, 15, 31, 0, 64, 0, 256, 768, 1984, 4032, 0, 8192, 0, 32768, 98304, 253952, 516096, 0, 1048576, 0, 4194304, 12582912, 32505856, 66060288, 134217727, 0, 536870911] 29 [] (fun i => if i = 28 then some RA else none) (by kernel_rfl) rfl (by kernel_rfl) (fun i hi => by cases hi) (fun _ _ _ _ _ h => h) ?_
        rintro _ rfl
        rw [← HWR.out]
        simp only [List.take_succ_cons, List.take_zero, List.drop_succ_cons, List.drop_zero, number, Nat.reduceAdd]
        repeat (refine wpGrow_step (fun K hK => ?_); go_simp; refine hK _ _ ?_; clear hK K)
        refine wpGrow_step (fun K hK => ?_)
        go_simp
        refine ⟨fun w' hg => ⟨(Kept.refl _ _).alloc _, by rw [HRA.out]; exact ⟨_, rfl, hg.old.size, blk_new _ _⟩⟩, fun v9 wa hv9 _ => ?_⟩
        rw [HRA.out] at hv9
        obtain ⟨q, rfl, hqW, hqb⟩ := hv9
        refine hK _ _ ?_; clear hK K
        refine wpGrow_nil ?_
        intro w9 hk9 hω
        have hq9 : w9.heap[q]? = _ := Kept.blk (show Kept _ wa w9 from hω 28) hqb id
        obtain ⟨U1, U2, U3, U4, f1, f2, f3, f4, ⟨s1, s1'⟩, ⟨s2, s2'⟩, ⟨s3, s3'⟩, ⟨s4, s4'⟩, hcU, hkU⟩ := store4 hq9 (.int .u8 0) (.int .u8 0) (.int .u8 0) (.int .u8 0)
        obtain ⟨⟨z0, -⟩, ⟨z1, -⟩, ⟨z2, -⟩, z3, -⟩ := blk4q hcU
        have hkWU : Kept (fun _ => False) WL U4 := (HKR.out.1.then hk9).trans (hkU.mono fun j _ (hj : j = q) => Or.inr (by have := HKR.out.1.size; omega))
        have HKU := Lib.hid hkWU
        clear hω hq9 hqb hcU hkU hkWU y0 y1 y2 y3 y4 X0 X1 X2 X3 X4
        go_wp2
        go_roundg (gk - 1)
        case rel => exact ⟨i + 1, by omega, by omega, by simp, HKU.out⟩
        case measure => omega
    · obtain rfl : i = A := by omega
      have g0 : decide (i < i) = false := decide_eq_false (by omega)
      have g0' : decide ((i : Int) < (i : Int)) = false := decide_eq_false (by omega)
      go_wp2
      refine bodyPost_ret (v := .bool true) (by simp [results, Try.results5, go_sem]) rfl ⟨rfl, (HL.out.2.2.then HKW.out).below⟩
section
open Go.ChangeShapes Go.WideShapes Go.ChangeAt Go.Joins Go.Deep
variable {H : Type} {enc : TypeId × Value → H} {P : Program} {W : World} {r : Reach} {b0 : Nat} {t e : TypeId} {v : Value} {d : DataW H} {p : List MemPlace}
theorem o_bools (ht : P.underlying t = some (.slice e)) (he : P.underlying e = some .bool) (hC : P.cellsOf e = 1) (hv : Value.okWide P W r b0 t v) (h : DataW.Trod enc P W 0 (fun _ => true) true t v d p) :
    ∃ a len cap B, v = .slice a len cap ∧ BoolsAt W a len B := by
  obtain ⟨a0, len0, cap0, rfl⟩ := okWide_slice ht hv
  obtain ⟨fuel, hf⟩ := h
  rcases open_bools ht he hC hf with ⟨hcs, -⟩ | ⟨a, len, cap, B, hcs, -, hl, hm, -, hc⟩
  · simp [Value.cells] at hcs
    obtain ⟨rfl, rfl, rfl⟩ := hcs
    exact ⟨_, _, _, fun _ => false, rfl, .inl rfl, Nat.zero_le _⟩
  · simp [Value.cells] at hcs
    obtain ⟨rfl, rfl, rfl⟩ := hcs
    refine ⟨_, _, _, B, rfl, ?_, Nat.le_trans hl hm⟩
    rcases Nat.eq_zero_or_pos len0 with h0 | h0
    · exact .inl h0
    · have h1 := hc 0 (by omega)
      obtain ⟨b, off, spot⟩ := a
      have hs : spot = none := by simpa [Addr.add] using World.cell?_spot h1
      subst hs
      refine .inr ⟨b, off, rfl, fun j hj => ?_⟩
      have h2 := hc j (by omega)
      have e : (⟨b, off, none⟩ : Addr).add j = ⟨b, off + j, none⟩ := by unfold Addr.add; split <;> simp_all
      rw [← e]; exact h2
end
theorem law_images {wi hi ri : Int} {a0 : Option Addr} {len cap : Nat} {B : Nat → Bool} {W : World} (f0 : (Lit.int .i64 wi).wf = true) (f1 : (Lit.int .i64 hi).wf = true) (f2 : BoolsAt W a0 len B) (f3 : (Lit.int .i64 ri).wf = true) :
    Calls Try.prog 5 #[.int .i64 wi, .int .i64 hi, .slice a0 len cap, .int .i64 ri] W fun e w' => e = .returned (.bool true) ∧ Below W.heap.size W w' :=
  images_go wi hi ri a0 len cap B W (int_of_wf f0) (int_of_wf f1) (int_of_wf f3) f2 (by have := f2.2; simp only [maxLen] at this; omega)
end Go.Proofs.Ytomcjdonacckfaa
