/- PixelOver: the walk of the law. -/
import Derived.Test.YtgejefhnoloebaaScales
import Derived.Deep.RegionHeld3
namespace Go.Proofs.Ytgejefhnoloebaa
open Go.RowKit
set_option linter.unusedVariables false
theorem blk4 {w : World} {b : Nat} {x y z u : Value} {t : TypeId} (h : w.heap[b]? = some (.cells #[x, y, z, u] t (0, 0))) :
    (w.cell? ⟨b, 0, none⟩ = some x ∧ w.frozen? ⟨b, 0, none⟩ = false) ∧ (w.cell? ⟨b, 1, none⟩ = some y ∧ w.frozen? ⟨b, 1, none⟩ = false) ∧ (w.cell? ⟨b, 2, none⟩ = some z ∧ w.frozen? ⟨b, 2, none⟩ = false) ∧ (w.cell? ⟨b, 3, none⟩ = some u ∧ w.frozen? ⟨b, 3, none⟩ = false) :=
  ⟨⟨blk_cell h 0, blk_free h 0⟩, ⟨blk_cell h 1, blk_free h 1⟩, ⟨blk_cell h 2, blk_free h 2⟩, blk_cell h 3, blk_free h 3⟩
theorem ov_255 (d s : Int) : ov d s 255 = s := by unfold ov; omega
theorem ov_0 (d s : Int) : ov d s 0 = d := by unfold ov; omega
theorem ov_mid {d s a : Int} (hd : 0 ≤ d ∧ d ≤ 255) (hs : 0 ≤ s ∧ s ≤ 255) (ha : 0 ≤ a ∧ a ≤ 255) : (d ≤ s → d ≤ ov d s a ∧ ov d s a ≤ s) ∧ (s ≤ d → s ≤ ov d s a ∧ ov d s a ≤ d) := by
  have e1 : s * a + d * (255 - a) = 255 * d + (s - d) * a := by rw [Int.mul_sub, Int.sub_mul]; omega
  unfold ov
  constructor
  · intro h
    have h1 : 0 ≤ (s - d) * a := Int.mul_nonneg (by omega) ha.1
    have h2 : (s - d) * a ≤ (s - d) * 255 := Int.mul_le_mul_of_nonneg_left ha.2 (by omega)
    omega
  · intro h
    have e2 : (s - d) * a = -((d - s) * a) := by rw [Int.sub_mul, Int.sub_mul]; omega
    have h1 : 0 ≤ (d - s) * a := Int.mul_nonneg (by omega) ha.1
    have h2 : (d - s) * a ≤ (d - s) * 255 := Int.mul_le_mul_of_nonneg_left ha.2 (by omega)
    omega
set_option maxRecDepth 100000 in
set_option maxHeartbeats 2000000 in
theorem over_go (d0 d1 d2 d3 s0 s1 s2 s3 : Int) (w : World) (hd0 : 0 ≤ d0 ∧ d0 ≤ 255) (hd1 : 0 ≤ d1 ∧ d1 ≤ 255) (hd2 : 0 ≤ d2 ∧ d2 ≤ 255) (hs0 : 0 ≤ s0 ∧ s0 ≤ 255) (hs1 : 0 ≤ s1 ∧ s1 ≤ 255) (hs2 : 0 ≤ s2 ∧ s2 ≤ 255) (hs3 : 0 ≤ s3 ∧ s3 ≤ 255) :
    Calls Try.prog 3 #[col d0 d1 d2 d3, col s0 s1 s2 s3] w fun e w' => e = .returned (.bool true) ∧ Kept (fun _ => False) w w' := by
  unfold col
  go_enter Try.func3, Try.ntmps3
  go_wp2_with fail
  refine (known_any _).mono ?_; rintro e w1 ⟨rfl, hk⟩
  have hD := hk.blk (blk_alloc (blk_new w (.cells #[.int .u8 d0, .int .u8 d1, .int .u8 d2, .int .u8 d3] 23)) (.cells #[.int .u8 s0, .int .u8 s1, .int .u8 s2, .int .u8 s3] 23)) id
  have hS := hk.blk (blk_at (w.alloc (.cells #[.int .u8 d0, .int .u8 d1, .int .u8 d2, .int .u8 d3] 23)) (.cells #[.int .u8 s0, .int .u8 s1, .int .u8 s2, .int .u8 s3] 23) (b := w.heap.size + 1) (by simp)) id
  have hz := hk.size
  simp only [World.size_alloc] at hz
  have hkw : Kept (fun _ => False) w w1 := (((Kept.refl _ _).alloc _).alloc _).then hk
  obtain ⟨⟨a0, a0'⟩, ⟨a1, a1'⟩, ⟨a2, a2'⟩, a3, a3'⟩ := blk4 hD
  obtain ⟨⟨b0, b0'⟩, ⟨b1, b1'⟩, ⟨b2, b2'⟩, b3, b3'⟩ := blk4 hS
  have HD := Lib.hid hD
  have HS := Lib.hid hS
  clear hD hS hk
  have m0 := (ov_mid hd0 hs0 hs3)
  have m1 := (ov_mid hd1 hs1 hs3)
  have m2 := (ov_mid hd2 hs2 hs3)
  go_wp2_with fail
  refine (over_any d0 d1 d2 d3 s0 s1 s2 s3 _ hd0 hd1 hd2 hs0 hs1 hs2 hs3).mono ?_
  obtain ⟨o0, ho0⟩ : ∃ o, o = ov d0 s0 s3 := ⟨_, rfl⟩
  obtain ⟨o1, ho1⟩ : ∃ o, o = ov d1 s1 s3 := ⟨_, rfl⟩
  obtain ⟨o2, ho2⟩ : ∃ o, o = ov d2 s2 s3 := ⟨_, rfl⟩
  rw [← ho0] at m0
  rw [← ho1] at m1
  rw [← ho2] at m2
  have hR' := refOver_any d0 d1 d2 d3 s0 s1 s2 s3
  unfold col at hR'
  have hR := Lib.hid hR'
  clear hR'
  rw [← ho0, ← ho1, ← ho2] at hR ⊢
  have HO0 := Lib.hid ho0
  have HO1 := Lib.hid ho1
  have HO2 := Lib.hid ho2
  clear ho0 ho1 ho2 a0 a0' a1 a1' a2 a2' a3 a3' b0 b0' b1 b1' b2 b2' b3 b3'
  unfold col
  rintro e w2 ⟨rfl, hk2⟩
  have hz2 := hk2.size
  have HD2 := blk_alloc (hk2.blk HD.out id) (.cells #[.int .u8 o0, .int .u8 o1, .int .u8 o2, .int .u8 255] 23)
  have HS2 := blk_alloc (hk2.blk HS.out id) (.cells #[.int .u8 o0, .int .u8 o1, .int .u8 o2, .int .u8 255] 23)
  have HC2 := blk_new w2 (.cells #[.int .u8 o0, .int .u8 o1, .int .u8 o2, .int .u8 255] 23)
  have hkw2 : Kept (fun _ => False) w (w2.alloc (.cells #[.int .u8 o0, .int .u8 o1, .int .u8 o2, .int .u8 255] 23)) := (hkw.then hk2).alloc _
  obtain ⟨⟨a0, -⟩, ⟨a1, -⟩, ⟨a2, -⟩, a3, -⟩ := blk4 HD2
  obtain ⟨⟨b0, -⟩, ⟨b1, -⟩, ⟨b2, -⟩, b3, -⟩ := blk4 HS2
  obtain ⟨⟨c0, -⟩, ⟨c1, -⟩, ⟨c2, -⟩, c3, -⟩ := blk4 HC2
  have HKW := Lib.hid hkw2
  clear HD2 HS2 HC2 hkw2 hk2
  have M0 := Lib.hid (And.intro m0 (And.intro hd0 hs0))
  have M1 := Lib.hid (And.intro m1 (And.intro hd1 hs1))
  have M2 := Lib.hid (And.intro m2 (And.intro hd2 hs2))
  have M3 := Lib.hid hs3
  clear m0 m1 m2
  have hq1 := run_neCol 22 Try.underlying22
  have hq2 := @run_eqGuard_agg Try.prog
  go_wp2_with fail
  have hkw3 := HKW.out
  clear hkw HD HS hz hz2
  generalize w2.alloc (.cells #[.int .u8 o0, .int .u8 o1, .int .u8 o2, .int .u8 255] 23) = w3 at *
  generalize w2.heap.size = P5 at *
  generalize hPD : w.heap.size = PD at *
  clear hPD
  go_region_held3 (fun w' => w'.cell? ⟨PD, 0, none⟩ = some (.int .u8 d0) ∧ w'.cell? ⟨PD, 1, none⟩ = some (.int .u8 d1) ∧ w'.cell? ⟨PD, 2, none⟩ = some (.int .u8 d2) ∧ w'.cell? ⟨PD, 3, none⟩ = some (.int .u8 d3) ∧
      w'.cell? ⟨PD + 1, 0, none⟩ = some (.int .u8 s0) ∧ w'.cell? ⟨PD + 1, 1, none⟩ = some (.int .u8 s1) ∧ w'.cell? ⟨PD + 1, 2, none⟩ = some (.int .u8 s2) ∧ w'.cell? ⟨PD + 1, 3, none⟩ = some (.int .u8 s3) ∧
      w'.cell? ⟨P5, 0, none⟩ = some (.int .u8 o0) ∧ w'.cell? ⟨P5, 1, none⟩ = some (.int .u8 o1) ∧ w'.cell? ⟨P5, 2, none⟩ = some (.int .u8 o2) ∧ w'.cell? ⟨P5, 3, none⟩ = some (.int .u8 255) ∧ Kept (fun _ => False) w w')
    (first
      | ((go_keep; done))
      | (go_split_ands
         refine ⟨?_, ?_, ?_, ?_, ?_, ?_, ?_, ?_, ?_, ?_, ?_, ?_, ?_⟩ <;> first | exact hk4.cell (by assumption) id | exact Kept.then (by assumption) hk4)
      | ((try go_split_ands)
         refine ⟨?_, ?_, ?_, ?_, ?_, ?_, ?_, ?_, ?_, ?_, ?_, ?_, ?_⟩ <;> first | exact hkw3.drew | exact Kept.drew (by assumption) | assumption | go_simp))
    ((go_at_call 12; refine (hR.out _ hd0 hd1 hd2 hs0 hs1 hs2 hs3).mono ?_; rintro e w4 ⟨rfl, hk4⟩))
  go_split_ands
  have hkw4 : Kept (fun _ => False) w w4 := by assumption
  have hkw4 := Lib.hid hkw4
  go_wp2_with fail
  go_loopw [6] (fun i wr => ∃ k n : Nat, k ≤ 3 ∧ i = .int .i64 k ∧ wr = w4.drewN n) (fun i _ => 3 - (intOf i).toNat)
  case atStart => exact ⟨0, 0, by omega, rfl, (World.drewN_zero _).symm⟩
  case round =>
    obtain ⟨k, n, hk, rfl, rfl⟩ := hrel
    by_cases hk3 : k < 3
    · obtain ⟨d, s, o, x1, x2, x3, x4, hd, hs, ho⟩ : ∃ d s o : Int, w4.cell? ⟨PD, k, none⟩ = some (.int .u8 d) ∧ w4.cell? ⟨PD + 1, k, none⟩ = some (.int .u8 s) ∧ w4.cell? ⟨P5, k, none⟩ = some (.int .u8 o) ∧
          ((d ≤ s → d ≤ o ∧ o ≤ s) ∧ (s ≤ d → s ≤ o ∧ o ≤ d)) ∧ (0 ≤ d ∧ d ≤ 255) ∧ (0 ≤ s ∧ s ≤ 255) ∧ o = ov d s s3 := by
        rcases (show k = 0 ∨ k = 1 ∨ k = 2 by omega) with rfl | rfl | rfl
        · exact ⟨d0, s0, o0, by assumption, by assumption, by assumption, M0.out.1, M0.out.2.1, M0.out.2.2, HO0.out⟩
        · exact ⟨d1, s1, o1, by assumption, by assumption, by assumption, M1.out.1, M1.out.2.1, M1.out.2.2, HO1.out⟩
        · exact ⟨d2, s2, o2, by assumption, by assumption, by assumption, M2.out.1, M2.out.2.1, M2.out.2.2, HO2.out⟩
      have x5 : w4.cell? ⟨PD + 1, 3, none⟩ = some (.int .u8 s3) := by assumption
      have HO := Lib.hid ho
      have hs3 := M3.out
      clear M0 M1 M2 M3 HO0 HO1 HO2 hR HKW hkw3 a0 a1 a2 a3 b0 b1 b2 b3 c0 c1 c2 c3 hq1 hq2 ho
      rcases (show s3 = 255 ∨ s3 = 0 ∨ (s3 ≠ 255 ∧ s3 ≠ 0) by omega) with h3 | h3 | ⟨h3, h3'⟩
      · obtain rfl : o = s := HO.out.trans (by rw [h3]; exact ov_255 _ _)
        subst h3
        by_cases hds : o < d
        · have g3 : decide (d < o) = false := by simp; omega
          have g4 : decide (o < d) = true := by simpa using hds
          clear x4
          go_wp2
          go_quiet (fail)
          go_wp2
          go_roundw
          case rel => exact ⟨k + 1, _, by omega, by go_num, rfl⟩
          case measure => simp [intOf]; omega
        · have g3 : decide (o < d) = false := by simpa using hds
          clear x4
          go_wp2
          go_quiet (fail)
          go_wp2
          go_roundw
          case rel => exact ⟨k + 1, _, by omega, by go_num, rfl⟩
          case measure => simp [intOf]; omega
      · obtain rfl : o = d := HO.out.trans (by rw [h3]; exact ov_0 _ _)
        subst h3
        by_cases hds : s < o
        · have g3 : decide (o < s) = false := by simp; omega
          have g4 : decide (s < o) = true := by simpa using hds
          clear x4
          go_wp2
          go_quiet (fail)
          go_wp2
          go_roundw
          case rel => exact ⟨k + 1, _, by omega, by go_num, rfl⟩
          case measure => simp [intOf]; omega
        · have g3 : decide (s < o) = false := by simpa using hds
          clear x4
          go_wp2
          go_quiet (fail)
          go_wp2
          go_roundw
          case rel => exact ⟨k + 1, _, by omega, by go_num, rfl⟩
          case measure => simp [intOf]; omega
      · have e1 : (s3 == 255) = false := by simpa using h3
        have e2 : (s3 == 0) = false := by simpa using h3'
        by_cases hds : s < d
        · have g3 : decide (o < s) = false := by simp; omega
          have g4 : decide (d < o) = false := by simp; omega
          clear x4 h3 h3'
          go_wp2
          go_quiet (fail)
          go_wp2
          go_roundw
          case rel => exact ⟨k + 1, _, by omega, by go_num, rfl⟩
          case measure => simp [intOf]; omega
        · have g3 : decide (o < d) = false := by simp; omega
          have g4 : decide (s < o) = false := by simp; omega
          clear x4 h3 h3'
          go_wp2
          go_quiet (fail)
          go_wp2
          go_roundw
          case rel => exact ⟨k + 1, _, by omega, by go_num, rfl⟩
          case measure => simp [intOf]; omega
    · obtain rfl : k = 3 := by omega
      go_wp2
      go_ret
      exact ⟨rfl, hkw4.out.drewN _⟩
end Go.Proofs.Ytgejefhnoloebaa
namespace Go.Proofs.Ytgejefhnoloebaa
theorem over_law {c00 c01 c02 c03 c10 c11 c12 c13 : Int} {w : World} (f0 : (Lit.int .u8 c00).wf = true ∧ (Lit.int .u8 c01).wf = true ∧ (Lit.int .u8 c02).wf = true ∧ (Lit.int .u8 c03).wf = true)
    (f1 : (Lit.int .u8 c10).wf = true ∧ (Lit.int .u8 c11).wf = true ∧ (Lit.int .u8 c12).wf = true ∧ (Lit.int .u8 c13).wf = true) :
    Calls Try.prog 3 #[.agg #[.int .u8 c00, .int .u8 c01, .int .u8 c02, .int .u8 c03], .agg #[.int .u8 c10, .int .u8 c11, .int .u8 c12, .int .u8 c13]] w fun e w' => e = .returned (.bool true) ∧ Go.RowKit.Below w.heap.size w w' :=
  (over_go c00 c01 c02 c03 c10 c11 c12 c13 w (byte_of_wf f0.1) (byte_of_wf f0.2.1) (byte_of_wf f0.2.2.1) (byte_of_wf f1.1) (byte_of_wf f1.2.1) (byte_of_wf f1.2.2.1) (byte_of_wf f1.2.2.2)).mono fun _ _ h => ⟨h.1, h.2.below⟩
end Go.Proofs.Ytgejefhnoloebaa
