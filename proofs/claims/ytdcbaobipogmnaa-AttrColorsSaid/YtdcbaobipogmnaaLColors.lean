/- The law of colours, walked. -/
import Derived.Test.YtdcbaobipogmnaaKnown
namespace Go.Proofs.Ytdcbaobipogmnaa
open Go.RowKit Pl Go.Sort
set_option linter.unusedVariables false
set_option linter.unusedSimpArgs false
set_option maxRecDepth 100000 in
set_option maxHeartbeats 4000000 in
theorem law_colors {x y z c n : Int} {w : World} (f0 : (Lit.int .i64 x).wf = true ∧ (Lit.int .i64 y).wf = true ∧ (Lit.int .i64 z).wf = true) (f1 : (Lit.int .i64 c).wf = true) (f2 : (Lit.int .i64 n).wf = true) :
    Calls Try.prog 4 #[.agg #[.int .i64 x, .int .i64 y, .int .i64 z], .int .i64 c, .int .i64 n] w fun e w' => e = .returned (.bool true) ∧ Below w.heap.size w w' := by
  refine Calls.mono (R := fun e w' => e = .returned (.bool true) ∧ Kept (fun _ => False) w w') ?_ fun _ _ h => ⟨h.1, h.2.below⟩
  clear f0 f1 f2
  obtain ⟨F, hF⟩ : ∃ F, (colors ⟨x, y, z⟩).1 = F := ⟨_, rfl⟩
  obtain ⟨B, hB⟩ : ∃ B, (colors ⟨x, y, z⟩).2 = B := ⟨_, rfl⟩
  obtain ⟨C, hC⟩ : ∃ C, colour c true = C := ⟨_, rfl⟩
  obtain ⟨D, hD⟩ : ∃ C, colour c false = C := ⟨_, rfl⟩
  obtain ⟨E, hE⟩ : ∃ C, basic n = C := ⟨_, rfl⟩
  have D13 := Lib.hid (fun w => show Calls Try.prog 13 #[.agg #[.int .i64 x, .int .i64 y, .int .i64 z]] w fun e w' => e = .returned (.tuple #[.agg #[.int .u8 F.r, .int .u8 F.g, .int .u8 F.b], .agg #[.int .u8 B.r, .int .u8 B.g, .int .u8 B.b]]) ∧ Kept (fun _ => False) w w' from by rw [← hF, ← hB]; exact cols_any ⟨x, y, z⟩ w)
  have D14 := Lib.hid (fun w => show Calls Try.prog 14 #[.agg #[.int .i64 x, .int .i64 y, .int .i64 z]] w fun e w' => e = .returned (.tuple #[.agg #[.int .u8 F.r, .int .u8 F.g, .int .u8 F.b], .agg #[.int .u8 B.r, .int .u8 B.g, .int .u8 B.b]]) ∧ Kept (fun _ => False) w w' from by rw [← hF, ← hB]; exact rcols_any ⟨x, y, z⟩ w)
  have D15 := Lib.hid (fun w => show Calls Try.prog 15 #[.int .i64 c, .bool true] w fun e w' => e = .returned (.agg #[.int .u8 C.r, .int .u8 C.g, .int .u8 C.b]) ∧ Kept (fun _ => False) w w' from by rw [← hC]; exact colr_any c true w)
  have D16 := Lib.hid (fun w => show Calls Try.prog 16 #[.int .i64 c, .bool true] w fun e w' => e = .returned (.agg #[.int .u8 C.r, .int .u8 C.g, .int .u8 C.b]) ∧ Kept (fun _ => False) w w' from by rw [← hC]; exact rcolr_any c true w)
  have D25 := Lib.hid (fun w => show Calls Try.prog 15 #[.int .i64 c, .bool false] w fun e w' => e = .returned (.agg #[.int .u8 D.r, .int .u8 D.g, .int .u8 D.b]) ∧ Kept (fun _ => False) w w' from by rw [← hD]; exact colr_any c false w)
  have D26 := Lib.hid (fun w => show Calls Try.prog 16 #[.int .i64 c, .bool false] w fun e w' => e = .returned (.agg #[.int .u8 D.r, .int .u8 D.g, .int .u8 D.b]) ∧ Kept (fun _ => False) w w' from by rw [← hD]; exact rcolr_any c false w)
  have D17 := Lib.hid (fun w => show Calls Try.prog 17 #[.int .i64 n] w fun e w' => e = .returned (.agg #[.int .u8 E.r, .int .u8 E.g, .int .u8 E.b]) ∧ Kept (fun _ => False) w w' from by rw [← hE]; exact basic_any n w)
  have D18 := Lib.hid (fun w => show Calls Try.prog 18 #[.int .i64 n] w fun e w' => e = .returned (.agg #[.int .u8 E.r, .int .u8 E.g, .int .u8 E.b]) ∧ Kept (fun _ => False) w w' from by rw [← hE]; exact rbasic_any n w)
  clear hF hB hC hD hE
  have q2 := run_eqRgb
  have q3 := @run_eqGuard_agg Try.prog
  go_enter Try.func4, Try.ntmps4
  go_wp2_with fail
  refine (known_any _).mono ?_; rintro e w1 ⟨rfl, hk⟩
  have b1 := hk.blk (blk_new w _) id
  have k1 := ((Kept.refl (fun _ => False) w).alloc _).then hk
  obtain ⟨⟨c0, f0⟩, ⟨c1, f1⟩, c2, f2⟩ := blk3 b1
  have HB1 := Lib.hid b1
  clear hk b1
  go_wp2_with fail
  refine (D13.out _).mono ?_; rintro e w2 ⟨rfl, hk2⟩
  have k2 := k1.then hk2
  obtain ⟨V, hV⟩ : ∃ V, (w2.alloc (.cells #[.int .u8 F.r, .int .u8 F.g, .int .u8 F.b] 29)).alloc (.cells #[.int .u8 B.r, .int .u8 B.g, .int .u8 B.b] 29) = V := ⟨_, rfl⟩
  have kV : Kept (fun _ => False) w2 V := by rw [← hV]; exact ((Kept.refl _ w2).alloc _).alloc _
  have bf : V.heap[w2.heap.size]? = some (.cells #[.int .u8 F.r, .int .u8 F.g, .int .u8 F.b] 29 (0, 0)) := by rw [← hV]; exact blk_alloc (blk_new _ _) _
  have bb : V.heap[w2.heap.size + 1]? = some (.cells #[.int .u8 B.r, .int .u8 B.g, .int .u8 B.b] 29 (0, 0)) := by rw [← hV]; exact blk_at _ _ (by simp)
  have b1 := (hk2.then kV).blk HB1.out id
  obtain ⟨⟨c0, f0⟩, ⟨c1, f1⟩, c2, f2⟩ := blk3 b1
  have k3 := k2.then kV
  have HBF := Lib.hid bf
  have HBB := Lib.hid bb
  clear hk2 bf bb b1 k1 k2 kV
  go_wp2_with fail
  refine (D14.out _).mono ?_; rintro e w3 ⟨rfl, hk3⟩
  have k4 := k3.then hk3
  obtain ⟨U, hU⟩ : ∃ V, (w3.alloc (.cells #[.int .u8 F.r, .int .u8 F.g, .int .u8 F.b] 29)).alloc (.cells #[.int .u8 B.r, .int .u8 B.g, .int .u8 B.b] 29) = V := ⟨_, rfl⟩
  have kU : Kept (fun _ => False) w3 U := by rw [← hU]; exact ((Kept.refl _ w3).alloc _).alloc _
  have bx : U.heap[w3.heap.size]? = some (.cells #[.int .u8 F.r, .int .u8 F.g, .int .u8 F.b] 29 (0, 0)) := by rw [← hU]; exact blk_alloc (blk_new _ _) _
  have by' : U.heap[w3.heap.size + 1]? = some (.cells #[.int .u8 B.r, .int .u8 B.g, .int .u8 B.b] 29 (0, 0)) := by rw [← hU]; exact blk_at _ _ (by simp)
  obtain ⟨⟨m0, -⟩, ⟨m1, -⟩, m2, -⟩ := blk3 ((hk3.then kU).blk HBF.out id)
  obtain ⟨⟨n0, -⟩, ⟨n1, -⟩, n2, -⟩ := blk3 ((hk3.then kU).blk HBB.out id)
  obtain ⟨⟨r0, -⟩, ⟨r1, -⟩, r2, -⟩ := blk3 bx
  obtain ⟨⟨s0, -⟩, ⟨s1, -⟩, s2, -⟩ := blk3 by'
  have k5 := k4.then kU
  clear hk3 bx by' k3 k4 kU
  go_wp2_with fail
  refine (D15.out _).mono ?_; rintro e v1 ⟨rfl, h1⟩
  have k6 := k5.then h1
  clear h1 k5
  go_wp2_with fail
  refine (D16.out _).mono ?_; rintro e v2 ⟨rfl, h1⟩
  have k7 := k6.then h1
  clear h1 k6
  go_wp2_with fail
  refine (D25.out _).mono ?_; rintro e v3 ⟨rfl, h1⟩
  have k8 := k7.then h1
  clear h1 k7
  go_wp2_with fail
  refine (D26.out _).mono ?_; rintro e v4 ⟨rfl, h1⟩
  have k9 := k8.then h1
  clear h1 k8
  go_wp2_with fail
  refine (D17.out _).mono ?_; rintro e v5 ⟨rfl, h1⟩
  have k10 := k9.then h1
  clear h1 k9
  go_wp2_with fail
  refine (D18.out _).mono ?_; rintro e v6 ⟨rfl, h1⟩
  have k11 := k10.then h1
  clear h1 k10
  go_wp2
  go_ret
  exact ⟨rfl, k11⟩
end Go.Proofs.Ytdcbaobipogmnaa
