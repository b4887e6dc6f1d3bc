/- Colours: the law SixelColors. -/
import Derived.Test.YtomcjdonacckfaaKnown
import Derived.Test.YtomcjdonacckfaaRhls
namespace Go.Proofs.Ytomcjdonacckfaa
open Go.RowKit
set_option linter.unusedVariables false
set_option linter.unusedSimpArgs false
theorem hls_tri (h l s : Int) : ∃ a b c, hls h l s = .agg #[.int .u8 a, .int .u8 b, .int .u8 c] := ⟨_, _, _, hls_triL h l s⟩
theorem first_tri (n : Int) : ∃ a b c, first n = .agg #[.int .u8 a, .int .u8 b, .int .u8 c] := by
  unfold first tri
  split <;> exact ⟨_, _, _, rfl⟩
set_option maxRecDepth 100000 in
set_option maxHeartbeats 8000000 in
theorem law_colors (h l s n : Int) (w : World) : Calls Try.prog 3 #[.int .i64 h, .int .i64 l, .int .i64 s, .int .i64 n] w fun e w' => e = .returned (.bool true) ∧ Below w.heap.size w w' := by
  obtain ⟨a, b, c, hc⟩ := hls_tri h l s
  obtain ⟨x, y, z, hf⟩ := first_tri n
  have H1 := Lib.hid (hls_any h l s)
  have H2 := Lib.hid (rhls_any h l s)
  have F1 := Lib.hid (first_any n)
  have F2 := Lib.hid (rfirst_any n)
  rw [hc] at H1 H2
  rw [hf] at F1 F2
  have P1 := Lib.hid (percent_any l)
  have P2 := Lib.hid (rpercent_any l)
  obtain ⟨ok, hok⟩ : ∃ b, hlsOk h l s = b := ⟨_, rfl⟩
  obtain ⟨p, hp⟩ : ∃ b, pct l = b := ⟨_, rfl⟩
  obtain ⟨q, hq⟩ : ∃ b, pctOk l = b := ⟨_, rfl⟩
  rw [hok] at H1 H2
  rw [hp, hq] at P1 P2
  have ht : Try.prog.underlying 23 = some (.array 3 5) := by kernel_rfl
  have e1 : ∀ w, (binOp .eql 23 (.agg #[.int .u8 a, .int .u8 b, .int .u8 c]) (.agg #[.int .u8 a, .int .u8 b, .int .u8 c])).run Try.prog w = .ok (.bool true) w := fun w => by rw [run_eqTri 23 ht]; simp
  have e2 : ∀ w, (binOp .eql 23 (.agg #[.int .u8 x, .int .u8 y, .int .u8 z]) (.agg #[.int .u8 x, .int .u8 y, .int .u8 z])).run Try.prog w = .ok (.bool true) w := fun w => by rw [run_eqTri 23 ht]; simp
  clear hc hf hok hp hq ht
  go_enter Try.func3, Try.ntmps3
  go_wp2_with fail
  refine (known_any w).mono ?_
  rintro e w1 ⟨rfl, hk1⟩
  have HK1 := Lib.hid hk1
  clear hk1
  go_wp2_with fail
  refine (H1.out w1).mono ?_
  rintro e w2 ⟨rfl, hk2⟩
  have HK2 := Lib.hid (HK1.out.then hk2)
  clear hk2
  go_wp2_with fail
  refine (H2.out _).mono ?_
  rintro e w3 ⟨rfl, hk3⟩
  obtain ⟨W4, hW4⟩ : ∃ W, w3.alloc (.cells #[.int .u8 a, .int .u8 b, .int .u8 c] 23) = W := ⟨_, rfl⟩
  have b9 : W4.heap[w2.heap.size]? = some (.cells #[.int .u8 a, .int .u8 b, .int .u8 c] 23 (0, 0)) := by rw [← hW4]; exact blk_alloc (hk3.blk (blk_new w2 _) id) _
  have b11 : W4.heap[w3.heap.size]? = some (.cells #[.int .u8 a, .int .u8 b, .int .u8 c] 23 (0, 0)) := by rw [← hW4]; exact blk_new w3 _
  obtain ⟨⟨r0, -⟩, ⟨r1, -⟩, r2, -⟩ := blk3 b9
  obtain ⟨⟨r3, -⟩, ⟨r4, -⟩, r5, -⟩ := blk3 b11
  have HK4 := Lib.hid (show Kept (fun _ => False) w W4 by rw [← hW4]; exact ((HK2.out.alloc _).then hk3).alloc _)
  clear b9 b11 hk3
  go_wp2_with fail
  refine (P1.out _).mono ?_
  rintro e w5 ⟨rfl, rfl⟩
  go_wp2_with fail
  refine (P2.out _).mono ?_
  rintro e w5 ⟨rfl, rfl⟩
  go_wp2_with fail
  refine (F1.out _).mono ?_
  rintro e w5 ⟨rfl, hk5⟩
  have HK5 := Lib.hid (HK4.out.then hk5)
  clear hk5
  go_wp2_with fail
  refine (F2.out _).mono ?_
  rintro e w6 ⟨rfl, hk6⟩
  have HK6 := Lib.hid (HK5.out.then hk6)
  clear hk6
  go_wp2
  refine bodyPost_ret (v := .bool true) (by simp [results, Try.results3, go_sem]) rfl ⟨rfl, HK6.out.below⟩
end Go.Proofs.Ytomcjdonacckfaa
