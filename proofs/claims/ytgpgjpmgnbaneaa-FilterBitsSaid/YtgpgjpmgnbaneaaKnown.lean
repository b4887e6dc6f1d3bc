/- The examples of the chapter, and the laws on Paeth and samples. -/
import Derived.Test.YtgpgjpmgnbaneaaBoth
import Derived.Test.YtgpgjpmgnbaneaaRsamp
import Derived.Test.YtgpgjpmgnbaneaaSize
import Derived.Test.YtgpgjpmgnbaneaaStr
namespace Go.Proofs.Ytgpgjpmgnbaneaa
open Go.RowKit Pl
set_option linter.unusedVariables false
theorem u2 : undoL 2 [1, 2] [10, 20] 1 2 = [11, 22] := by decide +kernel
theorem c2 : codeU 2 2 2 1 = 0 := by decide +kernel
theorem r2 : resU 2 [1, 2] [10, 20] 1 = [11, 22] := by decide +kernel
theorem s2 : resS [27] 2 4 = [0, 1, 2, 3] := by decide +kernel
theorem cs2 : codeS 1 2 4 = 0 := by decide +kernel
theorem x2 : sizeX 4 0 8 8 13 9 = 2 := by decide +kernel
theorem y2 : sizeY 4 0 8 8 13 9 = 2 := by decide +kernel
theorem row512 : rowI 5 1 2 = 2 := by decide +kernel
set_option maxRecDepth 100000 in
set_option maxHeartbeats 2000000 in
theorem known_any (w : World) : Calls Try.prog 8 #[] w fun e w' => e = .returned (.bool true) ∧ Kept (fun _ => False) w w' := by
  go_enter Try.func8, Try.ntmps8
  go_wp2_with fail
  have ha : Kept (fun _ => False) w (w.alloc (.cells #[.int .u8 1, .int .u8 2] 5)) := (Kept.refl _ _).alloc _
  refine (undo_any 2 1 _ _ 2 2 2 2 [1, 2] [10, 20] _ ((slAt_blk (blk_new w _) rfl rfl).kept ((Kept.refl (fun _ => False) _).alloc _) (fun _ _ _ _ => id)) (fun h => by cases h) (slAt_blk (blk_at _ _ (by simp)) rfl rfl) (by omega) (by unfold Pl.Bytes; decide) (by unfold Pl.Bytes; decide)).mono ?_
  rw [c2, r2]
  rintro e w1 ⟨v1, rfl, ho1, hk1, -⟩
  have hkw1 : Kept (fun _ => False) w w1 := (((Kept.refl (fun _ => False) w).alloc _).alloc _).then hk1
  have HO1 := Lib.hid ho1
  clear ho1 hk1 ha
  go_wp2_with fail
  refine (samples_any _ 1 1 2 4 [27] _ (by omega) (slAt_blk (blk_new _ _) rfl rfl) (by unfold Pl.Bytes; decide)).mono ?_
  rw [cs2, s2]
  rintro e w2 ⟨v2, rfl, ho2, hk2, -⟩
  have hka := ((Kept.refl (fun _ => False) w1).alloc (.cells #[.int .u8 27] 5)).then hk2
  have hkw2 := hkw1.then hka
  have HO1 := Lib.hid (HO1.out.kept hka (fun _ _ => id))
  have HO2 := Lib.hid ho2
  clear ho2 hk2 hka hkw1
  go_wp2_with fail
  refine (size_any 4 0 8 8 13 9 _ (by unfold Q; omega) (by unfold Q; omega) (by unfold Q; omega) (by unfold Q; omega) (by unfold Q; omega) (by unfold Q; omega)).mono ?_
  rw [x2, y2]
  rintro e w3 ⟨rfl, hk3⟩
  have hkw3 := hkw2.then hk3
  obtain ⟨a1, cp1, rfl, hs1, -⟩ := (HO1.out.kept hk3 (fun _ _ => id)).shape
  obtain ⟨a2, cp2, rfl, hs2, -⟩ := (HO2.out.kept hk3 (fun _ _ => id)).shape
  obtain ⟨b2, o2, rfl, hc2⟩ := hs2.2.resolve_left (by decide)
  have hx3 := hc2 3 (by decide)
  have hcv := run_str (P := Try.prog) (dst := 9) (cap := cp1) Try.underlying25 Try.underlying5 Try.underlying9 hs1
  rw [show strOfNums [11, 22] = ⟨#[11, 22]⟩ from rfl] at hcv
  simp only [List.length_cons, List.length_nil] at hcv hx3
  rw [show List.getD [0, 1, 2, 3] 3 (0 : Int) = 3 from rfl] at hx3
  have hr : ∀ w, Calls Try.prog 13 #[.int .i64 5, .int .i64 1, .int .i64 2] w fun e w' => e = .returned (.int .i64 2) ∧ w = w' := fun w => by have h := row_any 5 1 2 w; rw [row512] at h; exact h
  have HR := Lib.hid hr
  clear hs1 hs2 hc2 HO1 HO2 hkw2 hk3 hr
  go_wp2_with (first
    | (go_at_call 13; refine (HR.out _).mono ?_; rintro e w' ⟨rfl, rfl⟩)
    | (go_at_call 17; refine (passes_any _).mono ?_; rintro e w4 ⟨rfl, -, hk4, -⟩))
  go_ret
  exact ⟨rfl, hkw3.then hk4⟩
set_option maxRecDepth 100000 in
set_option maxHeartbeats 2000000 in
theorem law_paeth {a b c : Int} {w : World} (f0 : (Lit.int .u8 a).wf = true) (f1 : (Lit.int .u8 b).wf = true) (f2 : (Lit.int .u8 c).wf = true) :
    Calls Try.prog 3 #[.int .u8 a, .int .u8 b, .int .u8 c] w fun e w' => e = .returned (.bool true) ∧ Below w.heap.size w w' := by
  have ha := u8_of_wf f0
  have hb := u8_of_wf f1
  have hc := u8_of_wf f2
  refine Calls.mono (R := fun e w' => e = .returned (.bool true) ∧ Kept (fun _ => False) w w') ?_ fun _ _ h => ⟨h.1, h.2.below⟩
  have h1 := paeth_one a b c
  clear f0 f1 f2
  go_enter Try.func3, Try.ntmps3
  go_wp2_with fail
  refine (known_any _).mono ?_; rintro e w0 ⟨rfl, hk0⟩
  go_wp2_with fail
  refine (paeth_any a b c _ ha hb hc).mono ?_
  rintro e w1 ⟨rfl, hk1⟩
  have hk := hk0.then hk1
  obtain ⟨p, hp⟩ : ∃ p, paethI a b c = p := ⟨_, rfl⟩
  have hcall := refPaeth_any a b c w1 ha hb hc
  rw [hp] at h1 hcall ⊢
  have HC := Lib.hid hcall
  clear hp hcall
  rcases h1 with rfl | rfl | rfl
  all_goals
    go_wp2_with fail
    refine HC.out.mono ?_
    rintro e w' ⟨rfl, rfl⟩
    go_wp2
    all_goals
      go_ret
      exact ⟨ret_bool (by simp), hk⟩
end Go.Proofs.Ytgpgjpmgnbaneaa
