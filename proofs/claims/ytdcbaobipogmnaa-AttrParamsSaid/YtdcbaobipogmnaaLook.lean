/- Which attributes may be; a colour set; what stands behind 38, 48. -/
import Derived.Test.YtdcbaobipogmnaaSmall
import Derived.StillTailTactics
namespace Go.Proofs.Ytdcbaobipogmnaa
open Go.RowKit Pl
set_option linter.unusedVariables false
/-- An attribute as a value. -/
def lookV (a : Look) : Value := .agg #[.int .i64 a.fg, .int .i64 a.bg, .int .i64 a.fl]
def cells3 (a : Look) : Array Value := #[.int .i64 a.fg, .int .i64 a.bg, .int .i64 a.fl]

set_option maxRecDepth 100000 in
set_option maxHeartbeats 1000000 in
theorem right_any (a : Look) (w : World) :
    Calls Try.prog 11 #[lookV a] w fun e w' => e = .returned (.bool (rightB a)) ∧ Kept (fun _ => False) w w' := by
  obtain ⟨x, y, z⟩ := a
  have H1 : ∀ w, Calls Try.prog 26 #[.int .i64 x] w fun e w' => e = .returned (.bool (colB x)) ∧ w = w' := fun w => color_any x w
  have H2 : ∀ w, Calls Try.prog 26 #[.int .i64 y] w fun e w' => e = .returned (.bool (colB y)) ∧ w = w' := fun w => color_any y w
  unfold rightB lookV
  simp only
  cases h1 : colB x with
  | false =>
    rw [h1] at H1
    clear h1 H2
    have H := Lib.hid H1
    clear H1
    go_enter Try.func11, Try.ntmps11
    go_wp2_with (go_at_call 26; refine (H.out _).mono ?_; rintro e w' ⟨rfl, rfl⟩)
    go_ret
    exact ⟨rfl, (Kept.refl _ _).alloc _⟩
  | true =>
    rw [h1] at H1
    cases h2 : colB y with
    | false =>
      rw [h2] at H2
      clear h1 h2
      have HA := Lib.hid H1
      have HB := Lib.hid H2
      clear H1 H2
      go_enter Try.func11, Try.ntmps11
      go_wp2_with fail
      refine (HA.out _).mono ?_; rintro e w' ⟨rfl, rfl⟩
      go_wp2_with (go_at_call 26; refine (HB.out _).mono ?_; rintro e w' ⟨rfl, rfl⟩)
      go_ret
      exact ⟨rfl, (Kept.refl _ _).alloc _⟩
    | true =>
      rw [h2] at H2
      clear h1 h2
      have HA := Lib.hid H1
      have HB := Lib.hid H2
      clear H1 H2
      by_cases hz : 0 ≤ z
      · go_enter Try.func11, Try.ntmps11
        go_wp2_with fail
        refine (HA.out _).mono ?_; rintro e w' ⟨rfl, rfl⟩
        go_wp2_with (go_at_call 26; refine (HB.out _).mono ?_; rintro e w' ⟨rfl, rfl⟩)
        go_ret
        exact ⟨ret_bool (by simp [hz]), (Kept.refl _ _).alloc _⟩
      · go_enter Try.func11, Try.ntmps11
        go_wp2_with fail
        refine (HA.out _).mono ?_; rintro e w' ⟨rfl, rfl⟩
        go_wp2_with (go_at_call 26; refine (HB.out _).mono ?_; rintro e w' ⟨rfl, rfl⟩)
        go_ret
        exact ⟨ret_bool (by simp; omega), (Kept.refl _ _).alloc _⟩
set_option maxRecDepth 100000 in
set_option maxHeartbeats 1000000 in
theorem rright_any (a : Look) (w : World) :
    Calls Try.prog 12 #[lookV a] w fun e w' => e = .returned (.bool (rightB a)) ∧ Kept (fun _ => False) w w' := by
  obtain ⟨x, y, z⟩ := a
  have H1 : ∀ w, Calls Try.prog 27 #[.int .i64 x] w fun e w' => e = .returned (.bool (colB x)) ∧ w = w' := fun w => rcolor_any x w
  have H2 : ∀ w, Calls Try.prog 27 #[.int .i64 y] w fun e w' => e = .returned (.bool (colB y)) ∧ w = w' := fun w => rcolor_any y w
  unfold rightB lookV
  simp only
  cases h1 : colB x with
  | false =>
    rw [h1] at H1
    clear h1 H2
    have H := Lib.hid H1
    clear H1
    go_enter Try.func12, Try.ntmps12
    go_wp2_with (go_at_call 27; refine (H.out _).mono ?_; rintro e w' ⟨rfl, rfl⟩)
    go_ret
    exact ⟨rfl, (Kept.refl _ _).alloc _⟩
  | true =>
    rw [h1] at H1
    cases h2 : colB y with
    | false =>
      rw [h2] at H2
      clear h1 h2
      have HA := Lib.hid H1
      have HB := Lib.hid H2
      clear H1 H2
      go_enter Try.func12, Try.ntmps12
      go_wp2_with fail
      refine (HA.out _).mono ?_; rintro e w' ⟨rfl, rfl⟩
      go_wp2_with (go_at_call 27; refine (HB.out _).mono ?_; rintro e w' ⟨rfl, rfl⟩)
      go_ret
      exact ⟨rfl, (Kept.refl _ _).alloc _⟩
    | true =>
      rw [h2] at H2
      clear h1 h2
      have HA := Lib.hid H1
      have HB := Lib.hid H2
      clear H1 H2
      by_cases hz : 0 ≤ z
      · go_enter Try.func12, Try.ntmps12
        go_wp2_with fail
        refine (HA.out _).mono ?_; rintro e w' ⟨rfl, rfl⟩
        go_wp2_with (go_at_call 27; refine (HB.out _).mono ?_; rintro e w' ⟨rfl, rfl⟩)
        go_ret
        exact ⟨ret_bool (by simp [hz]), (Kept.refl _ _).alloc _⟩
      · go_enter Try.func12, Try.ntmps12
        go_wp2_with fail
        refine (HA.out _).mono ?_; rintro e w' ⟨rfl, rfl⟩
        go_wp2_with (go_at_call 27; refine (HB.out _).mono ?_; rintro e w' ⟨rfl, rfl⟩)
        go_ret
        exact ⟨ret_bool (by simp; omega), (Kept.refl _ _).alloc _⟩
set_option maxRecDepth 100000 in
set_option maxHeartbeats 1000000 in
theorem set_any (a : Look) (c : Int) (fore : Bool) (w : World) :
    Calls Try.prog 25 #[lookV a, .int .i64 c, .bool fore] w fun e w' => e = .returned (lookV (if fore = true then { a with fg := c } else { a with bg := c })) ∧ Kept (fun _ => False) w w' := by
  obtain ⟨x, y, z⟩ := a
  unfold lookV
  simp only
  cases fore with
  | true =>
    go_enter Try.func25, Try.ntmps25
    go_wp2
    refine bodyPost_ret (v := .agg #[.int .i64 c, .int .i64 y, .int .i64 z]) (by simp [results, Try.results25, go_sem]) rfl ⟨rfl, ?_⟩
    repeat (first | (refine Kept.alloc ?_ _) | (refine Kept.setCell ?_ (Or.inr (by simp <;> omega)) _))
    exact Kept.refl _ _
  | false =>
    go_enter Try.func25, Try.ntmps25
    go_wp2
    refine bodyPost_ret (v := .agg #[.int .i64 x, .int .i64 c, .int .i64 z]) (by simp [results, Try.results25, go_sem]) rfl ⟨rfl, ?_⟩
    repeat (first | (refine Kept.alloc ?_ _) | (refine Kept.setCell ?_ (Or.inr (by simp <;> omega)) _))
    exact Kept.refl _ _
end Go.Proofs.Ytdcbaobipogmnaa
