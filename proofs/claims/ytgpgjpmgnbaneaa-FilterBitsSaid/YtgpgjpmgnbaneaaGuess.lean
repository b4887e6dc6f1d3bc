/- What a filter says of a byte. -/
import Derived.Test.YtgpgjpmgnbaneaaPaeth
namespace Go.Proofs.Ytgpgjpmgnbaneaa
open Go.RowKit Pl
set_option linter.unusedVariables false
theorem getB {xs : List Int} (h : Pl.Bytes xs) (i : Nat) : Bt (xs.getD i 0) := h.get i
set_option maxRecDepth 100000 in
set_option maxHeartbeats 2000000 in
theorem refGuess_any (kind a b c : Int) (w : World) (ha : Bt a) (hb : Bt b) (hc : Bt c) : Calls Try.prog 30 #[.int .i64 kind, .int .u8 a, .int .u8 b, .int .u8 c] w fun e w' => e = .returned (.int .u8 (guessI kind a b c)) ∧ Kept (fun _ => False) w w' := by
  have ha' := ha
  have hb' := hb
  unfold Bt at ha' hb'
  by_cases k1 : kind = 1
  · subst k1
    have HE := Lib.hid (show guessI 1 a b c = a from rfl)
    go_enter Try.func30, Try.ntmps30
    go_wp2_with fail
    go_ret
    exact ⟨ret_int (by rw [HE.out] <;> omega), Kept.refl _ _⟩
  by_cases k2 : kind = 2
  · subst k2
    have HE := Lib.hid (show guessI 2 a b c = b from rfl)
    go_enter Try.func30, Try.ntmps30
    go_wp2_with fail
    go_ret
    exact ⟨ret_int (by rw [HE.out] <;> omega), Kept.refl _ _⟩
  by_cases k3 : kind = 3
  · subst k3
    have HE := Lib.hid (show guessI 3 a b c = (a + b) / 2 from rfl)
    go_enter Try.func30, Try.ntmps30
    go_wp2_with fail
    go_ret
    exact ⟨ret_int (by rw [HE.out] <;> omega), Kept.refl _ _⟩
  by_cases k4 : kind = 4
  · subst k4
    have HE := Lib.hid (show guessI 4 a b c = paethI a b c from rfl)
    go_enter Try.func30, Try.ntmps30
    go_wp2_with (go_at_call 10; refine (refPaeth_any a b c _ ha hb hc).mono ?_; rintro e w' ⟨rfl, rfl⟩)
    go_ret
    exact ⟨ret_int (by rw [HE.out] <;> omega), Kept.refl _ _⟩
  have he : guessI kind a b c = 0 := by unfold guessI; rw [if_neg k1, if_neg k2, if_neg k3, if_neg k4]
  have HE := Lib.hid he
  clear he
  go_enter Try.func30, Try.ntmps30
  go_wp2
  go_ret
  exact ⟨ret_int (by rw [HE.out] <;> omega), Kept.refl _ _⟩
set_option maxRecDepth 100000 in
set_option maxHeartbeats 8000000 in
theorem guess_any (kind : Int) (i step : Nat) (ra aa : Option Addr) (rl rc al ac : Nat) (xs ys : List Int) (w : World) (hs : SlAt .u8 w ra rl xs) (ha' : SlAt .u8 w aa al ys) (hi : i < rl) (h1 : 1 ≤ step) (hst : step ≤ 8) (hal : al = 0 ∨ al = rl) (hrl : rl ≤ 2048) (hbx : Pl.Bytes xs) (hby : Pl.Bytes ys) :
    Calls Try.prog 29 #[.int .i64 kind, .int .i64 i, .slice ra rl rc, .slice aa al ac, .int .i64 step] w fun e w' => e = .returned (.int .u8 (gAt kind xs ys step i)) ∧ Kept (fun _ => False) w w' := by
  by_cases hsi : step ≤ i
  · by_cases hl : al = 0
    · subst hl
      obtain ⟨j, hj⟩ : ∃ j, i - step = j := ⟨_, rfl⟩
      have hsub : (i : Int) - step = (j : Int) := by omega
      have hjl : j < rl := by omega
      have gs : decide ((step : Int) ≤ (i : Int)) = true := decide_eq_true (by omega)
      obtain ⟨b1, o1, rfl, hc1⟩ := hs.2.resolve_left (by omega)
      have x1 := hc1 j hjl
      have ea : back xs step i = xs.getD j 0 := by unfold back; rw [if_pos hsi, hj]
      obtain ⟨a, hae⟩ : ∃ a, xs.getD j 0 = a := ⟨_, rfl⟩
      have ha := getB hbx j
      rw [hae] at x1 ea ha
      clear hae hc1
      have gl : decide ((i : Int) < ((0 : Nat) : Int)) = false := decide_eq_false (by omega)
      have hy0 : ys = [] := List.eq_nil_of_length_eq_zero (by have := ha'.1; omega)
      have hbe : ys.getD i 0 = 0 := by rw [hy0]; rfl
      have ec : back ys step i = 0 := by unfold back; rw [hy0]; split <;> rfl
      have hb : Bt 0 := ⟨by omega, by omega⟩
      have hc : Bt 0 := ⟨by omega, by omega⟩
      clear hy0
      clear hj
      have eg : gAt kind xs ys step i = guessI kind a 0 0 := by unfold gAt; rw [ea, hbe, ec]
      rw [eg]
      clear eg ea ec hbe hs ha' hbx hby
      have ha1 := ha
      have hb1 := hb
      unfold Bt at ha1 hb1
      by_cases k1 : kind = 1
      · subst k1
        have HE := Lib.hid (show guessI 1 a 0 0 = a from rfl)
        go_enter Try.func29, Try.ntmps29
        go_wp2_with fail
        go_ret
        exact ⟨ret_int (by rw [HE.out] <;> omega), Kept.refl _ _⟩
      by_cases k2 : kind = 2
      · subst k2
        have HE := Lib.hid (show guessI 2 a 0 0 = 0 from rfl)
        go_enter Try.func29, Try.ntmps29
        go_wp2_with fail
        go_ret
        exact ⟨ret_int (by rw [HE.out] <;> omega), Kept.refl _ _⟩
      by_cases k3 : kind = 3
      · subst k3
        have HE := Lib.hid (show guessI 3 a 0 0 = (a + 0) / 2 from rfl)
        go_enter Try.func29, Try.ntmps29
        go_wp2_with fail
        go_ret
        exact ⟨ret_int (by rw [HE.out] <;> omega), Kept.refl _ _⟩
      by_cases k4 : kind = 4
      · subst k4
        have HE := Lib.hid (show guessI 4 a 0 0 = paethI a 0 0 from rfl)
        go_enter Try.func29, Try.ntmps29
        go_wp2_with (go_at_call 9; refine (paeth_any a 0 0 _ ha hb hc).mono ?_; rintro e w' ⟨rfl, hk⟩)
        go_ret
        exact ⟨ret_int (by rw [HE.out] <;> omega), hk⟩
      have he : guessI kind a 0 0 = 0 := by unfold guessI; rw [if_neg k1, if_neg k2, if_neg k3, if_neg k4]
      have HE := Lib.hid he
      clear he
      go_enter Try.func29, Try.ntmps29
      go_wp2
      go_ret
      exact ⟨ret_int (by rw [HE.out] <;> omega), Kept.refl _ _⟩
    · have hlr : al = rl := by omega
      obtain ⟨j, hj⟩ : ∃ j, i - step = j := ⟨_, rfl⟩
      have hsub : (i : Int) - step = (j : Int) := by omega
      have hjl : j < rl := by omega
      have gs : decide ((step : Int) ≤ (i : Int)) = true := decide_eq_true (by omega)
      obtain ⟨b1, o1, rfl, hc1⟩ := hs.2.resolve_left (by omega)
      have x1 := hc1 j hjl
      have ea : back xs step i = xs.getD j 0 := by unfold back; rw [if_pos hsi, hj]
      obtain ⟨a, hae⟩ : ∃ a, xs.getD j 0 = a := ⟨_, rfl⟩
      have ha := getB hbx j
      rw [hae] at x1 ea ha
      clear hae hc1
      have gl : decide ((i : Int) < (al : Int)) = true := decide_eq_true (by omega)
      obtain ⟨b2, o2, rfl, hc2⟩ := ha'.2.resolve_left (by omega)
      have y1 := hc2 i (by omega)
      obtain ⟨b, hbe⟩ : ∃ b, ys.getD i 0 = b := ⟨_, rfl⟩
      have hb := getB hby i
      rw [hbe] at y1 hb
      have y2 := hc2 j (by omega)
      have ec : back ys step i = ys.getD j 0 := by unfold back; rw [if_pos hsi, hj]
      obtain ⟨c, hce⟩ : ∃ c, ys.getD j 0 = c := ⟨_, rfl⟩
      have hc := getB hby j
      rw [hce] at y2 ec hc
      clear hce hc2 hj
      have eg : gAt kind xs ys step i = guessI kind a b c := by unfold gAt; rw [ea, hbe, ec]
      rw [eg]
      clear eg ea ec hbe hs ha' hbx hby
      have ha1 := ha
      have hb1 := hb
      unfold Bt at ha1 hb1
      by_cases k1 : kind = 1
      · subst k1
        have HE := Lib.hid (show guessI 1 a b c = a from rfl)
        go_enter Try.func29, Try.ntmps29
        go_wp2_with fail
        go_ret
        exact ⟨ret_int (by rw [HE.out] <;> omega), Kept.refl _ _⟩
      by_cases k2 : kind = 2
      · subst k2
        have HE := Lib.hid (show guessI 2 a b c = b from rfl)
        go_enter Try.func29, Try.ntmps29
        go_wp2_with fail
        go_ret
        exact ⟨ret_int (by rw [HE.out] <;> omega), Kept.refl _ _⟩
      by_cases k3 : kind = 3
      · subst k3
        have HE := Lib.hid (show guessI 3 a b c = (a + b) / 2 from rfl)
        go_enter Try.func29, Try.ntmps29
        go_wp2_with fail
        go_ret
        exact ⟨ret_int (by rw [HE.out] <;> omega), Kept.refl _ _⟩
      by_cases k4 : kind = 4
      · subst k4
        have HE := Lib.hid (show guessI 4 a b c = paethI a b c from rfl)
        go_enter Try.func29, Try.ntmps29
        go_wp2_with (go_at_call 9; refine (paeth_any a b c _ ha hb hc).mono ?_; rintro e w' ⟨rfl, hk⟩)
        go_ret
        exact ⟨ret_int (by rw [HE.out] <;> omega), hk⟩
      have he : guessI kind a b c = 0 := by unfold guessI; rw [if_neg k1, if_neg k2, if_neg k3, if_neg k4]
      have HE := Lib.hid he
      clear he
      go_enter Try.func29, Try.ntmps29
      go_wp2
      go_ret
      exact ⟨ret_int (by rw [HE.out] <;> omega), Kept.refl _ _⟩
  · by_cases hl : al = 0
    · subst hl
      have gs : decide ((step : Int) ≤ (i : Int)) = false := decide_eq_false (by omega)
      have ea : back xs step i = 0 := by unfold back; rw [if_neg hsi]
      have ha : Bt 0 := ⟨by omega, by omega⟩
      have gl : decide ((i : Int) < ((0 : Nat) : Int)) = false := decide_eq_false (by omega)
      have hy0 : ys = [] := List.eq_nil_of_length_eq_zero (by have := ha'.1; omega)
      have hbe : ys.getD i 0 = 0 := by rw [hy0]; rfl
      have ec : back ys step i = 0 := by unfold back; rw [hy0]; split <;> rfl
      have hb : Bt 0 := ⟨by omega, by omega⟩
      have hc : Bt 0 := ⟨by omega, by omega⟩
      clear hy0
      have eg : gAt kind xs ys step i = guessI kind 0 0 0 := by unfold gAt; rw [ea, hbe, ec]
      rw [eg]
      clear eg ea ec hbe hs ha' hbx hby
      have ha1 := ha
      have hb1 := hb
      unfold Bt at ha1 hb1
      by_cases k1 : kind = 1
      · subst k1
        have HE := Lib.hid (show guessI 1 0 0 0 = 0 from rfl)
        go_enter Try.func29, Try.ntmps29
        go_wp2_with fail
        go_ret
        exact ⟨ret_int (by rw [HE.out] <;> omega), Kept.refl _ _⟩
      by_cases k2 : kind = 2
      · subst k2
        have HE := Lib.hid (show guessI 2 0 0 0 = 0 from rfl)
        go_enter Try.func29, Try.ntmps29
        go_wp2_with fail
        go_ret
        exact ⟨ret_int (by rw [HE.out] <;> omega), Kept.refl _ _⟩
      by_cases k3 : kind = 3
      · subst k3
        have HE := Lib.hid (show guessI 3 0 0 0 = (0 + 0) / 2 from rfl)
        go_enter Try.func29, Try.ntmps29
        go_wp2_with fail
        go_ret
        exact ⟨ret_int (by rw [HE.out] <;> omega), Kept.refl _ _⟩
      by_cases k4 : kind = 4
      · subst k4
        have HE := Lib.hid (show guessI 4 0 0 0 = paethI 0 0 0 from rfl)
        go_enter Try.func29, Try.ntmps29
        go_wp2_with (go_at_call 9; refine (paeth_any 0 0 0 _ ha hb hc).mono ?_; rintro e w' ⟨rfl, hk⟩)
        go_ret
        exact ⟨ret_int (by rw [HE.out] <;> omega), hk⟩
      have he : guessI kind 0 0 0 = 0 := by unfold guessI; rw [if_neg k1, if_neg k2, if_neg k3, if_neg k4]
      have HE := Lib.hid he
      clear he
      go_enter Try.func29, Try.ntmps29
      go_wp2
      go_ret
      exact ⟨ret_int (by rw [HE.out] <;> omega), Kept.refl _ _⟩
    · have hlr : al = rl := by omega
      have gs : decide ((step : Int) ≤ (i : Int)) = false := decide_eq_false (by omega)
      have ea : back xs step i = 0 := by unfold back; rw [if_neg hsi]
      have ha : Bt 0 := ⟨by omega, by omega⟩
      have gl : decide ((i : Int) < (al : Int)) = true := decide_eq_true (by omega)
      obtain ⟨b2, o2, rfl, hc2⟩ := ha'.2.resolve_left (by omega)
      have y1 := hc2 i (by omega)
      obtain ⟨b, hbe⟩ : ∃ b, ys.getD i 0 = b := ⟨_, rfl⟩
      have hb := getB hby i
      rw [hbe] at y1 hb
      have ec : back ys step i = 0 := by unfold back; rw [if_neg hsi]
      have hc : Bt 0 := ⟨by omega, by omega⟩
      clear hc2
      have eg : gAt kind xs ys step i = guessI kind 0 b 0 := by unfold gAt; rw [ea, hbe, ec]
      rw [eg]
      clear eg ea ec hbe hs ha' hbx hby
      have ha1 := ha
      have hb1 := hb
      unfold Bt at ha1 hb1
      by_cases k1 : kind = 1
      · subst k1
        have HE := Lib.hid (show guessI 1 0 b 0 = 0 from rfl)
        go_enter Try.func29, Try.ntmps29
        go_wp2_with fail
        go_ret
        exact ⟨ret_int (by rw [HE.out] <;> omega), Kept.refl _ _⟩
      by_cases k2 : kind = 2
      · subst k2
        have HE := Lib.hid (show guessI 2 0 b 0 = b from rfl)
        go_enter Try.func29, Try.ntmps29
        go_wp2_with fail
        go_ret
        exact ⟨ret_int (by rw [HE.out] <;> omega), Kept.refl _ _⟩
      by_cases k3 : kind = 3
      · subst k3
        have HE := Lib.hid (show guessI 3 0 b 0 = (0 + b) / 2 from rfl)
        go_enter Try.func29, Try.ntmps29
        go_wp2_with fail
        go_ret
        exact ⟨ret_int (by rw [HE.out] <;> omega), Kept.refl _ _⟩
      by_cases k4 : kind = 4
      · subst k4
        have HE := Lib.hid (show guessI 4 0 b 0 = paethI 0 b 0 from rfl)
        go_enter Try.func29, Try.ntmps29
        go_wp2_with (go_at_call 9; refine (paeth_any 0 b 0 _ ha hb hc).mono ?_; rintro e w' ⟨rfl, hk⟩)
        go_ret
        exact ⟨ret_int (by rw [HE.out] <;> omega), hk⟩
      have he : guessI kind 0 b 0 = 0 := by unfold guessI; rw [if_neg k1, if_neg k2, if_neg k3, if_neg k4]
      have HE := Lib.hid he
      clear he
      go_enter Try.func29, Try.ntmps29
      go_wp2
      go_ret
      exact ⟨ret_int (by rw [HE.out] <;> omega), Kept.refl _ _⟩
end Go.Proofs.Ytgpgjpmgnbaneaa
