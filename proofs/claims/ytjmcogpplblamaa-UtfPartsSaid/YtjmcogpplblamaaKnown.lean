/- The line characters; the examples of the chapter; the laws on sets and widths. -/
import Derived.Test.YtjmcogpplblamaaAll
import Derived.Lib.SlBytesConst
namespace Go.Proofs.Ytjmcogpplblamaa
open Go.RowKit Pl
set_option linter.unusedVariables false
theorem u8_of_wf {n : Int} (h : (Lit.int .u8 n).wf = true) : 0 ≤ n ∧ n < 256 := by
  simp [Lit.wf, IntKind.min, IntKind.max, IntKind.signed, IntKind.bits] at h
  omega
theorem i32_of_wf {n : Int} (h : (Lit.int .i32 n).wf = true) : -2147483648 ≤ n ∧ n ≤ 2147483647 := by
  simp [Lit.wf, IntKind.min, IntKind.max, IntKind.signed, IntKind.bits] at h
  omega
theorem int_of_wf {n : Int} (h : (Lit.int .i64 n).wf = true) : -9223372036854775808 ≤ n ∧ n ≤ 9223372036854775807 := by
  simp [Lit.wf, IntKind.min, IntKind.max, IntKind.signed, IntKind.bits] at h
  omega
theorem byt_of_wf {xs : List Int} (h : ∀ n ∈ xs, (Lit.int .u8 n).wf = true) : Byt xs := fun n hn => u8_of_wf (h n hn)
theorem lines_bd : ∀ n ∈ linesL, 0 ≤ n ∧ n < 2097152 := by decide
set_option maxRecDepth 100000 in
set_option maxHeartbeats 1000000 in
theorem lines_any (w : World) : Calls Try.prog 26 #[] w fun en w' => en = .returned (.slice (some ⟨w.heap.size, 0, none⟩) 32 32) ∧ w' = w.alloc (.cells (linesL.map (Value.int .i32)).toArray 21) := by
  go_enter Try.func26, Try.ntmps26
  go_wp2
  go_ret
  exact ⟨rfl, rfl⟩
set_option maxRecDepth 100000 in
set_option maxHeartbeats 2000000 in
theorem graphic_any (s b : Nat) (w : World) (hs : s < 256) (hb : b < 256) : Calls Try.prog 18 #[.int .u8 s, .int .u8 b] w fun en w' => en = .returned (.int .i32 (graphicI s b)) ∧ Kept (fun _ => False) w w' := by
  by_cases h1 : s = 48
  · by_cases h2 : 95 ≤ b
    · by_cases h3 : b ≤ 126
      · have e1 : graphicI s b = linesL.getD (b - 95) 0 := if_pos ⟨h1, h2, h3⟩
        obtain ⟨j, hj⟩ : ∃ j, b - 95 = j := ⟨_, rfl⟩
        have hji : (b : Int) - 95 = (j : Int) := by omega
        have hj32 : j < 32 := by omega
        obtain ⟨z, hz⟩ : ∃ z, linesL.getD j 0 = z := ⟨_, rfl⟩
        rw [hj, hz] at e1
        rw [e1]
        have x0 : (w.alloc (.cells (linesL.map (Value.int .i32)).toArray 21)).cell? ⟨w.heap.size, j, none⟩ = some (.int .i32 z) := (blk_cell (blk_new _ _) j).trans (by
          have hl : linesL.length = 32 := rfl
          rw [← hz]; simp [List.getD_eq_getElem?_getD, hl, hj32])
        have hzz : ∀ h : j < (linesL.map (Value.int .i32)).length, (linesL.map (Value.int .i32))[j]'h = .int .i32 z := fun h => by
          have hl : j < linesL.length := by simpa using h
          rw [← hz]; simp [List.getD_eq_getElem?_getD, hl]
        have HZ := Lib.hid hzz
        clear hzz
        subst h1
        have g2 : decide ((95 : Int) ≤ (b : Int)) = true := decide_eq_true (by omega)
        have g3 : decide ((b : Int) ≤ 126) = true := decide_eq_true (by omega)
        have g4 : decide ((b : Int) < 95) = false := decide_eq_false (by omega)
        have g5 : decide ((126 : Int) < (b : Int)) = false := decide_eq_false (by omega)
        clear e1 hj hz
        go_enter Try.func18, Try.ntmps18
        go_wp2_with (go_at_call 26; refine (lines_any _).mono ?_; rintro e w' ⟨rfl, rfl⟩)
        go_ret
        exact ⟨rfl, (Kept.refl _ _).alloc _⟩
      · have e1 : graphicI s b = b := if_neg (by omega)
        rw [e1]
        subst h1
        have g2 : decide ((95 : Int) ≤ (b : Int)) = true := decide_eq_true (by omega)
        have g3 : decide ((b : Int) ≤ 126) = false := decide_eq_false (by omega)
        have g4 : decide ((b : Int) < 95) = false := decide_eq_false (by omega)
        have g5 : decide ((126 : Int) < (b : Int)) = true := decide_eq_true (by omega)
        clear e1
        go_enter Try.func18, Try.ntmps18
        go_wp2
        go_ret
        exact ⟨rfl, Kept.refl _ _⟩
    · have e1 : graphicI s b = b := if_neg (by omega)
      rw [e1]
      subst h1
      have g2 : decide ((95 : Int) ≤ (b : Int)) = false := decide_eq_false (by omega)
      have g4 : decide ((b : Int) < 95) = true := decide_eq_true (by omega)
      clear e1
      go_enter Try.func18, Try.ntmps18
      go_wp2
      go_ret
      exact ⟨rfl, Kept.refl _ _⟩
  · have e1 : graphicI s b = b := if_neg (by omega)
    rw [e1]
    have g1 : ¬ (s : Int) = 48 := by omega
    clear e1
    go_enter Try.func18, Try.ntmps18
    go_wp2
    go_ret
    exact ⟨rfl, Kept.refl _ _⟩
set_option maxRecDepth 100000 in
set_option maxHeartbeats 2000000 in
theorem refGraphic_any (s b : Nat) (w : World) (hs : s < 256) (hb : b < 256) : Calls Try.prog 19 #[.int .u8 s, .int .u8 b] w fun en w' => en = .returned (.int .i64 (graphicI s b)) ∧ Kept (fun _ => False) w w' := by
  by_cases h1 : s = 48
  · by_cases h2 : 95 ≤ b
    · by_cases h3 : b ≤ 126
      · have e1 : graphicI s b = linesL.getD (b - 95) 0 := if_pos ⟨h1, h2, h3⟩
        obtain ⟨j, hj⟩ : ∃ j, b - 95 = j := ⟨_, rfl⟩
        have hji : (b : Int) - 95 = (j : Int) := by omega
        have hj32 : j < 32 := by omega
        obtain ⟨z, hz⟩ : ∃ z, linesL.getD j 0 = z := ⟨_, rfl⟩
        rw [hj, hz] at e1
        rw [e1]
        have x0 : (w.alloc (.cells (linesL.map (Value.int .i64)).toArray 3)).cell? ⟨w.heap.size, j, none⟩ = some (.int .i64 z) := (blk_cell (blk_new _ _) j).trans (by
          have hl : linesL.length = 32 := rfl
          rw [← hz]; simp [List.getD_eq_getElem?_getD, hl, hj32])
        have hzz : ∀ h : j < (linesL.map (Value.int .i64)).length, (linesL.map (Value.int .i64))[j]'h = .int .i64 z := fun h => by
          have hl : j < linesL.length := by simpa using h
          rw [← hz]; simp [List.getD_eq_getElem?_getD, hl]
        have HZ := Lib.hid hzz
        clear hzz
        subst h1
        have g2 : decide ((95 : Int) ≤ (b : Int)) = true := decide_eq_true (by omega)
        have g3 : decide ((b : Int) ≤ 126) = true := decide_eq_true (by omega)
        have g4 : decide ((b : Int) < 95) = false := decide_eq_false (by omega)
        have g5 : decide ((126 : Int) < (b : Int)) = false := decide_eq_false (by omega)
        clear e1 hj hz
        go_enter Try.func19, Try.ntmps19
        go_wp2_with fail
        go_ret
        exact ⟨congrArg Ending.returned (HZ.out (by simp [linesL]; omega)), (Kept.refl _ _).alloc _⟩
      · have e1 : graphicI s b = b := if_neg (by omega)
        rw [e1]
        subst h1
        have g2 : decide ((95 : Int) ≤ (b : Int)) = true := decide_eq_true (by omega)
        have g3 : decide ((b : Int) ≤ 126) = false := decide_eq_false (by omega)
        have g4 : decide ((b : Int) < 95) = false := decide_eq_false (by omega)
        have g5 : decide ((126 : Int) < (b : Int)) = true := decide_eq_true (by omega)
        clear e1
        go_enter Try.func19, Try.ntmps19
        go_wp2
        go_ret
        exact ⟨rfl, (Kept.refl _ _).alloc _⟩
    · have e1 : graphicI s b = b := if_neg (by omega)
      rw [e1]
      subst h1
      have g2 : decide ((95 : Int) ≤ (b : Int)) = false := decide_eq_false (by omega)
      have g4 : decide ((b : Int) < 95) = true := decide_eq_true (by omega)
      clear e1
      go_enter Try.func19, Try.ntmps19
      go_wp2
      go_ret
      exact ⟨rfl, (Kept.refl _ _).alloc _⟩
  · have e1 : graphicI s b = b := if_neg (by omega)
    rw [e1]
    have g1 : ¬ (s : Int) = 48 := by omega
    have g0 : ((s : Int) != 48) = true := by simp; omega
    clear e1
    go_enter Try.func19, Try.ntmps19
    go_wp2
    go_ret
    exact ⟨rfl, (Kept.refl _ _).alloc _⟩
theorem all6 : allL (nats [226, 130, 97, 226, 130, 172]) = [65533, 97, 8364] := by decide +kernel
theorem wd1 : widthI 19968 = 2 := by decide +kernel
theorem wd2 : widthI 97 = 1 := by decide +kernel
theorem gr1 : graphicI 48 113 = 9472 := by decide +kernel
set_option maxRecDepth 100000 in
set_option maxHeartbeats 4000000 in
theorem known_any (w : World) : Calls Try.prog 8 #[] w fun e w' => e = .returned (.bool true) ∧ Kept (fun _ => False) w w' := by
  have hw1 : ∀ w, Calls Try.prog 20 #[.int .i32 19968] w fun e w' => e = .returned (.int .i64 2) ∧ Kept (fun _ => False) w w' := fun w => by have h := width_any 19968 w; rw [wd1] at h; exact h
  have hw2 : ∀ w, Calls Try.prog 20 #[.int .i32 97] w fun e w' => e = .returned (.int .i64 1) ∧ Kept (fun _ => False) w w' := fun w => by have h := width_any 97 w; rw [wd2] at h; exact h
  have hg1 : ∀ w, Calls Try.prog 18 #[.int .u8 48, .int .u8 113] w fun e w' => e = .returned (.int .i32 9472) ∧ Kept (fun _ => False) w w' := fun w => by have h := graphic_any 48 113 w (by omega) (by omega); rw [gr1] at h; exact h
  have W1 := Lib.hid hw1
  have W2 := Lib.hid hw2
  have G1 := Lib.hid hg1
  have kc := fun (w : World) (C : Array Value) (n c : Nat) => Lib.run_convert_bytes_const (P := Try.prog) w 22 5 C n c Try.underlying22 Try.underlying5
  clear hw1 hw2 hg1
  go_enter Try.func8, Try.ntmps8
  go_wp2_with fail
  refine (all_any _ 6 6 [226, 130, 97, 226, 130, 172] _ (slAt_blk (blk_new w (.cells #[.int .u8 226, .int .u8 130, .int .u8 97, .int .u8 226, .int .u8 130, .int .u8 172] 5 (6, 7))) rfl rfl) (by unfold Byt; decide) (by omega)).mono ?_
  rw [all6]
  rintro e w1 ⟨v1, rfl, ho1, hk1, -⟩
  have hkw1 : Kept (fun _ => False) w w1 := ((Kept.refl (fun _ => False) w).alloc _).then hk1
  obtain ⟨a1, cp1, rfl, hs1, -⟩ := ho1.shape
  obtain ⟨b1, o1, rfl, hc1⟩ := hs1.2.resolve_left (by decide)
  have y0 := hc1 0 (by decide)
  have y1 := hc1 1 (by decide)
  have y2 := hc1 2 (by decide)
  rw [show List.getD [65533, 97, 8364] 0 (0 : Int) = 65533 from rfl, Nat.add_zero] at y0
  rw [show List.getD [65533, 97, 8364] 1 (0 : Int) = 97 from rfl] at y1
  rw [show List.getD [65533, 97, 8364] 2 (0 : Int) = 8364 from rfl] at y2
  clear hs1 hc1 ho1 hk1
  go_wp2_with fail
  refine (W1.out _).mono ?_; rintro e w2 ⟨rfl, hk2⟩
  go_wp2_with fail
  refine (W2.out _).mono ?_; rintro e w3 ⟨rfl, hk3⟩
  go_wp2_with fail
  refine (G1.out _).mono ?_; rintro e w4 ⟨rfl, hk4⟩
  go_wp2
  go_ret
  exact ⟨rfl, ((hkw1.then hk2).then hk3).then hk4⟩
set_option maxRecDepth 100000 in
set_option maxHeartbeats 2000000 in
theorem law_sets {s b : Int} {w : World} (f0 : (Lit.int .u8 s).wf = true) (f1 : (Lit.int .u8 b).wf = true) :
    Calls Try.prog 4 #[.int .u8 s, .int .u8 b] w fun e w' => e = .returned (.bool true) ∧ Below w.heap.size w w' := by
  refine Calls.mono (R := fun e w' => e = .returned (.bool true) ∧ Kept (fun _ => False) w w') ?_ fun _ _ h => ⟨h.1, h.2.below⟩
  have h1 := u8_of_wf f0
  have h2 := u8_of_wf f1
  obtain ⟨s, rfl⟩ : ∃ k : Nat, s = k := ⟨s.toNat, by omega⟩
  obtain ⟨b, rfl⟩ : ∃ k : Nat, b = k := ⟨b.toNat, by omega⟩
  have hs : s < 256 := by omega
  have hb : b < 256 := by omega
  have hg : 0 ≤ graphicI s b ∧ graphicI s b < 2097152 := by
    unfold graphicI
    split
    · rw [List.getD_eq_getElem?_getD]
      cases hx : linesL[b - 95]? with
      | none => simp
      | some z => exact lines_bd z (List.mem_of_getElem? hx)
    · omega
  clear f0 f1 h1 h2
  go_enter Try.func4, Try.ntmps4
  go_wp2_with fail
  refine (known_any _).mono ?_; rintro e w0 ⟨rfl, hk0⟩
  go_wp2_with fail
  refine (graphic_any s b _ hs hb).mono ?_; rintro e w1 ⟨rfl, hk1⟩
  have hcall := fun w => refGraphic_any s b w hs hb
  obtain ⟨z, hz⟩ : ∃ z, graphicI s b = z := ⟨_, rfl⟩
  rw [hz] at hcall hg ⊢
  have HC := Lib.hid hcall
  clear hcall hz
  go_wp2_with fail
  refine (HC.out _).mono ?_; rintro e w2 ⟨rfl, hk2⟩
  go_wp2
  go_ret
  exact ⟨ret_bool (by simp), (hk0.then hk1).then hk2⟩
set_option maxRecDepth 100000 in
set_option maxHeartbeats 4000000 in
theorem law_widths {r : Int} {w : World} (f0 : (Lit.int .i32 r).wf = true) :
    Calls Try.prog 5 #[.int .i32 r] w fun e w' => e = .returned (.bool true) ∧ Below w.heap.size w w' := by
  refine Calls.mono (R := fun e w' => e = .returned (.bool true) ∧ Kept (fun _ => False) w w') ?_ fun _ _ h => ⟨h.1, h.2.below⟩
  have h1 := i32_of_wf f0
  have hb := width_bd r
  have hl : r < 32 → widthI r = 0 := width_low
  have hh : 1114111 < r → widthI r = 0 := width_high
  clear f0
  go_enter Try.func5, Try.ntmps5
  go_wp2_with fail
  refine (known_any _).mono ?_; rintro e w0 ⟨rfl, hk0⟩
  go_wp2_with fail
  refine (width_any r _).mono ?_; rintro e w1 ⟨rfl, hk1⟩
  have hcall := fun w => refWidth_any r w
  obtain ⟨z, hz⟩ : ∃ z, widthI r = z := ⟨_, rfl⟩
  rw [hz] at hb hl hh ⊢
  simp only [hz] at hcall
  have HC := Lib.hid hcall
  have HL := Lib.hid hl
  have HH := Lib.hid hh
  clear hcall hz hl hh
  go_wp2_with fail
  refine (HC.out _).mono ?_; rintro e w2 ⟨rfl, hk2⟩
  go_wp2
  all_goals
    go_ret
    refine ⟨ret_bool ?_, (hk0.then hk1).then hk2⟩
    have g1 := HL.out
    have g2 := HH.out
    first | (simp; omega) | (rw [Bool.eq_iff_iff]; simp; omega) | simp
end Go.Proofs.Ytjmcogpplblamaa
