/- Widths, the line characters: both functions. -/
import Derived.Test.YtjmcogpplblamaaRows
import Derived.Test.YtjmcogpplblamaaPlain
import Derived.Test.YtjmcogpplblamaaApp
import Derived.WalkLawsBesides
namespace Go.Proofs.Ytjmcogpplblamaa
open Go.RowKit Pl
set_option linter.unusedVariables false
theorem vint' {k : IntKind} {a b : Int} (h : a = b) : Value.int k a = .int k b := by rw [h]
theorem inL_cons (r : Int) (s : Int × Int) (l : List (Int × Int)) : inL r (s :: l) = ((decide (s.1 ≤ r) && decide (r ≤ s.2)) || inL r l) := rfl
def spanC : List (Int × Int) → List Value
  | [] => []
  | s :: l => .int .i32 s.1 :: .int .i32 s.2 :: spanC l
def flat : List (Int × Int) → List Int
  | [] => []
  | s :: l => s.1 :: s.2 :: flat l
theorem spanC_at : ∀ (l : List (Int × Int)) (i : Nat) (h : i < l.length), (spanC l)[i * 2]? = some (.int .i32 l[i].1) ∧ (spanC l)[i * 2 + 1]? = some (.int .i32 l[i].2)
  | s :: l, 0, _ => ⟨rfl, rfl⟩
  | s :: l, i + 1, h => by
    have := spanC_at l i (by simpa using h)
    rw [show (i + 1) * 2 = i * 2 + 1 + 1 by omega]
    exact this
theorem flat_at : ∀ (l : List (Int × Int)) (i : Nat) (h : i < l.length), (flat l).getD (i * 2) 0 = l[i].1 ∧ (flat l).getD (i * 2 + 1) 0 = l[i].2
  | s :: l, 0, _ => ⟨rfl, rfl⟩
  | s :: l, i + 1, h => by
    have := flat_at l i (by simpa using h)
    rw [show (i + 1) * 2 = i * 2 + 1 + 1 by omega]
    exact this
theorem flat_length (l : List (Int × Int)) : (flat l).length = 2 * l.length := by
  induction l with
  | nil => rfl
  | cons s l ih => simp only [flat, List.length_cons, ih]; omega
theorem inL_drop (r : Int) (l : List (Int × Int)) (i : Nat) (h : i < l.length) : inL r (l.drop i) = ((decide (l[i].1 ≤ r) && decide (r ≤ l[i].2)) || inL r (l.drop (i + 1))) := by
  rw [List.drop_eq_getElem_cons h]; rfl
theorem ret_i {k : IntKind} {a b : Int} (h : a = b) : Ending.returned (.int k a) = .returned (.int k b) := by rw [h]
set_option maxRecDepth 100000 in
set_option maxHeartbeats 4000000 in
theorem in_any (r : Int) (l : List (Int × Int)) (g : Nat) (n : Nat) (w : World) (hb : w.heap[g]? = some (.cells (spanC l).toArray 58 (0, 0))) (hn : l.length = n) (hn2 : n ≤ 100) :
    Calls Try.prog 28 #[.int .i32 r, .slice (some ⟨g, 0, none⟩) n n] w fun e w' => e = .returned (.bool (inL r l)) ∧ Kept (fun _ => False) w w' := by
  have HB := Lib.hid hb
  subst hn
  clear hb
  go_enter Try.func28, Try.ntmps28
  go_wp2
  go_loopw [9] (fun i wr => ∃ k : Nat, k ≤ l.length ∧ i = .int .i64 k ∧ inL r l = inL r (l.drop k) ∧ Kept (fun _ => False) w wr) (fun i _ => l.length - (intOf i).toNat)
  case atStart => exact ⟨0, by omega, rfl, rfl, Kept.refl _ _⟩
  case round =>
    obtain ⟨k, hk, rfl, hin, hkr⟩ := hrel
    have HIN := Lib.hid hin
    clear hin
    by_cases hkl : k < l.length
    · obtain ⟨p0, p1⟩ := spanC_at l k hkl
      have b1 := hkr.blk HB.out id
      have x0 : wr.cell? ⟨g, k * 2, none⟩ = some (.int .i32 l[k].1) := (blk_cell b1 _).trans (by simpa using p0)
      have x1 : wr.cell? ⟨g, k * 2 + 1, none⟩ = some (.int .i32 l[k].2) := (blk_cell b1 _).trans (by simpa using p1)
      have hd := inL_drop r l k hkl
      obtain ⟨lo, hlo⟩ : ∃ z, l[k].1 = z := ⟨_, rfl⟩
      obtain ⟨hi, hhi⟩ : ∃ z, l[k].2 = z := ⟨_, rfl⟩
      rw [hlo] at x0 hd
      rw [hhi] at x1 hd
      by_cases h1 : lo ≤ r
      · have g1 : decide (lo ≤ r) = true := decide_eq_true h1
        by_cases h2 : r ≤ hi
        · have g2 : decide (r ≤ hi) = true := decide_eq_true h2
          rw [g1, g2] at hd
          have HD := Lib.hid hd
          clear hd p0 p1 b1 hlo hhi
          go_wp2
          go_ret
          exact ⟨ret_bool (by rw [HIN.out, HD.out]; rfl), (hkr.alloc _)⟩
        · have g2 : decide (r ≤ hi) = false := decide_eq_false h2
          rw [g1, g2] at hd
          have HD := Lib.hid hd
          clear hd p0 p1 b1 hlo hhi
          go_wp2
          go_roundw
          case rel => exact ⟨k + 1, by omega, by go_num, by rw [HIN.out, HD.out]; rfl, (hkr.alloc _)⟩
          case measure => simp [intOf]; omega
      · have g1 : decide (lo ≤ r) = false := decide_eq_false h1
        rw [g1] at hd
        have HD := Lib.hid hd
        clear hd p0 p1 b1 hlo hhi
        go_wp2
        go_roundw
        case rel => exact ⟨k + 1, by omega, by go_num, by rw [HIN.out, HD.out]; rfl, (hkr.alloc _)⟩
        case measure => simp [intOf]; omega
    · obtain rfl : k = l.length := by omega
      go_wp2
      go_ret
      exact ⟨ret_bool (by rw [HIN.out]; simp [inL]), hkr⟩
set_option maxRecDepth 100000 in
set_option maxHeartbeats 4000000 in
theorem among_any (r : Int) (l : List (Int × Int)) (g : Nat) (n : Nat) (w : World) (hb : w.heap[g]? = some (.cells ((flat l).map (Value.int .i64)).toArray 3 (0, 0))) (hn : 2 * l.length = n) (hn2 : n ≤ 100) :
    Calls Try.prog 32 #[.int .i64 r, .slice (some ⟨g, 0, none⟩) n n] w fun e w' => e = .returned (.bool (inL r l)) ∧ Kept (fun _ => False) w w' := by
  have HB := Lib.hid hb
  subst hn
  clear hb
  go_enter Try.func32, Try.ntmps32
  go_wp2
  go_loopw [5] (fun i wr => ∃ k : Nat, k ≤ l.length ∧ i = .int .i64 (2 * k : Nat) ∧ inL r l = inL r (l.drop k) ∧ Kept (fun _ => False) w wr) (fun i _ => 2 * l.length - (intOf i).toNat)
  case atStart => exact ⟨0, by omega, rfl, rfl, Kept.refl _ _⟩
  case round =>
    obtain ⟨k, hk, rfl, hin, hkr⟩ := hrel
    have HIN := Lib.hid hin
    clear hin
    obtain ⟨j, hj⟩ : ∃ j, 2 * k = j := ⟨_, rfl⟩
    obtain ⟨m, hm⟩ : ∃ m, 2 * l.length = m := ⟨_, rfl⟩
    rw [hj, hm]
    have HJ := Lib.hid hj
    have HM := Lib.hid hm
    by_cases hkl : k < l.length
    · obtain ⟨p0, p1⟩ := flat_at l k hkl
      have hfl := flat_length l
      have b1 := hkr.blk HB.out id
      have x0 : wr.cell? ⟨g, j, none⟩ = some (.int .i64 l[k].1) := (blk_cell b1 _).trans (by
        rw [← p0, ← hj, Nat.mul_comm 2 k]; simp [show k * 2 < (flat l).length by omega])
      have x1 : wr.cell? ⟨g, j + 1, none⟩ = some (.int .i64 l[k].2) := (blk_cell b1 _).trans (by
        rw [← p1, ← hj, Nat.mul_comm 2 k]; simp [show k * 2 + 1 < (flat l).length by omega])
      have hd := inL_drop r l k hkl
      obtain ⟨lo, hlo⟩ : ∃ z, l[k].1 = z := ⟨_, rfl⟩
      obtain ⟨hi, hhi⟩ : ∃ z, l[k].2 = z := ⟨_, rfl⟩
      rw [hlo] at x0 hd
      rw [hhi] at x1 hd
      have gj : j + 1 < m := by omega
      have gm : m ≤ 100 := by omega
      by_cases h1 : lo ≤ r
      · have g1 : decide (lo ≤ r) = true := decide_eq_true h1
        by_cases h2 : r ≤ hi
        · have g2 : decide (r ≤ hi) = true := decide_eq_true h2
          rw [g1, g2] at hd
          have HD := Lib.hid hd
          clear hd p0 p1 b1 hlo hhi hj hm hfl
          go_wp2
          go_ret
          exact ⟨ret_bool (by rw [HIN.out, HD.out]; rfl), hkr⟩
        · have g2 : decide (r ≤ hi) = false := decide_eq_false h2
          rw [g1, g2] at hd
          have HD := Lib.hid hd
          clear hd p0 p1 b1 hlo hhi hj hm hfl
          go_wp2
          go_roundw
          case rel => exact ⟨k + 1, by omega, by have := HJ.out; first | exact vint' (by omega) | go_num, by rw [HIN.out, HD.out]; rfl, hkr⟩
          case measure => have h5 := HM.out; simp [intOf]; omega
      · have g1 : decide (lo ≤ r) = false := decide_eq_false h1
        rw [g1] at hd
        have HD := Lib.hid hd
        clear hd p0 p1 b1 hlo hhi hj hm hfl
        go_wp2
        go_roundw
        case rel => exact ⟨k + 1, by omega, by have := HJ.out; first | exact vint' (by omega) | go_num, by rw [HIN.out, HD.out]; rfl, hkr⟩
        case measure => have h5 := HM.out; simp [intOf]; omega
    · have hjm : j = m := by omega
      subst hjm
      clear hj hm
      go_wp2
      go_ret
      exact ⟨ret_bool (by rw [HIN.out, List.drop_eq_nil_of_le (by omega)]; rfl), hkr⟩
set_option maxRecDepth 100000 in
set_option maxHeartbeats 2000000 in
theorem thin_any (w : World) : Calls Try.prog 29 #[] w fun e w' => e = .returned (.slice (some ⟨w.heap.size, 0, none⟩) 5 5) ∧ w' = w.alloc (.cells (spanC thinL).toArray 58) := by
  go_enter Try.func29, Try.ntmps29
  go_wp2
  go_ret
  exact ⟨rfl, rfl⟩
set_option maxRecDepth 100000 in
set_option maxHeartbeats 2000000 in
theorem wide_any (w : World) : Calls Try.prog 30 #[] w fun e w' => e = .returned (.slice (some ⟨w.heap.size, 0, none⟩) 9 9) ∧ w' = w.alloc (.cells (spanC wideL).toArray 58) := by
  go_enter Try.func30, Try.ntmps30
  go_wp2
  go_ret
  exact ⟨rfl, rfl⟩
set_option maxRecDepth 100000 in
set_option maxHeartbeats 2000000 in
theorem is_any (r : Int) (w : World) : Calls Try.prog 27 #[.int .i32 r] w fun e w' => e = .returned (.bool (!noneB r)) ∧ w = w' := by
  have h : (!noneB r) = (decide (0 ≤ r) && decide (r ≤ 1114111) && (decide (r < 55296) || decide (57343 < r))) := by
    unfold noneB
    rw [Bool.eq_iff_iff]
    simp
    omega
  have H := Lib.hid h
  clear h
  by_cases h1 : 0 ≤ r
  · have g1 : decide (0 ≤ r) = true := decide_eq_true h1
    by_cases h2 : r ≤ 1114111
    · have g2 : decide (r ≤ 1114111) = true := decide_eq_true h2
      go_enter Try.func27, Try.ntmps27
      go_wp2
      all_goals
        go_ret
        exact ⟨ret_bool (by rw [H.out]; first | (rw [Bool.eq_iff_iff]; simp; omega) | (simp; omega)), rfl⟩
    · have g2 : decide (r ≤ 1114111) = false := decide_eq_false h2
      go_enter Try.func27, Try.ntmps27
      go_wp2
      go_ret
      exact ⟨ret_bool (by rw [H.out, g1, g2]; simp), rfl⟩
  · have g1 : decide (0 ≤ r) = false := decide_eq_false h1
    go_enter Try.func27, Try.ntmps27
    go_wp2
    go_ret
    exact ⟨ret_bool (by rw [H.out, g1]; simp), rfl⟩
set_option maxRecDepth 100000 in
set_option maxHeartbeats 2000000 in
theorem none_any (r : Int) (w : World) : Calls Try.prog 31 #[.int .i64 r] w fun e w' => e = .returned (.bool (noneB r)) ∧ w = w' := by
  have h : noneB r = (decide (r < 0) || (decide (55296 ≤ r) && decide (r ≤ 57343)) || decide (1114111 < r)) := by
    unfold noneB
    rw [Bool.eq_iff_iff]
    simp
    omega
  have H := Lib.hid h
  clear h
  go_enter Try.func31, Try.ntmps31
  go_wp2
  all_goals
    go_ret
    exact ⟨ret_bool (by rw [H.out]; first | (rw [Bool.eq_iff_iff]; simp; omega) | (simp; omega)), rfl⟩
set_option maxRecDepth 100000 in
set_option maxHeartbeats 4000000 in
theorem width_any (r : Int) (w : World) : Calls Try.prog 20 #[.int .i32 r] w fun e w' => e = .returned (.int .i64 (widthI r)) ∧ Kept (fun _ => False) w w' := by
  cases hn : noneB r with
  | true =>
    have e0 : widthI r = 0 := by unfold widthI; rw [if_pos hn]
    have HE := Lib.hid e0
    clear e0
    go_enter Try.func20, Try.ntmps20
    go_wp2_with (go_at_call 27; refine (is_any r _).mono ?_; rintro e w' ⟨rfl, rfl⟩)
    go_ret
    exact ⟨ret_i HE.out.symm, Kept.refl _ _⟩
  | false =>
    cases ht : inL r thinL with
    | true =>
      have e0 : widthI r = 0 := by unfold widthI; rw [if_neg (by rw [hn]; simp), if_pos ht]
      have HE := Lib.hid e0
      clear e0
      go_enter Try.func20, Try.ntmps20
      go_wp2_with (first
        | (go_at_call 27; refine (is_any r _).mono ?_; rintro e w' ⟨rfl, rfl⟩)
        | (go_at_call 29; refine (thin_any _).mono ?_; rintro e w' ⟨rfl, rfl⟩)
        | (go_at_call 28; refine (in_any r thinL _ 5 _ (blk_new _ _) rfl (by omega)).mono ?_; rintro e w2 ⟨rfl, hk2⟩))
      go_ret
      exact ⟨ret_i HE.out.symm, ((Kept.refl _ _).alloc _).then hk2⟩
    | false =>
      cases hw : inL r wideL with
      | true =>
        have e0 : widthI r = 2 := by unfold widthI; rw [if_neg (by rw [hn]; simp), if_neg (by rw [ht]; simp), if_pos hw]
        have HE := Lib.hid e0
        clear e0
        go_enter Try.func20, Try.ntmps20
        go_wp2_with fail
        refine (is_any r _).mono ?_; rintro e w' ⟨rfl, rfl⟩
        go_wp2_with fail
        refine (thin_any _).mono ?_; rintro e w' ⟨rfl, rfl⟩
        go_wp2_with fail
        refine (in_any r thinL _ 5 _ (blk_new _ _) rfl (by omega)).mono ?_; rintro e w2 ⟨rfl, hk2⟩
        go_wp2_with fail
        refine (wide_any _).mono ?_; rintro e w' ⟨rfl, rfl⟩
        go_wp2_with fail
        refine (in_any r wideL _ 9 _ (blk_new _ _) rfl (by omega)).mono ?_; rintro e w3 ⟨rfl, hk3⟩
        go_wp2
        go_ret
        exact ⟨ret_i HE.out.symm, ((((Kept.refl _ _).alloc _).then hk2).alloc _).then hk3⟩
      | false =>
        have e0 : widthI r = 1 := by unfold widthI; rw [if_neg (by rw [hn]; simp), if_neg (by rw [ht]; simp), if_neg (by rw [hw]; simp)]
        have HE := Lib.hid e0
        clear e0
        go_enter Try.func20, Try.ntmps20
        go_wp2_with fail
        refine (is_any r _).mono ?_; rintro e w' ⟨rfl, rfl⟩
        go_wp2_with fail
        refine (thin_any _).mono ?_; rintro e w' ⟨rfl, rfl⟩
        go_wp2_with fail
        refine (in_any r thinL _ 5 _ (blk_new _ _) rfl (by omega)).mono ?_; rintro e w2 ⟨rfl, hk2⟩
        go_wp2_with fail
        refine (wide_any _).mono ?_; rintro e w' ⟨rfl, rfl⟩
        go_wp2_with fail
        refine (in_any r wideL _ 9 _ (blk_new _ _) rfl (by omega)).mono ?_; rintro e w3 ⟨rfl, hk3⟩
        go_wp2
        go_ret
        exact ⟨ret_i HE.out.symm, ((((Kept.refl _ _).alloc _).then hk2).alloc _).then hk3⟩
set_option maxRecDepth 100000 in
set_option maxHeartbeats 4000000 in
theorem refWidth_any (r : Int) (w : World) : Calls Try.prog 21 #[.int .i64 r] w fun e w' => e = .returned (.int .i64 (widthI r)) ∧ Kept (fun _ => False) w w' := by
  cases hn : noneB r with
  | true =>
    have e0 : widthI r = 0 := by unfold widthI; rw [if_pos hn]
    have HE := Lib.hid e0
    clear e0
    go_enter Try.func21, Try.ntmps21
    go_wp2_with (go_at_call 31; refine (none_any r _).mono ?_; rintro e w' ⟨rfl, rfl⟩)
    go_ret
    exact ⟨ret_i HE.out.symm, Kept.refl _ _⟩
  | false =>
    cases ht : inL r thinL with
    | true =>
      have e0 : widthI r = 0 := by unfold widthI; rw [if_neg (by rw [hn]; simp), if_pos ht]
      have HE := Lib.hid e0
      clear e0
      go_enter Try.func21, Try.ntmps21
      go_wp2_with fail
      refine (none_any r _).mono ?_; rintro e w' ⟨rfl, rfl⟩
      go_wp2_with fail
      refine (among_any r thinL _ 10 _ (blk_new _ _) rfl (by omega)).mono ?_; rintro e w2 ⟨rfl, hk2⟩
      go_wp2
      go_ret
      exact ⟨ret_i HE.out.symm, ((Kept.refl _ _).alloc _).then hk2⟩
    | false =>
      cases hw : inL r wideL with
      | true =>
        have e0 : widthI r = 2 := by unfold widthI; rw [if_neg (by rw [hn]; simp), if_neg (by rw [ht]; simp), if_pos hw]
        have HE := Lib.hid e0
        clear e0
        go_enter Try.func21, Try.ntmps21
        go_wp2_with fail
        refine (none_any r _).mono ?_; rintro e w' ⟨rfl, rfl⟩
        go_wp2_with fail
        refine (among_any r thinL _ 10 _ (blk_new _ _) rfl (by omega)).mono ?_; rintro e w2 ⟨rfl, hk2⟩
        go_wp2_with fail
        refine (among_any r wideL _ 18 _ (blk_new _ _) rfl (by omega)).mono ?_; rintro e w3 ⟨rfl, hk3⟩
        go_wp2
        go_ret
        exact ⟨ret_i HE.out.symm, ((((Kept.refl _ _).alloc _).then hk2).alloc _).then hk3⟩
      | false =>
        have e0 : widthI r = 1 := by unfold widthI; rw [if_neg (by rw [hn]; simp), if_neg (by rw [ht]; simp), if_neg (by rw [hw]; simp)]
        have HE := Lib.hid e0
        clear e0
        go_enter Try.func21, Try.ntmps21
        go_wp2_with fail
        refine (none_any r _).mono ?_; rintro e w' ⟨rfl, rfl⟩
        go_wp2_with fail
        refine (among_any r thinL _ 10 _ (blk_new _ _) rfl (by omega)).mono ?_; rintro e w2 ⟨rfl, hk2⟩
        go_wp2_with fail
        refine (among_any r wideL _ 18 _ (blk_new _ _) rfl (by omega)).mono ?_; rintro e w3 ⟨rfl, hk3⟩
        go_wp2
        go_ret
        exact ⟨ret_i HE.out.symm, ((((Kept.refl _ _).alloc _).then hk2).alloc _).then hk3⟩
end Go.Proofs.Ytjmcogpplblamaa
