/- Any filter, any rows: undone, done; and done and undone they are as they were. -/
import Derived.Test.YtgpgjpmgnbaneaaKnown
namespace Go.Proofs.Ytgpgjpmgnbaneaa
open Go.RowKit Pl
set_option linter.unusedVariables false

theorem strs_ne {k : Int} {r s : ByteArray} : True := trivial
def resB (undo : Bool) (kind : Int) (xs ys : List Int) (step : Int) : List Int := if undo then resU kind xs ys step else resD kind xs ys step
theorem both_any (undo : Bool) (kind step : Int) (ra aa : Option Addr) (rl rc al ac : Nat) (xs ys : List Int) (w : World) (hs : SlAt .u8 w ra rl xs) (ha : SlAt .u8 w aa al ys) (hl : rl ≤ 2048) (hbx : Pl.Bytes xs) (hby : Pl.Bytes ys) :
    Calls Try.prog 20 #[.int .i64 kind, .slice ra rl rc, .slice aa al ac, .int .i64 step, .bool undo] w fun e w' => ∃ v, e = .returned (.tuple #[v, .int .i64 (codeU kind rl al step)]) ∧ Own .u8 5 w' v (if undo then resU kind xs ys step else resD kind xs ys step) ∧ Kept (fun _ => False) w w' := by
  have h1 := hs.1
  have h2 := ha.1
  by_cases hc : chkB kind rl al step = true
  · have hcc := of_decide_eq_true hc
    obtain ⟨st, rfl⟩ : ∃ st : Nat, step = st := ⟨step.toNat, by omega⟩
    have e1 : codeU kind rl al (st : Int) = 0 := by unfold codeU; rw [hc]; rfl
    have eU : resU kind xs ys (st : Int) = undoL kind xs ys st rl := by unfold resU; rw [h1, h2, hc]; rfl
    have eD : resD kind xs ys (st : Int) = doL kind xs ys st rl := by unfold resD; rw [h1, h2, hc]; rfl
    cases undo with
    | true =>
      rw [e1, if_pos rfl, eU]
      exact (both_true kind st ra aa rl rc al ac xs ys w hs ha hl hbx hby hc).mono fun e w' ⟨v, a, b, c, _⟩ => ⟨v, a, b, c⟩
    | false =>
      rw [e1, if_neg Bool.false_ne_true, eD]
      exact (both_false kind st ra aa rl rc al ac xs ys w hs ha hl hbx hby hc).mono fun e w' ⟨v, a, b, c, _⟩ => ⟨v, a, b, c⟩
  · have hf := Bool.eq_false_iff.2 hc
    have e1 : codeU kind rl al step = 1 := by unfold codeU; rw [hf]; rfl
    have eU : resU kind xs ys step = [] := by unfold resU; rw [h1, h2, hf]; rfl
    have eD : resD kind xs ys step = [] := by unfold resD; rw [h1, h2, hf]; rfl
    rw [e1, eU, eD]
    refine (both_no kind step undo ra aa rl rc al ac w hf).mono ?_
    rintro e w' ⟨rfl, rfl⟩
    exact ⟨_, rfl, by cases undo <;> exact Own.nil _ _ _, Kept.refl _ _⟩
set_option maxRecDepth 100000 in
set_option maxHeartbeats 8000000 in
theorem rows_go (kind step : Int) (ra aa : Option Addr) (rl rc al ac : Nat) (xs ys : List Int) (w : World) (hs : SlAt .u8 w ra rl xs) (hn : ra = none → rl = 0 ∧ rc = 0) (ha : SlAt .u8 w aa al ys) (hl : rl ≤ 2048) (hla : al ≤ 2048) (hbx : Pl.Bytes xs) (hby : Pl.Bytes ys) :
    Calls Try.prog 7 #[.int .i64 kind, .slice ra rl rc, .slice aa al ac, .int .i64 step] w fun e w' => e = .returned (.bool true) ∧ Kept (fun _ => False) w w' := by
  have g1 : decide (2048 < (rl : Int)) = false := decide_eq_false (by omega)
  have g2 : decide (2048 < (al : Int)) = false := decide_eq_false (by omega)
  have HXL := Lib.hid hs.1
  have HYL := Lib.hid ha.1
  have HS := Lib.hid hs
  have HA := Lib.hid ha
  clear hs ha
  go_enter Try.func7, Try.ntmps7
  go_wp2_with fail
  refine (known_any _).mono ?_; rintro e w0 ⟨rfl, hk0⟩
  have HS := Lib.hid (HS.out.kept hk0 (fun _ _ _ _ => id))
  have HA := Lib.hid (HA.out.kept hk0 (fun _ _ _ _ => id))
  go_wp2_with fail
  refine (undo_any kind step ra aa rl rc al ac xs ys _ HS.out hn HA.out hl hbx hby).mono ?_
  rintro e w1 ⟨v1, rfl, ho1, hk1, -⟩
  have HS := Lib.hid (HS.out.kept hk1 (fun _ _ _ _ => id))
  have HA := Lib.hid (HA.out.kept hk1 (fun _ _ _ _ => id))
  have HO1 := Lib.hid ho1
  have hkw1 := hk0.then hk1
  clear ho1 hk0 hk1
  go_wp2_with fail
  refine (both_any true kind step ra aa rl rc al ac xs ys _ HS.out HA.out hl hbx hby).mono ?_
  rintro e w2 ⟨v2, rfl, ho2, hk2⟩
  have HS := Lib.hid (HS.out.kept hk2 (fun _ _ _ _ => id))
  have HA := Lib.hid (HA.out.kept hk2 (fun _ _ _ _ => id))
  have HO1 := Lib.hid (HO1.out.kept hk2 (fun _ _ => id))
  have HO2 := Lib.hid ho2
  have hkw2 := hkw1.then hk2
  clear ho2 hk2 hkw1
  go_wp2_with fail
  refine (do_any kind step ra aa rl rc al ac xs ys _ HS.out hn HA.out hl hbx hby).mono ?_
  rintro e w3 ⟨v3, rfl, ho3, hk3, -⟩
  have HS := Lib.hid (HS.out.kept hk3 (fun _ _ _ _ => id))
  have HA := Lib.hid (HA.out.kept hk3 (fun _ _ _ _ => id))
  have HO1 := Lib.hid (HO1.out.kept hk3 (fun _ _ => id))
  have HO2 := Lib.hid (HO2.out.kept hk3 (fun _ _ => id))
  have HO3 := Lib.hid ho3
  have hkw3 := hkw2.then hk3
  clear ho3 hk3 hkw2
  go_wp2_with fail
  refine (both_any false kind step ra aa rl rc al ac xs ys _ HS.out HA.out hl hbx hby).mono ?_
  rintro e w4 ⟨v4, rfl, ho4, hk4⟩
  have HS := Lib.hid (HS.out.kept hk4 (fun _ _ _ _ => id))
  have HA := Lib.hid (HA.out.kept hk4 (fun _ _ _ _ => id))
  have HO1 := Lib.hid (HO1.out.kept hk4 (fun _ _ => id))
  have HO2 := Lib.hid (HO2.out.kept hk4 (fun _ _ => id))
  have HO3 := Lib.hid (HO3.out.kept hk4 (fun _ _ => id))
  have hkw4 := hkw3.then hk4
  obtain ⟨a1, c1, rfl, s1, -, -, n1, -⟩ := HO1.out.shape
  obtain ⟨a2, c2, rfl, s2, -⟩ := HO2.out.shape
  obtain ⟨a3, c3, rfl, s3, -, -, n3, -⟩ := HO3.out.shape
  obtain ⟨a4, c4, rfl, s4, -⟩ := ho4.shape
  have cv1 := run_str (P := Try.prog) (dst := 9) (cap := c1) Try.underlying25 Try.underlying5 Try.underlying9 s1
  have cv2 := run_str (P := Try.prog) (dst := 9) (cap := c2) Try.underlying25 Try.underlying5 Try.underlying9 s2
  have cv3 := run_str (P := Try.prog) (dst := 9) (cap := c3) Try.underlying25 Try.underlying5 Try.underlying9 s3
  have cv4 := run_str (P := Try.prog) (dst := 9) (cap := c4) Try.underlying25 Try.underlying5 Try.underlying9 s4
  have S1 := Lib.hid s1
  have S3 := Lib.hid s3
  obtain ⟨r1, hr1⟩ : ∃ r, strOfNums (resU kind xs ys step) = r := ⟨_, rfl⟩
  obtain ⟨r3, hr3⟩ : ∃ r, strOfNums (resD kind xs ys step) = r := ⟨_, rfl⟩
  simp only [if_true, Bool.false_eq_true, if_false] at cv2 cv4
  rw [hr1] at cv1 cv2
  rw [hr3] at cv3 cv4
  clear s1 s2 s3 s4 hk4 ho4 hkw3 HO2
  by_cases hc : chkB kind rl al step = true
  case neg =>
    have hf := Bool.eq_false_iff.2 hc
    have e1 : codeU kind rl al step = 1 := by unfold codeU; rw [hf]; rfl
    rw [e1]
    clear e1 hf hc hr1 hr3
    go_wp2
    go_ret
    exact ⟨rfl, hkw4⟩
  have hcc := of_decide_eq_true hc
  have e1 : codeU kind rl al step = 0 := by unfold codeU; rw [hc]; rfl
  have eU : resU kind xs ys step = undoL kind xs ys step.toNat rl := by unfold resU; rw [HXL.out, HYL.out, hc]; rfl
  have eD : resD kind xs ys step = doL kind xs ys step.toNat rl := by unfold resD; rw [HXL.out, HYL.out, hc]; rfl
  have lU : (resU kind xs ys step).length = rl := by rw [eU, undoL_length]
  have lD : (resD kind xs ys step).length = rl := by rw [eD, doL_length]
  have bU : Pl.Bytes (resU kind xs ys step) := by rw [eU]; exact undoL_bytes _ _ _ _ _
  have bD : Pl.Bytes (resD kind xs ys step) := by rw [eD]; exact doL_bytes _ _ _ _ _
  have back1 : resU kind (resD kind xs ys step) ys step = xs := by
    have h := undo_do (kind := kind) (row := xs) (ahead := ys) (step := step.toNat) (by omega) hbx
    unfold resU
    rw [lD, HYL.out, hc, eD, ← HXL.out]
    exact h
  have back2 : resD kind (resU kind xs ys step) ys step = xs := by
    have h := do_undo (kind := kind) (row := xs) (ahead := ys) (step := step.toNat) (by omega) hbx
    unfold resD
    rw [lU, HYL.out, hc, eU, ← HXL.out]
    exact h
  rw [lU] at S1 cv1 n1
  rw [lD] at S3 cv3 n3
  simp only [lU, lD] at cv2 cv4
  have B1 := Lib.hid back1
  have B2 := Lib.hid back2
  have N1 := Lib.hid n1
  have N3 := Lib.hid n3
  have E1 := Lib.hid e1
  have LU := Lib.hid lU
  have LD := Lib.hid lD
  simp only [if_true, Bool.false_eq_true, if_false]
  rw [lU, lD, e1]
  clear hcc eU eD lU lD back1 back2 hr1 hr3 n1 n3 e1 hc
  go_wp2_with fail
  refine (undo_any kind step a3 aa rl c3 al ac (resD kind xs ys step) ys _ S3.out N3.out HA.out hl bD hby).mono ?_
  rw [E1.out, B1.out]
  rintro e w5 ⟨v5, rfl, ho5, hk5, -⟩
  have HS := Lib.hid (HS.out.kept hk5 (fun _ _ _ _ => id))
  have HA := Lib.hid (HA.out.kept hk5 (fun _ _ _ _ => id))
  have S1 := Lib.hid (S1.out.kept hk5 (fun _ _ _ _ => id))
  have HO5 := Lib.hid ho5
  have hkw5 := hkw4.then hk5
  clear ho5 hk5 hkw4 cv1 cv2 cv3 cv4
  go_wp2_with fail
  refine (do_any kind step a1 aa rl c1 al ac (resU kind xs ys step) ys _ S1.out N1.out HA.out hl bU hby).mono ?_
  rw [E1.out, B2.out]
  rintro e w6 ⟨v6, rfl, ho6, hk6, -⟩
  have hkw6 := hkw5.then hk6
  obtain ⟨a5, c5, rfl, s5, -⟩ := (HO5.out.kept hk6 (fun _ _ => id)).shape
  obtain ⟨a6, c6, rfl, s6, -⟩ := ho6.shape
  have s7 := HS.out.kept hk6 (fun _ _ _ _ => id)
  rw [HXL.out] at s5 s6
  have cv5 := run_str (P := Try.prog) (dst := 9) (cap := c5) Try.underlying25 Try.underlying5 Try.underlying9 s5
  have cv6 := run_str (P := Try.prog) (dst := 9) (cap := c6) Try.underlying25 Try.underlying5 Try.underlying9 s6
  have cv7 := run_str (P := Try.prog) (dst := 9) (cap := rc) Try.underlying25 Try.underlying5 Try.underlying9 s7
  obtain ⟨r, hr⟩ : ∃ r, strOfNums xs = r := ⟨_, rfl⟩
  rw [hr] at cv5 cv6 cv7
  rw [HXL.out]
  clear s5 s6 s7 hr ho6 hk6 hkw5
  go_wp2
  go_ret
  exact ⟨rfl, hkw6⟩
set_option maxRecDepth 100000 in
set_option maxHeartbeats 1000000 in
theorem rows_early (kind step : Int) (ra aa : Option Addr) (rl rc al ac : Nat) (w : World) (h : 2048 < rl ∨ (rl ≤ 2048 ∧ 2048 < al)) :
    Calls Try.prog 7 #[.int .i64 kind, .slice ra rl rc, .slice aa al ac, .int .i64 step] w fun e w' => e = .returned (.bool true) ∧ Kept (fun _ => False) w w' := by
  rcases h with h | ⟨h1, h⟩
  · have g1 : decide (2048 < (rl : Int)) = true := decide_eq_true (by omega)
    go_enter Try.func7, Try.ntmps7
    go_wp2_with fail
    refine (known_any _).mono ?_; rintro e w0 ⟨rfl, hk0⟩
    go_wp2
    go_ret
    exact ⟨rfl, hk0⟩
  · have g1 : decide (2048 < (rl : Int)) = false := decide_eq_false (by omega)
    have g2 : decide (2048 < (al : Int)) = true := decide_eq_true (by omega)
    go_enter Try.func7, Try.ntmps7
    go_wp2_with fail
    refine (known_any _).mono ?_; rintro e w0 ⟨rfl, hk0⟩
    go_wp2
    go_ret
    exact ⟨rfl, hk0⟩
theorem law_rows {ra aa : Option Addr} {rl rc al ac : Nat} {zs ys : List Int} {kind step : Int} {w : World} (f0 : (Lit.int .i64 kind).wf = true) (f1 : IsRow .u8 w ra rl rc zs) (f2 : IsRow .u8 w aa al ac ys) (f3 : (Lit.int .i64 step).wf = true) :
    Calls Try.prog 7 #[.int .i64 kind, .slice ra rl rc, .slice aa al ac, .int .i64 step] w fun e w' => e = .returned (.bool true) ∧ Below w.heap.size w w' := by
  refine Calls.mono (R := fun e w' => e = .returned (.bool true) ∧ Kept (fun _ => False) w w') ?_ fun _ _ h => ⟨h.1, h.2.below⟩
  obtain ⟨s1, -, -, b1, -, n1⟩ := f1.slAt
  obtain ⟨s2, -, -, b2, -, -⟩ := f2.slAt
  by_cases h : rl ≤ 2048 ∧ al ≤ 2048
  · exact rows_go kind step ra aa rl rc al ac _ _ w s1 n1 s2 h.1 h.2 (bytes_of_wf b1) (bytes_of_wf b2)
  · exact rows_early kind step ra aa rl rc al ac w (by omega)
end Go.Proofs.Ytgpgjpmgnbaneaa
