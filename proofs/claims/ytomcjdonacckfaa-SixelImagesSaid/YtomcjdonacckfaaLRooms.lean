/- Rooms: the law SixelRooms. -/
import Derived.Test.YtomcjdonacckfaaKnown
import Derived.Test.YtomcjdonacckfaaLawsP
import Derived.Test.YtomcjdonacckfaaWf
import Derived.Test.YtomcjdonacckfaaDig
import Derived.Lib.ConvBytes
namespace Go.Proofs.Ytomcjdonacckfaa
open Go.RowKit
set_option linter.unusedVariables false
set_option linter.unusedSimpArgs false
theorem nstr_size (x : List Nat) : (nstr x).size = x.length := by unfold nstr; rw [strOf_size]; simp [ints]
theorem strOf_nums_bytes (x : List Nat) (hx : ∀ c ∈ x, c < 256) (j : Nat) (hj : j < x.length) : (((nstr x).data.toList.getD j 0).toNat : Int) = (ints x).getD j 0 := by
  unfold nstr ints strOfNums
  have h1 := hx _ (List.getElem_mem hj)
  simp [hj]
  omega
/-- A string made a slice of bytes. -/
theorem bytes_conv (w : World) (x : List Nat) (hx : ∀ c ∈ x, c < 256) (S : ByteArray) (hS : S = nstr x) : ∃ w2 cap, (convert 9 30 (.string S)).run Try.prog w = .ok (.slice (some ⟨w.heap.size, 0, none⟩) x.length cap) w2 ∧ SlAt .u8 w2 (some ⟨w.heap.size, 0, none⟩) x.length (ints x) ∧ Kept (fun _ => False) w w2 ∧ w2.heap.size = w.heap.size + 1 := by
  subst hS
  have h := Lib.run_convert_string_bytes (P := Try.prog) w 9 30 5 (nstr x) Try.underlying9 Try.underlying30 Try.underlying5
  rw [nstr_size] at h
  refine ⟨_, _, h, ⟨by simp [ints], .inr ⟨w.heap.size, 0, rfl, fun j hj => ?_⟩⟩, ⟨?_, ?_, ?_, ?_, fun k hk _ => Lib.bytesWorld_at_old w 5 _ k hk⟩, Lib.bytesWorld_size w 5 _⟩
  · rw [Nat.zero_add, Lib.bytesWorld_cell w 5 (nstr x) j (by rw [nstr_size]; exact hj), strOf_nums_bytes x hx j hj]
  · first | rfl | (simp [Lib.bytesWorld, World.freeze]; done) | (simp [Lib.bytesWorld, World.freeze]; rfl)
  · first | rfl | (simp [Lib.bytesWorld, World.freeze]; done) | (simp [Lib.bytesWorld, World.freeze]; rfl)
  · first | rfl | (simp [Lib.bytesWorld, World.freeze]; done) | (simp [Lib.bytesWorld, World.freeze]; rfl)
  · rw [Lib.bytesWorld_size]; omega
theorem digs_256 (n : Nat) : ∀ c ∈ digs n, c < 256 := fun c hc => by have := digs_byte n c hc; omega
theorem digs_len (n : Nat) (h : n ≤ 1000000) : (digs n).length ≤ 7 := by
  have key : ∀ k n, n < 10 ^ (k + 1) → (digs n).length ≤ k + 1 := by
    intro k
    induction k with
    | zero => intro n h; rw [digs_lt (by simpa using h)]; simp
    | succ k ih =>
      intro n h
      by_cases h10 : n < 10
      · rw [digs_lt h10]; simp
      · rw [digs_ge (by omega), List.length_append]
        have := ih (n / 10) (by rw [Nat.div_lt_iff_lt_mul (by omega)]; rw [Nat.pow_succ] at h; exact h)
        simp; omega
  exact key 6 n (by omega)
set_option maxRecDepth 100000 in
set_option maxHeartbeats 16000000 in
theorem law_rooms (wi hi li : Int) (fw : -9223372036854775808 ≤ wi ∧ wi ≤ 9223372036854775807) (fh : -9223372036854775808 ≤ hi ∧ hi ≤ 9223372036854775807) (fl : -9223372036854775808 ≤ li ∧ li ≤ 9223372036854775807) (W : World) :
    Calls Try.prog 6 #[.int .i64 wi, .int .i64 hi, .int .i64 li] W fun e w' => e = .returned (.bool true) ∧ Below W.heap.size W w' := by
  go_enter Try.func6, Try.ntmps6
  go_wp2_with fail
  refine (known_any W).mono ?_
  rintro e w1 ⟨rfl, hk1⟩
  have HK1 := Lib.hid hk1
  clear hk1
  by_cases c1 : wi < 1
  · have g1 : decide (wi < 1) = true := decide_eq_true c1
    go_wp2
    refine bodyPost_ret (v := .bool true) (by simp [results, Try.results6, go_sem]) rfl ⟨rfl, HK1.out.below⟩
  have g1 : decide (wi < 1) = false := decide_eq_false c1
  by_cases c2 : hi < 1
  · have g2 : decide (hi < 1) = true := decide_eq_true c2
    go_wp2
    refine bodyPost_ret (v := .bool true) (by simp [results, Try.results6, go_sem]) rfl ⟨rfl, HK1.out.below⟩
  have g2 : decide (hi < 1) = false := decide_eq_false c2
  by_cases c3 : 300 < wi
  · have g3 : decide (300 < wi) = true := decide_eq_true c3
    go_wp2
    refine bodyPost_ret (v := .bool true) (by simp [results, Try.results6, go_sem]) rfl ⟨rfl, HK1.out.below⟩
  have g3 : decide (300 < wi) = false := decide_eq_false c3
  by_cases c4 : 300 < hi
  · have g4 : decide (300 < hi) = true := decide_eq_true c4
    go_wp2
    refine bodyPost_ret (v := .bool true) (by simp [results, Try.results6, go_sem]) rfl ⟨rfl, HK1.out.below⟩
  have g4 : decide (300 < hi) = false := decide_eq_false c4
  by_cases c5 : li < 0
  · have g5 : decide (li < 0) = true := decide_eq_true c5
    go_wp2
    refine bodyPost_ret (v := .bool true) (by simp [results, Try.results6, go_sem]) rfl ⟨rfl, HK1.out.below⟩
  have g5 : decide (li < 0) = false := decide_eq_false c5
  obtain ⟨n, rfl⟩ := Int.eq_ofNat_of_zero_le (show 0 ≤ wi by omega)
  obtain ⟨h, rfl⟩ := Int.eq_ofNat_of_zero_le (show 0 ≤ hi by omega)
  obtain ⟨l, rfl⟩ := Int.eq_ofNat_of_zero_le (show 0 ≤ li by omega)
  have m1 : IntKind.i64.wrap (4 * (n : Int)) = 4 * (n : Int) := IntWalk.i64_in _ (by omega)
  obtain ⟨P, hP⟩ : ∃ P, 4 * n * h = P := ⟨_, rfl⟩
  have m2 : 4 * (n : Int) * (h : Int) = (P : Int) := by rw [← hP]; simp
  have hPb : P ≤ 360000 := by
    rw [← hP]
    have : 4 * n * h ≤ 1200 * 300 := Nat.mul_le_mul (by omega) (by omega)
    omega
  have m3 : IntKind.i64.wrap (P : Int) = (P : Int) := IntWalk.i64_in _ (by omega)
  by_cases c6 : (P : Int) < (l : Int)
  · have g6 : decide ((P : Int) < (l : Int)) = true := decide_eq_true c6
    have g6' : decide (P < l) = true := decide_eq_true (by omega)
    go_wp2
    refine bodyPost_ret (v := .bool true) (by simp [results, Try.results6, go_sem]) rfl ⟨rfl, HK1.out.below⟩
  have g6 : decide ((P : Int) < (l : Int)) = false := decide_eq_false c6
  have g6' : decide (P < l) = false := decide_eq_false (by omega)
  obtain ⟨M, hM⟩ : ∃ M, P - l = M := ⟨_, rfl⟩
  have m4 : (P : Int) - (l : Int) = (M : Int) := by omega
  have m5 : IntKind.i64.wrap (M : Int) = (M : Int) := IntWalk.i64_in _ (by omega)
  have HN := Lib.hid (And.intro hP (And.intro hM (And.intro (show 1 ≤ n ∧ n ≤ 300 by omega) (And.intro (show 1 ≤ h ∧ h ≤ 300 by omega) (show l ≤ P by omega)))))
  have hMb : M ≤ 1073741824 := by omega
  clear c1 c2 c3 c4 c5 c6 hP hPb hM fw fh fl
  go_wp2_with fail
  refine (new_any false M w1 hMb).mono ?_
  rintro e w2 ⟨rfl, hd2, hk2⟩
  obtain ⟨a, ha⟩ : ∃ a, w1.heap.size = a := ⟨_, rfl⟩
  rw [ha] at hd2 ⊢
  have HD2 := Lib.hid (And.intro hd2 (And.intro (hd2.lt a rfl) (And.intro ha (HK1.out.then hk2))))
  clear hd2 hk2
  have HDW := Lib.hid (decimal_any n (by have := HN.out.2.2.1; omega))
  have HDH := Lib.hid (decimal_any h (by have := HN.out.2.2.2.1; omega))
  obtain ⟨D1, hD1⟩ : ∃ D, nstr (digs n) = D := ⟨_, rfl⟩
  obtain ⟨D2, hD2⟩ : ∃ D, nstr (digs h) = D := ⟨_, rfl⟩
  rw [hD1] at HDW
  rw [hD2] at HDH
  obtain ⟨S1, hS1⟩ : ∃ S, ({ data := #[34, 48, 59, 48, 59] } : ByteArray) ++ D1 = S := ⟨_, rfl⟩
  obtain ⟨S2, hS2⟩ : ∃ S, S1 ++ ({ data := #[59] } : ByteArray) = S := ⟨_, rfl⟩
  obtain ⟨S3, hS3⟩ : ∃ S, S2 ++ D2 = S := ⟨_, rfl⟩
  obtain ⟨S4, hS4⟩ : ∃ S, S3 ++ ({ data := #[35] } : ByteArray) = S := ⟨_, rfl⟩
  have t1 : S1 = nstr ([34, 48, 59, 48, 59] ++ digs n) := by rw [← hS1, ← hD1]; exact nstr_append [34, 48, 59, 48, 59] _
  have t2 : S2 = nstr ([34, 48, 59, 48, 59] ++ digs n ++ [59]) := by rw [← hS2, t1]; exact nstr_append _ [59]
  have t3 : S3 = nstr ([34, 48, 59, 48, 59] ++ digs n ++ [59] ++ digs h) := by rw [← hS3, t2, ← hD2]; exact nstr_append _ _
  have t4 : S4 = nstr ([34, 48, 59, 48, 59] ++ digs n ++ [59] ++ digs h ++ [35]) := by rw [← hS4, t3]; exact nstr_append _ [35]
  have l1 := digs_len n (by have := HN.out.2.2.1; omega)
  have l2 := digs_len h (by have := HN.out.2.2.2.1; omega)
  have z1 : ¬ (9223372036854775807 : Int) < 5 + (D1.size : Int) := by rw [← hD1, nstr_size]; omega
  have z2 : ¬ (9223372036854775807 : Int) < (S1.size : Int) + 1 := by rw [t1, nstr_size]; simp; omega
  have z3 : ¬ (9223372036854775807 : Int) < (S2.size : Int) + (D2.size : Int) := by rw [t2, ← hD2, nstr_size, nstr_size]; simp; omega
  have z4 : ¬ (9223372036854775807 : Int) < (S3.size : Int) + 1 := by rw [t3, nstr_size]; simp; omega
  have q1 : ((ByteArray.mk #[34, 48, 59, 48, 59]).size : Int) = 5 := rfl
  have q2 : ((ByteArray.mk #[59]).size : Int) = 1 := rfl
  have q3 : ((ByteArray.mk #[35]).size : Int) = 1 := rfl
  obtain ⟨X, hX⟩ : ∃ X, sizeSigns 0 0 n h ++ [35] = X := ⟨_, rfl⟩
  have hX2 : [34, 48, 59, 48, 59] ++ digs n ++ [59] ++ digs h ++ [35] = X := by rw [← hX]; unfold sizeSigns; rw [digs_lt (show 0 < 10 by omega)]; simp
  rw [hX2] at t4
  have hX3 : ∀ c ∈ X, c < 256 := by
    rw [← hX2]
    intro c hc
    simp only [List.mem_append, List.mem_cons, List.not_mem_nil, or_false] at hc
    rcases hc with (((h | h) | h) | h) | h
    · omega
    · exact digs_256 _ c h
    · omega
    · exact digs_256 _ c h
    · omega
  have hX4 : X.length ≤ 65536 := by rw [← hX2]; simp; omega
  have HT := Lib.hid (And.intro t4 (And.intro hX3 (And.intro hX4 hX)))
  clear t1 t2 t3 t4 l1 l2 hX hX2 hX3 hX4 hD1 hD2
  go_wp2_with fail
  refine (HDW.out _).mono ?_
  rintro e w3 ⟨rfl, hk3⟩
  have HK3 := Lib.hid hk3
  clear hk3
  go_wp2_with fail
  refine (HDH.out _).mono ?_
  rintro e w4 ⟨rfl, hk4⟩
  have hk24 := HK3.out.then hk4
  obtain ⟨w5, cap, hcv, hs5, hk5, hz5⟩ := bytes_conv w4 X HT.out.2.1 S4 HT.out.1
  have hone : One a w4.heap.size w5 a (Dec.new false M 256) := ⟨fun i => i = a, HD2.out.1.kept (hk24.then hk5) (fun _ _ => id), fun i hi => by have := HD2.out.2.1; have := hk24.size; omega⟩
  have HK5 := Lib.hid (HD2.out.2.2.2.then (hk24.then hk5))
  have HW := Lib.hid (hone.write (new_ok false M (by have := hMb; omega)) (some ⟨w4.heap.size, 0, none⟩) X.length cap X hs5 HT.out.2.1 HT.out.2.2.1 (by have := HD2.out.2.1; have := hk24.size; omega) (fun b off _ h => by cases h; exact ⟨by omega, .inr (Nat.le_refl _)⟩))
  obtain ⟨d, hd⟩ : ∃ d, (Dec.new false M 256).feed X = d := ⟨_, rfl⟩
  have hrf := rooms_feed M n h HN.out.2.2.1 HN.out.2.2.2.1 l (by rw [HN.out.1]; exact HN.out.2.2.2.2) (by rw [HN.out.1, HN.out.2.1]) (d := d) (by rw [HT.out.2.2.2]; exact hd)
  rw [hd] at HW
  have HKA := Lib.hid (show W.heap.size ≤ a from by rw [← ha]; exact HK1.out.size)
  clear hk4 hk24 hs5 hk5 hz5 hone hd ha
  go_wp2_with fail
  refine HW.out.mono ?_
  rintro e w6 ⟨rfl, hone, hok, hk6⟩
  have HK6 := Lib.hid (HK5.out.trans (hk6.mono fun i _ hi => Or.inr (Nat.le_trans HKA.out hi.1)))
  have HF := Lib.hid (hone.fin hok (by have := HK5.out.size; have := hk6.size; have := HD2.out.2.1; have := HD2.out.2.2.1; obtain ⟨G, hG, hG2⟩ := hone; obtain ⟨pv, nv, hb, -⟩ := hG; exact Nat.le_of_lt hb.lt))
  clear hone hok hk6
  by_cases hl0 : 0 < l
  · rw [if_pos hl0] at hrf
    obtain ⟨f1, f2, f3⟩ := hrf
    rw [f1] at *
    rw [f2, f3] at HF
    have gl : decide (0 < l) = true := decide_eq_true hl0
    have gl' : decide ((0 : Int) < (l : Int)) = true := decide_eq_true (by omega)
    clear f1 f2 f3
    go_wp2_with fail
    refine HF.out.mono ?_
    rintro e w7 ⟨s, k, cp, rfl, hs, -, -, -, -, hk7, -⟩
    obtain rfl : k = 0 := by have := hs.1; simpa using this.symm
    have HK7 := Lib.hid (HK6.out.trans (hk7.mono fun i _ hi => Or.inr (Nat.le_trans HKA.out hi.1)))
    clear hs hk7
    go_wp2
    refine bodyPost_ret (v := .bool true) (by simp [results, Try.results6, go_sem]) rfl ⟨rfl, (HK7.out.alloc _).below⟩
  · rw [if_neg hl0] at hrf
    obtain ⟨f1, f2, f3, f4⟩ := hrf
    rw [f1] at *
    rw [f2, f3, f4] at HF
    have gl : decide (0 < l) = false := decide_eq_false hl0
    have gl' : decide ((0 : Int) < (l : Int)) = false := decide_eq_false (by omega)
    clear f1 f2 f3 f4
    go_wp2_with fail
    refine HF.out.mono ?_
    rintro e w7 ⟨s, k, cp, rfl, hs, -, -, -, -, hk7, -⟩
    have HK7 := Lib.hid (HK6.out.trans (hk7.mono fun i _ hi => Or.inr (Nat.le_trans HKA.out hi.1)))
    clear hs hk7
    go_wp2
    refine bodyPost_ret (v := .bool true) (by simp [results, Try.results6, go_sem]) rfl ⟨rfl, (HK7.out.alloc _).below⟩
end Go.Proofs.Ytomcjdonacckfaa
