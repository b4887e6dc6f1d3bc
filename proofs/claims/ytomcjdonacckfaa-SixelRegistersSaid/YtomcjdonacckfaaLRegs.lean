/- Registers: the law SixelRegisters. -/
import Derived.Test.YtomcjdonacckfaaLRooms
import Derived.Test.YtomcjdonacckfaaReg
namespace Go.Proofs.Ytomcjdonacckfaa
open Go.RowKit
set_option linter.unusedVariables false
set_option linter.unusedSimpArgs false
attribute [local go_sem] growOp growUpon sameUpon
theorem One.lt {B T : Nat} {w : World} {a : Nat} {d : Dec} (h : One B T w a d) : B ≤ w.heap.size := by
  obtain ⟨G, hG, hG2⟩ := h
  obtain ⟨pv, nv, hb, -, -, -, -, -, hGi⟩ := hG
  have h1 := hb.lt
  have h2 := hG2 a ((hGi a).2 (.inl rfl))
  omega
set_option maxRecDepth 100000 in
set_option maxHeartbeats 16000000 in
theorem law_regs (ni ri gi bi oi : Int) (fn : -9223372036854775808 ≤ ni ∧ ni ≤ 9223372036854775807) (fr : -9223372036854775808 ≤ ri ∧ ri ≤ 9223372036854775807) (fg : -9223372036854775808 ≤ gi ∧ gi ≤ 9223372036854775807) (fb : -9223372036854775808 ≤ bi ∧ bi ≤ 9223372036854775807) (fo : -9223372036854775808 ≤ oi ∧ oi ≤ 9223372036854775807) (W : World) :
    Calls Try.prog 8 #[.int .i64 ni, .int .i64 ri, .int .i64 gi, .int .i64 bi, .int .i64 oi] W fun e w' => e = .returned (.bool true) ∧ Below W.heap.size W w' := by
  go_enter Try.func8, Try.ntmps8
  go_wp2_with fail
  refine (known_any W).mono ?_
  rintro e w1 ⟨rfl, hk1⟩
  have HK1 := Lib.hid hk1
  clear hk1
  by_cases c1 : ni < 0
  · have g1 : decide (ni < 0) = true := decide_eq_true c1
    go_wp2
    refine bodyPost_ret (v := .bool true) (by simp [results, Try.results8, go_sem]) rfl ⟨rfl, HK1.out.below⟩
  have g1 : decide (ni < 0) = false := decide_eq_false c1
  by_cases c2 : 255 < ni
  · have g2 : decide (255 < ni) = true := decide_eq_true c2
    go_wp2
    refine bodyPost_ret (v := .bool true) (by simp [results, Try.results8, go_sem]) rfl ⟨rfl, HK1.out.below⟩
  have g2 : decide (255 < ni) = false := decide_eq_false c2
  by_cases c3 : ri < 0
  · have g3 : decide (ri < 0) = true := decide_eq_true c3
    go_wp2
    refine bodyPost_ret (v := .bool true) (by simp [results, Try.results8, go_sem]) rfl ⟨rfl, HK1.out.below⟩
  have g3 : decide (ri < 0) = false := decide_eq_false c3
  by_cases c4 : 100 < ri
  · have g4 : decide (100 < ri) = true := decide_eq_true c4
    go_wp2
    refine bodyPost_ret (v := .bool true) (by simp [results, Try.results8, go_sem]) rfl ⟨rfl, HK1.out.below⟩
  have g4 : decide (100 < ri) = false := decide_eq_false c4
  by_cases c5 : gi < 0
  · have g5 : decide (gi < 0) = true := decide_eq_true c5
    go_wp2
    refine bodyPost_ret (v := .bool true) (by simp [results, Try.results8, go_sem]) rfl ⟨rfl, HK1.out.below⟩
  have g5 : decide (gi < 0) = false := decide_eq_false c5
  by_cases c6 : 100 < gi
  · have g6 : decide (100 < gi) = true := decide_eq_true c6
    go_wp2
    refine bodyPost_ret (v := .bool true) (by simp [results, Try.results8, go_sem]) rfl ⟨rfl, HK1.out.below⟩
  have g6 : decide (100 < gi) = false := decide_eq_false c6
  by_cases c7 : bi < 0
  · have g7 : decide (bi < 0) = true := decide_eq_true c7
    go_wp2
    refine bodyPost_ret (v := .bool true) (by simp [results, Try.results8, go_sem]) rfl ⟨rfl, HK1.out.below⟩
  have g7 : decide (bi < 0) = false := decide_eq_false c7
  by_cases c8 : 100 < bi
  · have g8 : decide (100 < bi) = true := decide_eq_true c8
    go_wp2
    refine bodyPost_ret (v := .bool true) (by simp [results, Try.results8, go_sem]) rfl ⟨rfl, HK1.out.below⟩
  have g8 : decide (100 < bi) = false := decide_eq_false c8
  by_cases c9 : oi < 0
  · have g9 : decide (oi < 0) = true := decide_eq_true c9
    go_wp2
    refine bodyPost_ret (v := .bool true) (by simp [results, Try.results8, go_sem]) rfl ⟨rfl, HK1.out.below⟩
  have g9 : decide (oi < 0) = false := decide_eq_false c9
  by_cases c10 : 255 < oi
  · have g10 : decide (255 < oi) = true := decide_eq_true c10
    go_wp2
    refine bodyPost_ret (v := .bool true) (by simp [results, Try.results8, go_sem]) rfl ⟨rfl, HK1.out.below⟩
  have g10 : decide (255 < oi) = false := decide_eq_false c10
  obtain ⟨n, rfl⟩ := Int.eq_ofNat_of_zero_le (show 0 ≤ ni by omega)
  obtain ⟨r, rfl⟩ := Int.eq_ofNat_of_zero_le (show 0 ≤ ri by omega)
  obtain ⟨g, rfl⟩ := Int.eq_ofNat_of_zero_le (show 0 ≤ gi by omega)
  obtain ⟨b, rfl⟩ := Int.eq_ofNat_of_zero_le (show 0 ≤ bi by omega)
  obtain ⟨o, rfl⟩ := Int.eq_ofNat_of_zero_le (show 0 ≤ oi by omega)
  have HN := Lib.hid (show n < 256 ∧ r ≤ 100 ∧ g ≤ 100 ∧ b ≤ 100 ∧ o < 256 by omega)
  clear c1 c2 c3 c4 c5 c6 c7 c8 c9 c10 fn fr fg fb fo
  go_wp2_with fail
  refine (new_any true 100 w1 (by omega)).mono ?_
  rintro e w2 ⟨rfl, hd2, hk2⟩
  obtain ⟨a, ha⟩ : ∃ a, w1.heap.size = a := ⟨_, rfl⟩
  rw [ha] at hd2 ⊢
  have HD2 := Lib.hid (And.intro hd2 (And.intro (hd2.lt a rfl) (And.intro ha (HK1.out.then hk2))))
  clear hd2 hk2
  have HC1 := Lib.hid (decimal_any n (by have := HN.out; omega))
  obtain ⟨D1, hD1⟩ : ∃ D, nstr (digs n) = D := ⟨_, rfl⟩
  rw [hD1] at HC1
  have l1 := digs_len n (by have := HN.out; omega)
  have HC2 := Lib.hid (decimal_any r (by have := HN.out; omega))
  obtain ⟨D2, hD2⟩ : ∃ D, nstr (digs r) = D := ⟨_, rfl⟩
  rw [hD2] at HC2
  have l2 := digs_len r (by have := HN.out; omega)
  have HC3 := Lib.hid (decimal_any g (by have := HN.out; omega))
  obtain ⟨D3, hD3⟩ : ∃ D, nstr (digs g) = D := ⟨_, rfl⟩
  rw [hD3] at HC3
  have l3 := digs_len g (by have := HN.out; omega)
  have HC4 := Lib.hid (decimal_any b (by have := HN.out; omega))
  obtain ⟨D4, hD4⟩ : ∃ D, nstr (digs b) = D := ⟨_, rfl⟩
  rw [hD4] at HC4
  have l4 := digs_len b (by have := HN.out; omega)
  obtain ⟨S1, hS1⟩ : ∃ S, ({ data := #[35] } : ByteArray) ++ D1 = S := ⟨_, rfl⟩
  have t1 : S1 = nstr (([35] : List Nat) ++ digs n) := by rw [← hS1, ← hD1]; exact nstr_append [35] _
  have z1 : ¬ (9223372036854775807 : Int) < 1 + (D1.size : Int) := by rw [← hD1, nstr_size]; simp; omega
  obtain ⟨S2, hS2⟩ : ∃ S, S1 ++ ({ data := #[59, 50, 59] } : ByteArray) = S := ⟨_, rfl⟩
  have t2 : S2 = nstr (([35] : List Nat) ++ digs n ++ [59, 50, 59]) := by rw [← hS2, t1]; exact nstr_append _ [59, 50, 59]
  have z2 : ¬ (9223372036854775807 : Int) < (S1.size : Int) + 3 := by rw [t1, nstr_size]; simp; omega
  obtain ⟨S3, hS3⟩ : ∃ S, S2 ++ D2 = S := ⟨_, rfl⟩
  have t3 : S3 = nstr (([35] : List Nat) ++ digs n ++ [59, 50, 59] ++ digs r) := by rw [← hS3, t2, ← hD2]; exact nstr_append _ _
  have z3 : ¬ (9223372036854775807 : Int) < (S2.size : Int) + (D2.size : Int) := by rw [t2, ← hD2, nstr_size, nstr_size]; simp; omega
  obtain ⟨S4, hS4⟩ : ∃ S, S3 ++ ({ data := #[59] } : ByteArray) = S := ⟨_, rfl⟩
  have t4 : S4 = nstr (([35] : List Nat) ++ digs n ++ [59, 50, 59] ++ digs r ++ [59]) := by rw [← hS4, t3]; exact nstr_append _ [59]
  have z4 : ¬ (9223372036854775807 : Int) < (S3.size : Int) + 1 := by rw [t3, nstr_size]; simp; omega
  obtain ⟨S5, hS5⟩ : ∃ S, S4 ++ D3 = S := ⟨_, rfl⟩
  have t5 : S5 = nstr (([35] : List Nat) ++ digs n ++ [59, 50, 59] ++ digs r ++ [59] ++ digs g) := by rw [← hS5, t4, ← hD3]; exact nstr_append _ _
  have z5 : ¬ (9223372036854775807 : Int) < (S4.size : Int) + (D3.size : Int) := by rw [t4, ← hD3, nstr_size, nstr_size]; simp; omega
  obtain ⟨S6, hS6⟩ : ∃ S, S5 ++ ({ data := #[59] } : ByteArray) = S := ⟨_, rfl⟩
  have t6 : S6 = nstr (([35] : List Nat) ++ digs n ++ [59, 50, 59] ++ digs r ++ [59] ++ digs g ++ [59]) := by rw [← hS6, t5]; exact nstr_append _ [59]
  have z6 : ¬ (9223372036854775807 : Int) < (S5.size : Int) + 1 := by rw [t5, nstr_size]; simp; omega
  obtain ⟨S7, hS7⟩ : ∃ S, S6 ++ D4 = S := ⟨_, rfl⟩
  have t7 : S7 = nstr (([35] : List Nat) ++ digs n ++ [59, 50, 59] ++ digs r ++ [59] ++ digs g ++ [59] ++ digs b) := by rw [← hS7, t6, ← hD4]; exact nstr_append _ _
  have z7 : ¬ (9223372036854775807 : Int) < (S6.size : Int) + (D4.size : Int) := by rw [t6, ← hD4, nstr_size, nstr_size]; simp; omega
  obtain ⟨S8, hS8⟩ : ∃ S, S7 ++ ({ data := #[64] } : ByteArray) = S := ⟨_, rfl⟩
  have t8 : S8 = nstr (([35] : List Nat) ++ digs n ++ [59, 50, 59] ++ digs r ++ [59] ++ digs g ++ [59] ++ digs b ++ [64]) := by rw [← hS8, t7]; exact nstr_append _ [64]
  have z8 : ¬ (9223372036854775807 : Int) < (S7.size : Int) + 1 := by rw [t7, nstr_size]; simp; omega
  have q1 : ((ByteArray.mk #[35]).size : Int) = 1 := rfl
  have q2 : ((ByteArray.mk #[59]).size : Int) = 1 := rfl
  have q3 : ((ByteArray.mk #[59, 50, 59]).size : Int) = 3 := rfl
  have q4 : ((ByteArray.mk #[64]).size : Int) = 1 := rfl
  obtain ⟨X, hX⟩ : ∃ X, regSigns n r g b = X := ⟨_, rfl⟩
  have hX2 : ([35] : List Nat) ++ digs n ++ [59, 50, 59] ++ digs r ++ [59] ++ digs g ++ [59] ++ digs b ++ [64] = X := by rw [← hX]; unfold regSigns; rw [digs_lt (show 2 < 10 by omega)]; simp
  rw [hX2] at t8
  have hX3 : ∀ c ∈ X, c < 256 := by
    rw [← hX2]
    intro c hc
    simp only [List.mem_append, List.mem_cons, List.not_mem_nil, or_false] at hc
    rcases hc with (((((((h | h) | h) | h) | h) | h) | h) | h) | h
    all_goals first | exact digs_256 _ c h | omega
  have hX4 : X.length ≤ 65536 := by rw [← hX2]; simp; omega
  have HT := Lib.hid (And.intro t8 (And.intro hX3 (And.intro hX4 hX)))
  clear t1 t2 t3 t4 t5 t6 t7 t8 l1 l2 l3 l4 hX hX2 hX3 hX4 hD1 hD2 hD3 hD4
  go_wp2_with fail
  refine (HC1.out _).mono ?_
  rintro e w3 ⟨rfl, hk3⟩
  have HK3 := Lib.hid hk3
  clear hk3
  go_wp2_with fail
  refine (HC2.out _).mono ?_
  rintro e w4 ⟨rfl, hk4⟩
  have HK4 := Lib.hid (HK3.out.then hk4)
  clear hk4
  go_wp2_with fail
  refine (HC3.out _).mono ?_
  rintro e w5 ⟨rfl, hk5⟩
  have HK5 := Lib.hid (HK4.out.then hk5)
  clear hk5
  go_wp2_with fail
  refine (HC4.out _).mono ?_
  rintro e w6 ⟨rfl, hk6⟩
  have HK6 := Lib.hid (HK5.out.then hk6)
  clear hk6
  obtain ⟨w7, cap, hcv, hs7, hk7, hz7⟩ := bytes_conv w6 X HT.out.2.1 S8 HT.out.1
  have hone : One a w6.heap.size w7 a (Dec.new true 100 256) := ⟨fun i => i = a, HD2.out.1.kept (HK6.out.then hk7) (fun _ _ => id), fun i hi => by have := HD2.out.2.1; have := HK6.out.size; omega⟩
  have HK7 := Lib.hid (HD2.out.2.2.2.then (HK6.out.then hk7))
  have HW := Lib.hid (hone.write (new_ok true 100 (by omega)) (some ⟨w6.heap.size, 0, none⟩) X.length cap X hs7 HT.out.2.1 HT.out.2.2.1 (by have := HD2.out.2.1; have := HK6.out.size; omega) (fun b off _ h => by cases h; exact ⟨by omega, .inr (Nat.le_refl _)⟩))
  obtain ⟨d, hd⟩ : ∃ d, (Dec.new true 100 256).feed X = d := ⟨_, rfl⟩
  have hrf := regs_feed n r g b HN.out.1 HN.out.2.1 HN.out.2.2.1 HN.out.2.2.2.1 (d := d) (by rw [HT.out.2.2.2]; exact hd)
  rw [hd] at HW
  rw [hrf.1] at HW
  have HKA := Lib.hid (show W.heap.size ≤ a from by rw [← ha]; exact HK1.out.size)
  obtain ⟨x, hx⟩ : ∃ x, pct r = x := ⟨_, rfl⟩
  obtain ⟨y, hy⟩ : ∃ x, pct g = x := ⟨_, rfl⟩
  obtain ⟨z, hz⟩ : ∃ x, pct b = x := ⟨_, rfl⟩
  rw [hx, hy, hz] at hrf
  have P1 := Lib.hid (percent_any r)
  have P2 := Lib.hid (percent_any g)
  have P3 := Lib.hid (percent_any b)
  rw [hx] at P1
  rw [hy] at P2
  rw [hz] at P3
  obtain ⟨b1, hb1⟩ : ∃ x, pctOk r = x := ⟨_, rfl⟩
  obtain ⟨b2, hb2⟩ : ∃ x, pctOk g = x := ⟨_, rfl⟩
  obtain ⟨b3, hb3⟩ : ∃ x, pctOk b = x := ⟨_, rfl⟩
  rw [hb1] at P1
  rw [hb2] at P2
  rw [hb3] at P3
  have hmine := reg_mine n HN.out.1 x y z
  rw [← hrf.2.1] at hmine
  have hreg : d.reg n = [x, y, z] := by unfold Dec.reg; rw [if_pos HN.out.1, hmine.1, hmine.2.1, hmine.2.2]
  obtain ⟨o0, o1, o2, ho⟩ : ∃ o0 o1 o2, d.reg o = [o0, o1, o2] := by unfold Dec.reg; rw [if_pos HN.out.2.2.2.2]; exact ⟨_, _, _, rfl⟩
  have hoth : o ≠ n → first (o : Int) = .agg #[.int .u8 o0, .int .u8 o1, .int .u8 o2] := by
    intro hne
    have h9 := ho
    unfold Dec.reg at h9
    rw [if_pos HN.out.2.2.2.2, hrf.2.1] at h9
    have k0 := setReg_other (regs 256) n o 0 [x, y, z] (Ne.symm hne) (by omega)
    have k1 := setReg_other (regs 256) n o 1 [x, y, z] (Ne.symm hne) (by omega)
    have k2 := setReg_other (regs 256) n o 2 [x, y, z] (Ne.symm hne) (by omega)
    rw [regs_at 256 o _ HN.out.2.2.2.2 (by omega) (by omega)] at k0 k1 k2
    rw [Nat.add_zero] at k0
    rw [k0, k1, k2] at h9
    rw [first_triL]
    unfold triL tri
    injection h9 with h1 h9
    injection h9 with h2 h9
    injection h9 with h3 h9
    rw [h1, h2, h3]
  have HRG := Lib.hid (And.intro hreg (And.intro ho (And.intro hoth hrf)))
  clear hs7 hk7 hz7 hone hd ha hrf hx hy hz hb1 hb2 hb3 hmine hreg ho hoth
  go_wp2_with fail
  refine HW.out.mono ?_
  rintro e w8 ⟨rfl, hone, hok, hk8⟩
  have HK8 := Lib.hid (HK7.out.trans (hk8.mono fun i _ hi => Or.inr (Nat.le_trans HKA.out hi.1)))
  have HO := Lib.hid (And.intro hone hok)
  have hreg1 : ∀ w', Kept (fun _ => False) w8 w' → Calls Try.prog 22 #[.pointer (some ⟨a, 0, none⟩), .int .i64 n] w' fun e w'' => e = .returned (.tuple #[.agg #[.int .u8 x, .int .u8 y, .int .u8 z], .bool true]) ∧ Kept (fun _ => False) w' w'' := by
    intro w' hk
    obtain ⟨G, hG, -⟩ := HO.out.1.up hk
    have h9 := register_any G d w' a n hG (by have := HN.out; omega)
    rw [HRG.out.1, decide_eq_true HN.out.1] at h9
    exact h9
  have hreg2 : ∀ w', Kept (fun _ => False) w8 w' → Calls Try.prog 22 #[.pointer (some ⟨a, 0, none⟩), .int .i64 o] w' fun e w'' => e = .returned (.tuple #[.agg #[.int .u8 o0, .int .u8 o1, .int .u8 o2], .bool true]) ∧ Kept (fun _ => False) w' w'' := by
    intro w' hk
    obtain ⟨G, hG, -⟩ := HO.out.1.up hk
    have h9 := register_any G d w' a o hG (by have := HN.out; omega)
    rw [HRG.out.2.1, decide_eq_true HN.out.2.2.2.2] at h9
    exact h9
  have HR1 := Lib.hid hreg1
  have HR2 := Lib.hid hreg2
  clear hone hok hk8 hreg1 hreg2
  go_wp2_with fail
  refine (HR1.out _ (Kept.refl _ _)).mono ?_
  rintro e w9 ⟨rfl, hk9⟩
  have HK9 := Lib.hid hk9
  have HA9 := Lib.hid (hk9.alloc (.cells #[.int .u8 x, .int .u8 y, .int .u8 z] 23))
  clear hk9
  go_wp2_with fail
  refine (HR2.out _ HA9.out).mono ?_
  rintro e w10 ⟨rfl, hk10⟩
  have HB13 := Lib.hid (show w10.heap[w9.heap.size]? = some (.cells #[.int .u8 x, .int .u8 y, .int .u8 z] 23 (0, 0)) from hk10.blk (blk_new w9 _) id)
  have HK10 := Lib.hid (HA9.out.then hk10)
  have HA10 := Lib.hid ((HA9.out.then hk10).alloc (.cells #[.int .u8 o0, .int .u8 o1, .int .u8 o2] 23))
  clear hk10
  have HF := Lib.hid ((HO.out.1.up HA10.out).fin HO.out.2 (HO.out.1.up HA10.out).lt)
  rw [HRG.out.2.2.2.2.2.1, HRG.out.2.2.2.2.2.2] at HF
  go_wp2_with fail
  refine HF.out.mono ?_
  rintro e w11 ⟨s, k4, cp, rfl, hs, -, -, -, -, hk11, -⟩
  obtain rfl : k4 = 4 := by have := hs.1; simpa using this.symm
  obtain ⟨mw, hmw⟩ : ∃ m, d.fin.w = m := ⟨_, rfl⟩
  obtain ⟨mh, hmh⟩ : ∃ m, d.fin.h = m := ⟨_, rfl⟩
  rw [hmw, hmh]
  obtain ⟨W12, hW12⟩ : ∃ W', w11.alloc (.cells #[.int .i64 mw, .int .i64 mh, .slice s 4 cp] 38) = W' := ⟨_, rfl⟩
  have hk1112 : Kept (fun _ => False) w11 W12 := by rw [← hW12]; exact (Kept.refl _ _).alloc _
  have hb13 : W12.heap[w9.heap.size]? = some (.cells #[.int .u8 x, .int .u8 y, .int .u8 z] 23 (0, 0)) := hk1112.blk (hk11.blk (blk_alloc HB13.out _) (by have := HK9.out.size; omega)) id
  have hb15 : W12.heap[w10.heap.size]? = some (.cells #[.int .u8 o0, .int .u8 o1, .int .u8 o2] 23 (0, 0)) := hk1112.blk (hk11.blk (blk_new w10 _) (by have := HK10.out.size; omega)) id
  have hb17 : W12.heap[w11.heap.size]? = some (.cells #[.int .i64 mw, .int .i64 mh, .slice s 4 cp] 38 (0, 0)) := by rw [← hW12]; exact blk_new w11 _
  have hs12 : SlAt .u8 W12 s 4 [x, y, z, 255] := hs.kept hk1112 (fun _ _ _ _ => id)
  have HKW := Lib.hid (((HK8.out.then HA10.out).trans (hk11.mono fun i hi h9 => Or.inr (Nat.le_trans HKA.out h9.1))).then hk1112)
  have hWd := ((Kept.refl (fun _ => False) W12).drew)
  obtain ⟨WR, hWR⟩ : ∃ WR, WR = W12.drew := ⟨_, rfl⟩
  rw [← hWR] at hWd
  obtain ⟨⟨u0, -⟩, ⟨u1, -⟩, u2, -⟩ := blk3 (hWd.blk hb13 id)
  obtain ⟨⟨u3, -⟩, ⟨u4, -⟩, u5, -⟩ := blk3 (hWd.blk hb15 id)
  obtain ⟨-, -, u6, -⟩ := blk3 (hWd.blk hb17 id)
  have X0 := cell_regrown u0
  have X1 := cell_regrown u1
  have X2 := cell_regrown u2
  have X3 := cell_regrown u3
  have X4 := cell_regrown u4
  have X5 := cell_regrown u5
  have X6 := cell_regrown u6
  have ht : Try.prog.underlying 23 = some (.array 3 5) := by kernel_rfl
  have e1 : ∀ w, (binOp .eql 23 (.agg #[.int .u8 x, .int .u8 y, .int .u8 z]) (.agg #[.int .u8 x, .int .u8 y, .int .u8 z])).run Try.prog w = .ok (.bool true) w := fun w => by rw [run_eqTri 23 ht]; simp
  have e2 : ∀ w, (binOp .eql 23 (.agg #[.int .u8 o0, .int .u8 o1, .int .u8 o2]) (.agg #[.int .u8 o0, .int .u8 o1, .int .u8 o2])).run Try.prog w = .ok (.bool true) w := fun w => by rw [run_eqTri 23 ht]; simp
  obtain ⟨SX, hSX⟩ : ∃ S, strOfNums [x, y, z, 255] = S := ⟨_, rfl⟩
  have hcv1 : ∀ w', Kept (fun _ => False) WR w' → (convert 30 9 (.slice s 4 cp)).run Try.prog w' = .ok (.string SX) w' := fun w' hk => by
    have h9 := run_str (P := Try.prog) Try.underlying30 Try.underlying5 Try.underlying9 ((hs12.kept hWd (fun _ _ _ _ => id)).kept hk (fun _ _ _ _ => id)) (len := 4) (cap := cp)
    rw [hSX] at h9
    exact h9
  have hcv2 : ∀ w' q, w'.heap[q]? = some (.cells #[.int .u8 x, .int .u8 y, .int .u8 z, .int .u8 255] 5 (0, 0)) → (convert 30 9 (.slice (some ⟨q, 0, none⟩) 4 4)).run Try.prog w' = .ok (.string SX) w' := fun w' q hq => by
    have h9 := run_str (P := Try.prog) Try.underlying30 Try.underlying5 Try.underlying9 (slAt_blk (xs := [x, y, z, 255]) hq rfl rfl) (len := 4) (cap := 4)
    rw [hSX] at h9
    exact h9
  obtain ⟨RS, hRS⟩ : ∃ R : Value → World → Prop, R = fun v _ => v = .string SX := ⟨_, rfl⟩
  obtain ⟨RB, hRB⟩ : ∃ R : Value → World → Prop, R = fun v w' => ∃ q, v = .slice (some ⟨q, 0, none⟩) 4 4 ∧ w'.heap[q]? = some (.cells #[.int .u8 x, .int .u8 y, .int .u8 z, .int .u8 255] 5 (0, 0)) := ⟨_, rfl⟩
  obtain ⟨RF, hRF⟩ : ∃ R : Value → World → Prop, R = fun v _ => v = .agg #[.int .u8 o0, .int .u8 o1, .int .u8 o2] := ⟨_, rfl⟩
  have HRS := Lib.hid hRS
  have HRB := Lib.hid hRB
  have HRF := Lib.hid hRF
  have HCV := Lib.hid (And.intro hcv1 hcv2)
  have HWR := Lib.hid hWR
  have HKD := Lib.hid (HKW.out.then hWd)
  clear hs hk11 hk1112 hb13 hb15 hb17 hs12 hWR hWd ht hcv1 hcv2 hRS hRB hRF hSX u0 u1 u2 u3 u4 u5 u6 hmw hmh
  go_wp2_with fail
  refine (P1.out _).mono ?_
  rintro e w13 ⟨rfl, rfl⟩
  go_wp2_with fail
  refine (P2.out _).mono ?_
  rintro e w13 ⟨rfl, rfl⟩
  go_wp2_with fail
  refine (P3.out _).mono ?_
  rintro e w13 ⟨rfl, rfl⟩
  by_cases hon : o = n
  · subst hon
    have gon : decide (o = o) = true := decide_eq_true rfl
    go_wp2
    refine wp_region_grow #[0, 1, 3, 7, 15, 31, 63, 127, 255, 511, 511, 511, 511, 7679, 16383, 32767, 65535, 131071, 262143, 524287, 131071, 131071, 131071, 7471103, 15859711, 33554431, 67108863, 134217727, 268435455, 268435455, 1073741823, 2147483647, 4294967295, 4294967295, 12884901887, 34359738367, 68719476735, 137438953471, 274877906943] 39 [] (fun i => if i = 19 then some RS else if i = 23 then some RB else if i = 24 then some RS else if i = 34 then some RF else none) (by kernel_rfl) rfl (by kernel_rfl) (fun i hi => by cases hi) (fun _ _ _ _ _ h => h) ?_
    rintro _ rfl
    rw [← HWR.out]
    simp only [List.take_succ_cons, List.take_zero, List.drop_succ_cons, List.drop_zero, number, Nat.reduceAdd]
    repeat (refine wpGrow_step (fun K hK => ?_); go_simp; refine hK _ _ ?_; clear hK K)
    refine wpGrow_step (fun K hK => ?_)
    go_simp
    refine ⟨fun w' hg => (by rw [HCV.out.1 w' hg.old]; exact ⟨Kept.refl _ _, by rw [HRS.out]⟩), fun v wv hv _ => ?_⟩
    rw [HRS.out] at hv
    subst hv
    refine hK _ _ ?_; clear hK K
    repeat (refine wpGrow_step (fun K hK => ?_); go_simp; refine hK _ _ ?_; clear hK K)
    refine wpGrow_step (fun K hK => ?_)
    go_simp
    refine ⟨fun w' hg => ⟨(Kept.refl _ _).alloc _, by rw [HRB.out]; exact ⟨_, rfl, blk_new _ _⟩⟩, fun v wv hv _ => ?_⟩
    rw [HRB.out] at hv
    obtain ⟨q, rfl, hq⟩ := hv
    have HQ := Lib.hid hq
    clear hq
    refine hK _ _ ?_; clear hK K
    refine wpGrow_step (fun K hK => ?_)
    go_simp
    refine ⟨fun w' hg => (by rw [HCV.out.2 w' q (Kept.blk (hg.seen 23 (by kernel_rfl)) HQ.out id)]; exact ⟨Kept.refl _ _, by rw [HRS.out]⟩), fun v wv2 hv _ => ?_⟩
    rw [HRS.out] at hv
    subst hv
    refine hK _ _ ?_; clear hK K
    repeat (refine wpGrow_step (fun K hK => ?_); go_simp; refine hK _ _ ?_; clear hK K)
    refine wpGrow_nil ?_
    intro w3 hk3 hω
    clear hω
    go_wp2
    refine bodyPost_ret (v := .bool true) (by simp [results, Try.results8, go_sem]) rfl ⟨rfl, (HKD.out.then hk3).below⟩
  · have gon : ((o : Int) == (n : Int)) = false := by simpa using (fun h => hon (by omega))
    have gon' : decide (o = n) = false := decide_eq_false hon
    have gon'' : decide ((o : Int) = (n : Int)) = false := decide_eq_false (fun h => hon (by omega))
    have HFI := Lib.hid (HRG.out.2.2.1 hon)
    clear hon
    go_wp2
    refine wp_region_grow #[0, 1, 3, 7, 15, 31, 63, 127, 255, 511, 511, 511, 511, 7679, 16383, 32767, 65535, 131071, 262143, 524287, 131071, 131071, 131071, 7471103, 15859711, 33554431, 67108863, 134217727, 268435455, 268435455, 1073741823, 2147483647, 4294967295, 4294967295, 12884901887, 34359738367, 68719476735, 137438953471, 274877906943] 39 [] (fun i => if i = 19 then some RS else if i = 23 then some RB else if i = 24 then some RS else if i = 34 then some RF else none) (by kernel_rfl) rfl (by kernel_rfl) (fun i hi => by cases hi) (fun _ _ _ _ _ h => h) ?_
    rintro _ rfl
    rw [← HWR.out]
    simp only [List.take_succ_cons, List.take_zero, List.drop_succ_cons, List.drop_zero, number, Nat.reduceAdd]
    repeat (refine wpGrow_step (fun K hK => ?_); go_simp; refine hK _ _ ?_; clear hK K)
    refine wpGrow_step (fun K hK => ?_)
    go_simp
    refine ⟨fun w' hg => (by rw [HCV.out.1 w' hg.old]; exact ⟨Kept.refl _ _, by rw [HRS.out]⟩), fun v wv hv _ => ?_⟩
    rw [HRS.out] at hv
    subst hv
    refine hK _ _ ?_; clear hK K
    repeat (refine wpGrow_step (fun K hK => ?_); go_simp; refine hK _ _ ?_; clear hK K)
    refine wpGrow_step (fun K hK => ?_)
    go_simp
    refine ⟨fun w' hg => ⟨(Kept.refl _ _).alloc _, by rw [HRB.out]; exact ⟨_, rfl, blk_new _ _⟩⟩, fun v wv hv _ => ?_⟩
    rw [HRB.out] at hv
    obtain ⟨q, rfl, hq⟩ := hv
    have HQ := Lib.hid hq
    clear hq
    refine hK _ _ ?_; clear hK K
    refine wpGrow_step (fun K hK => ?_)
    go_simp
    refine ⟨fun w' hg => (by rw [HCV.out.2 w' q (Kept.blk (hg.seen 23 (by kernel_rfl)) HQ.out id)]; exact ⟨Kept.refl _ _, by rw [HRS.out]⟩), fun v wv2 hv _ => ?_⟩
    rw [HRS.out] at hv
    subst hv
    refine hK _ _ ?_; clear hK K
    repeat (refine wpGrow_step (fun K hK => ?_); go_simp; refine hK _ _ ?_; clear hK K)
    refine wpGrow_step (fun K hK => ?_)
    go_simp
    refine ⟨fun w' hg => (first_any (o : Int) w').mono (fun e w'' ⟨he, hk⟩ => ⟨_, he, hk, by rw [HRF.out]; exact HFI.out⟩), fun v wv3 hv _ => ?_⟩
    rw [HRF.out] at hv
    subst hv
    refine hK _ _ ?_; clear hK K
    repeat (refine wpGrow_step (fun K hK => ?_); go_simp; refine hK _ _ ?_; clear hK K)
    refine wpGrow_nil ?_
    intro w3 hk3 hω
    clear hω
    go_wp2
    refine bodyPost_ret (v := .bool true) (by simp [results, Try.results8, go_sem]) rfl ⟨rfl, (HKD.out.then hk3).below⟩
end Go.Proofs.Ytomcjdonacckfaa
