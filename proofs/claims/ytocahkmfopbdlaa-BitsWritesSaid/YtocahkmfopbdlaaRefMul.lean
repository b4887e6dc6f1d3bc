/- The reference product: what it computes. -/
import Derived.Test.YtocahkmfopbdlaaProducts
namespace Go.Proofs.Ytocahkmfopbdlaa
open Go.RowKit Pl
set_option linter.unusedVariables false
theorem bad_ref {p v : Int} (h0 : 0 ≤ p) (h1 : p ≤ 1099511627776) : Bad p v ↔ v < 0 ∨ (0 < p ∧ 1099511627776 / p < v) := by
  unfold Bad
  by_cases hv : v < 0
  · simp [hv]
  · by_cases hv0 : v = 0
    · subst hv0
      simp only [Int.lt_irrefl, false_or, false_and, false_iff, not_and, Int.not_lt]
      intro hp
      exact Int.ediv_nonneg (by omega) (by omega)
    · have hv1 : 0 < v := by omega
      by_cases hp : 0 < p
      · simp only [hv, hv1, hp, true_and, false_or]
        rw [Int.ediv_lt_iff_lt_mul hv1, Int.ediv_lt_iff_lt_mul hp, Int.mul_comm]
      · have : p = 0 := by omega
        subst this
        simp only [hv, hv1, false_or, true_and, Int.lt_irrefl, false_and, iff_false, Int.not_lt]
        exact Int.ediv_nonneg (by omega) (by omega)
theorem retM {r r' : Int × Bool} (h : r = r') : Ending.returned (.tuple #[.int .i64 r'.1, .bool r'.2]) = .returned (.tuple #[.int .i64 r.1, .bool r.2]) := by rw [h]
set_option maxRecDepth 100000 in
set_option maxHeartbeats 2000000 in
theorem refMul_any (a : Option Addr) (len cap : Nat) (xs : List Int) (w : World) (hs : SlAt .i64 w a len xs) (hl : len ≤ 9223372036854775807) (hr : ∀ n ∈ xs, -9223372036854775808 ≤ n ∧ n ≤ 9223372036854775807) :
    Calls Try.prog 18 #[.slice a len cap] w fun e w' => e = .returned (.tuple #[.int .i64 (mulGo 1 xs).1, .bool (mulGo 1 xs).2]) ∧ ∃ n, w' = w.drewN n := by
  have hxl := hs.1
  go_enter Try.func18, Try.ntmps18
  go_wp2
  go_loopw [4, 5] (fun o i wr => ∃ (k d : Nat) (out : Int), k ≤ len ∧ i = .int .i64 k ∧ o = .int .i64 out ∧ 0 ≤ out ∧ out ≤ 1099511627776 ∧ mulGo 1 xs = mulGo out (xs.drop k) ∧ wr = w.drewN d) (fun _ i _ => len - (intOf i).toNat)
  case atStart => exact ⟨0, 0, 1, by omega, rfl, rfl, by omega, by omega, rfl, rfl⟩
  case round =>
    obtain ⟨k, d, out, hk, rfl, rfl, h0, ho, hm, rfl⟩ := hrel
    have HM := Lib.hid hm
    clear hm
    by_cases hkl : k < len
    · obtain ⟨b, off, rfl, hc⟩ := hs.2.resolve_left (by omega)
      have hcell := hc k hkl
      have hkx : k < xs.length := by omega
      obtain ⟨v, hv⟩ : ∃ v, v = xs.getD k 0 := ⟨_, rfl⟩
      have hrv := hr v (by rw [hv, List.getD_eq_getElem?_getD, List.getElem?_eq_getElem hkx]; exact List.getElem_mem _)
      have hd : xs.drop k = v :: xs.drop (k + 1) := by rw [List.drop_eq_getElem_cons hkx, hv]; simp [hkx]
      rw [← hv] at hcell
      have HD := Lib.hid hd
      have hbr := bad_ref (v := v) h0 ho
      have hst := fun h => mul_step h0 ho (v := v) h
      have hci : (k : Int) < (len : Int) := by omega
      clear hv hd hc hs hr hxl
      by_cases hbad : Bad out v
      · have e := Lib.hid (show mulGo 1 xs = (0, false) by rw [HM.out, HD.out]; exact if_pos hbad)
        have hb := hbr.1 hbad
        clear hbr hst hbad
        rcases hb with hb | ⟨hb1, hb2⟩
        · go_wp2
          go_quiet (fail)
          go_wp2
          go_ret2
          exact ⟨retM e.out, _, World.drewN_drewN _ _ _⟩
        · by_cases hvn : v < 0
          · go_wp2
            go_quiet (fail)
            go_wp2
            go_ret2
            exact ⟨retM e.out, _, World.drewN_drewN _ _ _⟩
          · have hv0 : out ≠ 0 := by omega
            have g1 : decide (v < 0) = false := by simpa using hvn
            go_wp2
            have q1 : IntKind.i64.wrap ((1099511627776 : Int) / out) = 1099511627776 / out := IntWalk.i64_in _ (by have := Int.ediv_nonneg (show (0 : Int) ≤ 1099511627776 by omega) h0; have := Int.ediv_le_self (b := out) (show (0 : Int) ≤ 1099511627776 by omega) ; omega)
            go_quiet (fail)
            go_wp2
            go_ret2
            exact ⟨retM e.out, _, World.drewN_drewN _ _ _⟩
      · have e := Lib.hid (show mulGo 1 xs = mulGo (out * v) (xs.drop (k + 1)) by rw [HM.out, HD.out]; exact if_neg hbad)
        have hst := hst hbad
        have hb : ¬ v < 0 ∧ ¬ (0 < out ∧ 1099511627776 / out < v) := by
          constructor
          · exact fun h => hbad (hbr.2 (.inl h))
          · exact fun h => hbad (hbr.2 (.inr h))
        obtain ⟨hb1, hb2⟩ := hb
        have g1 : decide (v < 0) = false := by simpa using hb1
        clear hbr hbad
        by_cases hp : 0 < out
        · have hb3 : ¬ 1099511627776 / out < v := fun h => hb2 ⟨hp, h⟩
          have g2 : decide (1099511627776 / out < v) = false := by simpa using hb3
          have hv0 : out ≠ 0 := by omega
          clear hb2
          go_wp2
          have q1 : IntKind.i64.wrap ((1099511627776 : Int) / out) = 1099511627776 / out := IntWalk.i64_in _ (by have := Int.ediv_nonneg (show (0 : Int) ≤ 1099511627776 by omega) h0; have := Int.ediv_le_self (b := out) (show (0 : Int) ≤ 1099511627776 by omega) ; omega)
          go_quiet (fail)
          go_wp2
          go_roundw
          case rel => exact ⟨k + 1, _, _, by omega, by go_num, rfl, hst.1, hst.2, e.out, rfl⟩
          case measure => simp [intOf]; omega
        · have g2 : decide (0 < out) = false := by simpa using hp
          clear hb2
          go_wp2
          go_quiet (fail)
          go_wp2
          go_roundw
          case rel => exact ⟨k + 1, _, _, by omega, by go_num, rfl, hst.1, hst.2, e.out, rfl⟩
          case measure => simp [intOf]; omega
    · have hd : xs.drop k = [] := List.drop_eq_nil_of_le (by omega)
      have e := Lib.hid (show mulGo 1 xs = (out, true) by rw [HM.out, hd]; rfl)
      clear hd
      go_wp2
      go_ret2
      exact ⟨retM e.out, _, rfl⟩
end Go.Proofs.Ytocahkmfopbdlaa
