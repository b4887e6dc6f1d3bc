/- Any row: both functions tell the same samples. -/
import Derived.Test.YtgpgjpmgnbaneaaKnown
namespace Go.Proofs.Ytgpgjpmgnbaneaa
open Go.RowKit Pl
set_option linter.unusedVariables false

set_option maxRecDepth 100000 in
set_option maxHeartbeats 4000000 in
theorem samples_go (a : Option Addr) (len cap : Nat) (d n p q : Int) (xs : List Int) (w : World) (hl : len ≤ 2048) (hs : SlAt .u8 w a len xs) (hb : Pl.Bytes xs) :
    Calls Try.prog 4 #[.slice a len cap, .int .i64 d, .int .i64 n, .int .i64 p, .int .i64 q] w fun e w' => e = .returned (.bool true) ∧ Kept (fun _ => False) w w' := by
  have g1 : decide (2048 < (len : Int)) = false := decide_eq_false (by omega)
  have HS := Lib.hid hs
  clear hs
  go_enter Try.func4, Try.ntmps4
  go_wp2_with fail
  refine (known_any _).mono ?_; rintro e w0 ⟨rfl, hk0⟩
  have HS0 := Lib.hid (HS.out.kept hk0 (fun _ _ _ _ => id))
  go_wp2_with fail
  refine (samples_any a len cap d n xs _ hl HS0.out hb).mono ?_
  rintro e w1 ⟨v1, rfl, ho1, hk1, hf1⟩
  have HS1 := Lib.hid (HS0.out.kept hk1 (fun _ _ _ _ => id))
  have HO1 := Lib.hid ho1
  have HF1 := Lib.hid hf1
  clear ho1 hf1
  go_wp2_with fail
  refine (refSamples_any a len cap d n xs _ hl HS1.out hb).mono ?_
  rintro e w2 ⟨v2, rfl, ho2, hk2, hf2⟩
  have hkw := (hk0.then hk1).then hk2
  obtain ⟨a1, c1, rfl, hs1, -⟩ := (HO1.out.kept hk2 (fun _ _ => id)).shape
  obtain ⟨a2, c2, rfl, hs2, hq1, hq2, -⟩ := ho2.shape
  unfold maxLen at hq2
  have H1 := Lib.hid hs1
  have H2 := Lib.hid hs2
  obtain ⟨L, hL⟩ : ∃ L, (resS xs d n).length = L := ⟨_, rfl⟩
  rw [hL] at H1 H2 hq1 ⊢
  have hLm : L ≤ 9223372036854775807 := by omega
  clear hq1 hq2
  obtain ⟨cd, hcd⟩ : ∃ z, codeS len d n = z := ⟨_, rfl⟩
  rw [hcd]
  clear ho2 hf2 hs1 hs2 hk0 hk1 hk2 hcd hL HF1 HO1
  go_wp2_with (first
    | (go_at_call 13; refine (row_any p q d _).mono ?_; rintro e w' ⟨rfl, rfl⟩)
    | (go_at_call 14; refine (refRow_any p q d _).mono ?_; rintro e w' ⟨rfl, rfl⟩))
  go_loopw [15] (fun i wr => ∃ k m : Nat, k ≤ L ∧ i = .int .i64 k ∧ wr = w2.drewN m) (fun i _ => L - (intOf i).toNat)
  case atStart => exact ⟨0, 0, by omega, rfl, (World.drewN_zero _).symm⟩
  case round =>
    obtain ⟨k, m, hk, rfl, rfl⟩ := hrel
    by_cases hkl : k < L
    · obtain ⟨b1, o1, rfl, hc1⟩ := H1.out.2.resolve_left (by omega)
      obtain ⟨b2, o2, rfl, hc2⟩ := H2.out.2.resolve_left (by omega)
      have x1 := hc1 k hkl
      have x2 := hc2 k hkl
      obtain ⟨z, hz⟩ : ∃ z, (resS xs d n).getD k 0 = z := ⟨_, rfl⟩
      rw [hz] at x1 x2
      have s1 : (0 : Int) ≤ (k : Int) := by omega
      have s2 : (k : Int) < (L : Int) := by omega
      clear hc1 hc2 hz
      go_wp2
      go_quiet (fail)
      go_wp2
      go_roundw
      case rel => exact ⟨k + 1, _, by omega, by go_num, rfl⟩
      case measure => simp [intOf]; omega
    · obtain rfl : k = L := by omega
      go_wp2
      go_ret
      exact ⟨rfl, hkw.drewN _⟩
set_option maxRecDepth 100000 in
set_option maxHeartbeats 1000000 in
theorem samples_early (a : Option Addr) (len cap : Nat) (d n p q : Int) (w : World) (h : 2048 < len) :
    Calls Try.prog 4 #[.slice a len cap, .int .i64 d, .int .i64 n, .int .i64 p, .int .i64 q] w fun e w' => e = .returned (.bool true) ∧ Kept (fun _ => False) w w' := by
  have g1 : decide (2048 < (len : Int)) = true := decide_eq_true (by omega)
  go_enter Try.func4, Try.ntmps4
  go_wp2_with fail
  refine (known_any _).mono ?_; rintro e w0 ⟨rfl, hk0⟩
  go_wp2
  go_ret
  exact ⟨rfl, hk0⟩
theorem law_samples {a : Option Addr} {len cap : Nat} {zs : List Int} {d n p q : Int} {w : World} (f0 : IsRow .u8 w a len cap zs) (f1 : (Lit.int .i64 d).wf = true) (f2 : (Lit.int .i64 n).wf = true) (f3 : (Lit.int .i64 p).wf = true) (f4 : (Lit.int .i64 q).wf = true) :
    Calls Try.prog 4 #[.slice a len cap, .int .i64 d, .int .i64 n, .int .i64 p, .int .i64 q] w fun e w' => e = .returned (.bool true) ∧ Below w.heap.size w w' := by
  refine Calls.mono (R := fun e w' => e = .returned (.bool true) ∧ Kept (fun _ => False) w w') ?_ fun _ _ h => ⟨h.1, h.2.below⟩
  obtain ⟨s, c, m, b, l, hn⟩ := f0.slAt
  by_cases h : len ≤ 2048
  · exact samples_go a len cap d n p q _ w h s (bytes_of_wf b)
  · exact samples_early a len cap d n p q w (by omega)
end Go.Proofs.Ytgpgjpmgnbaneaa
