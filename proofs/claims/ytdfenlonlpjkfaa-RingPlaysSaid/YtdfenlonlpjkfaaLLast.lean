/- The law of the last ones, walked. -/
import Derived.Test.YtdfenlonlpjkfaaKnown
import Derived.Test.YtdfenlonlpjkfaaOpen
import Derived.Deep.LoopGhost
namespace Go.Proofs.Ytdfenlonlpjkfaa
open Go.RowKit
set_option linter.unusedVariables false
set_option linter.unusedSimpArgs false
def I64 (x : Int) : Prop := -9223372036854775808 ≤ x ∧ x ≤ 9223372036854775807
theorem int_of_wf {n : Int} (h : (Lit.int .i64 n).wf = true) : -9223372036854775808 ≤ n ∧ n ≤ 9223372036854775807 := by
  simpa [Lit.wf, IntKind.min, IntKind.max, IntKind.signed, IntKind.bits] using h
/-- A push, by what the ring looks like. -/
theorem push_last (l : List Int) (most i q n at' : Nat) (xs : List Value) (o : Option Nat) (w : World) (hn : n = i - min i most) (h : RAt 48 3 w q most at' n xs o) (hl : Last l most i xs at') (hm : most ≤ 65536) (hi : i ≤ 300) :
    Calls Try.prog 8 #[.pointer (some ⟨q, 0, none⟩), .int .i64 (l.getD i 0)] w fun e w' => ∃ at2 xs2 o2, e = .returned (.tuple #[.int .i64 (if most ≤ i then l.getD n 0 else 0), .bool (decide (most ≤ i))]) ∧ RAt 48 3 w' q most at2 (i + 1 - min (i + 1) most) xs2 o2 ∧ Last l most (i + 1) xs2 at2 ∧ Ext w q o o2 w' := by
  by_cases h0 : most = 0
  · subst h0
    have e : n = i := by omega
    subst e
    refine (ipush_zero q at' n xs o _ w h (by omega)).mono fun e w' ⟨he, hr, hk⟩ => ⟨at', xs, o, by rw [he, if_pos (by omega), decide_eq_true (by omega)], by rw [show n + 1 - min (n + 1) 0 = n + 1 by omega]; exact hr, last_zero l n hl, Ext.of hk⟩
  · by_cases h1 : i < most
    · obtain ⟨rfl, h2⟩ := last_room hl h1
      have hx := hl.1
      refine (ipush_room q most n xs o _ w h (by omega) hm).mono fun e w' ⟨he, o2, hr, hx⟩ => ⟨0, _, o2, by rw [he, if_neg (by omega), decide_eq_false (by omega)], by rw [show i + 1 - min (i + 1) most = n by omega]; exact hr, h2, hx⟩
    · obtain ⟨a1, a2, a3, a4⟩ := last_full hl (by omega) (by omega)
      refine (ipush_full q most at' n xs o _ _ w h a1 (by omega) hm a2 (by omega) a3).mono fun e w' ⟨he, hr, hk⟩ => ⟨_, _, o, by rw [he, if_pos (by omega), decide_eq_true (by omega), show i - most = n by omega], by rw [show i + 1 - min (i + 1) most = n + 1 by omega]; exact hr, a4, hk, .inl rfl⟩

set_option maxRecDepth 100000 in
set_option maxHeartbeats 4000000 in
theorem last_early (most : Int) (a : Option Addr) (len cap : Nat) (w : World) (h : 300 < len ∨ most < 0 ∨ 65536 < most) : Calls Try.prog 3 #[.int .i64 most, .slice a len cap] w fun e w' => e = .returned (.bool true) ∧ Kept (fun _ => False) w w' := by
  by_cases z0 : 300 < len
  · have g0 : decide ((300 : Int) < (len : Int)) = true := decide_eq_true (by omega)
    clear h
    go_enter Try.func3, Try.ntmps3
    go_wp2_with fail
    refine (known_any _).mono ?_; rintro e w1 ⟨rfl, hk⟩
    have K1 := Lib.hid hk
    clear hk
    go_wp2
    go_ret
    exact ⟨rfl, K1.out⟩
  have g0 : decide ((300 : Int) < (len : Int)) = false := decide_eq_false (by omega)
  by_cases z1 : most < 0
  · have g1 : decide (most < 0) = true := decide_eq_true (by omega)
    clear h
    go_enter Try.func3, Try.ntmps3
    go_wp2_with fail
    refine (known_any _).mono ?_; rintro e w1 ⟨rfl, hk⟩
    have K1 := Lib.hid hk
    clear hk
    go_wp2
    go_ret
    exact ⟨rfl, K1.out⟩
  have g1 : decide (most < 0) = false := decide_eq_false (by omega)
  have g2 : decide (65536 < most) = true := decide_eq_true (by omega)
  clear h
  go_enter Try.func3, Try.ntmps3
  go_wp2_with fail
  refine (known_any _).mono ?_; rintro e w1 ⟨rfl, hk⟩
  have K1 := Lib.hid hk
  clear hk
  go_wp2
  go_ret
  exact ⟨rfl, K1.out⟩

set_option maxRecDepth 100000 in
set_option maxHeartbeats 4000000 in
theorem pops_early (most : Int) (a : Option Addr) (len cap : Nat) (w : World) (h : 300 < len ∨ most < 0 ∨ 65536 < most) : Calls Try.prog 4 #[.int .i64 most, .slice a len cap] w fun e w' => e = .returned (.bool true) ∧ Kept (fun _ => False) w w' := by
  by_cases z0 : 300 < len
  · have g0 : decide ((300 : Int) < (len : Int)) = true := decide_eq_true (by omega)
    clear h
    go_enter Try.func4, Try.ntmps4
    go_wp2_with fail
    refine (known_any _).mono ?_; rintro e w1 ⟨rfl, hk⟩
    have K1 := Lib.hid hk
    clear hk
    go_wp2
    go_ret
    exact ⟨rfl, K1.out⟩
  have g0 : decide ((300 : Int) < (len : Int)) = false := decide_eq_false (by omega)
  by_cases z1 : most < 0
  · have g1 : decide (most < 0) = true := decide_eq_true (by omega)
    clear h
    go_enter Try.func4, Try.ntmps4
    go_wp2_with fail
    refine (known_any _).mono ?_; rintro e w1 ⟨rfl, hk⟩
    have K1 := Lib.hid hk
    clear hk
    go_wp2
    go_ret
    exact ⟨rfl, K1.out⟩
  have g1 : decide (most < 0) = false := decide_eq_false (by omega)
  have g2 : decide (65536 < most) = true := decide_eq_true (by omega)
  clear h
  go_enter Try.func4, Try.ntmps4
  go_wp2_with fail
  refine (known_any _).mono ?_; rintro e w1 ⟨rfl, hk⟩
  have K1 := Lib.hid hk
  clear hk
  go_wp2
  go_ret
  exact ⟨rfl, K1.out⟩

set_option maxRecDepth 100000 in
set_option maxHeartbeats 4000000 in
theorem last_near (most : Nat) (l : List Int) (a : Option Addr) (len cap : Nat) (w : World) (hs : SlAt .i64 w a len l) (hl : len ≤ 300) (hm : most ≤ 65536) : Calls Try.prog 3 #[.int .i64 most, .slice a len cap] w fun e w' => e = .returned (.bool true) ∧ Kept (fun _ => False) w w' := by
  have g0 : decide ((300 : Int) < (len : Int)) = false := decide_eq_false (by omega)
  have g1 : decide ((most : Int) < 0) = false := decide_eq_false (by omega)
  have g2 : decide (65536 < (most : Int)) = false := decide_eq_false (by omega)
  have HS := Lib.hid hs
  clear hs
  go_enter Try.func3, Try.ntmps3
  go_wp2_with fail
  refine (known_any _).mono ?_; rintro e w1 ⟨rfl, hk⟩
  have K1 := Lib.hid hk
  clear hk
  go_wp2_with fail
  refine (inew_yes most _ hm).mono ?_; rintro e w2 ⟨rfl, hr, hk⟩
  have K2 := Lib.hid (K1.out.then hk)
  obtain ⟨q, hq⟩ : ∃ q, w1.heap.size = q := ⟨_, rfl⟩
  have hqw : w.heap.size ≤ q := by have := K1.out.size; omega
  rw [hq] at hr ⊢
  have HR := Lib.hid hr
  clear hr hk hq g0 g1 g2
  go_wp2
  go_loopg [7, 8, 9, 10] len (fun gg nv iv _ _ wr => ∃ (i n at' : Nat) (xs : List Value) (o : Option Nat), len ≤ gg + i ∧ i ≤ len ∧ n = i - min i most ∧ nv = .int .i64 (n : Int) ∧ iv = .int .i64 (i : Int) ∧ RAt 48 3 wr q most at' n xs o ∧ Last l most i xs at' ∧ Kept (fun _ => False) w wr ∧ ∀ b, o = some b → w.heap.size ≤ b)
  case atStart => exact ⟨0, 0, 0, [], none, by omega, by omega, by omega, rfl, rfl, HR.out, last_0 l most, K2.out, fun b h => by cases h⟩
  case round =>
    obtain ⟨i, n, at', xs, o, hgg, hil, hn, rfl, rfl, hr, hlast, hk, ho⟩ := hrel
    by_cases hi : i < len
    · have gi : decide (i < len) = true := decide_eq_true hi
      obtain ⟨b, off, rfl, hc⟩ := (HS.out.kept hk (fun _ _ _ _ => id)).2.resolve_left (by omega)
      have hci := hc i hi
      obtain ⟨t, ht⟩ : ∃ t, l.getD i 0 = t := ⟨_, rfl⟩
      have hnlt : n < len := by omega
      have hcn := hc n hnlt
      rw [ht] at hci
      have HK := Lib.hid hk
      have HO := Lib.hid ho
      have HC := Lib.hid hc
      have w1' : IntKind.i64.wrap ((i : Int) + 1) = (i : Int) + 1 := IntWalk.i64_in _ (by omega)
      have w2' : IntKind.i64.wrap ((n : Int) + 1) = (n : Int) + 1 := IntWalk.i64_in _ (by omega)
      have li : (i : Int) < (len : Int) := by omega
      have ln : (n : Int) < (len : Int) := by omega
      clear hk ho hc
      have hq0 : q < wr.heap.size := hr.lt.1
      have HP := Lib.hid (push_last l most i q n at' xs o wr hn hr hlast hm (by omega))
      have HN := Lib.hid hn
      rw [ht] at HP
      clear hr hlast hn ht hcn
      by_cases hmi : most ≤ i
      · have gm : decide (most ≤ i) = true := decide_eq_true hmi
        rw [if_pos hmi, decide_eq_true hmi] at HP
        obtain ⟨z, hz⟩ : ∃ z, l.getD n 0 = z := ⟨_, rfl⟩
        rw [hz] at HP
        have HN2 := Lib.hid (show n + 1 = i + 1 - min (i + 1) most by have := HN.out; omega)
        clear hmi
        go_wp2_with fail
        refine HP.out.mono ?_; rintro e w3 ⟨at2, xs2, o2, rfl, hr3, hl3, k3⟩
        have KK := Lib.hid (HK.out.trans (k3.1.mono fun j hj hs => hs.elim (fun h => Or.inr (by omega)) (fun h => Or.inr (HO.out j h))))
        rw [← HN2.out] at hr3
        have HR3 := Lib.hid hr3
        have HL3 := Lib.hid hl3
        have HO3 := Lib.hid (show ∀ b, o2 = some b → w.heap.size ≤ b from fun b hb => by
          rcases k3.2 with h | ⟨c, h, h2⟩
          · exact HO.out b (by rw [← h, hb])
          · rw [hb] at h; cases h; omega)
        obtain ⟨b', off', he, hc3⟩ := (HS.out.kept KK.out (fun _ _ _ _ => id)).2.resolve_left (by omega)
        cases he
        have hcn := hc3 n hnlt
        rw [hz] at hcn
        clear hr3 hl3 k3 hci hc3 hz
        go_wp2
        go_roundg (gk - 1)
        case rel => exact ⟨i + 1, n + 1, at2, xs2, o2, by omega, by omega, by have := HN2.out; omega, by go_num, by go_num, HR3.out, HL3.out, KK.out, HO3.out⟩
        case measure => omega
      · have gm : decide (most ≤ i) = false := decide_eq_false hmi
        rw [if_neg hmi, decide_eq_false hmi] at HP
        have HN2 := Lib.hid (show n = i + 1 - min (i + 1) most by have := HN.out; omega)
        clear hmi
        go_wp2_with fail
        refine HP.out.mono ?_; rintro e w3 ⟨at2, xs2, o2, rfl, hr3, hl3, k3⟩
        have KK := Lib.hid (HK.out.trans (k3.1.mono fun j hj hs => hs.elim (fun h => Or.inr (by omega)) (fun h => Or.inr (HO.out j h))))
        rw [← HN2.out] at hr3
        have HR3 := Lib.hid hr3
        have HL3 := Lib.hid hl3
        have HO3 := Lib.hid (show ∀ b, o2 = some b → w.heap.size ≤ b from fun b hb => by
          rcases k3.2 with h | ⟨c, h, h2⟩
          · exact HO.out b (by rw [← h, hb])
          · rw [hb] at h; cases h; omega)
        clear hr3 hl3 k3 hci
        go_wp2
        go_roundg (gk - 1)
        case rel => exact ⟨i + 1, n, at2, xs2, o2, by omega, by omega, by have := HN2.out; omega, rfl, by go_num, HR3.out, HL3.out, KK.out, HO3.out⟩
        case measure => omega
    · obtain rfl : i = len := by omega
      have gi : decide (i < i) = false := decide_eq_false (by omega)
      obtain ⟨m, hm'⟩ : ∃ m, min i most = m := ⟨_, rfl⟩
      have hxl := hlast.1
      have hlk := hlast.2.2.2
      have ham : 0 < m → at' < m := fun h => by
        rcases Nat.lt_or_ge i most with h9 | h9
        · rw [hlast.2.1 (by omega)]; exact h
        · have := hlast.2.2.1 (by omega); omega
      rw [hm'] at hn hxl hlk
      have HR := Lib.hid hr
      have HK := Lib.hid hk
      have HO := Lib.hid ho
      have HLK := Lib.hid hlk
      have HXL := Lib.hid hxl
      have HN := Lib.hid hn
      have HNM := Lib.hid (show n + m = i by omega)
      clear hr hlast hk ho hn hlk hxl hgg hil hm'
      go_wp2
      go_loopg [11, 12, 13] m (fun gg jv _ _ wx => ∃ j : Nat, m ≤ gg + j ∧ j ≤ m ∧ jv = .int .i64 (j : Int) ∧ Kept (fun _ => False) wr wx)
      case atStart => exact ⟨0, by omega, by omega, rfl, Kept.refl _ _⟩
      case round =>
        obtain ⟨j, hgj, hjm, rfl, hkx⟩ := hrel
        have HRX := Lib.hid (HR.out.up hkx)
        have HKX := Lib.hid hkx
        clear hkx
        go_wp2_with fail
        refine (ilen_any q most at' n xs o _ HRX.out).mono ?_; rintro e w4 ⟨rfl, rfl⟩
        rw [HXL.out]
        by_cases hj : j < m
        · have gj : decide (j < m) = true := decide_eq_true hj
          have hxv := HLK.out j hj
          have hlen := HNM.out
          obtain ⟨z, hz⟩ : ∃ z, l.getD (n + j) 0 = z := ⟨_, rfl⟩
          rw [show i - m + j = n + j by omega, hz] at hxv
          have HA := Lib.hid (iat_yes q most at' n xs o j (.int .i64 z) _ HRX.out (by rw [HXL.out]; exact hj) (by rw [HXL.out]; exact ham (by omega)) (by rw [HXL.out]; omega) (by rw [HXL.out]; exact hxv))
          have w3' : IntKind.i64.wrap ((n : Int) + (j : Int)) = (n : Int) + (j : Int) := IntWalk.i64_in _ (by omega)
          have w4' : IntKind.i64.wrap ((j : Int) + 1) = (j : Int) + 1 := IntWalk.i64_in _ (by omega)
          have l1 : 0 ≤ (n : Int) + (j : Int) := by omega
          have l2 : (n : Int) + (j : Int) < (i : Int) := by omega
          have t1 : ((n : Int) + (j : Int)).toNat = n + j := by omega
          clear hxv hlen
          go_wp2_with fail
          refine HA.out.mono ?_; rintro e w5 ⟨rfl, k5⟩
          have HK5 := Lib.hid (HKX.out.then k5)
          obtain ⟨b, off, rfl, hc⟩ := (HS.out.kept (HK.out.then HK5.out) (fun _ _ _ _ => id)).2.resolve_left (by omega)
          have hcn := hc (n + j) (by omega)
          rw [hz] at hcn
          clear k5 hc hz
          go_wp2
          go_roundg (gk - 1)
          case rel => exact ⟨j + 1, by omega, by omega, by go_num, HK5.out⟩
          case measure => omega
        · obtain rfl : j = m := by omega
          have gj : decide (j < j) = false := decide_eq_false (by omega)
          have hlen : (n : Int) + (j : Int) = (i : Int) := by have := HNM.out; omega
          have hb : ((i : Int) == (i : Int)) = true := by simp
          have wi : IntKind.i64.wrap (i : Int) = (i : Int) := IntWalk.i64_in _ (by omega)
          go_wp2_with fail
          refine (ilen_any q most at' n xs o _ HRX.out).mono ?_; rintro e w5 ⟨rfl, rfl⟩
          rw [HXL.out]
          go_wp2_with fail
          refine (igone_any q most at' n xs o _ HRX.out).mono ?_; rintro e w6 ⟨rfl, rfl⟩
          go_wp2
          go_ret
          exact ⟨rfl, HK.out.then HKX.out⟩
theorem law_last {{a0 : Int}} {{a : Option Addr}} {{len cap : Nat}} {{z : List Int}} {{w : World}} (f0 : (Lit.int .i64 a0).wf = true) (f1 : IsRow .i64 w a len cap z) :
    Calls Try.prog 3 #[.int .i64 a0, .slice a len cap] w fun e w' => e = .returned (.bool true) ∧ Below w.heap.size w w' := by
  refine Calls.mono (R := fun e w' => e = .returned (.bool true) ∧ Kept (fun _ => False) w w') ?_ fun _ _ h => ⟨h.1, h.2.below⟩
  by_cases h : 300 < len ∨ a0 < 0 ∨ 65536 < a0
  · exact last_early a0 a len cap w h
  · obtain ⟨m, rfl⟩ : ∃ m : Nat, a0 = m := ⟨a0.toNat, by omega⟩
    exact last_near m (z.take len) a len cap w f1.slAt.1 (by omega) (by omega)

end Go.Proofs.Ytdfenlonlpjkfaa
