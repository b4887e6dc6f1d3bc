/- Any bytes go to text and back: the law, whole. -/
import Derived.Test.YtgmbjebighhgkaaLBackA
import Derived.Test.YtgmbjebighhgkaaLBackB
import Derived.Test.YtgmbjebighhgkaaLBackC
namespace Go.Proofs.Ytgmbjebighhgkaa
open Go.RowKit
set_option linter.unusedVariables false
set_option linter.unusedSimpArgs false
set_option maxRecDepth 100000 in
set_option maxHeartbeats 4000000 in
theorem back_long (a0 a1 : Option Addr) (l0 c0 l1 c1 : Nat) (bare : Bool) (w : World) (h : 4096 < l0 ∨ 100 < l1) :
    Calls Try.prog 4 #[.slice a0 l0 c0, .slice a1 l1 c1, .bool bare] w fun e w' => e = .returned (.bool true) ∧ Kept (fun _ => False) w w' := by
  by_cases h0 : 4096 < l0
  · have g0 : decide (4096 < (l0 : Int)) = true := decide_eq_true (by omega)
    clear h h0
    go_enter Try.func4, Try.ntmps4
    go_wp2_with fail
    refine (known_any w).mono ?_
    rintro e w1 ⟨rfl, hk1⟩
    have HK1 := Lib.hid hk1
    clear hk1
    go_wp2
    exact bodyPost_ret (v := .bool true) (by simp [results, Try.results4, go_sem]) rfl ⟨rfl, HK1.out⟩
  · have g0 : decide (4096 < (l0 : Int)) = false := decide_eq_false (by omega)
    have g2 : decide (100 < (l1 : Int)) = true := decide_eq_true (by omega)
    clear h h0
    go_enter Try.func4, Try.ntmps4
    go_wp2_with fail
    refine (known_any w).mono ?_
    rintro e w1 ⟨rfl, hk1⟩
    have HK1 := Lib.hid hk1
    clear hk1
    go_wp2
    exact bodyPost_ret (v := .bool true) (by simp [results, Try.results4, go_sem]) rfl ⟨rfl, HK1.out⟩
theorem law_back {a0 a1 : Option Addr} {l0 c0 l1 c1 : Nat} {z0 z1 : List Int} {bare : Bool} {w : World} (f0 : IsRow .u8 w a0 l0 c0 z0) (f1 : IsRow .i64 w a1 l1 c1 z1) :
    Calls Try.prog 4 #[.slice a0 l0 c0, .slice a1 l1 c1, .bool bare] w fun e w' => e = .returned (.bool true) ∧ Below w.heap.size w w' := by
  obtain ⟨bs, s0, b0, hbl, k0, m0, n0, e0⟩ := row_ints f0
  obtain ⟨s1, q1, q2, q3, q4, q5⟩ := f1.slAt
  have key : Calls Try.prog 4 #[.slice a0 l0 c0, .slice a1 l1 c1, .bool bare] w fun e w' => e = .returned (.bool true) ∧ Kept (fun _ => False) w w' := by
    by_cases hl : 4096 < l0 ∨ 100 < l1
    · exact back_long a0 a1 l0 c0 l1 c1 bare w hl
    · have hcr : ∀ n ∈ z1.take l1, -9223372036854775808 ≤ n ∧ n ≤ 9223372036854775807 := fun n hn => int_of_wf (q3 n hn)
      cases hb : bare with
      | false => exact back_goA a0 a1 l0 c0 l1 c1 false bs (z1.take l1) w s0 b0 n0 (by omega) k0 m0 s1 hcr (by omega) rfl
      | true =>
        by_cases hz : (bareOf bs).length = 0
        · exact back_goB a0 a1 l0 c0 l1 c1 true bs (z1.take l1) w s0 b0 n0 (by omega) k0 m0 s1 hcr (by omega) ⟨rfl, hz⟩
        · exact back_goC a0 a1 l0 c0 l1 c1 true bs (z1.take l1) w s0 b0 n0 (by omega) k0 m0 s1 hcr (by omega) ⟨rfl, by omega⟩
  exact key.mono fun e w' ⟨h, k⟩ => ⟨h, k.below⟩
end Go.Proofs.Ytgmbjebighhgkaa
