/- A number's digits: decimal. -/
import Derived.Test.YtomcjdonacckfaaFeedP
import Derived.Test.YtomcjdonacckfaaStr
namespace Go.Proofs.Ytomcjdonacckfaa
open Go.RowKit
set_option linter.unusedVariables false
set_option linter.unusedSimpArgs false
/-- The string of a list of bytes. -/
def nstr (x : List Nat) : ByteArray := strOfNums (ints x)
theorem strOf_append (x y : List Int) : strOfNums x ++ strOfNums y = strOfNums (x ++ y) := by
  unfold strOfNums
  rw [List.map_append, ← List.append_toArray]
  exact ByteArray.ext ByteArray.data_append
theorem strOf_size (x : List Int) : (strOfNums x).size = x.length := by
  unfold strOfNums
  show (List.toArray _).size = _
  simp
theorem ints_append (x y : List Nat) : ints (x ++ y) = ints x ++ ints y := List.map_append
theorem nstr_append (x y : List Nat) : nstr x ++ nstr y = nstr (x ++ y) := by unfold nstr; rw [strOf_append, ints_append]
theorem run_sadd {P : Program} (x y : List Int) (h : x.length + y.length ≤ 8388608) (t : TypeId) (w : World) : (binOp .add t (.string (strOfNums x)) (.string (strOfNums y))).run P w = .ok (.string (strOfNums (x ++ y))) w := by
  rw [binOp_string_add, run_string_add w _ _ (by rw [strOf_size]; omega) (by rw [strOf_size]; omega), strOf_append]
theorem tmod10 (n : Nat) : (n : Int).tmod 10 = ((n % 10 : Nat) : Int) := by simp [Int.tmod]
theorem tdiv10 (n : Nat) : (n : Int).tdiv 10 = ((n / 10 : Nat) : Int) := by simp [Int.tdiv]
theorem run_one (x : Int) (w : World) : (convert 30 9 (.slice (some ⟨w.heap.size, 0, none⟩) 1 1)).run Try.prog (w.alloc (.cells #[.int .u8 x] 5)) = .ok (.string (strOfNums [x])) (w.alloc (.cells #[.int .u8 x] 5)) :=
  run_str Try.underlying30 Try.underlying5 Try.underlying9 (slAt_blk (blk_new w _) rfl rfl)
set_option maxRecDepth 100000 in
set_option maxHeartbeats 4000000 in
theorem decimal_any (n : Nat) (hn : n ≤ 1000000) (w : World) : Calls Try.prog 20 #[.int .i64 n] w fun e w' => e = .returned (.string (nstr (digs n))) ∧ Kept (fun _ => False) w w' := by
  have m0 := tmod10 n
  have m1 : IntKind.i64.wrap (48 + ((n % 10 : Nat) : Int)) = 48 + ((n % 10 : Nat) : Int) := IntWalk.i64_in _ (by omega)
  have m2 : IntKind.u8.wrap (48 + ((n % 10 : Nat) : Int)) = 48 + ((n % 10 : Nat) : Int) := IntWalk.u8_in _ (by omega)
  obtain ⟨r, hr⟩ : ∃ r, n % 10 = r := ⟨_, rfl⟩
  rw [hr] at m0 m1 m2
  have o1 := run_one
  have HR := Lib.hid hr
  have w9 : r < 10 := by omega
  clear hr
  go_enter Try.func20, Try.ntmps20
  go_wp2
  obtain ⟨w1, hw1⟩ : ∃ w1, w.alloc (.cells #[.int .u8 (48 + (r : Int))] 5) = w1 := ⟨_, rfl⟩
  rw [hw1]
  have HK := Lib.hid (show Kept (fun _ => False) w w1 by rw [← hw1]; exact (Kept.refl _ _).alloc _)
  clear m0 m1 m2 hw1
  go_loopg [0, 3] n (fun gg nv sv wr => ∃ (m : Nat) (t : List Nat), digs n = digs m ++ t ∧ t.length + m ≤ n ∧ m ≤ gg ∧ nv = .int .i64 (m : Int) ∧ sv = .string (strOfNums ((48 + ((m % 10 : Nat) : Int)) :: ints t)) ∧ Kept (fun _ => False) w wr)
  case atStart => exact ⟨n, [], by simp, by simp, by omega, rfl, by rw [HR.out]; rfl, HK.out⟩
  case round =>
    obtain ⟨m, t, hdg, hlen, hgg, rfl, rfl, hkw⟩ := hrel
    have H := Lib.hid (And.intro hdg (And.intro hlen hkw))
    clear hdg hkw
    by_cases h10 : 10 ≤ m
    · have g1 : decide (10 ≤ (m : Int)) = true := decide_eq_true (by omega)
      have d0 := tdiv10 m
      have d1 := tmod10 (m / 10)
      have m1 : IntKind.i64.wrap (48 + ((m / 10 % 10 : Nat) : Int)) = 48 + ((m / 10 % 10 : Nat) : Int) := IntWalk.i64_in _ (by omega)
      have m2 : IntKind.u8.wrap (48 + ((m / 10 % 10 : Nat) : Int)) = 48 + ((m / 10 % 10 : Nat) : Int) := IntWalk.u8_in _ (by omega)
      have hdm := digs_ge h10
      obtain ⟨m3, hm3⟩ : ∃ k, m / 10 = k := ⟨_, rfl⟩
      rw [hm3] at d0 d1 m1 m2 hdm
      obtain ⟨r3, hr3⟩ : ∃ k, m3 % 10 = k := ⟨_, rfl⟩
      rw [hr3] at d1 m1 m2
      obtain ⟨r0, hr0⟩ : ∃ k, m % 10 = k := ⟨_, rfl⟩
      rw [hr0] at hdm
      have i64m : IntKind.i64.wrap (m3 : Int) = (m3 : Int) := IntWalk.i64_in _ (by omega)
      obtain ⟨L, hL⟩ : ∃ L : List Int, (48 + ((m % 10 : Nat) : Int)) :: ints t = L := ⟨_, rfl⟩
      have hLl : L.length ≤ 1000001 := by rw [← hL]; simp [ints]; omega
      have sz : ¬ (9223372036854775807 : Int) < ((strOfNums [48 + (r3 : Int)]).size : Int) + ((strOfNums L).size : Int) := by rw [strOf_size, strOf_size]; simp; omega
      rw [hL]
      have HM := Lib.hid (show digs n = digs m3 ++ ((48 + r0) :: t) ∧ ((48 + r0) :: t).length + m3 ≤ n ∧ m3 + 1 ≤ m ∧ [48 + (r3 : Int)] ++ L = (48 + ((m3 % 10 : Nat) : Int)) :: ints ((48 + r0) :: t) from by
        refine ⟨by rw [H.out.1, hdm]; simp, by simp; omega, by omega, ?_⟩
        rw [hr3, ← hL, hr0]; rfl)
      have HE := Lib.hid (strOf_append [48 + (r3 : Int)] L)
      clear hdm hm3 hr3 hr0 hL hLl hlen
      go_wp2
      go_roundg m3
      case rel => exact ⟨m3, _, HM.out.1, HM.out.2.1, by omega, rfl, by rw [HE.out, HM.out.2.2.2], H.out.2.2.alloc _⟩
      case measure => have := HM.out.2.2.1; omega
    · have g1 : decide (10 ≤ (m : Int)) = false := decide_eq_false (by omega)
      go_wp2
      refine bodyPost_ret (v := .string (strOfNums ((48 + ((m % 10 : Nat) : Int)) :: ints t))) (by simp [results, Try.results20, go_sem]) rfl ⟨?_, H.out.2.2⟩
      rw [H.out.1, digs_lt (by omega), Nat.mod_eq_of_lt (by omega)]
      rfl
end Go.Proofs.Ytomcjdonacckfaa
