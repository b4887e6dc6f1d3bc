/- Pieces of three: slices.Chunk and its iterator, walked. -/
import Derived.RangeFuncNested
import Derived.RangeFuncBound
import Derived.RangeFuncCalls
import Derived.RangeFuncLeaves
import Derived.RangeFuncBox
import Derived.Shelf.Abstract
import Derived.Shelf.RegionOpen
import Derived.WalkKit
import Derived.OwnWalkIn
import Derived.TacticsInMore
import Derived.LoopNIn
import Derived.LoopIn
import Derived.Maps.AppendAt
import Derived.Test.YtgmbjebighhgkaaApp
import Derived.Test.YtgmbjebighhgkaaPlain
import Derived.Test.YtgmbjebighhgkaaRows
namespace Go.Proofs.Ytgmbjebighhgkaa
open Go.RowKit Go.Shelf
attribute [local go_sem] Oper.semAt_some
set_option linter.unusedVariables false
set_option linter.unusedSimpArgs false

set_option maxRecDepth 100000 in
set_option maxHeartbeats 1000000 in
theorem chunk_in (F : Fence) (n : Nat) (h5 : F.fn 28) (hro : F.round = none) (a : Option Addr) (len cap : Nat) (w : World) :
    CallsIn F n Try.prog 28 #[.slice a len cap, .int .i64 3] w fun e w' => e = .returned (.func (.func 32) #[] #[.pointer (some ⟨w.heap.size, 0, none⟩), .pointer (some ⟨w.heap.size + 1, 0, none⟩)]) ∧ w' = (w.alloc (.cells #[.slice a len cap] 28)).alloc (.cells #[.int .i64 3] 3) := by
  refine callsIn_of_wp Try.func28 rfl h5 ?_ hro
  simp only [Try.ntmps28, List.size_toArray, List.length_cons, List.length_nil, Nat.reduceAdd, Nat.reduceSub, Array.replicate_succ, Array.replicate_zero, List.push_toArray, List.append_toArray, List.nil_append, List.cons_append]
  gi_wp2
  go_ret
  exact ⟨rfl, rfl⟩

theorem range_prefix {a b : Nat} (h : a ≤ b) : List.range a <+: List.range b := by
  obtain ⟨c, rfl⟩ := Nat.exists_eq_add_of_le h
  rw [List.range_add]
  exact List.prefix_append _ _
/-- The pieces of three of a slice. -/
def piece (b off len k : Nat) : Value := .slice (some ⟨b, off + 3 * k, none⟩) (min 3 (len - 3 * k)) (min 3 (len - 3 * k))

set_option maxRecDepth 100000 in
set_option maxHeartbeats 4000000 in
theorem chunk1_in (F : Fence) (n : Nat) (h7 : F.fn 32) (hro : F.round = none) (hn : 1 ≤ n) (l Bs Bn b off len cap : Nat) (Kp : World → World → Prop) (hl : len ≤ cap) (hlm : len ≤ 1000000) (hcm : cap ≤ 9223372036854775807)
    (hKs : ∀ A B, Kp A B → A.cell? ⟨Bs, 0, none⟩ = some (.slice (some ⟨b, off, none⟩) len cap) → B.cell? ⟨Bs, 0, none⟩ = some (.slice (some ⟨b, off, none⟩) len cap))
    (hKn : ∀ A B, Kp A B → A.cell? ⟨Bn, 0, none⟩ = some (.int .i64 3) → B.cell? ⟨Bn, 0, none⟩ = some (.int .i64 3))
    (J Jx : List Nat → World → Prop) (hJd : ∀ xs W, J xs W → J xs W.drew)
    (hY : ∀ pre x W, J pre W → pre.length < (len + 2) / 3 → YieldAt F (n - 1) Try.prog l #[piece b off len x] W fun e W' =>
      (e = .returned (.bool true) ∧ J (pre ++ [x]) W' ∧ Kp W W') ∨ (e = .returned (.bool false) ∧ Jx (pre ++ [x]) W'))
    (W : World) (hBs : W.cell? ⟨Bs, 0, none⟩ = some (.slice (some ⟨b, off, none⟩) len cap)) (hBn : W.cell? ⟨Bn, 0, none⟩ = some (.int .i64 3)) (h0 : J [] W) :
    CallsIn F n Try.prog 32 #[.func (.yield l) #[] #[], .pointer (some ⟨Bs, 0, none⟩), .pointer (some ⟨Bn, 0, none⟩)] W fun e W' => (∃ v, e = .returned v) ∧
      ((∃ ys, ys = List.range ((len + 2) / 3) ∧ J ys W') ∨ (∃ pre, pre <+: List.range ((len + 2) / 3) ∧ Jx pre W')) := by
  refine callsIn_of_wp Try.func32 rfl h7 ?_ hro
  simp only [Try.ntmps32, List.size_toArray, List.length_cons, List.length_nil, Nat.reduceAdd, Nat.reduceSub, Array.replicate_succ, Array.replicate_zero, List.push_toArray, List.append_toArray, List.nil_append, List.cons_append]
  gi_wp2
  gi_loopw [4] (fun i wr => ∃ k : Nat, k ≤ (len + 2) / 3 ∧ i = .int .i64 (3 * k : Nat) ∧ J (List.range k) wr ∧ wr.cell? ⟨Bs, 0, none⟩ = some (.slice (some ⟨b, off, none⟩) len cap) ∧ wr.cell? ⟨Bn, 0, none⟩ = some (.int .i64 3))
    (fun i _ => (len + 2) - (intOf i).toNat)
  case atStart => exact ⟨0, Nat.zero_le _, rfl, h0, hBs, hBn⟩
  case round =>
    obtain ⟨k, hk, rfl, hJs, hbs, hbn⟩ := hrel
    by_cases hlt : 3 * k < len
    · have g1 : decide (3 * k < len) = true := decide_eq_true hlt
      obtain ⟨r, hr⟩ : ∃ r, len - 3 * k = r := ⟨_, rfl⟩
      by_cases h3 : 3 ≤ r
      · have c1 : decide (r < 3) = false := decide_eq_false (by omega)
        have c2 : ¬ r < 3 := by omega
        have s1 : (3 * (k : Int) + 3).toNat = 3 * k + 3 := by omega
        have s2 : 3 * k + 3 - 3 * k = 3 := by omega
        obtain ⟨fn, tmps, assign, body, hy, hR⟩ := hY _ k wr.drew (hJd _ _ hJs) (by simp; omega)
        have hpc : piece b off len k = .slice (some ⟨b, off + 3 * k, none⟩) 3 3 := by unfold piece; rw [hr, Nat.min_eq_left h3]
        rw [hpc] at hy
        gi_wp2
        gi_region
        all_goals
          gi_wp2
          refine hR.mono ?_
          rintro e W3 (⟨rfl, hJ3, hk3⟩ | ⟨rfl, hJx3⟩)
          · have hbs3 := hKs _ _ hk3 hbs
            have hbn3 := hKn _ _ hk3 hbn
            gi_wp2
            go_roundw
            case rel => exact ⟨k + 1, by omega, by simp; omega, by rw [List.range_succ]; exact hJ3, hbs3, hbn3⟩
            case measure => simp [intOf]; omega
          · gi_wp2
            refine bodyPost_ret (results_none rfl _ _ _) rfl ?_
            exact ⟨⟨_, rfl⟩, .inr ⟨List.range k ++ [k], by rw [← List.range_succ]; exact range_prefix (by omega), hJx3⟩⟩
      · have c1 : decide (r < 3) = true := decide_eq_true (by omega)
        have c2 : r < 3 := by omega
        have s1 : (3 * (k : Int) + (r : Int)).toNat = 3 * k + r := by omega
        have s2 : 3 * k + r - 3 * k = r := by omega
        obtain ⟨fn, tmps, assign, body, hy, hR⟩ := hY _ k wr.drew (hJd _ _ hJs) (by simp; omega)
        have hpc : piece b off len k = .slice (some ⟨b, off + 3 * k, none⟩) r r := by unfold piece; rw [hr, Nat.min_eq_right (by omega)]
        rw [hpc] at hy
        gi_wp2
        gi_region
        all_goals
          gi_wp2
          refine hR.mono ?_
          rintro e W3 (⟨rfl, hJ3, hk3⟩ | ⟨rfl, hJx3⟩)
          · have hbs3 := hKs _ _ hk3 hbs
            have hbn3 := hKn _ _ hk3 hbn
            gi_wp2
            go_roundw
            case rel => exact ⟨k + 1, by omega, by simp; omega, by rw [List.range_succ]; exact hJ3, hbs3, hbn3⟩
            case measure => simp [intOf]; omega
          · gi_wp2
            refine bodyPost_ret (results_none rfl _ _ _) rfl ?_
            exact ⟨⟨_, rfl⟩, .inr ⟨List.range k ++ [k], by rw [← List.range_succ]; exact range_prefix (by omega), hJx3⟩⟩
    · obtain rfl : k = (len + 2) / 3 := by omega
      have g1 : decide (3 * ((len + 2) / 3) < len) = false := decide_eq_false hlt
      gi_wp2
      go_end0
      exact ⟨⟨_, rfl⟩, .inl ⟨_, rfl, hJs⟩⟩
end Go.Proofs.Ytgmbjebighhgkaa
