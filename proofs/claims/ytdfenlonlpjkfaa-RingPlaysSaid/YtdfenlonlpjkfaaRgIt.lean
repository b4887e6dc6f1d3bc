/- What All hands out, gone over. -/
import Derived.RangeFuncNested
import Derived.RangeFuncBound
import Derived.RangeFuncCalls
import Derived.RangeFuncLeaves
import Derived.Shelf.Abstract
import Derived.Shelf.RegionOpen
import Derived.WalkKit
import Derived.OwnWalkIn
import Derived.TacticsInMore
import Derived.LoopNIn
import Derived.LoopIn
import Derived.Test.YtdfenlonlpjkfaaRgAll
namespace Go.Proofs.Ytdfenlonlpjkfaa
open Go.RowKit Go.Shelf
set_option linter.unusedVariables false
set_option linter.unusedSimpArgs false
attribute [local go_sem] Oper.semAt_some
/-- Cells at or beyond n stay. -/
def KpC (n : Nat) (A B : World) : Prop := A.heap.size ≤ B.heap.size ∧ ∀ i, n ≤ i → ∀ c t f, A.heap[i]? = some (.cells c t f) → B.heap[i]? = some (.cells c t f)
theorem KpC.refl (n : Nat) (A : World) : KpC n A A := ⟨Nat.le_refl _, fun _ _ _ _ _ h => h⟩
theorem KpC.trans {n : Nat} {A B C : World} (h : KpC n A B) (k : KpC n B C) : KpC n A C := ⟨Nat.le_trans h.1 k.1, fun i hi c t f e => k.2 i hi c t f (h.2 i hi c t f e)⟩
theorem KpC.put {n m : Nat} (W : World) (l : Nat) (o o' : Obj) (hm : m ≤ l) (h : W.heap[l]? = some o) (hc : o.isCells = false) (hw : o.isWalk = false) : KpC n W (W.putObj l o') := by
  refine ⟨by simp, fun i _ c t f e => ?_⟩
  have hne : i ≠ l := fun e2 => by subst e2; rw [h] at e; cases e; cases hc
  rw [World.putObj_heap_other hne]; exact e
theorem KpC.cell {n : Nat} {A B : World} (h : KpC n A B) {b i : Nat} {v : Value} (hb : n ≤ b) (hc : A.cell? ⟨b, i, none⟩ = some v) : B.cell? ⟨b, i, none⟩ = some v := by
  unfold World.cell? at hc ⊢
  cases ho : A.heap[b]? with
  | none => simp [ho] at hc
  | some o =>
    cases o with
    | cells c t f => rw [h.2 b hb c t f ho]; rw [ho] at hc; exact hc
    | _ => simp [ho] at hc
def upto {α : Type} (f : Nat → α) (k : Nat) : List α := (List.range k).map f
theorem upto_succ {α : Type} (f : Nat → α) (k : Nat) : upto f (k + 1) = upto f k ++ [f k] := by simp [upto, List.range_succ]
theorem upto_length {α : Type} (f : Nat → α) (k : Nat) : (upto f k).length = k := by simp [upto]
/-- What comes: numbers as they went, the elements. -/
def nth (gone : Nat) (L : List Int) (j : Nat) : Int × Int := ((gone : Int) + (j : Int), L[j]?.getD 0)
abbrev enc2 (x : Int × Int) : Array Value := #[.int .i64 x.1, .int .i64 x.2]
set_option maxRecDepth 100000 in
set_option maxHeartbeats 4000000 in
theorem it_in (F : Fence) (n : Nat) (hF : F.fn 29) (hro : F.round = none) (hn : 1 ≤ n) (l b c n₀ gone : Nat) (L : List Int) (a : Option Addr) (cap : Nat) (hL : L.length ≤ 65536) (hgo : gone ≤ 1000000) (hb : n₀ ≤ b) (hc : n₀ ≤ c) (J Jx : List (Int × Int) → World → Prop)
    (hY : ∀ pre x W, J pre W → pre.length < L.length → YieldAt F (n - 1) Try.prog l (enc2 x) W fun e W' =>
      (e = .returned (.bool true) ∧ J (pre ++ [x]) W' ∧ KpC n₀ W W') ∨ (e = .returned (.bool false) ∧ Jx (pre ++ [x]) W'))
    (W : World) (hb0 : W.cell? ⟨b, 0, none⟩ = some (.slice a L.length cap)) (hc0 : W.cell? ⟨c, 0, none⟩ = some (.int .i64 gone)) (hs : L.length = 0 ∨ ∃ g, a = some ⟨g, 0, none⟩ ∧ n₀ ≤ g ∧ ∀ j, j < L.length → W.cell? ⟨g, j, none⟩ = some (.int .i64 (L.getD j 0))) (h0 : J [] W) :
    CallsIn F n Try.prog 29 #[.func (.yield l) #[] #[], .pointer (some ⟨b, 0, none⟩), .pointer (some ⟨c, 0, none⟩)] W fun e W' => (∃ v, e = .returned v) ∧
      ((∃ ys, ys = upto (nth gone L) L.length ∧ J ys W') ∨ (∃ pre, (∃ k, k ≤ L.length ∧ pre = upto (nth gone L) k) ∧ Jx pre W')) := by
  obtain ⟨len, hlen⟩ : ∃ len, L.length = len := ⟨_, rfl⟩
  rw [hlen] at hL hb0 hs hY ⊢
  clear hlen
  refine callsIn_of_wp Try.func29 rfl hF ?_ hro
  simp only [Try.ntmps29, List.size_toArray, List.length_cons, List.length_nil, Nat.reduceAdd, Nat.reduceSub, Array.replicate_succ, Array.replicate_zero, List.push_toArray, List.append_toArray, List.nil_append, List.cons_append]
  gi_wp2
  gi_loopw [4, 5, 8] (fun _ _ i wr => ∃ k : Nat, k ≤ len ∧ i = .int .i64 k ∧ J (upto (nth gone L) k) wr ∧ KpC n₀ W wr)
    (fun _ _ i _ => len - (intOf i).toNat)
  case atStart => exact ⟨0, Nat.zero_le _, rfl, h0, KpC.refl _ _⟩
  case round =>
    obtain ⟨k, hk, rfl, hJs, hnx⟩ := hrel
    by_cases hlt : k < len
    · obtain ⟨g, rfl, hg0, hcs⟩ := hs.resolve_left (by omega)
      obtain ⟨fn, tmps, assign, body, hy, hR⟩ := hY _ (nth gone L k) wr hJs (by rw [upto_length]; exact hlt)
      dsimp only [nth, enc2] at hy
      have c1 := hnx.cell hc hc0
      have c2 := hnx.cell hg0 (hcs k hlt)
      have w1 : IntKind.i64.wrap ((gone : Int) + (k : Int)) = (gone : Int) + (k : Int) := IntWalk.i64_in _ (by omega)
      have w2 : IntKind.i64.wrap ((k : Int) + 1) = (k : Int) + 1 := IntWalk.i64_in _ (by omega)
      have w3 : IntKind.i64.wrap (k : Int) = (k : Int) := IntWalk.i64_in _ (by omega)
      gi_wp2
      refine hR.mono ?_
      rintro e W3 (⟨rfl, hJ3, hk3⟩ | ⟨rfl, hJx3⟩)
      · gi_wp2
        go_roundw
        case rel => exact ⟨k + 1, by omega, by simp, by rw [upto_succ]; exact hJ3, hnx.trans hk3⟩
        case measure => simp [intOf]; omega
      · gi_wp2
        refine bodyPost_ret (results_none rfl _ _ _) rfl ?_
        exact ⟨⟨_, rfl⟩, .inr ⟨_, ⟨k + 1, by omega, (upto_succ _ _).symm⟩, hJx3⟩⟩
    · obtain rfl : k = len := by omega
      gi_wp2
      go_end0
      exact ⟨⟨_, rfl⟩, .inl ⟨_, rfl, hJs⟩⟩
end Go.Proofs.Ytdfenlonlpjkfaa
