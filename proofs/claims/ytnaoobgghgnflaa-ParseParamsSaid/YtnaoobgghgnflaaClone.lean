/- slices.Clone of bytes: the same numbers in a row of its own. -/
import Derived.Test.YtnaoobgghgnflaaRows
import Derived.Test.YtnaoobgghgnflaaOwn
import Derived.WalkLawsBesides
namespace Go.Proofs.Ytnaoobgghgnflaa
open Go.RowKit
set_option linter.unusedVariables false
theorem Try.infoByte : (Try.prog.info? 5).map (fun i => (i.zero, i.size, i.bytes)) = some (some (.int .u8 0), 1, 1) := by kernel_rfl
theorem Own.app_new {e : TypeId} {w w0 : World} {v v' : Value} {xs : List Int} (h : Own .u8 e w v' xs) (hp : v'.ownBlock = v.ownBlock ∨ v'.ownBlock = some w0.heap.size) {B : Nat} (hB : B ≤ w0.heap.size) (hv : ∀ b, v.ownBlock = some b → B ≤ b) : ∀ b, v'.ownBlock = some b → B ≤ b := by
  intro b hb
  rcases hp with h1 | h1 <;> rw [h1] at hb
  · exact hv b hb
  · cases hb; exact hB
set_option maxRecDepth 100000 in
set_option maxHeartbeats 1000000 in
theorem clone_any (a : Option Addr) (len cap : Nat) (xs : List Int) (w : World) (hs : SlAt .u8 w a len xs) (hn : a = none → len = 0 ∧ cap = 0) (hl : len ≤ 70368744177664) :
    Calls Try.prog 21 #[.slice a len cap] w fun e w' => ∃ v, e = .returned v ∧ Own .u8 5 w' v xs ∧ Kept (fun _ => False) w w' ∧ ∀ b, v.ownBlock = some b → w.heap.size ≤ b := by
  have hxl := hs.1
  cases a with
  | none =>
    obtain ⟨rfl, rfl⟩ := hn rfl
    have hx : xs = [] := List.eq_nil_of_length_eq_zero hxl
    subst hx
    have hq := @Lib.run_eql_slice_nil Try.prog
    go_enter Try.func21, Try.ntmps21
    go_wp2
    go_ret
    exact ⟨_, rfl, Own.nil _ _ _, Kept.refl _ _, fun _ h => by cases h⟩
  | some y =>
    obtain ⟨i0, hi, hz0, hz1, hz2⟩ := info_parts Try.infoByte
    have hs1 := hs.kept ((Kept.refl (fun _ => False) _).alloc (.cells #[] 5)) (fun _ _ _ _ => id)
    have hq := @Lib.run_eql_slice_nil Try.prog
    go_enter Try.func21, Try.ntmps21
    go_wp2_with (first
      | (at_builtin; refine wpList_appInts rfl (.tmp 5) (.tmp 6) 22 rfl 5 .u8 i0 (.int .u8 0) 1 Try.underlying22 hi hz0 hz1 hz2 rfl (.slice (some ⟨w.heap.size, 0, none⟩) 0 0) [] rfl (Own.new .u8 w) (some y) len cap xs rfl (fun h => by cases h) hs1 (by simp; omega) (by simp [maxLen]; omega) ?_; intro v5 w5 ho5 hk5 hpr5))
    go_ret
    refine ⟨_, rfl, by simpa using ho5, ((Kept.refl _ _).alloc _).trans (hk5.mono (fun k _ h => Or.inr (by cases h; exact Nat.le_refl _))), ?_⟩
    exact ho5.app_new hpr5 (by simp) (fun b h => by cases h; exact Nat.le_refl _)
end Go.Proofs.Ytnaoobgghgnflaa
