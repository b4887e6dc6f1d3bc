/- slices.Clone of ints. -/
import Derived.Test.YtnaoobgghgnflaaClone
namespace Go.Proofs.Ytnaoobgghgnflaa
open Go.RowKit
set_option linter.unusedVariables false
theorem Try.infoInt8 : (Try.prog.info? 3).map (fun i => (i.zero, i.size, i.bytes)) = some (some (.int .i64 0), 1, 8) := by kernel_rfl
set_option maxRecDepth 100000 in
set_option maxHeartbeats 1000000 in
theorem clonei_any (a : Option Addr) (len cap : Nat) (xs : List Int) (w : World) (hs : SlAt .i64 w a len xs) (hn : a = none → len = 0 ∧ cap = 0) (hl : len ≤ 1048576) :
    Calls Try.prog 20 #[.slice a len cap] w fun e w' => ∃ v, e = .returned v ∧ Own .i64 3 w' v xs ∧ Kept (fun _ => False) w w' ∧ ∀ b, v.ownBlock = some b → w.heap.size ≤ b := by
  have hxl := hs.1
  cases a with
  | none =>
    obtain ⟨rfl, rfl⟩ := hn rfl
    have hx : xs = [] := List.eq_nil_of_length_eq_zero hxl
    subst hx
    have hq := @Lib.run_eql_slice_nil Try.prog
    go_enter Try.func20, Try.ntmps20
    go_wp2
    go_ret
    exact ⟨_, rfl, Own.nil _ _ _, Kept.refl _ _, fun _ h => by cases h⟩
  | some y =>
    obtain ⟨i0, hi, hz0, hz1, hz2⟩ := info_parts Try.infoInt8
    have hs1 := hs.kept ((Kept.refl (fun _ => False) _).alloc (.cells #[] 3)) (fun _ _ _ _ => id)
    have hq := @Lib.run_eql_slice_nil Try.prog
    go_enter Try.func20, Try.ntmps20
    go_wp2_with (first
      | (at_builtin; refine wpList_appInts rfl (.tmp 5) (.tmp 6) 28 rfl 3 .i64 i0 (.int .i64 0) 8 Try.underlying28 hi hz0 hz1 hz2 rfl (.slice (some ⟨w.heap.size, 0, none⟩) 0 0) [] rfl (Own.new .i64 w) (some y) len cap xs rfl (fun h => by cases h) hs1 (by simp; omega) (by simp [maxLen]; omega) ?_; intro v5 w5 ho5 hk5 hpr5))
    go_ret
    refine ⟨_, rfl, by simpa using ho5, ((Kept.refl _ _).alloc _).trans (hk5.mono (fun k _ h => Or.inr (by cases h; exact Nat.le_refl _))), ?_⟩
    intro b hb
    rcases hpr5 with h | h
    · have h2 := h.symm.trans hb; cases h2; exact Nat.le_refl _
    · have h2 := h.symm.trans hb; cases h2; simp
end Go.Proofs.Ytnaoobgghgnflaa
