/- The parser: New, Ground. -/
import Derived.Test.YtnaoobgghgnflaaF11
namespace Go.Proofs.Ytnaoobgghgnflaa
open Go.RowKit Pl
set_option linter.unusedVariables false
set_option linter.unusedSimpArgs false
def ps0 : PS := ⟨0, false, s0, 0, [], false, true, [], false, 0, []⟩
set_option maxRecDepth 100000 in
set_option maxHeartbeats 8000000 in
theorem utfnew_any (w : World) : Calls Try.prog 15 #[] w fun en w' => en = .returned (.pointer (some ⟨w.heap.size, 0, none⟩)) ∧ w' = w.alloc (.cells #[.int .i32 0, .int .i64 0, .int .u8 0, .int .u8 0] 49) := by
  go_enter Try.func15, Try.ntmps15
  go_wp2
  go_ret
  exact ⟨rfl, rfl⟩
set_option maxRecDepth 100000 in
set_option maxHeartbeats 8000000 in
theorem new_any (W : World) : Calls Try.prog 8 #[] W fun r w' => ∃ p G, r = .returned (.pointer (some ⟨p, 0, none⟩)) ∧ PQ G w' p ps0 ∧ (∀ i, G i → W.heap.size ≤ i) ∧ Kept (fun _ => False) W w' := by
  obtain ⟨W1, hW1⟩ : ∃ W1, W.alloc (.cells #[.int .i32 0, .int .i64 0, .int .u8 0, .int .u8 0] 49) = W1 := ⟨_, rfl⟩
  have hk1 : Kept (fun _ => False) W W1 := by rw [← hW1]; exact (Kept.refl _ _).alloc _
  have hb1 : W1.heap[W.heap.size]? = some (.cells #[.int .i32 0, .int .i64 0, .int .u8 0, .int .u8 0] 49 (0, 0)) := by rw [← hW1]; exact blk_new W _
  obtain ⟨W2, hW2⟩ : ∃ W2, W1.alloc (.cells (PC ps0 W.heap.size (.slice none 0 0) (.slice none 0 0) (.slice none 0 0) (.func (.func 16) #[] #[])) 43) = W2 := ⟨_, rfl⟩
  have hk2 : Kept (fun _ => False) W1 W2 := by rw [← hW2]; exact (Kept.refl _ _).alloc _
  have hb2 : W2.heap[W1.heap.size]? = some (.cells (PC ps0 W.heap.size (.slice none 0 0) (.slice none 0 0) (.slice none 0 0) (.func (.func 16) #[] #[])) 43 (0, 0)) := by rw [← hW2]; exact blk_new W1 _
  have hz := hk1.size
  have HR := Lib.hid (show ∃ G : Nat → Prop, PQ G W2 W1.heap.size ps0 ∧ (∀ i, G i → W.heap.size ≤ i) ∧ Kept (fun _ => False) W W2 from ⟨fun i => i = W1.heap.size ∨ i = W.heap.size, ⟨W.heap.size, .slice none 0 0, .slice none 0 0, .slice none 0 0, _, hb2, ⟨0, 0, 0, hk2.blk hb1 id, fun h => absurd h (by simp [ps0, s0]), ok0⟩, Own.nil _ _ _, Own.nil _ _ _, Own.nil _ _ _, (fun _ h => by cases h), ⟨by simp [ps0], by simp [ps0], by simp [ps0], by simp [ps0], by simp [ps0]⟩, fun i => ⟨fun h => by rcases h with h | h; exact .inl h; exact .inr (.inl h), fun h => by rcases h with h | h | h | h | h; exact .inl h; exact .inr h; cases h; cases h; cases h⟩⟩, fun i hi => by rcases hi with h | h <;> omega, hk1.then hk2⟩)
  unfold PC ps0 at hW2
  simp only at hW2
  clear hk1 hb1 hk2 hb2 hz
  go_enter Try.func8, Try.ntmps8
  go_wp2_with fail
  refine (utfnew_any W).mono ?_
  rintro r w1 ⟨rfl, rfl⟩
  rw [hW1]
  go_wp2
  go_ret
  obtain ⟨G, h1, h2, h3⟩ := HR.out
  exact ⟨_, G, rfl, h1, h2, h3⟩
def groundB (s : PS) : Bool := (s.st == 0) && !(decide (0 < s.ch.left))
set_option maxRecDepth 100000 in
set_option maxHeartbeats 8000000 in
theorem isground_any (G : Nat → Prop) (W : World) (p : Nat) (s : PS) (hP : PQ G W p s) : Calls Try.prog 10 #[.pointer (some ⟨p, 0, none⟩)] W fun r w' => r = .returned (.bool (groundB s)) ∧ w' = W := by
  obtain ⟨d, vi, vp, vd, f, hb, hd, -⟩ := hP
  obtain ⟨⟨c0, c0f⟩, -, c2, -, -, -, -, -, -, -, -, -⟩ := pcells hb
  have HW := Lib.hid (waits_any d s.ch W hd)
  clear hb hd
  by_cases h0 : s.st = 0
  · have g0 : (s.st == 0) = true := by simp [h0]
    obtain ⟨bl, hbl⟩ : ∃ b, decide (0 < s.ch.left) = b := ⟨_, rfl⟩
    have e : groundB s = !bl := by unfold groundB; rw [g0, hbl]; rfl
    rw [e]
    rw [hbl] at HW
    clear e hbl h0
    go_enter Try.func10, Try.ntmps10
    go_wp2_with fail
    refine HW.out.mono ?_
    rintro r w1 ⟨rfl, rfl⟩
    go_wp2
    go_ret
    exact ⟨rfl, rfl⟩
  · have g0 : (s.st == 0) = false := by simp [h0]
    have e : groundB s = false := by unfold groundB; rw [g0]; rfl
    rw [e]
    clear e h0
    go_enter Try.func10, Try.ntmps10
    go_wp2
    go_ret
    exact ⟨rfl, rfl⟩
end Go.Proofs.Ytnaoobgghgnflaa
