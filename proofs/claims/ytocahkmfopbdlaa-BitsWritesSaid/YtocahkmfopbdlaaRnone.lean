import Derived.Test.YtocahkmfopbdlaaRref2
namespace Go.Proofs.Ytocahkmfopbdlaa
open Go.RowKit Pl
set_option linter.unusedVariables false
set_option maxRecDepth 100000 in
set_option maxHeartbeats 1000000 in
theorem rbytes_none (p : Nat) (o : Option Nat) (bs : List Int) (at_ : Nat) (n : Int) (w : World) (h : RdAt w p o bs at_) (hn : at_ % 8 ≠ 0 ∨ n < 0 ∨ ((8 * bs.length - at_) / 8 : Nat) < n) :
    Calls Try.prog 34 #[.pointer (some ⟨p, 0, none⟩), .int .i64 n] w fun e w' => e = .returned (.tuple #[.slice none 0 0, .bool false]) ∧ ∃ n, w' = w.drewN n := by
  have H := Lib.hid h
  obtain ⟨v, h1, h2, h3, h4, h5, h6, h7⟩ := h
  obtain ⟨⟨c0, f0⟩, c1, f1⟩ := blk2 h1
  clear h1 h2 h3
  by_cases g1 : at_ % 8 ≠ 0
  · have hd : ¬ (at_ : Int) % 8 = 0 := by omega
    clear hn g1
    go_enter Try.func34, Try.ntmps34
    go_wp2
    go_ret2
    exact ⟨rfl, 0, rfl⟩
  have hd : (at_ : Int) % 8 = 0 := by omega
  by_cases g2 : n < 0
  · clear hn g1
    have hg : decide (n < 0) = true := by simp; omega
    go_enter Try.func34, Try.ntmps34
    go_wp2
    go_ret2
    exact ⟨rfl, 0, rfl⟩
  have hg : decide (n < 0) = false := by simp; omega
  obtain ⟨m, hm⟩ : ∃ m : Nat, (8 * bs.length - at_) / 8 = m := ⟨_, rfl⟩
  have hq : (8 * (bs.length : Int) - at_) / 8 = (m : Int) := by omega
  have hg2 : decide ((m : Int) < n) = true := by simp; omega
  clear hn g1 g2 hm
  go_enter Try.func34, Try.ntmps34
  go_wp2_with (go_at_call 16; refine (left_any p o bs at_ _ H.out).mono ?_; rintro e w' ⟨rfl, m0, rfl⟩)
  go_ret2
  exact ⟨rfl, _, rfl⟩
set_option maxRecDepth 100000 in
set_option maxHeartbeats 1000000 in
theorem rbytes_nil (p : Nat) (o : Option Nat) (w : World) (h : RdAt w p o [] 0) :
    Calls Try.prog 34 #[.pointer (some ⟨p, 0, none⟩), .int .i64 0] w fun e w' => ∃ v, e = .returned (.tuple #[v, .bool true]) ∧ Own .u8 5 w' v [] ∧ RdAt w' p o [] 0 ∧ Kept (· = p) w w' ∧ ∀ b, v.ownBlock = some b → w.heap.size ≤ b := by
  have H := Lib.hid h
  obtain ⟨v, h1, h2, h3, h4, h5, h6, h7⟩ := h
  have hv : v = .slice none 0 0 ∨ ∃ g cap, v = .slice (some ⟨g, 0, none⟩) 0 cap := by
    obtain ⟨-, hh | ⟨g, cap, cur, hh, -⟩⟩ := h2
    · exact .inl hh.1
    · exact .inr ⟨g, cap, hh⟩
  have hk1 : ∀ m, Kept (· = p) w ((w.drewN m).setCell ⟨p, 1, none⟩ (.int .i64 0)) := fun m => by
    have h : Kept (· = p) w (w.drewN m) := (Kept.refl _ w).drewN m
    exact h.setCell (p := ⟨p, 1, none⟩) (.inl rfl) _
  have hrd : ∀ m, RdAt ((w.drewN m).setCell ⟨p, 1, none⟩ (.int .i64 0)) p o [] 0 := fun m => by
    refine ⟨_, ?_, h2.kept (hk1 m) (fun b hb hp => h4 (by rw [← h3, hb]; exact congrArg some hp)), h3, h4, h5, by omega, h7⟩
    have := blk_set (w := w.drewN m) h1 1 (.int .i64 0)
    simpa [rdBlk] using this
  have HK1 := Lib.hid hk1
  have HRD := Lib.hid hrd
  obtain ⟨⟨c0, f0⟩, c1, f1⟩ := blk2 h1
  clear h1 h2 h3 hk1 hrd
  rcases hv with rfl | ⟨g, cap, rfl⟩
  all_goals
    go_enter Try.func34, Try.ntmps34
    go_wp2_with (first
      | (go_at_call 16; refine (left_any p o [] 0 _ H.out).mono ?_; rintro e w1 ⟨rfl, m, rfl⟩)
      | (go_at_call 38; refine (clone_any _ 0 0 [] _ ⟨rfl, .inl rfl⟩ (fun _ => ⟨rfl, rfl⟩) (by omega)).mono ?_; rintro e w2 ⟨v, rfl, ho, hk2, hf⟩))
    go_ret2
    have hkk : Kept (· = p) w w2 := (HK1.out m).trans (hk2.mono (fun _ _ h => h.elim))
    refine ⟨v, rfl, ho, (HRD.out m).kept hk2 id (fun _ _ => id), hkk, fun b hb => ?_⟩
    have h1 := hf b hb
    have h2 := (HK1.out m).size
    omega
end Go.Proofs.Ytocahkmfopbdlaa
