import Derived.Test.YtocahkmfopbdlaaAlign
import Derived.Test.YtocahkmfopbdlaaRead
import Derived.Test.YtocahkmfopbdlaaClone
namespace Go.Proofs.Ytocahkmfopbdlaa
open Go.RowKit Pl
set_option linter.unusedVariables false
theorem RdAt.own {w : World} {p : Nat} {o : Option Nat} {bs : List Int} {at_ : Nat} (h : RdAt w p o bs at_) : ∃ a cap, w.heap[p]? = some (rdBlk (.slice a bs.length cap) at_) ∧ Own .u8 5 w (.slice a bs.length cap) bs ∧ bs.length ≤ cap := by
  obtain ⟨v, h1, h2, -⟩ := h
  obtain ⟨a, cap, rfl, hc⟩ := h2.shape
  exact ⟨a, cap, h1, h2, hc.2.1⟩
set_option maxRecDepth 100000 in
set_option maxHeartbeats 1000000 in
theorem rbytes_no (p : Nat) (o : Option Nat) (bs : List Int) (at_ n : Nat) (w : World) (h : RdAt w p o bs at_) (hn : n ≤ 1099511627776) (hne : at_ % 8 ≠ 0) :
    Calls Try.prog 34 #[.pointer (some ⟨p, 0, none⟩), .int .i64 n] w fun e w' => e = .returned (.tuple #[.slice none 0 0, .bool false]) ∧ w = w' := by
  obtain ⟨v, h1, h2, h3, h4, h5, h6, h7⟩ := h
  obtain ⟨⟨c0, f0⟩, c1, f1⟩ := blk2 h1
  have hd : ¬ (at_ : Int) % 8 = 0 := by omega
  clear h1 h2 h3
  go_enter Try.func34, Try.ntmps34
  go_wp2
  go_ret2
  exact ⟨rfl, rfl⟩
set_option maxRecDepth 100000 in
set_option maxHeartbeats 1000000 in
theorem rbytes_yes (p : Nat) (o : Option Nat) (bs : List Int) (t k n : Nat) (w : World) (h : RdAt w p o bs t) (ht : t = 8 * k) (hn : k + n ≤ bs.length) (hne : 0 < bs.length) :
    Calls Try.prog 34 #[.pointer (some ⟨p, 0, none⟩), .int .i64 n] w fun e w' => ∃ v, e = .returned (.tuple #[v, .bool true]) ∧ Own .u8 5 w' v ((bs.drop k).take n) ∧ RdAt w' p o bs (t + 8 * n) ∧ Kept (· = p) w w' ∧ ∀ b, v.ownBlock = some b → w.heap.size ≤ b := by
  have H := Lib.hid h
  obtain ⟨v, h1, h2, h3, h4, h5, h6, h7⟩ := h
  obtain ⟨a, cap, rfl, hsl, hcap, hcm, hnl, hab⟩ := h2.shape
  obtain ⟨g, off, rfl, hc⟩ := hsl.2.resolve_left (by omega)
  have hoff : off = 0 := by
    obtain ⟨-, hh | ⟨g', cap', cur, hh, -⟩⟩ := h2
    · cases hh.1
    · cases hh; rfl
  subst hoff
  have HB := Lib.hid h1
  have HO := Lib.hid h2
  have H3 := Lib.hid h3
  obtain ⟨⟨c0, f0⟩, c1, f1⟩ := blk2 h1
  have hr : (t : Int) % 8 = 0 := by omega
  have hq : (t : Int) / 8 = (k : Int) := by omega
  have hq2 : (8 * (bs.length : Int) - t) / 8 = ((bs.length - k : Nat) : Int) := by omega
  have hg : decide (((bs.length - k : Nat) : Int) < (n : Int)) = false := by simp; omega
  have hneg : decide ((n : Int) < 0) = false := by simp
  have hkn : (k : Int) + n ≤ cap := by omega
  have hkn2 : (k : Int) ≤ (k : Int) + n := by omega
  have ht8 : t + 8 * n ≤ 8 * bs.length := by omega
  have hk1 : ∀ m, Kept (· = p) w ((w.drewN m).setCell ⟨p, 1, none⟩ (.int .i64 ((t : Int) + 8 * n))) := fun m => by
    have h : Kept (· = p) w (w.drewN m) := (Kept.refl _ w).drewN m
    exact h.setCell (p := ⟨p, 1, none⟩) (.inl rfl) _
  have hgp : g ≠ p := fun hh => h4 (by rw [← h3, hh]; rfl)
  have hrd : ∀ m, RdAt ((w.drewN m).setCell ⟨p, 1, none⟩ (.int .i64 ((t : Int) + 8 * n))) p o bs (t + 8 * n) := fun m => by
    refine ⟨_, ?_, h2.kept (hk1 m) (fun b hb hp => h4 (by rw [← h3, hb]; exact congrArg some hp)), h3, h4, h5, by omega, h7⟩
    have := blk_set (w := w.drewN m) h1 1 (.int .i64 ((t : Int) + 8 * n))
    simpa [rdBlk] using this
  have hsl' : ∀ m, SlAt .u8 ((w.drewN m).setCell ⟨p, 1, none⟩ (.int .i64 ((t : Int) + 8 * n))) (if n = 0 then some ⟨g, 0, none⟩ else some ⟨g, k, none⟩) n ((bs.drop k).take n) := fun m => by
    refine SlAt.kept (S := (· = p)) (w := w) ?_ (hk1 m) ?_
    · refine ⟨by simp; omega, ?_⟩
      by_cases h0 : n = 0
      · exact .inl h0
      · rw [if_neg h0]
        refine .inr ⟨g, k, rfl, fun j hj => ?_⟩
        have h9 := hc (k + j) (by omega)
        rw [Nat.zero_add] at h9
        rw [h9]
        congr 2
        simp [List.getD_eq_getElem?_getD, hj]
    · intro b off h0 he hb
      rw [if_neg (by omega)] at he
      cases he
      exact hgp hb
  have HK1 := Lib.hid hk1
  have HRD := Lib.hid hrd
  have HSL := Lib.hid hsl'
  clear h1 h2 h3 ht hc hab hnl hsl hk1 hrd hsl'
  go_enter Try.func34, Try.ntmps34
  go_wp2_with (first
    | (go_at_call 16; refine (left_any p o bs t _ H.out).mono ?_; rintro e w1 ⟨rfl, m, rfl⟩)
    | (go_at_call 38; refine (clone_any _ n n _ _ (HSL.out m) (fun hh => by split at hh <;> cases hh) (by omega)).mono ?_; rintro e w2 ⟨v, rfl, ho, hk2, hf⟩))
  all_goals
    go_ret2
    have hw2 := (HRD.out m).kept hk2 id (fun _ _ => id)
    have hkk : Kept (· = p) w w2 := (HK1.out m).trans (hk2.mono (fun _ _ h => h.elim))
    have hff : ∀ b, v.ownBlock = some b → w.heap.size ≤ b := fun b hb => by
      have h1 := hf b hb
      have h2 := (HK1.out m).size
      omega
  · have hz : n = 0 := by omega
    refine ⟨v, rfl, by simpa [hz] using ho, by simpa [hz] using hw2, hkk, hff⟩
  · exact ⟨v, rfl, ho, hw2, hkk, hff⟩
end Go.Proofs.Ytocahkmfopbdlaa
