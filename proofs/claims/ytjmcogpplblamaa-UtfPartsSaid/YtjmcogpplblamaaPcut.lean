/- The plain law of a character that is cut off. No program in sight. -/
import Derived.Test.YtjmcogpplblamaaPenc
namespace Go.Proofs.Ytjmcogpplblamaa.Pl
/-- Something waits, and no first byte can be the next one. -/
def Waits (s : St) : Prop := s.left ≠ 0 ∧ 128 ≤ s.lo ∧ s.hi ≤ 191
theorem first_waits {b : Nat} (h : (first b).1.left ≠ 0) : Waits (first b).1 ∧ (first b).2 = [] := by
  unfold Waits
  unfold first at h ⊢
  split
  · rename_i h1; rw [if_pos h1] at h; exact absurd rfl h
  · rename_i h1
    rw [if_neg h1] at h
    split
    · simp
    · rename_i h2
      rw [if_neg h2] at h
      split
      · refine ⟨⟨by simp, ?_, ?_⟩, rfl⟩ <;> simp only <;> split <;> omega
      · rename_i h3
        rw [if_neg h3] at h
        split
        · refine ⟨⟨by simp, ?_, ?_⟩, rfl⟩ <;> simp only <;> split <;> omega
        · rename_i h4; rw [if_neg h4] at h; exact absurd rfl h
theorem put_waits {s : St} {b : Nat} (hs : s.left ≠ 0) (h : (put s b).1.left ≠ 0) (h1 : s.lo ≤ b) (h2 : b ≤ s.hi) : Waits (put s b).1 ∧ (put s b).2 = [] := by
  rw [put_in hs h1 h2] at h ⊢
  split
  · rename_i h3; rw [if_pos h3] at h; exact absurd rfl h
  · rename_i h3; rw [if_neg h3] at h; exact ⟨⟨h, by simp, by simp⟩, rfl⟩
/-- A byte that begins a character is Bad, and then as by itself, where something waits. -/
theorem put_begin {s : St} (hs : Waits s) {b : Nat} (hb : b < 128 ∨ 192 ≤ b) : put s b = ((first b).1, bad :: (first b).2) := by
  obtain ⟨h1, h2, h3⟩ := hs
  unfold put
  rw [if_neg h1, if_pos (by omega)]
theorem enc_head (r : Int) : ∃ b t, enc r = b :: t ∧ (b < 128 ∨ 192 ≤ b) := by
  unfold enc encN
  split
  · exact ⟨_, _, rfl, .inl (by assumption)⟩
  · split
    · exact ⟨_, _, rfl, .inr (by omega)⟩
    · split
      · exact ⟨_, _, rfl, .inr (by omega)⟩
      · exact ⟨_, _, rfl, .inr (by omega)⟩
/-- Where something waits, what stands behind is told as by itself, Bad ahead of it. -/
theorem run_behind {s : St} (hs : Waits s) (l : List Int) : (run s (encs l)).2 ++ fin (run s (encs l)).1 = bad :: l.map (fun r => (chI r : Int)) := by
  cases l with
  | nil => show [] ++ fin s = _; unfold fin; rw [if_neg hs.1]; rfl
  | cons r l =>
    obtain ⟨b, t, he, hb⟩ := enc_head r
    have h := all_encs (r :: l)
    unfold allL at h
    simp only [encs, he, List.cons_append, run] at h ⊢
    rw [put_begin hs hb]
    rw [put0 (show s0.left = 0 from rfl)] at h
    rw [List.cons_append, List.cons_append, h]
theorem run_cut (s : St) (hs : s.left = 0) (r : Int) (cut : Nat) (h1 : 1 ≤ cut) (h2 : cut < (enc r).length) : Waits (run s ((enc r).take cut)).1 ∧ (run s ((enc r).take cut)).2 = [] := by
  obtain ⟨k1, k2⟩ := chI_ok r
  unfold enc at h2 ⊢
  obtain ⟨c, hc⟩ : ∃ c, chI r = c := ⟨_, rfl⟩
  rw [hc] at k1 k2 h2 ⊢
  unfold encN at h2 ⊢
  split at h2
  · simp at h2; omega
  · rename_i z1
    rw [if_neg z1]
    split at h2
    · rename_i z2
      rw [if_pos z2]
      have e1 : first (192 + c / 64) = (⟨1, c / 64, 128, 191⟩, []) := by
        unfold first
        rw [if_neg (by omega), if_pos (by omega), show (192 + c / 64) % 32 = c / 64 by omega]
      obtain rfl : cut = 1 := by simp at h2; omega
      simp only [List.take_succ_cons, List.take_zero, run, put0 hs, e1]
      exact ⟨⟨by simp, by simp, by simp⟩, rfl⟩
    · rename_i z2
      rw [if_neg z2]
      split at h2
      · rename_i z3
        rw [if_pos z3]
        have e1 : ∃ lo hi, first (224 + c / 4096) = (⟨2, c / 4096, lo, hi⟩, []) ∧ lo ≤ 128 + c / 64 % 64 ∧ 128 + c / 64 % 64 ≤ hi ∧ 128 ≤ lo ∧ hi ≤ 191 := by
          refine ⟨if 224 + c / 4096 = 224 then 160 else 128, if 224 + c / 4096 = 237 then 159 else 191, ?_, ?_, ?_, ?_, ?_⟩
          · unfold first
            rw [if_neg (by omega), if_neg (by omega), if_pos (by omega), show (224 + c / 4096) % 16 = c / 4096 by omega]
          all_goals (split <;> omega)
        obtain ⟨lo, hi, e1, l1, l2, l3, l4⟩ := e1
        rcases (show cut = 1 ∨ cut = 2 by simp at h2; omega) with rfl | rfl
        · simp only [List.take_succ_cons, List.take_zero, run, put0 hs, e1]
          exact ⟨⟨by simp, l3, l4⟩, rfl⟩
        · simp only [List.take_succ_cons, List.take_zero, run, put0 hs, e1]
          rw [put_in (by simp) l1 l2]
          exact ⟨⟨by simp, by simp, by simp⟩, rfl⟩
      · rename_i z3
        rw [if_neg z3]
        have e1 : ∃ lo hi, first (240 + c / 262144) = (⟨3, c / 262144, lo, hi⟩, []) ∧ lo ≤ 128 + c / 4096 % 64 ∧ 128 + c / 4096 % 64 ≤ hi ∧ 128 ≤ lo ∧ hi ≤ 191 := by
          refine ⟨if 240 + c / 262144 = 240 then 144 else 128, if 240 + c / 262144 = 244 then 143 else 191, ?_, ?_, ?_, ?_, ?_⟩
          · unfold first
            rw [if_neg (by omega), if_neg (by omega), if_neg (by omega), if_pos (by omega), show (240 + c / 262144) % 8 = c / 262144 by omega]
          all_goals (split <;> omega)
        obtain ⟨lo, hi, e1, l1, l2, l3, l4⟩ := e1
        rcases (show cut = 1 ∨ cut = 2 ∨ cut = 3 by simp at h2; omega) with rfl | rfl | rfl
        · simp only [List.take_succ_cons, List.take_zero, run, put0 hs, e1]
          exact ⟨⟨by simp, l3, l4⟩, rfl⟩
        · simp only [List.take_succ_cons, List.take_zero, run, put0 hs, e1]
          rw [put_in (by simp) l1 l2]
          exact ⟨⟨by simp, by simp, by simp⟩, rfl⟩
        · simp only [List.take_succ_cons, List.take_zero, run, put0 hs, e1]
          rw [put_in (s := ⟨3, c / 262144, lo, hi⟩) (b := 128 + c / 4096 % 64) (by simp) l1 l2]
          simp only [Nat.reduceEqDiff, if_false, Nat.reduceSub]
          rw [put_in (s := ⟨2, c / 262144 * 64 + (128 + c / 4096 % 64) % 64, 128, 191⟩) (b := 128 + c / 64 % 64) (by simp) (by simp) (by simp; omega)]
          exact ⟨⟨by simp, by simp, by simp⟩, rfl⟩
/-- A character that is cut off is Bad, once. -/
theorem all_cut (l : List Int) (r : Int) (m : List Int) (cut : Nat) (h1 : 1 ≤ cut) (h2 : cut < (enc r).length) :
    allL (encs l ++ (enc r).take cut ++ encs m) = l.map (fun r => (chI r : Int)) ++ bad :: m.map (fun r => (chI r : Int)) := by
  obtain ⟨a1, a2⟩ := run_encs l s0 rfl
  obtain ⟨b1, b2⟩ := run_cut _ a2 r cut h1 h2
  unfold allL
  rw [run_append, run_append, a1]
  simp only
  rw [b2, List.append_nil, List.append_assoc, run_behind b1]
/-- Two texts, one behind the other. -/
theorem all_two (l m : List Int) : allL (encs l ++ encs m) = l.map (fun r => (chI r : Int)) ++ m.map (fun r => (chI r : Int)) := by
  obtain ⟨a1, a2⟩ := run_encs l s0 rfl
  obtain ⟨b1, b2⟩ := run_encs m _ a2
  unfold allL
  rw [run_append, a1]
  simp only
  rw [b1, fin0 b2, List.append_nil]
end Go.Proofs.Ytjmcogpplblamaa.Pl
