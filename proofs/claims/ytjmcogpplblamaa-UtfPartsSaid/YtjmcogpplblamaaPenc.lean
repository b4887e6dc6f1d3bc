/- The plain law of characters as bytes: what is laid is read again. No program in sight. -/
import Derived.Test.YtjmcogpplblamaaPlain
namespace Go.Proofs.Ytjmcogpplblamaa.Pl
/-- A character's bytes; of what is none those of Bad. -/
def chI (r : Int) : Nat := if noneB r = true then 65533 else r.toNat
def encN (r : Nat) : List Nat :=
  if r < 128 then [r] else if r < 2048 then [192 + r / 64, 128 + r % 64] else if r < 65536 then [224 + r / 4096, 128 + r / 64 % 64, 128 + r % 64] else [240 + r / 262144, 128 + r / 4096 % 64, 128 + r / 64 % 64, 128 + r % 64]
def enc (r : Int) : List Nat := encN (chI r)
theorem chI_ok (r : Int) : chI r < 1114112 ∧ ¬ (55296 ≤ chI r ∧ chI r ≤ 57343) := by
  unfold chI
  split
  · omega
  · rename_i h
    have h' : ¬ (r < 0 ∨ (55296 ≤ r ∧ r ≤ 57343) ∨ 1114111 < r) := fun hh => h (decide_eq_true hh)
    omega
theorem run_one (s : St) (b : Nat) : run s [b] = ((put s b).1, (put s b).2) := by simp [run]
theorem put0 {s : St} (h : s.left = 0) (b : Nat) : put s b = first b := if_pos h
theorem put_in {s : St} {b : Nat} (h : s.left ≠ 0) (h1 : s.lo ≤ b) (h2 : b ≤ s.hi) : put s b = if s.left = 1 then (⟨0, 0, 0, 0⟩, [((s.v * 64 + b % 64 : Nat) : Int)]) else (⟨s.left - 1, s.v * 64 + b % 64, 128, 191⟩, []) := by
  unfold put
  rw [if_neg h, if_neg (by omega)]
/-- A character's bytes are told as that character, whatever stood ahead but did not wait. -/
theorem run_enc (s : St) (hs : s.left = 0) (r : Int) : (run s (enc r)).2 = [(chI r : Int)] ∧ (run s (enc r)).1.left = 0 := by
  obtain ⟨h1, h2⟩ := chI_ok r
  unfold enc
  obtain ⟨c, hc⟩ : ∃ c, chI r = c := ⟨_, rfl⟩
  rw [hc] at h1 h2 ⊢
  unfold encN
  split
  · simp only [run, put0 hs]
    rw [show first c = (⟨0, 0, 0, 0⟩, [(c : Int)]) by unfold first; rw [if_pos (by assumption)]]
    simp
  · split
    · have e1 : first (192 + c / 64) = (⟨1, c / 64, 128, 191⟩, []) := by
        unfold first
        rw [if_neg (by omega), if_pos (by omega), show (192 + c / 64) % 32 = c / 64 by omega]
      simp only [run, put0 hs, e1]
      rw [put_in (by simp) (by simp) (by simp; omega)]
      simp
      omega
    · split
      · have e1 : ∃ lo hi, first (224 + c / 4096) = (⟨2, c / 4096, lo, hi⟩, []) ∧ lo ≤ 128 + c / 64 % 64 ∧ 128 + c / 64 % 64 ≤ hi := by
          refine ⟨if 224 + c / 4096 = 224 then 160 else 128, if 224 + c / 4096 = 237 then 159 else 191, ?_, ?_, ?_⟩
          · unfold first
            rw [if_neg (by omega), if_neg (by omega), if_pos (by omega), show (224 + c / 4096) % 16 = c / 4096 by omega]
          · split <;> omega
          · split <;> omega
        obtain ⟨lo, hi, e1, l1, l2⟩ := e1
        simp only [run, put0 hs, e1]
        rw [put_in (by simp) l1 l2]
        simp only [Nat.reduceEqDiff, if_false, Nat.reduceSub]
        rw [put_in (by simp) (by simp) (by simp; omega)]
        simp
        omega
      · have e1 : ∃ lo hi, first (240 + c / 262144) = (⟨3, c / 262144, lo, hi⟩, []) ∧ lo ≤ 128 + c / 4096 % 64 ∧ 128 + c / 4096 % 64 ≤ hi := by
          refine ⟨if 240 + c / 262144 = 240 then 144 else 128, if 240 + c / 262144 = 244 then 143 else 191, ?_, ?_, ?_⟩
          · unfold first
            rw [if_neg (by omega), if_neg (by omega), if_neg (by omega), if_pos (by omega), show (240 + c / 262144) % 8 = c / 262144 by omega]
          · split <;> omega
          · split <;> omega
        obtain ⟨lo, hi, e1, l1, l2⟩ := e1
        simp only [run, put0 hs, e1]
        rw [put_in (by simp) l1 l2]
        simp only [Nat.reduceEqDiff, if_false, Nat.reduceSub]
        rw [put_in (by simp) (by simp) (by simp; omega)]
        simp only [Nat.reduceEqDiff, if_false, Nat.reduceSub]
        rw [put_in (by simp) (by simp) (by simp; omega)]
        simp
        omega
theorem enc_len (r : Int) : 1 ≤ (enc r).length ∧ (enc r).length ≤ 4 := by
  unfold enc encN
  split
  · simp
  · split
    · simp
    · split <;> simp
theorem enc_lt (r : Int) : ∀ b ∈ enc r, b < 256 := by
  obtain ⟨h1, h2⟩ := chI_ok r
  unfold enc encN
  intro b hb
  split at hb
  · simp at hb; omega
  · split at hb
    · simp at hb; omega
    · split at hb
      · simp at hb; omega
      · simp at hb; omega
def encs : List Int → List Nat
  | [] => []
  | r :: l => enc r ++ encs l
theorem run_encs (l : List Int) : ∀ (s : St), s.left = 0 → (run s (encs l)).2 = l.map (fun r => (chI r : Int)) ∧ (run s (encs l)).1.left = 0 := by
  induction l with
  | nil => intro s hs; exact ⟨rfl, hs⟩
  | cons r l ih =>
    intro s hs
    obtain ⟨h1, h2⟩ := run_enc s hs r
    obtain ⟨h3, h4⟩ := ih (run s (enc r)).1 h2
    simp only [encs]
    rw [run_append]
    exact ⟨by rw [h1, h3]; rfl, h4⟩
theorem fin0 {s : St} (h : s.left = 0) : fin s = [] := if_pos h
theorem all_encs (l : List Int) : allL (encs l) = l.map (fun r => (chI r : Int)) := by
  obtain ⟨h1, h2⟩ := run_encs l s0 rfl
  unfold allL
  rw [h1, fin0 h2, List.append_nil]
end Go.Proofs.Ytjmcogpplblamaa.Pl
