/- Whatever came ahead, 18 brings it to ground; a text is read as one: in plain Lean. -/
import Derived.Test.YtnaoobgghgnflaaF11
namespace Go.Proofs.Ytnaoobgghgnflaa
open Go.RowKit Pl
set_option linter.unusedVariables false
set_option linter.unusedSimpArgs false
/-- In no state but ground does the decoder wait; an end begins in a string alone. -/
def Inv (s : PS) : Prop := (s.st ≠ 0 → s.ch.left = 0) ∧ (s.ends = true → 4 ≤ s.st)
def Pr (s t : PS) : Prop := t.ends = s.ends ∧ (t.st = 0 ∨ t.ch = s.ch)
theorem pr_ground (s : PS) (c : Int) (h : s.st = 0) : Pr s (groundS s c).1 := by
  unfold groundS
  split
  · exact ⟨rfl, .inl h⟩
  · split
    · exact ⟨rfl, .inl h⟩
    · exact ⟨rfl, .inl h⟩
theorem pr_back (s : PS) (c : Int) : Pr s (backS s c).1 := by
  have h := pr_ground { s with st := 0 } c rfl
  exact ⟨h.1, by
    unfold backS groundS
    split
    · exact .inl rfl
    · split
      · exact .inl rfl
      · exact .inl rfl⟩
theorem pr_keep (s : PS) (c : Int) : Pr s (keepS s c) := by unfold keepS; split <;> exact ⟨rfl, .inr rfl⟩
theorem pr_done (s : PS) (c : Int) : Pr s (doneS s c).1 := ⟨rfl, .inl rfl⟩
theorem pr_open {s : PS} {c : Int} {r : PS × List Ev} (h : openS s c = some r) : Pr s r.1 := by
  unfold openS at h
  repeat' split at h
  all_goals first | (cases h; done) | (cases h; exact ⟨rfl, .inr rfl⟩)
theorem pr_esc (s : PS) (c : Int) : Pr s (escS s c).1 := by
  unfold escS
  split
  · exact ⟨rfl, .inr rfl⟩
  · split
    · exact pr_back s c
    · split
      · exact pr_keep s c
      · split
        · exact ⟨rfl, .inr rfl⟩
        · split
          · exact pr_done s c
          · split
            · rename_i r h; exact pr_open h
            · exact pr_done s c
theorem pr_final (s : PS) (c : Int) : Pr s (finalS s c).1 := by
  unfold finalS
  simp only
  split
  · exact ⟨rfl, .inr rfl⟩
  · split
    · exact ⟨rfl, .inr rfl⟩
    · exact ⟨rfl, .inr rfl⟩
theorem pr_head (s : PS) (c : Int) : Pr s (headS s c).1 := by
  have hb := pr_back { s with fi := s.fi && (ctlB c || c == 127) } c
  have hf := pr_final { s with fi := s.fi && (ctlB c || c == 127) } c
  have hk := pr_keep { s with fi := s.fi && (ctlB c || c == 127) } c
  unfold headS
  simp only
  repeat' split
  all_goals first | exact hb | exact hf | exact hk | exact ⟨rfl, .inr rfl⟩
theorem pr_text (s : PS) (c : Int) : Pr s (textS s c).1 := by
  unfold textS
  repeat' split
  all_goals exact ⟨rfl, .inr rfl⟩
theorem inv_pr {s t : PS} (h : Pr s t) (hc : s.ch.left = 0) (he : s.ends = false) : Inv t := by
  obtain ⟨h1, h2⟩ := h
  refine ⟨fun h3 => ?_, fun h3 => by rw [h1, he] at h3; cases h3⟩
  rcases h2 with h2 | h2
  · exact absurd h2 h3
  · rw [h2]; exact hc
theorem inv_step {s : PS} (h : Inv s) (c : Int) : Inv (stepS s c).1 := by
  obtain ⟨h1, h2⟩ := h
  unfold stepS
  split
  · rename_i he
    have h4 := h2 he
    have hl := h1 (by omega)
    unfold endedS
    split
    · exact ⟨fun h => absurd rfl h, fun h => by cases h⟩
    · split
      · exact ⟨fun _ => hl, fun h => by cases h⟩
      · split
        · exact ⟨fun h => absurd rfl h, fun h => by cases h⟩
        · exact inv_pr (pr_esc (({ s with ends := false } : PS).beg 1) c) hl rfl
  · rename_i he
    have hef : s.ends = false := by simpa using he
    split
    · unfold plainS
      split
      · rename_i hz
        have h9 := pr_ground s c hz
        have hst : (groundS s c).1.st = 0 := by
          unfold groundS
          split
          · exact hz
          · split
            · exact hz
            · exact hz
        exact ⟨fun h => absurd hst h, fun h => by rw [h9.1, hef] at h; cases h⟩
      · rename_i hz
        have hl := h1 hz
        split
        · exact inv_pr (pr_esc s c) hl hef
        · split
          · exact inv_pr (pr_head s c) hl hef
          · split
            · exact inv_pr (pr_text s c) hl hef
            · exact ⟨h1, h2⟩
    · simp only
      have hl : (if s.st = 0 then ({ s with ch := s0 } : PS) else s).ch.left = 0 := by
        by_cases hz : s.st = 0
        · rw [if_pos hz]; rfl
        · rw [if_neg hz]; exact h1 hz
      have hee : (if s.st = 0 then ({ s with ch := s0 } : PS) else s).ends = false := by split <;> exact hef
      have hss : (if s.st = 0 then ({ s with ch := s0 } : PS) else s).st = s.st := by split <;> rfl
      split
      · exact ⟨fun h => absurd rfl h, fun h => by have h9 := hee; simp only at h; rw [h9] at h; cases h⟩
      · split
        · rename_i h4
          exact ⟨fun _ => hl, fun _ => by simp only; rw [hss]; exact h4⟩
        · exact ⟨fun _ => hl, fun h => by have h9 := hee; unfold PS.beg at h; simp only at h; rw [h9] at h; cases h⟩
theorem inv_feed : ∀ (g : Nat) {s : PS} (xs : List Int), Inv s → Inv (feedF g s xs).1
  | 0, s, xs, h => by unfold feedF; exact h
  | g + 1, s, [], h => by unfold feedF; exact h
  | g + 1, s, c :: cs, h => by
    unfold feedF
    split
    · exact inv_feed g _ h
    · exact inv_feed g _ (inv_step h c)
theorem inv0 : Inv ⟨0, false, s0, 0, [], false, true, [], false, 0, []⟩ := ⟨fun h => absurd rfl h, fun h => by cases h⟩
theorem run24 (s : PS) : runK s [24] = 0 := by unfold runK; split; rfl; rfl
theorem after24 {s : PS} (h : Inv s) : (feedF 1 s [24]).1.st = 0 ∧ (feedF 1 s [24]).1.ch.left = 0 ∧ (feedF 1 s [24]).1.ends = false ∧ ∃ E0, (feedF 1 s [24]).2 = E0 ++ [evX 2 0 24] := by
  rw [feedF_step (by omega) (run24 s)]
  rw [feedF_nil]
  simp only [List.append_nil]
  obtain ⟨h1, h2⟩ := h
  unfold stepS
  by_cases he : s.ends = true
  · rw [if_pos he]
    have hl := h1 (by have := h2 he; omega)
    unfold endedS
    rw [if_neg (by omega), if_neg (by omega), if_pos (.inl rfl)]
    exact ⟨rfl, hl, rfl, _, rfl⟩
  · rw [if_neg he, if_neg (by omega)]
    have hef : s.ends = false := by simpa using he
    simp only
    rw [if_pos (show (24 : Int) ≠ 27 by decide)]
    refine ⟨rfl, ?_, ?_, _, by rw [← List.append_assoc]⟩
    · by_cases hz : s.st = 0
      · simp only [if_pos hz]; rfl
      · simp only [if_neg hz]; exact h1 hz
    · by_cases hz : s.st = 0
      · simp only [if_pos hz]; exact hef
      · simp only [if_neg hz]; exact hef
theorem step_print {s : PS} (h0 : s.st = 0) (hl : s.ch.left = 0) (he : s.ends = false) {c : Int} (hc : 32 ≤ c ∧ c < 127) : (stepS s c).2 = [evX 1 c 0] ∧ (stepS s c).1.st = 0 ∧ (stepS s c).1.ch.left = 0 ∧ (stepS s c).1.ends = false := by
  have hct : ctlB c = false := by unfold ctlB; rw [decide_eq_false (by omega)]; rfl
  have hcn : ((c.toNat : Nat) : Int) = c := by omega
  have hput : put s.ch c.toNat = (⟨0, 0, 0, 0⟩, [c]) := by
    unfold put first
    rw [if_pos hl, if_pos (by omega), hcn]
  have e : stepS s c = ({ s with ch := ⟨0, 0, 0, 0⟩ }, [evX 1 c 0]) := by
    unfold stepS plainS groundS
    rw [if_neg (by rw [he]; simp), if_pos (by omega), if_pos h0, if_neg (by rw [hct]; simp), if_neg (by omega), hput]
    rfl
  rw [e]
  exact ⟨rfl, h0, rfl, he⟩
theorem feed_print : ∀ (xs : List Int) {s : PS}, s.st = 0 → s.ch.left = 0 → s.ends = false → (∀ c ∈ xs, 32 ≤ c ∧ c < 127) → (feedF xs.length s xs).2 = xs.map (fun c => evX 1 c 0)
  | [], s, _, _, _, _ => by rfl
  | c :: cs, s, h0, hl, he, hx => by
    have hk : runK s (c :: cs) = 0 := by unfold runK runs; rw [he, h0]; rfl
    obtain ⟨p1, p2, p3, p4⟩ := step_print h0 hl he (hx c (by simp))
    rw [feedF_step (by simp) hk, List.length_cons, Nat.add_sub_cancel, p1]
    simp only
    rw [feed_print cs p2 p3 p4 (fun y hy => hx y (by simp [hy]))]
    rfl
end Go.Proofs.Ytnaoobgghgnflaa
