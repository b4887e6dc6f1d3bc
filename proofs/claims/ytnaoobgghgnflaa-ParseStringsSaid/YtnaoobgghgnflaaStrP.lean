/- What a string of any kind holds comes as it was: in plain Lean. -/
import Derived.Test.YtnaoobgghgnflaaF13
namespace Go.Proofs.Ytnaoobgghgnflaa
open Go.RowKit Pl
set_option linter.unusedVariables false
set_option linter.unusedSimpArgs false
def keepB (c : Int) : Bool := (c != 24) && ((c != 26) && ((c != 27) && ((c != 7) && ((c != 127) && decide (32 ≤ c)))))
theorem keep_iff {c : Int} (h : keepB c = true) : c ≠ 24 ∧ c ≠ 26 ∧ c ≠ 27 ∧ c ≠ 7 ∧ c ≠ 127 ∧ 32 ≤ c := by
  unfold keepB at h
  simp at h
  omega
theorem keep_stop {c : Int} (h : keepB c = true) : stopB c = false := by
  have := keep_iff h
  unfold stopB
  simp
  omega
theorem filtK_yes {xs : List Int} {k : Nat} {c : Int} (h : xs[k]? = some c) (hf : keepB c = true) : (xs.take (k + 1)).filter keepB = (xs.take k).filter keepB ++ [c] := by
  rw [List.take_add_one, h, List.filter_append]
  simp [List.filter_cons, hf]
theorem filtK_no {xs : List Int} {k : Nat} {c : Int} (h : xs[k]? = some c) (hf : keepB c = false) : (xs.take (k + 1)).filter keepB = (xs.take k).filter keepB := by
  rw [List.take_add_one, h, List.filter_append]
  simp [List.filter_cons, hf]
theorem runK_off {s : PS} {xs : List Int} (h : runs s = false) : runK s xs = 0 := by unfold runK; rw [h]; rfl
def SO (d : List Int) : PS := ⟨4, false, s0, 0, [], false, true, [], false, 0, d⟩
theorem text_step (d : List Int) (c : Int) (h : keepB c = true) : stepS (SO d) c = (SO (if d.length < 1024 then d ++ [c] else d), []) := by
  obtain ⟨h1, h2, h3, h4, h5, h6⟩ := keep_iff h
  unfold stepS
  rw [if_neg (by simp [SO]), if_pos ⟨h1, h2, h3⟩]
  unfold plainS
  rw [if_neg (by simp [SO]), if_neg (by simp [SO]), if_neg (by simp [SO]), if_pos (by simp [SO])]
  unfold textS
  rw [if_neg h4]
  by_cases hd : d.length < 1024
  · rw [if_pos ⟨h6, h5, hd⟩, if_pos hd]; rfl
  · rw [if_neg (fun h => hd h.2.2), if_neg hd]
theorem feed_text : ∀ (x : List Int) (d : List Int) (g : Nat) (r : List Int), (∀ c ∈ x, keepB c = true) → d.length ≤ 1024 → feedF (x.length + g) (SO d) (x ++ r) = feedF g (SO (d ++ x.take (1024 - d.length))) r
  | [], d, g, r, _, _ => by simp
  | c :: x, d, g, r, h, hd => by
    have hc := h c (by simp)
    rw [List.cons_append, feedF_step (by simp; omega) (runK_off rfl), text_step d c hc, List.length_cons, show x.length + 1 + g - 1 = x.length + g by omega]
    simp only [List.nil_append]
    by_cases h9 : d.length < 1024
    · rw [if_pos h9, feed_text x (d ++ [c]) g r (fun y hy => h y (by simp [hy])) (by simp; omega)]
      have e : 1024 - d.length = (1024 - (d ++ [c]).length) + 1 := by simp; omega
      rw [e, List.take_succ_cons]
      simp
    · rw [if_neg h9, feed_text x d g r (fun y hy => h y (by simp [hy])) hd]
      have e : 1024 - d.length = 0 := by omega
      rw [e]; simp
theorem feed_osc (x : List Int) (h : ∀ c ∈ x, keepB c = true) : ∃ S, feedF (x.length + 4) ps0 (27 :: 93 :: (x ++ [27, 92])) = (S, [⟨5, 0, 0, 0, ByteArray.empty, [], x.take 1024⟩]) ∧ groundB S = true := by
  have e1 : stepS ps0 27 = (ps0.beg 1, []) := by rfl
  have e2 : stepS (ps0.beg 1) 93 = (SO [], []) := by rfl
  have e3 : ∀ d, stepS (SO d) 27 = ({ SO d with ends := true }, []) := fun d => by rfl
  have e4 : ∀ d, stepS ({ SO d with ends := true }) 92 = ({ SO d with st := 0 }, [⟨5, 0, 0, 0, ByteArray.empty, [], d⟩]) := fun d => by rfl
  rw [feedF_step (by omega) (runK_off rfl), e1, feedF_step (by omega) (runK_off rfl), e2]
  simp only [List.nil_append]
  rw [show x.length + 4 - 1 - 1 = x.length + 2 by omega, feed_text x [] 2 _ h (by simp)]
  simp only [List.nil_append, List.length_nil, Nat.sub_zero]
  rw [feedF_step (by omega) (runK_off rfl), e3, feedF_step (by omega) (runK_off rfl), e4, feedF_nil]
  exact ⟨_, rfl, rfl⟩
theorem runN_front (x : List Int) (h : ∀ c ∈ x, keepB c = true) (c : Int) (r : List Int) (hc : stopB c = true) : runN (x ++ c :: r) = x.length :=
  runN_at (k := x.length) (x := c) (by simp) hc (fun y hy => by rw [List.take_left] at hy; exact keep_stop (h y hy))
def SDCS : PS := ⟨5, false, s0, 0, [], false, false, [5], true, 0, []⟩
theorem head_dcs (g : Nat) (r : List Int) : feedF (g + 4) ps0 (27 :: 80 :: 53 :: 113 :: r) = ((feedF g SDCS r).1, ⟨6, 0, 113, 0, strOfNums [], [5], []⟩ :: (feedF g SDCS r).2) := by
  rw [feedF_step (by omega) (runK_off rfl), feedF_step (by omega) (runK_off rfl), feedF_step (by omega) (runK_off rfl), feedF_step (by omega) (runK_off rfl)]
  rfl
theorem tail_dcs (g : Nat) : ∃ S, feedF (g + 2) SDCS [27, 92] = (S, [evX 8 0 1]) ∧ groundB S = true := by
  rw [feedF_step (by omega) (by rfl), feedF_step (by omega) (by rfl), feedF_nil]
  exact ⟨_, rfl, rfl⟩
theorem feed_dcs (x : List Int) (h : ∀ c ∈ x, keepB c = true) : ∃ S, feedF (x.length + 6) ps0 (27 :: 80 :: 53 :: 113 :: (x ++ [27, 92])) = (S, if x = [] then [⟨6, 0, 113, 0, strOfNums [], [5], []⟩, evX 8 0 1] else [⟨6, 0, 113, 0, strOfNums [], [5], []⟩, ⟨7, 0, 0, 0, ByteArray.empty, [], x⟩, evX 8 0 1]) ∧ groundB S = true := by
  rw [show x.length + 6 = (x.length + 2) + 4 by omega, head_dcs]
  cases x with
  | nil =>
    obtain ⟨S, h1, h2⟩ := tail_dcs 0
    refine ⟨S, ?_, h2⟩
    rw [List.nil_append, List.length_nil, h1]
    rfl
  | cons c x =>
    have hk : runK SDCS (c :: (x ++ [27, 92])) = x.length + 1 := by
      have h1 := runN_front (c :: x) h 27 [92] rfl
      rw [List.cons_append] at h1
      unfold runK
      rw [if_pos (by rfl), h1]
      rfl
    have he : runE SDCS (c :: (x ++ [27, 92])) = [⟨7, 0, 0, 0, ByteArray.empty, [], c :: x⟩] := by
      have h1 := runN_front (c :: x) h 27 [92] rfl
      rw [List.cons_append] at h1
      unfold runE
      rw [h1, if_pos ⟨by rfl, by simp⟩]
      have h2 : (c :: (x ++ [27, 92])).take (c :: x).length = c :: x := by rw [← List.cons_append, List.take_left]
      rw [h2]; rfl
    obtain ⟨S, h1, h2⟩ := tail_dcs x.length
    refine ⟨S, ?_, h2⟩
    rw [List.cons_append, feedF_run (by omega) (by omega), hk, he]
    have h3 : (c :: (x ++ [27, 92])).drop (x.length + 1) = [27, 92] := by simp
    rw [h3, List.length_cons, show x.length + 1 + 2 - 1 = x.length + 2 by omega, h1]
    rfl
def SAPC : PS := ⟨6, false, s0, 0, [], false, true, [], false, 0, []⟩
theorem head_apc (g : Nat) (r : List Int) : feedF (g + 2) ps0 (27 :: 95 :: r) = ((feedF g SAPC r).1, evX 9 0 0 :: (feedF g SAPC r).2) := by
  rw [feedF_step (by omega) (runK_off rfl), feedF_step (by omega) (runK_off rfl)]
  rfl
theorem tail_apc (g : Nat) : ∃ S, feedF (g + 2) SAPC [27, 92] = (S, [evX 11 0 1]) ∧ groundB S = true := by
  rw [feedF_step (by omega) (by rfl), feedF_step (by omega) (by rfl), feedF_nil]
  exact ⟨_, rfl, rfl⟩
theorem feed_apc (x : List Int) (h : ∀ c ∈ x, keepB c = true) : ∃ S, feedF (x.length + 4) ps0 (27 :: 95 :: (x ++ [27, 92])) = (S, if x = [] then [evX 9 0 0, evX 11 0 1] else [evX 9 0 0, ⟨10, 0, 0, 0, ByteArray.empty, [], x⟩, evX 11 0 1]) ∧ groundB S = true := by
  rw [show x.length + 4 = (x.length + 2) + 2 by omega, head_apc]
  cases x with
  | nil =>
    obtain ⟨S, h1, h2⟩ := tail_apc 0
    refine ⟨S, ?_, h2⟩
    rw [List.nil_append, List.length_nil, h1]
    rfl
  | cons c x =>
    have hk : runK SAPC (c :: (x ++ [27, 92])) = x.length + 1 := by
      have h1 := runN_front (c :: x) h 27 [92] rfl
      rw [List.cons_append] at h1
      unfold runK
      rw [if_pos (by rfl), h1]
      rfl
    have he : runE SAPC (c :: (x ++ [27, 92])) = [⟨10, 0, 0, 0, ByteArray.empty, [], c :: x⟩] := by
      have h1 := runN_front (c :: x) h 27 [92] rfl
      rw [List.cons_append] at h1
      unfold runE
      rw [h1, if_pos ⟨by rfl, by simp⟩]
      have h2 : (c :: (x ++ [27, 92])).take (c :: x).length = c :: x := by rw [← List.cons_append, List.take_left]
      rw [h2]; rfl
    obtain ⟨S, h1, h2⟩ := tail_apc x.length
    refine ⟨S, ?_, h2⟩
    rw [List.cons_append, feedF_run (by omega) (by omega), hk, he]
    have h3 : (c :: (x ++ [27, 92])).drop (x.length + 1) = [27, 92] := by simp
    rw [h3, List.length_cons, show x.length + 1 + 2 - 1 = x.length + 2 by omega, h1]
    rfl
def Losc (x : List Int) : List Ev := [⟨5, 0, 0, 0, ByteArray.empty, [], x.take 1024⟩]
theorem fed_osc (x : List Int) (h : ∀ c ∈ x, keepB c = true) : ∃ S, feedF (x.length + 4) ps0 (27 :: 93 :: (x ++ [27, 92])) = (S, Losc x) ∧ groundB S = true := feed_osc x h
theorem apart_osc (x : List Int) : Apart (Losc x) := by
  unfold Losc
  try split
  all_goals
    intro j e f h1 h2 h3
    rcases j with _ | _ | _ | j <;> simp at h1 h2 <;> (subst h1 h2; simp [evX] at h3)
theorem small_osc (x : List Int) (hx : x.length ≤ 4096) : ∀ e ∈ Losc x, e.ps.length ≤ 100000 ∧ e.ds.length ≤ 100000 := by
  unfold Losc
  try split
  all_goals
    intro e he
    simp at he
    try (rcases he with rfl | rfl | rfl)
    all_goals (try (rcases he with rfl | rfl))
    all_goals (try subst he)
    all_goals (simp [evX]; try omega)
def Ldcs (x : List Int) : List Ev := if x = [] then [⟨6, 0, 113, 0, strOfNums [], [5], []⟩, evX 8 0 1] else [⟨6, 0, 113, 0, strOfNums [], [5], []⟩, ⟨7, 0, 0, 0, ByteArray.empty, [], x⟩, evX 8 0 1]
theorem fed_dcs (x : List Int) (h : ∀ c ∈ x, keepB c = true) : ∃ S, feedF (x.length + 6) ps0 (27 :: 80 :: 53 :: 113 :: (x ++ [27, 92])) = (S, Ldcs x) ∧ groundB S = true := feed_dcs x h
theorem apart_dcs (x : List Int) : Apart (Ldcs x) := by
  unfold Ldcs
  try split
  all_goals
    intro j e f h1 h2 h3
    rcases j with _ | _ | _ | j <;> simp at h1 h2 <;> (subst h1 h2; simp [evX] at h3)
theorem small_dcs (x : List Int) (hx : x.length ≤ 4096) : ∀ e ∈ Ldcs x, e.ps.length ≤ 100000 ∧ e.ds.length ≤ 100000 := by
  unfold Ldcs
  try split
  all_goals
    intro e he
    simp at he
    try (rcases he with rfl | rfl | rfl)
    all_goals (try (rcases he with rfl | rfl))
    all_goals (try subst he)
    all_goals (simp [evX]; try omega)
def Lapc (x : List Int) : List Ev := if x = [] then [evX 9 0 0, evX 11 0 1] else [evX 9 0 0, ⟨10, 0, 0, 0, ByteArray.empty, [], x⟩, evX 11 0 1]
theorem fed_apc (x : List Int) (h : ∀ c ∈ x, keepB c = true) : ∃ S, feedF (x.length + 4) ps0 (27 :: 95 :: (x ++ [27, 92])) = (S, Lapc x) ∧ groundB S = true := feed_apc x h
theorem apart_apc (x : List Int) : Apart (Lapc x) := by
  unfold Lapc
  try split
  all_goals
    intro j e f h1 h2 h3
    rcases j with _ | _ | _ | j <;> simp at h1 h2 <;> (subst h1 h2; simp [evX] at h3)
theorem small_apc (x : List Int) (hx : x.length ≤ 4096) : ∀ e ∈ Lapc x, e.ps.length ≤ 100000 ∧ e.ds.length ≤ 100000 := by
  unfold Lapc
  try split
  all_goals
    intro e he
    simp at he
    try (rcases he with rfl | rfl | rfl)
    all_goals (try (rcases he with rfl | rfl))
    all_goals (try subst he)
    all_goals (simp [evX]; try omega)
end Go.Proofs.Ytnaoobgghgnflaa
