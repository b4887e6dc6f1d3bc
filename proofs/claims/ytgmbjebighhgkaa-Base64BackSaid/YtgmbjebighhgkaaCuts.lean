/- Plain laws of texts cut anywhere: the '=' at the end, fronts of a text that stands for bytes, errors that come at one sign. -/
import Derived.Test.YtgmbjebighhgkaaPlain
namespace Go.Proofs.Ytgmbjebighhgkaa
theorem sign_lt (v : Nat) (h : v < 64) : sign v < 256 := by unfold sign; repeat (first | omega | split)
theorem four_mem {v c : Nat} (h : c ∈ four v) : c ≠ 61 ∧ c < 256 := by
  simp only [four, List.mem_cons, List.not_mem_nil, or_false] at h
  rcases h with rfl | rfl | rfl | rfl <;> exact ⟨sign_ne _ (Nat.mod_lt _ (by omega)), sign_lt _ (Nat.mod_lt _ (by omega))⟩
theorem group3_mem {a b c x : Nat} (h : x ∈ group [a, b, c]) : x ≠ 61 ∧ x < 256 := by
  simp only [group, List.length_cons, List.length_nil, Nat.reduceAdd, Nat.reduceSub, List.replicate_zero, List.append_nil] at h
  exact four_mem (List.mem_of_mem_take h)
theorem bare_mem : ∀ (b : List Nat) {x : Nat}, x ∈ bareOf b → x ≠ 61 ∧ x < 256
  | [], _, h => by simp [bareOf] at h
  | [a], _, h => by simp only [bareOf] at h; exact four_mem (List.mem_of_mem_take h)
  | [a, b], _, h => by simp only [bareOf] at h; exact four_mem (List.mem_of_mem_take h)
  | a :: b :: c :: r, x, h => by
    rcases List.mem_append.1 (show x ∈ group [a, b, c] ++ bareOf r from h) with h | h
    · exact group3_mem h
    · exact bare_mem r h
theorem enc_bare : ∀ b : List Nat, ∃ k, enc b = bareOf b ++ List.replicate k 61
  | [] => ⟨0, rfl⟩
  | [a] => ⟨2, rfl⟩
  | [a, b] => ⟨1, rfl⟩
  | a :: b :: c :: r => by
    obtain ⟨k, hk⟩ := enc_bare r
    exact ⟨k, by show group [a, b, c] ++ enc r = (group [a, b, c] ++ bareOf r) ++ _; rw [hk, List.append_assoc]⟩
theorem enc_mem {b : List Nat} {x : Nat} (h : x ∈ enc b) : x < 256 := by
  obtain ⟨k, hk⟩ := enc_bare b
  rw [hk] at h
  rcases List.mem_append.1 h with h | h
  · exact (bare_mem b h).2
  · rw [(List.mem_replicate.1 h).2]; omega
theorem enc_len : ∀ b : List Nat, (enc b).length ≤ 4 * b.length
  | [] => by simp [enc]
  | [a] => by simp [enc, group, four]
  | [a, b] => by simp [enc, group, four]
  | a :: b :: c :: r => by
    have := enc_len r
    show (group [a, b, c] ++ enc r).length ≤ _
    have e : (group [a, b, c]).length = 4 := by simp [group, four]
    rw [List.length_append, e, List.length_cons, List.length_cons, List.length_cons]
    omega
/-- A '=' stands at m - 1 just when m is behind the signs that are none. -/
theorem enc_last {b : List Nat} {m : Nat} (h : 0 < m) (hm : m ≤ (enc b).length) : ((enc b).getD (m - 1) 0 = 61) ↔ (bareOf b).length < m := by
  obtain ⟨k, hk⟩ := enc_bare b
  rw [hk] at hm ⊢
  rw [List.length_append, List.length_replicate] at hm
  rw [List.getD_eq_getElem?_getD]
  by_cases h1 : m - 1 < (bareOf b).length
  · rw [List.getElem?_append_left h1, List.getElem?_eq_getElem h1]
    have := (bare_mem b (List.getElem_mem h1)).1
    simp only [Option.getD_some]
    constructor
    · intro e; exact absurd e this
    · intro e; omega
  · rw [List.getElem?_append_right (by omega), List.getElem?_eq_getElem (by simp; omega)]
    simp
    omega
theorem enc_front (b : List Nat) : (enc b).take (bareOf b).length = bareOf b ∧ (bareOf b).length ≤ (enc b).length := by
  obtain ⟨k, hk⟩ := enc_bare b
  rw [hk]
  exact ⟨by simp, by simp⟩
theorem run_front {s t : St} {xs ys x : List Nat} (h : run s (xs ++ ys) = some (t, x)) : ∃ u y, run s xs = some (u, y) := by
  rw [run_append] at h
  cases h1 : run s xs with
  | none => rw [h1] at h; cases h
  | some p => exact ⟨p.1, p.2, rfl⟩
/-- A round of a text cut anywhere: the piece is taken, and tells what is new. -/
theorem cut_round {T : List Nat} {s u : St} {x z : List Nat} {q n : Nat} (hT : run fresh T = some (u, z)) (hq : run fresh (T.take q) = some (s, x)) (hb : s.bad = false) :
    ∃ t y, write s ((T.drop q).take n) = (t, y, 0) ∧ run fresh (T.take (q + n)) = some (t, x ++ y) ∧ t.bad = false := by
  have e : T.take (q + n) = T.take q ++ (T.drop q).take n := by rw [List.take_add]
  have h1 : run fresh (T.take (q + n) ++ T.drop (q + n)) = some (u, z) := by rw [List.take_append_drop]; exact hT
  obtain ⟨t, y, h2⟩ := run_front h1
  have h3 := h2
  rw [e, run_append, hq] at h3
  simp only at h3
  cases h4 : run s ((T.drop q).take n) with
  | none => rw [h4] at h3; cases h3
  | some p =>
    obtain ⟨t', y'⟩ := p
    rw [h4] at h3
    simp only [Option.some.injEq, Prod.mk.injEq] at h3
    obtain ⟨rfl, rfl⟩ := h3
    refine ⟨t', y', ?_, h2, run_bad (s := fresh) rfl h2⟩
    unfold write
    rw [if_neg (by simp [hb]), h4]
/-- Of a text in two pieces: both errors, all bytes. -/
theorem two_cut (x y : List Nat) :
    (((write fresh x).2.2 ≠ 0 ∨ (write (write fresh x).1 y).2.2 ≠ 0) ↔ (write fresh (x ++ y)).2.2 ≠ 0) ∧
    ((write fresh x).2.2 ≠ 0 → (write (write fresh x).1 y).2.2 ≠ 0) ∧
    ((write fresh (x ++ y)).2.2 = 0 → (write fresh x).2.1 ++ (write (write fresh x).1 y).2.1 = (write fresh (x ++ y)).2.1) ∧
    ((write fresh (x ++ y)).2.2 ≠ 0 → (write (write fresh x).1 y).1 = broken) := by
  have h0 : fresh.bad = false := rfl
  have e1 : ∀ l, write fresh l = match run fresh l with | none => (broken, [], 3) | some (t, x) => (t, x, 0) := fun l => by unfold write; rw [if_neg (by simp [h0])]; cases run fresh l <;> rfl
  have e2 : ∀ l, write broken l = (broken, [], 3) := fun l => by unfold write; rw [if_pos (by rfl)]
  rw [e1 x, e1 (x ++ y), run_append]
  cases h : run fresh x with
  | none => simp [e2]
  | some p =>
    obtain ⟨t, z⟩ := p
    have ht := run_bad h0 h
    have e3 : write t y = match run t y with | none => (broken, [], 3) | some (u, x) => (u, x, 0) := by unfold write; rw [if_neg (by simp [ht])]; cases run t y <;> rfl
    simp only
    rw [e3]
    cases h2 : run t y with
    | none => simp
    | some q => obtain ⟨u, v⟩ := q; simp
theorem write_broken (l : List Nat) : write broken l = (broken, [], 3) := by unfold write; rw [if_pos (by rfl)]
theorem fin_broken : fin broken = (broken, [], 3) := by unfold fin; rw [if_pos (.inl rfl)]
theorem gives_run {T b : List Nat} (h : Gives T b) : ∃ s x y, run fresh T = some (s, x) ∧ fin s = (fresh, y, 0) ∧ x ++ y = b ∧ s.bad = false := h
/-- The k-th sign of a group. -/
theorem group_at (p : List Nat) (h1 : 1 ≤ p.length) (h3 : p.length ≤ 3) (k : Nat) (hk : k < 4) : (group p)[k]? = some (if k ≤ p.length then sign (word p / 64 ^ (3 - k) % 64) else 61) := by
  match p, h1, h3 with
  | [a], _, _ => rcases k with _ | _ | _ | _ | k <;> first | omega | simp [group, four]
  | [a, b], _, _ => rcases k with _ | _ | _ | _ | k <;> first | omega | simp [group, four]
  | [a, b, c], _, _ => rcases k with _ | _ | _ | _ | k <;> first | omega | simp [group, four]
theorem group_length (p : List Nat) (h1 : 1 ≤ p.length) (h3 : p.length ≤ 3) : (group p).length = 4 := by
  match p, h1, h3 with
  | [a], _, _ => rfl
  | [a, b], _, _ => rfl
  | [a, b, c], _, _ => rfl
end Go.Proofs.Ytgmbjebighhgkaa
