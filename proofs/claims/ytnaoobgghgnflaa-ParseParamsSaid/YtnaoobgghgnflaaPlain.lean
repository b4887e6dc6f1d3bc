/- The plain law of characters: what bytes tell, one by one; widths; the line characters. No program in sight. -/
namespace Go.Proofs.Ytnaoobgghgnflaa.Pl
def inL (r : Int) (l : List (Int × Int)) : Bool := l.any fun s => decide (s.1 ≤ r) && decide (r ≤ s.2)
def thinL : List (Int × Int) := [(0, 31), (127, 159), (768, 879), (8203, 8207), (65024, 65039)]
def wideL : List (Int × Int) := [(4352, 4447), (11904, 42191), (44032, 55203), (63744, 64255), (65072, 65135), (65280, 65376), (65504, 65510), (127744, 129791), (131072, 262141)]
def noneB (r : Int) : Bool := decide (r < 0 ∨ (55296 ≤ r ∧ r ≤ 57343) ∨ 1114111 < r)
def widthI (r : Int) : Int := if noneB r = true then 0 else if inL r thinL = true then 0 else if inL r wideL = true then 2 else 1
theorem width_bd (r : Int) : 0 ≤ widthI r ∧ widthI r ≤ 2 := by
  unfold widthI
  split
  · omega
  · split
    · omega
    · split <;> omega
theorem width_low {r : Int} (h : r < 32) : widthI r = 0 := by
  unfold widthI
  by_cases hn : noneB r = true
  · rw [if_pos hn]
  · rw [if_neg hn, if_pos]
    have : ¬ r < 0 := fun h' => hn (decide_eq_true (.inl h'))
    simp only [inL, thinL, List.any_cons]
    rw [decide_eq_true (show (0 : Int) ≤ r by omega), decide_eq_true (show r ≤ 31 by omega)]
    rfl
theorem width_high {r : Int} (h : 1114111 < r) : widthI r = 0 := if_pos (decide_eq_true (.inr (.inr h)))
def linesL : List Int := [0x00A0, 0x25C6, 0x2592, 0x2409, 0x240C, 0x240D, 0x240A, 0x00B0, 0x00B1, 0x2424, 0x240B, 0x2518, 0x2510, 0x250C, 0x2514, 0x253C, 0x23BA, 0x23BB, 0x2500, 0x23BC, 0x23BD, 0x251C, 0x2524, 0x2534, 0x252C, 0x2502, 0x2264, 0x2265, 0x03C0, 0x2260, 0x00A3, 0x00B7]
def graphicI (s b : Nat) : Int := if s = 48 ∧ 95 ≤ b ∧ b ≤ 126 then linesL.getD (b - 95) 0 else b
/-- What a decoder holds: how many bytes lack, what there is, the next one's bounds. -/
structure St where
  left : Nat
  v : Nat
  lo : Nat
  hi : Nat
def bad : Int := 65533
/-- A byte where nothing waits. -/
def first (b : Nat) : St × List Int :=
  if b < 128 then (⟨0, 0, 0, 0⟩, [(b : Int)])
  else if 194 ≤ b ∧ b ≤ 223 then (⟨1, b % 32, 128, 191⟩, [])
  else if 224 ≤ b ∧ b ≤ 239 then (⟨2, b % 16, if b = 224 then 160 else 128, if b = 237 then 159 else 191⟩, [])
  else if 240 ≤ b ∧ b ≤ 244 then (⟨3, b % 8, if b = 240 then 144 else 128, if b = 244 then 143 else 191⟩, [])
  else (⟨0, 0, 0, 0⟩, [bad])
def put (s : St) (b : Nat) : St × List Int :=
  if s.left = 0 then first b
  else if b < s.lo ∨ s.hi < b then ((first b).1, bad :: (first b).2)
  else if s.left = 1 then (⟨0, 0, 0, 0⟩, [((s.v * 64 + b % 64 : Nat) : Int)])
  else (⟨s.left - 1, s.v * 64 + b % 64, 128, 191⟩, [])
def fin (s : St) : List Int := if s.left = 0 then [] else [bad]
def s0 : St := ⟨0, 0, 0, 0⟩
def OkS (s : St) : Prop := s.left ≤ 3 ∧ (s.left = 3 → s.v < 8) ∧ (s.left = 2 → s.v < 512) ∧ (s.left = 1 → s.v < 32768) ∧ s.lo ≤ 255 ∧ s.hi ≤ 255
theorem ok0 : OkS s0 := by unfold OkS s0; simp
theorem first_ok (b : Nat) : OkS (first b).1 := by
  unfold first OkS
  split
  · simp
  · split
    · simp; omega
    · split
      · simp; refine ⟨by omega, ?_, ?_⟩ <;> split <;> omega
      · split
        · simp; refine ⟨by omega, ?_, ?_⟩ <;> split <;> omega
        · simp
theorem put_ok {s : St} (h : OkS s) (b : Nat) : OkS (put s b).1 := by
  unfold put
  split
  · exact first_ok b
  · split
    · exact first_ok b
    · split
      · unfold OkS; simp
      · obtain ⟨h1, h2, h3, h4, -, -⟩ := h
        unfold OkS
        simp only
        refine ⟨by omega, fun h => by omega, fun h => ?_, fun h => ?_, by omega, by omega⟩
        · have := h2 (by omega); omega
        · have := h3 (by omega); omega
theorem first_len (b : Nat) : (first b).2.length ≤ 1 := by
  unfold first
  split
  · simp
  · split
    · simp
    · split
      · simp
      · split <;> simp
theorem put_len (s : St) (b : Nat) : (put s b).2.length ≤ 2 := by
  have := first_len b
  unfold put
  split
  · omega
  · split
    · simp; omega
    · split <;> simp
/-- What bytes tell, one behind the other. -/
def run (s : St) : List Nat → St × List Int
  | [] => (s, [])
  | b :: l => ((run (put s b).1 l).1, (put s b).2 ++ (run (put s b).1 l).2)
theorem run_append (s : St) (a b : List Nat) : run s (a ++ b) = ((run (run s a).1 b).1, (run s a).2 ++ (run (run s a).1 b).2) := by
  induction a generalizing s with
  | nil => simp [run]
  | cons x a ih => simp only [List.cons_append, run, ih, List.append_assoc]
theorem run_ok {s : St} (h : OkS s) (l : List Nat) : OkS (run s l).1 := by
  induction l generalizing s with
  | nil => exact h
  | cons x l ih => exact ih (put_ok h x)
theorem run_len (s : St) (l : List Nat) : (run s l).2.length ≤ 2 * l.length := by
  induction l generalizing s with
  | nil => simp [run]
  | cons x l ih =>
    have h1 := put_len s x
    have h2 := ih (put s x).1
    simp only [run, List.length_append, List.length_cons]
    omega
def allL (l : List Nat) : List Int := (run s0 l).2 ++ fin (run s0 l).1
theorem fin_len (s : St) : (fin s).length ≤ 1 := by unfold fin; split <;> simp
theorem put_v {s : St} (h : OkS s) (hl : s.left ≠ 0) (b : Nat) : s.v * 64 + b % 64 < 2097152 := by
  obtain ⟨h1, h2, h3, h4, -, -⟩ := h
  rcases (show s.left = 1 ∨ s.left = 2 ∨ s.left = 3 by omega) with h | h | h
  · have := h4 h; omega
  · have := h3 h; omega
  · have := h2 h; omega
end Go.Proofs.Ytnaoobgghgnflaa.Pl
