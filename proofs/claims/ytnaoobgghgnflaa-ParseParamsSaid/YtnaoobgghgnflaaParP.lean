/- Any numbers as parameters of a sequence: in plain Lean. -/
import Derived.Test.YtnaoobgghgnflaaF13
import Derived.Test.YtnaoobgghgnflaaMark3
namespace Go.Proofs.Ytnaoobgghgnflaa
open Go.RowKit Pl
set_option linter.unusedVariables false
set_option linter.unusedSimpArgs false
def SP (fi so : Bool) (la : Int) (ps : List Int) : PS := ⟨2, false, s0, 0, [], false, fi, ps, so, la, []⟩
theorem digit_step (fi so : Bool) (la : Int) (ps : List Int) (c : Int) (h : 48 ≤ c ∧ c ≤ 57) : stepS (SP fi so la ps) c = (SP false true (min (10 * la + (c - 48)) 65535) ps, []) := by
  have hc : ctlB c = false := by unfold ctlB; rw [decide_eq_false (by omega)]; rfl
  have h127 : (c == 127) = false := by simp; omega
  unfold stepS
  rw [if_neg (by simp [SP]), if_pos (by omega)]
  unfold plainS
  rw [if_neg (by simp [SP]), if_neg (by simp [SP]), if_pos (.inl (by simp [SP]))]
  unfold headS
  simp only
  rw [if_neg (by simp [hc]), if_neg (by omega), if_neg (by omega), if_neg (by omega), if_pos (by omega), hc, h127]
  simp [SP]
theorem semi_step (la : Int) (ps : List Int) : stepS (SP false true la ps) 59 = (SP false true 0 (if ps.length < 16 then ps ++ [la] else ps), []) := by
  unfold stepS
  rw [if_neg (by simp [SP]), if_pos (by omega)]
  unfold plainS
  rw [if_neg (by simp [SP]), if_neg (by simp [SP]), if_pos (.inl (by simp [SP]))]
  unfold headS nextS
  by_cases h : ps.length < 16 <;> simp [SP, ctlB, h]
theorem final_step (fi so : Bool) (la : Int) (ps : List Int) (c : Int) (h : 64 ≤ c ∧ c ≤ 126) : ∃ S, stepS (SP fi so la ps) c = (S, [⟨4, 0, c, 0, strOfNums [], if so = true then (if ps.length < 16 then ps ++ [la] else ps) else ps, []⟩]) ∧ groundB S = true := by
  have hc : ctlB c = false := by unfold ctlB; rw [decide_eq_false (by omega)]; rfl
  have h127 : (c == 127) = false := by simp; omega
  unfold stepS
  rw [if_neg (by simp [SP]), if_pos (by omega)]
  unfold plainS
  rw [if_neg (by simp [SP]), if_neg (by simp [SP]), if_pos (.inl (by simp [SP]))]
  unfold headS
  simp only
  rw [if_neg (by simp [hc]), if_neg (by omega), if_neg (by omega), if_neg (by omega), if_neg (by omega), if_neg (by omega), if_neg (by omega), if_neg (by omega)]
  unfold finalS nextS
  cases so
  · exact ⟨_, by simp [SP]; rfl, by simp [SP, groundB, s0]⟩
  · by_cases h : ps.length < 16
    · exact ⟨_, by simp [SP, h]; rfl, by simp [SP, groundB, s0]⟩
    · exact ⟨_, by simp [SP, h]; rfl, by simp [SP, groundB, s0]⟩
theorem runK_sp (fi so : Bool) (la : Int) (ps xs : List Int) : runK (SP fi so la ps) xs = 0 := by unfold runK runs; rfl
def mn (n : Nat) : Int := ((min n 65535 : Nat) : Int)
theorem feed_digs (ps : List Int) (n : Nat) : ∀ (fi so : Bool) (g : Nat) (r : List Int), feedF ((digs n).length + g) (SP fi so 0 ps) (ints (digs n) ++ r) = feedF g (SP false true (mn n) ps) r := by
  induction n using Nat.strongRecOn with
  | _ n ih =>
    intro fi so g r
    by_cases h : n < 10
    · rw [digs_lt h]
      simp only [ints, List.map_cons, List.map_nil, List.length_cons, List.length_nil, List.cons_append, List.nil_append]
      rw [feedF_step (by omega) (runK_sp _ _ _ _ _), digit_step _ _ _ _ _ (by omega), show 0 + 1 + g - 1 = g by omega]
      simp only [List.nil_append]
      rw [show min (10 * (0 : Int) + (((48 + n : Nat) : Int) - 48)) 65535 = mn n by unfold mn; omega]
    · rw [digs_ge (by omega)]
      have e1 : ints (digs (n / 10) ++ [48 + n % 10]) ++ r = ints (digs (n / 10)) ++ (((48 + n % 10 : Nat) : Int) :: r) := by simp [ints]
      rw [e1, List.length_append, Nat.add_assoc, ih (n / 10) (by omega) fi so _ _]
      simp only [List.length_cons, List.length_nil]
      rw [feedF_step (by omega) (runK_sp _ _ _ _ _), digit_step _ _ _ _ _ (by omega), show 0 + 1 + g - 1 = g by omega]
      simp only [List.nil_append]
      rw [show min (10 * mn (n / 10) + (((48 + n % 10 : Nat) : Int) - 48)) 65535 = mn n by unfold mn; omega]
/-- The parameters' text. -/
def pb : List Nat → List Nat
  | [] => []
  | [n] => digs n
  | n :: m :: l => digs n ++ 59 :: pb (m :: l)
theorem pb_snoc : ∀ (l : List Nat) (n : Nat), pb (l ++ [n]) = (if l.length = 0 then [] else pb l ++ [59]) ++ digs n
  | [], n => by simp [pb]
  | [m], n => by simp [pb]
  | m :: k :: l, n => by
    have h := pb_snoc (k :: l) n
    simp only [List.cons_append, List.length_cons] at h ⊢
    rw [if_neg (by omega)] at h ⊢
    simp only [pb]
    rw [h]; simp
theorem feed_pb : ∀ (l : List Nat) (n : Nat) (fi so : Bool) (ps : List Int) (c : Int), ps.length ≤ 16 → 64 ≤ c ∧ c ≤ 126 → ∃ S, feedF ((pb (n :: l)).length + 1) (SP fi so 0 ps) (ints (pb (n :: l)) ++ [c]) = (S, [⟨4, 0, c, 0, strOfNums [], (ps ++ (n :: l).map mn).take 16, []⟩]) ∧ groundB S = true
  | [], n, fi, so, ps, c, hp, hc => by
    obtain ⟨S, h1, h2⟩ := final_step false true (mn n) ps c hc
    refine ⟨S, ?_, h2⟩
    simp only [pb]
    rw [feed_digs, feedF_step (by omega) (runK_sp _ _ _ _ _), h1, feedF_nil]
    simp only [if_true, List.append_nil, List.map_cons, List.map_nil]
    by_cases h : ps.length < 16
    · rw [if_pos h, List.take_of_length_le (by simp; omega)]
    · rw [if_neg h, List.take_append_of_le_length (by omega), List.take_of_length_le (by omega)]
  | m :: l, n, fi, so, ps, c, hp, hc => by
    obtain ⟨S, h1, h2⟩ := feed_pb l m false true (if ps.length < 16 then ps ++ [mn n] else ps) c (by split; simp; omega; omega) hc
    refine ⟨S, ?_, h2⟩
    have e1 : ints (pb (n :: m :: l)) ++ [c] = ints (digs n) ++ (59 :: (ints (pb (m :: l)) ++ [c])) := by simp [pb, ints]
    have e2 : (pb (n :: m :: l)).length + 1 = (digs n).length + ((pb (m :: l)).length + 1 + 1) := by simp [pb]; omega
    rw [e1, e2, feed_digs, feedF_step (by omega) (runK_sp _ _ _ _ _), semi_step, Nat.add_sub_cancel]
    simp only
    rw [h1]
    simp only [List.nil_append]
    by_cases h : ps.length < 16
    · rw [if_pos h]; simp
    · rw [if_neg h, List.take_append_of_le_length (by omega), List.take_append_of_le_length (by omega)]
/-- What a sequence of these parameters tells. -/
theorem fed_par (l : List Nat) (c : Int) (hc : 64 ≤ c ∧ c ≤ 126) : ∃ S, feedF ((pb l).length + 3) ps0 (27 :: 91 :: (ints (pb l) ++ [c])) = (S, [⟨4, 0, c, 0, strOfNums [], (l.map mn).take 16, []⟩]) ∧ groundB S = true := by
  have e1 : stepS ps0 27 = (ps0.beg 1, []) := by rfl
  have e2 : stepS (ps0.beg 1) 91 = (SP true false 0 [], []) := by rfl
  have k0 : ∀ xs, runK ps0 xs = 0 := fun xs => by unfold runK runs; rfl
  have k1 : ∀ xs, runK (ps0.beg 1) xs = 0 := fun xs => by unfold runK runs; rfl
  rw [feedF_step (by omega) (k0 _), e1, feedF_step (by omega) (k1 _), e2]
  simp only [List.nil_append]
  rw [show (pb l).length + 3 - 1 - 1 = (pb l).length + 1 by omega]
  cases l with
  | nil =>
    obtain ⟨S, h1, h2⟩ := final_step true false 0 [] c hc
    refine ⟨S, ?_, h2⟩
    simp only [pb, ints, List.map_nil, List.nil_append, List.length_nil]
    rw [feedF_step (by omega) (runK_sp _ _ _ _ _), h1, feedF_nil]
    rfl
  | cons n l =>
    obtain ⟨S, h1, h2⟩ := feed_pb l n true false [] c (by simp) hc
    refine ⟨S, ?_, h2⟩
    rw [h1]
    simp
theorem strCells_nstr (x : List Nat) (hx : ∀ c ∈ x, c < 256) : Lib.strCells (nstr x) = (ints x).map (Value.int .u8) := by
  unfold Lib.strCells nstr strOfNums ints
  simp only [List.map_map]
  apply List.ext_getElem?
  intro j
  simp
  cases h : x[j]? with
  | none => simp
  | some v =>
    have := hx v (List.mem_of_getElem? h)
    simp
    omega
def nv (x : Int) : Nat := if x < 0 ∨ 1073741824 < x then 0 else x.toNat
theorem nv_le (x : Int) : nv x ≤ 1073741824 := by unfold nv; split <;> omega
theorem digs_len (n : Nat) (h : n ≤ 1073741824) : (digs n).length ≤ 10 := by
  have key : ∀ k n, n < 10 ^ (k + 1) → (digs n).length ≤ k + 1 := by
    intro k
    induction k with
    | zero => intro n h; rw [digs_lt (by simpa using h)]; simp
    | succ k ih =>
      intro n h
      by_cases h10 : n < 10
      · rw [digs_lt h10]; simp
      · rw [digs_ge (by omega), List.length_append]
        have := ih (n / 10) (by rw [Nat.div_lt_iff_lt_mul (by omega)]; rw [Nat.pow_succ] at h; exact h)
        simp; omega
  exact key 9 n (by omega)
theorem pb_len : ∀ (l : List Nat), (∀ n ∈ l, n ≤ 1073741824) → (pb l).length ≤ 11 * l.length
  | [], _ => by simp [pb]
  | [n], h => by have := digs_len n (h n (by simp)); simp [pb]; omega
  | n :: m :: l, h => by
    have h1 := pb_len (m :: l) (fun x hx => h x (by simp only [List.mem_cons] at hx ⊢; exact .inr hx))
    have h2 := digs_len n (h n (by simp))
    simp [pb] at h1 ⊢
    omega
theorem pb_byte : ∀ (l : List Nat), ∀ c ∈ pb l, c < 256
  | [], c, h => by simp [pb] at h
  | [n], c, h => digs_256 n c (by simpa [pb] using h)
  | n :: m :: l, c, h => by
    simp only [pb, List.mem_append, List.mem_cons] at h
    rcases h with h | h | h
    · exact digs_256 n c h
    · omega
    · exact pb_byte (m :: l) c h
end Go.Proofs.Ytnaoobgghgnflaa
