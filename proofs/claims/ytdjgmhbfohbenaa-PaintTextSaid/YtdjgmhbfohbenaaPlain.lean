/- How cells look, in plain Lean. No program in sight. -/
import Derived.IntWalk
import Derived.Laws.BitsAllLaws
namespace Go.Proofs.Ytdjgmhbfohbenaa.Pl
set_option linter.unusedVariables false
/-- An attribute: two colours, flags. -/
structure Look where
  fg : Int
  bg : Int
  fl : Int
/-- A number of the machine. -/
def In (x : Int) : Prop := -9223372036854775808 ≤ x ∧ x ≤ 9223372036854775807
def Look.In (a : Look) : Prop := Pl.In a.fg ∧ Pl.In a.bg ∧ Pl.In a.fl
def orI (x y : Int) : Int := bits .or .i64 x y
def subI (x y : Int) : Int := bits .andNot .i64 x y
def flagN (n : Int) : Int := if n = 1 then 1 else if n = 2 then 2 else if n = 3 then 4 else if n = 4 then 8 else if n = 5 then 16 else if n = 7 then 32 else if n = 8 then 64 else if n = 9 then 128 else 0
/-- A parameter that is no 38, 48. -/
def one (a : Look) (n : Int) : Look :=
  if n = 0 then ⟨0, 0, 0⟩
  else if 1 ≤ n ∧ n ≤ 9 then { a with fl := orI a.fl (flagN n) }
  else if n = 22 then { a with fl := subI (subI a.fl 1) 2 }
  else if 23 ≤ n ∧ n ≤ 29 then { a with fl := subI a.fl (flagN (n - 20)) }
  else if 40 ≤ n ∧ n ≤ 47 then { a with bg := 16777216 + (n - 40) }
  else if 30 ≤ n ∧ n ≤ 37 then { a with fg := 16777216 + (n - 30) }
  else if 100 ≤ n ∧ n ≤ 107 then { a with bg := 16777224 + (n - 100) }
  else if 90 ≤ n ∧ n ≤ 97 then { a with fg := 16777224 + (n - 90) }
  else if n = 39 then { a with fg := 0 }
  else if n = 49 then { a with bg := 0 }
  else a
def byteB (v : Int) : Bool := decide (0 ≤ v ∧ v ≤ 255)
/-- What stands behind 38, 48: the colour, what is left. -/
def far (c : Int) : List Int → Int × List Int
  | 5 :: v :: l => (if byteB v = true then 16777216 + v else c, l)
  | 2 :: r :: g :: b :: l => (if byteB r = true ∧ byteB g = true ∧ byteB b = true then 33554432 + r * 65536 + g * 256 + b else c, l)
  | _ => (c, [])
theorem far_le (c : Int) (l : List Int) : (far c l).2.length ≤ l.length := by
  unfold far
  split <;> simp <;> omega
/-- One parameter, with what it takes of the others. -/
def stp (a : Look) (n : Int) (l : List Int) : Look × List Int :=
  if n = 38 then ({ a with fg := (far a.fg l).1 }, (far a.fg l).2)
  else if n = 48 then ({ a with bg := (far a.bg l).1 }, (far a.bg l).2)
  else (one a n, l)
theorem stp_le (a : Look) (n : Int) (l : List Int) : (stp a n l).2.length ≤ l.length := by
  unfold stp
  split
  · exact far_le _ _
  · split
    · exact far_le _ _
    · exact Nat.le_refl _
def ap (a : Look) (l : List Int) : Look :=
  match l with
  | [] => a
  | n :: l => ap (stp a n l).1 (stp a n l).2
termination_by l.length
decreasing_by have := stp_le a n l; simp; omega
theorem ap_nil (a : Look) : ap a [] = a := by rw [ap]
theorem ap_cons (a : Look) (n : Int) (l : List Int) : ap a (n :: l) = ap (stp a n l).1 (stp a n l).2 := by rw [ap]
/-- Parameters; none: as of 0. -/
def apply (a : Look) (l : List Int) : Look := if l = [] then ⟨0, 0, 0⟩ else ap a l
/-! ### the range of what comes out -/
theorem bits_in (op : BinOp) (x y : Int) : In (bits op .i64 x y) := by
  have hw : ∀ n, In (IntKind.i64.wrap n) := by
    intro n; rw [IntKind.wrap_i64]; unfold In; omega
  cases op <;> first | exact hw _ | (show In 0; unfold In; omega)
theorem or_in (x y : Int) : In (orI x y) := bits_in _ _ _
theorem sub_in (x y : Int) : In (subI x y) := bits_in _ _ _
theorem one_in {a : Look} (h : a.In) (n : Int) (hn : In n) : (one a n).In := by
  obtain ⟨h1, h2, h3⟩ := h
  unfold one
  split
  · exact ⟨by unfold In; simp only; omega, by unfold In; simp only; omega, by unfold In; simp only; omega⟩
  split
  · exact ⟨h1, h2, or_in _ _⟩
  split
  · exact ⟨h1, h2, sub_in _ _⟩
  split
  · exact ⟨h1, h2, sub_in _ _⟩
  split
  · exact ⟨h1, by unfold In; simp only; omega, h3⟩
  split
  · exact ⟨by unfold In; simp only; omega, h2, h3⟩
  split
  · exact ⟨h1, by unfold In; simp only; omega, h3⟩
  split
  · exact ⟨by unfold In; simp only; omega, h2, h3⟩
  split
  · exact ⟨by unfold In; simp only; omega, h2, h3⟩
  split
  · exact ⟨h1, by unfold In; simp only; omega, h3⟩
  exact ⟨h1, h2, h3⟩
theorem far_in {c : Int} (h : In c) (l : List Int) : In (far c l).1 := by
  unfold In at *
  unfold far
  split
  · simp only; split
    · rename_i h; unfold byteB at h; have := of_decide_eq_true h; omega
    · exact h
  · simp only; split
    · rename_i h; obtain ⟨a, b, c⟩ := h; unfold byteB at a b c; have := of_decide_eq_true a; have := of_decide_eq_true b; have := of_decide_eq_true c; omega
    · exact h
  · exact h
theorem stp_in {a : Look} (h : a.In) (n : Int) (hn : In n) (l : List Int) : (stp a n l).1.In := by
  unfold stp
  split
  · exact ⟨far_in h.1 _, h.2.1, h.2.2⟩
  · split
    · exact ⟨h.1, far_in h.2.1 _, h.2.2⟩
    · exact one_in h n hn
/-! ### bits -/
theorem bit_eq (op : BinOp) (x y : Int) (f : BitVec 64 → BitVec 64 → BitVec 64) (h : bits op .i64 x y = IntKind.i64.wrap ((f (BitVec.ofInt 64 x) (BitVec.ofInt 64 y)).toNat : Int)) : BitVec.ofInt 64 (bits op .i64 x y) = f (BitVec.ofInt 64 x) (BitVec.ofInt 64 y) := by
  rw [h, IntKind.wrap_i64]
  apply BitVec.eq_of_toNat_eq
  rw [BitVec.toNat_ofInt]
  have := (f (BitVec.ofInt 64 x) (BitVec.ofInt 64 y)).isLt
  omega
theorem or_bv (x y : Int) : BitVec.ofInt 64 (orI x y) = BitVec.ofInt 64 x ||| BitVec.ofInt 64 y := bit_eq .or x y (fun a b => a ||| b) rfl
theorem sub_bv (x y : Int) : BitVec.ofInt 64 (subI x y) = BitVec.ofInt 64 x &&& ~~~ BitVec.ofInt 64 y := bit_eq .andNot x y (fun a b => a &&& ~~~b) rfl
theorem bv_inj {x y : Int} (hx : In x) (hy : In y) (h : BitVec.ofInt 64 x = BitVec.ofInt 64 y) : x = y := by
  have h' := congrArg BitVec.toNat h
  rw [BitVec.toNat_ofInt, BitVec.toNat_ofInt] at h'
  unfold In at hx hy
  omega
theorem or_zero {x : Int} (h : In x) : orI x 0 = x := bv_inj (bits_in _ _ _) h (by rw [or_bv]; simp)
theorem sub_zero {x : Int} (h : In x) : subI x 0 = x := bv_inj (bits_in _ _ _) h (by rw [sub_bv]; show _ &&& BitVec.allOnes 64 = _; exact BitVec.and_allOnes)
theorem sub_three (x : Int) : subI (subI x 1) 2 = subI x 3 := bv_inj (bits_in _ _ _) (bits_in _ _ _) (by
  rw [sub_bv, sub_bv, sub_bv, BitVec.and_assoc]; rfl)
theorem sub_or (x f : Int) : subI (orI x f) f = subI x f := bv_inj (bits_in _ _ _) (bits_in _ _ _) (by
  rw [sub_bv, or_bv, sub_bv]
  apply BitVec.eq_of_getLsbD_eq
  intro i hi
  simp [hi]
  generalize (BitVec.ofInt 64 x)[i] = a
  generalize (BitVec.ofInt 64 f)[i] = b
  cases a <;> cases b <;> rfl)
/-! ### which may be -/
def colB (c : Int) : Bool := decide (c = 0 ∨ (16777216 ≤ c ∧ c < 16777472) ∨ (33554432 ≤ c ∧ c < 50331648))
def rightB (a : Look) : Bool := colB a.fg && (colB a.bg && decide (0 ≤ a.fl ∧ a.fl ≤ 255))
/-- The document's: a parameter's colour, of the foreground or not. -/
def colN (n : Int) : Int := if 30 ≤ n ∧ n ≤ 37 then n - 30 else if 40 ≤ n ∧ n ≤ 47 then n - 40 else if 90 ≤ n ∧ n ≤ 97 then n - 82 else if 100 ≤ n ∧ n ≤ 107 then n - 92 else -1
def foreB (n : Int) : Bool := decide ((30 ≤ n ∧ n ≤ 37) ∨ (90 ≤ n ∧ n ≤ 97))
/-- The document's flag of a parameter; is it set? -/
def flag2 (n : Int) : Int := if n = 22 then 3 else if n < 20 then flagN n else if n = 23 ∨ n = 24 ∨ n = 25 ∨ n = 27 ∨ n = 28 ∨ n = 29 then flagN (n - 20) else 0
def onB (n : Int) : Bool := decide (1 ≤ n ∧ n ≤ 5 ∨ 7 ≤ n ∧ n ≤ 9)
end Go.Proofs.Ytdjgmhbfohbenaa.Pl
