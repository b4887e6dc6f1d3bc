/- Lists by a function. -/
import Derived.Test.YtdjgmhbfohbenaaNew
import Derived.Test.YtdjgmhbfohbenaaCopy
namespace Go.Proofs.Ytdjgmhbfohbenaa
open Go.RowKit 
set_option linter.unusedVariables false
set_option linter.unusedSimpArgs false
def Bytes (xs : List Int) : Prop := ∀ n ∈ xs, 0 ≤ n ∧ n < 256
/-! ### lists by their places -/
theorem list_ext {a b : List Int} (h : a.length = b.length) (h2 : ∀ j, j < a.length → a.getD j 0 = b.getD j 0) : a = b := by
  apply List.ext_getElem h
  intro j h3 h4
  have := h2 j h3
  simpa [h3, h4] using this
def tab (n : Nat) (f : Nat → Int) : List Int := (List.range n).map f
theorem tab_length (n : Nat) (f : Nat → Int) : (tab n f).length = n := by simp [tab]
theorem tab_get {n : Nat} {f : Nat → Int} {j : Nat} (h : j < n) : (tab n f).getD j 0 = f j := by simp [tab, h]
theorem getD_set {xs : List Int} {i : Nat} {v : Int} {j : Nat} (h : i < xs.length) : (xs.set i v).getD j 0 = if j = i then v else xs.getD j 0 := by
  simp only [List.getD_eq_getElem?_getD, List.getElem?_set]
  by_cases hj : i = j
  · subst hj; simp [h]
  · rw [if_neg hj, if_neg (fun h => hj h.symm)]
theorem getD_take {xs : List Int} {n j : Nat} (h : j < n) : (xs.take n).getD j 0 = xs.getD j 0 := by
  simp only [List.getD_eq_getElem?_getD, List.getElem?_take_of_lt h]
theorem getD_drop {xs : List Int} {n j : Nat} : (xs.drop n).getD j 0 = xs.getD (n + j) 0 := by
  simp only [List.getD_eq_getElem?_getD, List.getElem?_drop]
theorem tab_ext {n : Nat} {f g : Nat → Int} (h : ∀ j, j < n → f j = g j) : tab n f = tab n g := by
  apply list_ext (by simp [tab])
  intro j hj
  rw [tab_length] at hj
  rw [tab_get hj, tab_get hj, h j hj]
theorem tab_zero (n : Nat) : List.replicate n 0 = tab n (fun _ => 0) := by
  apply list_ext (by simp [tab])
  intro j hj
  have hj' : j < n := by simpa using hj
  rw [tab_get hj']; simp [hj']
theorem SlAt.sub {k : IntKind} {w : World} {b off len at_ n : Nat} {xs : List Int} (h : SlAt k w (some ⟨b, off, none⟩) len xs) (hn : at_ + n ≤ len) :
    SlAt k w (some ⟨b, off + at_, none⟩) n ((xs.drop at_).take n) := by
  obtain ⟨h1, h2⟩ := h
  refine ⟨by simp; omega, ?_⟩
  by_cases h0 : n = 0
  · exact .inl h0
  · obtain ⟨b', off', he, hc⟩ := h2.resolve_left (by omega)
    cases he
    refine .inr ⟨b, off + at_, rfl, fun j hj => ?_⟩
    rw [show off + at_ + j = off + (at_ + j) by omega, hc _ (by omega)]
    simp [hj]
theorem Try.size5 : (Try.prog.info? 5).map (·.size) = some 1 := by kernel_rfl
end Go.Proofs.Ytdjgmhbfohbenaa
