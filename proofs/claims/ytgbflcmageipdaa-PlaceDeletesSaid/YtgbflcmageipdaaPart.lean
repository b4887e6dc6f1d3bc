/- Lists parted by what a function says. -/
import Derived.Test.YtgbflcmageipdaaRow
namespace Go.Proofs.Ytgbflcmageipdaa
set_option linter.unusedVariables false
set_option linter.unusedSimpArgs false
theorem filter_at (f : Pl → Bool) : ∀ (L : List Pl) (i : Nat) (p : Pl), L[i]? = some p → f p = true → (L.filter f)[((L.take i).filter f).length]? = some p
  | [], i, p, h, _ => by simp at h
  | q :: L, 0, p, h, hf => by
    simp at h; subst h
    simp [List.filter_cons, hf]
  | q :: L, i + 1, p, h, hf => by
    have ih := filter_at f L i p (by simpa using h) hf
    by_cases hq : f q = true
    · simp only [List.take_succ_cons, List.filter_cons, hq, if_true, List.length_cons, List.getElem?_cons_succ]; exact ih
    · simp only [List.take_succ_cons, List.filter_cons, hq]; exact ih
theorem filter_yes (f : Pl → Bool) (L : List Pl) (i : Nat) (p : Pl) (h : L[i]? = some p) (hf : f p = true) : ((L.take (i + 1)).filter f).length = ((L.take i).filter f).length + 1 := by
  rw [List.take_add_one, h, List.filter_append]
  simp [List.filter_cons, hf]
theorem filter_no (f : Pl → Bool) (L : List Pl) (i : Nat) (p : Pl) (h : L[i]? = some p) (hf : f p = false) : ((L.take (i + 1)).filter f).length = ((L.take i).filter f).length := by
  rw [List.take_add_one, h, List.filter_append]
  simp [List.filter_cons, hf]
end Go.Proofs.Ytgbflcmageipdaa
