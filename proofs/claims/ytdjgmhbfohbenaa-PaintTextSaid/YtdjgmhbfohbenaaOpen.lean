/- What an argument's reading tells of its value and of memory: integers, bools, slices of integers, a colour, a matrix. -/
import Derived.Test.YtdjgmhbfohbenaaBase
import Derived.ProofKit
import Derived.OpenShut
import Derived.ShutString
import Derived.ChangeOld
import Derived.Lib.SmallJoins
namespace Go.Proofs.Ytdjgmhbfohbenaa
open Go.RowKit Go.ChangeShapes Go.WideShapes Go.ChangeAt Go.Joins Go.Deep
set_option linter.unusedVariables false
section
variable {H : Type} {enc : TypeId × Value → H} {P : Program} {W : World} {r : Reach} {b0 : Nat} {t e : TypeId} {v : Value} {d : DataW H} {p : List MemPlace}
theorem o_int {k : IntKind} (ht : P.underlying t = some (.int k)) (hv : Value.okWide P W r b0 t v) (h : DataW.Trod enc P W 0 (fun _ => true) true t v d p) : ∃ a, v = .int k a ∧ (Lit.int k a).wf = true := by
  obtain ⟨a, rfl, -, -, w⟩ := open_int ht hv h
  exact ⟨a, rfl, w⟩
theorem o_bool (ht : P.underlying t = some .bool) (hv : Value.okWide P W r b0 t v) (h : DataW.Trod enc P W 0 (fun _ => true) true t v d p) : ∃ a, v = .bool a ∧ True := by
  obtain ⟨a, rfl, -, -⟩ := open_bool ht hv h
  exact ⟨a, rfl, trivial⟩
theorem row_of {k : IntKind} {fuel : Nat} {cs : List Value} {x : DataW H × List MemPlace} (ht : P.underlying t = some (.slice e)) (he : P.underlying e = some (.int k)) (hC : P.cellsOf e = 1) (h : DataW.trod enc P W 0 (fun _ => true) true fuel t cs = some x) :
    ∃ a len cap zs, cs = [.slice a len cap] ∧ IsRow k W a len cap zs := by
  rcases open_ints ht he hC h with ⟨hcs, _⟩ | ⟨x, l, c, zs, hcs, _, hl, hm, hz, _, hcell, hwz⟩
  · exact ⟨none, 0, 0, [], hcs, .inl ⟨rfl, rfl, rfl, rfl⟩⟩
  · exact ⟨some x, l, c, zs, hcs, .inr ⟨x, rfl, hl, hm, by simpa using hz, hcell, hwz⟩⟩
theorem o_ints {k : IntKind} (ht : P.underlying t = some (.slice e)) (he : P.underlying e = some (.int k)) (hC : P.cellsOf e = 1) (hv : Value.okWide P W r b0 t v) (h : DataW.Trod enc P W 0 (fun _ => true) true t v d p) :
    ∃ a len cap zs, v = .slice a len cap ∧ IsRow k W a len cap zs := by
  obtain ⟨a0, len0, cap0, rfl⟩ := okWide_slice ht hv
  obtain ⟨fuel, hf⟩ := h
  obtain ⟨a, len, cap, zs, hcs, hrow⟩ := row_of ht he hC hf
  simp [Value.cells] at hcs
  obtain ⟨rfl, rfl, rfl⟩ := hcs
  exact ⟨_, _, _, zs, rfl, hrow⟩
theorem okWide_arr {n : Nat} (ht : P.underlying t = some (.array n e)) (h : Value.okWide P W r b0 t v) : ∃ cs, v = .agg cs ∧ cs.size = P.cellsOf t := by
  simp only [Value.okWide, ht] at h
  obtain ⟨cs, h1, h2, _⟩ := h
  exact ⟨cs, h1, h2⟩
/-- An array of four bytes. -/
theorem o_arr4 {k : IntKind} (ht : P.underlying t = some (.array 4 e)) (he : P.underlying e = some (.int k)) (hC : P.cellsOf t = 4) (hCe : P.cellsOf e = 1) (hv : Value.okWide P W r b0 t v) (h : DataW.Trod enc P W 0 (fun _ => true) true t v d p) :
    ∃ c0 c1 c2 c3, v = .agg #[.int k c0, .int k c1, .int k c2, .int k c3] ∧ (Lit.int k c0).wf = true ∧ (Lit.int k c1).wf = true ∧ (Lit.int k c2).wf = true ∧ (Lit.int k c3).wf = true := by
  obtain ⟨cs, rfl, hsz⟩ := okWide_arr ht hv
  obtain ⟨fuel, hf⟩ := h
  obtain ⟨xs, m, -, -, -, hxl, hx⟩ := DataW.trod_array ht hf
  obtain ⟨l⟩ := cs
  have hl : l.length = 4 := by simpa [hC] using hsz
  match l, hl with
  | [a, b, c, d], _ =>
    match xs, hxl with
    | [x0, x1, x2, x3], _ =>
      have h0 := hx 0 (by omega)
      have h1 := hx 1 (by omega)
      have h2 := hx 2 (by omega)
      have h3 := hx 3 (by omega)
      simp [hCe, Value.cells] at h0 h1 h2 h3
      obtain ⟨c0, e0, -, w0⟩ := DataW.trod_int he h0
      obtain ⟨c1, e1, -, w1⟩ := DataW.trod_int he h1
      obtain ⟨c2, e2, -, w2⟩ := DataW.trod_int he h2
      obtain ⟨c3, e3, -, w3⟩ := DataW.trod_int he h3
      simp at e0 e1 e2 e3
      subst e0 e1 e2 e3
      exact ⟨c0, c1, c2, c3, rfl, w0, w1, w2, w3⟩
/-- A struct of two integers and a slice of integers. -/
theorem o_mat {f0 f1 f2 : Field} {k k2 : IntKind} (hs : P.underlying t = some (.struct #[f0, f1, f2])) (hone : oneCellFields P #[f0, f1, f2] = true) (hC : P.cellsOf t = 3)
    (h0 : P.underlying f0.type = some (.int k)) (h1 : P.underlying f1.type = some (.int k)) (h2 : P.underlying f2.type = some (.slice e)) (he : P.underlying e = some (.int k2)) (hCe : P.cellsOf e = 1)
    (hv : Value.okWide P W r b0 t v) (h : DataW.Trod enc P W 0 (fun _ => true) true t v d p) :
    ∃ x y a len cap zs, v = .agg #[.int k x, .int k y, .slice a len cap] ∧ (Lit.int k x).wf = true ∧ (Lit.int k y).wf = true ∧ IsRow k2 W a len cap zs := by
  obtain ⟨v0, v1, v2, y0, y1, y2, n, rfl, -, -, t0, t1, t2⟩ := open_agg3 hs hone hC hv h
  obtain ⟨x, e0, -, w0⟩ := DataW.trod_int h0 t0
  obtain ⟨y, e1, -, w1⟩ := DataW.trod_int h1 t1
  obtain ⟨a, len, cap, zs, e2, hrow⟩ := row_of h2 he hCe t2
  simp at e0 e1 e2
  subst e0 e1 e2
  exact ⟨x, y, a, len, cap, zs, rfl, w0, w1, hrow⟩
end
end Go.Proofs.Ytdjgmhbfohbenaa
