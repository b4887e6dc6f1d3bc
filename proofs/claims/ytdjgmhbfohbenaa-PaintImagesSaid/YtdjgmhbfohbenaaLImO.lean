/- The law PaintImages; a struct of three integers as it comes in. -/
import Derived.Test.YtdjgmhbfohbenaaLImg
import Derived.Test.YtdjgmhbfohbenaaMOne
import Derived.Lib.SmallJoins
namespace Go.Proofs.Ytdjgmhbfohbenaa
open Go.RowKit Go.Sort Pl
set_option linter.unusedVariables false
set_option linter.unusedSimpArgs false
section
open Go.ChangeShapes Go.WideShapes Go.ChangeAt Go.Joins Go.Deep
variable {H : Type} {enc : TypeId × Value → H} {P : Program} {W : World} {r : Reach} {b0 : Nat} {t e : TypeId} {v : Value} {d : DataW H} {p : List MemPlace}
/-- A struct of three integers. -/
theorem o_int3 {f0 f1 f2 : Field} {k : IntKind} (hs : P.underlying t = some (.struct #[f0, f1, f2])) (hone : oneCellFields P #[f0, f1, f2] = true) (hC : P.cellsOf t = 3)
    (u0 : P.underlying f0.type = some (.int k)) (u1 : P.underlying f1.type = some (.int k)) (u2 : P.underlying f2.type = some (.int k))
    (hv : Value.okWide P W r b0 t v) (h : DataW.Trod enc P W 0 (fun _ => true) true t v d p) :
    ∃ x y z, v = .agg #[.int k x, .int k y, .int k z] ∧ (Lit.int k x).wf = true ∧ (Lit.int k y).wf = true ∧ (Lit.int k z).wf = true := by
  obtain ⟨v0, v1, v2, y0, y1, y2, n, rfl, -, -, t0, t1, t2⟩ := open_agg3 hs hone hC hv h
  obtain ⟨x, e0, -, w0⟩ := DataW.trod_int u0 t0
  obtain ⟨y, e1, -, w1⟩ := DataW.trod_int u1 t1
  obtain ⟨z, e2, -, w2⟩ := DataW.trod_int u2 t2
  simp at e0 e1 e2
  subst e0 e1 e2
  exact ⟨x, y, z, rfl, w0, w1, w2⟩
end
end Go.Proofs.Ytdjgmhbfohbenaa
