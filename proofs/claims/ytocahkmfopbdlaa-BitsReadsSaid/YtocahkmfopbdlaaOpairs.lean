import Derived.Test.YtocahkmfopbdlaaOpen
import Derived.Deep.SlicePairs
namespace Go.Proofs.Ytocahkmfopbdlaa
open Go.RowKit Go.ChangeShapes Go.WideShapes Go.ChangeAt Go.Joins Go.Deep
set_option linter.unusedVariables false
def ival : Value → Int
  | .int _ n => n
  | _ => 0
/-- A slice of pairs of numbers as it comes in. -/
def IsPairs (w : World) (a : Option Addr) (len : Nat) (K N : Nat → Int) : Prop :=
  len = 0 ∨ ∃ b off, a = some ⟨b, off, none⟩ ∧ b < w.heap.size ∧ ∀ i, i < len → w.cell? ⟨b, off + i * 2, none⟩ = some (.int .i64 (K i)) ∧ w.cell? ⟨b, off + (i * 2 + 1), none⟩ = some (.int .i64 (N i)) ∧ (Lit.int .i64 (K i)).wf = true ∧ (Lit.int .i64 (N i)).wf = true
section
variable {H : Type} {enc : TypeId × Value → H} {P : Program} {W : World} {r : Reach} {b0 : Nat} {t e : TypeId} {v : Value} {d : DataW H} {p : List MemPlace}
theorem o_pairs {f0 f1 : Field} (ht : P.underlying t = some (.slice e)) (he : P.underlying e = some (.struct #[f0, f1])) (ce : P.cellsOf e = 2) (o0 : f0.offset = 0) (o1 : f1.offset = 1) (c0 : P.cellsOf f0.type = 1) (c1 : P.cellsOf f1.type = 1)
    (u0 : P.underlying f0.type = some (.int .i64)) (u1 : P.underlying f1.type = some (.int .i64)) (hv : Value.okWide P W r b0 t v) (h : DataW.Trod enc P W 0 (fun _ => true) true t v d p) :
    ∃ a len cap K N, v = .slice a len cap ∧ IsPairs W a len K N ∧ len ≤ cap ∧ cap ≤ maxLen := by
  obtain ⟨a0, len0, cap0, rfl⟩ := okWide_slice ht hv
  obtain ⟨fuel, hf⟩ := h
  rcases open_slice_pairs ht he ce o0 o1 c0 c1 hf with ⟨hcs, -⟩ | ⟨x, len, cap, m, n, V0, V1, D0, D1, P0, P1, hcs, -, hl, hm, hmm, -, hall⟩
  · simp [Value.cells] at hcs
    obtain ⟨rfl, rfl, rfl⟩ := hcs
    exact ⟨_, _, _, fun _ => 0, fun _ => 0, rfl, .inl rfl, Nat.le_refl _, by simp [maxLen]⟩
  · simp [Value.cells] at hcs
    obtain ⟨rfl, rfl, rfl⟩ := hcs
    refine ⟨_, _, _, fun i => ival (V0 i), fun i => ival (V1 i), rfl, ?_, hl, hm⟩
    by_cases h0 : len0 = 0
    · exact .inl h0
    right
    simp only [if_true] at hmm
    obtain ⟨b, off, spot⟩ := x
    have h1 := (hall 0 (by omega)).1
    have hs : spot = none := by simpa [Addr.add] using World.cell?_spot h1
    subst hs
    refine ⟨b, off, rfl, lt_of_cell (by simpa [Addr.add] using h1), fun i hi => ?_⟩
    obtain ⟨q0, q1, t0, t1⟩ := hall i (by omega)
    obtain ⟨z0, e0, -, w0⟩ := DataW.trod_int u0 t0
    obtain ⟨z1, e1, -, w1⟩ := DataW.trod_int u1 t1
    simp at e0 e1
    have ea : ∀ j, (⟨b, off, none⟩ : Addr).add j = ⟨b, off + j, none⟩ := fun j => by unfold Addr.add; split <;> simp_all
    rw [ea] at q0 q1
    rw [e0] at q0
    rw [e1] at q1
    simp only [e0, e1, ival]
    exact ⟨q0, q1, w0, w1⟩
end
end Go.Proofs.Ytocahkmfopbdlaa
