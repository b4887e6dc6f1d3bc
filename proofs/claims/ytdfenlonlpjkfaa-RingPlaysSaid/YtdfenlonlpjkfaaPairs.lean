/- A slice of arrays of two numbers as it comes in. -/
import Derived.Test.YtdfenlonlpjkfaaOpen
import Derived.Deep.Slices
import Derived.OpenShut
namespace Go.Proofs.Ytdfenlonlpjkfaa
open Go.RowKit Go.ChangeShapes Go.WideShapes Go.ChangeAt Go.Joins Go.Deep
set_option linter.unusedVariables false
def ival : Value → Int
  | .int _ n => n
  | _ => 0
/-- A slice of pairs of numbers as it comes in. -/
def IsPairs (w : World) (a : Option Addr) (len : Nat) (K N : Nat → Int) : Prop :=
  len = 0 ∨ ∃ b off, a = some ⟨b, off, none⟩ ∧ b < w.heap.size ∧ ∀ i, i < len → w.cell? ⟨b, off + i * 2, none⟩ = some (.int .i64 (K i)) ∧ w.cell? ⟨b, off + (i * 2 + 1), none⟩ = some (.int .i64 (N i)) ∧ (Lit.int .i64 (K i)).wf = true ∧ (Lit.int .i64 (N i)).wf = true
section
variable {H : Type} {enc : TypeId × Value → H} {P : Program} {W : World} {r : Reach} {b0 : Nat} {t e e1 : TypeId} {v : Value} {d : DataW H} {p : List MemPlace}
theorem o_arr2 (ht : P.underlying t = some (.slice e)) (he : P.underlying e = some (.array 2 e1)) (ce : P.cellsOf e = 2) (ce1 : P.cellsOf e1 = 1) (u1 : P.underlying e1 = some (.int .i64))
    (hv : Value.okWide P W r b0 t v) (h : DataW.Trod enc P W 0 (fun _ => true) true t v d p) :
    ∃ a len cap K N, v = .slice a len cap ∧ IsPairs W a len K N ∧ len ≤ cap ∧ cap ≤ maxLen := by
  obtain ⟨a0, len0, cap0, rfl⟩ := okWide_slice ht hv
  obtain ⟨fuel, hf⟩ := h
  rcases open_slice ht hf with ⟨hcs, -⟩ | ⟨x, len, cap, m, n, D, Pl, hcs, -, hl, hm, hmm, hx, hall⟩
  · simp [Value.cells] at hcs
    obtain ⟨rfl, rfl, rfl⟩ := hcs
    exact ⟨_, _, _, fun _ => 0, fun _ => 0, rfl, .inl rfl, Nat.le_refl _, by simp [maxLen]⟩
  · simp [Value.cells] at hcs
    obtain ⟨rfl, rfl, rfl⟩ := hcs
    simp only [if_true] at hmm
    have each : ∀ i, i < m → ∃ q : Int × Int, W.cell? (x.add (i * 2)) = some (.int .i64 q.1) ∧ W.cell? (x.add (i * 2 + 1)) = some (.int .i64 q.2) ∧ (Lit.int .i64 q.1).wf = true ∧ (Lit.int .i64 q.2).wf = true := by
      intro i hi
      obtain ⟨cs', hc, ht'⟩ := hall i hi
      rw [ce] at hc
      obtain ⟨_, hcl, hat⟩ := World.cells?_some hc
      obtain ⟨xs, n', _, _, _, hlen, hel⟩ := DataW.trod_array he ht'
      have t0 := hel 0 (by omega)
      have t1 := hel 1 (by omega)
      rw [ce1] at t0 t1
      match cs', hcl with
      | [c0, c1], _ =>
        match xs, hlen with
        | [y0, y1], _ =>
          simp only [Nat.zero_mul, List.drop_zero, List.take_succ_cons, List.take_zero, Nat.one_mul, List.drop_succ_cons, List.getElem?_cons_zero, List.getElem?_cons_succ] at t0 t1
          obtain ⟨z0, e0, -, w0⟩ := DataW.trod_int u1 t0
          obtain ⟨z1, e1, -, w1⟩ := DataW.trod_int u1 t1
          simp at e0 e1
          subst e0 e1
          have h0 := hat 0 (by omega)
          have h1 := hat 1 (by omega)
          rw [Go.Deep.add_add] at h0 h1
          exact ⟨(z0, z1), by simpa using h0, by simpa using h1, w0, w1⟩
    obtain ⟨q, hq⟩ : ∃ q : Nat → Int × Int, ∀ i, i < m → W.cell? (x.add (i * 2)) = some (.int .i64 (q i).1) ∧ W.cell? (x.add (i * 2 + 1)) = some (.int .i64 (q i).2) ∧ (Lit.int .i64 (q i).1).wf = true ∧ (Lit.int .i64 (q i).2).wf = true := by
      refine ⟨fun i => if h : i < m then (each i h).choose else (0, 0), fun i hi => ?_⟩
      simp only [hi, dif_pos]
      exact (each i hi).choose_spec
    refine ⟨_, _, _, fun i => (q i).1, fun i => (q i).2, rfl, ?_, hl, hm⟩
    by_cases h0 : len0 = 0
    · exact .inl h0
    right
    obtain ⟨b, off, spot⟩ := x
    have h1 := (hq 0 (by omega)).1
    have hs : spot = none := by simpa [Addr.add] using World.cell?_spot h1
    subst hs
    refine ⟨b, off, rfl, lt_of_cell (by simpa [Addr.add] using h1), fun i hi => ?_⟩
    have ea : ∀ j, (⟨b, off, none⟩ : Addr).add j = ⟨b, off + j, none⟩ := fun j => by unfold Addr.add; split <;> simp_all
    obtain ⟨g0, g1, g2, g3⟩ := hq i (by omega)
    rw [ea] at g0 g1
    exact ⟨g0, g1, g2, g3⟩
end
end Go.Proofs.Ytdfenlonlpjkfaa
