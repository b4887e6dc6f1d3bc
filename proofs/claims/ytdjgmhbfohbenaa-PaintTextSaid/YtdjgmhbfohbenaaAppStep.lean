/- Append of integers onto a slice of the call's own, as one step of a region that draws its order. -/
import Derived.Test.YtdjgmhbfohbenaaOwn
import Derived.Deep.RegionLaw
namespace Go.Proofs.Ytdjgmhbfohbenaa
open Go.RowKit
theorem run_appInts {P : Program} {w : World} {t ty e : TypeId} {k : IntKind} {i : TypeInfo} {z : Value} {bytes : Nat} (ht : P.underlying t = some (.slice e)) (hi : P.info? e = some i) (hz : i.zero = some z)
    (hsize : i.size = 1) (hby : i.bytes = bytes) (hzs : z.cells.size = 1)
    {v : Value} {xs : List Int} (hown : Own k e w v xs) {ad : Option Addr} {m c : Nat} {ys : List Int} (hnil : ad = none → m = 0 ∧ c = 0) (hsl : SlAt k w ad m ys)
    (hbytes : (xs.length + m) * bytes ≤ 140737488355328) (h63 : xs.length + m ≤ maxLen) :
    ∃ v' w', (Builtin.append_ #[t, t] ty #[v, .slice ad m c]).run P w = .ok v' w' ∧ Own k e w' v' (xs ++ ys) ∧ Kept (fun k => v.ownBlock = some k) w w' ∧ (v'.ownBlock = v.ownBlock ∨ v'.ownBlock = some w.heap.size) := by
  cases ad with
  | none =>
    obtain ⟨rfl, rfl⟩ := hnil rfl
    have hy : ys = [] := List.eq_nil_of_length_eq_zero hsl.1
    subst hy
    exact ⟨v, w, run_append_owned_none (P := P) (w := w) 0 t ty e i 1 ht hi v xs.length _ hown, by simpa using hown, Kept.refl _ _, .inl rfl⟩
  | some y =>
    have hl : (ys.map (Value.int k)).length = m * 1 := by simp [hsl.1]
    have hnews : ∀ j u, (ys.map (Value.int k))[j]? = some u → w.cell? (y.add j) = some u := by
      intro j u hu
      rcases hsl with ⟨hl, h0 | ⟨b, off, hy, hc⟩⟩
      · have : ys = [] := List.eq_nil_of_length_eq_zero (by omega)
        subst this
        cases hu
      · cases hy
        simp only [List.getElem?_map, Option.map_eq_some_iff] at hu
        obtain ⟨q, hq, rfl⟩ := hu
        have hj : j < ys.length := (List.getElem?_eq_some_iff.1 hq).1
        have hc := hc j (by omega)
        have e : (⟨b, off, none⟩ : Addr).add j = ⟨b, off + j, none⟩ := by unfold Addr.add; split <;> simp_all
        rw [e, hc]
        simp [hq]
    obtain ⟨v', w', hrun, ho', hg, -⟩ := run_append_own (P := P) (w := w) 0 t ty e i z 1 bytes ht hi hz hsize hby hzs (by omega) v xs.length _ hown y m c _ hl hnews (one_ints k ys) h63 hbytes (Nat.zero_le _)
    have hp := app_prov (ty := ty) ht hi hz hsize hby (by omega) hown hl hnews (one_ints k ys) h63 hbytes hrun
    refine ⟨v', w', hrun, ?_, (Kept.refl _ _).grown hg (fun k hk => .inl hk), hp⟩
    show World.ownsRow _ _ _ _ _ _ _
    rw [List.map_append, List.length_append, hsl.1]
    exact ho'
theorem step_appInts {P : Program} {w : World} {ops : Array Oper} {o : Oper} {a : Act} {K : Act → World → Prop} {Q : Exit → Act → World → Prop} {E : Prop} (hgd : o.guard = none) (s x : Operand) (t : TypeId)
    (ho : o.op = .call { callee := .builtin .append, args := #[s, x], argTypes := #[t, t] })
    (e : TypeId) (k : IntKind) (i : TypeInfo) (z : Value) (bytes : Nat) (ht : P.underlying t = some (.slice e)) (hi : P.info? e = some i) (hz : i.zero = some z)
    (hsize : i.size = 1) (hby : i.bytes = bytes) (hzs : z.cells.size = 1)
    (v : Value) (xs : List Int) (hs : a.eval s = v) (hown : Own k e w v xs)
    (ad : Option Addr) (m c : Nat) (ys : List Int) (hx : a.eval x = .slice ad m c) (hnil : ad = none → m = 0 ∧ c = 0) (hsl : SlAt k w ad m ys)
    (hbytes : (xs.length + m) * bytes ≤ 140737488355328) (h63 : xs.length + m ≤ maxLen)
    (h : ∀ v' w', Own k e w' v' (xs ++ ys) → Kept (fun k => v.ownBlock = some k) w w' → (v'.ownBlock = v.ownBlock ∨ v'.ownBlock = some w.heap.size) → K (a.put o.dst v') w') :
    if Region.wanted o (yielded ops a.tmps) = true then Oper.wp P o a w K Q else E := by
  have hw : Region.wanted o (yielded ops a.tmps) = true := by simp [Region.wanted, hgd]
  rw [if_pos hw]
  obtain ⟨v', w', hrun, h1, h2, h3⟩ := run_appInts (ty := o.type) ht hi hz hsize hby hzs hown (c := c) hnil hsl hbytes h63
  unfold Oper.wp
  simp [execOp, ho, resolve, invoke, builtin, hs, hx, Result.andThen]
  rw [hrun]
  exact h v' w' h1 h2 h3
end Go.Proofs.Ytdjgmhbfohbenaa
