/- Append onto a literal of none, as a told operation of a drawn region. -/
import Derived.Test.YtomcjdonacckfaaEndD
import Derived.Test.YtomcjdonacckfaaAppStep
namespace Go.Proofs.Ytomcjdonacckfaa
open Go.RowKit
set_option linter.unusedVariables false
set_option linter.unusedSimpArgs false
/-- Bytes appended to a literal of none: a row of its own. -/
theorem app_empty {P : Program} {w : World} (t ty e : TypeId) (i : TypeInfo) (ht : P.underlying t = some (.slice e)) (hi : P.info? e = some i) (hz : i.zero = some (.int .u8 0)) (hsize : i.size = 1) (hby : i.bytes = 1) (q : Nat)
    (a0 : Option Addr) (len cap : Nat) (xs : List Int) (hs : SlAt .u8 w a0 len xs) (hnil : a0 = none → len = 0 ∧ cap = 0) (hl : len ≤ 1073741824) :
    ∃ la lc w', (Builtin.append_ #[t, t] ty #[.slice (some ⟨q, 0, none⟩) 0 0, .slice a0 len cap]).run P w = .ok (.slice la len lc) w' ∧ SlAt .u8 w' la len xs ∧ Kept (fun _ => False) w w' ∧ (∀ b off, 0 < len → la = some ⟨b, off, none⟩ → w.heap.size ≤ b ∧ ∃ cur, w'.heap[b]? = some (.cells cur e (0, 0))) ∧ len ≤ lc ∧ (la = none → len = 0 ∧ lc = 0) := by
  have hxl := hs.1
  rcases Nat.eq_zero_or_pos len with h0 | h0
  · subst h0
    have hx : xs = [] := List.eq_nil_of_length_eq_zero hxl
    subst hx
    refine ⟨some ⟨q, 0, none⟩, 0, w, ?_, ⟨rfl, .inl rfl⟩, Kept.refl _ _, (fun _ _ h => by omega), Nat.le_refl _, (fun h => by cases h)⟩
    cases a0 with
    | none =>
      obtain ⟨-, rfl⟩ := hnil rfl
      simp [Builtin.append_, run_underlying ht, sizeOf, typeInfo, hi, Builtin.lenOf, Builtin.firstCells, storeCells, go_sem]
    | some y => simp [Builtin.append_, run_underlying ht, sizeOf, typeInfo, hi, Builtin.lenOf, Builtin.firstCells, loadCells, loadCellsFrom, storeCells, go_sem]
  · obtain ⟨b, off, rfl, hc⟩ := hs.2.resolve_left (by omega)
    have hr := run_append_grow (P := P) w t ty e i (.int .u8 0) ht hi hz ⟨q, 0, none⟩ 0 0 [] (by simp) (by intro j v hj; simp at hj) ⟨b, off, none⟩ len cap (xs.map (Value.int .u8)) (by rw [List.length_map, hsize, Nat.mul_one]; exact hxl)
      (fun j v hj => by
        have hj' : j < xs.length := by have := (List.getElem?_eq_some_iff.1 hj).1; rwa [List.length_map] at this
        have hadd : (⟨b, off, none⟩ : Addr).add j = ⟨b, off + j, none⟩ := by unfold Addr.add; split <;> simp_all
        rw [hadd, hc j (by omega)]
        rw [List.getElem?_map, List.getElem?_eq_getElem hj'] at hj
        simp at hj
        simp [hj', hj])
      (by omega) (by omega) (growslice_fits (by omega) (by rw [hby]; omega))
    simp only [Nat.zero_add] at hr
    have hge := grownCap_ge w len 0 e
    refine ⟨_, _, _, hr, ⟨hxl, .inr ⟨w.heap.size, 0, rfl, fun j hj => ?_⟩⟩, ?_, fun b' off' _ h => by cases h; exact ⟨Nat.le_refl _, _, blk_new w.drew _⟩, hge, fun h => by cases h⟩
    · have h9 := blk_new w.drew (.cells ((([] : List Value).toArray) ++ (xs.map (Value.int .u8)).toArray ++ Builtin.zeroCells (Value.int IntKind.u8 0).cells (grownCap w len 0 e - len)) e)
      rw [show w.drew.heap.size = w.heap.size from rfl] at h9
      rw [Nat.zero_add, blk_cell h9]
      have hj' : j < xs.length := by omega
      simp [Array.getElem?_append_left, hj']
    · exact ((Kept.refl (fun _ => False) w).drew).alloc _
theorem growOp_told {P : Program} {ops : Array Oper} {X : Nat → Nat → Bool} {W : World} {S : Nat → Option (Value → World → Prop)} {i : Nat} {o : Oper} {K : Act → (Nat → World) → Prop} {a : Act} {ω : Nat → World} {R : Value → World → Prop} (hg : o.guard = none) (hS : S i = some R)
    (h1 : ∀ w, GrowAt X W ω i w → growUpon P R w ((execOp a.eval o).run P w)) (h2 : ∀ v w', R v w' → GrowAt X W ω i w' → K (a.put o.dst v) (moment ω i w')) : growOp P ops X W S i o K a ω := by
  unfold growOp
  have hw : Region.wanted o (yielded ops a.tmps) = true := by simp [Region.wanted, hg]
  rw [if_pos hw, hS]
  exact ⟨h1, h2⟩
theorem upon_append {P : Program} {R : Value → World → Prop} {w : World} {o : Oper} {a : Act} (s x : Operand) (t : TypeId) (ho : o.op = .call { callee := .builtin .append, args := #[s, x], argTypes := #[t, t] }) {v1 v2 v' : Value} {w' : World} (h1 : a.eval s = v1) (h2 : a.eval x = v2)
    (hr : (Builtin.append_ #[t, t] o.type #[v1, v2]).run P w = .ok v' w') (hk : Kept (fun _ => False) w w') (hR : R v' w') : growUpon P R w ((execOp a.eval o).run P w) := by
  unfold execOp
  simp only [ho, resolve, invoke, builtin, Sem.run_bind, Sem.run_pure, Result.andThen_ok, List.map_toArray, List.map_cons, List.map_nil, h1, h2, hr]
  exact ⟨hk, hR⟩
/-- The same, and the new slice is the call's own. -/
theorem app_fresh {P : Program} {w : World} (t ty e : TypeId) (i : TypeInfo) (ht : P.underlying t = some (.slice e)) (hi : P.info? e = some i) (hz : i.zero = some (.int .u8 0)) (hsize : i.size = 1) (hby : i.bytes = 1) (q : Nat) (hq : Own .u8 e w (.slice (some ⟨q, 0, none⟩) 0 0) [])
    (a0 : Option Addr) (len cap : Nat) (xs : List Int) (hs : SlAt .u8 w a0 len xs) (hnil : a0 = none → len = 0 ∧ cap = 0) (hl : len ≤ 1073741824) :
    ∃ v w', (Builtin.append_ #[t, t] ty #[.slice (some ⟨q, 0, none⟩) 0 0, .slice a0 len cap]).run P w = .ok v w' ∧ Own .u8 e w' v xs ∧ Kept (fun _ => False) w w' ∧ (v.ownBlock = some q ∨ v.ownBlock = some w.heap.size) := by
  obtain ⟨la, lc, w', hr, -, hk, -⟩ := app_empty (P := P) (w := w) t ty e i ht hi hz hsize hby q a0 len cap xs hs hnil hl
  obtain ⟨v', w'', hr', ho, -, hp⟩ := run_appInts (P := P) (w := w) (ty := ty) ht hi hz hsize hby rfl hq hnil hs (by simp; omega) (by simp [maxLen]; omega)
  rw [hr] at hr'
  cases hr'
  exact ⟨_, _, hr, by simpa using ho, hk, hp⟩
end Go.Proofs.Ytomcjdonacckfaa
