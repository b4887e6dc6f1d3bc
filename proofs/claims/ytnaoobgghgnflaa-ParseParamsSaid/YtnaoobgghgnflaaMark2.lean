/- Append of a string onto a row of bytes whose mark lies behind its last cell. -/
import Derived.Test.YtnaoobgghgnflaaMark
import Derived.Lib.AppendStr
namespace Go.Proofs.Ytnaoobgghgnflaa
open Go.RowKit Go.Lib
set_option linter.unusedVariables false
set_option linter.unusedSimpArgs false
theorem append_room_looseS {P : Program} {w : World} (t u ty e : TypeId) (i : TypeInfo) (ht : P.underlying t = some (.slice e)) (hu : P.underlying u = some .string) (hi : P.info? e = some i) (hs : i.size = 1)
    (g sLen sCap : Nat) (cur : Array Value) (fz : Nat × Nat) (hg : w.heap[g]? = some (.cells cur e fz)) (hfz : Loose cur.size fz) (s : ByteArray) (hroom : sLen + s.size ≤ sCap) (hfit : sLen + s.size ≤ cur.size) :
    (Builtin.append_ #[t, u] ty #[.slice (some ⟨g, 0, none⟩) sLen sCap, .string s]).run P w =
      .ok (.slice (some ⟨g, 0, none⟩) (sLen + s.size) sCap) (w.setRow g (cur.toList.take sLen ++ strCells s ++ cur.toList.drop (sLen + s.size)).toArray) := by
  have hf := run_firstCells_string (P := P) (w := w) 1 s
  have hst := storeCells_loose P g sLen e fz (strCells s) 0 cur w hg hfz (by simpa [strCells_length] using hfit) (strCells_oneCell s)
  simp only [Nat.add_zero, strCells_length] at hst
  simp [Builtin.append_, run_underlying ht, run_underlying hu, sizeOf, typeInfo, hi, hs, Builtin.lenOf, hroom, hf, Addr.add_lit, hst]
theorem append_looseS {P : Program} {w : World} (t u ty e : TypeId) (i : TypeInfo) (z : Value) (bytes : Nat) (ht : P.underlying t = some (.slice e)) (hu : P.underlying u = some .string) (hi : P.info? e = some i) (hz : i.zero = some z)
    (hsize : i.size = 1) (hby : i.bytes = bytes) (hzs : z.cells.size = 1)
    (v : Value) (xs : List Value) (hown : OwnX e w v xs) (hv : v.ownBlock ≠ none) (s : ByteArray)
    (h63 : xs.length + s.size ≤ maxLen) (hbytes : (xs.length + s.size) * bytes ≤ 140737488355328) :
    ∃ v' w', (Builtin.append_ #[t, u] ty #[v, .string s]).run P w = .ok v' w' ∧ OwnX e w' v' (xs ++ strCells s) ∧ Kept (fun k => v.ownBlock = some k) w w' ∧ (v'.ownBlock = v.ownBlock ∨ v'.ownBlock = some w.heap.size) ∧ v'.ownBlock ≠ none := by
  subst hby
  have hl : (strCells s).length = s.size := strCells_length s
  rcases hown with ⟨rfl, rfl⟩ | ⟨g, cap, cur, fz, rfl, hg, hfz, hnc, hcm, hcs, htake⟩
  · exact absurd rfl hv
  · have hsmall : xs.length + s.size ≤ 9223372036854775807 := by simp only [maxLen] at h63; omega
    by_cases hroom : xs.length + s.size ≤ cap
    · have hfit : xs.length + s.size ≤ cur.size := by omega
      have hr := append_room_looseS (P := P) (w := w) t u ty e i ht hu hi hsize g xs.length cap cur fz hg hfz s hroom hfit
      have hsz : (cur.toList.take xs.length ++ strCells s ++ cur.toList.drop (xs.length + s.size)).toArray.size = cur.size := by
        simp only [List.size_toArray, List.length_append, List.length_take, List.length_drop, Array.length_toList, hl]
        omega
      have hgb : w.grownBy (w.setRow g (cur.toList.take xs.length ++ strCells s ++ cur.toList.drop (xs.length + s.size)).toArray) (some g) := ⟨rfl, rfl, rfl, by simp, fun k _ hk => setRow_other w g k _ (fun e => hk (by simp [e]))⟩
      refine ⟨_, _, hr, .inr ⟨g, cap, _, fz, by rw [List.length_append, hl], setRow_heap w g cur _ e _ hg, by rw [hsz]; exact hfz, by rw [List.length_append, hl]; omega, hcm, by rw [hsz]; exact hcs, ?_⟩, (Kept.refl _ _).grown hgb (fun k hk => .inl (by cases hk; rfl)), .inl rfl, (fun h => by cases h)⟩
      rw [htake]
      exact List.take_left
    · have holds : ∀ j u, xs[j]? = some u → w.cell? ((⟨g, 0, none⟩ : Addr).add j) = some u := by
        intro j u hu
        have hadd : (⟨g, 0, none⟩ : Addr).add j = ⟨g, j, none⟩ := by unfold Addr.add; split <;> simp_all
        rw [hadd]
        simp only [World.cell?, hg]
        rw [← htake, List.getElem?_take] at hu
        split at hu
        · simpa using hu
        · cases hu
      have hr := run_append_grow_string (P := P) (w := w) t u ty e i z ht hu hi hz ⟨g, 0, none⟩ xs.length cap xs (by rw [hsize, Nat.mul_one]) holds s (by omega) (by omega) (growslice_fits (by omega) hbytes)
      have hge := grownCap_ge w (xs.length + s.size) cap e
      have hcm2 : grownCap w (xs.length + s.size) cap e ≤ maxLen := grownCap_le_maxLen w (xs.length + s.size) cap e h63
      refine ⟨_, _, hr, .inr ⟨w.heap.size, _, _, (0, 0), by rw [List.length_append, hl], heap_alloc_new w.drew _, fun i _ h => by omega, by rw [List.length_append, hl]; exact hge, hcm2, ?_, ?_⟩, (Kept.refl _ _).grown (row := none) ⟨rfl, rfl, rfl, by simp, fun k hk _ => heap_alloc_old w.drew _ hk⟩ (fun k hk => by cases hk), .inr rfl, (fun h => by cases h)⟩
      · simp only [Array.size_append, List.size_toArray, size_zeroCells, hzs, hl, Nat.mul_one]
        omega
      · simp only [Array.toList_append, List.append_assoc]
        rw [← List.append_assoc]
        have hll : xs.length + (strCells s).length = xs.length + s.size := by rw [hl]
        exact List.take_left' (by simp [hl])
/-- The operation, for the walk. -/
theorem wpList_appXS {P : Program} {w : World} {ops : Array Oper} {rest : List Oper} {o : Oper} {a : Act} {Q : Exit → Act → World → Prop} (hgd : o.guard = none) (sl x : Operand) (t u : TypeId)
    (ho : o.op = .call { callee := .builtin .append, args := #[sl, x], argTypes := #[t, u] })
    (e : TypeId) (i : TypeInfo) (z : Value) (bytes : Nat) (ht : P.underlying t = some (.slice e)) (hu : P.underlying u = some .string) (hi : P.info? e = some i) (hz : i.zero = some z)
    (hsize : i.size = 1) (hby : i.bytes = bytes) (hzs : z.cells.size = 1)
    (v : Value) (xs : List Value) (hs : a.eval sl = v) (hown : OwnX e w v xs) (hv : v.ownBlock ≠ none) (s : ByteArray) (hx : a.eval x = .string s)
    (h63 : xs.length + s.size ≤ maxLen) (hbytes : (xs.length + s.size) * bytes ≤ 140737488355328)
    (h : ∀ v' w', OwnX e w' v' (xs ++ strCells s) → Kept (fun k => v.ownBlock = some k) w w' → (v'.ownBlock = v.ownBlock ∨ v'.ownBlock = some w.heap.size) → v'.ownBlock ≠ none → wpList P ops Q rest (a.put o.dst v') w') : wpList P ops Q (o :: rest) a w := by
  refine wpList_plain hgd fun K hK => ?_
  obtain ⟨v', w', hr, h2, h3, h4, h5⟩ := append_looseS (P := P) (w := w) t u o.type e i z bytes ht hu hi hz hsize hby hzs v xs hown hv s h63 hbytes
  unfold Oper.wp execOp
  simp only [ho, resolve, invoke, builtin, Sem.run_bind, Sem.run_pure, Result.andThen_ok, List.map_toArray, List.map_cons, List.map_nil, hs, hx, hr]
  exact hK _ _ (h v' w' h2 h3 h4 h5)
end Go.Proofs.Ytnaoobgghgnflaa
