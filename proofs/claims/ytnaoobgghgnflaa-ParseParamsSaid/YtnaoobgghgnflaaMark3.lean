/- Bytes in a row that a conversion of a string may have made, by their list. -/
import Derived.Test.YtnaoobgghgnflaaDig
namespace Go.Proofs.Ytnaoobgghgnflaa
open Go.RowKit Pl
set_option linter.unusedVariables false
set_option linter.unusedSimpArgs false
def OX (w : World) (v : Value) (xs : List Int) : Prop := OwnX 5 w v (xs.map (Value.int .u8))
theorem OX.kept {S : Nat → Prop} {w w' : World} {v : Value} {xs : List Int} (h : OX w v xs) (hk : Kept S w w') (hn : ∀ b, v.ownBlock = some b → ¬ S b) : OX w' v xs := OwnX.kept h hk hn
theorem OX.shape {w : World} {v : Value} {xs : List Int} (h : OX w v xs) : ∃ a cap, v = .slice a xs.length cap ∧ SlAt .u8 w a xs.length xs ∧ xs.length ≤ cap ∧ cap ≤ maxLen ∧ (a = none → xs.length = 0 ∧ cap = 0) ∧ ∀ b off, a = some ⟨b, off, none⟩ → v.ownBlock = some b := by
  obtain ⟨a, cap, h1, h2, h3, h4, h5, h6⟩ := OwnX.shape h
  rw [List.length_map] at h1 h2 h4 h6
  refine ⟨a, cap, h1, ⟨rfl, ?_⟩, h2, h3, h4, fun b off h => (h5 b off h).2⟩
  rcases h6 with h6 | ⟨b, hb, hc⟩
  · exact .inl h6
  · refine .inr ⟨b, 0, hb, fun j hj => ?_⟩
    rw [Nat.zero_add]
    refine hc j _ ?_
    rw [List.getElem?_map, List.getD_eq_getElem?_getD, List.getElem?_eq_getElem hj]
    rfl
theorem OX.lt {w : World} {v : Value} {xs : List Int} (h : OX w v xs) : ∀ b, v.ownBlock = some b → b < w.heap.size := OwnX.lt h
theorem OX.conv (w : World) (x : List Nat) (hx : ∀ c ∈ x, c < 256) (S : ByteArray) (hS : S = nstr x) (hl : x.length ≤ 1000000) : ∃ w2 cap, (convert 9 22 (.string S)).run Try.prog w = .ok (.slice (some ⟨w.heap.size, 0, none⟩) x.length cap) w2 ∧ OX w2 (.slice (some ⟨w.heap.size, 0, none⟩) x.length cap) (ints x) ∧ Kept (fun _ => False) w w2 ∧ w2.heap.size = w.heap.size + 1 := bytes_convX w x hx S hS hl
theorem run_appX_none {P : Program} {w : World} {t ty e : TypeId} {i : TypeInfo} (ht : P.underlying t = some (.slice e)) (hi : P.info? e = some i) {v : Value} {xs : List Value} (h : OwnX e w v xs) : (Builtin.append_ #[t, t] ty #[v, .slice none 0 0]).run P w = .ok v w := by
  rcases h with ⟨rfl, rfl⟩ | ⟨g, cap, cur, fz, rfl, _, _, hnc, _⟩
  · simp [Builtin.append_, run_underlying ht, sizeOf, typeInfo, hi, Builtin.lenOf, Builtin.firstCells]
  · simp [Builtin.append_, run_underlying ht, sizeOf, typeInfo, hi, Builtin.lenOf, Builtin.firstCells, hnc, storeCells]
/-- append(v, ys...) -/
theorem wpList_addX {w : World} {ops : Array Oper} {rest : List Oper} {o : Oper} {a : Act} {Q : Exit → Act → World → Prop} (hgd : o.guard = none) (s x : Operand)
    (ho : o.op = .call { callee := .builtin .append, args := #[s, x], argTypes := #[22, 22] })
    (i : TypeInfo) (hi : Try.prog.info? 5 = some i) (hz : i.zero = some (.int .u8 0)) (hsize : i.size = 1) (hby : i.bytes = 1)
    (v : Value) (xs : List Int) (hs : a.eval s = v) (hown : OX w v xs)
    (ad : Option Addr) (m c : Nat) (ys : List Int) (hx : a.eval x = .slice ad m c) (hnil : ad = none → m = 0 ∧ c = 0) (hsl : SlAt .u8 w ad m ys) (hpl : ∀ q, ad = some q → ∃ b off, q = ⟨b, off, none⟩) (hl : xs.length + m ≤ 1000000)
    (h : ∀ v' w', OX w' v' (xs ++ ys) → Kept (fun k => v.ownBlock = some k) w w' → (v'.ownBlock = v.ownBlock ∨ v'.ownBlock = some w.heap.size) → (v.ownBlock ≠ none → v'.ownBlock ≠ none) → wpList Try.prog ops Q rest (a.put o.dst v') w') : wpList Try.prog ops Q (o :: rest) a w := by
  have hml := hsl.1
  cases ad with
  | none =>
    obtain ⟨rfl, rfl⟩ := hnil rfl
    have hy : ys = [] := List.eq_nil_of_length_eq_zero (by simpa using hml)
    subst hy
    have hrun := run_appX_none (P := Try.prog) (ty := o.type) Try.underlying22 hi hown
    refine wpList_plain hgd fun K hK => ?_
    unfold Oper.wp execOp
    simp only [ho, resolve, invoke, builtin, Sem.run_bind, Sem.run_pure, Result.andThen_ok, List.map_toArray, List.map_cons, List.map_nil, hs, hx, hrun]
    exact hK _ _ (h v w (by simpa using hown) (Kept.refl _ _) (.inl rfl) id)
  | some q =>
    obtain ⟨b, off, rfl⟩ := hpl q rfl
    refine wpList_appX hgd s x 22 ho 5 i (.int .u8 0) 1 Try.underlying22 hi hz hsize hby rfl v _ hs hown ⟨b, off, none⟩ m c (ys.map (Value.int .u8)) hx (by simp [hml]) ?_ (one_ints .u8 ys) (by simp only [List.length_map, maxLen]; omega) (by simp only [List.length_map]; omega) ?_
    · intro j u hu
      obtain ⟨hl2, h0⟩ := hsl
      rw [List.getElem?_map, Option.map_eq_some_iff] at hu
      obtain ⟨y, hy, rfl⟩ := hu
      have hj : j < ys.length := (List.getElem?_eq_some_iff.1 hy).1
      obtain ⟨b', off', he, hc⟩ := h0.resolve_left (by omega)
      cases he
      have e : (⟨b, off, none⟩ : Addr).add j = ⟨b, off + j, none⟩ := by unfold Addr.add; split <;> simp_all
      rw [e, hc j (by omega), List.getD_eq_getElem?_getD, hy]
      rfl
    · intro v' w' h1 h2 h3
      refine h v' w' ?_ h2 h3 (fun hn hn2 => ?_)
      · unfold OX; rw [List.map_append]; exact h1
      · rcases h3 with h3 | h3
        · rw [h3] at hn2; exact hn hn2
        · rw [h3] at hn2; cases hn2
/-- append(v, S...) -/
theorem wpList_addS {w : World} {ops : Array Oper} {rest : List Oper} {o : Oper} {a : Act} {Q : Exit → Act → World → Prop} (hgd : o.guard = none) (sl x : Operand)
    (ho : o.op = .call { callee := .builtin .append, args := #[sl, x], argTypes := #[22, 9] })
    (i : TypeInfo) (hi : Try.prog.info? 5 = some i) (hz : i.zero = some (.int .u8 0)) (hsize : i.size = 1) (hby : i.bytes = 1)
    (v : Value) (xs : List Int) (hs : a.eval sl = v) (hown : OX w v xs) (hv : v.ownBlock ≠ none) (S : ByteArray) (ys : List Int) (hS : Lib.strCells S = ys.map (Value.int .u8)) (hx : a.eval x = .string S) (hl : xs.length + ys.length ≤ 1000000)
    (h : ∀ v' w', OX w' v' (xs ++ ys) → Kept (fun k => v.ownBlock = some k) w w' → (v'.ownBlock = v.ownBlock ∨ v'.ownBlock = some w.heap.size) → v'.ownBlock ≠ none → wpList Try.prog ops Q rest (a.put o.dst v') w') : wpList Try.prog ops Q (o :: rest) a w := by
  have hz2 : S.size = ys.length := by have h1 := Lib.strCells_length S; rw [hS] at h1; simpa using h1.symm
  refine wpList_appXS hgd sl x 22 9 ho 5 i (.int .u8 0) 1 Try.underlying22 Try.underlying9 hi hz hsize hby rfl v _ hs hown hv S hx (by simp only [List.length_map, maxLen]; omega) (by simp only [List.length_map]; omega) ?_
  intro v' w' h1 h2 h3 h4
  rw [hS, ← List.map_append] at h1
  exact h v' w' h1 h2 h3 h4
theorem own_pl {k : IntKind} {e : TypeId} {w : World} {v : Value} {xs : List Int} (h : Own k e w v xs) : v = .slice none 0 0 ∨ ∃ g cap, v = .slice (some ⟨g, 0, none⟩) xs.length cap := by
  obtain ⟨h1, h2⟩ := h
  rcases h2 with ⟨rfl, h0⟩ | ⟨g, cap, cur, rfl, -⟩
  · exact .inl rfl
  · exact .inr ⟨g, cap, rfl⟩
end Go.Proofs.Ytnaoobgghgnflaa
