/- A slice of integers that the call owns: its cells, a store into it, a copy into it. -/
import Derived.Test.YtdjgmhbfohbenaaOwn
import Derived.Laws.CopyOwn
import Derived.Deep.RegionLaw
namespace Go.Proofs.Ytdjgmhbfohbenaa
open Go.RowKit
theorem Own.at {k : IntKind} {e : TypeId} {w : World} {g n cap : Nat} {xs : List Int} (h : Own k e w (.slice (some ⟨g, 0, none⟩) n cap) xs) :
    xs.length = n ∧ n ≤ cap ∧ g < w.heap.size ∧ (∀ j, j < n → w.cell? ⟨g, j, none⟩ = some (.int k (xs.getD j 0))) ∧ ∀ j, w.frozen? ⟨g, j, none⟩ = false := by
  have hs := h.shape
  obtain ⟨a, cap', hv, hsl, hc, -, -, -⟩ := hs
  cases hv
  obtain ⟨h1, h2⟩ := h
  rcases h2 with ⟨h3, -⟩ | ⟨g', cap'', cur, h3, -, hg, hn, -, hcs, ht⟩
  · cases h3
  · cases h3
    refine ⟨rfl, hc, lt_of_blk hg, fun j hj => ?_, fun j => blk_free hg j⟩
    obtain ⟨b, off, he, hcell⟩ := hsl.2.resolve_left (by omega)
    cases he
    simpa using hcell j hj
theorem Own.slAt {k : IntKind} {e : TypeId} {w : World} {g n cap : Nat} {xs : List Int} (h : Own k e w (.slice (some ⟨g, 0, none⟩) n cap) xs) : SlAt k w (some ⟨g, 0, none⟩) n xs := by
  obtain ⟨h1, -, -, hc, -⟩ := h.at
  exact ⟨h1, .inr ⟨g, 0, rfl, fun j hj => by rw [Nat.zero_add]; exact hc j hj⟩⟩
/-- A slice of which some places hold other numbers. -/
def spl (xs : List Int) (o : Nat) (ys : List Int) : List Int := xs.take o ++ ys ++ xs.drop (o + ys.length)
theorem spl_length {xs : List Int} {o : Nat} {ys : List Int} (h : o + ys.length ≤ xs.length) : (spl xs o ys).length = xs.length := by
  unfold spl; simp; omega
theorem spl_get {xs : List Int} {o : Nat} {ys : List Int} (h : o + ys.length ≤ xs.length) (j : Nat) : (spl xs o ys).getD j 0 = if o ≤ j ∧ j < o + ys.length then ys.getD (j - o) 0 else xs.getD j 0 := by
  unfold spl
  simp only [List.getD_eq_getElem?_getD, List.append_assoc]
  have ho : (xs.take o).length = o := by simp; omega
  by_cases h1 : j < o
  · rw [List.getElem?_append_left (by omega), if_neg (by omega), List.getElem?_take_of_lt h1]
  · rw [List.getElem?_append_right (by omega), ho]
    by_cases h2 : j < o + ys.length
    · rw [if_pos (by omega), List.getElem?_append_left (by omega)]
    · rw [if_neg (by omega), List.getElem?_append_right (by omega), List.getElem?_drop]
      congr 2; omega
theorem own_of_row {k : IntKind} {e : TypeId} {w : World} {g n cap o : Nat} {xs ys : List Int} {cur : Array Value} (hg : w.heap[g]? = some (.cells cur e (0, 0))) (hn : n ≤ cap) (hcm : cap ≤ maxLen) (hcs : cur.size = cap) (hx : xs.length = n) (ht : cur.toList.take n = xs.map (Value.int k)) (ho : o + ys.length ≤ n) :
    Own k e (w.setRow g (cur.toList.take o ++ ys.map (Value.int k) ++ cur.toList.drop (o + (ys.map (Value.int k)).length)).toArray) (.slice (some ⟨g, 0, none⟩) n cap) (spl xs o ys) ∧
      Kept (· = g) w (w.setRow g (cur.toList.take o ++ ys.map (Value.int k) ++ cur.toList.drop (o + (ys.map (Value.int k)).length)).toArray) := by
  have hl : (spl xs o ys).length = n := by rw [spl_length (by omega)]; exact hx
  have hcl : cur.toList.length = cap := by simpa using hcs
  constructor
  · refine ⟨by simp, .inr ⟨g, cap, _, by rw [hl], Nat.zero_le _, setRow_heap w g cur _ e _ hg, by omega, hcm, ?_, ?_⟩⟩
    · simp only [List.size_toArray, List.length_append, List.length_take, List.length_drop, List.length_map]
      omega
    · rw [hl, Nat.mul_one]
      simp only [List.length_map, spl, List.map_append]
      rw [List.map_take, List.map_drop, ← ht, List.take_take, Nat.min_eq_left (by omega), List.drop_take, List.take_append, List.take_of_length_le (by simp; omega)]
      congr 2
      simp; omega
  · exact ⟨rfl, rfl, rfl, by simp, fun i _ hi => setRow_other w g i _ hi⟩
/-- copy into a slice that the call owns. -/
theorem run_cp {P : Program} {w : World} {dT sT ty e : TypeId} {k : IntKind} (hu : P.underlying dT = some (.slice e)) (hsz : (P.info? e).map (·.size) = some 1)
    {g n cap o dLen dCap : Nat} {xs : List Int} (hown : Own k e w (.slice (some ⟨g, 0, none⟩) n cap) xs) {sp : Option Addr} {sLen sCap : Nat} {ys : List Int} (hs : SlAt k w sp sLen ys) {c : Nat} (hc : c = Nat.min sLen dLen) (hfit : o + c ≤ n) :
    ∃ w', (Builtin.copy_ #[dT, sT] ty #[.slice (some ⟨g, o, none⟩) dLen dCap, .slice sp sLen sCap]).run P w = .ok (.int .i64 c) w' ∧ Own k e w' (.slice (some ⟨g, 0, none⟩) n cap) (spl xs o (ys.take c)) ∧ Kept (· = g) w w' := by
  have hxl := hown.at.1
  by_cases h0 : c = 0
  · subst h0
    have hr := run_copy_none (P := P) w dT sT ty e (some ⟨g, o, none⟩) sp dLen dCap sLen sCap hu hsz hc.symm
    refine ⟨w, hr, ?_, Kept.refl _ _⟩
    have : spl xs o (ys.take 0) = xs := by simp [spl]
    rw [this]; exact hown
  · have hcs : c ≤ sLen := by rw [hc]; exact Nat.min_le_left _ _
    have hyl := hs.1
    obtain ⟨b, off, rfl, hcell⟩ := hs.2.resolve_left (by omega)
    have hy : (ys.take c).length = c := by simp; omega
    obtain ⟨h1, h2⟩ := hown
    rcases h2 with ⟨h3, -⟩ | ⟨g', cap', cur, h3, -, hg, hn, hcm, hcs', ht⟩
    · cases h3
    · cases h3
      have hw := own_of_row (ys := ys.take c) hg hn hcm (by simpa using hcs') rfl (by simpa using ht) (by rw [hy]; omega)
      have hr := run_copy_row (P := P) w dT sT ty e g o dLen dCap ⟨b, off, none⟩ sLen sCap cur e ((ys.take c).map (Value.int k)) hu hsz hg (by rw [List.length_map, hy]; exact hc) (by
          intro j u hu
          simp only [List.getElem?_map, Option.map_eq_some_iff] at hu
          obtain ⟨q, hq, rfl⟩ := hu
          have hj : j < (ys.take c).length := (List.getElem?_eq_some_iff.1 hq).1
          have hcj := hcell j (by omega)
          have e1 : (⟨b, off, none⟩ : Addr).add j = ⟨b, off + j, none⟩ := by unfold Addr.add; split <;> simp_all
          rw [e1, hcj]
          rw [List.getElem?_take_of_lt (by omega)] at hq
          simp [hq]) (by rw [List.length_map, hy]; omega) (one_ints k _)
      refine ⟨_, ?_, hw.1, hw.2⟩
      rw [hr, List.length_map, hy]
      rfl
theorem wpList_cp {P : Program} {w : World} {ops : Array Oper} {rest : List Oper} {o : Oper} {a : Act} {Q : Exit → Act → World → Prop} (hgd : o.guard = none) (d s : Operand) (dT sT : TypeId)
    (ho : o.op = .call { callee := .builtin .copy, args := #[d, s], argTypes := #[dT, sT] }) (e : TypeId) (k : IntKind) (hu : P.underlying dT = some (.slice e)) (hsz : (P.info? e).map (·.size) = some 1)
    (g n cap off dLen dCap : Nat) (xs : List Int) (hd : a.eval d = .slice (some ⟨g, off, none⟩) dLen dCap) (hown : Own k e w (.slice (some ⟨g, 0, none⟩) n cap) xs) (sp : Option Addr) (sLen sCap : Nat) (ys : List Int) (hs : a.eval s = .slice sp sLen sCap) (hsl : SlAt k w sp sLen ys) (c : Nat) (hc : c = Nat.min sLen dLen) (hfit : off + c ≤ n)
    (h : ∀ w', Own k e w' (.slice (some ⟨g, 0, none⟩) n cap) (spl xs off (ys.take c)) → Kept (· = g) w w' → wpList P ops Q rest (a.put o.dst (.int .i64 c)) w') : wpList P ops Q (o :: rest) a w := by
  refine wpList_plain hgd fun K hK => ?_
  obtain ⟨w', hrun, h1, h2⟩ := run_cp (ty := o.type) hu hsz hown (o := off) (dLen := dLen) (dCap := dCap) (sCap := sCap) hsl hc hfit
  unfold Oper.wp
  simp [execOp, ho, resolve, invoke, builtin, hd, hs, Result.andThen]
  rw [hrun]
  exact hK _ _ (h w' h1 h2)
theorem step_cp {P : Program} {w : World} {ops : Array Oper} {o : Oper} {a : Act} {K : Act → World → Prop} {Q : Exit → Act → World → Prop} {E : Prop} (hgd : o.guard = none) (d s : Operand) (dT sT : TypeId)
    (ho : o.op = .call { callee := .builtin .copy, args := #[d, s], argTypes := #[dT, sT] }) (e : TypeId) (k : IntKind) (hu : P.underlying dT = some (.slice e)) (hsz : (P.info? e).map (·.size) = some 1)
    (g n cap off dLen dCap : Nat) (xs : List Int) (hd : a.eval d = .slice (some ⟨g, off, none⟩) dLen dCap) (hown : Own k e w (.slice (some ⟨g, 0, none⟩) n cap) xs) (sp : Option Addr) (sLen sCap : Nat) (ys : List Int) (hs : a.eval s = .slice sp sLen sCap) (hsl : SlAt k w sp sLen ys) (c : Nat) (hc : c = Nat.min sLen dLen) (hfit : off + c ≤ n)
    (h : ∀ w', Own k e w' (.slice (some ⟨g, 0, none⟩) n cap) (spl xs off (ys.take c)) → Kept (· = g) w w' → K (a.put o.dst (.int .i64 c)) w') :
    if Region.wanted o (yielded ops a.tmps) = true then Oper.wp P o a w K Q else E := by
  have hw : Region.wanted o (yielded ops a.tmps) = true := by simp [Region.wanted, hgd]
  rw [if_pos hw]
  obtain ⟨w', hrun, h1, h2⟩ := run_cp (ty := o.type) hu hsz hown (o := off) (dLen := dLen) (dCap := dCap) (sCap := sCap) hsl hc hfit
  unfold Oper.wp
  simp [execOp, ho, resolve, invoke, builtin, hd, hs, Result.andThen]
  rw [hrun]
  exact h w' h1 h2
/-- A store into a slice that the call owns. -/
theorem Own.set {k : IntKind} {e : TypeId} {w : World} {g n cap : Nat} {xs : List Int} (h : Own k e w (.slice (some ⟨g, 0, none⟩) n cap) xs) {i : Nat} (hi : i < n) (v : Int) :
    Own k e (w.setCell ⟨g, i, none⟩ (.int k v)) (.slice (some ⟨g, 0, none⟩) n cap) (xs.set i v) := by
  have hxl := h.at.1
  obtain ⟨h1, h2⟩ := h
  rcases h2 with ⟨h3, -⟩ | ⟨g', cap', cur, h3, -, hg, hn, hcm, hcs, ht⟩
  · cases h3
  · cases h3
    refine ⟨by simp, .inr ⟨g, cap, cur.setIfInBounds i (.int k v), by simp, Nat.zero_le _, blk_set hg i _, by simpa using hn, hcm, by simpa using hcs, ?_⟩⟩
    rw [Array.toList_setIfInBounds, List.length_set, List.take_set, ht, List.map_set]
end Go.Proofs.Ytdjgmhbfohbenaa
