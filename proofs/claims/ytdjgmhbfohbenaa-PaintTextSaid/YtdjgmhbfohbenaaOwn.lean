/- Append onto a slice that the call itself owns, from whatever source, nil and empty ones too; where the result lies. -/
import Derived.Test.YtdjgmhbfohbenaaBase

import Derived.Laws.AppendOwnNone
namespace Go.Proofs.Ytdjgmhbfohbenaa
open Go.RowKit
section
variable {P : Program} {w : World}
/-- The block of a slice that an append gives: the old one, or a new one. -/
theorem app_prov {base : Nat} {t ty e : TypeId} {i : TypeInfo} {z : Value} {size bytes : Nat} (ht : P.underlying t = some (.slice e)) (hi : P.info? e = some i) (hz : i.zero = some z)
    (hsize : i.size = size) (hby : i.bytes = bytes) (hsz : 0 < size) {v : Value} {n : Nat} {xs : List Value} (hown : w.ownsRow base e size v n xs)
    {a : Addr} {m c : Nat} {news : List Value} (hl : news.length = m * size) (hnews : ∀ j u, news[j]? = some u → w.cell? (a.add j) = some u) (h1 : ∀ u ∈ news, u.oneCell' = true)
    (h63 : n + m ≤ maxLen) (hbytes : (n + m) * bytes ≤ 140737488355328) {v' : Value} {w' : World}
    (hr : (Builtin.append_ #[t, t] ty #[v, .slice (some a) m c]).run P w = .ok v' w') :
    v'.ownBlock = v.ownBlock ∨ v'.ownBlock = some w.heap.size := by
  subst hsize hby
  have hsmall : n + m ≤ 9223372036854775807 := by simp only [maxLen] at h63; omega
  rcases hown.2 with ⟨rfl, rfl⟩ | ⟨g, cap, cur, rfl, hbg, hg, hnc, hcm, hcs, htake⟩
  · by_cases hm : m = 0
    · subst hm
      have hn : news = [] := List.eq_nil_of_length_eq_zero (by simpa using hl)
      subst hn
      have h2 : (Builtin.append_ #[t, t] ty #[.slice none 0 0, .slice (some a) 0 c]).run P w = .ok (.slice none 0 0) w := by
        simp [Builtin.append_, run_underlying ht, sizeOf, typeInfo, hi, Builtin.lenOf, Builtin.firstCells, loadCells, loadCellsFrom]
      rw [h2] at hr
      cases hr
      exact .inl rfl
    · have h2 := run_append_nil (P := P) w t ty e i z ht hi hz a m c news hl hnews (by omega) (by omega) (by have hb := hbytes; simp only [Nat.zero_add] at hb; omega)
      rw [h2] at hr
      cases hr
      exact .inr rfl
  · by_cases hroom : n + m ≤ cap
    · have hfit : n * i.size + news.length ≤ cur.size := by rw [hl, hcs, ← Nat.add_mul]; exact Nat.mul_le_mul_right _ hroom
      have h2 := run_append_room (P := P) w t ty e i ht hi g n cap cur hg a m c news hl hnews h1 hroom hfit
      rw [h2] at hr
      cases hr
      exact .inl rfl
    · have holds : ∀ j u, xs[j]? = some u → w.cell? ((⟨g, 0, none⟩ : Addr).add j) = some u := hown.cells (g := g) rfl
      have hfit : Builtin.nextslicecap (n + m) cap * i.bytes ≤ 281474976710656 := by
        have h1 := nextslicecap_le (need := n + m) (old := cap) (by omega)
        calc Builtin.nextslicecap (n + m) cap * i.bytes ≤ (2 * (n + m)) * i.bytes := Nat.mul_le_mul_right _ h1
          _ = 2 * ((n + m) * i.bytes) := by rw [Nat.mul_assoc]
          _ ≤ 281474976710656 := by omega
      have h2 := run_append_grow (P := P) w t ty e i z ht hi hz ⟨g, 0, none⟩ n cap xs hown.1 holds a m c news hl hnews (by omega) (by omega) hfit
      rw [h2] at hr
      cases hr
      exact .inr rfl
/-- APPEND, from whatever source. -/
theorem wpList_app {ops : Array Oper} {rest : List Oper} {o : Oper} {a : Act} {Q : Exit → Act → World → Prop} (hgd : o.guard = none) (s x : Operand) (t : TypeId)
    (ho : o.op = .call { callee := .builtin .append, args := #[s, x], argTypes := #[t, t] })
    (e : TypeId) (i : TypeInfo) (z : Value) (size bytes : Nat) (ht : P.underlying t = some (.slice e)) (hi : P.info? e = some i) (hz : i.zero = some z)
    (hsize : i.size = size) (hby : i.bytes = bytes) (hzs : z.cells.size = size) (hsz : 0 < size)
    (v : Value) (n : Nat) (xs : List Value) (hs : a.eval s = v) (hown : w.ownsRow 0 e size v n xs)
    (ad : Option Addr) (m c : Nat) (news : List Value) (hx : a.eval x = .slice ad m c) (hnil : ad = none → m = 0 ∧ c = 0) (hl : news.length = m * size)
    (hnews : ∀ y, ad = some y → ∀ j u, news[j]? = some u → w.cell? (y.add j) = some u) (h1 : ∀ u ∈ news, u.oneCell' = true)
    (h63 : n + m ≤ maxLen) (hbytes : (n + m) * bytes ≤ 140737488355328)
    (h : ∀ v' w', w'.ownsRow 0 e size v' (n + m) (xs ++ news) → Kept (fun k => v.ownBlock = some k) w w' → (v'.ownBlock = v.ownBlock ∨ v'.ownBlock = some w.heap.size) → wpList P ops Q rest (a.put o.dst v') w') : wpList P ops Q (o :: rest) a w := by
  refine wpList_plain hgd fun K hK => ?_
  cases ad with
  | none =>
    obtain ⟨rfl, rfl⟩ := hnil rfl
    have hn : news = [] := List.eq_nil_of_length_eq_zero (by simpa using hl)
    subst hn
    have hrun := run_append_owned_none (P := P) (w := w) 0 t o.type e i size ht hi v n xs hown
    unfold Oper.wp
    simp [execOp, ho, resolve, invoke, builtin, hs, hx, hrun, Result.andThen]
    exact hK _ _ (h _ _ (by simpa using hown) (Kept.refl _ _) (.inl rfl))
  | some y =>
    obtain ⟨v', w', hrun, ho', hg, -⟩ := run_append_own (P := P) (w := w) 0 t o.type e i z size bytes ht hi hz hsize hby hzs hsz v n xs hown y m c news hl (hnews y rfl) h1 h63 hbytes (Nat.zero_le _)
    have hp := app_prov (ty := o.type) ht hi hz hsize hby hsz hown hl (hnews y rfl) h1 h63 hbytes hrun
    unfold Oper.wp
    simp [execOp, ho, resolve, invoke, builtin, hs, hx, hrun, Result.andThen]
    exact hK _ _ (h _ _ ho' ((Kept.refl _ _).grown hg (fun k hk => .inl hk)) hp)
end
/-- A slice that the call owns, of integers. -/
def Own (k : IntKind) (e : TypeId) (w : World) (v : Value) (xs : List Int) : Prop := w.ownsRow 0 e 1 v xs.length (xs.map (Value.int k))
theorem Own.shape {k : IntKind} {e : TypeId} {w : World} {v : Value} {xs : List Int} (h : Own k e w v xs) : ∃ a cap, v = .slice a xs.length cap ∧ SlAt k w a xs.length xs ∧ xs.length ≤ cap ∧ cap ≤ maxLen ∧ (a = none → xs.length = 0 ∧ cap = 0) ∧
    (∀ b off, a = some ⟨b, off, none⟩ → v.ownBlock = some b) := by
  obtain ⟨h1, h2⟩ := h
  rcases h2 with ⟨rfl, h0⟩ | ⟨g, cap, cur, rfl, -, hg, hn, hc, hcs, ht⟩
  · exact ⟨none, 0, by rw [h0], ⟨rfl, .inl h0⟩, by omega, by simp [maxLen], fun _ => ⟨h0, rfl⟩, fun _ _ h => by cases h⟩
  · refine ⟨some ⟨g, 0, none⟩, cap, rfl, ⟨rfl, .inr ⟨g, 0, rfl, fun j hj => ?_⟩⟩, hn, hc, (fun h => by cases h), (fun b off h => by cases h; rfl)⟩
    rw [blk_cell hg]
    have h3 : (cur.toList.take (xs.length * 1))[j]? = some (.int k (xs.getD j 0)) := by rw [ht]; simp [hj]
    rw [List.getElem?_take] at h3
    simp only [Nat.mul_one, hj, if_true, Array.getElem?_toList] at h3
    rw [Nat.zero_add]
    exact h3
theorem Own.kept {k : IntKind} {e : TypeId} {S : Nat → Prop} {w w' : World} {v : Value} {xs : List Int} (h : Own k e w v xs) (hk : Kept S w w') (hn : ∀ b, v.ownBlock = some b → ¬ S b) : Own k e w' v xs := by
  obtain ⟨h1, h2⟩ := h
  refine ⟨h1, ?_⟩
  rcases h2 with h2 | ⟨g, cap, cur, rfl, hb, hg, r⟩
  · exact .inl h2
  · exact .inr ⟨g, cap, cur, rfl, hb, hk.blk hg (hn g rfl), r⟩
theorem Own.nil (k : IntKind) (e : TypeId) (w : World) : Own k e w (.slice none 0 0) [] := World.ownsRow_nil w 0 e 1
theorem Own.new (k : IntKind) {e : TypeId} (w : World) : Own k e (w.alloc (.cells #[] e)) (.slice (some ⟨w.heap.size, 0, none⟩) 0 0) [] :=
  World.ownsRow_made (base := 0) w #[] 0 (Nat.zero_le _) (by simp [maxLen]) rfl
theorem one_ints (k : IntKind) (ys : List Int) : ∀ u ∈ ys.map (Value.int k), u.oneCell' = true := by
  intro u hu
  obtain ⟨y, -, rfl⟩ := List.mem_map.1 hu
  rfl
/-- APPEND of integers onto a slice of the call's own. -/
theorem wpList_appInts {P : Program} {w : World} {ops : Array Oper} {rest : List Oper} {o : Oper} {a : Act} {Q : Exit → Act → World → Prop} (hgd : o.guard = none) (s x : Operand) (t : TypeId)
    (ho : o.op = .call { callee := .builtin .append, args := #[s, x], argTypes := #[t, t] })
    (e : TypeId) (k : IntKind) (i : TypeInfo) (z : Value) (bytes : Nat) (ht : P.underlying t = some (.slice e)) (hi : P.info? e = some i) (hz : i.zero = some z)
    (hsize : i.size = 1) (hby : i.bytes = bytes) (hzs : z.cells.size = 1)
    (v : Value) (xs : List Int) (hs : a.eval s = v) (hown : Own k e w v xs)
    (ad : Option Addr) (m c : Nat) (ys : List Int) (hx : a.eval x = .slice ad m c) (hnil : ad = none → m = 0 ∧ c = 0) (hsl : SlAt k w ad m ys)
    (hbytes : (xs.length + m) * bytes ≤ 140737488355328) (h63 : xs.length + m ≤ maxLen)
    (h : ∀ v' w', Own k e w' v' (xs ++ ys) → Kept (fun k => v.ownBlock = some k) w w' → (v'.ownBlock = v.ownBlock ∨ v'.ownBlock = some w.heap.size) → wpList P ops Q rest (a.put o.dst v') w') : wpList P ops Q (o :: rest) a w := by
  refine wpList_app hgd s x t ho e i z 1 bytes ht hi hz hsize hby hzs (by omega) v xs.length _ hs hown ad m c (ys.map (Value.int k)) hx hnil (by simp [hsl.1]) ?_ (one_ints k ys) h63 hbytes fun v' w' h1 h2 h3 => h v' w' ?_ h2 h3
  · rintro y rfl j u hu
    rcases hsl with ⟨hl, h0 | ⟨b, off, hy, hc⟩⟩
    · have : ys = [] := List.eq_nil_of_length_eq_zero (by omega)
      subst this
      cases hu
    · cases hy
      simp only [List.getElem?_map, Option.map_eq_some_iff] at hu
      obtain ⟨q, hq, rfl⟩ := hu
      have hj : j < ys.length := (List.getElem?_eq_some_iff.1 hq).1
      have hc := hc j (by omega)
      have e : (⟨b, off, none⟩ : Addr).add j = ⟨b, off + j, none⟩ := by unfold Addr.add; split <;> simp_all
      rw [e, hc]
      simp [hq]
  · show World.ownsRow _ _ _ _ _ _ _
    rw [List.map_append, List.length_append, hsl.1]
    exact h1
/-- make([]T, n) of integers. -/
theorem wpList_makeInts {P : Program} {w : World} {ops : Array Oper} {rest : List Oper} {o : Oper} {a : Act} {Q : Exit → Act → World → Prop}
    (hg : o.guard = none) (l c : Operand) (t : TypeId) (hop : o.op = Op.makeSlice t l c)
    (e : TypeId) (k : IntKind) (i : TypeInfo) (bytes : Nat) (h1 : P.underlying t = some (.slice e)) (h2 : P.info? e = some i) (h3 : i.zero = some (.int k 0)) (h4 : i.size = 1) (h5 : i.bytes = bytes)
    (kl kc : IntKind) (L C : Int) (n : Nat) (hl : a.eval l = .int kl L) (hc : a.eval c = .int kc C) (hL : L = (n : Int)) (hC : C = (n : Int)) (b2 : bytes * n ≤ 281474976710656) (b3 : n ≤ maxLen)
    (hK : ∀ w', Own k e w' (.slice (some ⟨w.heap.size, 0, none⟩) n n) (List.replicate n 0) → Kept (fun _ => False) w w' → w.heap.size < w'.heap.size → wpList P ops Q rest (a.put o.dst (.slice (some ⟨w.heap.size, 0, none⟩) n n)) w') :
    wpList P ops Q (o :: rest) a w := by
  refine wpList_make_full w hg l c t hop 0 e i (.int k 0) 1 h1 h2 h3 h4 kl kc L C n hl hc hL hC (by rw [h5]; exact b2) b3 (Nat.zero_le _) fun w' ho hg' => hK w' ?_ ((Kept.refl _ _).grown hg' (fun k h => by cases h)) (ho.lt w.heap.size rfl).2
  have e1 : (madeCells (Value.int k 0).cells (n * 1)).toList = (List.replicate n (0 : Int)).map (Value.int k) := by
    rw [Nat.mul_one, List.map_replicate]; exact toList_madeCells_one _ _
  unfold Own
  rw [← e1, List.length_replicate]
  exact ho
theorem blk1 {w : World} {b : Nat} {x : Value} {t : TypeId} (h : w.heap[b]? = some (.cells #[x] t (0, 0))) : w.cell? ⟨b, 0, none⟩ = some x ∧ w.frozen? ⟨b, 0, none⟩ = false := ⟨blk_cell h 0, blk_free h 0⟩
theorem blk2 {w : World} {b : Nat} {x y : Value} {t : TypeId} (h : w.heap[b]? = some (.cells #[x, y] t (0, 0))) :
    (w.cell? ⟨b, 0, none⟩ = some x ∧ w.frozen? ⟨b, 0, none⟩ = false) ∧ (w.cell? ⟨b, 1, none⟩ = some y ∧ w.frozen? ⟨b, 1, none⟩ = false) := ⟨⟨blk_cell h 0, blk_free h 0⟩, blk_cell h 1, blk_free h 1⟩
theorem blk3 {w : World} {b : Nat} {x y z : Value} {t : TypeId} (h : w.heap[b]? = some (.cells #[x, y, z] t (0, 0))) :
    (w.cell? ⟨b, 0, none⟩ = some x ∧ w.frozen? ⟨b, 0, none⟩ = false) ∧ (w.cell? ⟨b, 1, none⟩ = some y ∧ w.frozen? ⟨b, 1, none⟩ = false) ∧ (w.cell? ⟨b, 2, none⟩ = some z ∧ w.frozen? ⟨b, 2, none⟩ = false) :=
  ⟨⟨blk_cell h 0, blk_free h 0⟩, ⟨blk_cell h 1, blk_free h 1⟩, blk_cell h 2, blk_free h 2⟩
end Go.Proofs.Ytdjgmhbfohbenaa
