/- Several texts in one: Base, Own, Copy, App, AppStep, Str, Open, Plain, Small, Look, Num, New, From, Known0. -/
import Derived.WalkKit
import Derived.WalkSpells
import Derived.Lib.Hide
import Derived.Deep.QuietTactic
import Derived.BigQuiet
import Derived.Laws.AppendOwnNone
import Derived.Laws.CopyOwn
import Derived.Deep.RegionLaw
import Derived.ProofKit
import Derived.OpenShut
import Derived.ShutString
import Derived.ChangeOld
import Derived.Lib.SmallJoins
import Derived.IntWalk
import Derived.Laws.BitsAllLaws
import Derived.Test.YtdjgmhbfohbenaaRows
import Derived.StillTailTactics
import Derived.WalkLawsBesides
namespace Go.Proofs.Ytdjgmhbfohbenaa
open Go.RowKit

/-- Outside the blocks S of those that were there, w' is as w was. -/
structure Kept (S : Nat → Prop) (w w' : World) : Prop where
  os : w'.os = w.os
  tape : w'.tape = w.tape
  output : w'.output = w.output
  size : w.heap.size ≤ w'.heap.size
  block : ∀ k, k < w.heap.size → ¬ S k → w'.heap[k]? = w.heap[k]?
theorem Kept.refl (S : Nat → Prop) (w : World) : Kept S w w := ⟨rfl, rfl, rfl, Nat.le_refl _, fun _ _ _ => rfl⟩
theorem Kept.trans {S : Nat → Prop} {a b c : World} (h : Kept S a b) (k : Kept (fun i => S i ∨ a.heap.size ≤ i) b c) : Kept S a c :=
  ⟨k.os.trans h.os, k.tape.trans h.tape, k.output.trans h.output, Nat.le_trans h.size k.size, fun i hi hn =>
    (k.block i (Nat.lt_of_lt_of_le hi h.size) (fun h1 => h1.elim hn (fun h2 => by omega))).trans (h.block i hi hn)⟩
theorem Kept.mono {S S' : Nat → Prop} {w w' : World} (h : Kept S w w') (hs : ∀ i, i < w.heap.size → S i → S' i) : Kept S' w w' :=
  ⟨h.os, h.tape, h.output, h.size, fun k hk hn => h.block k hk (fun h1 => hn (hs k hk h1))⟩
theorem Kept.then {S : Nat → Prop} {a b c : World} (h : Kept S a b) (k : Kept S b c) : Kept S a c := h.trans (k.mono fun _ _ h => .inl h)
theorem Kept.alloc {S : Nat → Prop} {a w : World} (h : Kept S a w) (o : Obj) : Kept S a (w.alloc o) :=
  h.then ⟨rfl, rfl, rfl, by simp, fun k hk _ => Below.heap_alloc _ _ _ hk⟩
theorem Kept.drew {S : Nat → Prop} {a w : World} (h : Kept S a w) : Kept S a w.drew := ⟨h.os, h.tape, h.output, h.size, h.block⟩
theorem Kept.drewN {S : Nat → Prop} {a w : World} (h : Kept S a w) (n : Nat) : Kept S a (w.drewN n) := ⟨h.os, h.tape, h.output, h.size, h.block⟩
theorem Kept.setCell {S : Nat → Prop} {a w : World} (h : Kept S a w) {p : Addr} (hp : S p.block ∨ a.heap.size ≤ p.block) (u : Value) : Kept S a (w.setCell p u) :=
  h.trans ⟨rfl, rfl, rfl, by simp, fun k _ hn => Below.heap_setCell _ _ _ _ (fun e => hn (e ▸ hp))⟩
theorem Kept.grown {S : Nat → Prop} {a w w' : World} {row : Option Nat} (h : Kept S a w) (hg : w.grownBy w' row) (hr : ∀ k, row = some k → S k ∨ a.heap.size ≤ k) : Kept S a w' :=
  h.trans ⟨hg.os, hg.tape, hg.output, hg.size, fun k hk hn => hg.block k hk (fun e => hn (hr k e.symm))⟩
theorem Kept.below {w w' : World} (h : Kept (fun _ => False) w w') : Below w.heap.size w w' := ⟨h.os, h.tape, h.output, h.size, fun k hk => h.block k hk id⟩
theorem Kept.of_below {B : Nat} {S : Nat → Prop} {w w' : World} (h : Below B w w') (hb : ∀ i, B ≤ i → i < w.heap.size → S i) : Kept S w w' :=
  ⟨h.os, h.tape, h.output, h.size, fun k hk hn => h.block k (by
    rcases Nat.lt_or_ge k B with h1 | h1
    · exact h1
    · exact absurd (hb k h1 hk) hn)⟩
theorem lt_of_blk {w : World} {b : Nat} {o : Obj} (h : w.heap[b]? = some o) : b < w.heap.size := by
  rcases Nat.lt_or_ge b w.heap.size with h' | h'
  · exact h'
  · simp [Array.getElem?_eq_none h'] at h
theorem lt_of_cell {w : World} {a : Addr} {v : Value} (h : w.cell? a = some v) : a.block < w.heap.size := by
  rcases Nat.lt_or_ge a.block w.heap.size with h' | h'
  · exact h'
  · simp [World.cell?, Array.getElem?_eq_none h'] at h
theorem Kept.blk {S : Nat → Prop} {w w' : World} (h : Kept S w w') {b : Nat} {o : Obj} (hb : w.heap[b]? = some o) (hn : ¬ S b) : w'.heap[b]? = some o :=
  (h.block b (lt_of_blk hb) hn).trans hb
theorem Kept.cell {S : Nat → Prop} {w w' : World} (h : Kept S w w') {a : Addr} {v : Value} (hb : w.cell? a = some v) (hn : ¬ S a.block) : w'.cell? a = some v :=
  (World.cell?_of_block (w := w) (h.block a.block (lt_of_cell hb) hn)).trans hb

theorem ret_int {k : IntKind} {a b : Int} (h : a = b) : Ending.returned (.int k a) = .returned (.int k b) := by rw [h]
theorem ret_bool {a b : Bool} (h : a = b) : Ending.returned (.bool a) = .returned (.bool b) := by rw [h]
/-! ### a block known whole -/
theorem blk_cell {w : World} {b : Nat} {c : Array Value} {t : TypeId} {f : Nat × Nat} (h : w.heap[b]? = some (.cells c t f)) (i : Nat) : w.cell? ⟨b, i, none⟩ = c[i]? := by simp [World.cell?, h]
theorem blk_free {w : World} {b : Nat} {c : Array Value} {t : TypeId} (h : w.heap[b]? = some (.cells c t (0, 0))) (i : Nat) : w.frozen? ⟨b, i, none⟩ = false := by simp [World.frozen?, h]
theorem blk_set {w : World} {b : Nat} {c : Array Value} {t : TypeId} {f : Nat × Nat} (h : w.heap[b]? = some (.cells c t f)) (i : Nat) (v : Value) :
    (w.setCell ⟨b, i, none⟩ v).heap[b]? = some (.cells (c.setIfInBounds i v) t f) := by
  have hlt := lt_of_blk h
  have h' : w.heap[b] = .cells c t f := by simpa [Array.getElem?_eq_getElem hlt] using h
  show (w.heap.modify b _)[b]? = _
  rw [Array.getElem?_eq_getElem (by simpa using hlt), Array.getElem_modify_self, h']
  rfl
theorem blk_set_other {w : World} {b : Nat} {o : Obj} (h : w.heap[b]? = some o) {a : Addr} (hne : b ≠ a.block) (v : Value) : (w.setCell a v).heap[b]? = some o :=
  (Below.heap_setCell _ _ _ _ hne).trans h
theorem cell_set_other {w : World} {a b : Addr} {v : Value} (h : w.cell? b = some v) (hne : b.block ≠ a.block) (u : Value) : (w.setCell a u).cell? b = some v := by
  rw [World.cell?_of_block (w := w) (Below.heap_setCell _ _ _ _ hne)]; exact h
theorem blk_new (w : World) (o : Obj) : (w.alloc o).heap[w.heap.size]? = some o := by
  show (w.heap.push o)[w.heap.size]? = _
  simp
theorem blk_at (w : World) (o : Obj) {b : Nat} (h : b = w.heap.size) : (w.alloc o).heap[b]? = some o := by rw [h]; exact blk_new w o
theorem blk_alloc {w : World} {b : Nat} {o : Obj} (h : w.heap[b]? = some o) (o' : Obj) : (w.alloc o').heap[b]? = some o := (Below.heap_alloc _ _ _ (lt_of_blk h)).trans h

/-! ### a slice of numbers known by its list -/
/-- The slice at address a0 of length len holds the numbers xs, each of kind k, each a cell. -/
def SlAt (k : IntKind) (w : World) (a0 : Option Addr) (len : Nat) (xs : List Int) : Prop :=
  xs.length = len ∧ (len = 0 ∨ ∃ b off, a0 = some ⟨b, off, none⟩ ∧ ∀ j, j < len → w.cell? ⟨b, off + j, none⟩ = some (.int k (xs.getD j 0)))
theorem SlAt.kept {k : IntKind} {S : Nat → Prop} {w w' : World} {a0 : Option Addr} {len : Nat} {xs : List Int} (h : SlAt k w a0 len xs) (hk : Kept S w w')
    (hn : ∀ b off, 0 < len → a0 = some ⟨b, off, none⟩ → ¬ S b) : SlAt k w' a0 len xs := by
  obtain ⟨h1, h2⟩ := h
  refine ⟨h1, ?_⟩
  rcases h2 with h2 | ⟨b, off, rfl, hc⟩
  · exact .inl h2
  · exact .inr ⟨b, off, rfl, fun j hj => hk.cell (hc j hj) (hn b off (by omega) rfl)⟩
/-- A slice of integers as it comes in: nil, or a row of 'cap' cells, of which the first 'len' are its elements. -/
def IsRow (k : IntKind) (w : World) (a : Option Addr) (len cap : Nat) (zs : List Int) : Prop :=
  (a = none ∧ len = 0 ∧ cap = 0 ∧ zs = []) ∨
  ∃ x, a = some x ∧ len ≤ cap ∧ cap ≤ maxLen ∧ zs.length = cap ∧ (∀ i, i < zs.length → w.cell? (x.add i) = some (.int k (zs.getD i 0))) ∧ ∀ n ∈ zs, (Lit.int k n).wf = true
theorem IsRow.slAt {k : IntKind} {w : World} {a : Option Addr} {len cap : Nat} {zs : List Int} (h : IsRow k w a len cap zs) :
    SlAt k w a len (zs.take len) ∧ len ≤ cap ∧ cap ≤ 9223372036854775807 ∧ (∀ n ∈ zs.take len, (Lit.int k n).wf = true) ∧ (∀ b off, 0 < len → a = some ⟨b, off, none⟩ → b < w.heap.size) ∧ (a = none → len = 0 ∧ cap = 0) := by
  rcases h with ⟨rfl, rfl, rfl, rfl⟩ | ⟨x, rfl, hl, hm, hz, hc, hw⟩
  · exact ⟨⟨rfl, .inl rfl⟩, Nat.le_refl _, by decide, by simp, fun _ _ h => absurd h (by omega), fun _ => ⟨rfl, rfl⟩⟩
  · refine ⟨⟨by simp; omega, ?_⟩, hl, by unfold maxLen at hm; omega, fun n hn => hw n (List.mem_of_mem_take hn), ?_, fun h => by cases h⟩
    · by_cases h0 : len = 0
      · exact .inl h0
      · right
        obtain ⟨b, off, spot⟩ := x
        have h1 := hc 0 (by omega)
        have hs : spot = none := by simpa [Addr.add] using World.cell?_spot h1
        subst hs
        refine ⟨b, off, rfl, fun j hj => ?_⟩
        have h2 := hc j (by omega)
        rw [show (zs.take len).getD j 0 = zs.getD j 0 by simp [hj]]
        have e : (⟨b, off, none⟩ : Addr).add j = ⟨b, off + j, none⟩ := by unfold Addr.add; split <;> simp_all
        rw [← e]; exact h2
    · intro b off h0 hx
      cases hx
      have h1 := hc 0 (by omega)
      exact lt_of_cell h1
theorem slAt_blk {k : IntKind} {w : World} {b n : Nat} {C : Array Value} {e : TypeId} {f : Nat × Nat} {xs : List Int} (h : w.heap[b]? = some (.cells C e f)) (hC : C = (xs.map (Value.int k)).toArray) (hn : xs.length = n) :
    SlAt k w (some ⟨b, 0, none⟩) n xs := by
  refine ⟨hn, .inr ⟨b, 0, rfl, fun j hj => ?_⟩⟩
  rw [blk_cell h, hC]
  have : j < xs.length := by omega
  simp [this]
end Go.Proofs.Ytdjgmhbfohbenaa
namespace Go.Proofs.Ytdjgmhbfohbenaa
open Go.RowKit
section
variable {P : Program} {w : World}
/-- The block of a slice that an append gives: the old one, or a new one. -/
theorem app_prov {base : Nat} {t ty e : TypeId} {i : TypeInfo} {z : Value} {size bytes : Nat} (ht : P.underlying t = some (.slice e)) (hi : P.info? e = some i) (hz : i.zero = some z)
    (hsize : i.size = size) (hby : i.bytes = bytes) (hsz : 0 < size) {v : Value} {n : Nat} {xs : List Value} (hown : w.ownsRow base e size v n xs)
    {a : Addr} {m c : Nat} {news : List Value} (hl : news.length = m * size) (hnews : ∀ j u, news[j]? = some u → w.cell? (a.add j) = some u) (h1 : ∀ u ∈ news, u.oneCell' = true)
    (h63 : n + m ≤ maxLen) (hbytes : (n + m) * bytes ≤ 140737488355328) {v' : Value} {w' : World}
    (hr : (Builtin.append_ #[t, t] ty #[v, .slice (some a) m c]).run P w = .ok v' w') :
    v'.ownBlock = v.ownBlock ∨ v'.ownBlock = some w.heap.size := by
  subst hsize hby
  have hsmall : n + m ≤ 9223372036854775807 := by simp only [maxLen] at h63; omega
  rcases hown.2 with ⟨rfl, rfl⟩ | ⟨g, cap, cur, rfl, hbg, hg, hnc, hcm, hcs, htake⟩
  · by_cases hm : m = 0
    · subst hm
      have hn : news = [] := List.eq_nil_of_length_eq_zero (by simpa using hl)
      subst hn
      have h2 : (Builtin.append_ #[t, t] ty #[.slice none 0 0, .slice (some a) 0 c]).run P w = .ok (.slice none 0 0) w := by
        simp [Builtin.append_, run_underlying ht, sizeOf, typeInfo, hi, Builtin.lenOf, Builtin.firstCells, loadCells, loadCellsFrom]
      rw [h2] at hr
      cases hr
      exact .inl rfl
    · have h2 := run_append_nil (P := P) w t ty e i z ht hi hz a m c news hl hnews (by omega) (by omega) (by have hb := hbytes; simp only [Nat.zero_add] at hb; omega)
      rw [h2] at hr
      cases hr
      exact .inr rfl
  · by_cases hroom : n + m ≤ cap
    · have hfit : n * i.size + news.length ≤ cur.size := by rw [hl, hcs, ← Nat.add_mul]; exact Nat.mul_le_mul_right _ hroom
      have h2 := run_append_room (P := P) w t ty e i ht hi g n cap cur hg a m c news hl hnews h1 hroom hfit
      rw [h2] at hr
      cases hr
      exact .inl rfl
    · have holds : ∀ j u, xs[j]? = some u → w.cell? ((⟨g, 0, none⟩ : Addr).add j) = some u := hown.cells (g := g) rfl
      have hfit : Builtin.nextslicecap (n + m) cap * i.bytes ≤ 281474976710656 := by
        have h1 := nextslicecap_le (need := n + m) (old := cap) (by omega)
        calc Builtin.nextslicecap (n + m) cap * i.bytes ≤ (2 * (n + m)) * i.bytes := Nat.mul_le_mul_right _ h1
          _ = 2 * ((n + m) * i.bytes) := by rw [Nat.mul_assoc]
          _ ≤ 281474976710656 := by omega
      have h2 := run_append_grow (P := P) w t ty e i z ht hi hz ⟨g, 0, none⟩ n cap xs hown.1 holds a m c news hl hnews (by omega) (by omega) hfit
      rw [h2] at hr
      cases hr
      exact .inr rfl
/-- APPEND, from whatever source. -/
theorem wpList_app {ops : Array Oper} {rest : List Oper} {o : Oper} {a : Act} {Q : Exit → Act → World → Prop} (hgd : o.guard = none) (s x : Operand) (t : TypeId)
    (ho : o.op = .call { callee := .builtin .append, args := #[s, x], argTypes := #[t, t] })
    (e : TypeId) (i : TypeInfo) (z : Value) (size bytes : Nat) (ht : P.underlying t = some (.slice e)) (hi : P.info? e = some i) (hz : i.zero = some z)
    (hsize : i.size = size) (hby : i.bytes = bytes) (hzs : z.cells.size = size) (hsz : 0 < size)
    (v : Value) (n : Nat) (xs : List Value) (hs : a.eval s = v) (hown : w.ownsRow 0 e size v n xs)
    (ad : Option Addr) (m c : Nat) (news : List Value) (hx : a.eval x = .slice ad m c) (hnil : ad = none → m = 0 ∧ c = 0) (hl : news.length = m * size)
    (hnews : ∀ y, ad = some y → ∀ j u, news[j]? = some u → w.cell? (y.add j) = some u) (h1 : ∀ u ∈ news, u.oneCell' = true)
    (h63 : n + m ≤ maxLen) (hbytes : (n + m) * bytes ≤ 140737488355328)
    (h : ∀ v' w', w'.ownsRow 0 e size v' (n + m) (xs ++ news) → Kept (fun k => v.ownBlock = some k) w w' → (v'.ownBlock = v.ownBlock ∨ v'.ownBlock = some w.heap.size) → wpList P ops Q rest (a.put o.dst v') w') : wpList P ops Q (o :: rest) a w := by
  refine wpList_plain hgd fun K hK => ?_
  cases ad with
  | none =>
    obtain ⟨rfl, rfl⟩ := hnil rfl
    have hn : news = [] := List.eq_nil_of_length_eq_zero (by simpa using hl)
    subst hn
    have hrun := run_append_owned_none (P := P) (w := w) 0 t o.type e i size ht hi v n xs hown
    unfold Oper.wp
    simp [execOp, ho, resolve, invoke, builtin, hs, hx, hrun, Result.andThen]
    exact hK _ _ (h _ _ (by simpa using hown) (Kept.refl _ _) (.inl rfl))
  | some y =>
    obtain ⟨v', w', hrun, ho', hg, -⟩ := run_append_own (P := P) (w := w) 0 t o.type e i z size bytes ht hi hz hsize hby hzs hsz v n xs hown y m c news hl (hnews y rfl) h1 h63 hbytes (Nat.zero_le _)
    have hp := app_prov (ty := o.type) ht hi hz hsize hby hsz hown hl (hnews y rfl) h1 h63 hbytes hrun
    unfold Oper.wp
    simp [execOp, ho, resolve, invoke, builtin, hs, hx, hrun, Result.andThen]
    exact hK _ _ (h _ _ ho' ((Kept.refl _ _).grown hg (fun k hk => .inl hk)) hp)
end
/-- A slice that the call owns, of integers. -/
def Own (k : IntKind) (e : TypeId) (w : World) (v : Value) (xs : List Int) : Prop := w.ownsRow 0 e 1 v xs.length (xs.map (Value.int k))
theorem Own.shape {k : IntKind} {e : TypeId} {w : World} {v : Value} {xs : List Int} (h : Own k e w v xs) : ∃ a cap, v = .slice a xs.length cap ∧ SlAt k w a xs.length xs ∧ xs.length ≤ cap ∧ cap ≤ maxLen ∧ (a = none → xs.length = 0 ∧ cap = 0) ∧
    (∀ b off, a = some ⟨b, off, none⟩ → v.ownBlock = some b) := by
  obtain ⟨h1, h2⟩ := h
  rcases h2 with ⟨rfl, h0⟩ | ⟨g, cap, cur, rfl, -, hg, hn, hc, hcs, ht⟩
  · exact ⟨none, 0, by rw [h0], ⟨rfl, .inl h0⟩, by omega, by simp [maxLen], fun _ => ⟨h0, rfl⟩, fun _ _ h => by cases h⟩
  · refine ⟨some ⟨g, 0, none⟩, cap, rfl, ⟨rfl, .inr ⟨g, 0, rfl, fun j hj => ?_⟩⟩, hn, hc, (fun h => by cases h), (fun b off h => by cases h; rfl)⟩
    rw [blk_cell hg]
    have h3 : (cur.toList.take (xs.length * 1))[j]? = some (.int k (xs.getD j 0)) := by rw [ht]; simp [hj]
    rw [List.getElem?_take] at h3
    simp only [Nat.mul_one, hj, if_true, Array.getElem?_toList] at h3
    rw [Nat.zero_add]
    exact h3
theorem Own.kept {k : IntKind} {e : TypeId} {S : Nat → Prop} {w w' : World} {v : Value} {xs : List Int} (h : Own k e w v xs) (hk : Kept S w w') (hn : ∀ b, v.ownBlock = some b → ¬ S b) : Own k e w' v xs := by
  obtain ⟨h1, h2⟩ := h
  refine ⟨h1, ?_⟩
  rcases h2 with h2 | ⟨g, cap, cur, rfl, hb, hg, r⟩
  · exact .inl h2
  · exact .inr ⟨g, cap, cur, rfl, hb, hk.blk hg (hn g rfl), r⟩
theorem Own.nil (k : IntKind) (e : TypeId) (w : World) : Own k e w (.slice none 0 0) [] := World.ownsRow_nil w 0 e 1
theorem Own.new (k : IntKind) {e : TypeId} (w : World) : Own k e (w.alloc (.cells #[] e)) (.slice (some ⟨w.heap.size, 0, none⟩) 0 0) [] :=
  World.ownsRow_made (base := 0) w #[] 0 (Nat.zero_le _) (by simp [maxLen]) rfl
theorem one_ints (k : IntKind) (ys : List Int) : ∀ u ∈ ys.map (Value.int k), u.oneCell' = true := by
  intro u hu
  obtain ⟨y, -, rfl⟩ := List.mem_map.1 hu
  rfl
/-- APPEND of integers onto a slice of the call's own. -/
theorem wpList_appInts {P : Program} {w : World} {ops : Array Oper} {rest : List Oper} {o : Oper} {a : Act} {Q : Exit → Act → World → Prop} (hgd : o.guard = none) (s x : Operand) (t : TypeId)
    (ho : o.op = .call { callee := .builtin .append, args := #[s, x], argTypes := #[t, t] })
    (e : TypeId) (k : IntKind) (i : TypeInfo) (z : Value) (bytes : Nat) (ht : P.underlying t = some (.slice e)) (hi : P.info? e = some i) (hz : i.zero = some z)
    (hsize : i.size = 1) (hby : i.bytes = bytes) (hzs : z.cells.size = 1)
    (v : Value) (xs : List Int) (hs : a.eval s = v) (hown : Own k e w v xs)
    (ad : Option Addr) (m c : Nat) (ys : List Int) (hx : a.eval x = .slice ad m c) (hnil : ad = none → m = 0 ∧ c = 0) (hsl : SlAt k w ad m ys)
    (hbytes : (xs.length + m) * bytes ≤ 140737488355328) (h63 : xs.length + m ≤ maxLen)
    (h : ∀ v' w', Own k e w' v' (xs ++ ys) → Kept (fun k => v.ownBlock = some k) w w' → (v'.ownBlock = v.ownBlock ∨ v'.ownBlock = some w.heap.size) → wpList P ops Q rest (a.put o.dst v') w') : wpList P ops Q (o :: rest) a w := by
  refine wpList_app hgd s x t ho e i z 1 bytes ht hi hz hsize hby hzs (by omega) v xs.length _ hs hown ad m c (ys.map (Value.int k)) hx hnil (by simp [hsl.1]) ?_ (one_ints k ys) h63 hbytes fun v' w' h1 h2 h3 => h v' w' ?_ h2 h3
  · rintro y rfl j u hu
    rcases hsl with ⟨hl, h0 | ⟨b, off, hy, hc⟩⟩
    · have : ys = [] := List.eq_nil_of_length_eq_zero (by omega)
      subst this
      cases hu
    · cases hy
      simp only [List.getElem?_map, Option.map_eq_some_iff] at hu
      obtain ⟨q, hq, rfl⟩ := hu
      have hj : j < ys.length := (List.getElem?_eq_some_iff.1 hq).1
      have hc := hc j (by omega)
      have e : (⟨b, off, none⟩ : Addr).add j = ⟨b, off + j, none⟩ := by unfold Addr.add; split <;> simp_all
      rw [e, hc]
      simp [hq]
  · show World.ownsRow _ _ _ _ _ _ _
    rw [List.map_append, List.length_append, hsl.1]
    exact h1
/-- make([]T, n) of integers. -/
theorem wpList_makeInts {P : Program} {w : World} {ops : Array Oper} {rest : List Oper} {o : Oper} {a : Act} {Q : Exit → Act → World → Prop}
    (hg : o.guard = none) (l c : Operand) (t : TypeId) (hop : o.op = Op.makeSlice t l c)
    (e : TypeId) (k : IntKind) (i : TypeInfo) (bytes : Nat) (h1 : P.underlying t = some (.slice e)) (h2 : P.info? e = some i) (h3 : i.zero = some (.int k 0)) (h4 : i.size = 1) (h5 : i.bytes = bytes)
    (kl kc : IntKind) (L C : Int) (n : Nat) (hl : a.eval l = .int kl L) (hc : a.eval c = .int kc C) (hL : L = (n : Int)) (hC : C = (n : Int)) (b2 : bytes * n ≤ 281474976710656) (b3 : n ≤ maxLen)
    (hK : ∀ w', Own k e w' (.slice (some ⟨w.heap.size, 0, none⟩) n n) (List.replicate n 0) → Kept (fun _ => False) w w' → w.heap.size < w'.heap.size → wpList P ops Q rest (a.put o.dst (.slice (some ⟨w.heap.size, 0, none⟩) n n)) w') :
    wpList P ops Q (o :: rest) a w := by
  refine wpList_make_full w hg l c t hop 0 e i (.int k 0) 1 h1 h2 h3 h4 kl kc L C n hl hc hL hC (by rw [h5]; exact b2) b3 (Nat.zero_le _) fun w' ho hg' => hK w' ?_ ((Kept.refl _ _).grown hg' (fun k h => by cases h)) (ho.lt w.heap.size rfl).2
  have e1 : (madeCells (Value.int k 0).cells (n * 1)).toList = (List.replicate n (0 : Int)).map (Value.int k) := by
    rw [Nat.mul_one, List.map_replicate]; exact toList_madeCells_one _ _
  unfold Own
  rw [← e1, List.length_replicate]
  exact ho
theorem blk1 {w : World} {b : Nat} {x : Value} {t : TypeId} (h : w.heap[b]? = some (.cells #[x] t (0, 0))) : w.cell? ⟨b, 0, none⟩ = some x ∧ w.frozen? ⟨b, 0, none⟩ = false := ⟨blk_cell h 0, blk_free h 0⟩
theorem blk2 {w : World} {b : Nat} {x y : Value} {t : TypeId} (h : w.heap[b]? = some (.cells #[x, y] t (0, 0))) :
    (w.cell? ⟨b, 0, none⟩ = some x ∧ w.frozen? ⟨b, 0, none⟩ = false) ∧ (w.cell? ⟨b, 1, none⟩ = some y ∧ w.frozen? ⟨b, 1, none⟩ = false) := ⟨⟨blk_cell h 0, blk_free h 0⟩, blk_cell h 1, blk_free h 1⟩
theorem blk3 {w : World} {b : Nat} {x y z : Value} {t : TypeId} (h : w.heap[b]? = some (.cells #[x, y, z] t (0, 0))) :
    (w.cell? ⟨b, 0, none⟩ = some x ∧ w.frozen? ⟨b, 0, none⟩ = false) ∧ (w.cell? ⟨b, 1, none⟩ = some y ∧ w.frozen? ⟨b, 1, none⟩ = false) ∧ (w.cell? ⟨b, 2, none⟩ = some z ∧ w.frozen? ⟨b, 2, none⟩ = false) :=
  ⟨⟨blk_cell h 0, blk_free h 0⟩, ⟨blk_cell h 1, blk_free h 1⟩, blk_cell h 2, blk_free h 2⟩
end Go.Proofs.Ytdjgmhbfohbenaa
namespace Go.Proofs.Ytdjgmhbfohbenaa
open Go.RowKit
theorem Own.at {k : IntKind} {e : TypeId} {w : World} {g n cap : Nat} {xs : List Int} (h : Own k e w (.slice (some ⟨g, 0, none⟩) n cap) xs) :
    xs.length = n ∧ n ≤ cap ∧ g < w.heap.size ∧ (∀ j, j < n → w.cell? ⟨g, j, none⟩ = some (.int k (xs.getD j 0))) ∧ ∀ j, w.frozen? ⟨g, j, none⟩ = false := by
  have hs := h.shape
  obtain ⟨a, cap', hv, hsl, hc, -, -, -⟩ := hs
  cases hv
  obtain ⟨h1, h2⟩ := h
  rcases h2 with ⟨h3, -⟩ | ⟨g', cap'', cur, h3, -, hg, hn, -, hcs, ht⟩
  · cases h3
  · cases h3
    refine ⟨rfl, hc, lt_of_blk hg, fun j hj => ?_, fun j => blk_free hg j⟩
    obtain ⟨b, off, he, hcell⟩ := hsl.2.resolve_left (by omega)
    cases he
    simpa using hcell j hj
theorem Own.slAt {k : IntKind} {e : TypeId} {w : World} {g n cap : Nat} {xs : List Int} (h : Own k e w (.slice (some ⟨g, 0, none⟩) n cap) xs) : SlAt k w (some ⟨g, 0, none⟩) n xs := by
  obtain ⟨h1, -, -, hc, -⟩ := h.at
  exact ⟨h1, .inr ⟨g, 0, rfl, fun j hj => by rw [Nat.zero_add]; exact hc j hj⟩⟩
/-- A slice of which some places hold other numbers. -/
def spl (xs : List Int) (o : Nat) (ys : List Int) : List Int := xs.take o ++ ys ++ xs.drop (o + ys.length)
theorem spl_length {xs : List Int} {o : Nat} {ys : List Int} (h : o + ys.length ≤ xs.length) : (spl xs o ys).length = xs.length := by
  unfold spl; simp; omega
theorem spl_get {xs : List Int} {o : Nat} {ys : List Int} (h : o + ys.length ≤ xs.length) (j : Nat) : (spl xs o ys).getD j 0 = if o ≤ j ∧ j < o + ys.length then ys.getD (j - o) 0 else xs.getD j 0 := by
  unfold spl
  simp only [List.getD_eq_getElem?_getD, List.append_assoc]
  have ho : (xs.take o).length = o := by simp; omega
  by_cases h1 : j < o
  · rw [List.getElem?_append_left (by omega), if_neg (by omega), List.getElem?_take_of_lt h1]
  · rw [List.getElem?_append_right (by omega), ho]
    by_cases h2 : j < o + ys.length
    · rw [if_pos (by omega), List.getElem?_append_left (by omega)]
    · rw [if_neg (by omega), List.getElem?_append_right (by omega), List.getElem?_drop]
      congr 2; omega
theorem own_of_row {k : IntKind} {e : TypeId} {w : World} {g n cap o : Nat} {xs ys : List Int} {cur : Array Value} (hg : w.heap[g]? = some (.cells cur e (0, 0))) (hn : n ≤ cap) (hcm : cap ≤ maxLen) (hcs : cur.size = cap) (hx : xs.length = n) (ht : cur.toList.take n = xs.map (Value.int k)) (ho : o + ys.length ≤ n) :
    Own k e (w.setRow g (cur.toList.take o ++ ys.map (Value.int k) ++ cur.toList.drop (o + (ys.map (Value.int k)).length)).toArray) (.slice (some ⟨g, 0, none⟩) n cap) (spl xs o ys) ∧
      Kept (· = g) w (w.setRow g (cur.toList.take o ++ ys.map (Value.int k) ++ cur.toList.drop (o + (ys.map (Value.int k)).length)).toArray) := by
  have hl : (spl xs o ys).length = n := by rw [spl_length (by omega)]; exact hx
  have hcl : cur.toList.length = cap := by simpa using hcs
  constructor
  · refine ⟨by simp, .inr ⟨g, cap, _, by rw [hl], Nat.zero_le _, setRow_heap w g cur _ e _ hg, by omega, hcm, ?_, ?_⟩⟩
    · simp only [List.size_toArray, List.length_append, List.length_take, List.length_drop, List.length_map]
      omega
    · rw [hl, Nat.mul_one]
      simp only [List.length_map, spl, List.map_append]
      rw [List.map_take, List.map_drop, ← ht, List.take_take, Nat.min_eq_left (by omega), List.drop_take, List.take_append, List.take_of_length_le (by simp; omega)]
      congr 2
      simp; omega
  · exact ⟨rfl, rfl, rfl, by simp, fun i _ hi => setRow_other w g i _ hi⟩
/-- copy into a slice that the call owns. -/
theorem run_cp {P : Program} {w : World} {dT sT ty e : TypeId} {k : IntKind} (hu : P.underlying dT = some (.slice e)) (hsz : (P.info? e).map (·.size) = some 1)
    {g n cap o dLen dCap : Nat} {xs : List Int} (hown : Own k e w (.slice (some ⟨g, 0, none⟩) n cap) xs) {sp : Option Addr} {sLen sCap : Nat} {ys : List Int} (hs : SlAt k w sp sLen ys) {c : Nat} (hc : c = Nat.min sLen dLen) (hfit : o + c ≤ n) :
    ∃ w', (Builtin.copy_ #[dT, sT] ty #[.slice (some ⟨g, o, none⟩) dLen dCap, .slice sp sLen sCap]).run P w = .ok (.int .i64 c) w' ∧ Own k e w' (.slice (some ⟨g, 0, none⟩) n cap) (spl xs o (ys.take c)) ∧ Kept (· = g) w w' := by
  have hxl := hown.at.1
  by_cases h0 : c = 0
  · subst h0
    have hr := run_copy_none (P := P) w dT sT ty e (some ⟨g, o, none⟩) sp dLen dCap sLen sCap hu hsz hc.symm
    refine ⟨w, hr, ?_, Kept.refl _ _⟩
    have : spl xs o (ys.take 0) = xs := by simp [spl]
    rw [this]; exact hown
  · have hcs : c ≤ sLen := by rw [hc]; exact Nat.min_le_left _ _
    have hyl := hs.1
    obtain ⟨b, off, rfl, hcell⟩ := hs.2.resolve_left (by omega)
    have hy : (ys.take c).length = c := by simp; omega
    obtain ⟨h1, h2⟩ := hown
    rcases h2 with ⟨h3, -⟩ | ⟨g', cap', cur, h3, -, hg, hn, hcm, hcs', ht⟩
    · cases h3
    · cases h3
      have hw := own_of_row (ys := ys.take c) hg hn hcm (by simpa using hcs') rfl (by simpa using ht) (by rw [hy]; omega)
      have hr := run_copy_row (P := P) w dT sT ty e g o dLen dCap ⟨b, off, none⟩ sLen sCap cur e ((ys.take c).map (Value.int k)) hu hsz hg (by rw [List.length_map, hy]; exact hc) (by
          intro j u hu
          simp only [List.getElem?_map, Option.map_eq_some_iff] at hu
          obtain ⟨q, hq, rfl⟩ := hu
          have hj : j < (ys.take c).length := (List.getElem?_eq_some_iff.1 hq).1
          have hcj := hcell j (by omega)
          have e1 : (⟨b, off, none⟩ : Addr).add j = ⟨b, off + j, none⟩ := by unfold Addr.add; split <;> simp_all
          rw [e1, hcj]
          rw [List.getElem?_take_of_lt (by omega)] at hq
          simp [hq]) (by rw [List.length_map, hy]; omega) (one_ints k _)
      refine ⟨_, ?_, hw.1, hw.2⟩
      rw [hr, List.length_map, hy]
      rfl
theorem wpList_cp {P : Program} {w : World} {ops : Array Oper} {rest : List Oper} {o : Oper} {a : Act} {Q : Exit → Act → World → Prop} (hgd : o.guard = none) (d s : Operand) (dT sT : TypeId)
    (ho : o.op = .call { callee := .builtin .copy, args := #[d, s], argTypes := #[dT, sT] }) (e : TypeId) (k : IntKind) (hu : P.underlying dT = some (.slice e)) (hsz : (P.info? e).map (·.size) = some 1)
    (g n cap off dLen dCap : Nat) (xs : List Int) (hd : a.eval d = .slice (some ⟨g, off, none⟩) dLen dCap) (hown : Own k e w (.slice (some ⟨g, 0, none⟩) n cap) xs) (sp : Option Addr) (sLen sCap : Nat) (ys : List Int) (hs : a.eval s = .slice sp sLen sCap) (hsl : SlAt k w sp sLen ys) (c : Nat) (hc : c = Nat.min sLen dLen) (hfit : off + c ≤ n)
    (h : ∀ w', Own k e w' (.slice (some ⟨g, 0, none⟩) n cap) (spl xs off (ys.take c)) → Kept (· = g) w w' → wpList P ops Q rest (a.put o.dst (.int .i64 c)) w') : wpList P ops Q (o :: rest) a w := by
  refine wpList_plain hgd fun K hK => ?_
  obtain ⟨w', hrun, h1, h2⟩ := run_cp (ty := o.type) hu hsz hown (o := off) (dLen := dLen) (dCap := dCap) (sCap := sCap) hsl hc hfit
  unfold Oper.wp
  simp [execOp, ho, resolve, invoke, builtin, hd, hs, Result.andThen]
  rw [hrun]
  exact hK _ _ (h w' h1 h2)
theorem step_cp {P : Program} {w : World} {ops : Array Oper} {o : Oper} {a : Act} {K : Act → World → Prop} {Q : Exit → Act → World → Prop} {E : Prop} (hgd : o.guard = none) (d s : Operand) (dT sT : TypeId)
    (ho : o.op = .call { callee := .builtin .copy, args := #[d, s], argTypes := #[dT, sT] }) (e : TypeId) (k : IntKind) (hu : P.underlying dT = some (.slice e)) (hsz : (P.info? e).map (·.size) = some 1)
    (g n cap off dLen dCap : Nat) (xs : List Int) (hd : a.eval d = .slice (some ⟨g, off, none⟩) dLen dCap) (hown : Own k e w (.slice (some ⟨g, 0, none⟩) n cap) xs) (sp : Option Addr) (sLen sCap : Nat) (ys : List Int) (hs : a.eval s = .slice sp sLen sCap) (hsl : SlAt k w sp sLen ys) (c : Nat) (hc : c = Nat.min sLen dLen) (hfit : off + c ≤ n)
    (h : ∀ w', Own k e w' (.slice (some ⟨g, 0, none⟩) n cap) (spl xs off (ys.take c)) → Kept (· = g) w w' → K (a.put o.dst (.int .i64 c)) w') :
    if Region.wanted o (yielded ops a.tmps) = true then Oper.wp P o a w K Q else E := by
  have hw : Region.wanted o (yielded ops a.tmps) = true := by simp [Region.wanted, hgd]
  rw [if_pos hw]
  obtain ⟨w', hrun, h1, h2⟩ := run_cp (ty := o.type) hu hsz hown (o := off) (dLen := dLen) (dCap := dCap) (sCap := sCap) hsl hc hfit
  unfold Oper.wp
  simp [execOp, ho, resolve, invoke, builtin, hd, hs, Result.andThen]
  rw [hrun]
  exact h w' h1 h2
/-- A store into a slice that the call owns. -/
theorem Own.set {k : IntKind} {e : TypeId} {w : World} {g n cap : Nat} {xs : List Int} (h : Own k e w (.slice (some ⟨g, 0, none⟩) n cap) xs) {i : Nat} (hi : i < n) (v : Int) :
    Own k e (w.setCell ⟨g, i, none⟩ (.int k v)) (.slice (some ⟨g, 0, none⟩) n cap) (xs.set i v) := by
  have hxl := h.at.1
  obtain ⟨h1, h2⟩ := h
  rcases h2 with ⟨h3, -⟩ | ⟨g', cap', cur, h3, -, hg, hn, hcm, hcs, ht⟩
  · cases h3
  · cases h3
    refine ⟨by simp, .inr ⟨g, cap, cur.setIfInBounds i (.int k v), by simp, Nat.zero_le _, blk_set hg i _, by simpa using hn, hcm, by simpa using hcs, ?_⟩⟩
    rw [Array.toList_setIfInBounds, List.length_set, List.take_set, ht, List.map_set]
end Go.Proofs.Ytdjgmhbfohbenaa
namespace Go.Proofs.Ytdjgmhbfohbenaa
open Go.RowKit
/-- A list of numbers as it stands in the world when a one-element literal was laid into a block of its own. -/
theorem slAt_one {k : IntKind} (w : World) (y : Int) (e : TypeId) : SlAt k (w.alloc (.cells #[.int k y] e)) (some ⟨w.heap.size, 0, none⟩) 1 [y] := slAt_blk (blk_new w _) rfl rfl
theorem app_field {k : IntKind} {e T : TypeId} {w wa w5 : World} {p i : Nat} {C : Array Value} {v v5 : Value} {zs : List Int} {o : Option Nat} (hb : w.heap[p]? = some (.cells C T (0, 0))) (hvo : v.ownBlock = o) (hop : o ≠ some p)
    (hka : Kept (fun _ => False) w wa) (ho5 : Own k e w5 v5 zs) (hk5 : Kept (fun k => v.ownBlock = some k) wa w5) (hpr5 : v5.ownBlock = v.ownBlock ∨ v5.ownBlock = some wa.heap.size) :
    (w5.setCell ⟨p, i, none⟩ v5).heap[p]? = some (.cells (C.setIfInBounds i v5) T (0, 0)) ∧ Own k e (w5.setCell ⟨p, i, none⟩ v5) v5 zs ∧ v5.ownBlock ≠ some p ∧ Kept (fun j => j = p ∨ o = some j) w (w5.setCell ⟨p, i, none⟩ v5) ∧ (v5.ownBlock = o ∨ ∃ b, v5.ownBlock = some b ∧ w.heap.size ≤ b) := by
  have hpw : p < w.heap.size := lt_of_blk hb
  have hza := hka.size
  have hb5 : w5.heap[p]? = some (.cells C T (0, 0)) := hk5.blk (hka.blk hb id) (fun h => hop (by rw [← hvo]; exact h))
  have h5p : v5.ownBlock ≠ some p := by
    intro h
    rcases hpr5 with h2 | h2
    · exact hop (by rw [← hvo, ← h2, h])
    · rw [h] at h2; have h3 := Option.some.inj h2; omega
  have hk : Kept (fun j => j = p ∨ o = some j) w w5 := (hka.mono (fun _ _ h => h.elim)).then (hk5.mono (fun i _ hi => Or.inr (by rw [← hvo]; exact hi)))
  refine ⟨blk_set hb5 i v5, ho5.kept (S := (· = p)) ((Kept.refl (· = p) w5).setCell (p := ⟨p, i, none⟩) (.inl rfl) _) (fun b hb hbp => h5p (by rw [hb]; exact congrArg some hbp)), h5p, hk.setCell (p := ⟨p, i, none⟩) (.inl (.inl rfl)) _, ?_⟩
  rcases hpr5 with h | h
  · exact .inl (h.trans hvo)
  · exact .inr ⟨_, h, hza⟩
theorem Own.lt {k : IntKind} {e : TypeId} {w : World} {v : Value} {xs : List Int} (h : Own k e w v xs) : ∀ b, v.ownBlock = some b → b < w.heap.size := fun b hb => (World.ownsRow.lt h b hb).2
end Go.Proofs.Ytdjgmhbfohbenaa
namespace Go.Proofs.Ytdjgmhbfohbenaa
open Go.RowKit
theorem run_appInts {P : Program} {w : World} {t ty e : TypeId} {k : IntKind} {i : TypeInfo} {z : Value} {bytes : Nat} (ht : P.underlying t = some (.slice e)) (hi : P.info? e = some i) (hz : i.zero = some z)
    (hsize : i.size = 1) (hby : i.bytes = bytes) (hzs : z.cells.size = 1)
    {v : Value} {xs : List Int} (hown : Own k e w v xs) {ad : Option Addr} {m c : Nat} {ys : List Int} (hnil : ad = none → m = 0 ∧ c = 0) (hsl : SlAt k w ad m ys)
    (hbytes : (xs.length + m) * bytes ≤ 140737488355328) (h63 : xs.length + m ≤ maxLen) :
    ∃ v' w', (Builtin.append_ #[t, t] ty #[v, .slice ad m c]).run P w = .ok v' w' ∧ Own k e w' v' (xs ++ ys) ∧ Kept (fun k => v.ownBlock = some k) w w' ∧ (v'.ownBlock = v.ownBlock ∨ v'.ownBlock = some w.heap.size) := by
  cases ad with
  | none =>
    obtain ⟨rfl, rfl⟩ := hnil rfl
    have hy : ys = [] := List.eq_nil_of_length_eq_zero hsl.1
    subst hy
    exact ⟨v, w, run_append_owned_none (P := P) (w := w) 0 t ty e i 1 ht hi v xs.length _ hown, by simpa using hown, Kept.refl _ _, .inl rfl⟩
  | some y =>
    have hl : (ys.map (Value.int k)).length = m * 1 := by simp [hsl.1]
    have hnews : ∀ j u, (ys.map (Value.int k))[j]? = some u → w.cell? (y.add j) = some u := by
      intro j u hu
      rcases hsl with ⟨hl, h0 | ⟨b, off, hy, hc⟩⟩
      · have : ys = [] := List.eq_nil_of_length_eq_zero (by omega)
        subst this
        cases hu
      · cases hy
        simp only [List.getElem?_map, Option.map_eq_some_iff] at hu
        obtain ⟨q, hq, rfl⟩ := hu
        have hj : j < ys.length := (List.getElem?_eq_some_iff.1 hq).1
        have hc := hc j (by omega)
        have e : (⟨b, off, none⟩ : Addr).add j = ⟨b, off + j, none⟩ := by unfold Addr.add; split <;> simp_all
        rw [e, hc]
        simp [hq]
    obtain ⟨v', w', hrun, ho', hg, -⟩ := run_append_own (P := P) (w := w) 0 t ty e i z 1 bytes ht hi hz hsize hby hzs (by omega) v xs.length _ hown y m c _ hl hnews (one_ints k ys) h63 hbytes (Nat.zero_le _)
    have hp := app_prov (ty := ty) ht hi hz hsize hby (by omega) hown hl hnews (one_ints k ys) h63 hbytes hrun
    refine ⟨v', w', hrun, ?_, (Kept.refl _ _).grown hg (fun k hk => .inl hk), hp⟩
    show World.ownsRow _ _ _ _ _ _ _
    rw [List.map_append, List.length_append, hsl.1]
    exact ho'
theorem step_appInts {P : Program} {w : World} {ops : Array Oper} {o : Oper} {a : Act} {K : Act → World → Prop} {Q : Exit → Act → World → Prop} {E : Prop} (hgd : o.guard = none) (s x : Operand) (t : TypeId)
    (ho : o.op = .call { callee := .builtin .append, args := #[s, x], argTypes := #[t, t] })
    (e : TypeId) (k : IntKind) (i : TypeInfo) (z : Value) (bytes : Nat) (ht : P.underlying t = some (.slice e)) (hi : P.info? e = some i) (hz : i.zero = some z)
    (hsize : i.size = 1) (hby : i.bytes = bytes) (hzs : z.cells.size = 1)
    (v : Value) (xs : List Int) (hs : a.eval s = v) (hown : Own k e w v xs)
    (ad : Option Addr) (m c : Nat) (ys : List Int) (hx : a.eval x = .slice ad m c) (hnil : ad = none → m = 0 ∧ c = 0) (hsl : SlAt k w ad m ys)
    (hbytes : (xs.length + m) * bytes ≤ 140737488355328) (h63 : xs.length + m ≤ maxLen)
    (h : ∀ v' w', Own k e w' v' (xs ++ ys) → Kept (fun k => v.ownBlock = some k) w w' → (v'.ownBlock = v.ownBlock ∨ v'.ownBlock = some w.heap.size) → K (a.put o.dst v') w') :
    if Region.wanted o (yielded ops a.tmps) = true then Oper.wp P o a w K Q else E := by
  have hw : Region.wanted o (yielded ops a.tmps) = true := by simp [Region.wanted, hgd]
  rw [if_pos hw]
  obtain ⟨v', w', hrun, h1, h2, h3⟩ := run_appInts (ty := o.type) ht hi hz hsize hby hzs hown (c := c) hnil hsl hbytes h63
  unfold Oper.wp
  simp [execOp, ho, resolve, invoke, builtin, hs, hx, Result.andThen]
  rw [hrun]
  exact h v' w' h1 h2 h3
end Go.Proofs.Ytdjgmhbfohbenaa
namespace Go.Proofs.Ytdjgmhbfohbenaa
open Go.RowKit
def IsBytes (xs : List Int) : Prop := ∀ n ∈ xs, 0 ≤ n ∧ n < 256
theorem run_str {P : Program} {w : World} {src dst e : TypeId} (hs : P.underlying src = some (.slice e)) (he : P.underlying e = some (.int .u8)) (hd : P.underlying dst = some .string) {a : Option Addr} {len cap : Nat} {xs : List Int} (h : SlAt .u8 w a len xs) :
    (convert src dst (.slice a len cap)).run P w = .ok (.string (strOfNums xs)) w := by
  obtain ⟨h1, h2⟩ := h
  rcases h2 with rfl | ⟨b, off, rfl, hc⟩
  · have hx : xs = [] := List.eq_nil_of_length_eq_zero h1
    subst hx
    cases a with
    | none => exact run_convert_bytes_nil w src e hs he 0 cap dst hd
    | some a =>
      have hl : (loadCells a 0).run P w = .ok #[] w := by simpa using run_loadCells_list (P := P) w a [] (by simp)
      rw [run_convert_bytes_string w src dst e _ 0 cap hs he hd, run_bytesToString w _ 0 cap [] (by simpa using hl)]
      rfl
  · exact run_convert_bytes_arg w src e hs he b off len cap xs h1 hc dst hd
theorem str_eq {xs ys : List Int} (hx : IsBytes xs) (hy : IsBytes ys) : ((strOfNums xs).toList == (strOfNums ys).toList) = decide (xs = ys) := by
  have key : ∀ (xs : List Int), (strOfNums xs).toList = xs.map fun n => UInt8.ofNat n.toNat := by
    intro xs
    exact ByteArray.toList_mk _
  rw [key, key]
  by_cases h : xs = ys
  · subst h; simp
  · have h2 : (xs.map fun n => UInt8.ofNat n.toNat) ≠ ys.map fun n => UInt8.ofNat n.toNat := by
      intro he
      apply h
      clear h key
      induction xs generalizing ys with
      | nil => cases ys with
        | nil => rfl
        | cons y ys => simp at he
      | cons x xs ih => cases ys with
        | nil => simp at he
        | cons y ys =>
          simp only [List.map_cons, List.cons.injEq] at he
          obtain ⟨e1, e2⟩ := he
          have hx0 := hx x (by simp)
          have hy0 := hy y (by simp)
          have e3 := congrArg UInt8.toNat e1
          simp only [UInt8.toNat_ofNat'] at e3
          have : x = y := by omega
          rw [this, ih (fun n hn => hx n (by simp [hn])) (fun n hn => hy n (by simp [hn])) e2]
    simp [h, h2]
end Go.Proofs.Ytdjgmhbfohbenaa
namespace Go.Proofs.Ytdjgmhbfohbenaa
open Go.RowKit Go.ChangeShapes Go.WideShapes Go.ChangeAt Go.Joins Go.Deep
set_option linter.unusedVariables false
section
variable {H : Type} {enc : TypeId × Value → H} {P : Program} {W : World} {r : Reach} {b0 : Nat} {t e : TypeId} {v : Value} {d : DataW H} {p : List MemPlace}
theorem o_int {k : IntKind} (ht : P.underlying t = some (.int k)) (hv : Value.okWide P W r b0 t v) (h : DataW.Trod enc P W 0 (fun _ => true) true t v d p) : ∃ a, v = .int k a ∧ (Lit.int k a).wf = true := by
  obtain ⟨a, rfl, -, -, w⟩ := open_int ht hv h
  exact ⟨a, rfl, w⟩
theorem o_bool (ht : P.underlying t = some .bool) (hv : Value.okWide P W r b0 t v) (h : DataW.Trod enc P W 0 (fun _ => true) true t v d p) : ∃ a, v = .bool a ∧ True := by
  obtain ⟨a, rfl, -, -⟩ := open_bool ht hv h
  exact ⟨a, rfl, trivial⟩
theorem row_of {k : IntKind} {fuel : Nat} {cs : List Value} {x : DataW H × List MemPlace} (ht : P.underlying t = some (.slice e)) (he : P.underlying e = some (.int k)) (hC : P.cellsOf e = 1) (h : DataW.trod enc P W 0 (fun _ => true) true fuel t cs = some x) :
    ∃ a len cap zs, cs = [.slice a len cap] ∧ IsRow k W a len cap zs := by
  rcases open_ints ht he hC h with ⟨hcs, _⟩ | ⟨x, l, c, zs, hcs, _, hl, hm, hz, _, hcell, hwz⟩
  · exact ⟨none, 0, 0, [], hcs, .inl ⟨rfl, rfl, rfl, rfl⟩⟩
  · exact ⟨some x, l, c, zs, hcs, .inr ⟨x, rfl, hl, hm, by simpa using hz, hcell, hwz⟩⟩
theorem o_ints {k : IntKind} (ht : P.underlying t = some (.slice e)) (he : P.underlying e = some (.int k)) (hC : P.cellsOf e = 1) (hv : Value.okWide P W r b0 t v) (h : DataW.Trod enc P W 0 (fun _ => true) true t v d p) :
    ∃ a len cap zs, v = .slice a len cap ∧ IsRow k W a len cap zs := by
  obtain ⟨a0, len0, cap0, rfl⟩ := okWide_slice ht hv
  obtain ⟨fuel, hf⟩ := h
  obtain ⟨a, len, cap, zs, hcs, hrow⟩ := row_of ht he hC hf
  simp [Value.cells] at hcs
  obtain ⟨rfl, rfl, rfl⟩ := hcs
  exact ⟨_, _, _, zs, rfl, hrow⟩
theorem okWide_arr {n : Nat} (ht : P.underlying t = some (.array n e)) (h : Value.okWide P W r b0 t v) : ∃ cs, v = .agg cs ∧ cs.size = P.cellsOf t := by
  simp only [Value.okWide, ht] at h
  obtain ⟨cs, h1, h2, _⟩ := h
  exact ⟨cs, h1, h2⟩
/-- An array of four bytes. -/
theorem o_arr4 {k : IntKind} (ht : P.underlying t = some (.array 4 e)) (he : P.underlying e = some (.int k)) (hC : P.cellsOf t = 4) (hCe : P.cellsOf e = 1) (hv : Value.okWide P W r b0 t v) (h : DataW.Trod enc P W 0 (fun _ => true) true t v d p) :
    ∃ c0 c1 c2 c3, v = .agg #[.int k c0, .int k c1, .int k c2, .int k c3] ∧ (Lit.int k c0).wf = true ∧ (Lit.int k c1).wf = true ∧ (Lit.int k c2).wf = true ∧ (Lit.int k c3).wf = true := by
  obtain ⟨cs, rfl, hsz⟩ := okWide_arr ht hv
  obtain ⟨fuel, hf⟩ := h
  obtain ⟨xs, m, -, -, -, hxl, hx⟩ := DataW.trod_array ht hf
  obtain ⟨l⟩ := cs
  have hl : l.length = 4 := by simpa [hC] using hsz
  match l, hl with
  | [a, b, c, d], _ =>
    match xs, hxl with
    | [x0, x1, x2, x3], _ =>
      have h0 := hx 0 (by omega)
      have h1 := hx 1 (by omega)
      have h2 := hx 2 (by omega)
      have h3 := hx 3 (by omega)
      simp [hCe, Value.cells] at h0 h1 h2 h3
      obtain ⟨c0, e0, -, w0⟩ := DataW.trod_int he h0
      obtain ⟨c1, e1, -, w1⟩ := DataW.trod_int he h1
      obtain ⟨c2, e2, -, w2⟩ := DataW.trod_int he h2
      obtain ⟨c3, e3, -, w3⟩ := DataW.trod_int he h3
      simp at e0 e1 e2 e3
      subst e0 e1 e2 e3
      exact ⟨c0, c1, c2, c3, rfl, w0, w1, w2, w3⟩
/-- A struct of two integers and a slice of integers. -/
theorem o_mat {f0 f1 f2 : Field} {k k2 : IntKind} (hs : P.underlying t = some (.struct #[f0, f1, f2])) (hone : oneCellFields P #[f0, f1, f2] = true) (hC : P.cellsOf t = 3)
    (h0 : P.underlying f0.type = some (.int k)) (h1 : P.underlying f1.type = some (.int k)) (h2 : P.underlying f2.type = some (.slice e)) (he : P.underlying e = some (.int k2)) (hCe : P.cellsOf e = 1)
    (hv : Value.okWide P W r b0 t v) (h : DataW.Trod enc P W 0 (fun _ => true) true t v d p) :
    ∃ x y a len cap zs, v = .agg #[.int k x, .int k y, .slice a len cap] ∧ (Lit.int k x).wf = true ∧ (Lit.int k y).wf = true ∧ IsRow k2 W a len cap zs := by
  obtain ⟨v0, v1, v2, y0, y1, y2, n, rfl, -, -, t0, t1, t2⟩ := open_agg3 hs hone hC hv h
  obtain ⟨x, e0, -, w0⟩ := DataW.trod_int h0 t0
  obtain ⟨y, e1, -, w1⟩ := DataW.trod_int h1 t1
  obtain ⟨a, len, cap, zs, e2, hrow⟩ := row_of h2 he hCe t2
  simp at e0 e1 e2
  subst e0 e1 e2
  exact ⟨x, y, a, len, cap, zs, rfl, w0, w1, hrow⟩
end
end Go.Proofs.Ytdjgmhbfohbenaa
namespace Go.Proofs.Ytdjgmhbfohbenaa.Pl
set_option linter.unusedVariables false
/-- An attribute: two colours, flags. -/
structure Look where
  fg : Int
  bg : Int
  fl : Int
/-- A number of the machine. -/
def In (x : Int) : Prop := -9223372036854775808 ≤ x ∧ x ≤ 9223372036854775807
def Look.In (a : Look) : Prop := Pl.In a.fg ∧ Pl.In a.bg ∧ Pl.In a.fl
def orI (x y : Int) : Int := bits .or .i64 x y
def subI (x y : Int) : Int := bits .andNot .i64 x y
def flagN (n : Int) : Int := if n = 1 then 1 else if n = 2 then 2 else if n = 3 then 4 else if n = 4 then 8 else if n = 5 then 16 else if n = 7 then 32 else if n = 8 then 64 else if n = 9 then 128 else 0
/-- A parameter that is no 38, 48. -/
def one (a : Look) (n : Int) : Look :=
  if n = 0 then ⟨0, 0, 0⟩
  else if 1 ≤ n ∧ n ≤ 9 then { a with fl := orI a.fl (flagN n) }
  else if n = 22 then { a with fl := subI (subI a.fl 1) 2 }
  else if 23 ≤ n ∧ n ≤ 29 then { a with fl := subI a.fl (flagN (n - 20)) }
  else if 40 ≤ n ∧ n ≤ 47 then { a with bg := 16777216 + (n - 40) }
  else if 30 ≤ n ∧ n ≤ 37 then { a with fg := 16777216 + (n - 30) }
  else if 100 ≤ n ∧ n ≤ 107 then { a with bg := 16777224 + (n - 100) }
  else if 90 ≤ n ∧ n ≤ 97 then { a with fg := 16777224 + (n - 90) }
  else if n = 39 then { a with fg := 0 }
  else if n = 49 then { a with bg := 0 }
  else a
def byteB (v : Int) : Bool := decide (0 ≤ v ∧ v ≤ 255)
/-- What stands behind 38, 48: the colour, what is left. -/
def far (c : Int) : List Int → Int × List Int
  | 5 :: v :: l => (if byteB v = true then 16777216 + v else c, l)
  | 2 :: r :: g :: b :: l => (if byteB r = true ∧ byteB g = true ∧ byteB b = true then 33554432 + r * 65536 + g * 256 + b else c, l)
  | _ => (c, [])
theorem far_le (c : Int) (l : List Int) : (far c l).2.length ≤ l.length := by
  unfold far
  split <;> simp <;> omega
/-- One parameter, with what it takes of the others. -/
def stp (a : Look) (n : Int) (l : List Int) : Look × List Int :=
  if n = 38 then ({ a with fg := (far a.fg l).1 }, (far a.fg l).2)
  else if n = 48 then ({ a with bg := (far a.bg l).1 }, (far a.bg l).2)
  else (one a n, l)
theorem stp_le (a : Look) (n : Int) (l : List Int) : (stp a n l).2.length ≤ l.length := by
  unfold stp
  split
  · exact far_le _ _
  · split
    · exact far_le _ _
    · exact Nat.le_refl _
def ap (a : Look) (l : List Int) : Look :=
  match l with
  | [] => a
  | n :: l => ap (stp a n l).1 (stp a n l).2
termination_by l.length
decreasing_by have := stp_le a n l; simp; omega
theorem ap_nil (a : Look) : ap a [] = a := by rw [ap]
theorem ap_cons (a : Look) (n : Int) (l : List Int) : ap a (n :: l) = ap (stp a n l).1 (stp a n l).2 := by rw [ap]
/-- Parameters; none: as of 0. -/
def apply (a : Look) (l : List Int) : Look := if l = [] then ⟨0, 0, 0⟩ else ap a l
/-! ### the range of what comes out -/
theorem bits_in (op : BinOp) (x y : Int) : In (bits op .i64 x y) := by
  have hw : ∀ n, In (IntKind.i64.wrap n) := by
    intro n; rw [IntKind.wrap_i64]; unfold In; omega
  cases op <;> first | exact hw _ | (show In 0; unfold In; omega)
theorem or_in (x y : Int) : In (orI x y) := bits_in _ _ _
theorem sub_in (x y : Int) : In (subI x y) := bits_in _ _ _
theorem one_in {a : Look} (h : a.In) (n : Int) (hn : In n) : (one a n).In := by
  obtain ⟨h1, h2, h3⟩ := h
  unfold one
  split
  · exact ⟨by unfold In; simp only; omega, by unfold In; simp only; omega, by unfold In; simp only; omega⟩
  split
  · exact ⟨h1, h2, or_in _ _⟩
  split
  · exact ⟨h1, h2, sub_in _ _⟩
  split
  · exact ⟨h1, h2, sub_in _ _⟩
  split
  · exact ⟨h1, by unfold In; simp only; omega, h3⟩
  split
  · exact ⟨by unfold In; simp only; omega, h2, h3⟩
  split
  · exact ⟨h1, by unfold In; simp only; omega, h3⟩
  split
  · exact ⟨by unfold In; simp only; omega, h2, h3⟩
  split
  · exact ⟨by unfold In; simp only; omega, h2, h3⟩
  split
  · exact ⟨h1, by unfold In; simp only; omega, h3⟩
  exact ⟨h1, h2, h3⟩
theorem far_in {c : Int} (h : In c) (l : List Int) : In (far c l).1 := by
  unfold In at *
  unfold far
  split
  · simp only; split
    · rename_i h; unfold byteB at h; have := of_decide_eq_true h; omega
    · exact h
  · simp only; split
    · rename_i h; obtain ⟨a, b, c⟩ := h; unfold byteB at a b c; have := of_decide_eq_true a; have := of_decide_eq_true b; have := of_decide_eq_true c; omega
    · exact h
  · exact h
theorem stp_in {a : Look} (h : a.In) (n : Int) (hn : In n) (l : List Int) : (stp a n l).1.In := by
  unfold stp
  split
  · exact ⟨far_in h.1 _, h.2.1, h.2.2⟩
  · split
    · exact ⟨h.1, far_in h.2.1 _, h.2.2⟩
    · exact one_in h n hn
/-! ### bits -/
theorem bit_eq (op : BinOp) (x y : Int) (f : BitVec 64 → BitVec 64 → BitVec 64) (h : bits op .i64 x y = IntKind.i64.wrap ((f (BitVec.ofInt 64 x) (BitVec.ofInt 64 y)).toNat : Int)) : BitVec.ofInt 64 (bits op .i64 x y) = f (BitVec.ofInt 64 x) (BitVec.ofInt 64 y) := by
  rw [h, IntKind.wrap_i64]
  apply BitVec.eq_of_toNat_eq
  rw [BitVec.toNat_ofInt]
  have := (f (BitVec.ofInt 64 x) (BitVec.ofInt 64 y)).isLt
  omega
theorem or_bv (x y : Int) : BitVec.ofInt 64 (orI x y) = BitVec.ofInt 64 x ||| BitVec.ofInt 64 y := bit_eq .or x y (fun a b => a ||| b) rfl
theorem sub_bv (x y : Int) : BitVec.ofInt 64 (subI x y) = BitVec.ofInt 64 x &&& ~~~ BitVec.ofInt 64 y := bit_eq .andNot x y (fun a b => a &&& ~~~b) rfl
theorem bv_inj {x y : Int} (hx : In x) (hy : In y) (h : BitVec.ofInt 64 x = BitVec.ofInt 64 y) : x = y := by
  have h' := congrArg BitVec.toNat h
  rw [BitVec.toNat_ofInt, BitVec.toNat_ofInt] at h'
  unfold In at hx hy
  omega
theorem or_zero {x : Int} (h : In x) : orI x 0 = x := bv_inj (bits_in _ _ _) h (by rw [or_bv]; simp)
theorem sub_zero {x : Int} (h : In x) : subI x 0 = x := bv_inj (bits_in _ _ _) h (by rw [sub_bv]; show _ &&& BitVec.allOnes 64 = _; exact BitVec.and_allOnes)
theorem sub_three (x : Int) : subI (subI x 1) 2 = subI x 3 := bv_inj (bits_in _ _ _) (bits_in _ _ _) (by
  rw [sub_bv, sub_bv, sub_bv, BitVec.and_assoc]; rfl)
theorem sub_or (x f : Int) : subI (orI x f) f = subI x f := bv_inj (bits_in _ _ _) (bits_in _ _ _) (by
  rw [sub_bv, or_bv, sub_bv]
  apply BitVec.eq_of_getLsbD_eq
  intro i hi
  simp [hi]
  generalize (BitVec.ofInt 64 x)[i] = a
  generalize (BitVec.ofInt 64 f)[i] = b
  cases a <;> cases b <;> rfl)
/-! ### which may be -/
def colB (c : Int) : Bool := decide (c = 0 ∨ (16777216 ≤ c ∧ c < 16777472) ∨ (33554432 ≤ c ∧ c < 50331648))
def rightB (a : Look) : Bool := colB a.fg && (colB a.bg && decide (0 ≤ a.fl ∧ a.fl ≤ 255))
/-- The document's: a parameter's colour, of the foreground or not. -/
def colN (n : Int) : Int := if 30 ≤ n ∧ n ≤ 37 then n - 30 else if 40 ≤ n ∧ n ≤ 47 then n - 40 else if 90 ≤ n ∧ n ≤ 97 then n - 82 else if 100 ≤ n ∧ n ≤ 107 then n - 92 else -1
def foreB (n : Int) : Bool := decide ((30 ≤ n ∧ n ≤ 37) ∨ (90 ≤ n ∧ n ≤ 97))
/-- The document's flag of a parameter; is it set? -/
def flag2 (n : Int) : Int := if n = 22 then 3 else if n < 20 then flagN n else if n = 23 ∨ n = 24 ∨ n = 25 ∨ n = 27 ∨ n = 28 ∨ n = 29 then flagN (n - 20) else 0
def onB (n : Int) : Bool := decide (1 ≤ n ∧ n ≤ 5 ∨ 7 ≤ n ∧ n ≤ 9)
end Go.Proofs.Ytdjgmhbfohbenaa.Pl
namespace Go.Proofs.Ytdjgmhbfohbenaa
open Go.RowKit Pl
set_option linter.unusedVariables false
set_option linter.unusedSimpArgs false
set_option maxRecDepth 100000 in
set_option maxHeartbeats 1000000 in
theorem color_any (c : Int) (w : World) :
    Calls Try.prog 78 #[.int .i64 c] w fun e w' => e = .returned (.bool (colB c)) ∧ w = w' := by
  by_cases h0 : c = 0
  · subst h0
    go_enter Try.func78, Try.ntmps78
    go_wp2
    go_ret
    exact ⟨rfl, rfl⟩
  have q0 : (c == 0) = false := by simp; exact h0
  by_cases k0 : c < 0
  · go_enter Try.func78, Try.ntmps78
    go_wp2
    go_ret
    exact ⟨ret_bool (by unfold colB; first | exact (decide_eq_true (by omega)).symm | exact (decide_eq_false (by omega)).symm | exact decide_eq_decide.2 (by omega)), rfl⟩
  by_cases k1 : c < 16777216
  · go_enter Try.func78, Try.ntmps78
    go_wp2
    go_ret
    exact ⟨ret_bool (by unfold colB; first | exact (decide_eq_true (by omega)).symm | exact (decide_eq_false (by omega)).symm | exact decide_eq_decide.2 (by omega)), rfl⟩
  by_cases k2 : c < 16777472
  · go_enter Try.func78, Try.ntmps78
    go_wp2
    go_ret
    exact ⟨ret_bool (by unfold colB; first | exact (decide_eq_true (by omega)).symm | exact (decide_eq_false (by omega)).symm | exact decide_eq_decide.2 (by omega)), rfl⟩
  by_cases k3 : c < 33554432
  · go_enter Try.func78, Try.ntmps78
    go_wp2
    go_ret
    exact ⟨ret_bool (by unfold colB; first | exact (decide_eq_true (by omega)).symm | exact (decide_eq_false (by omega)).symm | exact decide_eq_decide.2 (by omega)), rfl⟩
  by_cases k4 : c < 50331648
  · go_enter Try.func78, Try.ntmps78
    go_wp2
    go_ret
    exact ⟨ret_bool (by unfold colB; first | exact (decide_eq_true (by omega)).symm | exact (decide_eq_false (by omega)).symm | exact decide_eq_decide.2 (by omega)), rfl⟩
  go_enter Try.func78, Try.ntmps78
  go_wp2
  go_ret
  exact ⟨ret_bool (by unfold colB; first | exact (decide_eq_true (by omega)).symm | exact (decide_eq_false (by omega)).symm | exact decide_eq_decide.2 (by omega)), rfl⟩
end Go.Proofs.Ytdjgmhbfohbenaa
namespace Go.Proofs.Ytdjgmhbfohbenaa
open Go.RowKit Pl
set_option linter.unusedVariables false
set_option linter.unusedSimpArgs false
/-- An attribute as a value. -/
def lookV (a : Look) : Value := .agg #[.int .i64 a.fg, .int .i64 a.bg, .int .i64 a.fl]
def cells3 (a : Look) : Array Value := #[.int .i64 a.fg, .int .i64 a.bg, .int .i64 a.fl]

end Go.Proofs.Ytdjgmhbfohbenaa
namespace Go.Proofs.Ytdjgmhbfohbenaa
open Go.RowKit 
set_option linter.unusedVariables false
set_option linter.unusedSimpArgs false
/-- One channel of a colour that is laid over another one. -/
def ov (d s a : Int) : Int := (s * a + d * (255 - a) + 127) / 255
theorem ov_bd {d s a : Int} (hd : 0 ≤ d ∧ d ≤ 255) (hs : 0 ≤ s ∧ s ≤ 255) (ha : 0 ≤ a ∧ a ≤ 255) : 0 ≤ s * a ∧ 0 ≤ d * (255 - a) ∧ s * a + d * (255 - a) ≤ 65025 ∧ 0 ≤ ov d s a ∧ ov d s a ≤ 255 := by
  have h1 : 0 ≤ s * a := Int.mul_nonneg hs.1 ha.1
  have h2 : 0 ≤ d * (255 - a) := Int.mul_nonneg hd.1 (by omega)
  have h3 : s * a ≤ 255 * a := Int.mul_le_mul_of_nonneg_right hs.2 ha.1
  have h4 : d * (255 - a) ≤ 255 * (255 - a) := Int.mul_le_mul_of_nonneg_right hd.2 (by omega)
  refine ⟨h1, h2, by omega, ?_, ?_⟩ <;> unfold ov <;> omega
def col (a b c d : Int) : Value := .agg #[.int .u8 a, .int .u8 b, .int .u8 c, .int .u8 d]
set_option maxRecDepth 100000 in
set_option maxHeartbeats 1000000 in
theorem over_any (d0 d1 d2 d3 s0 s1 s2 s3 : Int) (w : World) (hd0 : 0 ≤ d0 ∧ d0 ≤ 255) (hd1 : 0 ≤ d1 ∧ d1 ≤ 255) (hd2 : 0 ≤ d2 ∧ d2 ≤ 255) (hs0 : 0 ≤ s0 ∧ s0 ≤ 255) (hs1 : 0 ≤ s1 ∧ s1 ≤ 255) (hs2 : 0 ≤ s2 ∧ s2 ≤ 255) (hs3 : 0 ≤ s3 ∧ s3 ≤ 255) :
    Calls Try.prog 27 #[col d0 d1 d2 d3, col s0 s1 s2 s3] w fun e w' => e = .returned (col (ov d0 s0 s3) (ov d1 s1 s3) (ov d2 s2 s3) 255) ∧ Kept (fun _ => False) w w' := by
  have b0 := ov_bd hd0 hs0 hs3
  have b1 := ov_bd hd1 hs1 hs3
  have b2 := ov_bd hd2 hs2 hs3
  unfold col
  go_enter Try.func27, Try.ntmps27
  go_wp2
  refine wp_loop_rounds 4 ?_
  rw [rounds_succ]
  go_wp2
  go_region
  go_wp2
  rw [rounds_succ]
  go_wp2
  go_region
  go_wp2
  rw [rounds_succ]
  go_wp2
  go_region
  go_wp2
  rw [rounds_succ]
  go_wp2
  refine bodyPost_ret (v := col (ov d0 s0 s3) (ov d1 s1 s3) (ov d2 s2 s3) 255) (by simp [results, Try.results27, go_sem, col, ov]) rfl ⟨rfl, ?_⟩
  repeat (first | apply Kept.alloc | apply Kept.drew)
  exact Kept.refl _ _
set_option maxRecDepth 100000 in
set_option maxHeartbeats 1000000 in
theorem refOver_any (d0 d1 d2 d3 s0 s1 s2 s3 : Int) (w : World) (hd0 : 0 ≤ d0 ∧ d0 ≤ 255) (hd1 : 0 ≤ d1 ∧ d1 ≤ 255) (hd2 : 0 ≤ d2 ∧ d2 ≤ 255) (hs0 : 0 ≤ s0 ∧ s0 ≤ 255) (hs1 : 0 ≤ s1 ∧ s1 ≤ 255) (hs2 : 0 ≤ s2 ∧ s2 ≤ 255) (hs3 : 0 ≤ s3 ∧ s3 ≤ 255) :
    Calls Try.prog 77 #[col d0 d1 d2 d3, col s0 s1 s2 s3] w fun e w' => e = .returned (col (ov d0 s0 s3) (ov d1 s1 s3) (ov d2 s2 s3) 255) ∧ Kept (fun _ => False) w w' := by
  have b0 := ov_bd hd0 hs0 hs3
  have b1 := ov_bd hd1 hs1 hs3
  have b2 := ov_bd hd2 hs2 hs3
  unfold col
  go_enter Try.func77, Try.ntmps77
  go_wp2
  refine wp_loop_rounds 4 ?_
  rw [rounds_succ]
  go_wp2
  go_region
  go_wp2
  rw [rounds_succ]
  go_wp2
  go_region
  go_wp2
  rw [rounds_succ]
  go_wp2
  go_region
  go_wp2
  rw [rounds_succ]
  go_wp2
  refine bodyPost_ret (v := col (ov d0 s0 s3) (ov d1 s1 s3) (ov d2 s2 s3) 255) (by simp [results, Try.results77, go_sem, col, ov]) rfl ⟨rfl, ?_⟩
  repeat (first | apply Kept.alloc | apply Kept.drew)
  exact Kept.refl _ _
end Go.Proofs.Ytdjgmhbfohbenaa
namespace Go.Proofs.Ytdjgmhbfohbenaa
open Go.RowKit
set_option linter.unusedVariables false
/-- May a matrix have these sides? -/
def sizeB (w h : Int) : Bool := decide (w = 0 ∧ h = 0 ∨ 1 ≤ w ∧ w ≤ 16384 ∧ 1 ≤ h ∧ h ≤ 16384 ∧ w * h ≤ 67108864)
theorem sizeB_t {w h : Int} (hh : sizeB w h = true) : 0 ≤ w ∧ w ≤ 16384 ∧ 0 ≤ h ∧ h ≤ 16384 ∧ 0 ≤ w * h ∧ w * h ≤ 67108864 ∧ (w = 0 ∧ h = 0 ∨ 1 ≤ w ∧ 1 ≤ h) := by
  unfold sizeB at hh
  have h1 := of_decide_eq_true hh
  rcases h1 with ⟨rfl, rfl⟩ | h1
  · omega
  · have := Int.mul_nonneg (show 0 ≤ w by omega) (show 0 ≤ h by omega)
    omega
set_option maxRecDepth 100000 in
set_option maxHeartbeats 1000000 in
theorem size_any (w h : Int) (wd : World) (hw : -9223372036854775808 ≤ w ∧ w ≤ 9223372036854775807) (hh : -9223372036854775808 ≤ h ∧ h ≤ 9223372036854775807) :
    Calls Try.prog 65 #[.int .i64 w, .int .i64 h] wd fun e w' => e = .returned (.bool (sizeB w h)) ∧ wd = w' := by
  by_cases h1 : w = 0
  · subst h1
    by_cases h2 : h = 0
    · subst h2
      go_enter Try.func65, Try.ntmps65
      go_wp2
      go_ret
      exact ⟨ret_bool rfl, rfl⟩
    · go_enter Try.func65, Try.ntmps65
      go_wp2
      go_ret
      exact ⟨ret_bool (by unfold sizeB; rw [decide_eq_false (by omega)]; simpa using h2), rfl⟩
  · by_cases h2 : 1 ≤ w ∧ w ≤ 16384 ∧ 1 ≤ h ∧ h ≤ 16384
    · have h3 : 0 ≤ w * h := Int.mul_nonneg (by omega) (by omega)
      have h4 : w * h ≤ 16384 * h := Int.mul_le_mul_of_nonneg_right (by omega) (by omega)
      obtain ⟨a, b, c, d⟩ := h2
      have e : sizeB w h = decide (w * h ≤ 67108864) := decide_eq_decide.2 (by omega)
      rw [e]
      go_enter Try.func65, Try.ntmps65
      go_wp2
      go_ret
      exact ⟨rfl, rfl⟩
    · have e : sizeB w h = false := decide_eq_false (by omega)
      rw [e]
      by_cases ha : 1 ≤ w
      · by_cases hb : w ≤ 16384
        · by_cases hc : 1 ≤ h
          · have hd : 16384 < h := by omega
            clear h2 e
            go_enter Try.func65, Try.ntmps65
            go_wp2
            go_ret
            exact ⟨rfl, rfl⟩
          · clear h2 e
            go_enter Try.func65, Try.ntmps65
            go_wp2
            go_ret
            exact ⟨rfl, rfl⟩
        · clear h2 e
          go_enter Try.func65, Try.ntmps65
          go_wp2
          go_ret
          exact ⟨rfl, rfl⟩
      · clear h2 e
        go_enter Try.func65, Try.ntmps65
        go_wp2
        go_ret
        exact ⟨rfl, rfl⟩
set_option maxRecDepth 100000 in
set_option maxHeartbeats 1000000 in
theorem refSize_any (w h : Int) (wd : World) (hw : -9223372036854775808 ≤ w ∧ w ≤ 9223372036854775807) (hh : -9223372036854775808 ≤ h ∧ h ≤ 9223372036854775807) :
    Calls Try.prog 51 #[.int .i64 w, .int .i64 h] wd fun e w' => e = .returned (.bool (sizeB w h)) ∧ wd = w' := by
  by_cases h1 : w = 0
  · subst h1
    by_cases h2 : h = 0
    · subst h2
      go_enter Try.func51, Try.ntmps51
      go_wp2
      go_ret
      exact ⟨ret_bool rfl, rfl⟩
    · go_enter Try.func51, Try.ntmps51
      go_wp2
      go_ret
      exact ⟨ret_bool (by unfold sizeB; rw [decide_eq_false (by omega)]; simpa using h2), rfl⟩
  · by_cases h2 : 1 ≤ w ∧ w ≤ 16384 ∧ 1 ≤ h ∧ h ≤ 16384
    · have h3 : 0 ≤ w * h := Int.mul_nonneg (by omega) (by omega)
      have h4 : w * h ≤ 16384 * h := Int.mul_le_mul_of_nonneg_right (by omega) (by omega)
      obtain ⟨a, b, c, d⟩ := h2
      have e : sizeB w h = decide (w * h ≤ 67108864) := decide_eq_decide.2 (by omega)
      rw [e]
      go_enter Try.func51, Try.ntmps51
      go_wp2
      go_ret
      exact ⟨rfl, rfl⟩
    · have e : sizeB w h = false := decide_eq_false (by omega)
      rw [e]
      by_cases ha : 1 ≤ w
      · by_cases hb : w ≤ 16384
        · by_cases hc : 1 ≤ h
          · have hd : 16384 < h := by omega
            clear h2 e
            go_enter Try.func51, Try.ntmps51
            go_wp2
            go_ret
            exact ⟨rfl, rfl⟩
          · clear h2 e
            go_enter Try.func51, Try.ntmps51
            go_wp2
            go_ret
            exact ⟨rfl, rfl⟩
        · clear h2 e
          go_enter Try.func51, Try.ntmps51
          go_wp2
          go_ret
          exact ⟨rfl, rfl⟩
      · clear h2 e
        go_enter Try.func51, Try.ntmps51
        go_wp2
        go_ret
        exact ⟨rfl, rfl⟩
theorem Try.info5 : (Try.prog.info? 5).map (fun i => (i.zero, i.size, i.bytes)) = some (some (.int .u8 0), 1, 1) := by kernel_rfl
/-- A matrix as a value. -/
def mat (w h : Int) (a : Option Addr) (n cap : Nat) : Value := .agg #[.int .i64 w, .int .i64 h, .slice a n cap]
def mat0 : Value := mat 0 0 none 0 0
set_option maxRecDepth 100000 in
set_option maxHeartbeats 1000000 in
theorem new_no (w h : Int) (wd : World) (hw : -9223372036854775808 ≤ w ∧ w ≤ 9223372036854775807) (hh : -9223372036854775808 ≤ h ∧ h ≤ 9223372036854775807) (hs : sizeB w h = false) :
    Calls Try.prog 33 #[.int .i64 w, .int .i64 h] wd fun e w' => e = .returned (.tuple #[mat0, .int .i64 1]) ∧ Kept (fun _ => False) wd w' := by
  go_enter Try.func33, Try.ntmps33
  go_wp2_with (go_at_call 65; refine (size_any _ _ _ hw hh).mono ?_; rw [hs]; rintro e w' ⟨rfl, rfl⟩)
  refine bodyPost_ret (v := .tuple #[mat0, .int .i64 1]) (by simp [results, Try.results33, go_sem, mat0, mat]) rfl ⟨rfl, ?_⟩
  repeat (first | apply Kept.alloc | apply Kept.drew)
  exact Kept.refl _ _
set_option maxRecDepth 100000 in
set_option maxHeartbeats 1000000 in
theorem new_yes (w h : Int) (wd : World) (hs : sizeB w h = true) :
    Calls Try.prog 33 #[.int .i64 w, .int .i64 h] wd fun e w' => ∃ g n : Nat, (n : Int) = 4 * w * h ∧ e = .returned (.tuple #[mat w h (some ⟨g, 0, none⟩) n n, .int .i64 0]) ∧ wd.heap.size ≤ g ∧ Own .u8 5 w' (.slice (some ⟨g, 0, none⟩) n n) (List.replicate n 0) ∧ Kept (fun _ => False) wd w' := by
  obtain ⟨a1, a2, a3, a4, a5, a6, -⟩ := sizeB_t hs
  obtain ⟨i0, hi, hz0, hz1, hz2⟩ := info_parts Try.info5
  have hp : 4 * w * h = 4 * (w * h) := Int.mul_assoc ..
  obtain ⟨n, hn⟩ : ∃ n : Nat, (n : Int) = 4 * w * h := ⟨(4 * w * h).toNat, by omega⟩
  have hnb : n ≤ 268435456 := by omega
  have HN := Lib.hid hn
  have hn' : 4 * w * h = (n : Int) := hn.symm
  clear hn hp
  go_enter Try.func33, Try.ntmps33
  go_wp2_with (first
    | (go_at_call 65; refine (size_any _ _ _ (by omega) (by omega)).mono ?_; rw [hs]; rintro e w' ⟨rfl, rfl⟩)
    | (refine wpList_makeInts rfl (.tmp 16) (.tmp 16) 29 rfl 5 .u8 i0 1 Try.underlying29 hi hz0 hz1 hz2 .i64 .i64 _ _ n rfl rfl rfl rfl (by omega) (by simp [maxLen]; omega) ?_; intro w2 ho2 hk2 hs2; have hb2 := hk2.blk (blk_new wd _) id; obtain ⟨⟨c0, f0⟩, ⟨c1, f1⟩, c2, f2⟩ := blk3 hb2; have HO := Lib.hid ho2; have HB := Lib.hid hb2; clear ho2 hb2))
  have ho := HO.out
  rw [World.size_alloc] at ho hs2
  refine bodyPost_ret (v := .tuple #[mat w h (some ⟨wd.heap.size + 1, 0, none⟩) n n, .int .i64 0]) (by simp [results, Try.results33, go_sem, mat, c0, c1, c2]) rfl ⟨wd.heap.size + 1, n, HN.out, rfl, by omega, ?_, ?_⟩
  · refine ho.kept (S := fun k => k = wd.heap.size) ?_ (fun b h => by cases h; exact Nat.succ_ne_self _)
    repeat (refine Kept.setCell ?_ (Or.inl (by rfl)) _)
    exact Kept.refl _ _
  · repeat (refine Kept.setCell ?_ (Or.inr (by exact Nat.le_refl _)) _)
    exact (Kept.trans ((Kept.refl _ wd).alloc _) (hk2.mono (fun _ _ h => h.elim)))
end Go.Proofs.Ytdjgmhbfohbenaa
namespace Go.Proofs.Ytdjgmhbfohbenaa
open Go.RowKit 
set_option linter.unusedVariables false
set_option linter.unusedSimpArgs false
def Bytes (xs : List Int) : Prop := ∀ n ∈ xs, 0 ≤ n ∧ n < 256
/-! ### lists by their places -/
theorem list_ext {a b : List Int} (h : a.length = b.length) (h2 : ∀ j, j < a.length → a.getD j 0 = b.getD j 0) : a = b := by
  apply List.ext_getElem h
  intro j h3 h4
  have := h2 j h3
  simpa [h3, h4] using this
def tab (n : Nat) (f : Nat → Int) : List Int := (List.range n).map f
theorem tab_length (n : Nat) (f : Nat → Int) : (tab n f).length = n := by simp [tab]
theorem tab_get {n : Nat} {f : Nat → Int} {j : Nat} (h : j < n) : (tab n f).getD j 0 = f j := by simp [tab, h]
theorem getD_set {xs : List Int} {i : Nat} {v : Int} {j : Nat} (h : i < xs.length) : (xs.set i v).getD j 0 = if j = i then v else xs.getD j 0 := by
  simp only [List.getD_eq_getElem?_getD, List.getElem?_set]
  by_cases hj : i = j
  · subst hj; simp [h]
  · rw [if_neg hj, if_neg (fun h => hj h.symm)]
theorem getD_take {xs : List Int} {n j : Nat} (h : j < n) : (xs.take n).getD j 0 = xs.getD j 0 := by
  simp only [List.getD_eq_getElem?_getD, List.getElem?_take_of_lt h]
theorem getD_drop {xs : List Int} {n j : Nat} : (xs.drop n).getD j 0 = xs.getD (n + j) 0 := by
  simp only [List.getD_eq_getElem?_getD, List.getElem?_drop]
theorem tab_ext {n : Nat} {f g : Nat → Int} (h : ∀ j, j < n → f j = g j) : tab n f = tab n g := by
  apply list_ext (by simp [tab])
  intro j hj
  rw [tab_length] at hj
  rw [tab_get hj, tab_get hj, h j hj]
theorem tab_zero (n : Nat) : List.replicate n 0 = tab n (fun _ => 0) := by
  apply list_ext (by simp [tab])
  intro j hj
  have hj' : j < n := by simpa using hj
  rw [tab_get hj']; simp [hj']
theorem SlAt.sub {k : IntKind} {w : World} {b off len at_ n : Nat} {xs : List Int} (h : SlAt k w (some ⟨b, off, none⟩) len xs) (hn : at_ + n ≤ len) :
    SlAt k w (some ⟨b, off + at_, none⟩) n ((xs.drop at_).take n) := by
  obtain ⟨h1, h2⟩ := h
  refine ⟨by simp; omega, ?_⟩
  by_cases h0 : n = 0
  · exact .inl h0
  · obtain ⟨b', off', he, hc⟩ := h2.resolve_left (by omega)
    cases he
    refine .inr ⟨b, off + at_, rfl, fun j hj => ?_⟩
    rw [show off + at_ + j = off + (at_ + j) by omega, hc _ (by omega)]
    simp [hj]
theorem Try.size5 : (Try.prog.info? 5).map (·.size) = some 1 := by kernel_rfl
end Go.Proofs.Ytdjgmhbfohbenaa
namespace Go.Proofs.Ytdjgmhbfohbenaa
open Go.RowKit 
set_option linter.unusedVariables false
set_option linter.unusedSimpArgs false
/-- A matrix by its numbers: two sides, the bytes. -/
structure Mx where
  w : Int
  h : Int
  p : List Int
/-- The value v is, in w, the matrix m; its bytes lie in blocks from B on. -/
def IsMx (B : Nat) (w : World) (v : Value) (m : Mx) : Prop :=
  ∃ a n cap, v = mat m.w m.h a n cap ∧ SlAt .u8 w a n m.p ∧ n ≤ cap ∧ cap ≤ 9223372036854775807 ∧ (a = none → n = 0 ∧ cap = 0) ∧ ∀ b off, 0 < n → a = some ⟨b, off, none⟩ → B ≤ b
theorem isMx0 (B : Nat) (w : World) : IsMx B w mat0 ⟨0, 0, []⟩ := ⟨none, 0, 0, rfl, ⟨rfl, .inl rfl⟩, by omega, by omega, fun _ => ⟨rfl, rfl⟩, fun _ _ h => absurd h (by omega)⟩
theorem IsMx.of_own {B : Nat} {w : World} {W H : Int} {g n cap : Nat} {xs : List Int} (h : Own .u8 5 w (.slice (some ⟨g, 0, none⟩) n cap) xs) (hg : B ≤ g) : IsMx B w (mat W H (some ⟨g, 0, none⟩) n cap) ⟨W, H, xs⟩ := by
  have hc : cap ≤ 9223372036854775807 := by
    obtain ⟨a, c, hv, -, -, hm, -⟩ := h.shape
    cases hv; simpa [maxLen] using hm
  exact ⟨_, _, _, rfl, h.slAt, h.at.2.1, hc, (fun h => by cases h), (fun b off _ h => by cases h; exact hg)⟩
theorem IsMx.kept {B : Nat} {S : Nat → Prop} {w w' : World} {v : Value} {m : Mx} (h : IsMx B w v m) (hk : Kept S w w') (hn : ∀ b, B ≤ b → ¬ S b) : IsMx B w' v m := by
  obtain ⟨a, n, cap, h1, h2, h3, h4, h5, h6⟩ := h
  exact ⟨a, n, cap, h1, h2.kept hk (fun b off h0 h => hn b (h6 b off h0 h)), h3, h4, h5, h6⟩
theorem size5 {w : World} : (sizeOf 5).run Try.prog w = .ok 1 w := by kernel_rfl
theorem part5 (i : Nat) (x0 x1 x2 x3 : Value) (w : World) (hi : i < 4) : (part 5 #[x0, x1, x2, x3] i).run Try.prog w = .ok (#[x0, x1, x2, x3].getD i undef) w := by
  rcases i with _ | _ | _ | _ | i <;> first | omega | kernel_rfl
theorem eqIn4 (d t : Nat) (ht : Try.prog.underlying t = some (.array 4 5)) (a0 a1 a2 a3 b0 b1 b2 b3 : Int) (w : World) : (Op.equalIn (d + 3) t (.agg #[.int .u8 a0, .int .u8 a1, .int .u8 a2, .int .u8 a3]) (.agg #[.int .u8 b0, .int .u8 b1, .int .u8 b2, .int .u8 b3])).run Try.prog w = .ok (a0 == b0 && (a1 == b1 && (a2 == b2 && a3 == b3))) w := by
  have h5 : ∀ (n : Nat) (a b : Int) (w : World), (Op.equalIn (n + 1) 5 (.int .u8 a) (.int .u8 b)).run Try.prog w = .ok (a == b) w := fun n a b w => run_equalIn_int w n 5 .u8 .u8 a b Try.underlying5
  unfold Op.equalIn
  have hp := part5
  cases h0 : (a0 == b0) <;> cases h1 : (a1 == b1) <;> cases h2 : (a2 == b2) <;> cases h3 : (a3 == b3) <;>
  simp [run_underlying ht, List.range', hp, h5, h0, h1, h2, h3]
/-- Two colours held against one another. -/
theorem run_eqCol (t : Nat) (ht : Try.prog.underlying t = some (.array 4 5)) (a0 a1 a2 a3 b0 b1 b2 b3 : Int) (w : World) : (binOp .eql t (.agg #[.int .u8 a0, .int .u8 a1, .int .u8 a2, .int .u8 a3]) (.agg #[.int .u8 b0, .int .u8 b1, .int .u8 b2, .int .u8 b3])).run Try.prog w = .ok (.bool (a0 == b0 && (a1 == b1 && (a2 == b2 && a3 == b3)))) w := by
  rw [run_eql_struct, eqIn4 9997 t ht]; rfl
theorem run_neCol (t : Nat) (ht : Try.prog.underlying t = some (.array 4 5)) (a0 a1 a2 a3 b0 b1 b2 b3 : Int) (w : World) : (binOp .neq t (.agg #[.int .u8 a0, .int .u8 a1, .int .u8 a2, .int .u8 a3]) (.agg #[.int .u8 b0, .int .u8 b1, .int .u8 b2, .int .u8 b3])).run Try.prog w = .ok (.bool (!(a0 == b0 && (a1 == b1 && (a2 == b2 && a3 == b3))))) w := by
  rw [run_neq_struct, eqIn4 9997 t ht]; rfl
theorem int_of_wf {n : Int} (h : (Lit.int .i64 n).wf = true) : -9223372036854775808 ≤ n ∧ n ≤ 9223372036854775807 := by
  simp [Lit.wf, IntKind.min, IntKind.max, IntKind.signed, IntKind.bits] at h
  omega
theorem byte_of_wf {n : Int} (h : (Lit.int .u8 n).wf = true) : 0 ≤ n ∧ n ≤ 255 := by
  simp [Lit.wf, IntKind.min, IntKind.max, IntKind.signed, IntKind.bits] at h
  omega
theorem ov_255 (d s : Int) : ov d s 255 = s := by unfold ov; omega
theorem ov_0 (d s : Int) : ov d s 0 = d := by unfold ov; omega
/-- A block of three cells stored into, cell by cell, each world by a name. -/
theorem store3 {w : World} {p : Nat} {x' y' z' : Value} {T : TypeId} (h : w.heap[p]? = some (.cells #[x', y', z'] T (0, 0))) (x y z : Value) :
    ∃ V1 V2 V3, w.setCell ⟨p, 0, none⟩ x = V1 ∧ V1.setCell ⟨p, 1, none⟩ y = V2 ∧ V2.setCell ⟨p, 2, none⟩ z = V3 ∧ (w.cell? ⟨p, 0, none⟩ = some x' ∧ w.frozen? ⟨p, 0, none⟩ = false) ∧ (V1.cell? ⟨p, 1, none⟩ = some y' ∧ V1.frozen? ⟨p, 1, none⟩ = false) ∧
      (V2.cell? ⟨p, 2, none⟩ = some z' ∧ V2.frozen? ⟨p, 2, none⟩ = false) ∧ V3.heap[p]? = some (.cells #[x, y, z] T (0, 0)) ∧ Kept (· = p) w V3 := by
  refine ⟨_, _, _, rfl, rfl, rfl, ⟨blk_cell h 0, blk_free h 0⟩, ⟨?_, ?_⟩, ⟨?_, ?_⟩, ?_, ?_⟩
  · exact blk_cell (blk_set h 0 _) 1
  · exact blk_free (blk_set h 0 _) 1
  · exact blk_cell (blk_set (blk_set h 0 _) 1 _) 2
  · exact blk_free (blk_set (blk_set h 0 _) 1 _) 2
  · exact blk_set (blk_set (blk_set h 0 _) 1 _) 2 _
  · exact (((Kept.refl (fun i => i = p) w).setCell (p := ⟨p, 0, none⟩) (.inl rfl) x).setCell (p := ⟨p, 1, none⟩) (.inl rfl) y).setCell (p := ⟨p, 2, none⟩) (.inl rfl) z
end Go.Proofs.Ytdjgmhbfohbenaa
