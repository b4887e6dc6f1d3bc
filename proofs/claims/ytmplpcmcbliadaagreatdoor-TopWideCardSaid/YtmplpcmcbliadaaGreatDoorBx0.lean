/- Several texts in one: Base, Own, Copy, App, AppStep, Str, Open, Plain, Small, Look, Num, New, From, Known0; The plain law of characters: what bytes tell, one by one; widths; the line characters. No program in sight; The decoder of characters: what it tells of each byte, of the end; Clones of bytes, of ints. -/
import Derived.WalkKit
import Derived.WalkSpells
import Derived.Lib.Hide
import Derived.Deep.QuietTactic
import Derived.BigQuiet
import Derived.Laws.AppendOwnNone
import Derived.Laws.CopyOwn
import Derived.Deep.RegionLaw
import Derived.ProofKit
import Derived.OpenShut
import Derived.ShutString
import Derived.ChangeOld
import Derived.Lib.SmallJoins
import Derived.IntWalk
import Derived.Laws.BitsAllLaws
import Derived.Test.YtmplpcmcbliadaaGreatDoorRows
import Derived.StillTailTactics
import Derived.WalkLawsBesides
set_option linter.unusedVariables false
set_option linter.unusedSimpArgs false
namespace Go.Proofs.YtmplpcmcbliadaaGreatDoor
open Go.RowKit
structure Kept (S : Nat -> Prop) (w w' : World) : Prop where
 os : w'.os = w.os
 tape : w'.tape = w.tape
 output : w'.output = w.output
 size : w.heap.size <= w'.heap.size
 block : ∀ k, k < w.heap.size -> ¬ S k -> w'.heap[k]? = w.heap[k]?
theorem Kept.refl (S : Nat -> Prop) (w : World) : Kept S w w := ⟨rfl, rfl, rfl, Nat.le_refl _, fun _ _ _ => rfl⟩
theorem Kept.trans {S : Nat -> Prop} {a b c : World} (h : Kept S a b) (k : Kept (fun i => S i \/ a.heap.size <= i) b c) : Kept S a c :=
 ⟨k.os.trans h.os, k.tape.trans h.tape, k.output.trans h.output, Nat.le_trans h.size k.size, fun i hi hn =>
  (k.block i (Nat.lt_of_lt_of_le hi h.size) (fun h1 => h1.elim hn (fun h2 => by omega))).trans (h.block i hi hn)⟩
theorem Kept.mono {S S' : Nat -> Prop} {w w' : World} (h : Kept S w w') (hs : ∀ i, i < w.heap.size -> S i -> S' i) : Kept S' w w' :=
 ⟨h.os, h.tape, h.output, h.size, fun k hk hn => h.block k hk (fun h1 => hn (hs k hk h1))⟩
theorem Kept.then {S : Nat -> Prop} {a b c : World} (h : Kept S a b) (k : Kept S b c) : Kept S a c := h.trans (k.mono fun _ _ h => .inl h)
theorem Kept.alloc {S : Nat -> Prop} {a w : World} (h : Kept S a w) (o : Obj) : Kept S a (w.alloc o) :=
 h.then ⟨rfl, rfl, rfl, by simp, fun k hk _ => Below.heap_alloc _ _ _ hk⟩
theorem Kept.drew {S : Nat -> Prop} {a w : World} (h : Kept S a w) : Kept S a w.drew := ⟨h.os, h.tape, h.output, h.size, h.block⟩
theorem Kept.setCell {S : Nat -> Prop} {a w : World} (h : Kept S a w) {p : Addr} (hp : S p.block \/ a.heap.size <= p.block) (u : Value) : Kept S a (w.setCell p u) :=
 h.trans ⟨rfl, rfl, rfl, by simp, fun k _ hn => Below.heap_setCell _ _ _ _ (fun e => hn (e ▸ hp))⟩
theorem Kept.grown {S : Nat -> Prop} {a w w' : World} {row : Option Nat} (h : Kept S a w) (hg : w.grownBy w' row) (hr : ∀ k, row = some k -> S k \/ a.heap.size <= k) : Kept S a w' :=
 h.trans ⟨hg.os, hg.tape, hg.output, hg.size, fun k hk hn => hg.block k hk (fun e => hn (hr k e.symm))⟩
theorem Kept.below {w w' : World} (h : Kept (fun _ => False) w w') : Below w.heap.size w w' := ⟨h.os, h.tape, h.output, h.size, fun k hk => h.block k hk id⟩
theorem Kept.of_below {B : Nat} {S : Nat -> Prop} {w w' : World} (h : Below B w w') (hb : ∀ i, B <= i -> i < w.heap.size -> S i) : Kept S w w' :=
 ⟨h.os, h.tape, h.output, h.size, fun k hk hn => h.block k (by
  rcases Nat.lt_or_ge k B with h1 | h1
  ·exact h1
  ·exact absurd (hb k h1 hk) hn)⟩
theorem lt_of_blk {w : World} {b : Nat} {o : Obj} (h : w.heap[b]? = some o) : b < w.heap.size := by
 rcases Nat.lt_or_ge b w.heap.size with h' | h'
 ·exact h'
 ·simp [Array.getElem?_eq_none h'] at h
theorem lt_of_cell {w : World} {a : Addr} {v : Value} (h : w.cell? a = some v) : a.block < w.heap.size := by
 rcases Nat.lt_or_ge a.block w.heap.size with h' | h'
 ·exact h'
 ·simp [World.cell?, Array.getElem?_eq_none h'] at h
theorem Kept.blk {S : Nat -> Prop} {w w' : World} (h : Kept S w w') {b : Nat} {o : Obj} (hb : w.heap[b]? = some o) (hn : ¬ S b) : w'.heap[b]? = some o :=
 (h.block b (lt_of_blk hb) hn).trans hb
theorem Kept.cell {S : Nat -> Prop} {w w' : World} (h : Kept S w w') {a : Addr} {v : Value} (hb : w.cell? a = some v) (hn : ¬ S a.block) : w'.cell? a = some v :=
 (World.cell?_of_block (w := w) (h.block a.block (lt_of_cell hb) hn)).trans hb
theorem ret_bool {a b : Bool} (h : a = b) : Ending.returned (.bool a) = .returned (.bool b) := by rw [h]
/-! ### a block known whole -/
theorem blk_cell {w : World} {b : Nat} {c : Array Value} {t : TypeId} {f : Nat × Nat} (h : w.heap[b]? = some (.cells c t f)) (i : Nat) : w.cell? ⟨b, i, none⟩ = c[i]? := by simp [World.cell?, h]
theorem blk_free {w : World} {b : Nat} {c : Array Value} {t : TypeId} (h : w.heap[b]? = some (.cells c t (0, 0))) (i : Nat) : w.frozen? ⟨b, i, none⟩ = false := by simp [World.frozen?, h]
theorem blk_set {w : World} {b : Nat} {c : Array Value} {t : TypeId} {f : Nat × Nat} (h : w.heap[b]? = some (.cells c t f)) (i : Nat) (v : Value) :
  (w.setCell ⟨b, i, none⟩ v).heap[b]? = some (.cells (c.setIfInBounds i v) t f) := by
 have hlt := lt_of_blk h
 have h' : w.heap[b] = .cells c t f := by simpa [Array.getElem?_eq_getElem hlt] using h
 show (w.heap.modify b _)[b]? = _
 rw [Array.getElem?_eq_getElem (by simpa using hlt), Array.getElem_modify_self, h']
 rfl
theorem blk_set_other {w : World} {b : Nat} {o : Obj} (h : w.heap[b]? = some o) {a : Addr} (hne : b ≠ a.block) (v : Value) : (w.setCell a v).heap[b]? = some o :=
 (Below.heap_setCell _ _ _ _ hne).trans h
theorem blk_new (w : World) (o : Obj) : (w.alloc o).heap[w.heap.size]? = some o := by
 show (w.heap.push o)[w.heap.size]? = _
 simp
theorem blk_at (w : World) (o : Obj) {b : Nat} (h : b = w.heap.size) : (w.alloc o).heap[b]? = some o := by rw [h]; exact blk_new w o
theorem blk_alloc {w : World} {b : Nat} {o : Obj} (h : w.heap[b]? = some o) (o' : Obj) : (w.alloc o').heap[b]? = some o := (Below.heap_alloc _ _ _ (lt_of_blk h)).trans h
/-! ### a slice of numbers known by its list -/
def SlAt (k : IntKind) (w : World) (a0 : Option Addr) (len : Nat) (xs : List Int) : Prop :=
 xs.length = len /\ (len = 0 \/ ∃ b off, a0 = some ⟨b, off, none⟩ /\ ∀ j, j < len -> w.cell? ⟨b, off + j, none⟩ = some (.int k (xs.getD j 0)))
theorem SlAt.kept {k : IntKind} {S : Nat -> Prop} {w w' : World} {a0 : Option Addr} {len : Nat} {xs : List Int} (h : SlAt k w a0 len xs) (hk : Kept S w w')
  (hn : ∀ b off, 0 < len -> a0 = some ⟨b, off, none⟩ -> ¬ S b) : SlAt k w' a0 len xs := by
 obtain ⟨h1, h2⟩ := h
 refine ⟨h1, ?_⟩
 rcases h2 with h2 | ⟨b, off, rfl, hc⟩
 ·exact .inl h2
 ·exact .inr ⟨b, off, rfl, fun j hj => hk.cell (hc j hj) (hn b off (by omega) rfl)⟩
def IsRow (k : IntKind) (w : World) (a : Option Addr) (len cap : Nat) (zs : List Int) : Prop :=
 (a = none /\ len = 0 /\ cap = 0 /\ zs = []) \/
 ∃ x, a = some x /\ len <= cap /\ cap <= maxLen /\ zs.length = cap /\ (∀ i, i < zs.length -> w.cell? (x.add i) = some (.int k (zs.getD i 0))) /\ ∀ n ∈ zs, (Lit.int k n).wf = true
theorem IsRow.slAt {k : IntKind} {w : World} {a : Option Addr} {len cap : Nat} {zs : List Int} (h : IsRow k w a len cap zs) :
  SlAt k w a len (zs.take len) /\ len <= cap /\ cap <= 9223372036854775807 /\ (∀ n ∈ zs.take len, (Lit.int k n).wf = true) /\ (∀ b off, 0 < len -> a = some ⟨b, off, none⟩ -> b < w.heap.size) /\ (a = none -> len = 0 /\ cap = 0) := by
 rcases h with ⟨rfl, rfl, rfl, rfl⟩ | ⟨x, rfl, hl, hm, hz, hc, hw⟩
 ·exact ⟨⟨rfl, .inl rfl⟩, Nat.le_refl _, by decide, by simp, fun _ _ h => absurd h (by omega), fun _ => ⟨rfl, rfl⟩⟩
 ·refine ⟨⟨by simp; omega, ?_⟩, hl, by unfold maxLen at hm; omega, fun n hn => hw n (List.mem_of_mem_take hn), ?_, fun h => by cases h⟩
  ·by_cases h0 : len = 0
   ·exact .inl h0
   ·right
    obtain ⟨b, off, spot⟩ := x
    have h1 := hc 0 (by omega)
    have hs : spot = none := by simpa [Addr.add] using World.cell?_spot h1
    subst hs
    refine ⟨b, off, rfl, fun j hj => ?_⟩
    have h2 := hc j (by omega)
    rw [show (zs.take len).getD j 0 = zs.getD j 0 by simp [hj]]
    have e : (⟨b, off, none⟩ : Addr).add j = ⟨b, off + j, none⟩ := by unfold Addr.add; split <;> simp_all
    rw [<- e]; exact h2
  ·intro b off h0 hx
   cases hx
   have h1 := hc 0 (by omega)
   exact lt_of_cell h1
theorem slAt_blk {k : IntKind} {w : World} {b n : Nat} {C : Array Value} {e : TypeId} {f : Nat × Nat} {xs : List Int} (h : w.heap[b]? = some (.cells C e f)) (hC : C = (xs.map (Value.int k)).toArray) (hn : xs.length = n) :
  SlAt k w (some ⟨b, 0, none⟩) n xs := by
 refine ⟨hn, .inr ⟨b, 0, rfl, fun j hj => ?_⟩⟩
 rw [blk_cell h, hC]
 have : j < xs.length := by omega
 simp [this]
section
variable {P : Program} {w : World}
theorem app_prov {base : Nat} {t ty e : TypeId} {i : TypeInfo} {z : Value} {size bytes : Nat} (ht : P.underlying t = some (.slice e)) (hi : P.info? e = some i) (hz : i.zero = some z)
  (hsize : i.size = size) (hby : i.bytes = bytes) (hsz : 0 < size) {v : Value} {n : Nat} {xs : List Value} (hown : w.ownsRow base e size v n xs)
  {a : Addr} {m c : Nat} {news : List Value} (hl : news.length = m * size) (hnews : ∀ j u, news[j]? = some u -> w.cell? (a.add j) = some u) (h1 : ∀ u ∈ news, u.oneCell' = true)
  (h63 : n + m <= maxLen) (hbytes : (n + m) * bytes <= 140737488355328) {v' : Value} {w' : World}
  (hr : (Builtin.append_ #[t, t] ty #[v, .slice (some a) m c]).run P w = .ok v' w') :
  v'.ownBlock = v.ownBlock \/ v'.ownBlock = some w.heap.size := by
 subst hsize hby
 have hsmall : n + m <= 9223372036854775807 := by simp only [maxLen] at h63; omega
 rcases hown.2 with ⟨rfl, rfl⟩ | ⟨g, cap, cur, rfl, hbg, hg, hnc, hcm, hcs, htake⟩
 ·by_cases hm : m = 0
  ·subst hm
   have hn : news = [] := List.eq_nil_of_length_eq_zero (by simpa using hl)
   subst hn
   have h2 : (Builtin.append_ #[t, t] ty #[.slice none 0 0, .slice (some a) 0 c]).run P w = .ok (.slice none 0 0) w := by
    simp [Builtin.append_, run_underlying ht, sizeOf, typeInfo, hi, Builtin.lenOf, Builtin.firstCells, loadCells, loadCellsFrom]
   rw [h2] at hr
   cases hr
   exact .inl rfl
  ·have h2 := run_append_nil (P := P) w t ty e i z ht hi hz a m c news hl hnews (by omega) (by omega) (by have hb := hbytes; simp only [Nat.zero_add] at hb; omega)
   rw [h2] at hr
   cases hr
   exact .inr rfl
 ·by_cases hroom : n + m <= cap
  ·have hfit : n * i.size + news.length <= cur.size := by rw [hl, hcs, <- Nat.add_mul]; exact Nat.mul_le_mul_right _ hroom
   have h2 := run_append_room (P := P) w t ty e i ht hi g n cap cur hg a m c news hl hnews h1 hroom hfit
   rw [h2] at hr
   cases hr
   exact .inl rfl
  ·have holds : ∀ j u, xs[j]? = some u -> w.cell? ((⟨g, 0, none⟩ : Addr).add j) = some u := hown.cells (g := g) rfl
   have hfit : Builtin.nextslicecap (n + m) cap * i.bytes <= 281474976710656 := by
    have h1 := nextslicecap_le (need := n + m) (old := cap) (by omega)
    calc Builtin.nextslicecap (n + m) cap * i.bytes <= (2 * (n + m)) * i.bytes := Nat.mul_le_mul_right _ h1
     _ = 2 * ((n + m) * i.bytes) := by rw [Nat.mul_assoc]
     _ <= 281474976710656 := by omega
   have h2 := run_append_grow (P := P) w t ty e i z ht hi hz ⟨g, 0, none⟩ n cap xs hown.1 holds a m c news hl hnews (by omega) (by omega) hfit
   rw [h2] at hr
   cases hr
   exact .inr rfl
theorem wpList_app {ops : Array Oper} {rest : List Oper} {o : Oper} {a : Act} {Q : Exit -> Act -> World -> Prop} (hgd : o.guard = none) (s x : Operand) (t : TypeId)
  (ho : o.op = .call { callee := .builtin .append, args := #[s, x], argTypes := #[t, t] })
  (e : TypeId) (i : TypeInfo) (z : Value) (size bytes : Nat) (ht : P.underlying t = some (.slice e)) (hi : P.info? e = some i) (hz : i.zero = some z)
  (hsize : i.size = size) (hby : i.bytes = bytes) (hzs : z.cells.size = size) (hsz : 0 < size)
  (v : Value) (n : Nat) (xs : List Value) (hs : a.eval s = v) (hown : w.ownsRow 0 e size v n xs)
  (ad : Option Addr) (m c : Nat) (news : List Value) (hx : a.eval x = .slice ad m c) (hnil : ad = none -> m = 0 /\ c = 0) (hl : news.length = m * size)
  (hnews : ∀ y, ad = some y -> ∀ j u, news[j]? = some u -> w.cell? (y.add j) = some u) (h1 : ∀ u ∈ news, u.oneCell' = true)
  (h63 : n + m <= maxLen) (hbytes : (n + m) * bytes <= 140737488355328)
  (h : ∀ v' w', w'.ownsRow 0 e size v' (n + m) (xs ++ news) -> Kept (fun k => v.ownBlock = some k) w w' -> (v'.ownBlock = v.ownBlock \/ v'.ownBlock = some w.heap.size) -> wpList P ops Q rest (a.put o.dst v') w') : wpList P ops Q (o :: rest) a w := by
 refine wpList_plain hgd fun K hK => ?_
 cases ad with
 | none =>
  obtain ⟨rfl, rfl⟩ := hnil rfl
  have hn : news = [] := List.eq_nil_of_length_eq_zero (by simpa using hl)
  subst hn
  have hrun := run_append_owned_none (P := P) (w := w) 0 t o.type e i size ht hi v n xs hown
  unfold Oper.wp
  simp [execOp, ho, resolve, invoke, builtin, hs, hx, hrun, Result.andThen]
  exact hK _ _ (h _ _ (by simpa using hown) (Kept.refl _ _) (.inl rfl))
 | some y =>
  obtain ⟨v', w', hrun, ho', hg, -⟩ := run_append_own (P := P) (w := w) 0 t o.type e i z size bytes ht hi hz hsize hby hzs hsz v n xs hown y m c news hl (hnews y rfl) h1 h63 hbytes (Nat.zero_le _)
  have hp := app_prov (ty := o.type) ht hi hz hsize hby hsz hown hl (hnews y rfl) h1 h63 hbytes hrun
  unfold Oper.wp
  simp [execOp, ho, resolve, invoke, builtin, hs, hx, hrun, Result.andThen]
  exact hK _ _ (h _ _ ho' ((Kept.refl _ _).grown hg (fun k hk => .inl hk)) hp)
end
def Own (k : IntKind) (e : TypeId) (w : World) (v : Value) (xs : List Int) : Prop := w.ownsRow 0 e 1 v xs.length (xs.map (Value.int k))
theorem Own.shape {k : IntKind} {e : TypeId} {w : World} {v : Value} {xs : List Int} (h : Own k e w v xs) : ∃ a cap, v = .slice a xs.length cap /\ SlAt k w a xs.length xs /\ xs.length <= cap /\ cap <= maxLen /\ (a = none -> xs.length = 0 /\ cap = 0) /\
  (∀ b off, a = some ⟨b, off, none⟩ -> v.ownBlock = some b) := by
 obtain ⟨h1, h2⟩ := h
 rcases h2 with ⟨rfl, h0⟩ | ⟨g, cap, cur, rfl, -, hg, hn, hc, hcs, ht⟩
 ·exact ⟨none, 0, by rw [h0], ⟨rfl, .inl h0⟩, by omega, by simp [maxLen], fun _ => ⟨h0, rfl⟩, fun _ _ h => by cases h⟩
 ·refine ⟨some ⟨g, 0, none⟩, cap, rfl, ⟨rfl, .inr ⟨g, 0, rfl, fun j hj => ?_⟩⟩, hn, hc, (fun h => by cases h), (fun b off h => by cases h; rfl)⟩
  rw [blk_cell hg]
  have h3 : (cur.toList.take (xs.length * 1))[j]? = some (.int k (xs.getD j 0)) := by rw [ht]; simp [hj]
  rw [List.getElem?_take] at h3
  simp only [Nat.mul_one, hj, if_true, Array.getElem?_toList] at h3
  rw [Nat.zero_add]
  exact h3
theorem Own.kept {k : IntKind} {e : TypeId} {S : Nat -> Prop} {w w' : World} {v : Value} {xs : List Int} (h : Own k e w v xs) (hk : Kept S w w') (hn : ∀ b, v.ownBlock = some b -> ¬ S b) : Own k e w' v xs := by
 obtain ⟨h1, h2⟩ := h
 refine ⟨h1, ?_⟩
 rcases h2 with h2 | ⟨g, cap, cur, rfl, hb, hg, r⟩
 ·exact .inl h2
 ·exact .inr ⟨g, cap, cur, rfl, hb, hk.blk hg (hn g rfl), r⟩
theorem Own.nil (k : IntKind) (e : TypeId) (w : World) : Own k e w (.slice none 0 0) [] := World.ownsRow_nil w 0 e 1
theorem Own.new (k : IntKind) {e : TypeId} (w : World) : Own k e (w.alloc (.cells #[] e)) (.slice (some ⟨w.heap.size, 0, none⟩) 0 0) [] :=
 World.ownsRow_made (base := 0) w #[] 0 (Nat.zero_le _) (by simp [maxLen]) rfl
theorem one_ints (k : IntKind) (ys : List Int) : ∀ u ∈ ys.map (Value.int k), u.oneCell' = true := by
 intro u hu
 obtain ⟨y, -, rfl⟩ := List.mem_map.1 hu
 rfl
theorem wpList_appInts {P : Program} {w : World} {ops : Array Oper} {rest : List Oper} {o : Oper} {a : Act} {Q : Exit -> Act -> World -> Prop} (hgd : o.guard = none) (s x : Operand) (t : TypeId)
  (ho : o.op = .call { callee := .builtin .append, args := #[s, x], argTypes := #[t, t] })
  (e : TypeId) (k : IntKind) (i : TypeInfo) (z : Value) (bytes : Nat) (ht : P.underlying t = some (.slice e)) (hi : P.info? e = some i) (hz : i.zero = some z)
  (hsize : i.size = 1) (hby : i.bytes = bytes) (hzs : z.cells.size = 1)
  (v : Value) (xs : List Int) (hs : a.eval s = v) (hown : Own k e w v xs)
  (ad : Option Addr) (m c : Nat) (ys : List Int) (hx : a.eval x = .slice ad m c) (hnil : ad = none -> m = 0 /\ c = 0) (hsl : SlAt k w ad m ys)
  (hbytes : (xs.length + m) * bytes <= 140737488355328) (h63 : xs.length + m <= maxLen)
  (h : ∀ v' w', Own k e w' v' (xs ++ ys) -> Kept (fun k => v.ownBlock = some k) w w' -> (v'.ownBlock = v.ownBlock \/ v'.ownBlock = some w.heap.size) -> wpList P ops Q rest (a.put o.dst v') w') : wpList P ops Q (o :: rest) a w := by
 refine wpList_app hgd s x t ho e i z 1 bytes ht hi hz hsize hby hzs (by omega) v xs.length _ hs hown ad m c (ys.map (Value.int k)) hx hnil (by simp [hsl.1]) ?_ (one_ints k ys) h63 hbytes fun v' w' h1 h2 h3 => h v' w' ?_ h2 h3
 ·rintro y rfl j u hu
  rcases hsl with ⟨hl, h0 | ⟨b, off, hy, hc⟩⟩
  ·have : ys = [] := List.eq_nil_of_length_eq_zero (by omega)
   subst this
   cases hu
  ·cases hy
   simp only [List.getElem?_map, Option.map_eq_some_iff] at hu
   obtain ⟨q, hq, rfl⟩ := hu
   have hj : j < ys.length := (List.getElem?_eq_some_iff.1 hq).1
   have hc := hc j (by omega)
   have e : (⟨b, off, none⟩ : Addr).add j = ⟨b, off + j, none⟩ := by unfold Addr.add; split <;> simp_all
   rw [e, hc]
   simp [hq]
 ·show World.ownsRow _ _ _ _ _ _ _
  rw [List.map_append, List.length_append, hsl.1]
  exact h1
theorem wpList_makeInts {P : Program} {w : World} {ops : Array Oper} {rest : List Oper} {o : Oper} {a : Act} {Q : Exit -> Act -> World -> Prop}
  (hg : o.guard = none) (l c : Operand) (t : TypeId) (hop : o.op = Op.makeSlice t l c)
  (e : TypeId) (k : IntKind) (i : TypeInfo) (bytes : Nat) (h1 : P.underlying t = some (.slice e)) (h2 : P.info? e = some i) (h3 : i.zero = some (.int k 0)) (h4 : i.size = 1) (h5 : i.bytes = bytes)
  (kl kc : IntKind) (L C : Int) (n : Nat) (hl : a.eval l = .int kl L) (hc : a.eval c = .int kc C) (hL : L = (n : Int)) (hC : C = (n : Int)) (b2 : bytes * n <= 281474976710656) (b3 : n <= maxLen)
  (hK : ∀ w', Own k e w' (.slice (some ⟨w.heap.size, 0, none⟩) n n) (List.replicate n 0) -> Kept (fun _ => False) w w' -> w.heap.size < w'.heap.size -> wpList P ops Q rest (a.put o.dst (.slice (some ⟨w.heap.size, 0, none⟩) n n)) w') :
  wpList P ops Q (o :: rest) a w := by
 refine wpList_make_full w hg l c t hop 0 e i (.int k 0) 1 h1 h2 h3 h4 kl kc L C n hl hc hL hC (by rw [h5]; exact b2) b3 (Nat.zero_le _) fun w' ho hg' => hK w' ?_ ((Kept.refl _ _).grown hg' (fun k h => by cases h)) (ho.lt w.heap.size rfl).2
 have e1 : (madeCells (Value.int k 0).cells (n * 1)).toList = (List.replicate n (0 : Int)).map (Value.int k) := by
  rw [Nat.mul_one, List.map_replicate]; exact toList_madeCells_one _ _
 unfold Own
 rw [<- e1, List.length_replicate]
 exact ho
theorem blk1 {w : World} {b : Nat} {x : Value} {t : TypeId} (h : w.heap[b]? = some (.cells #[x] t (0, 0))) : w.cell? ⟨b, 0, none⟩ = some x /\ w.frozen? ⟨b, 0, none⟩ = false := ⟨blk_cell h 0, blk_free h 0⟩
theorem blk2 {w : World} {b : Nat} {x y : Value} {t : TypeId} (h : w.heap[b]? = some (.cells #[x, y] t (0, 0))) :
  (w.cell? ⟨b, 0, none⟩ = some x /\ w.frozen? ⟨b, 0, none⟩ = false) /\ (w.cell? ⟨b, 1, none⟩ = some y /\ w.frozen? ⟨b, 1, none⟩ = false) := ⟨⟨blk_cell h 0, blk_free h 0⟩, blk_cell h 1, blk_free h 1⟩
theorem blk3 {w : World} {b : Nat} {x y z : Value} {t : TypeId} (h : w.heap[b]? = some (.cells #[x, y, z] t (0, 0))) :
  (w.cell? ⟨b, 0, none⟩ = some x /\ w.frozen? ⟨b, 0, none⟩ = false) /\ (w.cell? ⟨b, 1, none⟩ = some y /\ w.frozen? ⟨b, 1, none⟩ = false) /\ (w.cell? ⟨b, 2, none⟩ = some z /\ w.frozen? ⟨b, 2, none⟩ = false) :=
 ⟨⟨blk_cell h 0, blk_free h 0⟩, ⟨blk_cell h 1, blk_free h 1⟩, blk_cell h 2, blk_free h 2⟩
end Go.Proofs.YtmplpcmcbliadaaGreatDoor
namespace Go.Proofs.YtmplpcmcbliadaaGreatDoor
open Go.RowKit
theorem Own.at {k : IntKind} {e : TypeId} {w : World} {g n cap : Nat} {xs : List Int} (h : Own k e w (.slice (some ⟨g, 0, none⟩) n cap) xs) :
  xs.length = n /\ n <= cap /\ g < w.heap.size /\ (∀ j, j < n -> w.cell? ⟨g, j, none⟩ = some (.int k (xs.getD j 0))) /\ ∀ j, w.frozen? ⟨g, j, none⟩ = false := by
 have hs := h.shape
 obtain ⟨a, cap', hv, hsl, hc, -, -, -⟩ := hs
 cases hv
 obtain ⟨h1, h2⟩ := h
 rcases h2 with ⟨h3, -⟩ | ⟨g', cap'', cur, h3, -, hg, hn, -, hcs, ht⟩
 ·cases h3
 ·cases h3
  refine ⟨rfl, hc, lt_of_blk hg, fun j hj => ?_, fun j => blk_free hg j⟩
  obtain ⟨b, off, he, hcell⟩ := hsl.2.resolve_left (by omega)
  cases he
  simpa using hcell j hj
theorem Own.slAt {k : IntKind} {e : TypeId} {w : World} {g n cap : Nat} {xs : List Int} (h : Own k e w (.slice (some ⟨g, 0, none⟩) n cap) xs) : SlAt k w (some ⟨g, 0, none⟩) n xs := by
 obtain ⟨h1, -, -, hc, -⟩ := h.at
 exact ⟨h1, .inr ⟨g, 0, rfl, fun j hj => by rw [Nat.zero_add]; exact hc j hj⟩⟩
def spl (xs : List Int) (o : Nat) (ys : List Int) : List Int := xs.take o ++ ys ++ xs.drop (o + ys.length)
theorem spl_length {xs : List Int} {o : Nat} {ys : List Int} (h : o + ys.length <= xs.length) : (spl xs o ys).length = xs.length := by
 unfold spl; simp; omega
theorem spl_get {xs : List Int} {o : Nat} {ys : List Int} (h : o + ys.length <= xs.length) (j : Nat) : (spl xs o ys).getD j 0 = if o <= j /\ j < o + ys.length then ys.getD (j - o) 0 else xs.getD j 0 := by
 unfold spl
 simp only [List.getD_eq_getElem?_getD, List.append_assoc]
 have ho : (xs.take o).length = o := by simp; omega
 by_cases h1 : j < o
 ·rw [List.getElem?_append_left (by omega), if_neg (by omega), List.getElem?_take_of_lt h1]
 ·rw [List.getElem?_append_right (by omega), ho]
  by_cases h2 : j < o + ys.length
  ·rw [if_pos (by omega), List.getElem?_append_left (by omega)]
  ·rw [if_neg (by omega), List.getElem?_append_right (by omega), List.getElem?_drop]
   congr 2; omega
theorem own_of_row {k : IntKind} {e : TypeId} {w : World} {g n cap o : Nat} {xs ys : List Int} {cur : Array Value} (hg : w.heap[g]? = some (.cells cur e (0, 0))) (hn : n <= cap) (hcm : cap <= maxLen) (hcs : cur.size = cap) (hx : xs.length = n) (ht : cur.toList.take n = xs.map (Value.int k)) (ho : o + ys.length <= n) :
  Own k e (w.setRow g (cur.toList.take o ++ ys.map (Value.int k) ++ cur.toList.drop (o + (ys.map (Value.int k)).length)).toArray) (.slice (some ⟨g, 0, none⟩) n cap) (spl xs o ys) /\
   Kept (· = g) w (w.setRow g (cur.toList.take o ++ ys.map (Value.int k) ++ cur.toList.drop (o + (ys.map (Value.int k)).length)).toArray) := by
 have hl : (spl xs o ys).length = n := by rw [spl_length (by omega)]; exact hx
 have hcl : cur.toList.length = cap := by simpa using hcs
 constructor
 ·refine ⟨by simp, .inr ⟨g, cap, _, by rw [hl], Nat.zero_le _, setRow_heap w g cur _ e _ hg, by omega, hcm, ?_, ?_⟩⟩
  ·simp only [List.size_toArray, List.length_append, List.length_take, List.length_drop, List.length_map]
   omega
  ·rw [hl, Nat.mul_one]
   simp only [List.length_map, spl, List.map_append]
   rw [List.map_take, List.map_drop, <- ht, List.take_take, Nat.min_eq_left (by omega), List.drop_take, List.take_append, List.take_of_length_le (by simp; omega)]
   congr 2
   simp; omega
 ·exact ⟨rfl, rfl, rfl, by simp, fun i _ hi => setRow_other w g i _ hi⟩
theorem run_cp {P : Program} {w : World} {dT sT ty e : TypeId} {k : IntKind} (hu : P.underlying dT = some (.slice e)) (hsz : (P.info? e).map (·.size) = some 1)
  {g n cap o dLen dCap : Nat} {xs : List Int} (hown : Own k e w (.slice (some ⟨g, 0, none⟩) n cap) xs) {sp : Option Addr} {sLen sCap : Nat} {ys : List Int} (hs : SlAt k w sp sLen ys) {c : Nat} (hc : c = Nat.min sLen dLen) (hfit : o + c <= n) :
  ∃ w', (Builtin.copy_ #[dT, sT] ty #[.slice (some ⟨g, o, none⟩) dLen dCap, .slice sp sLen sCap]).run P w = .ok (.int .i64 c) w' /\ Own k e w' (.slice (some ⟨g, 0, none⟩) n cap) (spl xs o (ys.take c)) /\ Kept (· = g) w w' := by
 have hxl := hown.at.1
 by_cases h0 : c = 0
 ·subst h0
  have hr := run_copy_none (P := P) w dT sT ty e (some ⟨g, o, none⟩) sp dLen dCap sLen sCap hu hsz hc.symm
  refine ⟨w, hr, ?_, Kept.refl _ _⟩
  have : spl xs o (ys.take 0) = xs := by simp [spl]
  rw [this]; exact hown
 ·have hcs : c <= sLen := by rw [hc]; exact Nat.min_le_left _ _
  have hyl := hs.1
  obtain ⟨b, off, rfl, hcell⟩ := hs.2.resolve_left (by omega)
  have hy : (ys.take c).length = c := by simp; omega
  obtain ⟨h1, h2⟩ := hown
  rcases h2 with ⟨h3, -⟩ | ⟨g', cap', cur, h3, -, hg, hn, hcm, hcs', ht⟩
  ·cases h3
  ·cases h3
   have hw := own_of_row (ys := ys.take c) hg hn hcm (by simpa using hcs') rfl (by simpa using ht) (by rw [hy]; omega)
   have hr := run_copy_row (P := P) w dT sT ty e g o dLen dCap ⟨b, off, none⟩ sLen sCap cur e ((ys.take c).map (Value.int k)) hu hsz hg (by rw [List.length_map, hy]; exact hc) (by
     intro j u hu
     simp only [List.getElem?_map, Option.map_eq_some_iff] at hu
     obtain ⟨q, hq, rfl⟩ := hu
     have hj : j < (ys.take c).length := (List.getElem?_eq_some_iff.1 hq).1
     have hcj := hcell j (by omega)
     have e1 : (⟨b, off, none⟩ : Addr).add j = ⟨b, off + j, none⟩ := by unfold Addr.add; split <;> simp_all
     rw [e1, hcj]
     rw [List.getElem?_take_of_lt (by omega)] at hq
     simp [hq]) (by rw [List.length_map, hy]; omega) (one_ints k _)
   refine ⟨_, ?_, hw.1, hw.2⟩
   rw [hr, List.length_map, hy]
   rfl
theorem wpList_cp {P : Program} {w : World} {ops : Array Oper} {rest : List Oper} {o : Oper} {a : Act} {Q : Exit -> Act -> World -> Prop} (hgd : o.guard = none) (d s : Operand) (dT sT : TypeId)
  (ho : o.op = .call { callee := .builtin .copy, args := #[d, s], argTypes := #[dT, sT] }) (e : TypeId) (k : IntKind) (hu : P.underlying dT = some (.slice e)) (hsz : (P.info? e).map (·.size) = some 1)
  (g n cap off dLen dCap : Nat) (xs : List Int) (hd : a.eval d = .slice (some ⟨g, off, none⟩) dLen dCap) (hown : Own k e w (.slice (some ⟨g, 0, none⟩) n cap) xs) (sp : Option Addr) (sLen sCap : Nat) (ys : List Int) (hs : a.eval s = .slice sp sLen sCap) (hsl : SlAt k w sp sLen ys) (c : Nat) (hc : c = Nat.min sLen dLen) (hfit : off + c <= n)
  (h : ∀ w', Own k e w' (.slice (some ⟨g, 0, none⟩) n cap) (spl xs off (ys.take c)) -> Kept (· = g) w w' -> wpList P ops Q rest (a.put o.dst (.int .i64 c)) w') : wpList P ops Q (o :: rest) a w := by
 refine wpList_plain hgd fun K hK => ?_
 obtain ⟨w', hrun, h1, h2⟩ := run_cp (ty := o.type) hu hsz hown (o := off) (dLen := dLen) (dCap := dCap) (sCap := sCap) hsl hc hfit
 unfold Oper.wp
 simp [execOp, ho, resolve, invoke, builtin, hd, hs, Result.andThen]
 rw [hrun]
 exact hK _ _ (h w' h1 h2)
theorem Own.set {k : IntKind} {e : TypeId} {w : World} {g n cap : Nat} {xs : List Int} (h : Own k e w (.slice (some ⟨g, 0, none⟩) n cap) xs) {i : Nat} (hi : i < n) (v : Int) :
  Own k e (w.setCell ⟨g, i, none⟩ (.int k v)) (.slice (some ⟨g, 0, none⟩) n cap) (xs.set i v) := by
 have hxl := h.at.1
 obtain ⟨h1, h2⟩ := h
 rcases h2 with ⟨h3, -⟩ | ⟨g', cap', cur, h3, -, hg, hn, hcm, hcs, ht⟩
 ·cases h3
 ·cases h3
  refine ⟨by simp, .inr ⟨g, cap, cur.setIfInBounds i (.int k v), by simp, Nat.zero_le _, blk_set hg i _, by simpa using hn, hcm, by simpa using hcs, ?_⟩⟩
  rw [Array.toList_setIfInBounds, List.length_set, List.take_set, ht, List.map_set]
theorem slAt_one {k : IntKind} (w : World) (y : Int) (e : TypeId) : SlAt k (w.alloc (.cells #[.int k y] e)) (some ⟨w.heap.size, 0, none⟩) 1 [y] := slAt_blk (blk_new w _) rfl rfl
theorem Own.lt {k : IntKind} {e : TypeId} {w : World} {v : Value} {xs : List Int} (h : Own k e w v xs) : ∀ b, v.ownBlock = some b -> b < w.heap.size := fun b hb => (World.ownsRow.lt h b hb).2
theorem run_appInts {P : Program} {w : World} {t ty e : TypeId} {k : IntKind} {i : TypeInfo} {z : Value} {bytes : Nat} (ht : P.underlying t = some (.slice e)) (hi : P.info? e = some i) (hz : i.zero = some z)
  (hsize : i.size = 1) (hby : i.bytes = bytes) (hzs : z.cells.size = 1)
  {v : Value} {xs : List Int} (hown : Own k e w v xs) {ad : Option Addr} {m c : Nat} {ys : List Int} (hnil : ad = none -> m = 0 /\ c = 0) (hsl : SlAt k w ad m ys)
  (hbytes : (xs.length + m) * bytes <= 140737488355328) (h63 : xs.length + m <= maxLen) :
  ∃ v' w', (Builtin.append_ #[t, t] ty #[v, .slice ad m c]).run P w = .ok v' w' /\ Own k e w' v' (xs ++ ys) /\ Kept (fun k => v.ownBlock = some k) w w' /\ (v'.ownBlock = v.ownBlock \/ v'.ownBlock = some w.heap.size) := by
 cases ad with
 | none =>
  obtain ⟨rfl, rfl⟩ := hnil rfl
  have hy : ys = [] := List.eq_nil_of_length_eq_zero hsl.1
  subst hy
  exact ⟨v, w, run_append_owned_none (P := P) (w := w) 0 t ty e i 1 ht hi v xs.length _ hown, by simpa using hown, Kept.refl _ _, .inl rfl⟩
 | some y =>
  have hl : (ys.map (Value.int k)).length = m * 1 := by simp [hsl.1]
  have hnews : ∀ j u, (ys.map (Value.int k))[j]? = some u -> w.cell? (y.add j) = some u := by
   intro j u hu
   rcases hsl with ⟨hl, h0 | ⟨b, off, hy, hc⟩⟩
   ·have : ys = [] := List.eq_nil_of_length_eq_zero (by omega)
    subst this
    cases hu
   ·cases hy
    simp only [List.getElem?_map, Option.map_eq_some_iff] at hu
    obtain ⟨q, hq, rfl⟩ := hu
    have hj : j < ys.length := (List.getElem?_eq_some_iff.1 hq).1
    have hc := hc j (by omega)
    have e : (⟨b, off, none⟩ : Addr).add j = ⟨b, off + j, none⟩ := by unfold Addr.add; split <;> simp_all
    rw [e, hc]
    simp [hq]
  obtain ⟨v', w', hrun, ho', hg, -⟩ := run_append_own (P := P) (w := w) 0 t ty e i z 1 bytes ht hi hz hsize hby hzs (by omega) v xs.length _ hown y m c _ hl hnews (one_ints k ys) h63 hbytes (Nat.zero_le _)
  have hp := app_prov (ty := ty) ht hi hz hsize hby (by omega) hown hl hnews (one_ints k ys) h63 hbytes hrun
  refine ⟨v', w', hrun, ?_, (Kept.refl _ _).grown hg (fun k hk => .inl hk), hp⟩
  show World.ownsRow _ _ _ _ _ _ _
  rw [List.map_append, List.length_append, hsl.1]
  exact ho'
theorem step_appInts {P : Program} {w : World} {ops : Array Oper} {o : Oper} {a : Act} {K : Act -> World -> Prop} {Q : Exit -> Act -> World -> Prop} {E : Prop} (hgd : o.guard = none) (s x : Operand) (t : TypeId)
  (ho : o.op = .call { callee := .builtin .append, args := #[s, x], argTypes := #[t, t] })
  (e : TypeId) (k : IntKind) (i : TypeInfo) (z : Value) (bytes : Nat) (ht : P.underlying t = some (.slice e)) (hi : P.info? e = some i) (hz : i.zero = some z)
  (hsize : i.size = 1) (hby : i.bytes = bytes) (hzs : z.cells.size = 1)
  (v : Value) (xs : List Int) (hs : a.eval s = v) (hown : Own k e w v xs)
  (ad : Option Addr) (m c : Nat) (ys : List Int) (hx : a.eval x = .slice ad m c) (hnil : ad = none -> m = 0 /\ c = 0) (hsl : SlAt k w ad m ys)
  (hbytes : (xs.length + m) * bytes <= 140737488355328) (h63 : xs.length + m <= maxLen)
  (h : ∀ v' w', Own k e w' v' (xs ++ ys) -> Kept (fun k => v.ownBlock = some k) w w' -> (v'.ownBlock = v.ownBlock \/ v'.ownBlock = some w.heap.size) -> K (a.put o.dst v') w') :
  if Region.wanted o (yielded ops a.tmps) = true then Oper.wp P o a w K Q else E := by
 have hw : Region.wanted o (yielded ops a.tmps) = true := by simp [Region.wanted, hgd]
 rw [if_pos hw]
 obtain ⟨v', w', hrun, h1, h2, h3⟩ := run_appInts (ty := o.type) ht hi hz hsize hby hzs hown (c := c) hnil hsl hbytes h63
 unfold Oper.wp
 simp [execOp, ho, resolve, invoke, builtin, hs, hx, Result.andThen]
 rw [hrun]
 exact h v' w' h1 h2 h3
def IsBytes (xs : List Int) : Prop := ∀ n ∈ xs, 0 <= n /\ n < 256
theorem run_str {P : Program} {w : World} {src dst e : TypeId} (hs : P.underlying src = some (.slice e)) (he : P.underlying e = some (.int .u8)) (hd : P.underlying dst = some .string) {a : Option Addr} {len cap : Nat} {xs : List Int} (h : SlAt .u8 w a len xs) :
  (convert src dst (.slice a len cap)).run P w = .ok (.string (strOfNums xs)) w := by
 obtain ⟨h1, h2⟩ := h
 rcases h2 with rfl | ⟨b, off, rfl, hc⟩
 ·have hx : xs = [] := List.eq_nil_of_length_eq_zero h1
  subst hx
  cases a with
  | none => exact run_convert_bytes_nil w src e hs he 0 cap dst hd
  | some a =>
   have hl : (loadCells a 0).run P w = .ok #[] w := by simpa using run_loadCells_list (P := P) w a [] (by simp)
   rw [run_convert_bytes_string w src dst e _ 0 cap hs he hd, run_bytesToString w _ 0 cap [] (by simpa using hl)]
   rfl
 ·exact run_convert_bytes_arg w src e hs he b off len cap xs h1 hc dst hd
end Go.Proofs.YtmplpcmcbliadaaGreatDoor
namespace Go.Proofs.YtmplpcmcbliadaaGreatDoor
open Go.RowKit Go.ChangeShapes Go.WideShapes Go.ChangeAt Go.Joins Go.Deep
section
variable {H : Type} {enc : TypeId × Value -> H} {P : Program} {W : World} {r : Reach} {b0 : Nat} {t e : TypeId} {v : Value} {d : DataW H} {p : List MemPlace}
end
end Go.Proofs.YtmplpcmcbliadaaGreatDoor
namespace Go.Proofs.YtmplpcmcbliadaaGreatDoor.Pl
structure Look where
 fg : Int
 bg : Int
 fl : Int
def In (x : Int) : Prop := -9223372036854775808 <= x /\ x <= 9223372036854775807
def Look.In (a : Look) : Prop := Pl.In a.fg /\ Pl.In a.bg /\ Pl.In a.fl
def orI (x y : Int) : Int := bits .or .i64 x y
def subI (x y : Int) : Int := bits .andNot .i64 x y
def flagN (n : Int) : Int := if n = 1 then 1 else if n = 2 then 2 else if n = 3 then 4 else if n = 4 then 8 else if n = 5 then 16 else if n = 7 then 32 else if n = 8 then 64 else if n = 9 then 128 else 0
def one (a : Look) (n : Int) : Look :=
 if n = 0 then ⟨0, 0, 0⟩
 else if 1 <= n /\ n <= 9 then { a with fl := orI a.fl (flagN n) }
 else if n = 22 then { a with fl := subI (subI a.fl 1) 2 }
 else if 23 <= n /\ n <= 29 then { a with fl := subI a.fl (flagN (n - 20)) }
 else if 40 <= n /\ n <= 47 then { a with bg := 16777216 + (n - 40) }
 else if 30 <= n /\ n <= 37 then { a with fg := 16777216 + (n - 30) }
 else if 100 <= n /\ n <= 107 then { a with bg := 16777224 + (n - 100) }
 else if 90 <= n /\ n <= 97 then { a with fg := 16777224 + (n - 90) }
 else if n = 39 then { a with fg := 0 }
 else if n = 49 then { a with bg := 0 }
 else a
def byteB (v : Int) : Bool := decide (0 <= v /\ v <= 255)
def far (c : Int) : List Int -> Int × List Int
 | 5 :: v :: l => (if byteB v = true then 16777216 + v else c, l)
 | 2 :: r :: g :: b :: l => (if byteB r = true /\ byteB g = true /\ byteB b = true then 33554432 + r * 65536 + g * 256 + b else c, l)
 | _ => (c, [])
theorem far_le (c : Int) (l : List Int) : (far c l).2.length <= l.length := by
 unfold far
 split <;> simp <;> omega
def stp (a : Look) (n : Int) (l : List Int) : Look × List Int :=
 if n = 38 then ({ a with fg := (far a.fg l).1 }, (far a.fg l).2)
 else if n = 48 then ({ a with bg := (far a.bg l).1 }, (far a.bg l).2)
 else (one a n, l)
theorem stp_le (a : Look) (n : Int) (l : List Int) : (stp a n l).2.length <= l.length := by
 unfold stp
 split
 ·exact far_le _ _
 ·split
  ·exact far_le _ _
  ·exact Nat.le_refl _
def ap (a : Look) (l : List Int) : Look :=
 match l with
 | [] => a
 | n :: l => ap (stp a n l).1 (stp a n l).2
termination_by l.length
decreasing_by have := stp_le a n l; simp; omega
def apply (a : Look) (l : List Int) : Look := if l = [] then ⟨0, 0, 0⟩ else ap a l
/-! ### the range of what comes out -/
theorem bits_in (op : BinOp) (x y : Int) : In (bits op .i64 x y) := by
 have hw : ∀ n, In (IntKind.i64.wrap n) := by
  intro n; rw [IntKind.wrap_i64]; unfold In; omega
 cases op <;> first | exact hw _ | (show In 0; unfold In; omega)
/-! ### bits -/
theorem bit_eq (op : BinOp) (x y : Int) (f : BitVec 64 -> BitVec 64 -> BitVec 64) (h : bits op .i64 x y = IntKind.i64.wrap ((f (BitVec.ofInt 64 x) (BitVec.ofInt 64 y)).toNat : Int)) : BitVec.ofInt 64 (bits op .i64 x y) = f (BitVec.ofInt 64 x) (BitVec.ofInt 64 y) := by
 rw [h, IntKind.wrap_i64]
 apply BitVec.eq_of_toNat_eq
 rw [BitVec.toNat_ofInt]
 have := (f (BitVec.ofInt 64 x) (BitVec.ofInt 64 y)).isLt
 omega
theorem sub_bv (x y : Int) : BitVec.ofInt 64 (subI x y) = BitVec.ofInt 64 x &&& ~~~ BitVec.ofInt 64 y := bit_eq .andNot x y (fun a b => a &&& ~~~b) rfl
theorem bv_inj {x y : Int} (hx : In x) (hy : In y) (h : BitVec.ofInt 64 x = BitVec.ofInt 64 y) : x = y := by
 have h' := congrArg BitVec.toNat h
 rw [BitVec.toNat_ofInt, BitVec.toNat_ofInt] at h'
 unfold In at hx hy
 omega
theorem sub_zero {x : Int} (h : In x) : subI x 0 = x := bv_inj (bits_in _ _ _) h (by rw [sub_bv]; show _ &&& BitVec.allOnes 64 = _; exact BitVec.and_allOnes)
/-! ### which may be -/
def colB (c : Int) : Bool := decide (c = 0 \/ (16777216 <= c /\ c < 16777472) \/ (33554432 <= c /\ c < 50331648))
end Go.Proofs.YtmplpcmcbliadaaGreatDoor.Pl
namespace Go.Proofs.YtmplpcmcbliadaaGreatDoor
open Go.RowKit Pl
set_option maxRecDepth 100000 in
set_option maxHeartbeats 1000000 in
theorem color_any (c : Int) (w : World) :
  Calls Tryz.prog 543 #[.int .i64 c] w fun e w' => e = .returned (.bool (colB c)) /\ w = w' := by
 by_cases h0 : c = 0
 ·subst h0
  go_enter Tryz.func543, Tryz.ntmps543
  go_wp2
  go_ret
  exact ⟨rfl, rfl⟩
 have q0 : (c == 0) = false := by simp; exact h0
 by_cases k0 : c < 0
 ·go_enter Tryz.func543, Tryz.ntmps543
  go_wp2
  go_ret
  exact ⟨ret_bool (by unfold colB; first | exact (decide_eq_true (by omega)).symm | exact (decide_eq_false (by omega)).symm | exact decide_eq_decide.2 (by omega)), rfl⟩
 by_cases k1 : c < 16777216
 ·go_enter Tryz.func543, Tryz.ntmps543
  go_wp2
  go_ret
  exact ⟨ret_bool (by unfold colB; first | exact (decide_eq_true (by omega)).symm | exact (decide_eq_false (by omega)).symm | exact decide_eq_decide.2 (by omega)), rfl⟩
 by_cases k2 : c < 16777472
 ·go_enter Tryz.func543, Tryz.ntmps543
  go_wp2
  go_ret
  exact ⟨ret_bool (by unfold colB; first | exact (decide_eq_true (by omega)).symm | exact (decide_eq_false (by omega)).symm | exact decide_eq_decide.2 (by omega)), rfl⟩
 by_cases k3 : c < 33554432
 ·go_enter Tryz.func543, Tryz.ntmps543
  go_wp2
  go_ret
  exact ⟨ret_bool (by unfold colB; first | exact (decide_eq_true (by omega)).symm | exact (decide_eq_false (by omega)).symm | exact decide_eq_decide.2 (by omega)), rfl⟩
 by_cases k4 : c < 50331648
 ·go_enter Tryz.func543, Tryz.ntmps543
  go_wp2
  go_ret
  exact ⟨ret_bool (by unfold colB; first | exact (decide_eq_true (by omega)).symm | exact (decide_eq_false (by omega)).symm | exact decide_eq_decide.2 (by omega)), rfl⟩
 go_enter Tryz.func543, Tryz.ntmps543
 go_wp2
 go_ret
 exact ⟨ret_bool (by unfold colB; first | exact (decide_eq_true (by omega)).symm | exact (decide_eq_false (by omega)).symm | exact decide_eq_decide.2 (by omega)), rfl⟩
def lookV (a : Look) : Value := .agg #[.int .i64 a.fg, .int .i64 a.bg, .int .i64 a.fl]
end Go.Proofs.YtmplpcmcbliadaaGreatDoor
namespace Go.Proofs.YtmplpcmcbliadaaGreatDoor
open Go.RowKit
def ov (d s a : Int) : Int := (s * a + d * (255 - a) + 127) / 255
def col (a b c d : Int) : Value := .agg #[.int .u8 a, .int .u8 b, .int .u8 c, .int .u8 d]
end Go.Proofs.YtmplpcmcbliadaaGreatDoor
namespace Go.Proofs.YtmplpcmcbliadaaGreatDoor
open Go.RowKit
def sizeB (w h : Int) : Bool := decide (w = 0 /\ h = 0 \/ 1 <= w /\ w <= 16384 /\ 1 <= h /\ h <= 16384 /\ w * h <= 67108864)
theorem sizeB_t {w h : Int} (hh : sizeB w h = true) : 0 <= w /\ w <= 16384 /\ 0 <= h /\ h <= 16384 /\ 0 <= w * h /\ w * h <= 67108864 /\ (w = 0 /\ h = 0 \/ 1 <= w /\ 1 <= h) := by
 unfold sizeB at hh
 have h1 := of_decide_eq_true hh
 rcases h1 with ⟨rfl, rfl⟩ | h1
 ·omega
 ·have := Int.mul_nonneg (show 0 <= w by omega) (show 0 <= h by omega)
  omega
set_option maxRecDepth 100000 in
set_option maxHeartbeats 1000000 in
theorem size_any (w h : Int) (wd : World) (hw : -9223372036854775808 <= w /\ w <= 9223372036854775807) (hh : -9223372036854775808 <= h /\ h <= 9223372036854775807) :
  Calls Tryz.prog 144 #[.int .i64 w, .int .i64 h] wd fun e w' => e = .returned (.bool (sizeB w h)) /\ wd = w' := by
 by_cases h1 : w = 0
 ·subst h1
  by_cases h2 : h = 0
  ·subst h2
   go_enter Tryz.func144, Tryz.ntmps144
   go_wp2
   go_ret
   exact ⟨ret_bool rfl, rfl⟩
  ·go_enter Tryz.func144, Tryz.ntmps144
   go_wp2
   go_ret
   exact ⟨ret_bool (by unfold sizeB; rw [decide_eq_false (by omega)]; simpa using h2), rfl⟩
 ·by_cases h2 : 1 <= w /\ w <= 16384 /\ 1 <= h /\ h <= 16384
  ·have h3 : 0 <= w * h := Int.mul_nonneg (by omega) (by omega)
   have h4 : w * h <= 16384 * h := Int.mul_le_mul_of_nonneg_right (by omega) (by omega)
   obtain ⟨a, b, c, d⟩ := h2
   have e : sizeB w h = decide (w * h <= 67108864) := decide_eq_decide.2 (by omega)
   rw [e]
   go_enter Tryz.func144, Tryz.ntmps144
   go_wp2
   go_ret
   exact ⟨rfl, rfl⟩
  ·have e : sizeB w h = false := decide_eq_false (by omega)
   rw [e]
   by_cases ha : 1 <= w
   ·by_cases hb : w <= 16384
    ·by_cases hc : 1 <= h
     ·have hd : 16384 < h := by omega
      clear h2 e
      go_enter Tryz.func144, Tryz.ntmps144
      go_wp2
      go_ret
      exact ⟨rfl, rfl⟩
     ·clear h2 e
      go_enter Tryz.func144, Tryz.ntmps144
      go_wp2
      go_ret
      exact ⟨rfl, rfl⟩
    ·clear h2 e
     go_enter Tryz.func144, Tryz.ntmps144
     go_wp2
     go_ret
     exact ⟨rfl, rfl⟩
   ·clear h2 e
    go_enter Tryz.func144, Tryz.ntmps144
    go_wp2
    go_ret
    exact ⟨rfl, rfl⟩
theorem Tryz.info5 : (Tryz.prog.info? 5).map (fun i => (i.zero, i.size, i.bytes)) = some (some (.int .u8 0), 1, 1) := by kernel_rfl
def mat (w h : Int) (a : Option Addr) (n cap : Nat) : Value := .agg #[.int .i64 w, .int .i64 h, .slice a n cap]
set_option maxRecDepth 100000 in
set_option maxHeartbeats 1000000 in
theorem new_yes (w h : Int) (wd : World) (hs : sizeB w h = true) :
  Calls Tryz.prog 88 #[.int .i64 w, .int .i64 h] wd fun e w' => ∃ g n : Nat, (n : Int) = 4 * w * h /\ e = .returned (.tuple #[mat w h (some ⟨g, 0, none⟩) n n, .int .i64 0]) /\ wd.heap.size <= g /\ Own .u8 5 w' (.slice (some ⟨g, 0, none⟩) n n) (List.replicate n 0) /\ Kept (fun _ => False) wd w' := by
 obtain ⟨a1, a2, a3, a4, a5, a6, -⟩ := sizeB_t hs
 obtain ⟨i0, hi, hz0, hz1, hz2⟩ := info_parts Tryz.info5
 have hp : 4 * w * h = 4 * (w * h) := Int.mul_assoc ..
 obtain ⟨n, hn⟩ : ∃ n : Nat, (n : Int) = 4 * w * h := ⟨(4 * w * h).toNat, by omega⟩
 have hnb : n <= 268435456 := by omega
 have HN := Lib.hid hn
 have hn' : 4 * w * h = (n : Int) := hn.symm
 clear hn hp
 go_enter Tryz.func88, Tryz.ntmps88
 go_wp2_with (first
  | (go_at_call 144; refine (size_any _ _ _ (by omega) (by omega)).mono ?_; rw [hs]; rintro e w' ⟨rfl, rfl⟩)
  | (refine wpList_makeInts rfl (.tmp 16) (.tmp 16) 22 rfl 5 .u8 i0 1 Tryz.underlying22 hi hz0 hz1 hz2 .i64 .i64 _ _ n rfl rfl rfl rfl (by omega) (by simp [maxLen]; omega) ?_; intro w2 ho2 hk2 hs2; have hb2 := hk2.blk (blk_new wd _) id; obtain ⟨⟨c0, f0⟩, ⟨c1, f1⟩, c2, f2⟩ := blk3 hb2; have HO := Lib.hid ho2; have HB := Lib.hid hb2; clear ho2 hb2))
 have ho := HO.out
 rw [World.size_alloc] at ho hs2
 refine bodyPost_ret (v := .tuple #[mat w h (some ⟨wd.heap.size + 1, 0, none⟩) n n, .int .i64 0]) (by simp [results, Tryz.results88, go_sem, mat, c0, c1, c2]) rfl ⟨wd.heap.size + 1, n, HN.out, rfl, by omega, ?_, ?_⟩
 ·refine ho.kept (S := fun k => k = wd.heap.size) ?_ (fun b h => by cases h; exact Nat.succ_ne_self _)
  repeat (refine Kept.setCell ?_ (Or.inl (by rfl)) _)
  exact Kept.refl _ _
 ·repeat (refine Kept.setCell ?_ (Or.inr (by exact Nat.le_refl _)) _)
  exact (Kept.trans ((Kept.refl _ wd).alloc _) (hk2.mono (fun _ _ h => h.elim)))
end Go.Proofs.YtmplpcmcbliadaaGreatDoor
namespace Go.Proofs.YtmplpcmcbliadaaGreatDoor
open Go.RowKit
def Bytes (xs : List Int) : Prop := ∀ n ∈ xs, 0 <= n /\ n < 256
/-! ### lists by their places -/
theorem list_ext {a b : List Int} (h : a.length = b.length) (h2 : ∀ j, j < a.length -> a.getD j 0 = b.getD j 0) : a = b := by
 apply List.ext_getElem h
 intro j h3 h4
 have := h2 j h3
 simpa [h3, h4] using this
def tab (n : Nat) (f : Nat -> Int) : List Int := (List.range n).map f
theorem tab_length (n : Nat) (f : Nat -> Int) : (tab n f).length = n := by simp [tab]
theorem tab_get {n : Nat} {f : Nat -> Int} {j : Nat} (h : j < n) : (tab n f).getD j 0 = f j := by simp [tab, h]
theorem getD_set {xs : List Int} {i : Nat} {v : Int} {j : Nat} (h : i < xs.length) : (xs.set i v).getD j 0 = if j = i then v else xs.getD j 0 := by
 simp only [List.getD_eq_getElem?_getD, List.getElem?_set]
 by_cases hj : i = j
 ·subst hj; simp [h]
 ·rw [if_neg hj, if_neg (fun h => hj h.symm)]
theorem tab_ext {n : Nat} {f g : Nat -> Int} (h : ∀ j, j < n -> f j = g j) : tab n f = tab n g := by
 apply list_ext (by simp [tab])
 intro j hj
 rw [tab_length] at hj
 rw [tab_get hj, tab_get hj, h j hj]
theorem SlAt.sub {k : IntKind} {w : World} {b off len at_ n : Nat} {xs : List Int} (h : SlAt k w (some ⟨b, off, none⟩) len xs) (hn : at_ + n <= len) :
  SlAt k w (some ⟨b, off + at_, none⟩) n ((xs.drop at_).take n) := by
 obtain ⟨h1, h2⟩ := h
 refine ⟨by simp; omega, ?_⟩
 by_cases h0 : n = 0
 ·exact .inl h0
 ·obtain ⟨b', off', he, hc⟩ := h2.resolve_left (by omega)
  cases he
  refine .inr ⟨b, off + at_, rfl, fun j hj => ?_⟩
  rw [show off + at_ + j = off + (at_ + j) by omega, hc _ (by omega)]
  simp [hj]
theorem Tryz.size5 : (Tryz.prog.info? 5).map (·.size) = some 1 := by kernel_rfl
structure Mx where
 w : Int
 h : Int
 p : List Int
def IsMx (B : Nat) (w : World) (v : Value) (m : Mx) : Prop :=
 ∃ a n cap, v = mat m.w m.h a n cap /\ SlAt .u8 w a n m.p /\ n <= cap /\ cap <= 9223372036854775807 /\ (a = none -> n = 0 /\ cap = 0) /\ ∀ b off, 0 < n -> a = some ⟨b, off, none⟩ -> B <= b
theorem IsMx.kept {B : Nat} {S : Nat -> Prop} {w w' : World} {v : Value} {m : Mx} (h : IsMx B w v m) (hk : Kept S w w') (hn : ∀ b, B <= b -> ¬ S b) : IsMx B w' v m := by
 obtain ⟨a, n, cap, h1, h2, h3, h4, h5, h6⟩ := h
 exact ⟨a, n, cap, h1, h2.kept hk (fun b off h0 h => hn b (h6 b off h0 h)), h3, h4, h5, h6⟩
theorem size5 {w : World} : (sizeOf 5).run Tryz.prog w = .ok 1 w := by kernel_rfl
theorem store3 {w : World} {p : Nat} {x' y' z' : Value} {T : TypeId} (h : w.heap[p]? = some (.cells #[x', y', z'] T (0, 0))) (x y z : Value) :
  ∃ V1 V2 V3, w.setCell ⟨p, 0, none⟩ x = V1 /\ V1.setCell ⟨p, 1, none⟩ y = V2 /\ V2.setCell ⟨p, 2, none⟩ z = V3 /\ (w.cell? ⟨p, 0, none⟩ = some x' /\ w.frozen? ⟨p, 0, none⟩ = false) /\ (V1.cell? ⟨p, 1, none⟩ = some y' /\ V1.frozen? ⟨p, 1, none⟩ = false) /\
   (V2.cell? ⟨p, 2, none⟩ = some z' /\ V2.frozen? ⟨p, 2, none⟩ = false) /\ V3.heap[p]? = some (.cells #[x, y, z] T (0, 0)) /\ Kept (· = p) w V3 := by
 refine ⟨_, _, _, rfl, rfl, rfl, ⟨blk_cell h 0, blk_free h 0⟩, ⟨?_, ?_⟩, ⟨?_, ?_⟩, ?_, ?_⟩
 ·exact blk_cell (blk_set h 0 _) 1
 ·exact blk_free (blk_set h 0 _) 1
 ·exact blk_cell (blk_set (blk_set h 0 _) 1 _) 2
 ·exact blk_free (blk_set (blk_set h 0 _) 1 _) 2
 ·exact blk_set (blk_set (blk_set h 0 _) 1 _) 2 _
 ·exact (((Kept.refl (fun i => i = p) w).setCell (p := ⟨p, 0, none⟩) (.inl rfl) x).setCell (p := ⟨p, 1, none⟩) (.inl rfl) y).setCell (p := ⟨p, 2, none⟩) (.inl rfl) z
end Go.Proofs.YtmplpcmcbliadaaGreatDoor
namespace Go.Proofs.YtmplpcmcbliadaaGreatDoor.Pl
def inL (r : Int) (l : List (Int × Int)) : Bool := l.any fun s => decide (s.1 <= r) && decide (r <= s.2)
def thinL : List (Int × Int) := [(0, 31), (127, 159), (768, 879), (8203, 8207), (65024, 65039)]
def wideL : List (Int × Int) := [(4352, 4447), (11904, 42191), (44032, 55203), (63744, 64255), (65072, 65135), (65280, 65376), (65504, 65510), (127744, 129791), (131072, 262141)]
def noneB (r : Int) : Bool := decide (r < 0 \/ (55296 <= r /\ r <= 57343) \/ 1114111 < r)
def widthI (r : Int) : Int := if noneB r = true then 0 else if inL r thinL = true then 0 else if inL r wideL = true then 2 else 1
def linesL : List Int := [0x00A0, 0x25C6, 0x2592, 0x2409, 0x240C, 0x240D, 0x240A, 0x00B0, 0x00B1, 0x2424, 0x240B, 0x2518, 0x2510, 0x250C, 0x2514, 0x253C, 0x23BA, 0x23BB, 0x2500, 0x23BC, 0x23BD, 0x251C, 0x2524, 0x2534, 0x252C, 0x2502, 0x2264, 0x2265, 0x03C0, 0x2260, 0x00A3, 0x00B7]
def graphicI (s b : Nat) : Int := if s = 48 /\ 95 <= b /\ b <= 126 then linesL.getD (b - 95) 0 else b
structure St where
 left : Nat
 v : Nat
 lo : Nat
 hi : Nat
def bad : Int := 65533
def first (b : Nat) : St × List Int :=
 if b < 128 then (⟨0, 0, 0, 0⟩, [(b : Int)])
 else if 194 <= b /\ b <= 223 then (⟨1, b % 32, 128, 191⟩, [])
 else if 224 <= b /\ b <= 239 then (⟨2, b % 16, if b = 224 then 160 else 128, if b = 237 then 159 else 191⟩, [])
 else if 240 <= b /\ b <= 244 then (⟨3, b % 8, if b = 240 then 144 else 128, if b = 244 then 143 else 191⟩, [])
 else (⟨0, 0, 0, 0⟩, [bad])
def put (s : St) (b : Nat) : St × List Int :=
 if s.left = 0 then first b
 else if b < s.lo \/ s.hi < b then ((first b).1, bad :: (first b).2)
 else if s.left = 1 then (⟨0, 0, 0, 0⟩, [((s.v * 64 + b % 64 : Nat) : Int)])
 else (⟨s.left - 1, s.v * 64 + b % 64, 128, 191⟩, [])
def fin (s : St) : List Int := if s.left = 0 then [] else [bad]
def s0 : St := ⟨0, 0, 0, 0⟩
def OkS (s : St) : Prop := s.left <= 3 /\ (s.left = 3 -> s.v < 8) /\ (s.left = 2 -> s.v < 512) /\ (s.left = 1 -> s.v < 32768) /\ s.lo <= 255 /\ s.hi <= 255
theorem ok0 : OkS s0 := by unfold OkS s0; simp
theorem first_ok (b : Nat) : OkS (first b).1 := by
 unfold first OkS
 split
 ·simp
 ·split
  ·simp; omega
  ·split
   ·simp; refine ⟨by omega, ?_, ?_⟩ <;> split <;> omega
   ·split
    ·simp; refine ⟨by omega, ?_, ?_⟩ <;> split <;> omega
    ·simp
theorem put_ok {s : St} (h : OkS s) (b : Nat) : OkS (put s b).1 := by
 unfold put
 split
 ·exact first_ok b
 ·split
  ·exact first_ok b
  ·split
   ·unfold OkS; simp
   ·obtain ⟨h1, h2, h3, h4, -, -⟩ := h
    unfold OkS
    simp only
    refine ⟨by omega, fun h => by omega, fun h => ?_, fun h => ?_, by omega, by omega⟩
    ·have := h2 (by omega); omega
    ·have := h3 (by omega); omega
theorem first_len (b : Nat) : (first b).2.length <= 1 := by
 unfold first
 split
 ·simp
 ·split
  ·simp
  ·split
   ·simp
   ·split <;> simp
theorem put_len (s : St) (b : Nat) : (put s b).2.length <= 2 := by
 have := first_len b
 unfold put
 split
 ·omega
 ·split
  ·simp; omega
  ·split <;> simp
def run (s : St) : List Nat -> St × List Int
 | [] => (s, [])
 | b :: l => ((run (put s b).1 l).1, (put s b).2 ++ (run (put s b).1 l).2)
theorem fin_len (s : St) : (fin s).length <= 1 := by unfold fin; split <;> simp
theorem put_v {s : St} (h : OkS s) (hl : s.left ≠ 0) (b : Nat) : s.v * 64 + b % 64 < 2097152 := by
 obtain ⟨h1, h2, h3, h4, -, -⟩ := h
 rcases (show s.left = 1 \/ s.left = 2 \/ s.left = 3 by omega) with h | h | h
 ·have := h4 h; omega
 ·have := h3 h; omega
 ·have := h2 h; omega
end Go.Proofs.YtmplpcmcbliadaaGreatDoor.Pl
namespace Go.Proofs.YtmplpcmcbliadaaGreatDoor
open Go.RowKit Pl
theorem Tryz.infoI32 : (Tryz.prog.info? 21).map (fun i => (i.zero, i.size, i.bytes)) = some (some (.int .i32 0), 1, 4) := by kernel_rfl
section
variable {w : World} {b : Nat} {x y z u : Value} {t : TypeId}
theorem pblk4 (h : w.heap[b]? = some (.cells #[x, y, z, u] t (0, 0))) :
  (w.cell? ⟨b, 0, none⟩ = some x /\ w.frozen? ⟨b, 0, none⟩ = false) /\ (w.cell? ⟨b, 1, none⟩ = some y /\ w.frozen? ⟨b, 1, none⟩ = false) /\ (w.cell? ⟨b, 2, none⟩ = some z /\ w.frozen? ⟨b, 2, none⟩ = false) /\ (w.cell? ⟨b, 3, none⟩ = some u /\ w.frozen? ⟨b, 3, none⟩ = false) :=
 ⟨⟨blk_cell h 0, blk_free h 0⟩, ⟨blk_cell h 1, blk_free h 1⟩, ⟨blk_cell h 2, blk_free h 2⟩, blk_cell h 3, blk_free h 3⟩
theorem blk4_s0 (h : w.heap[b]? = some (.cells #[x, y, z, u] t (0, 0))) (v : Value) : (w.setCell ⟨b, 0, none⟩ v).heap[b]? = some (.cells #[v, y, z, u] t (0, 0)) := by simpa using blk_set h 0 v
theorem blk4_s1 (h : w.heap[b]? = some (.cells #[x, y, z, u] t (0, 0))) (v : Value) : (w.setCell ⟨b, 1, none⟩ v).heap[b]? = some (.cells #[x, v, z, u] t (0, 0)) := by simpa using blk_set h 1 v
theorem blk4_s2 (h : w.heap[b]? = some (.cells #[x, y, z, u] t (0, 0))) (v : Value) : (w.setCell ⟨b, 2, none⟩ v).heap[b]? = some (.cells #[x, y, v, u] t (0, 0)) := by simpa using blk_set h 2 v
theorem blk4_s3 (h : w.heap[b]? = some (.cells #[x, y, z, u] t (0, 0))) (v : Value) : (w.setCell ⟨b, 3, none⟩ v).heap[b]? = some (.cells #[x, y, z, v] t (0, 0)) := by simpa using blk_set h 3 v
end
theorem Own.lit (k : IntKind) {e : TypeId} (w : World) (g : Nat) (xs : List Int) (C : Array Value) (n : Nat) (hg : g = w.heap.size) (hC : C = (xs.map (Value.int k)).toArray) (hn : xs.length = n) (hm : n <= 1000) : Own k e (w.alloc (.cells C e)) (.slice (some ⟨g, 0, none⟩) n n) xs := by
 subst hC hn hg
 refine ⟨by simp, .inr ⟨w.heap.size, xs.length, (xs.map (Value.int k)).toArray, rfl, Nat.zero_le _, blk_new w _, Nat.le_refl _, by unfold maxLen; omega, by simp, by simp [List.take_of_length_le]⟩⟩
theorem Kept.setAt {a w : World} {p : Nat} (h : Kept (· = p) a w) (i : Nat) (v : Value) : Kept (· = p) a (w.setCell ⟨p, i, none⟩ v) := h.setCell (p := ⟨p, i, none⟩) (.inl rfl) v
def DecAt (w : World) (p : Nat) (s : St) : Prop :=
 ∃ r lo hi : Int, w.heap[p]? = some (.cells #[.int .i32 r, .int .i64 (s.left : Int), .int .u8 lo, .int .u8 hi] 252 (0, 0)) /\ (0 < s.left -> r = s.v /\ lo = s.lo /\ hi = s.hi) /\ OkS s
theorem DecAt.kept {S : Nat -> Prop} {w w' : World} {p : Nat} {s : St} (h : DecAt w p s) (hk : Kept S w w') (hp : ¬ S p) : DecAt w' p s := by
 obtain ⟨r, lo, hi, h1, h2⟩ := h
 exact ⟨r, lo, hi, hk.blk h1 hp, h2⟩
theorem DecAt.lt {w : World} {p : Nat} {s : St} (h : DecAt w p s) : p < w.heap.size := by
 obtain ⟨r, lo, hi, h1, h2⟩ := h
 exact lt_of_blk h1
def BeginPost (k : IntKind) (e : TypeId) (At : World -> Nat -> St -> Prop) (p : Nat) (res : St × List Int) (w : World) (en : Ending) (w' : World) : Prop :=
 ∃ v, en = .returned v /\ At w' p res.1 /\ Own k e w' v res.2 /\ Kept (· = p) w w' /\ ∀ b, v.ownBlock = some b -> w.heap.size <= b
set_option maxRecDepth 100000 in
set_option maxHeartbeats 2000000 in
theorem begin_a (p b : Nat) (x0 x1 x2 x3 : Int) (w : World) (h : w.heap[p]? = some (.cells #[.int .i32 x0, .int .i64 x1, .int .u8 x2, .int .u8 x3] 252 (0, 0))) (hb : b < 128) :
  Calls Tryz.prog 315 #[.pointer (some ⟨p, 0, none⟩), .int .u8 b] w (BeginPost .i32 21 DecAt p (first b) w) := by
 have e1 : first b = (⟨0, 0, 0, 0⟩, [(b : Int)]) := by
  unfold first
  rw [if_pos hb]
 have hok := first_ok b
 rw [e1] at hok ⊢
 have OK := Lib.hid hok
 clear e1 hok
 have lt128 : decide ((b : Int) < (128 : Int)) = true := decide_eq_true (by omega)
 obtain ⟨⟨c0, f0⟩, ⟨c1, f1⟩, ⟨c2, f2⟩, c3, f3⟩ := pblk4 h
 have H := Lib.hid h
 clear h
 go_enter Tryz.func315, Tryz.ntmps315
 go_wp2
 go_ret
 refine ⟨_, rfl, ⟨0, 128, 191, ?_, ?_, OK.out⟩, Own.lit .i32 _ _ [(b : Int)] _ 1 (by simp) rfl rfl (by omega), ?_, (fun b' hb' => by have h9 := Option.some.inj hb'; simp at h9; omega)⟩
 ·show _ = some (Obj.cells #[.int .i32 (0), .int .i64 0, .int .u8 128, .int .u8 191] 252 (0, 0))
  (repeat (first | with_reducible exact H.out | with_reducible apply blk_alloc | with_reducible apply blk4_s0 | with_reducible apply blk4_s1 | with_reducible apply blk4_s2 | with_reducible apply blk4_s3))
 ·intro h0; first | (simp at h0; done) | exact ⟨rfl, rfl, rfl⟩ | (refine ⟨?_, ?_, ?_⟩ <;> simp)
 ·(repeat (first | with_reducible exact Kept.refl _ _ | with_reducible apply Kept.alloc | with_reducible apply Kept.setAt))
set_option maxRecDepth 100000 in
set_option maxHeartbeats 2000000 in
theorem begin_b (p b : Nat) (x0 x1 x2 x3 : Int) (w : World) (h : w.heap[p]? = some (.cells #[.int .i32 x0, .int .i64 x1, .int .u8 x2, .int .u8 x3] 252 (0, 0))) (hb : 194 <= b /\ b <= 223) :
  Calls Tryz.prog 315 #[.pointer (some ⟨p, 0, none⟩), .int .u8 b] w (BeginPost .i32 21 DecAt p (first b) w) := by
 have e1 : first b = (⟨1, b % 32, 128, 191⟩, []) := by
  unfold first
  rw [if_neg (by omega), if_pos (by omega)]
 have hok := first_ok b
 rw [e1] at hok ⊢
 have OK := Lib.hid hok
 clear e1 hok
 have lt128 : decide ((b : Int) < (128 : Int)) = false := decide_eq_false (by omega)
 have ge194 : decide ((194 : Int) <= (b : Int)) = true := decide_eq_true (by omega)
 have le223 : decide ((b : Int) <= (223 : Int)) = true := decide_eq_true (by omega)
 have n224 : ¬ (b : Int) = 224 := by omega
 have n237 : ¬ (b : Int) = 237 := by omega
 have n240 : ¬ (b : Int) = 240 := by omega
 have n244 : ¬ (b : Int) = 244 := by omega
 have hand : bits BinOp.and IntKind.u8 (b : Int) 31 = ((b % 32 : Nat) : Int) := by
  rw [show (31 : Int) = ((31 : Nat) : Int) from rfl, u8_and_nat _ _ (by omega) (by omega), show 31 = 2 ^ 5 - 1 by decide, Nat.and_two_pow_sub_one_eq_mod]
 obtain ⟨⟨c0, f0⟩, ⟨c1, f1⟩, ⟨c2, f2⟩, c3, f3⟩ := pblk4 h
 have H := Lib.hid h
 clear h
 go_enter Tryz.func315, Tryz.ntmps315
 go_wp2
 go_ret
 refine ⟨_, rfl, ⟨(b : Int) % 32, 128, 191, ?_, ?_, OK.out⟩, Own.nil _ _ _, ?_, (fun b' hb' => by cases hb')⟩
 ·show _ = some (Obj.cells #[.int .i32 ((b : Int) % 32), .int .i64 1, .int .u8 128, .int .u8 191] 252 (0, 0))
  (repeat (first | with_reducible exact H.out | with_reducible apply blk_alloc | with_reducible apply blk4_s0 | with_reducible apply blk4_s1 | with_reducible apply blk4_s2 | with_reducible apply blk4_s3))
 ·intro h0; first | (simp at h0; done) | exact ⟨rfl, rfl, rfl⟩ | (refine ⟨?_, ?_, ?_⟩ <;> simp)
 ·(repeat (first | with_reducible exact Kept.refl _ _ | with_reducible apply Kept.alloc | with_reducible apply Kept.setAt))
set_option maxRecDepth 100000 in
set_option maxHeartbeats 2000000 in
theorem begin_c (p b : Nat) (x0 x1 x2 x3 : Int) (w : World) (h : w.heap[p]? = some (.cells #[.int .i32 x0, .int .i64 x1, .int .u8 x2, .int .u8 x3] 252 (0, 0))) (hb : (225 <= b /\ b <= 236) \/ (238 <= b /\ b <= 239)) :
  Calls Tryz.prog 315 #[.pointer (some ⟨p, 0, none⟩), .int .u8 b] w (BeginPost .i32 21 DecAt p (first b) w) := by
 have e1 : first b = (⟨2, b % 16, 128, 191⟩, []) := by
  unfold first
  rw [if_neg (by omega), if_neg (by omega), if_pos (by omega), if_neg (by omega), if_neg (by omega)]
 have hok := first_ok b
 rw [e1] at hok ⊢
 have OK := Lib.hid hok
 clear e1 hok
 have lt128 : decide ((b : Int) < (128 : Int)) = false := decide_eq_false (by omega)
 have ge194 : decide ((194 : Int) <= (b : Int)) = true := decide_eq_true (by omega)
 have le223 : decide ((b : Int) <= (223 : Int)) = false := decide_eq_false (by omega)
 have ge224 : decide ((224 : Int) <= (b : Int)) = true := decide_eq_true (by omega)
 have le239 : decide ((b : Int) <= (239 : Int)) = true := decide_eq_true (by omega)
 have n224 : ¬ (b : Int) = 224 := by omega
 have n237 : ¬ (b : Int) = 237 := by omega
 have n240 : ¬ (b : Int) = 240 := by omega
 have n244 : ¬ (b : Int) = 244 := by omega
 have hand : bits BinOp.and IntKind.u8 (b : Int) 15 = ((b % 16 : Nat) : Int) := by
  rw [show (15 : Int) = ((15 : Nat) : Int) from rfl, u8_and_nat _ _ (by omega) (by omega), show 15 = 2 ^ 4 - 1 by decide, Nat.and_two_pow_sub_one_eq_mod]
 obtain ⟨⟨c0, f0⟩, ⟨c1, f1⟩, ⟨c2, f2⟩, c3, f3⟩ := pblk4 h
 have H := Lib.hid h
 clear h
 go_enter Tryz.func315, Tryz.ntmps315
 go_wp2
 go_ret
 refine ⟨_, rfl, ⟨(b : Int) % 16, 128, 191, ?_, ?_, OK.out⟩, Own.nil _ _ _, ?_, (fun b' hb' => by cases hb')⟩
 ·show _ = some (Obj.cells #[.int .i32 ((b : Int) % 16), .int .i64 2, .int .u8 128, .int .u8 191] 252 (0, 0))
  (repeat (first | with_reducible exact H.out | with_reducible apply blk_alloc | with_reducible apply blk4_s0 | with_reducible apply blk4_s1 | with_reducible apply blk4_s2 | with_reducible apply blk4_s3))
 ·intro h0; first | (simp at h0; done) | exact ⟨rfl, rfl, rfl⟩ | (refine ⟨?_, ?_, ?_⟩ <;> simp)
 ·(repeat (first | with_reducible exact Kept.refl _ _ | with_reducible apply Kept.alloc | with_reducible apply Kept.setAt))
set_option maxRecDepth 100000 in
set_option maxHeartbeats 2000000 in
theorem begin_d (p b : Nat) (x0 x1 x2 x3 : Int) (w : World) (h : w.heap[p]? = some (.cells #[.int .i32 x0, .int .i64 x1, .int .u8 x2, .int .u8 x3] 252 (0, 0))) (hb : 241 <= b /\ b <= 243) :
  Calls Tryz.prog 315 #[.pointer (some ⟨p, 0, none⟩), .int .u8 b] w (BeginPost .i32 21 DecAt p (first b) w) := by
 have e1 : first b = (⟨3, b % 8, 128, 191⟩, []) := by
  unfold first
  rw [if_neg (by omega), if_neg (by omega), if_neg (by omega), if_pos (by omega), if_neg (by omega), if_neg (by omega)]
 have hok := first_ok b
 rw [e1] at hok ⊢
 have OK := Lib.hid hok
 clear e1 hok
 have lt128 : decide ((b : Int) < (128 : Int)) = false := decide_eq_false (by omega)
 have ge194 : decide ((194 : Int) <= (b : Int)) = true := decide_eq_true (by omega)
 have le223 : decide ((b : Int) <= (223 : Int)) = false := decide_eq_false (by omega)
 have ge224 : decide ((224 : Int) <= (b : Int)) = true := decide_eq_true (by omega)
 have le239 : decide ((b : Int) <= (239 : Int)) = false := decide_eq_false (by omega)
 have ge240 : decide ((240 : Int) <= (b : Int)) = true := decide_eq_true (by omega)
 have le244 : decide ((b : Int) <= (244 : Int)) = true := decide_eq_true (by omega)
 have n224 : ¬ (b : Int) = 224 := by omega
 have n237 : ¬ (b : Int) = 237 := by omega
 have n240 : ¬ (b : Int) = 240 := by omega
 have n244 : ¬ (b : Int) = 244 := by omega
 have hand : bits BinOp.and IntKind.u8 (b : Int) 7 = ((b % 8 : Nat) : Int) := by
  rw [show (7 : Int) = ((7 : Nat) : Int) from rfl, u8_and_nat _ _ (by omega) (by omega), show 7 = 2 ^ 3 - 1 by decide, Nat.and_two_pow_sub_one_eq_mod]
 obtain ⟨⟨c0, f0⟩, ⟨c1, f1⟩, ⟨c2, f2⟩, c3, f3⟩ := pblk4 h
 have H := Lib.hid h
 clear h
 go_enter Tryz.func315, Tryz.ntmps315
 go_wp2
 go_ret
 refine ⟨_, rfl, ⟨(b : Int) % 8, 128, 191, ?_, ?_, OK.out⟩, Own.nil _ _ _, ?_, (fun b' hb' => by cases hb')⟩
 ·show _ = some (Obj.cells #[.int .i32 ((b : Int) % 8), .int .i64 3, .int .u8 128, .int .u8 191] 252 (0, 0))
  (repeat (first | with_reducible exact H.out | with_reducible apply blk_alloc | with_reducible apply blk4_s0 | with_reducible apply blk4_s1 | with_reducible apply blk4_s2 | with_reducible apply blk4_s3))
 ·intro h0; first | (simp at h0; done) | exact ⟨rfl, rfl, rfl⟩ | (refine ⟨?_, ?_, ?_⟩ <;> simp)
 ·(repeat (first | with_reducible exact Kept.refl _ _ | with_reducible apply Kept.alloc | with_reducible apply Kept.setAt))
set_option maxRecDepth 100000 in
set_option maxHeartbeats 2000000 in
theorem begin_e (p b : Nat) (x0 x1 x2 x3 : Int) (w : World) (h : w.heap[p]? = some (.cells #[.int .i32 x0, .int .i64 x1, .int .u8 x2, .int .u8 x3] 252 (0, 0))) (hb : 128 <= b /\ b < 194) :
  Calls Tryz.prog 315 #[.pointer (some ⟨p, 0, none⟩), .int .u8 b] w (BeginPost .i32 21 DecAt p (first b) w) := by
 have e1 : first b = (⟨0, 0, 0, 0⟩, [bad]) := by
  unfold first
  rw [if_neg (by omega), if_neg (by omega), if_neg (by omega), if_neg (by omega)]
 have hok := first_ok b
 rw [e1] at hok ⊢
 have OK := Lib.hid hok
 clear e1 hok
 have lt128 : decide ((b : Int) < (128 : Int)) = false := decide_eq_false (by omega)
 have ge194 : decide ((194 : Int) <= (b : Int)) = false := decide_eq_false (by omega)
 have ge224 : decide ((224 : Int) <= (b : Int)) = false := decide_eq_false (by omega)
 have ge240 : decide ((240 : Int) <= (b : Int)) = false := decide_eq_false (by omega)
 obtain ⟨⟨c0, f0⟩, ⟨c1, f1⟩, ⟨c2, f2⟩, c3, f3⟩ := pblk4 h
 have H := Lib.hid h
 clear h
 go_enter Tryz.func315, Tryz.ntmps315
 go_wp2
 go_ret
 refine ⟨_, rfl, ⟨0, 128, 191, ?_, ?_, OK.out⟩, Own.lit .i32 _ _ [bad] _ 1 (by simp) rfl rfl (by omega), ?_, (fun b' hb' => by have h9 := Option.some.inj hb'; simp at h9; omega)⟩
 ·show _ = some (Obj.cells #[.int .i32 (0), .int .i64 0, .int .u8 128, .int .u8 191] 252 (0, 0))
  (repeat (first | with_reducible exact H.out | with_reducible apply blk_alloc | with_reducible apply blk4_s0 | with_reducible apply blk4_s1 | with_reducible apply blk4_s2 | with_reducible apply blk4_s3))
 ·intro h0; first | (simp at h0; done) | exact ⟨rfl, rfl, rfl⟩ | (refine ⟨?_, ?_, ?_⟩ <;> simp)
 ·(repeat (first | with_reducible exact Kept.refl _ _ | with_reducible apply Kept.alloc | with_reducible apply Kept.setAt))
set_option maxRecDepth 100000 in
set_option maxHeartbeats 2000000 in
theorem begin_f (p b : Nat) (x0 x1 x2 x3 : Int) (w : World) (h : w.heap[p]? = some (.cells #[.int .i32 x0, .int .i64 x1, .int .u8 x2, .int .u8 x3] 252 (0, 0))) (hb : 245 <= b /\ b < 256) :
  Calls Tryz.prog 315 #[.pointer (some ⟨p, 0, none⟩), .int .u8 b] w (BeginPost .i32 21 DecAt p (first b) w) := by
 have e1 : first b = (⟨0, 0, 0, 0⟩, [bad]) := by
  unfold first
  rw [if_neg (by omega), if_neg (by omega), if_neg (by omega), if_neg (by omega)]
 have hok := first_ok b
 rw [e1] at hok ⊢
 have OK := Lib.hid hok
 clear e1 hok
 have lt128 : decide ((b : Int) < (128 : Int)) = false := decide_eq_false (by omega)
 have ge194 : decide ((194 : Int) <= (b : Int)) = true := decide_eq_true (by omega)
 have le223 : decide ((b : Int) <= (223 : Int)) = false := decide_eq_false (by omega)
 have ge224 : decide ((224 : Int) <= (b : Int)) = true := decide_eq_true (by omega)
 have le239 : decide ((b : Int) <= (239 : Int)) = false := decide_eq_false (by omega)
 have ge240 : decide ((240 : Int) <= (b : Int)) = true := decide_eq_true (by omega)
 have le244 : decide ((b : Int) <= (244 : Int)) = false := decide_eq_false (by omega)
 obtain ⟨⟨c0, f0⟩, ⟨c1, f1⟩, ⟨c2, f2⟩, c3, f3⟩ := pblk4 h
 have H := Lib.hid h
 clear h
 go_enter Tryz.func315, Tryz.ntmps315
 go_wp2
 go_ret
 refine ⟨_, rfl, ⟨0, 128, 191, ?_, ?_, OK.out⟩, Own.lit .i32 _ _ [bad] _ 1 (by simp) rfl rfl (by omega), ?_, (fun b' hb' => by have h9 := Option.some.inj hb'; simp at h9; omega)⟩
 ·show _ = some (Obj.cells #[.int .i32 (0), .int .i64 0, .int .u8 128, .int .u8 191] 252 (0, 0))
  (repeat (first | with_reducible exact H.out | with_reducible apply blk_alloc | with_reducible apply blk4_s0 | with_reducible apply blk4_s1 | with_reducible apply blk4_s2 | with_reducible apply blk4_s3))
 ·intro h0; first | (simp at h0; done) | exact ⟨rfl, rfl, rfl⟩ | (refine ⟨?_, ?_, ?_⟩ <;> simp)
 ·(repeat (first | with_reducible exact Kept.refl _ _ | with_reducible apply Kept.alloc | with_reducible apply Kept.setAt))
set_option maxRecDepth 100000 in
set_option maxHeartbeats 2000000 in
theorem begin_v224 (p : Nat) (x0 x1 x2 x3 : Int) (w : World) (h : w.heap[p]? = some (.cells #[.int .i32 x0, .int .i64 x1, .int .u8 x2, .int .u8 x3] 252 (0, 0))) :
  Calls Tryz.prog 315 #[.pointer (some ⟨p, 0, none⟩), .int .u8 224] w (BeginPost .i32 21 DecAt p (first 224) w) := by
 have e1 : first 224 = (⟨2, 0, 160, 191⟩, []) := rfl
 have hok := first_ok 224
 rw [e1] at hok ⊢
 have OK := Lib.hid hok
 clear e1 hok
 have hand : bits BinOp.and IntKind.u8 224 15 = 0 := by decide
 obtain ⟨⟨c0, f0⟩, ⟨c1, f1⟩, ⟨c2, f2⟩, c3, f3⟩ := pblk4 h
 have H := Lib.hid h
 clear h
 go_enter Tryz.func315, Tryz.ntmps315
 go_wp2
 go_ret
 refine ⟨_, rfl, ⟨0, 160, 191, ?_, ?_, OK.out⟩, Own.nil _ _ _, ?_, (fun b' hb' => by cases hb')⟩
 ·show _ = some (Obj.cells #[.int .i32 (0), .int .i64 2, .int .u8 160, .int .u8 191] 252 (0, 0))
  (repeat (first | with_reducible exact H.out | with_reducible apply blk_alloc | with_reducible apply blk4_s0 | with_reducible apply blk4_s1 | with_reducible apply blk4_s2 | with_reducible apply blk4_s3))
 ·intro h0; first | (simp at h0; done) | exact ⟨rfl, rfl, rfl⟩ | (refine ⟨?_, ?_, ?_⟩ <;> simp)
 ·(repeat (first | with_reducible exact Kept.refl _ _ | with_reducible apply Kept.alloc | with_reducible apply Kept.setAt))
set_option maxRecDepth 100000 in
set_option maxHeartbeats 2000000 in
theorem begin_v237 (p : Nat) (x0 x1 x2 x3 : Int) (w : World) (h : w.heap[p]? = some (.cells #[.int .i32 x0, .int .i64 x1, .int .u8 x2, .int .u8 x3] 252 (0, 0))) :
  Calls Tryz.prog 315 #[.pointer (some ⟨p, 0, none⟩), .int .u8 237] w (BeginPost .i32 21 DecAt p (first 237) w) := by
 have e1 : first 237 = (⟨2, 13, 128, 159⟩, []) := rfl
 have hok := first_ok 237
 rw [e1] at hok ⊢
 have OK := Lib.hid hok
 clear e1 hok
 have hand : bits BinOp.and IntKind.u8 237 15 = 13 := by decide
 obtain ⟨⟨c0, f0⟩, ⟨c1, f1⟩, ⟨c2, f2⟩, c3, f3⟩ := pblk4 h
 have H := Lib.hid h
 clear h
 go_enter Tryz.func315, Tryz.ntmps315
 go_wp2
 go_ret
 refine ⟨_, rfl, ⟨13, 128, 159, ?_, ?_, OK.out⟩, Own.nil _ _ _, ?_, (fun b' hb' => by cases hb')⟩
 ·show _ = some (Obj.cells #[.int .i32 (13), .int .i64 2, .int .u8 128, .int .u8 159] 252 (0, 0))
  (repeat (first | with_reducible exact H.out | with_reducible apply blk_alloc | with_reducible apply blk4_s0 | with_reducible apply blk4_s1 | with_reducible apply blk4_s2 | with_reducible apply blk4_s3))
 ·intro h0; first | (simp at h0; done) | exact ⟨rfl, rfl, rfl⟩ | (refine ⟨?_, ?_, ?_⟩ <;> simp)
 ·(repeat (first | with_reducible exact Kept.refl _ _ | with_reducible apply Kept.alloc | with_reducible apply Kept.setAt))
set_option maxRecDepth 100000 in
set_option maxHeartbeats 2000000 in
theorem begin_v240 (p : Nat) (x0 x1 x2 x3 : Int) (w : World) (h : w.heap[p]? = some (.cells #[.int .i32 x0, .int .i64 x1, .int .u8 x2, .int .u8 x3] 252 (0, 0))) :
  Calls Tryz.prog 315 #[.pointer (some ⟨p, 0, none⟩), .int .u8 240] w (BeginPost .i32 21 DecAt p (first 240) w) := by
 have e1 : first 240 = (⟨3, 0, 144, 191⟩, []) := rfl
 have hok := first_ok 240
 rw [e1] at hok ⊢
 have OK := Lib.hid hok
 clear e1 hok
 have hand : bits BinOp.and IntKind.u8 240 7 = 0 := by decide
 obtain ⟨⟨c0, f0⟩, ⟨c1, f1⟩, ⟨c2, f2⟩, c3, f3⟩ := pblk4 h
 have H := Lib.hid h
 clear h
 go_enter Tryz.func315, Tryz.ntmps315
 go_wp2
 go_ret
 refine ⟨_, rfl, ⟨0, 144, 191, ?_, ?_, OK.out⟩, Own.nil _ _ _, ?_, (fun b' hb' => by cases hb')⟩
 ·show _ = some (Obj.cells #[.int .i32 (0), .int .i64 3, .int .u8 144, .int .u8 191] 252 (0, 0))
  (repeat (first | with_reducible exact H.out | with_reducible apply blk_alloc | with_reducible apply blk4_s0 | with_reducible apply blk4_s1 | with_reducible apply blk4_s2 | with_reducible apply blk4_s3))
 ·intro h0; first | (simp at h0; done) | exact ⟨rfl, rfl, rfl⟩ | (refine ⟨?_, ?_, ?_⟩ <;> simp)
 ·(repeat (first | with_reducible exact Kept.refl _ _ | with_reducible apply Kept.alloc | with_reducible apply Kept.setAt))
set_option maxRecDepth 100000 in
set_option maxHeartbeats 2000000 in
theorem begin_v244 (p : Nat) (x0 x1 x2 x3 : Int) (w : World) (h : w.heap[p]? = some (.cells #[.int .i32 x0, .int .i64 x1, .int .u8 x2, .int .u8 x3] 252 (0, 0))) :
  Calls Tryz.prog 315 #[.pointer (some ⟨p, 0, none⟩), .int .u8 244] w (BeginPost .i32 21 DecAt p (first 244) w) := by
 have e1 : first 244 = (⟨3, 4, 128, 143⟩, []) := rfl
 have hok := first_ok 244
 rw [e1] at hok ⊢
 have OK := Lib.hid hok
 clear e1 hok
 have hand : bits BinOp.and IntKind.u8 244 7 = 4 := by decide
 obtain ⟨⟨c0, f0⟩, ⟨c1, f1⟩, ⟨c2, f2⟩, c3, f3⟩ := pblk4 h
 have H := Lib.hid h
 clear h
 go_enter Tryz.func315, Tryz.ntmps315
 go_wp2
 go_ret
 refine ⟨_, rfl, ⟨4, 128, 143, ?_, ?_, OK.out⟩, Own.nil _ _ _, ?_, (fun b' hb' => by cases hb')⟩
 ·show _ = some (Obj.cells #[.int .i32 (4), .int .i64 3, .int .u8 128, .int .u8 143] 252 (0, 0))
  (repeat (first | with_reducible exact H.out | with_reducible apply blk_alloc | with_reducible apply blk4_s0 | with_reducible apply blk4_s1 | with_reducible apply blk4_s2 | with_reducible apply blk4_s3))
 ·intro h0; first | (simp at h0; done) | exact ⟨rfl, rfl, rfl⟩ | (refine ⟨?_, ?_, ?_⟩ <;> simp)
 ·(repeat (first | with_reducible exact Kept.refl _ _ | with_reducible apply Kept.alloc | with_reducible apply Kept.setAt))
theorem begin_any (p b : Nat) (x0 x1 x2 x3 : Int) (w : World) (h : w.heap[p]? = some (.cells #[.int .i32 x0, .int .i64 x1, .int .u8 x2, .int .u8 x3] 252 (0, 0))) (hb : b < 256) :
  Calls Tryz.prog 315 #[.pointer (some ⟨p, 0, none⟩), .int .u8 b] w (BeginPost .i32 21 DecAt p (first b) w) := by
 by_cases h1 : b < 128
 ·exact begin_a p b x0 x1 x2 x3 w h h1
 by_cases h2 : 194 <= b /\ b <= 223
 ·exact begin_b p b x0 x1 x2 x3 w h h2
 by_cases h3 : (225 <= b /\ b <= 236) \/ (238 <= b /\ b <= 239)
 ·exact begin_c p b x0 x1 x2 x3 w h h3
 by_cases h4 : 241 <= b /\ b <= 243
 ·exact begin_d p b x0 x1 x2 x3 w h h4
 by_cases h5 : 128 <= b /\ b < 194
 ·exact begin_e p b x0 x1 x2 x3 w h h5
 by_cases h6 : 245 <= b /\ b < 256
 ·exact begin_f p b x0 x1 x2 x3 w h h6
 rcases (show b = 224 \/ b = 237 \/ b = 240 \/ b = 244 by omega) with rfl | rfl | rfl | rfl
 ·exact begin_v224 p x0 x1 x2 x3 w h
 ·exact begin_v237 p x0 x1 x2 x3 w h
 ·exact begin_v240 p x0 x1 x2 x3 w h
 ·exact begin_v244 p x0 x1 x2 x3 w h
theorem or_join (x y k : Nat) (hy : y < 2 ^ k) : x * 2 ^ k ||| y = x * 2 ^ k + y := by
 rw [Nat.mul_comm, <- Nat.two_pow_add_eq_or_of_lt hy]
theorem i32_or_nat (a b : Nat) (ha : a < 2147483648) (hb : b < 2147483648) : bits .or .i32 (a : Int) (b : Int) = ((a ||| b : Nat) : Int) := by
 have hx : a ||| b < 2 ^ 31 := Nat.or_lt_two_pow (by omega) (by omega)
 show IntKind.i32.wrap ((BitVec.ofInt 32 (a : Int) ||| BitVec.ofInt 32 (b : Int)).toNat : Int) = _
 rw [BitVec.toNat_or, BitVec.ofInt_natCast, BitVec.ofInt_natCast, BitVec.toNat_ofNat, BitVec.toNat_ofNat, Nat.mod_eq_of_lt (show a < 2 ^ 32 by omega), Nat.mod_eq_of_lt (show b < 2 ^ 32 by omega), IntKind.wrap_i32]
 omega
set_option maxRecDepth 100000 in
set_option maxHeartbeats 2000000 in
theorem put_a (p b : Nat) (s : St) (w : World) (h : DecAt w p s) (hb : b < 256) (hl : s.left = 0) :
  Calls Tryz.prog 234 #[.pointer (some ⟨p, 0, none⟩), .int .u8 b] w (BeginPost .i32 21 DecAt p (put s b) w) := by
 have e1 : put s b = first b := if_pos hl
 rw [e1]
 obtain ⟨r, lo, hi, h1, -, -⟩ := h
 rw [hl] at h1
 obtain ⟨⟨c0, f0⟩, ⟨c1, f1⟩, ⟨c2, f2⟩, c3, f3⟩ := pblk4 h1
 have H := Lib.hid h1
 clear h1 e1 hl
 go_enter Tryz.func234, Tryz.ntmps234
 go_wp2_with fail
 refine (begin_any p b (r) (((0 : Nat) : Int)) (lo) (hi) _ H.out hb).mono ?_
 rintro e w1 ⟨v, rfl, h1, h2, h3, h4⟩
 go_wp2
 go_ret
 exact ⟨v, rfl, h1, h2, h3, h4⟩
set_option maxRecDepth 100000 in
set_option maxHeartbeats 4000000 in
theorem put_blo (p b : Nat) (s : St) (w : World) (h : DecAt w p s) (hb : b < 256) (hl : s.left ≠ 0) (hc : b < s.lo) :
  Calls Tryz.prog 234 #[.pointer (some ⟨p, 0, none⟩), .int .u8 b] w (BeginPost .i32 21 DecAt p (put s b) w) := by
 have e1 : put s b = ((first b).1, bad :: (first b).2) := by
  unfold put; rw [if_neg hl, if_pos (by omega)]
 rw [e1]
 obtain ⟨r, lo, hi, h1, h2, -⟩ := h
 obtain ⟨rfl, rfl, rfl⟩ := h2 (by omega)
 have hpw : p < w.heap.size := lt_of_blk h1
 have hl0 : ¬ (s.left : Int) = 0 := by omega
 have g1 : decide (b < s.lo) = true := decide_eq_true (by omega)
 obtain ⟨⟨c0, f0⟩, ⟨c1, f1⟩, ⟨c2, f2⟩, c3, f3⟩ := pblk4 h1
 have H := Lib.hid h1
 have hfl := first_len b
 clear h1 e1 h2 hc hl
 obtain ⟨i0, hi, hz0, hz1, hz2⟩ := info_parts Tryz.infoI32
 have HI := Lib.hid (And.intro hi (And.intro hz0 (And.intro hz1 hz2)))
 clear hi hz0 hz1 hz2
 go_enter Tryz.func234, Tryz.ntmps234
 go_wp2_with (first
  | (go_at_call 315; refine (begin_any p b (0) (0) (0) (0) _ (by (repeat (first | with_reducible exact H.out | with_reducible apply blk_alloc | with_reducible apply blk4_s0 | with_reducible apply blk4_s1 | with_reducible apply blk4_s2 | with_reducible apply blk4_s3))) hb).mono ?_; rintro e w3 ⟨v, rfl, hd3, ho3, hk3, hf3⟩; obtain ⟨a3, cp3, rfl, hs3, -, -, hn3, -⟩ := ho3.shape; have HS3 := Lib.hid hs3; have HN3 := Lib.hid hn3; have HD3 := Lib.hid hd3; have HF3 := Lib.hid hf3; have HL3 := Lib.hid ((Own.lit .i32 (e := 21) _ w.heap.size [65533] _ 1 (by simp) rfl rfl (by omega)).kept hk3 (fun b' hb' hh => by have h9 := Option.some.inj hb'; have h8 : w.heap.size = b' := h9; have h7 : b' = p := hh; omega)); clear ho3 hs3 hn3 hd3 hf3)
  | (at_builtin; refine wpList_appInts rfl (.tmp 30) (.tmp 33) 190 rfl 21 .i32 i0 (.int .i32 0) 4 Tryz.underlying190 HI.out.1 HI.out.2.1 HI.out.2.2.1 HI.out.2.2.2 rfl (.slice (some ⟨w.heap.size, 0, none⟩) 1 1) [65533] rfl HL3.out a3 (first b).2.length cp3 (first b).2 rfl HN3.out HS3.out (by simp; omega) (by simp [maxLen]; omega) ?_; intro v5 w5 ho5 hk5 hpr5; obtain ⟨a5, cp5, rfl, -⟩ := ho5.shape; have HO5 := Lib.hid ho5; have HP5 := Lib.hid hpr5; clear ho5 hpr5))
 go_ret
 have hkA : Kept (· = p) w w3 := Kept.then (by (repeat (first | with_reducible exact Kept.refl _ _ | with_reducible apply Kept.alloc | with_reducible apply Kept.setAt))) hk3
 have hkB : Kept (· = p) w _ := hkA.trans (hk5.mono (fun i _ hi => Or.inr (by have h9 := Option.some.inj hi; have h8 : w.heap.size = i := h9; omega)))
 refine ⟨_, rfl, HD3.out.kept hk5 (fun hh => by have h9 := Option.some.inj hh; have h8 : w.heap.size = p := h9; omega), HO5.out, hkB, fun b' hb' => ?_⟩
 have hz3 := hkA.size
 rcases HP5.out with h | h
 ·have hb2 := h.symm.trans hb'; have h9 := Option.some.inj hb2; have h8 : w.heap.size = b' := h9; omega
 ·have hb2 := h.symm.trans hb'; have h9 := Option.some.inj hb2; omega
set_option maxRecDepth 100000 in
set_option maxHeartbeats 4000000 in
theorem put_bhi (p b : Nat) (s : St) (w : World) (h : DecAt w p s) (hb : b < 256) (hl : s.left ≠ 0) (hc : ¬ b < s.lo /\ s.hi < b) :
  Calls Tryz.prog 234 #[.pointer (some ⟨p, 0, none⟩), .int .u8 b] w (BeginPost .i32 21 DecAt p (put s b) w) := by
 have e1 : put s b = ((first b).1, bad :: (first b).2) := by
  unfold put; rw [if_neg hl, if_pos (by omega)]
 rw [e1]
 obtain ⟨r, lo, hi, h1, h2, -⟩ := h
 obtain ⟨rfl, rfl, rfl⟩ := h2 (by omega)
 have hpw : p < w.heap.size := lt_of_blk h1
 have hl0 : ¬ (s.left : Int) = 0 := by omega
 have g1 : decide (b < s.lo) = false := decide_eq_false (by omega)
 have g2 : decide (s.hi < b) = true := decide_eq_true (by omega)
 obtain ⟨⟨c0, f0⟩, ⟨c1, f1⟩, ⟨c2, f2⟩, c3, f3⟩ := pblk4 h1
 have H := Lib.hid h1
 have hfl := first_len b
 clear h1 e1 h2 hc hl
 obtain ⟨i0, hi, hz0, hz1, hz2⟩ := info_parts Tryz.infoI32
 have HI := Lib.hid (And.intro hi (And.intro hz0 (And.intro hz1 hz2)))
 clear hi hz0 hz1 hz2
 go_enter Tryz.func234, Tryz.ntmps234
 go_wp2_with (first
  | (go_at_call 315; refine (begin_any p b (0) (0) (0) (0) _ (by (repeat (first | with_reducible exact H.out | with_reducible apply blk_alloc | with_reducible apply blk4_s0 | with_reducible apply blk4_s1 | with_reducible apply blk4_s2 | with_reducible apply blk4_s3))) hb).mono ?_; rintro e w3 ⟨v, rfl, hd3, ho3, hk3, hf3⟩; obtain ⟨a3, cp3, rfl, hs3, -, -, hn3, -⟩ := ho3.shape; have HS3 := Lib.hid hs3; have HN3 := Lib.hid hn3; have HD3 := Lib.hid hd3; have HF3 := Lib.hid hf3; have HL3 := Lib.hid ((Own.lit .i32 (e := 21) _ w.heap.size [65533] _ 1 (by simp) rfl rfl (by omega)).kept hk3 (fun b' hb' hh => by have h9 := Option.some.inj hb'; have h8 : w.heap.size = b' := h9; have h7 : b' = p := hh; omega)); clear ho3 hs3 hn3 hd3 hf3)
  | (at_builtin; refine wpList_appInts rfl (.tmp 30) (.tmp 33) 190 rfl 21 .i32 i0 (.int .i32 0) 4 Tryz.underlying190 HI.out.1 HI.out.2.1 HI.out.2.2.1 HI.out.2.2.2 rfl (.slice (some ⟨w.heap.size, 0, none⟩) 1 1) [65533] rfl HL3.out a3 (first b).2.length cp3 (first b).2 rfl HN3.out HS3.out (by simp; omega) (by simp [maxLen]; omega) ?_; intro v5 w5 ho5 hk5 hpr5; obtain ⟨a5, cp5, rfl, -⟩ := ho5.shape; have HO5 := Lib.hid ho5; have HP5 := Lib.hid hpr5; clear ho5 hpr5))
 go_ret
 have hkA : Kept (· = p) w w3 := Kept.then (by (repeat (first | with_reducible exact Kept.refl _ _ | with_reducible apply Kept.alloc | with_reducible apply Kept.setAt))) hk3
 have hkB : Kept (· = p) w _ := hkA.trans (hk5.mono (fun i _ hi => Or.inr (by have h9 := Option.some.inj hi; have h8 : w.heap.size = i := h9; omega)))
 refine ⟨_, rfl, HD3.out.kept hk5 (fun hh => by have h9 := Option.some.inj hh; have h8 : w.heap.size = p := h9; omega), HO5.out, hkB, fun b' hb' => ?_⟩
 have hz3 := hkA.size
 rcases HP5.out with h | h
 ·have hb2 := h.symm.trans hb'; have h9 := Option.some.inj hb2; have h8 : w.heap.size = b' := h9; omega
 ·have hb2 := h.symm.trans hb'; have h9 := Option.some.inj hb2; omega
set_option maxRecDepth 100000 in
set_option maxHeartbeats 4000000 in
theorem put_c (p b : Nat) (s : St) (w : World) (h : DecAt w p s) (hb : b < 256) (hl : s.left = 1) (hlo : ¬ (b < s.lo \/ s.hi < b)) :
  Calls Tryz.prog 234 #[.pointer (some ⟨p, 0, none⟩), .int .u8 b] w (BeginPost .i32 21 DecAt p (put s b) w) := by
 have hok : OkS s := by obtain ⟨_, _, _, _, _, h⟩ := h; exact h
 have hpv := put_v hok (by omega) b
 have hpo := put_ok hok b
 have e1 : put s b = (⟨0, 0, 0, 0⟩, [((s.v * 64 + b % 64 : Nat) : Int)]) := by
  unfold put; rw [if_neg (by omega), if_neg hlo, if_pos hl]
 rw [e1] at hpo ⊢
 have OK := Lib.hid hpo
 obtain ⟨r, lo, hi, h1, h2, -⟩ := h
 obtain ⟨rfl, rfl, rfl⟩ := h2 (by omega)
 have hl0 : ¬ (s.left : Int) = 0 := by omega
 have hl3 : s.left <= 3 := hok.1
 have g1 : decide (b < s.lo) = false := decide_eq_false (by omega)
 have g2 : decide (s.hi < b) = false := decide_eq_false (by omega)
 have hand : bits BinOp.and IntKind.u8 (b : Int) 63 = ((b % 64 : Nat) : Int) := by
  rw [show (63 : Int) = ((63 : Nat) : Int) from rfl, u8_and_nat _ _ (by omega) (by omega), show 63 = 2 ^ 6 - 1 by decide, Nat.and_two_pow_sub_one_eq_mod]
 have hor : bits BinOp.or IntKind.i32 ((s.v : Int) * 64) ((b % 64 : Nat) : Int) = ((s.v * 64 + b % 64 : Nat) : Int) := by
  rw [show (s.v : Int) * 64 = ((s.v * 64 : Nat) : Int) by omega, i32_or_nat _ _ (by omega) (by omega), show s.v * 64 = s.v * 2 ^ 6 by rfl, or_join _ _ 6 (by omega)]
 have hv0 : s.v * 64 < 2097152 := by omega
 obtain ⟨⟨c0, f0⟩, ⟨c1, f1⟩, ⟨c2, f2⟩, c3, f3⟩ := pblk4 h1
 have H := Lib.hid h1
 have hl1 : (s.left : Int) = 1 := by omega
 clear h1 e1 h2 hlo hpo hok
 go_enter Tryz.func234, Tryz.ntmps234
 go_wp2
 go_ret
 have hle : ((s.left - 1 : Nat) : Int) = (s.left : Int) - 1 := by omega
 refine ⟨_, rfl, ⟨(s.v : Int) * 64 + (b : Int) % 64, 128, 191, ?_, ?_, OK.out⟩, Own.lit .i32 _ _ [((s.v * 64 + b % 64 : Nat) : Int)] _ 1 (by simp) (by simp) rfl (by omega), ?_, (fun b' hb' => by have h9 := Option.some.inj hb'; simp at h9; omega)⟩
 ·show _ = some (Obj.cells #[.int .i32 ((s.v : Int) * 64 + (b : Int) % 64), .int .i64 0, .int .u8 128, .int .u8 191] 252 (0, 0))
  skip
  (repeat (first | with_reducible exact H.out | with_reducible apply blk_alloc | with_reducible apply blk4_s0 | with_reducible apply blk4_s1 | with_reducible apply blk4_s2 | with_reducible apply blk4_s3))
 ·intro h0; first | (simp at h0; done) | exact ⟨by show _ = ((s.v * 64 + b % 64 : Nat) : Int); omega, rfl, rfl⟩
 ·(repeat (first | with_reducible exact Kept.refl _ _ | with_reducible apply Kept.alloc | with_reducible apply Kept.setAt))
set_option maxRecDepth 100000 in
set_option maxHeartbeats 4000000 in
theorem put_d (p b : Nat) (s : St) (w : World) (h : DecAt w p s) (hb : b < 256) (hl : 2 <= s.left) (hlo : ¬ (b < s.lo \/ s.hi < b)) :
  Calls Tryz.prog 234 #[.pointer (some ⟨p, 0, none⟩), .int .u8 b] w (BeginPost .i32 21 DecAt p (put s b) w) := by
 have hok : OkS s := by obtain ⟨_, _, _, _, _, h⟩ := h; exact h
 have hpv := put_v hok (by omega) b
 have hpo := put_ok hok b
 have e1 : put s b = (⟨s.left - 1, s.v * 64 + b % 64, 128, 191⟩, []) := by
  unfold put; rw [if_neg (by omega), if_neg hlo, if_neg (by omega)]
 rw [e1] at hpo ⊢
 have OK := Lib.hid hpo
 obtain ⟨r, lo, hi, h1, h2, -⟩ := h
 obtain ⟨rfl, rfl, rfl⟩ := h2 (by omega)
 have hl0 : ¬ (s.left : Int) = 0 := by omega
 have hl3 : s.left <= 3 := hok.1
 have g1 : decide (b < s.lo) = false := decide_eq_false (by omega)
 have g2 : decide (s.hi < b) = false := decide_eq_false (by omega)
 have hand : bits BinOp.and IntKind.u8 (b : Int) 63 = ((b % 64 : Nat) : Int) := by
  rw [show (63 : Int) = ((63 : Nat) : Int) from rfl, u8_and_nat _ _ (by omega) (by omega), show 63 = 2 ^ 6 - 1 by decide, Nat.and_two_pow_sub_one_eq_mod]
 have hor : bits BinOp.or IntKind.i32 ((s.v : Int) * 64) ((b % 64 : Nat) : Int) = ((s.v * 64 + b % 64 : Nat) : Int) := by
  rw [show (s.v : Int) * 64 = ((s.v * 64 : Nat) : Int) by omega, i32_or_nat _ _ (by omega) (by omega), show s.v * 64 = s.v * 2 ^ 6 by rfl, or_join _ _ 6 (by omega)]
 have hv0 : s.v * 64 < 2097152 := by omega
 obtain ⟨⟨c0, f0⟩, ⟨c1, f1⟩, ⟨c2, f2⟩, c3, f3⟩ := pblk4 h1
 have H := Lib.hid h1
 have g3 : decide ((0 : Int) < (s.left : Int) - 1) = true := decide_eq_true (by omega)
 clear h1 e1 h2 hlo hpo hok
 go_enter Tryz.func234, Tryz.ntmps234
 go_wp2
 go_ret
 have hle : ((s.left - 1 : Nat) : Int) = (s.left : Int) - 1 := by omega
 refine ⟨_, rfl, ⟨(s.v : Int) * 64 + (b : Int) % 64, 128, 191, ?_, ?_, OK.out⟩, Own.nil _ _ _, ?_, (fun b' hb' => by cases hb')⟩
 ·show _ = some (Obj.cells #[.int .i32 ((s.v : Int) * 64 + (b : Int) % 64), .int .i64 ((s.left - 1 : Nat) : Int), .int .u8 128, .int .u8 191] 252 (0, 0))
  rw [hle]
  (repeat (first | with_reducible exact H.out | with_reducible apply blk_alloc | with_reducible apply blk4_s0 | with_reducible apply blk4_s1 | with_reducible apply blk4_s2 | with_reducible apply blk4_s3))
 ·intro h0; first | (simp at h0; done) | exact ⟨by show _ = ((s.v * 64 + b % 64 : Nat) : Int); omega, rfl, rfl⟩
 ·(repeat (first | with_reducible exact Kept.refl _ _ | with_reducible apply Kept.alloc | with_reducible apply Kept.setAt))
theorem put_any (p b : Nat) (s : St) (w : World) (h : DecAt w p s) (hb : b < 256) :
  Calls Tryz.prog 234 #[.pointer (some ⟨p, 0, none⟩), .int .u8 b] w (BeginPost .i32 21 DecAt p (put s b) w) := by
 by_cases h0 : s.left = 0
 ·exact put_a p b s w h hb h0
 by_cases h1 : b < s.lo
 ·exact put_blo p b s w h hb h0 h1
 by_cases h2 : s.hi < b
 ·exact put_bhi p b s w h hb h0 ⟨h1, h2⟩
 by_cases h3 : s.left = 1
 ·exact put_c p b s w h hb h3 (by omega)
 ·exact put_d p b s w h hb (by omega) (by omega)
set_option maxRecDepth 100000 in
set_option maxHeartbeats 1000000 in
theorem waits_any (p : Nat) (s : St) (w : World) (h : DecAt w p s) :
  Calls Tryz.prog 171 #[.pointer (some ⟨p, 0, none⟩)] w fun en w' => en = .returned (.bool (decide (0 < s.left))) /\ w = w' := by
 obtain ⟨r, lo, hi, h1, h2, -⟩ := h
 obtain ⟨⟨c0, f0⟩, ⟨c1, f1⟩, ⟨c2, f2⟩, c3, f3⟩ := pblk4 h1
 clear h1 h2
 go_enter Tryz.func171, Tryz.ntmps171
 go_wp2
 go_ret
 exact ⟨ret_bool (by simp), rfl⟩
set_option maxRecDepth 100000 in
set_option maxHeartbeats 2000000 in
theorem fin_any (p : Nat) (s : St) (w : World) (h : DecAt w p s) :
  Calls Tryz.prog 120 #[.pointer (some ⟨p, 0, none⟩)] w (BeginPost .i32 21 DecAt p (s0, fin s) w) := by
 have HD := Lib.hid h
 obtain ⟨r, lo, hi, h1, h2, -⟩ := h
 have hpw : p < w.heap.size := lt_of_blk h1
 obtain ⟨⟨c0, f0⟩, ⟨c1, f1⟩, ⟨c2, f2⟩, c3, f3⟩ := pblk4 h1
 have H := Lib.hid h1
 clear h1 h2
 by_cases hl : s.left = 0
 ·have e1 : fin s = [] := if_pos hl
  have g1 : decide (0 < s.left) = false := decide_eq_false (by omega)
  rw [e1]
  clear e1
  go_enter Tryz.func120, Tryz.ntmps120
  go_wp2_with (go_at_call 171; refine (waits_any p s _ HD.out).mono ?_; rintro e w' ⟨rfl, rfl⟩)
  go_ret
  refine ⟨_, rfl, ⟨0, 0, 0, ?_, fun h => absurd h (by simp [s0]), ok0⟩, Own.nil _ _ _, ?_, (fun b' hb' => by cases hb')⟩
  ·show _ = some (Obj.cells #[.int .i32 0, .int .i64 0, .int .u8 0, .int .u8 0] 252 (0, 0))
   (repeat (first | with_reducible exact H.out | with_reducible apply blk_alloc | with_reducible apply blk4_s0 | with_reducible apply blk4_s1 | with_reducible apply blk4_s2 | with_reducible apply blk4_s3))
  ·(repeat (first | with_reducible exact Kept.refl _ _ | with_reducible apply Kept.alloc | with_reducible apply Kept.setAt))
 ·have e1 : fin s = [bad] := if_neg hl
  have g1 : decide (0 < s.left) = true := decide_eq_true (by omega)
  rw [e1]
  clear e1
  go_enter Tryz.func120, Tryz.ntmps120
  go_wp2_with (go_at_call 171; refine (waits_any p s _ HD.out).mono ?_; rintro e w' ⟨rfl, rfl⟩)
  go_ret
  refine ⟨_, rfl, ⟨0, 0, 0, ?_, fun h => absurd h (by simp [s0]), ok0⟩, Own.lit .i32 _ _ [bad] _ 1 (by simp) rfl rfl (by omega), ?_, (fun b' hb' => by have h9 := Option.some.inj hb'; simp at h9; omega)⟩
  ·show _ = some (Obj.cells #[.int .i32 0, .int .i64 0, .int .u8 0, .int .u8 0] 252 (0, 0))
   (repeat (first | with_reducible exact H.out | with_reducible apply blk_alloc | with_reducible apply blk4_s0 | with_reducible apply blk4_s1 | with_reducible apply blk4_s2 | with_reducible apply blk4_s3))
  ·(repeat (first | with_reducible exact Kept.refl _ _ | with_reducible apply Kept.alloc | with_reducible apply Kept.setAt))
end Go.Proofs.YtmplpcmcbliadaaGreatDoor
namespace Go.Proofs.YtmplpcmcbliadaaGreatDoor
open Go.RowKit
theorem Tryz.infoByte : (Tryz.prog.info? 5).map (fun i => (i.zero, i.size, i.bytes)) = some (some (.int .u8 0), 1, 1) := by kernel_rfl
theorem Own.app_new {e : TypeId} {w w0 : World} {v v' : Value} {xs : List Int} (h : Own .u8 e w v' xs) (hp : v'.ownBlock = v.ownBlock \/ v'.ownBlock = some w0.heap.size) {B : Nat} (hB : B <= w0.heap.size) (hv : ∀ b, v.ownBlock = some b -> B <= b) : ∀ b, v'.ownBlock = some b -> B <= b := by
 intro b hb
 rcases hp with h1 | h1 <;> rw [h1] at hb
 ·exact hv b hb
 ·cases hb; exact hB
set_option maxRecDepth 100000 in
set_option maxHeartbeats 1000000 in
theorem pclone_any (a : Option Addr) (len cap : Nat) (xs : List Int) (w : World) (hs : SlAt .u8 w a len xs) (hn : a = none -> len = 0 /\ cap = 0) (hl : len <= 70368744177664) :
  Calls Tryz.prog 47 #[.slice a len cap] w fun e w' => ∃ v, e = .returned v /\ Own .u8 5 w' v xs /\ Kept (fun _ => False) w w' /\ ∀ b, v.ownBlock = some b -> w.heap.size <= b := by
 have hxl := hs.1
 cases a with
 | none =>
  obtain ⟨rfl, rfl⟩ := hn rfl
  have hx : xs = [] := List.eq_nil_of_length_eq_zero hxl
  subst hx
  have hq := @Lib.run_eql_slice_nil Tryz.prog
  go_enter Tryz.func47, Tryz.ntmps47
  go_wp2
  go_ret
  exact ⟨_, rfl, Own.nil _ _ _, Kept.refl _ _, fun _ h => by cases h⟩
 | some y =>
  obtain ⟨i0, hi, hz0, hz1, hz2⟩ := info_parts Tryz.infoByte
  have hs1 := hs.kept ((Kept.refl (fun _ => False) _).alloc (.cells #[] 5)) (fun _ _ _ _ => id)
  have hq := @Lib.run_eql_slice_nil Tryz.prog
  go_enter Tryz.func47, Tryz.ntmps47
  go_wp2_with (first
   | (at_builtin; refine wpList_appInts rfl (.tmp 5) (.tmp 6) 22 rfl 5 .u8 i0 (.int .u8 0) 1 Tryz.underlying22 hi hz0 hz1 hz2 rfl (.slice (some ⟨w.heap.size, 0, none⟩) 0 0) [] rfl (Own.new .u8 w) (some y) len cap xs rfl (fun h => by cases h) hs1 (by simp; omega) (by simp [maxLen]; omega) ?_; intro v5 w5 ho5 hk5 hpr5))
  go_ret
  refine ⟨_, rfl, by simpa using ho5, ((Kept.refl _ _).alloc _).trans (hk5.mono (fun k _ h => Or.inr (by cases h; exact Nat.le_refl _))), ?_⟩
  exact ho5.app_new hpr5 (by simp) (fun b h => by cases h; exact Nat.le_refl _)
theorem Tryz.infoInt8 : (Tryz.prog.info? 3).map (fun i => (i.zero, i.size, i.bytes)) = some (some (.int .i64 0), 1, 8) := by kernel_rfl
set_option maxRecDepth 100000 in
set_option maxHeartbeats 1000000 in
theorem clonei_any (a : Option Addr) (len cap : Nat) (xs : List Int) (w : World) (hs : SlAt .i64 w a len xs) (hn : a = none -> len = 0 /\ cap = 0) (hl : len <= 1048576) :
  Calls Tryz.prog 316 #[.slice a len cap] w fun e w' => ∃ v, e = .returned v /\ Own .i64 3 w' v xs /\ Kept (fun _ => False) w w' /\ ∀ b, v.ownBlock = some b -> w.heap.size <= b := by
 have hxl := hs.1
 cases a with
 | none =>
  obtain ⟨rfl, rfl⟩ := hn rfl
  have hx : xs = [] := List.eq_nil_of_length_eq_zero hxl
  subst hx
  have hq := @Lib.run_eql_slice_nil Tryz.prog
  go_enter Tryz.func316, Tryz.ntmps316
  go_wp2
  go_ret
  exact ⟨_, rfl, Own.nil _ _ _, Kept.refl _ _, fun _ h => by cases h⟩
 | some y =>
  obtain ⟨i0, hi, hz0, hz1, hz2⟩ := info_parts Tryz.infoInt8
  have hs1 := hs.kept ((Kept.refl (fun _ => False) _).alloc (.cells #[] 3)) (fun _ _ _ _ => id)
  have hq := @Lib.run_eql_slice_nil Tryz.prog
  go_enter Tryz.func316, Tryz.ntmps316
  go_wp2_with (first
   | (at_builtin; refine wpList_appInts rfl (.tmp 5) (.tmp 6) 31 rfl 3 .i64 i0 (.int .i64 0) 8 Tryz.underlying31 hi hz0 hz1 hz2 rfl (.slice (some ⟨w.heap.size, 0, none⟩) 0 0) [] rfl (Own.new .i64 w) (some y) len cap xs rfl (fun h => by cases h) hs1 (by simp; omega) (by simp [maxLen]; omega) ?_; intro v5 w5 ho5 hk5 hpr5))
  go_ret
  refine ⟨_, rfl, by simpa using ho5, ((Kept.refl _ _).alloc _).trans (hk5.mono (fun k _ h => Or.inr (by cases h; exact Nat.le_refl _))), ?_⟩
  intro b hb
  rcases hpr5 with h | h
  ·have h2 := h.symm.trans hb; cases h2; exact Nat.le_refl _
  ·have h2 := h.symm.trans hb; cases h2; simp
end Go.Proofs.YtmplpcmcbliadaaGreatDoor
