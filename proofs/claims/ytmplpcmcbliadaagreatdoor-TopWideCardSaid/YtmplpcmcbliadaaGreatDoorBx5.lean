/- Several texts in one: Val, Cut; CelR, LinD, TxtP: several texts in one; Lines: another length; Grids: small functions; Grids: rows of new lines; Grids: made, twinned; a line told; Grids: twins; a line told; Twins of rings and grids; A grid's line told; the ring's one; First; All lines of a grid told by a function; The screen's memory; what it tells of itself; Maps of modes: made, written, read. -/
import Derived.Test.YtmplpcmcbliadaaGreatDoorBx0
import Derived.Deep.Slices
import Derived.OpenShut
import Derived.Test.YtmplpcmcbliadaaGreatDoorBx3
import Derived.Test.YtmplpcmcbliadaaGreatDoorBx4
import Derived.Deep.Fields
import Derived.StillTail
import Derived.StillTailTactics
import Derived.Test.YtmplpcmcbliadaaGreatDoorBx9
import Derived.Deep.LoopGhost
import Derived.MapKept
set_option linter.unusedVariables false
set_option linter.unusedSimpArgs false
namespace Go.Proofs.YtmplpcmcbliadaaGreatDoor
open Go.RowKit
def OwnV (e : TypeId) (w : World) (v : Value) (xs : List Value) : Prop := w.ownsRow 0 e 1 v xs.length xs
theorem OwnV.nil (e : TypeId) (w : World) : OwnV e w (.slice none 0 0) [] := World.ownsRow_nil w 0 e 1
theorem OwnV.shape {e : TypeId} {w : World} {v : Value} {xs : List Value} (h : OwnV e w v xs) : ∃ a cap, v = .slice a xs.length cap /\ xs.length <= cap /\ cap <= maxLen /\ (a = none -> xs.length = 0 /\ cap = 0) /\ (0 < xs.length -> ∃ g, a = some ⟨g, 0, none⟩) /\ (∀ g, a = some ⟨g, 0, none⟩ -> v.ownBlock = some g) := by
 obtain ⟨h1, h2⟩ := h
 rcases h2 with ⟨rfl, h0⟩ | ⟨g, cap, cur, rfl, -, hg, hn, hc, hcs, ht⟩
 ·exact ⟨none, 0, by rw [h0], by omega, by simp [maxLen], fun _ => ⟨h0, rfl⟩, fun h => by omega, fun g h => by cases h⟩
 ·exact ⟨some ⟨g, 0, none⟩, cap, rfl, hn, hc, (fun h => by cases h), fun _ => ⟨g, rfl⟩, fun g' h => by cases h; rfl⟩
theorem OwnV.at {e : TypeId} {w : World} {g n cap : Nat} {xs : List Value} (h : OwnV e w (.slice (some ⟨g, 0, none⟩) n cap) xs) :
  xs.length = n /\ n <= cap /\ g < w.heap.size /\ (∀ j, j < n -> w.cell? ⟨g, j, none⟩ = xs[j]?) /\ ∀ j, w.frozen? ⟨g, j, none⟩ = false := by
 obtain ⟨h1, h2⟩ := h
 rcases h2 with ⟨h3, -⟩ | ⟨g', cap', cur, h3, -, hg, hn, hcm, hcs, ht⟩
 ·cases h3
 ·cases h3
  refine ⟨rfl, hn, lt_of_blk hg, fun j hj => ?_, fun j => blk_free hg j⟩
  rw [blk_cell hg]
  have h3 : (cur.toList.take (xs.length * 1))[j]? = xs[j]? := by rw [ht]
  rw [List.getElem?_take] at h3
  simp only [Nat.mul_one, hj, if_true, Array.getElem?_toList] at h3
  exact h3
theorem OwnV.kept {e : TypeId} {S : Nat -> Prop} {w w' : World} {v : Value} {xs : List Value} (h : OwnV e w v xs) (hk : Kept S w w') (hn : ∀ b, v.ownBlock = some b -> ¬ S b) : OwnV e w' v xs := by
 obtain ⟨h1, h2⟩ := h
 refine ⟨h1, ?_⟩
 rcases h2 with h2 | ⟨g, cap, cur, rfl, hb, hg, r⟩
 ·exact .inl h2
 ·exact .inr ⟨g, cap, cur, rfl, hb, hk.blk hg (hn g rfl), r⟩
theorem OwnV.lt {e : TypeId} {w : World} {v : Value} {xs : List Value} (h : OwnV e w v xs) : ∀ b, v.ownBlock = some b -> b < w.heap.size := fun b hb => (World.ownsRow.lt h b hb).2
theorem OwnV.set {e : TypeId} {w : World} {g n cap : Nat} {xs : List Value} (h : OwnV e w (.slice (some ⟨g, 0, none⟩) n cap) xs) (i : Nat) {x : Value} (hx : x.oneCell' = true) :
  OwnV e (w.setCell ⟨g, i, none⟩ x) (.slice (some ⟨g, 0, none⟩) n cap) (xs.set i x) := by
 have hxl := h.at.1
 obtain ⟨h1, h2⟩ := h
 rcases h2 with ⟨h3, -⟩ | ⟨g', cap', cur, h3, -, hg, hn, hcm, hcs, ht⟩
 ·cases h3
 ·cases h3
  refine ⟨by simp, .inr ⟨g, cap, cur.setIfInBounds i x, by simp, Nat.zero_le _, blk_set hg i _, by simpa using hn, hcm, by simpa using hcs, ?_⟩⟩
  rw [Array.toList_setIfInBounds, List.length_set, List.take_set, ht]
theorem wpList_appV {P : Program} {w : World} {ops : Array Oper} {rest : List Oper} {o : Oper} {a : Act} {Q : Exit -> Act -> World -> Prop} (hgd : o.guard = none) (s x : Operand) (t : TypeId)
  (ho : o.op = .call { callee := .builtin .append, args := #[s, x], argTypes := #[t, t] })
  (e : TypeId) (i : TypeInfo) (z : Value) (bytes : Nat) (ht : P.underlying t = some (.slice e)) (hi : P.info? e = some i) (hz : i.zero = some z)
  (hsize : i.size = 1) (hby : i.bytes = bytes) (hzs : z.cells.size = 1)
  (v : Value) (xs : List Value) (hs : a.eval s = v) (hown : OwnV e w v xs)
  (ad : Option Addr) (m c : Nat) (ys : List Value) (hx : a.eval x = .slice ad m c) (hnil : ad = none -> m = 0 /\ c = 0) (hl : ys.length = m) (h1 : ∀ u ∈ ys, u.oneCell' = true)
  (hsl : ∀ y, ad = some y -> ∀ j u, ys[j]? = some u -> w.cell? (y.add j) = some u)
  (hbytes : (xs.length + m) * bytes <= 140737488355328) (h63 : xs.length + m <= maxLen)
  (h : ∀ v' w', OwnV e w' v' (xs ++ ys) -> Kept (fun k => v.ownBlock = some k) w w' -> (v'.ownBlock = v.ownBlock \/ v'.ownBlock = some w.heap.size) -> wpList P ops Q rest (a.put o.dst v') w') : wpList P ops Q (o :: rest) a w := by
 refine wpList_app hgd s x t ho e i z 1 bytes ht hi hz hsize hby hzs (by omega) v xs.length _ hs hown ad m c ys hx hnil (by simp [hl]) hsl h1 h63 hbytes fun v' w' h1 h2 h3 => h v' w' ?_ h2 h3
 show World.ownsRow _ _ _ _ _ _ _
 rw [List.length_append, hl]
 exact h1
theorem one_lit {w : World} {b : Nat} {x : Value} {t : TypeId} {f : Nat × Nat} (hb : w.heap[b]? = some (.cells #[x] t f)) : ∀ y, (some (⟨b, 0, none⟩ : Addr)) = some y -> ∀ j u, [x][j]? = some u -> w.cell? (y.add j) = some u := by
 intro y hy j u hu
 cases hy
 match j, hu with
 | 0, hu => cases hu; exact blk_cell hb 0
 | j + 1, hu => cases hu
theorem appV_field {e T : TypeId} {w wa w5 : World} {p i : Nat} {C : Array Value} {v v5 : Value} {zs : List Value} {o : Option Nat} (hb : w.heap[p]? = some (.cells C T (0, 0))) (hvo : v.ownBlock = o) (hop : o ≠ some p)
  (hka : Kept (fun _ => False) w wa) (ho5 : OwnV e w5 v5 zs) (hk5 : Kept (fun k => v.ownBlock = some k) wa w5) (hpr5 : v5.ownBlock = v.ownBlock \/ v5.ownBlock = some wa.heap.size) :
  (w5.setCell ⟨p, i, none⟩ v5).heap[p]? = some (.cells (C.setIfInBounds i v5) T (0, 0)) /\ OwnV e (w5.setCell ⟨p, i, none⟩ v5) v5 zs /\ v5.ownBlock ≠ some p /\ Kept (fun j => j = p \/ o = some j) w (w5.setCell ⟨p, i, none⟩ v5) /\ (v5.ownBlock = o \/ ∃ b, v5.ownBlock = some b /\ w.heap.size <= b) := by
 have hpw : p < w.heap.size := lt_of_blk hb
 have hza := hka.size
 have hb5 : w5.heap[p]? = some (.cells C T (0, 0)) := hk5.blk (hka.blk hb id) (fun h => hop (by rw [<- hvo]; exact h))
 have h5p : v5.ownBlock ≠ some p := by
  intro h
  rcases hpr5 with h2 | h2
  ·exact hop (by rw [<- hvo, <- h2, h])
  ·rw [h] at h2; have h3 := Option.some.inj h2; omega
 have hk : Kept (fun j => j = p \/ o = some j) w w5 := (hka.mono (fun _ _ h => h.elim)).then (hk5.mono (fun i _ hi => Or.inr (by rw [<- hvo]; exact hi)))
 refine ⟨blk_set hb5 i v5, ho5.kept (S := (· = p)) ((Kept.refl (· = p) w5).setCell (p := ⟨p, i, none⟩) (.inl rfl) _) (fun b hb hbp => h5p (by rw [hb]; exact congrArg some hbp)), h5p, hk.setCell (p := ⟨p, i, none⟩) (.inl (.inl rfl)) _, ?_⟩
 rcases hpr5 with h | h
 ·exact .inl (h.trans hvo)
 ·exact .inr ⟨_, h, hza⟩
structure Q4 where
 a : Int
 b : Int
 c : Int
 d : Int
def IsQ (k : IntKind) (w : World) (a : Option Addr) (len : Nat) (Q : Nat -> Q4) : Prop :=
 len = 0 \/ ∃ b off, a = some ⟨b, off, none⟩ /\ b < w.heap.size /\ ∀ i, i < len -> w.cell? ⟨b, off + i * 4, none⟩ = some (.int k (Q i).a) /\ w.cell? ⟨b, off + (i * 4 + 1), none⟩ = some (.int k (Q i).b) /\ w.cell? ⟨b, off + (i * 4 + 2), none⟩ = some (.int k (Q i).c) /\ w.cell? ⟨b, off + (i * 4 + 3), none⟩ = some (.int k (Q i).d) /\ (Lit.int k (Q i).a).wf = true /\ (Lit.int k (Q i).b).wf = true /\ (Lit.int k (Q i).c).wf = true /\ (Lit.int k (Q i).d).wf = true
theorem IsQ.kept {k : IntKind} {w w' : World} {a : Option Addr} {len : Nat} {Q : Nat -> Q4} (h : IsQ k w a len Q) (hk : Kept (fun _ => False) w w') : IsQ k w' a len Q := by
 refine h.imp (fun h => h) fun ⟨b, off, ha, hb, hc⟩ => ⟨b, off, ha, Nat.lt_of_lt_of_le hb hk.size, fun i hi => ?_⟩
 obtain ⟨h0, h1, h2, h3, hw⟩ := hc i hi
 exact ⟨hk.cell h0 id, hk.cell h1 id, hk.cell h2 id, hk.cell h3 id, hw⟩
section
open Go.ChangeShapes Go.WideShapes Go.ChangeAt Go.Joins Go.Deep
variable {H : Type} {enc : TypeId × Value -> H} {P : Program} {W : World} {r : Reach} {b0 : Nat} {t e e1 : TypeId} {v : Value} {d : DataW H} {p : List MemPlace}
end
end Go.Proofs.YtmplpcmcbliadaaGreatDoor
namespace Go.Proofs.YtmplpcmcbliadaaGreatDoor
open Go.RowKit Go.Sort
end Go.Proofs.YtmplpcmcbliadaaGreatDoor
namespace Go.Proofs.YtmplpcmcbliadaaGreatDoor
open Go.RowKit Go.Sort Pl
theorem Cl.vs_len (p : Cl) : p.vs.length = 5 := rfl
def CAt (w : World) (b o : Nat) (p : Cl) : Prop := ∀ f, f < 5 -> w.cell? ⟨b, o + f, none⟩ = p.vs[f]?
theorem CAt.kept {S : Nat -> Prop} {w w' : World} {b o : Nat} {p : Cl} (h : CAt w b o p) (hk : Kept S w w') (hn : ¬ S b) : CAt w' b o p := fun f hf => by
 have hv : p.vs[f]? = some (p.vs[f]'(by rw [p.vs_len]; exact hf)) := List.getElem?_eq_getElem _
 rw [hv]
 exact hk.cell ((h f hf).trans hv) hn
def flat (L : List Cl) : List Value := L.flatMap Cl.vs
theorem flat_length (L : List Cl) : (flat L).length = L.length * 5 := by
 induction L with
 | nil => rfl
 | cons p L ih => show (p.vs ++ flat L).length = _; rw [List.length_append, ih, p.vs_len, List.length_cons]; omega
theorem flat_append (L M : List Cl) : flat (L ++ M) = flat L ++ flat M := by unfold flat; rw [List.flatMap_append]
theorem flat_get : ∀ (L : List Cl) (j f : Nat) (p : Cl), L[j]? = some p -> f < 5 -> (flat L)[j * 5 + f]? = p.vs[f]?
 | [], j, f, p, h, _ => by simp at h
 | q :: L, 0, f, p, h, hf => by
  simp at h; subst h
  show (q.vs ++ flat L)[0 * 5 + f]? = _
  rw [Nat.zero_mul, Nat.zero_add, List.getElem?_append_left (by rw [q.vs_len]; exact hf)]
 | q :: L, j + 1, f, p, h, hf => by
  show (q.vs ++ flat L)[(j + 1) * 5 + f]? = _
  rw [List.getElem?_append_right (by rw [q.vs_len]; omega), q.vs_len, show (j + 1) * 5 + f - 5 = j * 5 + f by omega]
  exact flat_get L j f p (by simpa using h) hf
theorem flat_one (L : List Cl) : ∀ u ∈ flat L, u.oneCell' = true := by
 intro u hu
 obtain ⟨p, -, hp⟩ := List.mem_flatMap.1 hu
 simp only [Cl.vs, List.mem_cons, List.not_mem_nil, or_false] at hp
 rcases hp with rfl | rfl | rfl | rfl | rfl <;> rfl
def SlC (w : World) (a : Option Addr) (n : Nat) (L : List Cl) : Prop := L.length = n /\ (n = 0 \/ ∃ b off, a = some ⟨b, off, none⟩ /\ ∀ j p, L[j]? = some p -> CAt w b (off + j * 5) p)
theorem SlC.kept {S : Nat -> Prop} {w w' : World} {a : Option Addr} {n : Nat} {L : List Cl} (h : SlC w a n L) (hk : Kept S w w') (hn : ∀ b off, 0 < n -> a = some ⟨b, off, none⟩ -> ¬ S b) : SlC w' a n L := by
 obtain ⟨h1, h2⟩ := h
 refine ⟨h1, ?_⟩
 by_cases h0 : n = 0
 ·exact .inl h0
 ·obtain ⟨b, off, ha, hc⟩ := h2.resolve_left h0
  exact .inr ⟨b, off, ha, fun j p hp => (hc j p hp).kept hk (hn b off (by omega) ha)⟩
def OwnC (w : World) (v : Value) (L : List Cl) : Prop := w.ownsRow 0 70 5 v L.length (flat L)
theorem OwnC.nil (w : World) : OwnC w (.slice none 0 0) [] := World.ownsRow_nil w 0 70 5
theorem OwnC.kept {S : Nat -> Prop} {w w' : World} {v : Value} {L : List Cl} (h : OwnC w v L) (hk : Kept S w w') (hn : ∀ b, v.ownBlock = some b -> ¬ S b) : OwnC w' v L := by
 obtain ⟨h1, h2⟩ := h
 refine ⟨h1, ?_⟩
 rcases h2 with h2 | ⟨g, cap, cur, rfl, hb, hg, r⟩
 ·exact .inl h2
 ·exact .inr ⟨g, cap, cur, rfl, hb, hk.blk hg (hn g rfl), r⟩
theorem OwnC.lt {w : World} {v : Value} {L : List Cl} (h : OwnC w v L) : ∀ b, v.ownBlock = some b -> b < w.heap.size := fun b hb => (World.ownsRow.lt h b hb).2
theorem OwnC.shape {w : World} {v : Value} {L : List Cl} (h : OwnC w v L) : ∃ a cap, v = .slice a L.length cap /\ SlC w a L.length L /\ L.length <= cap /\ cap <= maxLen /\ (a = none -> L.length = 0 /\ cap = 0) /\
  (∀ b off, a = some ⟨b, off, none⟩ -> v.ownBlock = some b) := by
 obtain ⟨h1, h2⟩ := h
 rcases h2 with ⟨rfl, h0⟩ | ⟨g, cap, cur, rfl, -, hg, hn, hc, hcs, ht⟩
 ·exact ⟨none, 0, by rw [h0], ⟨rfl, .inl h0⟩, by omega, by simp [maxLen], fun _ => ⟨h0, rfl⟩, fun _ _ h => by cases h⟩
 ·refine ⟨some ⟨g, 0, none⟩, cap, rfl, ⟨rfl, .inr ⟨g, 0, rfl, fun j p hp f hf => ?_⟩⟩, hn, hc, (fun h => by cases h), (fun b off h => by cases h; rfl)⟩
  have hj : j < L.length := (List.getElem?_eq_some_iff.1 hp).1
  rw [blk_cell hg]
  have h3 : (cur.toList.take (L.length * 5))[j * 5 + f]? = p.vs[f]? := by rw [ht]; exact flat_get L j f p hp hf
  rw [List.getElem?_take, if_pos (by omega)] at h3
  rw [Nat.zero_add]
  simpa using h3
theorem wpList_appC {P : Program} {w : World} {ops : Array Oper} {rest : List Oper} {o : Oper} {a : Act} {Q : Exit -> Act -> World -> Prop} (hgd : o.guard = none) (s x : Operand) (t : TypeId)
  (ho : o.op = .call { callee := .builtin .append, args := #[s, x], argTypes := #[t, t] })
  (i : TypeInfo) (z : Value) (bytes : Nat) (ht : P.underlying t = some (.slice 70)) (hi : P.info? 70 = some i) (hz : i.zero = some z)
  (hsize : i.size = 5) (hby : i.bytes = bytes) (hzs : z.cells.size = 5)
  (v : Value) (L : List Cl) (hs : a.eval s = v) (hown : OwnC w v L)
  (ad : Option Addr) (m c : Nat) (M : List Cl) (hx : a.eval x = .slice ad m c) (hnil : ad = none -> m = 0 /\ c = 0) (hsl : SlC w ad m M)
  (hbytes : (L.length + m) * bytes <= 140737488355328) (h63 : L.length + m <= maxLen)
  (h : ∀ v' w', OwnC w' v' (L ++ M) -> Kept (fun k => v.ownBlock = some k) w w' -> (v'.ownBlock = v.ownBlock \/ v'.ownBlock = some w.heap.size) -> wpList P ops Q rest (a.put o.dst v') w') : wpList P ops Q (o :: rest) a w := by
 refine wpList_app hgd s x t ho 70 i z 5 bytes ht hi hz hsize hby hzs (by omega) v L.length _ hs hown ad m c (flat M) hx hnil (by rw [flat_length, hsl.1]) ?_ (flat_one M) h63 hbytes fun v' w' h1 h2 h3 => h v' w' ?_ h2 h3
 ·rintro y rfl j u hu
  rcases hsl with ⟨hl, h0 | ⟨b, off, hy, hc⟩⟩
  ·have : M = [] := List.eq_nil_of_length_eq_zero (by omega)
   subst this
   cases hu
  ·cases hy
   have hj : j < M.length * 5 := by rw [<- flat_length]; exact (List.getElem?_eq_some_iff.1 hu).1
   have hq : j / 5 < M.length := by omega
   have hp : M[j / 5]? = some M[j / 5] := List.getElem?_eq_getElem hq
   have h1 := flat_get M (j / 5) (j % 5) _ hp (by omega)
   rw [show j / 5 * 5 + j % 5 = j by omega, hu] at h1
   have h2 := hc (j / 5) _ hp (j % 5) (by omega)
   rw [<- h1, show off + j / 5 * 5 + j % 5 = off + j by omega] at h2
   have e : (⟨b, off, none⟩ : Addr).add j = ⟨b, off + j, none⟩ := by unfold Addr.add; split <;> simp_all
   rw [e, h2]
 ·unfold OwnC
  rw [flat_append, List.length_append, hsl.1]
  exact h1
theorem OwnC.blk {w : World} {v : Value} {L : List Cl} (h : OwnC w v L) (h0 : 0 < L.length) : ∃ g cap cur, v = .slice (some ⟨g, 0, none⟩) L.length cap /\ w.heap[g]? = some (.cells cur 70 (0, 0)) /\ L.length <= cap /\ cap <= maxLen /\ cur.toList.take (L.length * 5) = flat L := by
 obtain ⟨h1, h2⟩ := h
 rcases h2 with ⟨rfl, h3⟩ | ⟨g, cap, cur, rfl, -, hg, hn, hc, hcs, ht⟩
 ·omega
 ·exact ⟨g, cap, cur, rfl, hg, hn, hc, ht⟩
theorem take_set {α : Type} {l : List α} {n i : Nat} {x : α} : (l.set i x).take n = (l.take n).set i x := by rw [List.take_set]
theorem flat_set (L : List Cl) (j : Nat) (c : Cl) (hj : j < L.length) : (((((flat L).set (j * 5) (.int .i32 c.r)).set (j * 5 + 1) (.int .i64 c.k)).set (j * 5 + 2) (.int .i64 c.a.fg)).set (j * 5 + 3) (.int .i64 c.a.bg)).set (j * 5 + 4) (.int .i64 c.a.fl) = flat (L.set j c) := by
 refine List.ext_getElem? fun q => ?_
 have hl := flat_length L
 by_cases hq : q < L.length * 5
 ·have hq5 : q / 5 < L.length := by omega
  by_cases h : q / 5 = j
  ·have h2 := flat_get (L.set j c) j (q % 5) c (by simp [hj]) (by omega)
   rw [show j * 5 + q % 5 = q by omega] at h2
   rw [h2]
   have hm : q % 5 = 0 \/ q % 5 = 1 \/ q % 5 = 2 \/ q % 5 = 3 \/ q % 5 = 4 := by omega
   rcases hm with hm | hm | hm | hm | hm <;> rw [hm]
   ·rw [List.getElem?_set_ne (by omega), List.getElem?_set_ne (by omega), List.getElem?_set_ne (by omega), List.getElem?_set_ne (by omega), show q = j * 5 by omega, List.getElem?_set_self (by omega)]; rfl
   ·rw [List.getElem?_set_ne (by omega), List.getElem?_set_ne (by omega), List.getElem?_set_ne (by omega), show q = j * 5 + 1 by omega, List.getElem?_set_self (by simp; omega)]; rfl
   ·rw [List.getElem?_set_ne (by omega), List.getElem?_set_ne (by omega), show q = j * 5 + 2 by omega, List.getElem?_set_self (by simp; omega)]; rfl
   ·rw [List.getElem?_set_ne (by omega), show q = j * 5 + 3 by omega, List.getElem?_set_self (by simp; omega)]; rfl
   ·rw [show q = j * 5 + 4 by omega, List.getElem?_set_self (by simp; omega)]; rfl
  ·have h1 := flat_get L (q / 5) (q % 5) _ (List.getElem?_eq_getElem hq5) (by omega)
   have h2 := flat_get (L.set j c) (q / 5) (q % 5) L[q / 5] (by rw [List.getElem?_set_ne (by omega)]; exact List.getElem?_eq_getElem hq5) (by omega)
   rw [show q / 5 * 5 + q % 5 = q by omega] at h1 h2
   rw [List.getElem?_set_ne (by omega), List.getElem?_set_ne (by omega), List.getElem?_set_ne (by omega), List.getElem?_set_ne (by omega), List.getElem?_set_ne (by omega), h1, h2]
 ·rw [List.getElem?_eq_none (by simp; omega), List.getElem?_eq_none (by rw [flat_length]; simp; omega)]
theorem OwnC.store {w : World} {g n cap : Nat} {L : List Cl} (h : OwnC w (.slice (some ⟨g, 0, none⟩) n cap) L) {j : Nat} (hj : j < n) (c : Cl) :
  ∃ V1 V2 V3 V4 V5, w.setCell ⟨g, j * 5, none⟩ (.int .i32 c.r) = V1 /\ V1.setCell ⟨g, j * 5 + 1, none⟩ (.int .i64 c.k) = V2 /\ V2.setCell ⟨g, j * 5 + 2, none⟩ (.int .i64 c.a.fg) = V3 /\ V3.setCell ⟨g, j * 5 + 3, none⟩ (.int .i64 c.a.bg) = V4 /\ V4.setCell ⟨g, j * 5 + 4, none⟩ (.int .i64 c.a.fl) = V5 /\
   (∃ x, w.cell? ⟨g, j * 5, none⟩ = some x) /\ (∃ x, V1.cell? ⟨g, j * 5 + 1, none⟩ = some x) /\ (∃ x, V2.cell? ⟨g, j * 5 + 2, none⟩ = some x) /\ (∃ x, V3.cell? ⟨g, j * 5 + 3, none⟩ = some x) /\ (∃ x, V4.cell? ⟨g, j * 5 + 4, none⟩ = some x) /\ w.frozen? ⟨g, j * 5, none⟩ = false /\ V1.frozen? ⟨g, j * 5 + 1, none⟩ = false /\ V2.frozen? ⟨g, j * 5 + 2, none⟩ = false /\ V3.frozen? ⟨g, j * 5 + 3, none⟩ = false /\ V4.frozen? ⟨g, j * 5 + 4, none⟩ = false /\
   OwnC V5 (.slice (some ⟨g, 0, none⟩) n cap) (L.set j c) /\ Kept (fun i => i = g) w V5 := by
 obtain ⟨h1, h2⟩ := h
 rcases h2 with ⟨h3, -⟩ | ⟨g', cap', cur, h3, hb0, hg, hn, hcm, hcs, ht⟩
 ·cases h3
 ·cases h3
  have b1 := blk_set hg (j * 5) (.int .i32 c.r)
  have b2 := blk_set b1 (j * 5 + 1) (.int .i64 c.k)
  have b3 := blk_set b2 (j * 5 + 2) (.int .i64 c.a.fg)
  have b4 := blk_set b3 (j * 5 + 3) (.int .i64 c.a.bg)
  have b5 := blk_set b4 (j * 5 + 4) (.int .i64 c.a.fl)
  have hsz : L.length * 5 <= cur.size := by rw [hcs]; exact Nat.mul_le_mul_right 5 hn
  have ex : ∀ (w' : World) (C : Array Value), w'.heap[g]? = some (.cells C 70 (0, 0)) -> ∀ {i : Nat}, i < C.size -> ∃ x, w'.cell? ⟨g, i, none⟩ = some x := fun w' C h i hi => ⟨C[i], by rw [blk_cell h]; simp [hi]⟩
  refine ⟨_, _, _, _, _, rfl, rfl, rfl, rfl, rfl, ⟨cur[j * 5]'(by omega), by rw [blk_cell hg]; simp [show j * 5 < cur.size by omega]⟩, ex _ _ b1 (by simp; omega), ex _ _ b2 (by simp; omega), ex _ _ b3 (by simp; omega), ex _ _ b4 (by simp; omega), blk_free hg _, blk_free b1 _, blk_free b2 _, blk_free b3 _, blk_free b4 _, ?_, ?_⟩
  ·refine ⟨by rw [flat_length], .inr ⟨g, cap, _, by rw [List.length_set], Nat.zero_le _, b5, by rw [List.length_set]; exact hn, hcm, by simpa using hcs, ?_⟩⟩
   simp only [Array.toList_setIfInBounds, List.take_set, ht]
   rw [List.length_set, ht]
   exact flat_set L j c hj
  ·exact (((((Kept.refl (fun i => i = g) w).setCell (p := ⟨g, j * 5, none⟩) (.inl rfl) _).setCell (p := ⟨g, j * 5 + 1, none⟩) (.inl rfl) _).setCell (p := ⟨g, j * 5 + 2, none⟩) (.inl rfl) _).setCell (p := ⟨g, j * 5 + 3, none⟩) (.inl rfl) _).setCell (p := ⟨g, j * 5 + 4, none⟩) (.inl rfl) _
theorem slC_one {w : World} {b : Nat} {p : Cl} {t : TypeId} (h : w.heap[b]? = some (.cells p.cs t (0, 0))) : SlC w (some ⟨b, 0, none⟩) 1 [p] := by
 refine ⟨rfl, .inr ⟨b, 0, rfl, fun j q hq f hf => ?_⟩⟩
 rcases j with _ | j
 ·simp at hq; subst hq
  have e : 0 + 0 * 5 + f = f := by omega
  rw [e, blk_cell h]
  show p.vs.toArray[f]? = _
  rw [List.getElem?_toArray]
 ·simp at hq
theorem info70 : (Tryz.prog.info? 70).map (fun i => (i.zero, i.size, i.bytes)) = some (some (.agg #[.int .i32 0, .int .i64 0, .int .i64 0, .int .i64 0, .int .i64 0]), 5, 40) := by kernel_rfl
def MadeC (w : World) (L : List Cl) (v : Value) (w' : World) : Prop := OwnC w' v L /\ Kept (fun _ => False) w w' /\ ∀ b, v.ownBlock = some b -> w.heap.size <= b
def Nar (L : List Cl) : Prop := ∀ c ∈ L, c.k = 0
set_option maxRecDepth 100000 in
set_option maxHeartbeats 8000000 in
theorem blanks_any (n : Nat) (a : Look) (w : World) (hn : n <= 1000) : Calls Tryz.prog 353 #[.int .i64 n, lookV a] w fun e w' => ∃ v, e = .returned v /\ MadeC w (List.replicate n ⟨0, 0, a⟩) v w' := by
 obtain ⟨fg, bg, fl⟩ := a
 unfold lookV
 obtain ⟨V, hV⟩ : ∃ V, w.alloc (.cells #[.int .i64 fg, .int .i64 bg, .int .i64 fl] 53) = V := ⟨_, rfl⟩
 have kV : Kept (fun _ => False) w V := by rw [<- hV]; exact (Kept.refl _ _).alloc _
 have b0 : V.heap[w.heap.size]? = some (.cells #[.int .i64 fg, .int .i64 bg, .int .i64 fl] 53 (0, 0)) := by rw [<- hV]; exact blk_new _ _
 obtain ⟨i0, hi, hz, hsz, hby⟩ := info_parts info70
 have HI := Lib.hid (And.intro hi (And.intro hz (And.intro hsz hby)))
 have H0 := Lib.hid (And.intro kV b0)
 have h63 : (9223372036854775807 : Nat) = maxLen := rfl
 clear kV b0 hi hz hsz hby
 go_enter Tryz.func353, Tryz.ntmps353
 go_wp2
 go_loopg [5, 7] n (fun gg g0 iv wr => ∃ (k : Nat) (gv : Value), gv = g0 /\ n <= gg + k /\ k <= n /\ iv = .int .i64 (k : Int) /\ OwnC wr gv (List.replicate k ⟨0, 0, ⟨fg, bg, fl⟩⟩) /\ (∀ b, gv.ownBlock = some b -> w.heap.size < b) /\ Kept (fun _ => False) w wr /\ wr.heap[w.heap.size]? = some (.cells #[.int .i64 fg, .int .i64 bg, .int .i64 fl] 53 (0, 0)))
 case atStart => exact ⟨0, _, rfl, by omega, by omega, rfl, OwnC.nil _, (fun b h => by cases h), H0.out.1, H0.out.2⟩
 case round =>
  obtain ⟨k, gv, rfl, hgg, hk, rfl, hog, hgb, hkr, hb⟩ := hrel
  by_cases hk1 : k < n
  ·have g1 : decide (k < n) = true := decide_eq_true hk1
   have g1' : decide ((k : Int) < (n : Int)) = true := decide_eq_true (by omega)
   have wk : IntKind.i64.wrap ((k : Int) + 1) = (k : Int) + 1 := IntWalk.i64_in _ (by omega)
   obtain ⟨⟨x0, -⟩, ⟨x1, -⟩, x2, -⟩ := blk3 hb
   obtain ⟨W2, hW2⟩ : ∃ W2, wr.alloc (.cells #[.int .i32 0, .int .i64 0, .int .i64 fg, .int .i64 bg, .int .i64 fl] 70) = W2 := ⟨_, rfl⟩
   have k2 : Kept (fun _ => False) wr W2 := by rw [<- hW2]; exact (Kept.refl _ _).alloc _
   have b2 : W2.heap[wr.heap.size]? = some (.cells (Cl.cs ⟨0, 0, ⟨fg, bg, fl⟩⟩) 70 (0, 0)) := by rw [<- hW2]; exact blk_new _ _
   have HG := Lib.hid (And.intro hgb (And.intro hkr hb))
   have HA := Lib.hid (And.intro (hog.kept k2 (fun _ _ => id)) (And.intro (slC_one b2) (And.intro k2 k2.size)))
   obtain ⟨ga, gc, hge, -⟩ := hog.shape
   rw [List.length_replicate] at hge
   subst hge
   clear k2 b2 hog hgb hkr hb
   go_wp2_with (at_builtin; refine wpList_appC rfl (.tmp 9) (.tmp 12) 68 rfl i0 _ 40 Tryz.underlying68 HI.out.1 HI.out.2.1 HI.out.2.2.1 HI.out.2.2.2 rfl (.slice ga k gc) _ rfl HA.out.1 (some ⟨wr.heap.size, 0, none⟩) 1 1 [⟨0, 0, ⟨fg, bg, fl⟩⟩] rfl (fun h => by cases h) HA.out.2.1 (by rw [List.length_replicate]; omega) (by rw [List.length_replicate]; omega) ?_; intro v8 w8 ho8 hk8 hpr8; have H8 := Lib.hid (And.intro ho8 (And.intro hk8 hpr8)); clear ho8 hk8 hpr8)
   go_roundg (gk - 1)
   case rel =>
    refine ⟨k + 1, v8, rfl, by omega, by omega, by go_num, by rw [List.replicate_succ']; exact H8.out.1, fun b hb => ?_, (HG.out.2.1.then HA.out.2.2.1).trans (H8.out.2.1.mono fun x _ hx => Or.inr (Nat.le_of_lt (HG.out.1 x hx))), H8.out.2.1.blk (HA.out.2.2.1.blk HG.out.2.2 id) (fun h => Nat.lt_irrefl _ (HG.out.1 _ h))⟩
    rcases H8.out.2.2 with h | h
    ·exact HG.out.1 b (by rw [<- h]; exact hb)
    ·rw [hb] at h; have h9 := Option.some.inj h; have h1 := lt_of_blk HG.out.2.2; have h2 := HA.out.2.2.2; omega
   case measure => omega
  ·obtain rfl : k = n := by omega
   have g1 : decide (k < k) = false := decide_eq_false (by omega)
   have HE := Lib.hid (And.intro hog (And.intro hkr (fun b hb => Nat.le_of_lt (hgb b hb) : ∀ b, gv.ownBlock = some b -> w.heap.size <= b)))
   clear hog hgb hkr hb
   go_wp2
   go_ret
   exact ⟨_, rfl, HE.out⟩
set_option maxRecDepth 100000 in
set_option maxHeartbeats 8000000 in
theorem newl_any (n : Nat) (a : Look) (w : World) (hn : n <= 1000) : Calls Tryz.prog 278 #[.int .i64 n, lookV a] w fun e w' => ∃ v, e = .returned v /\ MadeC w (List.replicate n ⟨0, 0, a⟩) v w' := by
 have g1 : decide ((n : Int) < 0) = false := decide_eq_false (by omega)
 have g2 : decide (1000 < (n : Int)) = false := decide_eq_false (by omega)
 have g2' : decide (1000 < n) = false := decide_eq_false (by omega)
 obtain ⟨RES, hRES⟩ : ∃ R, List.replicate n (⟨0, 0, a⟩ : Cl) = R := ⟨_, rfl⟩
 have HB := Lib.hid (fun w => show Calls Tryz.prog 353 #[.int .i64 n, .agg #[.int .i64 a.fg, .int .i64 a.bg, .int .i64 a.fl]] w fun e w' => ∃ v, e = .returned v /\ MadeC w RES v w' from by rw [<- hRES]; exact blanks_any n a w hn)
 rw [hRES]
 obtain ⟨fg, bg, fl⟩ := a
 unfold lookV
 simp only at HB
 obtain ⟨V, hV⟩ : ∃ V, w.alloc (.cells #[.int .i64 fg, .int .i64 bg, .int .i64 fl] 53) = V := ⟨_, rfl⟩
 have kV : Kept (fun _ => False) w V := by rw [<- hV]; exact (Kept.refl _ _).alloc _
 have b0 : V.heap[w.heap.size]? = some (.cells #[.int .i64 fg, .int .i64 bg, .int .i64 fl] 53 (0, 0)) := by rw [<- hV]; exact blk_new _ _
 obtain ⟨⟨x0, -⟩, ⟨x1, -⟩, x2, -⟩ := blk3 b0
 have HK := Lib.hid kV
 clear kV b0 hRES hn
 go_enter Tryz.func278, Tryz.ntmps278
 go_wp2_with fail
 refine (HB.out _).mono ?_
 rintro e w2 ⟨v, rfl, ho, hk, hb⟩
 have HE := Lib.hid (show MadeC w RES v w2 from ⟨ho, HK.out.then hk, fun b h => Nat.le_trans HK.out.size (hb b h)⟩)
 clear ho hk hb
 go_wp2
 go_ret
 exact ⟨_, rfl, HE.out⟩
set_option maxRecDepth 100000 in
set_option maxHeartbeats 8000000 in
theorem clonec_any (x : Addr) (n cap : Nat) (L : List Cl) (w : World) (hs : SlC w (some x) n L) (hn : n <= 1000) : Calls Tryz.prog 103 #[.slice (some x) n cap] w fun e w' => ∃ v, e = .returned v /\ MadeC w L v w' := by
 have qn := fun w => Lib.run_eql_slice_nil (P := Tryz.prog) w 68 70 (some x) n cap 0 0 Tryz.underlying68
 obtain ⟨i0, hi, hz, hsz, hby⟩ := info_parts info70
 have HI := Lib.hid (And.intro hi (And.intro hz (And.intro hsz hby)))
 have h63 : (9223372036854775807 : Nat) = maxLen := rfl
 obtain ⟨V, hV⟩ : ∃ V, w.alloc (.cells #[] 70) = V := ⟨_, rfl⟩
 have kV : Kept (fun _ => False) w V := by rw [<- hV]; exact (Kept.refl _ _).alloc _
 have b0 : V.heap[w.heap.size]? = some (.cells #[] 70 (0, 0)) := by rw [<- hV]; exact blk_new _ _
 have ho0 : OwnC V (.slice (some ⟨w.heap.size, 0, none⟩) 0 0) [] := ⟨by rfl, .inr ⟨w.heap.size, 0, #[], rfl, Nat.zero_le _, b0, Nat.le_refl _, by simp [maxLen], rfl, rfl⟩⟩
 have HS := Lib.hid (And.intro ho0 (And.intro (hs.kept kV (fun _ _ _ _ => id)) kV))
 clear hi hz hsz hby hs kV b0 ho0
 go_enter Tryz.func103, Tryz.ntmps103
 go_wp2_with (at_builtin; refine wpList_appC rfl (.tmp 5) (.tmp 6) 68 rfl i0 _ 40 Tryz.underlying68 HI.out.1 HI.out.2.1 HI.out.2.2.1 HI.out.2.2.2 rfl (.slice (some ⟨w.heap.size, 0, none⟩) 0 0) [] rfl HS.out.1 (some x) n cap L rfl (fun h => by cases h) HS.out.2.1 (by simp; omega) (by simp; omega) ?_; intro v8 w8 ho8 hk8 hpr8; have H8 := Lib.hid (And.intro ho8 (And.intro hk8 hpr8)); clear ho8 hk8 hpr8)
 go_ret
 refine ⟨v8, rfl, H8.out.1, HS.out.2.2.trans (H8.out.2.1.mono fun i _ hi => Or.inr (by cases hi; exact Nat.le_refl _)), fun b hb => ?_⟩
 rcases H8.out.2.2 with h | h
 ·rw [h] at hb; cases hb; exact Nat.le_refl _
 ·rw [hb] at h; have h9 := Option.some.inj h; have := HS.out.2.2.size; omega
set_option maxRecDepth 100000 in
set_option maxHeartbeats 8000000 in
theorem fits_any (b off n cap i : Nat) (L : List Cl) (w : World) (hs : SlC w (some ⟨b, off, none⟩) n L) (hn : n <= 1000) (hi : i < n) (hL : Nar L) : Calls Tryz.prog 61 #[.slice (some ⟨b, off, none⟩) n cap, .int .i64 i] w fun e w' => e = .returned (.bool true) /\ w = w' := by
 obtain ⟨h1, h2⟩ := hs
 obtain ⟨b', off', he, hc⟩ := h2.resolve_left (by omega)
 cases he
 obtain ⟨c, hcc⟩ : ∃ c, L[i]? = some c := ⟨_, List.getElem?_eq_getElem (by omega)⟩
 have hk := hL c (List.mem_of_getElem? hcc)
 have x1 := hc i c hcc 1 (by omega)
 unfold Cl.vs at x1
 simp only [List.getElem?_cons_zero, List.getElem?_cons_succ, hk] at x1
 have i0 : (0 : Int) <= (i : Int) := by omega
 have i1 : (i : Int) < (n : Int) := by omega
 clear hc hcc hk h1 h2 hL
 go_enter Tryz.func61, Tryz.ntmps61
 go_wp2
 go_ret
 exact ⟨rfl, rfl⟩
set_option maxRecDepth 100000 in
set_option maxHeartbeats 8000000 in
theorem mend_any (b off n cap : Nat) (L : List Cl) (w : World) (hs : SlC w (some ⟨b, off, none⟩) n L) (hn : n <= 1000) (hbw : b < w.heap.size) (hL : Nar L) : Calls Tryz.prog 63 #[.slice (some ⟨b, off, none⟩) n cap] w fun e w' => ∃ v, e = .returned v /\ MadeC w L v w' := by
 have hLl := hs.1
 have HC := Lib.hid (clonec_any ⟨b, off, none⟩ n cap L w hs hn)
 have HF := Lib.hid (fun (i : Nat) (hi : i < n) (w' : World) (hk : Kept (fun _ => False) w w') => fits_any b off n cap i L w' (hs.kept hk (fun _ _ _ _ => id)) hn hi hL)
 have HS := Lib.hid (And.intro hs (And.intro hL hLl))
 clear hs hL hLl
 go_enter Tryz.func63, Tryz.ntmps63
 go_wp2_with fail
 refine HC.out.mono ?_
 rintro e w1 ⟨v, rfl, ho, hk1, hb1⟩
 have H1 := Lib.hid (And.intro ho (And.intro hk1 hb1))
 clear ho hk1 hb1
 go_wp2
 go_loopg [4, 5, 10, 15, 33, 44] n (fun gg _ _ iv _ _ _ wr => ∃ k : Nat, n <= gg + k /\ k <= n /\ iv = .int .i64 (k : Int) /\ Kept (fun _ => False) w1 wr)
 case atStart => exact ⟨0, by omega, by omega, rfl, Kept.refl _ _⟩
 case round =>
  obtain ⟨k, hgg, hk, rfl, hkr⟩ := hrel
  by_cases hk1 : k < n
  ·have g1 : decide (k < n) = true := decide_eq_true hk1
   have g1' : decide ((k : Int) < (n : Int)) = true := decide_eq_true (by omega)
   have wk : IntKind.i64.wrap ((k : Int) + 1) = (k : Int) + 1 := IntWalk.i64_in _ (by omega)
   have i0 : (0 : Int) <= (k : Int) := by omega
   have i1 : (k : Int) < (n : Int) := by omega
   have kw := H1.out.2.1.then hkr
   obtain ⟨b', off', he, hc⟩ := (HS.out.1.kept kw (fun _ _ _ _ => id)).2.resolve_left (by omega)
   cases he
   obtain ⟨c, hcc⟩ : ∃ c, L[k]? = some c := ⟨_, List.getElem?_eq_getElem (by have := HS.out.2.2; omega)⟩
   have hkk := HS.out.2.1 c (List.mem_of_getElem? hcc)
   have y0 := hc k c hcc 0 (by omega)
   have y1 := hc k c hcc 1 (by omega)
   have y2 := hc k c hcc 2 (by omega)
   have y3 := hc k c hcc 3 (by omega)
   have y4 := hc k c hcc 4 (by omega)
   rw [Nat.add_zero] at y0
   obtain ⟨cr, ck, fg, bg, fl⟩ := c
   unfold Cl.vs at y0 y1 y2 y3 y4
   simp only [List.getElem?_cons_zero, List.getElem?_cons_succ] at y0 y1 y2 y3 y4 hkk
   subst hkk
   obtain ⟨W2, hW2⟩ : ∃ W2, wr.alloc (.cells #[.int .i32 cr, .int .i64 0, .int .i64 fg, .int .i64 bg, .int .i64 fl] 70) = W2 := ⟨_, rfl⟩
   have k2 : Kept (fun _ => False) wr W2 := by rw [<- hW2]; exact (Kept.refl _ _).alloc _
   have b2 : W2.heap[wr.heap.size]? = some (.cells #[.int .i32 cr, .int .i64 0, .int .i64 fg, .int .i64 bg, .int .i64 fl] 70 (0, 0)) := by rw [<- hW2]; exact blk_new _ _
   obtain ⟨z0, z1, z2, z3, z4⟩ := blk5 b2
   have HFI := Lib.hid (HF.out k hk1 W2 (kw.then k2))
   have HK2 := Lib.hid (hkr.then k2)
   clear hc hcc kw hkr k2 b2
   go_wp2_with fail
   refine HFI.out.mono ?_
   rintro e w' ⟨rfl, rfl⟩
   go_wp2
   go_roundg (gk - 1)
   case rel => exact ⟨k + 1, by omega, by omega, by go_num, HK2.out⟩
   case measure => omega
  ·obtain rfl : k = n := by omega
   have g1 : decide (k < k) = false := decide_eq_false (by omega)
   have HE := Lib.hid (show MadeC w L v wr from ⟨H1.out.1.kept hkr (fun _ _ => id), H1.out.2.1.then hkr, H1.out.2.2⟩)
   clear hkr
   go_wp2
   go_ret
   exact ⟨_, rfl, HE.out⟩
set_option maxRecDepth 100000 in
set_option maxHeartbeats 8000000 in
theorem halves_any (b off n cap : Nat) (f t lo : Int) (L : List Cl) (w : World) (hs : SlC w (some ⟨b, off, none⟩) n L) (hn : n <= 1000) (hf : f - 1 = lo) (hlo : -1 <= lo /\ lo < n) (ht : 0 <= t /\ t <= n) (hL : Nar L) : Calls Tryz.prog 354 #[.slice (some ⟨b, off, none⟩) n cap, .int .i64 f, .int .i64 t] w fun e w' => e = .returned (.slice (some ⟨b, off, none⟩) n cap) /\ Kept (fun _ => False) w w' := by
 have HF := Lib.hid (fun (i : Nat) (hi : i < n) (w' : World) (hk : Kept (fun _ => False) w w') => fits_any b off n cap i L w' (hs.kept hk (fun _ _ _ _ => id)) hn hi hL)
 have w1 : IntKind.i64.wrap lo = lo := IntWalk.i64_in _ (by omega)
 obtain ⟨V, hV⟩ : ∃ V, w.alloc (.cells #[.int .i64 lo, .int .i64 t] 3) = V := ⟨_, rfl⟩
 have kV : Kept (fun _ => False) w V := by rw [<- hV]; exact (Kept.refl _ _).alloc _
 have b0 : V.heap[w.heap.size]? = some (.cells #[.int .i64 lo, .int .i64 t] 3 (0, 0)) := by rw [<- hV]; exact blk_new _ _
 have HK := Lib.hid kV
 obtain ⟨⟨x0, -⟩, x1, -⟩ := blk2 b0
 clear hs hL kV b0
 by_cases c1 : 0 <= lo
 ·obtain ⟨j, rfl⟩ : ∃ j : Nat, lo = (j : Int) := ⟨lo.toNat, by omega⟩
  have g1 : decide ((0 : Int) <= (j : Int)) = true := decide_eq_true (by omega)
  have g2 : decide ((j : Int) < (n : Int)) = true := decide_eq_true (by omega)
  have g2' : decide (j < n) = true := decide_eq_true (by omega)
  by_cases c2 : t < n
  ·obtain ⟨m, rfl⟩ : ∃ m : Nat, t = (m : Int) := ⟨t.toNat, by omega⟩
   have g3 : decide ((0 : Int) <= (m : Int)) = true := decide_eq_true (by omega)
   have g4 : decide ((m : Int) < (n : Int)) = true := decide_eq_true (by omega)
   have g4' : decide (m < n) = true := decide_eq_true (by omega)
   go_enter Tryz.func354, Tryz.ntmps354
   go_wp2
   refine wp_loop_rounds 3 ?_
   rw [rounds_succ]
   go_wp2_with fail
   refine (HF.out j (by omega) _ HK.out).mono ?_
   rintro e w' ⟨rfl, rfl⟩
   go_wp2
   rw [rounds_succ]
   go_wp2_with fail
   refine (HF.out m (by omega) _ HK.out).mono ?_
   rintro e w' ⟨rfl, rfl⟩
   go_wp2
   rw [rounds_succ]
   go_wp2
   go_ret
   exact ⟨rfl, HK.out⟩
  ·have g3 : decide (0 <= t) = true := decide_eq_true (by omega)
   have g4 : decide (t < (n : Int)) = false := decide_eq_false (by omega)
   go_enter Tryz.func354, Tryz.ntmps354
   go_wp2
   refine wp_loop_rounds 3 ?_
   rw [rounds_succ]
   go_wp2_with fail
   refine (HF.out j (by omega) _ HK.out).mono ?_
   rintro e w' ⟨rfl, rfl⟩
   go_wp2
   rw [rounds_succ]
   go_wp2
   rw [rounds_succ]
   go_wp2
   go_ret
   exact ⟨rfl, HK.out⟩
 ·have g1 : decide (0 <= lo) = false := decide_eq_false (by omega)
  by_cases c2 : t < n
  ·obtain ⟨m, rfl⟩ : ∃ m : Nat, t = (m : Int) := ⟨t.toNat, by omega⟩
   have g3 : decide ((0 : Int) <= (m : Int)) = true := decide_eq_true (by omega)
   have g4 : decide ((m : Int) < (n : Int)) = true := decide_eq_true (by omega)
   have g4' : decide (m < n) = true := decide_eq_true (by omega)
   go_enter Tryz.func354, Tryz.ntmps354
   go_wp2
   refine wp_loop_rounds 3 ?_
   rw [rounds_succ]
   go_wp2
   rw [rounds_succ]
   go_wp2_with fail
   refine (HF.out m (by omega) _ HK.out).mono ?_
   rintro e w' ⟨rfl, rfl⟩
   go_wp2
   rw [rounds_succ]
   go_wp2
   go_ret
   exact ⟨rfl, HK.out⟩
  ·have g3 : decide (0 <= t) = true := decide_eq_true (by omega)
   have g4 : decide (t < (n : Int)) = false := decide_eq_false (by omega)
   go_enter Tryz.func354, Tryz.ntmps354
   go_wp2
   refine wp_loop_rounds 3 ?_
   rw [rounds_succ]
   go_wp2
   rw [rounds_succ]
   go_wp2
   rw [rounds_succ]
   go_wp2
   go_ret
   exact ⟨rfl, HK.out⟩
theorem nar_set {L : List Cl} (h : Nar L) (j : Nat) {c : Cl} (hc : c.k = 0) : Nar (L.set j c) := by
 intro x hx
 rcases List.mem_or_eq_of_mem_set hx with h1 | h1
 ·exact h x h1
 ·rw [h1]; exact hc
set_option maxRecDepth 100000 in
set_option maxHeartbeats 8000000 in
theorem putl_any (b off n cap k : Nat) (r : Int) (a : Look) (L : List Cl) (w : World) (hs : SlC w (some ⟨b, off, none⟩) n L) (hn : n <= 1000) (hk : k < n) (hbw : b < w.heap.size) (hL : Nar L) :
  Calls Tryz.prog 274 #[.slice (some ⟨b, off, none⟩) n cap, .int .i64 k, .int .i32 r, .int .i64 1, lookV a] w fun e w' => ∃ v, e = .returned (.tuple #[v, .bool true]) /\ MadeC w (L.set k ⟨r, 0, a⟩) v w' := by
 obtain ⟨fg, bg, fl⟩ := a
 unfold lookV
 have hLl := hs.1
 obtain ⟨V, hV⟩ : ∃ V, w.alloc (.cells #[.int .i64 fg, .int .i64 bg, .int .i64 fl] 53) = V := ⟨_, rfl⟩
 have kV : Kept (fun _ => False) w V := by rw [<- hV]; exact (Kept.refl _ _).alloc _
 have b0 : V.heap[w.heap.size]? = some (.cells #[.int .i64 fg, .int .i64 bg, .int .i64 fl] 53 (0, 0)) := by rw [<- hV]; exact blk_new _ _
 have HM := Lib.hid (mend_any b off n cap L V (hs.kept kV (fun _ _ _ _ => id)) hn (Nat.lt_of_lt_of_le hbw kV.size) hL)
 have H0 := Lib.hid (And.intro kV b0)
 have HL := Lib.hid (And.intro hL hLl)
 have g1 : decide ((k : Int) < 0) = false := decide_eq_false (by omega)
 have u1 : IntKind.i64.wrap ((n : Int) - 1) = (n : Int) - 1 := IntWalk.i64_in _ (by omega)
 have g2 : decide ((n : Int) - 1 < (k : Int)) = false := decide_eq_false (by omega)
 have k0 : (0 : Int) <= (k : Int) := by omega
 have k1 : (k : Int) < (n : Int) := by omega
 have u2 : IntKind.i64.wrap ((k : Int) + 1) = (k : Int) + 1 := IntWalk.i64_in _ (by omega)
 clear kV b0 hs hL hLl hbw
 go_enter Tryz.func274, Tryz.ntmps274
 go_wp2_with fail
 refine HM.out.mono ?_
 rintro e w1 ⟨v, rfl, ho, hk1, hb1⟩
 obtain ⟨g, cv, cur, hge, -⟩ := ho.blk (by have := HL.out.2; omega)
 rw [HL.out.2] at hge
 subst hge
 obtain ⟨V1, V2, V3, V4, V5, e1, e2, e3, e4, e5, ⟨x0, y0⟩, ⟨x1, y1⟩, ⟨x2, y2⟩, ⟨x3, y3⟩, ⟨x4, y4⟩, f0, f1, f2, f3, f4, ho5, hk5⟩ := ho.store hk ⟨r, 0, ⟨fg, bg, fl⟩⟩
 simp only at e1 e2 e3 e4 e5
 have hg5 := hk5
 obtain ⟨⟨d0, -⟩, ⟨d1, -⟩, d2, -⟩ := blk3 (hk1.blk H0.out.2 id)
 have hgw : w.heap.size + 1 <= g := by have h1 := hb1 g rfl; have h2 := lt_of_blk H0.out.2; omega
 have HH := Lib.hid (fun (f t lo : Int) (hf : f - 1 = lo) (hlo : -1 <= lo /\ lo < n) (ht : 0 <= t /\ t <= n) => halves_any g 0 n cv f t lo (L.set k ⟨r, 0, ⟨fg, bg, fl⟩⟩) V5 (by
  obtain ⟨a9, c9, hv9, hs9, -⟩ := ho5.shape
  rw [List.length_set, HL.out.2] at hv9 hs9
  cases hv9
  exact hs9) hn hf hlo ht (nar_set HL.out.1 k rfl))
 have HE := Lib.hid (show MadeC w (L.set k ⟨r, 0, ⟨fg, bg, fl⟩⟩) (.slice (some ⟨g, 0, none⟩) n cv) V5 from ⟨ho5, (H0.out.1.then hk1).trans (hk5.mono fun i _ hi => Or.inr (by have h9 : i = g := hi; omega)), fun b hb => by have h8 : g = b := (by cases hb; rfl); omega⟩)
 clear ho hb1 hk1 ho5 hk5 hg5 hgw
 go_wp2_with fail
 refine (HH.out k ((k : Int) + 1) ((k : Int) - 1) rfl (by omega) (by omega)).mono ?_
 rintro e w6 ⟨rfl, hk6⟩
 have HE6 := Lib.hid (show MadeC w (L.set k ⟨r, 0, ⟨fg, bg, fl⟩⟩) (.slice (some ⟨g, 0, none⟩) n cv) w6 from ⟨HE.out.1.kept hk6 (fun _ _ => id), HE.out.2.1.then hk6, HE.out.2.2⟩)
 clear hk6
 go_wp2
 exact bodyPost_ret (v := .tuple #[.slice (some ⟨g, 0, none⟩) n cv, .bool true]) (by simp [results, Tryz.results274, go_sem]) rfl ⟨_, rfl, HE6.out⟩
section
open Go.ChangeShapes Go.WideShapes Go.ChangeAt Go.Joins Go.Deep
section
variable {H : Type} {enc : TypeId × Value -> H} {P : Program} {w : World} {base : Nat} {spare : Nat -> Bool} {held : Bool}
end
end
section
open Go.ChangeShapes Go.WideShapes Go.ChangeAt Go.Joins Go.Deep
variable {H : Type} {enc : TypeId × Value -> H} {P : Program} {W : World} {r : Reach} {b0 : Nat} {t e e1 : TypeId} {v : Value} {d : DataW H} {p : List MemPlace}
end
end Go.Proofs.YtmplpcmcbliadaaGreatDoor
namespace Go.Proofs.YtmplpcmcbliadaaGreatDoor
open Go.RowKit Go.Sort Pl
set_option maxRecDepth 100000 in
set_option maxHeartbeats 8000000 in
theorem resize_any (b off n cap : Nat) (L : List Cl) (w : World) (hs : SlC w (some ⟨b, off, none⟩) n L) (h1 : 1 <= n) (hn : n <= 1000) (hbw : b < w.heap.size) (hL : Nar L) :
  Calls Tryz.prog 350 #[.slice (some ⟨b, off, none⟩) n cap, .int .i64 n] w fun e w' => ∃ v, e = .returned v /\ MadeC w L v w' := by
 have hlen := hs.1
 have HM := Lib.hid (mend_any b off n cap L w hs hn hbw hL)
 have HL := Lib.hid (And.intro hL hlen)
 have m1 : decide ((n : Int) < 0) = false := decide_eq_false (by omega)
 have m2 : decide (1000 < (n : Int)) = false := decide_eq_false (by omega)
 have m3 : max (n : Int) 0 = (n : Int) := by omega
 have m4 : min (n : Int) 1000 = (n : Int) := by omega
 clear hs hL hlen
 go_enter Tryz.func350, Tryz.ntmps350
 go_wp2_with fail
 refine HM.out.mono ?_
 rintro e w1 ⟨v, rfl, ho, hk, hb⟩
 have hb0 := ho.blk (by rw [HL.out.2]; omega)
 obtain ⟨g, c1, cur, rfl, hg, hc1, hc2, -⟩ := hb0
 obtain ⟨a', c', he, hsl, -⟩ := ho.shape
 rw [HL.out.2] at he hsl hc1
 cases he
 have hgl := lt_of_blk hg
 have HM2 := Lib.hid (mend_any g 0 n c1 L w1 hsl hn hgl HL.out.1)
 have H1 := Lib.hid (And.intro ho (And.intro hk hb))
 have hll := HL.out.2
 have g1 : decide (n <= n) = true := decide_eq_true (by omega)
 have n0 : (0 : Int) <= (n : Int) := by omega
 have n1 : n <= c1 := hc1
 clear ho hk hb hg hsl hgl hc1
 rw [hll]
 clear hll
 go_wp2_with fail
 refine HM2.out.mono ?_
 rintro e w2 ⟨v2, rfl, ho2, hk2, hb2⟩
 have H2 := Lib.hid (show MadeC w L v2 w2 from ⟨ho2, H1.out.2.1.then hk2, fun b h => Nat.le_trans H1.out.2.1.size (hb2 b h)⟩)
 clear ho2 hk2 hb2
 go_wp2
 go_ret
 exact ⟨v2, rfl, H2.out⟩
theorem blk5c {w : World} {b : Nat} {x0 x1 x2 x3 x4 : Value} {t : TypeId} (h : w.heap[b]? = some (.cells #[x0, x1, x2, x3, x4] t (0, 0))) :
  w.cell? ⟨b, 0, none⟩ = some x0 /\ w.cell? ⟨b, 1, none⟩ = some x1 /\ w.cell? ⟨b, 2, none⟩ = some x2 /\ w.cell? ⟨b, 3, none⟩ = some x3 /\ w.cell? ⟨b, 4, none⟩ = some x4 :=
 ⟨blk_cell h 0, blk_cell h 1, blk_cell h 2, blk_cell h 3, blk_cell h 4⟩
theorem blk4c {w : World} {b : Nat} {x0 x1 x2 x3 : Value} {t : TypeId} (h : w.heap[b]? = some (.cells #[x0, x1, x2, x3] t (0, 0))) :
  w.cell? ⟨b, 0, none⟩ = some x0 /\ w.cell? ⟨b, 1, none⟩ = some x1 /\ w.cell? ⟨b, 2, none⟩ = some x2 /\ w.cell? ⟨b, 3, none⟩ = some x3 :=
 ⟨blk_cell h 0, blk_cell h 1, blk_cell h 2, blk_cell h 3⟩
def GrB (w : World) (p rp rows cols : Nat) (lv : Value) (top : Int) : Prop := w.heap[p]? = some (.cells #[.pointer (some ⟨rp, 0, none⟩), .int .i64 rows, .int .i64 cols, lv, .int .i64 top] 189 (0, 0))
def RnA (w : World) (p most : Nat) (lv : Value) (at' : Nat) (gone : Int) : Prop := w.heap[p]? = some (.cells #[.int .i64 most, lv, .int .i64 at', .int .i64 gone] 256 (0, 0))
def RnB (w : World) (p most : Nat) (lv : Value) (gone : Int) : Prop := w.heap[p]? = some (.cells #[.int .i64 most, lv, .int .i64 0, .int .i64 gone] 256 (0, 0))
set_option maxRecDepth 100000 in
theorem gsize_any (n : Int) (w : World) : Calls Tryz.prog 152 #[.int .i64 n] w fun e w' => e = .returned (.bool (decide (1 <= n) && decide (n <= 1000))) /\ w = w' := by
 go_enter Tryz.func152, Tryz.ntmps152
 by_cases h : 1 <= n
 ·have g : decide (1 <= n) = true := decide_eq_true h
  clear h
  go_wp2
  go_ret
  exact ⟨ret_bool (by rw [g]; rfl), rfl⟩
 ·have g : decide (1 <= n) = false := decide_eq_false h
  clear h
  go_wp2
  go_ret
  exact ⟨ret_bool (by rw [g]; rfl), rfl⟩
set_option maxRecDepth 100000 in
theorem gis_any (p rp rows cols : Nat) (lv : Value) (top : Int) (row : Nat) (w : World) (h : GrB w p rp rows cols lv top) : Calls Tryz.prog 102 #[.pointer (some ⟨p, 0, none⟩), .int .i64 row] w fun e w' => e = .returned (.bool (decide (row < rows))) /\ w = w' := by
 obtain ⟨x0, x1, x2, x3, x4⟩ := blk5c h
 have g : decide ((0 : Int) <= (row : Int)) = true := decide_eq_true (by omega)
 clear h x0 x2 x3 x4
 go_enter Tryz.func102, Tryz.ntmps102
 go_wp2
 go_ret
 exact ⟨ret_bool (by first | rfl | (apply decide_eq_decide.2; omega)), rfl⟩
set_option maxRecDepth 100000 in
theorem gtop_any (p rp rows cols : Nat) (lv : Value) (top : Int) (w : World) (h : GrB w p rp rows cols lv top) : Calls Tryz.prog 207 #[.pointer (some ⟨p, 0, none⟩)] w fun e w' => e = .returned (.int .i64 top) /\ w = w' := by
 obtain ⟨x0, x1, x2, x3, x4⟩ := blk5c h
 clear h
 go_enter Tryz.func207, Tryz.ntmps207
 go_wp2
 go_ret
 exact ⟨rfl, rfl⟩
set_option maxRecDepth 100000 in
theorem rlen_any {at' : Nat} (p most n : Nat) (a : Option Addr) (c : Nat) (gone : Int) (w : World) (h : RnA w p most (.slice a n c) at' gone) : Calls Tryz.prog 367 #[.pointer (some ⟨p, 0, none⟩)] w fun e w' => e = .returned (.int .i64 n) /\ w = w' := by
 obtain ⟨x0, x1, x2, x3⟩ := blk4c h
 clear h
 go_enter Tryz.func367, Tryz.ntmps367
 go_wp2
 go_ret
 exact ⟨rfl, rfl⟩
set_option maxRecDepth 100000 in
theorem gback_any {at' : Nat} (p rp rows cols : Nat) (lv : Value) (top : Int) (most n : Nat) (a : Option Addr) (c : Nat) (gone : Int) (w : World) (h : GrB w p rp rows cols lv top) (hr : RnA w rp most (.slice a n c) at' gone) : Calls Tryz.prog 301 #[.pointer (some ⟨p, 0, none⟩)] w fun e w' => e = .returned (.int .i64 n) /\ w = w' := by
 obtain ⟨x0, x1, x2, x3, x4⟩ := blk5c h
 have HL := Lib.hid (rlen_any rp most n a c gone w hr)
 clear h hr
 go_enter Tryz.func301, Tryz.ntmps301
 go_wp2_with fail
 refine HL.out.mono ?_
 rintro e w1 ⟨rfl, rfl⟩
 go_wp2
 go_ret
 exact ⟨rfl, rfl⟩
set_option maxRecDepth 100000 in
theorem gSize_any (p rp rows cols : Nat) (lv : Value) (top : Int) (w : World) (h : GrB w p rp rows cols lv top) : Calls Tryz.prog 225 #[.pointer (some ⟨p, 0, none⟩)] w fun e w' => e = .returned (.tuple #[.int .i64 rows, .int .i64 cols]) /\ Kept (fun _ => False) w w' := by
 obtain ⟨x0, x1, x2, x3, x4⟩ := blk5c h
 clear h
 go_enter Tryz.func225, Tryz.ntmps225
 go_wp2
 refine wp_region_still_lit (by kernel_rfl) (by kernel_rfl) ?_
 refine wpStill_step (fun K hK => ?_)
 go_simp
 repeat (generalize hfr : Act.mk _ _ = fr; refine hK _ ?_; clear hK K; refine wpStill_step (fun K hK => ?_); subst hfr; go_simp)
 generalize hfr : Act.mk _ _ = fr
 refine hK _ ?_
 clear hK K
 refine wpStill_nil ?_
 subst hfr
 go_wp2
 exact bodyPost_ret (v := .tuple #[.int .i64 rows, .int .i64 cols]) (by simp [results, Tryz.results225, go_sem]) rfl ⟨rfl, by repeat (first | exact Kept.refl _ _ | apply Kept.drew)⟩
set_option maxRecDepth 100000 in
theorem rnew_any (most : Nat) (w : World) (h : most <= 65536) : Calls Tryz.prog 153 #[.int .i64 most] w fun e w' => e = .returned (.tuple #[.pointer (some ⟨w.heap.size, 0, none⟩), .int .i64 0]) /\ RnB w' w.heap.size most (.slice none 0 0) 0 /\ Kept (fun _ => False) w w' := by
 have g0 : decide ((most : Int) < 0) = false := decide_eq_false (by omega)
 have g1 : decide (65536 < (most : Int)) = false := decide_eq_false (by omega)
 have g1' : decide (65536 < most) = false := decide_eq_false (by omega)
 go_enter Tryz.func153, Tryz.ntmps153
 go_wp2
 exact bodyPost_ret (v := .tuple #[.pointer (some ⟨w.heap.size, 0, none⟩), .int .i64 0]) (by simp [results, Tryz.results153, go_sem]) rfl ⟨rfl, blk_new _ _, (Kept.refl _ _).alloc _⟩
attribute [local go_sem] growOp growUpon sameUpon
theorem ownV_blk {e : TypeId} {w : World} {v : Value} {xs : List Value} (h : OwnV e w v xs) {b : Nat} (hb : v.ownBlock = some b) : ∃ c, w.heap[b]? = some (.cells c e (0, 0)) := by
 obtain ⟨h1, h2⟩ := h
 rcases h2 with ⟨rfl, -⟩ | ⟨g, cap, cur, rfl, -, hg, -⟩
 ·cases hb
 ·cases hb; exact ⟨cur, hg⟩
theorem ownC_blk {w : World} {v : Value} {L : List Cl} (h : OwnC w v L) {b : Nat} (hb : v.ownBlock = some b) : ∃ c, w.heap[b]? = some (.cells c 70 (0, 0)) := by
 obtain ⟨h1, h2⟩ := h
 rcases h2 with ⟨rfl, -⟩ | ⟨g, cap, cur, rfl, -, hg, -⟩
 ·cases hb
 ·cases hb; exact ⟨cur, hg⟩
theorem blk_ty2 {w : World} {b : Nat} {c c' : Array Value} {t t' : TypeId} (h : w.heap[b]? = some (.cells c t (0, 0))) (h' : w.heap[b]? = some (.cells c' t' (0, 0))) (ht : t ≠ t') : False := by
 rw [h] at h'
 simp only [Option.some.injEq, Obj.cells.injEq] at h'
 exact ht h'.2.1
theorem info68 : (Tryz.prog.info? 68).map (fun i => (i.zero, i.size, i.bytes)) = some (some (.slice none 0 0), 1, 24) := by kernel_rfl
structure NewR (S : Nat -> Prop) (w : World) (l : List Cl) (n : Nat) (v : Value) (vs : List Value) (w' : World) : Prop where
 own : OwnV 68 w' v vs
 len : vs.length = n
 new : ∀ b, v.ownBlock = some b -> w.heap.size <= b
 all : ∀ u ∈ vs, OwnC w' u l /\ ∀ b, u.ownBlock = some b -> w.heap.size <= b
 k : Kept S w w'
theorem NewR.up {S : Nat -> Prop} {w : World} {l : List Cl} {n : Nat} {v : Value} {vs : List Value} {w1 w2 : World} (h : NewR S w l n v vs w1) (hk : Kept (fun _ => False) w1 w2) : NewR S w l n v vs w2 :=
 ⟨h.own.kept hk (fun _ _ => id), h.len, h.new, fun u hu => ⟨(h.all u hu).1.kept hk (fun _ _ => id), (h.all u hu).2⟩, h.k.then (hk.mono fun _ _ h => h.elim)⟩
theorem NewR.of {w V : World} {l : List Cl} {n : Nat} {v : Value} {vs : List Value} {w1 : World} (h : NewR (fun _ => False) V l n v vs w1) (hk : Kept (fun _ => False) w V) : NewR (fun _ => False) w l n v vs w1 :=
 ⟨h.own, h.len, fun b hb => Nat.le_trans hk.size (h.new b hb), fun u hu => ⟨(h.all u hu).1, fun b hb => Nat.le_trans hk.size ((h.all u hu).2 b hb)⟩, hk.then h.k⟩
theorem NewR.set {S : Nat -> Prop} {w : World} {l : List Cl} {n : Nat} {v : Value} {vs : List Value} {w1 w2 : World} {p : Nat} (h : NewR S w l n v vs w1) (hk : Kept (fun i => i = p) w1 w2) (hp : p < w.heap.size) : NewR (fun i => S i \/ i = p) w l n v vs w2 :=
 ⟨h.own.kept hk (fun b hb hS => by have h9 : b = p := hS; have := h.new b hb; omega), h.len, h.new, fun u hu => ⟨(h.all u hu).1.kept hk (fun b hb hS => by have h9 : b = p := hS; have := (h.all u hu).2 b hb; omega), (h.all u hu).2⟩, (h.k.mono fun _ _ h => Or.inl h).then (hk.mono fun _ _ h => Or.inr h)⟩
theorem NewR.next {w : World} {l : List Cl} {n : Nat} {v u v5 : Value} {vs : List Value} {w1 w5 : World} (h : NewR (fun _ => False) w l n v vs w1) (ho : OwnV 68 w5 v5 (vs ++ [u])) (hk : Kept (fun k => v.ownBlock = some k) w1 w5) (hpr : v5.ownBlock = v.ownBlock \/ v5.ownBlock = some w1.heap.size)
  (hu : OwnC w1 u l) (hn : ∀ b, u.ownBlock = some b -> w.heap.size <= b) : NewR (fun _ => False) w l (n + 1) v5 (vs ++ [u]) w5 := by
 have up : ∀ x, OwnC w1 x l -> OwnC w5 x l := fun x hx => hx.kept hk (fun b hb hS => by
  obtain ⟨c1, h1⟩ := ownC_blk hx hb
  obtain ⟨c2, h2⟩ := ownV_blk h.own hS
  exact blk_ty2 h1 h2 (by decide))
 refine ⟨ho, by simp [h.len], fun b hb => ?_, fun x hx => ?_, h.k.trans (hk.mono fun i _ hi => Or.inr (h.new i hi))⟩
 ·rcases hpr with h1 | h1
  ·exact h.new b (by rw [<- h1]; exact hb)
  ·rw [hb] at h1; cases h1; exact h.k.size
 ·rcases List.mem_append.1 hx with h1 | h1
  ·exact ⟨up x (h.all x h1).1, (h.all x h1).2⟩
  ·rw [List.mem_singleton] at h1; subst h1; exact ⟨up _ hu, hn⟩
set_option maxRecDepth 100000 in
set_option maxHeartbeats 8000000 in
theorem gblanks_any (p rp rows cols : Nat) (lv : Value) (top : Int) (n : Nat) (a : Look) (w : World) (h : GrB w p rp rows cols lv top) (hc : 1 <= cols /\ cols <= 1000) (hn : n <= 1000) :
  Calls Tryz.prog 224 #[.pointer (some ⟨p, 0, none⟩), .int .i64 n, lookV a] w fun e w' => ∃ v vs, e = .returned v /\ NewR (fun _ => False) w (List.replicate cols ⟨0, 0, a⟩) n v vs w' := by
 obtain ⟨fg, bg, fl⟩ := a
 unfold lookV
 simp only
 obtain ⟨RES, hRES⟩ : ∃ R, List.replicate cols (⟨0, 0, ⟨fg, bg, fl⟩⟩ : Cl) = R := ⟨_, rfl⟩
 rw [hRES]
 have hRl : RES.length = cols := by rw [<- hRES]; simp
 obtain ⟨V, hV⟩ : ∃ X, w.alloc (.cells #[.int .i64 fg, .int .i64 bg, .int .i64 fl] 53) = X := ⟨_, rfl⟩
 have kV : Kept (fun _ => False) w V := by rw [<- hV]; exact (Kept.refl _ _).alloc _
 have b0 : V.heap[w.heap.size]? = some (.cells #[.int .i64 fg, .int .i64 bg, .int .i64 fl] 53 (0, 0)) := by rw [<- hV]; exact blk_new _ _
 have HB := Lib.hid (fun (x : World) (k : Kept (fun _ => False) V x) => show GrB x p rp rows cols lv top /\ x.heap[w.heap.size]? = some (.cells #[.int .i64 fg, .int .i64 bg, .int .i64 fl] 53 (0, 0)) from ⟨(kV.then k).blk h id, k.blk b0 id⟩)
 have HNL := Lib.hid (fun (x : World) => show Calls Tryz.prog 278 #[.int .i64 cols, .agg #[.int .i64 fg, .int .i64 bg, .int .i64 fl]] x fun e w' => ∃ v, e = .returned v /\ MadeC x RES v w' from by
  have h9 := newl_any cols ⟨fg, bg, fl⟩ x hc.2
  rw [hRES] at h9
  exact h9)
 have HKV := Lib.hid (And.intro kV (And.intro hRl hc))
 have h63 : (9223372036854775807 : Nat) = maxLen := rfl
 clear h kV b0 hRES hRl
 go_enter Tryz.func224, Tryz.ntmps224
 go_wp2
 go_loopg [7, 9] n (fun gg rv jv wr => ∃ (k : Nat) (v : Value) (vs : List Value), n <= gg + k /\ k <= n /\ rv = v /\ jv = .int .i64 (k : Int) /\ NewR (fun _ => False) V RES k v vs wr)
 case atStart => exact ⟨0, _, [], by omega, by omega, rfl, rfl, ⟨OwnV.nil _ _, rfl, (fun _ h => by cases h), (fun _ h => by cases h), Kept.refl _ _⟩⟩
 case round =>
  obtain ⟨k, v, vs, hgg, hkk, rfl, rfl, hnr⟩ := hrel
  have hkv := hnr.k
  by_cases hk1 : k < n
  ·have g1 : decide (k < n) = true := decide_eq_true hk1
   have g1' : decide ((k : Int) < (n : Int)) = true := decide_eq_true (by omega)
   have wk : IntKind.i64.wrap ((k : Int) + 1) = (k : Int) + 1 := IntWalk.i64_in _ (by omega)
   obtain ⟨ga, gc, hge, -⟩ := hnr.own.shape
   rw [hnr.len] at hge
   subst hge
   obtain ⟨WR, hWR⟩ : ∃ WR, WR = wr.drew := ⟨_, rfl⟩
   have kR : Kept (fun _ => False) wr WR := by rw [hWR]; exact (Kept.refl _ _).drew
   obtain ⟨x0, x1, x2, x3, x4⟩ := blk5c (HB.out WR (hkv.then kR)).1
   obtain ⟨⟨y0, -⟩, ⟨y1, -⟩, y2, -⟩ := blk3 (HB.out WR (hkv.then kR)).2
   have X2 := cell_regrown x2
   have Y0 := cell_regrown y0
   have Y1 := cell_regrown y1
   have Y2 := cell_regrown y2
   obtain ⟨R6, hR6⟩ : ∃ R : Value -> World -> Prop, R = fun v w' => ∃ g c, v = .slice (some ⟨g, 0, none⟩) cols c /\ OwnC w' (.slice (some ⟨g, 0, none⟩) cols c) RES /\ WR.heap.size <= g := ⟨_, rfl⟩
   obtain ⟨R7, hR7⟩ : ∃ R : Value -> World -> Prop, R = fun v w' => ∃ b g c, v = .slice (some ⟨b, 0, none⟩) 1 1 /\ w'.heap[b]? = some (.cells #[.slice (some ⟨g, 0, none⟩) cols c] 68 (0, 0)) /\ OwnC w' (.slice (some ⟨g, 0, none⟩) cols c) RES /\ WR.heap.size <= g := ⟨_, rfl⟩
   have HR6 := Lib.hid hR6
   have HR7 := Lib.hid hR7
   have HWR := Lib.hid (And.intro hWR kR)
   have HNR := Lib.hid (And.intro hnr hkv)
   obtain ⟨i0, hi0, hz0, hs0, hb0⟩ := info_parts info68
   have HI0 := Lib.hid (And.intro hi0 (And.intro hz0 (And.intro hs0 hb0)))
   clear hi0 hz0 hs0 hb0 kR hR6 hR7 hWR x0 x1 x2 x3 x4 y0 y1 y2 hnr hkv
   go_wp2
   refine wp_region_grow #[0, 0, 2, 6, 14, 0, 62, 126, 255, 511] 8 [] (fun i => if i = 6 then some R6 else if i = 7 then some R7 else none) (by kernel_rfl) rfl (by kernel_rfl) (fun i hi => by cases hi) (fun _ _ _ _ _ h => h) ?_
   rintro _ rfl
   rw [<- HWR.out.1]
   simp only [List.take_succ_cons, List.take_zero, List.drop_succ_cons, List.drop_zero, number, Nat.reduceAdd]
   iterate 6 (refine wpGrow_step (fun K hK => ?_); go_simp; refine hK _ _ ?_; clear hK K)
   refine wpGrow_step (fun K hK => ?_)
   go_simp
   refine ⟨fun w' hg => ?_, fun v6 w6 hv6 _ => ?_⟩
   ·refine (HNL.out w').mono ?_
    rintro e w5 ⟨v, rfl, ho, hk, hb⟩
    refine ⟨v, rfl, hk, ?_⟩
    rw [HR6.out]
    obtain ⟨g, c, cur, hv, -⟩ := ho.blk (by rw [HKV.out.2.1]; have := HKV.out.2.2; omega)
    rw [HKV.out.2.1] at hv
    subst hv
    exact ⟨g, c, rfl, ho, Nat.le_trans hg.old.size (hb g rfl)⟩
   rw [HR6.out] at hv6
   obtain ⟨xg, xc, rfl, ho6⟩ := hv6
   have HO6 := Lib.hid ho6
   clear ho6
   refine hK _ _ ?_; clear hK K
   refine wpGrow_step (fun K hK => ?_)
   go_simp
   refine ⟨fun w' hg => ⟨(Kept.refl _ _).alloc _, ?_⟩, fun v7 w7 hv7 _ => ?_⟩
   ·rw [HR7.out]
    exact ⟨w'.heap.size, xg, xc, rfl, blk_new _ _, ((HO6.out.1.kept (hg.seen 6 (by kernel_rfl)) (fun _ _ => id)).kept ((Kept.refl (fun _ => False) _).alloc _) (fun _ _ => id)), HO6.out.2⟩
   rw [HR7.out] at hv7
   obtain ⟨lb, yg, yc, rfl, hb7, ho7⟩ := hv7
   have H7 := Lib.hid (And.intro hb7 ho7)
   clear hb7 ho7
   refine hK _ _ ?_; clear hK K
   refine wpGrow_nil ?_
   intro w10 hk10 hω
   have hk7 : Kept (fun _ => False) w7 w10 := hω 7
   have HN10 := Lib.hid (And.intro (HNR.out.1.up (HWR.out.2.then hk10)) (And.intro (HNR.out.2.then (HWR.out.2.then hk10)) (And.intro (H7.out.1) (And.intro (one_lit (hk7.blk H7.out.1 id)) (H7.out.2.1.kept hk7 (fun _ _ => id))))))
   clear hω hk10 hk7 X2 Y0 Y1 Y2
   go_wp2_with (at_builtin; refine wpList_appV rfl (.tmp 11) (.tmp 18) 65 rfl 68 i0 _ 24 Tryz.underlying65 HI0.out.1 HI0.out.2.1 HI0.out.2.2.1 HI0.out.2.2.2 rfl (.slice ga k gc) vs rfl HN10.out.1.own (some ⟨lb, 0, none⟩) 1 1 [.slice (some ⟨yg, 0, none⟩) cols yc] rfl (fun h => by cases h) rfl (by intro u hu; cases hu with | head => rfl | tail _ h => cases h) HN10.out.2.2.2.1 (by have := HNR.out.1.len; omega) (by have := HNR.out.1.len; omega) ?_; intro v8 w8 ho8 hk8 hpr8; have H8 := Lib.hid (And.intro ho8 (And.intro hk8 hpr8)); clear ho8 hk8 hpr8)
   have HNX := Lib.hid (show NewR (fun _ => False) V RES (k + 1) v8 (vs ++ [.slice (some ⟨yg, 0, none⟩) cols yc]) w8 from
    HN10.out.1.next H8.out.1 H8.out.2.1 H8.out.2.2 HN10.out.2.2.2.2 (fun b hb => by
     have h8 : yg = b := by cases hb; rfl
     have h1 := H7.out.2.2
     have h2 := HNR.out.1.k.size
     have h3 := HWR.out.2.size
     omega))
   go_roundg (gk - 1)
   case rel => exact ⟨k + 1, v8, vs ++ [.slice (some ⟨yg, 0, none⟩) cols yc], by omega, by omega, rfl, by go_num, HNX.out⟩
   case measure => omega
  ·obtain rfl : k = n := by omega
   have g1 : decide (k < k) = false := decide_eq_false (by omega)
   have HNR := Lib.hid hnr
   clear hnr hkv
   go_wp2
   go_ret
   exact ⟨_, vs, rfl, HNR.out.of HKV.out.1⟩
set_option maxRecDepth 100000 in
set_option maxHeartbeats 8000000 in
theorem gclear_any (p rp rows cols : Nat) (lv : Value) (top : Int) (a : Look) (w : World) (h : GrB w p rp rows cols lv top) (hc : 1 <= cols /\ cols <= 1000) (hn : rows <= 1000) :
  Calls Tryz.prog 154 #[.pointer (some ⟨p, 0, none⟩), lookV a] w fun e w' => (∃ x, e = .returned x) /\ ∃ v vs, GrB w' p rp rows cols v top /\ NewR (fun i => False \/ i = p) w (List.replicate cols ⟨0, 0, a⟩) rows v vs w' := by
 obtain ⟨fg, bg, fl⟩ := a
 unfold lookV
 simp only
 have hpl := lt_of_blk h
 obtain ⟨V, hV⟩ : ∃ X, w.alloc (.cells #[.int .i64 fg, .int .i64 bg, .int .i64 fl] 53) = X := ⟨_, rfl⟩
 have kV : Kept (fun _ => False) w V := by rw [<- hV]; exact (Kept.refl _ _).alloc _
 have b0 : V.heap[w.heap.size]? = some (.cells #[.int .i64 fg, .int .i64 bg, .int .i64 fl] 53 (0, 0)) := by rw [<- hV]; exact blk_new _ _
 obtain ⟨WR, hWR⟩ : ∃ WR, WR = V.drew := ⟨_, rfl⟩
 have kR : Kept (fun _ => False) w WR := kV.then (by rw [hWR]; exact (Kept.refl _ _).drew)
 have hR := kR.blk h id
 obtain ⟨x0, x1, x2, x3, x4⟩ := blk5c hR
 obtain ⟨⟨y0, -⟩, ⟨y1, -⟩, y2, -⟩ := blk3 (show WR.heap[w.heap.size]? = some (.cells #[.int .i64 fg, .int .i64 bg, .int .i64 fl] 53 (0, 0)) by rw [hWR]; exact b0)
 have X1 := cell_regrown x1
 have Y0 := cell_regrown y0
 have Y1 := cell_regrown y1
 have Y2 := cell_regrown y2
 obtain ⟨RES, hRES⟩ : ∃ R, List.replicate cols (⟨0, 0, ⟨fg, bg, fl⟩⟩ : Cl) = R := ⟨_, rfl⟩
 rw [hRES]
 have HBL := Lib.hid (fun (x : World) (k : Kept (fun _ => False) WR x) => show Calls Tryz.prog 224 #[.pointer (some ⟨p, 0, none⟩), .int .i64 rows, .agg #[.int .i64 fg, .int .i64 bg, .int .i64 fl]] x fun e w' => ∃ v vs, e = .returned v /\ NewR (fun _ => False) x RES rows v vs w' from by
  have h9 := gblanks_any p rp rows cols lv top rows ⟨fg, bg, fl⟩ x (k.blk hR id) hc hn
  rw [hRES] at h9
  exact h9)
 obtain ⟨R7, hR7⟩ : ∃ R : Value -> World -> Prop, R = fun v w' => ∃ vs, NewR (fun _ => False) WR RES rows v vs w' := ⟨_, rfl⟩
 have HR7 := Lib.hid hR7
 have HWR := Lib.hid hWR
 have HK := Lib.hid (And.intro kR (And.intro h hpl))
 clear h hpl kV b0 kR hR x0 x1 x2 x3 x4 y0 y1 y2 hR7 hWR hRES
 go_enter Tryz.func154, Tryz.ntmps154
 go_wp2
 refine wp_region_grow #[0, 0, 0, 4, 12, 28, 0, 126, 255, 511, 1023] 8 [] (fun i => if i = 7 then some R7 else none) (by kernel_rfl) rfl (by kernel_rfl) (fun i hi => by cases hi) (fun _ _ _ _ _ h => h) ?_
 rintro _ rfl
 rw [<- HWR.out]
 simp only [List.take_succ_cons, List.take_zero, List.drop_succ_cons, List.drop_zero, number, Nat.reduceAdd]
 iterate 7 (refine wpGrow_step (fun K hK => ?_); go_simp; refine hK _ _ ?_; clear hK K)
 refine wpGrow_step (fun K hK => ?_)
 go_simp
 refine ⟨fun w' hg => (HBL.out w' hg.old).mono (fun e w'' ⟨v, vs, he, hnr⟩ => ⟨v, he, hnr.k, by rw [HR7.out]; exact ⟨vs, hnr.of hg.old⟩⟩), fun v7 w7 hv7 _ => ?_⟩
 rw [HR7.out] at hv7
 obtain ⟨vs, hnr⟩ := hv7
 obtain ⟨ga, gc, hge, -⟩ := hnr.own.shape
 rw [hnr.len] at hge
 subst hge
 have HNR := Lib.hid hnr
 clear hnr
 refine hK _ _ ?_; clear hK K
 refine wpGrow_nil ?_
 intro w10 hk10 hω
 have hk7 : Kept (fun _ => False) w7 w10 := hω 7
 have hn10 := HNR.out.up hk7
 have hB10 : GrB w10 p rp rows cols lv top := (HK.out.1.then hk10).blk HK.out.2.1 id
 have q3 : w10.cell? ⟨p, 3, none⟩ = some lv := blk_cell hB10 3
 have q3' : w10.frozen? ⟨p, 3, none⟩ = false := blk_free hB10 3
 obtain ⟨U, hU⟩ : ∃ U, w10.setCell ⟨p, 3, none⟩ (.slice ga rows gc) = U := ⟨_, rfl⟩
 have HE := Lib.hid (show GrB U p rp rows cols (.slice ga rows gc) top /\ NewR (fun i => False \/ i = p) w RES rows (.slice ga rows gc) vs U from by
  rw [<- hU]
  exact ⟨blk_set hB10 3 _, (hn10.of HK.out.1).set ((Kept.refl (fun i => i = p) _).setCell (p := ⟨p, 3, none⟩) (.inl rfl) _) HK.out.2.2⟩)
 clear hω hk10 hk7 hn10 hB10 X1 Y0 Y1 Y2
 go_wp2
 go_end0
 exact ⟨⟨_, rfl⟩, _, vs, HE.out⟩
end Go.Proofs.YtmplpcmcbliadaaGreatDoor
namespace Go.Proofs.YtmplpcmcbliadaaGreatDoor
open Go.RowKit Go.Sort Pl
attribute [local go_sem] growOp growUpon sameUpon
set_option maxRecDepth 100000 in
set_option maxHeartbeats 8000000 in
theorem gnew_any (rows cols back : Nat) (w : World) (hr : 1 <= rows /\ rows <= 1000) (hc : 1 <= cols /\ cols <= 1000) (hb : back <= 16384) :
  Calls Tryz.prog 94 #[.int .i64 rows, .int .i64 cols, .int .i64 back] w fun e w' => ∃ p rp v vs, e = .returned (.tuple #[.pointer (some ⟨p, 0, none⟩), .int .i64 0]) /\ w.heap.size <= p /\ w.heap.size <= rp /\ p ≠ rp /\ GrB w' p rp rows cols v 0 /\ RnB w' rp back (.slice none 0 0) 0 /\ NewR (fun _ => False) w (List.replicate cols ⟨0, 0, ⟨0, 0, 0⟩⟩) rows v vs w' /\ (∀ b, v.ownBlock = some b -> b ≠ p /\ b ≠ rp) /\ ∀ u ∈ vs, ∀ b, u.ownBlock = some b -> b ≠ p /\ b ≠ rp := by
 have HS1 := Lib.hid (fun (x : World) => show Calls Tryz.prog 152 #[.int .i64 rows] x fun e w' => e = .returned (.bool true) /\ x = w' from by
  have h := gsize_any rows x
  rw [show (decide ((1 : Int) <= (rows : Int)) && decide ((rows : Int) <= 1000)) = true from by simp; omega] at h
  exact h)
 have HS2 := Lib.hid (fun (x : World) => show Calls Tryz.prog 152 #[.int .i64 cols] x fun e w' => e = .returned (.bool true) /\ x = w' from by
  have h := gsize_any cols x
  rw [show (decide ((1 : Int) <= (cols : Int)) && decide ((cols : Int) <= 1000)) = true from by simp; omega] at h
  exact h)
 have g0 : decide ((back : Int) < 0) = false := decide_eq_false (by omega)
 have g1 : decide (16384 < (back : Int)) = false := decide_eq_false (by omega)
 have g1' : decide (16384 < back) = false := decide_eq_false (by omega)
 have HRN := Lib.hid (fun (x : World) => rnew_any back x (by omega))
 have HB := Lib.hid (And.intro hr (And.intro hc hb))
 clear hb
 go_enter Tryz.func94, Tryz.ntmps94
 go_wp2_with (go_at_call 152; first | ((with_reducible refine (HS1.out _).mono ?_); rintro e w' ⟨rfl, rfl⟩) | ((with_reducible refine (HS2.out _).mono ?_); rintro e w' ⟨rfl, rfl⟩))
 refine (HRN.out _).mono ?_
 rintro e w2 ⟨rfl, hrn, hk2⟩
 obtain ⟨V, hV⟩ : ∃ X, w2.alloc (.cells #[.pointer (some ⟨w.heap.size, 0, none⟩), .int .i64 rows, .int .i64 cols, .slice none 0 0, .int .i64 0] 189) = X := ⟨_, rfl⟩
 have kV : Kept (fun _ => False) w2 V := by rw [<- hV]; exact (Kept.refl _ _).alloc _
 have bV : GrB V w2.heap.size w.heap.size rows cols (.slice none 0 0) 0 := by rw [<- hV]; exact blk_new _ _
 have hrl := lt_of_blk hrn
 have HCL := Lib.hid (gclear_any w2.heap.size w.heap.size rows cols (.slice none 0 0) 0 ⟨0, 0, 0⟩ V bV hc hr.2)
 have H2 := Lib.hid (And.intro (hk2.then kV) (And.intro (kV.blk hrn id) (And.intro hrl (And.intro (lt_of_blk bV) hk2.size))))
 unfold lookV at HCL
 clear hr hc hrn hk2 kV bV hrl
 go_wp2_with fail
 refine HCL.out.mono ?_
 rintro e w3 ⟨⟨x, rfl⟩, v, vs, hg, hnr⟩
 have H3 := Lib.hid (And.intro hg hnr)
 clear hg hnr
 go_wp2
 refine bodyPost_ret (v := .tuple #[.pointer (some ⟨w2.heap.size, 0, none⟩), .int .i64 0]) (by simp [results, Tryz.results94, go_sem]) rfl ⟨w2.heap.size, w.heap.size, v, vs, rfl, H2.out.2.2.2.2, Nat.le_refl _, by have := H2.out.2.2.1; omega, H3.out.1, H3.out.2.k.blk H2.out.2.1 (fun h => by have := H2.out.2.2.1; rcases h with h | h; exact h; have h9 : w.heap.size = w2.heap.size := h; omega), ?_, ?_, ?_⟩
 ·have hv := H2.out.1.size
  have hn := H3.out.2
  exact ⟨hn.own, hn.len, fun b hb => Nat.le_trans hv (hn.new b hb), fun u hu => ⟨(hn.all u hu).1, fun b hb => Nat.le_trans hv ((hn.all u hu).2 b hb)⟩, H2.out.1.trans (hn.k.mono fun i _ hi => Or.inr (by rcases hi with hi | hi; exact hi.elim; have h9 : i = w2.heap.size := hi; have := H2.out.2.2.2.2; omega))⟩
 ·intro b hb
  have h1 := H3.out.2.new b hb
  have h2 := H2.out.2.2.2.1
  have h3 := H2.out.2.2.1
  omega
 ·intro u hu b hb
  have h1 := (H3.out.2.all u hu).2 b hb
  have h2 := H2.out.2.2.2.1
  have h3 := H2.out.2.2.1
  omega
end Go.Proofs.YtmplpcmcbliadaaGreatDoor
namespace Go.Proofs.YtmplpcmcbliadaaGreatDoor
open Go.RowKit Go.Sort Pl
attribute [local go_sem] growOp growUpon sameUpon
theorem OwnV.new' (e : TypeId) (w : World) : OwnV e (w.alloc (.cells #[] e)) (.slice (some ⟨w.heap.size, 0, none⟩) 0 0) [] := ⟨by rfl, .inr ⟨w.heap.size, 0, #[], rfl, Nat.zero_le _, blk_new _ _, Nat.le_refl _, by simp [maxLen], rfl, rfl⟩⟩
def TwR (w : World) (vs : List Value) (v : Value) (w' : World) : Prop := OwnV 68 w' v vs /\ (∀ b, v.ownBlock = some b -> w.heap.size <= b) /\ Kept (fun _ => False) w w'
set_option maxRecDepth 100000 in
set_option maxHeartbeats 8000000 in
theorem crow_any (v : Value) (vs : List Value) (w : World) (h : OwnV 68 w v vs) (hn : vs.length <= 100000) (h1 : ∀ u ∈ vs, u.oneCell' = true) : Calls Tryz.prog 160 #[v] w fun e w' => ∃ v', e = .returned v' /\ TwR w vs v' w' := by
 obtain ⟨a, cap, hv, hlc, hm, hnil, hsm, hob⟩ := h.shape
 cases a with
 | none =>
  obtain ⟨h0, hc0⟩ := hnil rfl
  have hvs : vs = [] := List.eq_nil_of_length_eq_zero h0
  subst hvs
  subst hc0
  subst hv
  have qn := fun w => Lib.run_eql_slice_nil (P := Tryz.prog) w 65 68 none 0 0 0 0 Tryz.underlying65
  clear h hnil hsm hob hlc hm h0
  go_enter Tryz.func160, Tryz.ntmps160
  go_wp2
  go_ret
  exact ⟨_, rfl, OwnV.nil _ _, (fun b h => by cases h), Kept.refl _ _⟩
 | some x =>
  obtain ⟨n, hnn⟩ : ∃ n, vs.length = n := ⟨_, rfl⟩
  rw [hnn] at hv
  subst hv
  obtain ⟨g, rfl⟩ : ∃ g, x = ⟨g, 0, none⟩ := by
   obtain ⟨h2, h3⟩ := h
   rcases h3 with ⟨h4, -⟩ | ⟨g, cap', cur, h4, -⟩
   ·cases h4
   ·cases h4; exact ⟨g, rfl⟩
  have qn := fun w => Lib.run_eql_slice_nil (P := Tryz.prog) w 65 68 (some ⟨g, 0, none⟩) n cap 0 0 Tryz.underlying65
  obtain ⟨i0, hi, hz, hsz, hby⟩ := info_parts info68
  have HI := Lib.hid (And.intro hi (And.intro hz (And.intro hsz hby)))
  have h63 : (9223372036854775807 : Nat) = maxLen := rfl
  have HV := Lib.hid (And.intro (OwnV.new' 68 w) (And.intro (h.kept ((Kept.refl (fun _ => False) w).alloc (.cells #[] 68)) (fun _ _ => id)) (And.intro hnn h1)))
  have HAT := Lib.hid (fun (y : Addr) (hy : some (⟨g, 0, none⟩ : Addr) = some y) (j : Nat) (u : Value) (hu : vs[j]? = some u) => show (w.alloc (.cells #[] 68)).cell? (y.add j) = some u from by
   cases hy
   have e : (⟨g, 0, none⟩ : Addr).add j = ⟨g, j, none⟩ := by unfold Addr.add; split <;> simp_all
   rw [e, HV.out.2.1.at.2.2.2.1 j (by have := (List.getElem?_eq_some_iff.1 hu).1; have := HV.out.2.2.1; omega)]
   exact hu)
  clear h hnil hsm hob hlc hm hi hz hsz hby h1
  go_enter Tryz.func160, Tryz.ntmps160
  go_wp2_with (at_builtin; refine wpList_appV rfl (.tmp 5) (.tmp 6) 65 rfl 68 i0 _ 24 Tryz.underlying65 HI.out.1 HI.out.2.1 HI.out.2.2.1 HI.out.2.2.2 rfl (.slice (some ⟨w.heap.size, 0, none⟩) 0 0) [] rfl HV.out.1 (some ⟨g, 0, none⟩) n cap vs rfl (fun h => by cases h) HV.out.2.2.1 HV.out.2.2.2 HAT.out (by simp; have := HV.out.2.2.1; omega) (by simp; have := HV.out.2.2.1; omega) ?_; intro v8 w8 ho8 hk8 hpr8; have H8 := Lib.hid (And.intro ho8 (And.intro hk8 hpr8)); clear ho8 hk8 hpr8)
  go_ret
  refine ⟨v8, rfl, H8.out.1, fun b hb => ?_, ((Kept.refl (fun _ => False) w).alloc (.cells #[] 68)).trans (H8.out.2.1.mono fun i _ hi => Or.inr (by cases hi; exact Nat.le_refl _))⟩
  rcases H8.out.2.2 with h | h
  ·rw [h] at hb; cases hb; exact Nat.le_refl _
  ·rw [hb] at h; have h9 := Option.some.inj h; simp at h9; omega
end Go.Proofs.YtmplpcmcbliadaaGreatDoor
namespace Go.Proofs.YtmplpcmcbliadaaGreatDoor
open Go.RowKit Go.Sort Pl
set_option maxRecDepth 100000 in
set_option maxHeartbeats 8000000 in
theorem rtwin_any {at' : Nat} (p most : Nat) (v : Value) (gone : Int) (vs : List Value) (w : World) (h : RnA w p most v at' gone) (ho : OwnV 68 w v vs) (hn : vs.length <= 100000) (h1 : ∀ u ∈ vs, u.oneCell' = true) :
  Calls Tryz.prog 159 #[.pointer (some ⟨p, 0, none⟩)] w fun e w' => ∃ v', e = .returned (.pointer (some ⟨w.heap.size, 0, none⟩)) /\ RnA w' w.heap.size most v' at' gone /\ OwnV 68 w' v' vs /\ (∀ b, v'.ownBlock = some b -> w.heap.size < b) /\ Kept (fun _ => False) w w' := by
 obtain ⟨ar, cr, hvr, -⟩ := ho.shape
 obtain ⟨nr, hnr⟩ : ∃ n, vs.length = n := ⟨_, rfl⟩
 rw [hnr] at hvr
 subst hvr
 obtain ⟨x0, x1, x2, x3⟩ := blk4c h
 obtain ⟨V, hV⟩ : ∃ X, w.alloc (.cells #[.int .i64 most, .slice ar nr cr, .int .i64 at', .int .i64 gone] 256) = X := ⟨_, rfl⟩
 have kV : Kept (fun _ => False) w V := by rw [<- hV]; exact (Kept.refl _ _).alloc _
 have bV : RnA V w.heap.size most (.slice ar nr cr) at' gone := by rw [<- hV]; exact blk_new _ _
 obtain ⟨-, y1, -, -⟩ := blk4c (kV.blk h id)
 have HC := Lib.hid (crow_any (.slice ar nr cr) vs V (ho.kept kV (fun _ _ => id)) hn h1)
 have HV := Lib.hid (And.intro kV (And.intro bV (And.intro (lt_of_blk bV) hnr)))
 clear h ho hn h1 kV bV hnr
 go_enter Tryz.func159, Tryz.ntmps159
 go_wp2_with fail
 refine HC.out.mono ?_
 rintro e w2 ⟨v', rfl, ht1, ht2, ht3⟩
 have b2 := ht3.blk HV.out.2.1 id
 have q1 : w2.cell? ⟨w.heap.size, 1, none⟩ = some (.slice ar nr cr) := blk_cell b2 1
 have q1' : w2.frozen? ⟨w.heap.size, 1, none⟩ = false := blk_free b2 1
 obtain ⟨a', c', hv', -⟩ := ht1.shape
 rw [HV.out.2.2.2] at hv'
 subst hv'
 obtain ⟨U, hU⟩ : ∃ U, w2.setCell ⟨w.heap.size, 1, none⟩ (.slice a' nr c') = U := ⟨_, rfl⟩
 have hlt := HV.out.2.2.1
 have HE := Lib.hid (show RnA U w.heap.size most (.slice a' nr c') at' gone /\ OwnV 68 U (.slice a' nr c') vs /\ (∀ b, (Value.slice a' nr c').ownBlock = some b -> w.heap.size < b) /\ Kept (fun _ => False) w U from by
  have kU : Kept (fun i => i = w.heap.size) w2 U := by rw [<- hU]; exact (Kept.refl (fun i => i = w.heap.size) _).setCell (p := ⟨w.heap.size, 1, none⟩) (.inl rfl) _
  refine ⟨by rw [<- hU]; exact blk_set b2 1 _, ht1.kept kU (fun b hb hS => by have h9 : b = w.heap.size := hS; have := ht2 b hb; omega), fun b hb => by have := ht2 b hb; omega, (HV.out.1.then ht3).trans (kU.mono fun i _ hi => Or.inr (by have h9 : i = w.heap.size := hi; omega))⟩)
 clear ht1 ht2 ht3 b2 hlt
 go_wp2
 go_ret
 exact ⟨_, rfl, HE.out⟩
set_option maxRecDepth 100000 in
set_option maxHeartbeats 8000000 in
theorem gtwin_any {at' : Nat} (p rp rows cols most : Nat) (lv rv : Value) (top gone : Int) (ls rs : List Value) (w : World) (h : GrB w p rp rows cols lv top) (hr : RnA w rp most rv at' gone) (hl : OwnV 68 w lv ls) (ho : OwnV 68 w rv rs) (hn : ls.length <= 100000) (hm : rs.length <= 100000) (h1 : ∀ u ∈ ls, u.oneCell' = true) (h2 : ∀ u ∈ rs, u.oneCell' = true) :
  Calls Tryz.prog 101 #[.pointer (some ⟨p, 0, none⟩)] w fun e w' => ∃ q rq lv' rv', e = .returned (.pointer (some ⟨q, 0, none⟩)) /\ GrB w' q rq rows cols lv' top /\ RnA w' rq most rv' at' gone /\ OwnV 68 w' lv' ls /\ OwnV 68 w' rv' rs /\ Kept (fun _ => False) w w' := by
 obtain ⟨al, cl, hlv, -⟩ := hl.shape
 obtain ⟨nl, hnl⟩ : ∃ n, ls.length = n := ⟨_, rfl⟩
 rw [hnl] at hlv
 subst hlv
 obtain ⟨x0, x1, x2, x3, x4⟩ := blk5c h
 obtain ⟨V, hV⟩ : ∃ X, w.alloc (.cells #[.pointer (some ⟨rp, 0, none⟩), .int .i64 rows, .int .i64 cols, .slice al nl cl, .int .i64 top] 189) = X := ⟨_, rfl⟩
 have kV : Kept (fun _ => False) w V := by rw [<- hV]; exact (Kept.refl _ _).alloc _
 have bV : GrB V w.heap.size rp rows cols (.slice al nl cl) top := by rw [<- hV]; exact blk_new _ _
 obtain ⟨z0, z1, z2, z3, z4⟩ := blk5c (kV.blk h id)
 have HT := Lib.hid (rtwin_any rp most rv gone rs V (kV.blk hr id) (ho.kept kV (fun _ _ => id)) hm h2)
 have HCR := Lib.hid (fun (x : World) (hk : Kept (fun _ => False) w x) => crow_any (.slice al nl cl) ls x (hl.kept hk (fun _ _ => id)) hn h1)
 have HV := Lib.hid (And.intro kV (And.intro bV (And.intro (lt_of_blk bV) (And.intro h (And.intro (lt_of_blk h) hnl)))))
 clear h hr hl ho hn hm h1 h2 kV bV hnl
 go_enter Tryz.func101, Tryz.ntmps101
 go_wp2_with fail
 refine HT.out.mono ?_
 rintro e w2 ⟨rv', rfl, t1, t2, t3, t4⟩
 have b2 := t4.blk HV.out.2.1 id
 have q0 : w2.cell? ⟨w.heap.size, 0, none⟩ = some (.pointer (some ⟨rp, 0, none⟩)) := blk_cell b2 0
 have q0' : w2.frozen? ⟨w.heap.size, 0, none⟩ = false := blk_free b2 0
 obtain ⟨U, hU⟩ : ∃ U, w2.setCell ⟨w.heap.size, 0, none⟩ (.pointer (some ⟨V.heap.size, 0, none⟩)) = U := ⟨_, rfl⟩
 have kU : Kept (fun i => i = w.heap.size) w2 U := by rw [<- hU]; exact (Kept.refl (fun i => i = w.heap.size) _).setCell (p := ⟨w.heap.size, 0, none⟩) (.inl rfl) _
 have bU : GrB U w.heap.size V.heap.size rows cols (.slice al nl cl) top := by rw [<- hU]; exact blk_set b2 0 _
 have hqV := HV.out.2.2.1
 have hpq := HV.out.2.2.2.2.1
 have kwU : Kept (fun _ => False) w U := (HV.out.1.then t4).trans (kU.mono fun i _ hi => Or.inr (by have h9 : i = w.heap.size := hi; omega))
 have rU : RnA U V.heap.size most rv' at' gone := kU.blk t1 (fun (h : V.heap.size = w.heap.size) => by omega)
 have oU : OwnV 68 U rv' rs := t2.kept kU (fun b hb hS => by have h9 : b = w.heap.size := hS; have := t3 b hb; omega)
 obtain ⟨y0, y1, y2, y3, y4⟩ := blk5c (kwU.blk HV.out.2.2.2.1 id)
 have HC := Lib.hid (HCR.out U kwU)
 have HU := Lib.hid (And.intro kwU (And.intro bU (And.intro rU (And.intro oU (And.intro t3 (And.intro (lt_of_blk bU) (Nat.le_trans (Nat.le_refl _) t4.size)))))))
 clear t1 t2 t3 t4 b2 kU bU kwU rU oU hqV hpq
 go_wp2_with fail
 refine HC.out.mono ?_
 rintro e w3 ⟨lv', rfl, s1, s2, s3⟩
 have b3 := s3.blk HU.out.2.1 id
 have q3 : w3.cell? ⟨w.heap.size, 3, none⟩ = some (.slice al nl cl) := blk_cell b3 3
 have q3' : w3.frozen? ⟨w.heap.size, 3, none⟩ = false := blk_free b3 3
 obtain ⟨a', c', hv', -⟩ := s1.shape
 rw [HV.out.2.2.2.2.2] at hv'
 subst hv'
 obtain ⟨Z, hZ⟩ : ∃ Z, w3.setCell ⟨w.heap.size, 3, none⟩ (.slice a' nl c') = Z := ⟨_, rfl⟩
 have HE := Lib.hid (show GrB Z w.heap.size V.heap.size rows cols (.slice a' nl c') top /\ RnA Z V.heap.size most rv' at' gone /\ OwnV 68 Z (.slice a' nl c') ls /\ OwnV 68 Z rv' rs /\ Kept (fun _ => False) w Z from by
  have kZ : Kept (fun i => i = w.heap.size) w3 Z := by rw [<- hZ]; exact (Kept.refl (fun i => i = w.heap.size) _).setCell (p := ⟨w.heap.size, 3, none⟩) (.inl rfl) _
  have hqV := HV.out.2.2.1
  have hul := HU.out.2.2.2.2.2.1
  refine ⟨by rw [<- hZ]; exact blk_set b3 3 _, kZ.blk (s3.blk HU.out.2.2.1 id) (fun (h : V.heap.size = w.heap.size) => by omega), s1.kept kZ (fun b hb hS => by have h9 : b = w.heap.size := hS; have := s2 b hb; omega), (HU.out.2.2.2.1.kept s3 (fun _ _ => id)).kept kZ (fun b hb hS => by have h9 : b = w.heap.size := hS; have := HU.out.2.2.2.2.1 b hb; omega), (HU.out.1.then s3).trans (kZ.mono fun i _ hi => Or.inr (by have h9 : i = w.heap.size := hi; omega))⟩)
 clear s1 s2 s3 b3
 go_wp2
 go_ret
 exact ⟨w.heap.size, _, _, _, rfl, HE.out⟩
attribute [local go_sem] growOp growUpon sameUpon
theorem OwnC.sl {w : World} {u : Value} {l : List Cl} (h : OwnC w u l) (h0 : 0 < l.length) : ∃ g c, u = .slice (some ⟨g, 0, none⟩) l.length c /\ SlC w (some ⟨g, 0, none⟩) l.length l /\ g < w.heap.size /\ l.length <= c := by
 obtain ⟨g, cap, cur, hv, hg, hc, -⟩ := h.blk h0
 obtain ⟨a, c', hv', hs, -⟩ := h.shape
 rw [hv] at hv'
 cases hv'
 exact ⟨g, _, hv, hs, lt_of_blk hg, hc⟩
set_option maxRecDepth 100000 in
set_option maxHeartbeats 8000000 in
theorem gline_no (p rp rows cols : Nat) (lv : Value) (top : Int) (w : World) (h : GrB w p rp rows cols lv top) : Calls Tryz.prog 60 #[.pointer (some ⟨p, 0, none⟩), .int .i64 rows] w fun e w' => e = .returned (.tuple #[.slice none 0 0, .bool false]) /\ w = w' := by
 have HI := Lib.hid (show Calls Tryz.prog 102 #[.pointer (some ⟨p, 0, none⟩), .int .i64 rows] w fun e w' => e = .returned (.bool false) /\ w = w' from by
  have h9 := gis_any p rp rows cols lv top rows w h
  rw [show decide (rows < rows) = false from decide_eq_false (by omega)] at h9
  exact h9)
 clear h
 go_enter Tryz.func60, Tryz.ntmps60
 go_wp2_with fail
 refine HI.out.mono ?_
 rintro e w1 ⟨rfl, rfl⟩
 go_wp2
 exact bodyPost_ret (v := .tuple #[.slice none 0 0, .bool false]) (by simp [results, Tryz.results60, go_sem]) rfl ⟨rfl, rfl⟩
set_option maxRecDepth 100000 in
set_option maxHeartbeats 8000000 in
theorem gline_yes (p rp rows cols i : Nat) (lv : Value) (top : Int) (ls : List Value) (u : Value) (l : List Cl) (w : World) (h : GrB w p rp rows cols lv top) (ho : OwnV 68 w lv ls) (hn : ls.length = rows) (hi : i < rows) (hr : rows <= 1000) (hu : ls[i]? = some u) (hl : OwnC w u l) (h0 : 0 < l.length /\ l.length <= 1000) :
  Calls Tryz.prog 60 #[.pointer (some ⟨p, 0, none⟩), .int .i64 i] w fun e w' => ∃ v, e = .returned (.tuple #[v, .bool true]) /\ MadeC w l v w' := by
 obtain ⟨x0, x1, x2, x3, x4⟩ := blk5c h
 have HI := Lib.hid (show Calls Tryz.prog 102 #[.pointer (some ⟨p, 0, none⟩), .int .i64 i] w fun e w' => e = .returned (.bool true) /\ w = w' from by
  have h9 := gis_any p rp rows cols lv top i w h
  rw [show decide (i < rows) = true from decide_eq_true hi] at h9
  exact h9)
 obtain ⟨al, cl, hlv, -, -, -, hsm, -⟩ := ho.shape
 rw [hn] at hlv hsm
 subst hlv
 obtain ⟨g, rfl⟩ := hsm (by omega)
 have hat := ho.at.2.2.2.1 i hi
 rw [hu] at hat
 obtain ⟨lg, lc, rfl, hs, -, -⟩ := hl.sl h0.1
 obtain ⟨n, hnn⟩ : ∃ n, l.length = n := ⟨_, rfl⟩
 rw [hnn] at hat hs h0
 have HC := Lib.hid (clonec_any ⟨lg, 0, none⟩ n lc l w hs h0.2)
 have i0 : (0 : Int) <= (i : Int) := by omega
 have i1 : (i : Int) < (rows : Int) := by omega
 clear h ho hl hs hsm x0 x1 x2 x4 hu
 go_enter Tryz.func60, Tryz.ntmps60
 go_wp2_with fail
 refine HI.out.mono ?_
 rintro e w1 ⟨rfl, rfl⟩
 go_wp2_with fail
 refine HC.out.mono ?_
 rintro e w2 ⟨v, rfl, hm⟩
 have HM := Lib.hid hm
 clear hm
 go_wp2
 exact bodyPost_ret (v := .tuple #[v, .bool true]) (by simp [results, Tryz.results60, go_sem]) rfl ⟨v, rfl, HM.out⟩
end Go.Proofs.YtmplpcmcbliadaaGreatDoor
namespace Go.Proofs.YtmplpcmcbliadaaGreatDoor
open Go.RowKit Go.Sort Pl
attribute [local go_sem] growOp growUpon sameUpon
structure RowM (w : World) (LS : List (List Cl)) (v : Value) (vs : List Value) (w' : World) : Prop where
 own : OwnV 68 w' v vs
 len : vs.length = LS.length
 new : ∀ b, v.ownBlock = some b -> w.heap.size <= b
 all : ∀ (j : Nat) (u : Value) (l : List Cl), vs[j]? = some u -> LS[j]? = some l -> OwnC w' u l /\ ∀ b, u.ownBlock = some b -> w.heap.size <= b
 k : Kept (fun _ => False) w w'
theorem RowM.up {w : World} {LS : List (List Cl)} {v : Value} {vs : List Value} {w1 w2 : World} (h : RowM w LS v vs w1) (hk : Kept (fun _ => False) w1 w2) : RowM w LS v vs w2 :=
 ⟨h.own.kept hk (fun _ _ => id), h.len, h.new, fun j u l hu hl => ⟨(h.all j u l hu hl).1.kept hk (fun _ _ => id), (h.all j u l hu hl).2⟩, h.k.then hk⟩
theorem RowM.next {w : World} {LS : List (List Cl)} {l : List Cl} {v u v5 : Value} {vs : List Value} {w1 wa w5 : World} (h : RowM w LS v vs w1) (hka : Kept (fun _ => False) w1 wa) (ho : OwnV 68 w5 v5 (vs ++ [u])) (hk : Kept (fun k => v.ownBlock = some k) wa w5) (hpr : v5.ownBlock = v.ownBlock \/ v5.ownBlock = some wa.heap.size)
  (hu : OwnC wa u l) (hn : ∀ b, u.ownBlock = some b -> w.heap.size <= b) : RowM w (LS ++ [l]) v5 (vs ++ [u]) w5 := by
 have h := h.up hka
 have up : ∀ x m, OwnC wa x m -> OwnC w5 x m := fun x m hx => hx.kept hk (fun b hb hS => by
  obtain ⟨c1, h1⟩ := ownC_blk hx hb
  obtain ⟨c2, h2⟩ := ownV_blk h.own hS
  exact blk_ty2 h1 h2 (by decide))
 refine ⟨ho, by simp [h.len], fun b hb => ?_, fun j x m hx hm => ?_, h.k.trans (hk.mono fun i _ hi => Or.inr (h.new i hi))⟩
 ·rcases hpr with h1 | h1
  ·exact h.new b (by rw [<- h1]; exact hb)
  ·rw [hb] at h1; cases h1; exact h.k.size
 ·have hl := h.len
  by_cases hj : j < vs.length
  ·rw [List.getElem?_append_left hj] at hx
   rw [List.getElem?_append_left (by omega)] at hm
   exact ⟨up x m (h.all j x m hx hm).1, (h.all j x m hx hm).2⟩
  ·rw [List.getElem?_append_right (by omega)] at hx
   rw [List.getElem?_append_right (by omega)] at hm
   have hj0 : j - vs.length = 0 := by
    have := (List.getElem?_eq_some_iff.1 hx).1
    simp at this; omega
   rw [<- hl, hj0] at hm
   rw [hj0] at hx
   simp at hx hm
   subst hx hm
   exact ⟨up _ _ hu, hn⟩
set_option maxRecDepth 100000 in
set_option maxHeartbeats 8000000 in
theorem tlines_any (p rp rows cols : Nat) (lv : Value) (top : Int) (ls : List Value) (LS : List (List Cl)) (w : World) (h : GrB w p rp rows cols lv top) (ho : OwnV 68 w lv ls) (hn : ls.length = rows) (hr : rows <= 1000) (hL : LS.length = rows)
  (hall : ∀ (j : Nat) (u : Value) (l : List Cl), ls[j]? = some u -> LS[j]? = some l -> OwnC w u l) (hlen : ∀ l ∈ LS, 0 < l.length /\ l.length <= 1000) :
  Calls Tryz.prog 58 #[.func (.func 60) #[.pointer (some ⟨p, 0, none⟩)] #[]] w fun e w' => ∃ v vs, e = .returned v /\ RowM w LS v vs w' := by
 have HG := Lib.hid (fun (x : World) (k : Kept (fun _ => False) w x) => show GrB x p rp rows cols lv top /\ OwnV 68 x lv ls /\ ∀ (j : Nat) (u : Value) (l : List Cl), ls[j]? = some u -> LS[j]? = some l -> OwnC x u l from ⟨k.blk h id, ho.kept k (fun _ _ => id), fun j u l hu hl => (hall j u l hu hl).kept k (fun _ _ => id)⟩)
 have HN := Lib.hid (And.intro hn (And.intro hr (And.intro hL hlen)))
 have h63 : (9223372036854775807 : Nat) = maxLen := rfl
 clear h ho hall hlen hL hn
 go_enter Tryz.func58, Tryz.ntmps58
 go_wp2
 go_loopg [3, 4, 5, 6] (rows + 1) (fun gg rv iv _ _ wr => ∃ (i : Nat) (v : Value) (vs : List Value), rows + 1 <= gg + i /\ i <= rows /\ rv = v /\ iv = .int .i64 (i : Int) /\ RowM w (LS.take i) v vs wr)
 case atStart => exact ⟨0, _, [], by omega, by omega, rfl, rfl, ⟨OwnV.nil _ _, rfl, (fun _ h => by cases h), (fun j u l h => by simp at h), Kept.refl _ _⟩⟩
 case round =>
  obtain ⟨i, v, vs, hgg, hii, rfl, rfl, hrm⟩ := hrel
  have hvl := hrm.len
  rw [List.length_take] at hvl
  have hvi : vs.length = i := by have := HN.out.2.2.1; omega
  by_cases hi1 : i < rows
  ·have wk : IntKind.i64.wrap ((i : Int) + 1) = (i : Int) + 1 := IntWalk.i64_in _ (by omega)
   obtain ⟨u, hu⟩ : ∃ u, ls[i]? = some u := ⟨_, List.getElem?_eq_getElem (by have := HN.out.1; omega)⟩
   obtain ⟨l, hl⟩ : ∃ l, LS[i]? = some l := ⟨_, List.getElem?_eq_getElem (by have := HN.out.2.2.1; omega)⟩
   have hll := HN.out.2.2.2 l (List.mem_of_getElem? hl)
   obtain ⟨g1, g2, g3⟩ := HG.out wr hrm.k
   have HC := Lib.hid (gline_yes p rp rows cols i lv top ls u l wr g1 g2 HN.out.1 hi1 hr hu (g3 i u l hu hl) hll)
   obtain ⟨ga, gc, hge, -⟩ := hrm.own.shape
   rw [hvi] at hge
   subst hge
   have HR := Lib.hid (And.intro hrm (And.intro hl (And.intro hll hvi)))
   clear g1 g2 g3 hu hl hll hrm hvl hvi
   go_wp2_with fail
   refine HC.out.mono ?_
   rintro e w2 ⟨u2, rfl, ho2, hk2, hb2⟩
   obtain ⟨lg, lc, hue, -, -, -⟩ := ho2.sl HR.out.2.2.1.1
   obtain ⟨ll, hlen'⟩ : ∃ n, l.length = n := ⟨_, rfl⟩
   rw [hlen'] at hue
   subst hue
   obtain ⟨i0, hi0, hz0, hs0, hb0⟩ := info_parts info68
   have HI0 := Lib.hid (And.intro hi0 (And.intro hz0 (And.intro hs0 hb0)))
   have HA := Lib.hid (And.intro (HR.out.1.own.kept (hk2.then ((Kept.refl (fun _ => False) w2).alloc (.cells #[.slice (some ⟨lg, 0, none⟩) ll lc] 68))) (fun _ _ => id)) (one_lit (blk_new w2 (.cells #[.slice (some ⟨lg, 0, none⟩) ll lc] 68))))
   have H2 := Lib.hid (And.intro ho2 (And.intro hk2 hb2))
   clear ho2 hk2 hb2 hi0 hz0 hs0 hb0 hlen'
   go_wp2_with (at_builtin; refine wpList_appV rfl (.tmp 18) (.tmp 20) 65 rfl 68 i0 _ 24 Tryz.underlying65 HI0.out.1 HI0.out.2.1 HI0.out.2.2.1 HI0.out.2.2.2 rfl (.slice ga i gc) vs rfl HA.out.1 (some ⟨w2.heap.size, 0, none⟩) 1 1 [.slice (some ⟨lg, 0, none⟩) ll lc] rfl (fun h => by cases h) rfl (by intro u hu; cases hu with | head => rfl | tail _ h => cases h) HA.out.2 (by have := HR.out.2.2.2; omega) (by have := HR.out.2.2.2; omega) ?_; intro v8 w8 ho8 hk8 hpr8; have H8 := Lib.hid (And.intro ho8 (And.intro hk8 hpr8)); clear ho8 hk8 hpr8)
   have HNX := Lib.hid (show RowM w (LS.take (i + 1)) v8 (vs ++ [.slice (some ⟨lg, 0, none⟩) ll lc]) w8 from by
    rw [List.take_add_one, HR.out.2.1, Option.toList_some]
    exact HR.out.1.next (H2.out.2.1.then ((Kept.refl _ _).alloc _)) H8.out.1 H8.out.2.1 H8.out.2.2 (H2.out.1.kept ((Kept.refl (fun _ => False) _).alloc _) (fun _ _ => id)) (fun b hb => Nat.le_trans HR.out.1.k.size (H2.out.2.2 b hb)))
   go_roundg (gk - 1)
   case rel => exact ⟨i + 1, v8, _, by omega, by omega, rfl, by go_num, HNX.out⟩
   case measure => omega
  ·obtain rfl : i = rows := by omega
   obtain ⟨g1, g2, g3⟩ := HG.out wr hrm.k
   have HC := Lib.hid (gline_no p rp i cols lv top wr g1)
   rw [List.take_of_length_le (by have := HN.out.2.2.1; omega)] at hrm
   have HR := Lib.hid hrm
   clear g1 g2 g3 hrm hvl hvi
   go_wp2_with fail
   refine HC.out.mono ?_
   rintro e w2 ⟨rfl, rfl⟩
   go_wp2
   go_ret
   exact ⟨_, vs, rfl, HR.out⟩
end Go.Proofs.YtmplpcmcbliadaaGreatDoor
namespace Go.Proofs.YtmplpcmcbliadaaGreatDoor
open Go.RowKit Go.Sort Pl
structure Cu where
 row : Int
 col : Int
 wrap : Bool
 a : Look
 org : Bool
 s0 : Int
 s1 : Int
 sh : Int
structure Sn where
 g0 : Nat
 g1 : Nat
 c : Cu
 v : List Value
 md : Nat
 pv : Nat
 top : Int
 past : Int
 st : Nat
 ch : Int
 ar : Value
def Sn.cs (s : Sn) : Array Value := (([.pointer (some ⟨s.g0, 0, none⟩), .pointer (some ⟨s.g1, 0, none⟩), .int .i64 0, .int .i64 s.c.row, .int .i64 s.c.col, .bool s.c.wrap, .int .i64 s.c.a.fg, .int .i64 s.c.a.bg, .int .i64 s.c.a.fl, .bool s.c.org, .int .u8 s.c.s0, .int .u8 s.c.s1, .int .i64 s.c.sh] : List Value) ++ (s.v ++ ([.map (some s.md), .map (some s.pv), .int .i64 s.top, .int .i64 s.past, .pointer (some ⟨s.st, 0, none⟩), .int .i32 s.ch, s.ar] : List Value))).toArray
def SnB (w : World) (p : Nat) (s : Sn) : Prop := s.v.length = 22 /\ w.heap[p]? = some (.cells s.cs 178 (0, 0))
theorem SnB.kept {w w' : World} {p : Nat} {s : Sn} {S : Nat -> Prop} (h : SnB w p s) (hk : Kept S w w') (hp : ¬ S p) : SnB w' p s := ⟨h.1, hk.blk h.2 hp⟩
theorem SnB.lo {w : World} {p : Nat} {s : Sn} (h : SnB w p s) {i : Nat} (hi : i < 13) : w.cell? ⟨p, i, none⟩ = ([.pointer (some ⟨s.g0, 0, none⟩), .pointer (some ⟨s.g1, 0, none⟩), .int .i64 0, .int .i64 s.c.row, .int .i64 s.c.col, .bool s.c.wrap, .int .i64 s.c.a.fg, .int .i64 s.c.a.bg, .int .i64 s.c.a.fl, .bool s.c.org, .int .u8 s.c.s0, .int .u8 s.c.s1, .int .i64 s.c.sh] : List Value)[i]? := by
 rw [blk_cell h.2]
 unfold Sn.cs
 rw [List.getElem?_toArray, List.getElem?_append_left (by simpa using hi)]
theorem SnB.hi {w : World} {p : Nat} {s : Sn} (h : SnB w p s) {i : Nat} (hi : i < 7) : w.cell? ⟨p, 35 + i, none⟩ = ([.map (some s.md), .map (some s.pv), .int .i64 s.top, .int .i64 s.past, .pointer (some ⟨s.st, 0, none⟩), .int .i32 s.ch, s.ar] : List Value)[i]? := by
 rw [blk_cell h.2]
 unfold Sn.cs
 have hv := h.1
 rw [List.getElem?_toArray, List.getElem?_append_right (by show 13 <= 35 + i; omega), List.getElem?_append_right (by rw [hv]; show 22 <= 35 + i - 13; omega), hv]
 show _[35 + i - 13 - 22]? = _
 rw [show 35 + i - 13 - 22 = i by omega]
theorem SnB.free {w : World} {p : Nat} {s : Sn} (h : SnB w p s) (i : Nat) : w.frozen? ⟨p, i, none⟩ = false := blk_free h.2 i
theorem SnB.cells {w : World} {p : Nat} {s : Sn} (h : SnB w p s) : w.cell? ⟨p, 0, none⟩ = some (.pointer (some ⟨s.g0, 0, none⟩)) /\ w.cell? ⟨p, 1, none⟩ = some (.pointer (some ⟨s.g1, 0, none⟩)) /\ w.cell? ⟨p, 2, none⟩ = some (.int .i64 0) /\ w.cell? ⟨p, 3, none⟩ = some (.int .i64 s.c.row) /\ w.cell? ⟨p, 4, none⟩ = some (.int .i64 s.c.col) /\ w.cell? ⟨p, 5, none⟩ = some (.bool s.c.wrap) /\ w.cell? ⟨p, 6, none⟩ = some (.int .i64 s.c.a.fg) /\ w.cell? ⟨p, 7, none⟩ = some (.int .i64 s.c.a.bg) /\ w.cell? ⟨p, 8, none⟩ = some (.int .i64 s.c.a.fl) /\ w.cell? ⟨p, 9, none⟩ = some (.bool s.c.org) /\ w.cell? ⟨p, 10, none⟩ = some (.int .u8 s.c.s0) /\ w.cell? ⟨p, 11, none⟩ = some (.int .u8 s.c.s1) /\ w.cell? ⟨p, 12, none⟩ = some (.int .i64 s.c.sh) :=
 ⟨h.lo (by omega), h.lo (by omega), h.lo (by omega), h.lo (by omega), h.lo (by omega), h.lo (by omega), h.lo (by omega), h.lo (by omega), h.lo (by omega), h.lo (by omega), h.lo (by omega), h.lo (by omega), h.lo (by omega)⟩
theorem SnB.cells2 {w : World} {p : Nat} {s : Sn} (h : SnB w p s) : w.cell? ⟨p, 35, none⟩ = some (.map (some s.md)) /\ w.cell? ⟨p, 36, none⟩ = some (.map (some s.pv)) /\ w.cell? ⟨p, 37, none⟩ = some (.int .i64 s.top) /\ w.cell? ⟨p, 38, none⟩ = some (.int .i64 s.past) /\ w.cell? ⟨p, 39, none⟩ = some (.pointer (some ⟨s.st, 0, none⟩)) /\ w.cell? ⟨p, 40, none⟩ = some (.int .i32 s.ch) /\ w.cell? ⟨p, 41, none⟩ = some s.ar :=
 ⟨h.hi (i := 0) (by omega), h.hi (i := 1) (by omega), h.hi (i := 2) (by omega), h.hi (i := 3) (by omega), h.hi (i := 4) (by omega), h.hi (i := 5) (by omega), h.hi (i := 6) (by omega)⟩
set_option maxRecDepth 100000 in
theorem sg_any (p : Nat) (s : Sn) (w : World) (h : SnB w p s) : Calls Tryz.prog 100 #[.pointer (some ⟨p, 0, none⟩)] w fun e w' => e = .returned (.pointer (some ⟨s.g0, 0, none⟩)) /\ Kept (fun _ => False) w w' := by
 obtain ⟨WR, hWR⟩ : ∃ WR, WR = w.drew := ⟨_, rfl⟩
 obtain ⟨x0, -, x2, -⟩ := h.cells
 clear h
 go_enter Tryz.func100, Tryz.ntmps100
 go_wp2
 refine wp_region_still_lit (by kernel_rfl) (by kernel_rfl) ?_
 refine wpStill_step (fun K hK => ?_)
 go_simp
 repeat (generalize hfr : Act.mk _ _ = fr; refine hK _ ?_; clear hK K; refine wpStill_step (fun K hK => ?_); subst hfr; go_simp)
 generalize hfr : Act.mk _ _ = fr
 refine hK _ ?_
 clear hK K
 refine wpStill_nil ?_
 subst hfr
 go_wp2
 go_ret
 exact ⟨rfl, (Kept.refl _ _).drew⟩
set_option maxRecDepth 100000 in
theorem ssize_any (p rp rows cols : Nat) (lv : Value) (top : Int) (s : Sn) (w : World) (h : SnB w p s) (hg : GrB w s.g0 rp rows cols lv top) : Calls Tryz.prog 155 #[.pointer (some ⟨p, 0, none⟩)] w fun e w' => e = .returned (.tuple #[.int .i64 rows, .int .i64 cols]) /\ Kept (fun _ => False) w w' := by
 have HG := Lib.hid (sg_any p s w h)
 have HS := Lib.hid (fun (x : World) (k : Kept (fun _ => False) w x) => gSize_any s.g0 rp rows cols lv top x (k.blk hg id))
 clear h hg
 go_enter Tryz.func155, Tryz.ntmps155
 go_wp2_with fail
 refine HG.out.mono ?_
 rintro e w1 ⟨rfl, hk1⟩
 have H1 := Lib.hid hk1
 clear hk1
 go_wp2_with fail
 refine (HS.out _ H1.out).mono ?_
 rintro e w2 ⟨rfl, hk2⟩
 have H2 := Lib.hid (H1.out.then hk2)
 clear hk2
 go_wp2
 exact bodyPost_ret (v := .tuple #[.int .i64 rows, .int .i64 cols]) (by simp [results, Tryz.results155, go_sem]) rfl ⟨rfl, H2.out⟩
set_option maxRecDepth 100000 in
theorem sSize_any (p rp rows cols : Nat) (lv : Value) (top : Int) (s : Sn) (w : World) (h : SnB w p s) (hg : GrB w s.g0 rp rows cols lv top) : Calls Tryz.prog 146 #[.pointer (some ⟨p, 0, none⟩)] w fun e w' => e = .returned (.tuple #[.int .i64 rows, .int .i64 cols]) /\ Kept (fun _ => False) w w' := by
 have HG := Lib.hid (ssize_any p rp rows cols lv top s w h hg)
 clear h hg
 go_enter Tryz.func146, Tryz.ntmps146
 go_wp2_with fail
 refine HG.out.mono ?_
 rintro e w1 ⟨rfl, hk1⟩
 have H1 := Lib.hid hk1
 clear hk1
 go_wp2
 exact bodyPost_ret (v := .tuple #[.int .i64 rows, .int .i64 cols]) (by simp [results, Tryz.results146, go_sem]) rfl ⟨rfl, H1.out⟩
set_option maxRecDepth 100000 in
theorem stop_any (p rp rows cols : Nat) (lv : Value) (top : Int) (s : Sn) (w : World) (h : SnB w p s) (hg : GrB w s.g0 rp rows cols lv top) : Calls Tryz.prog 148 #[.pointer (some ⟨p, 0, none⟩)] w fun e w' => e = .returned (.int .i64 top) /\ Kept (fun _ => False) w w' := by
 have HG := Lib.hid (sg_any p s w h)
 have HS := Lib.hid (fun (x : World) (k : Kept (fun _ => False) w x) => gtop_any s.g0 rp rows cols lv top x (k.blk hg id))
 clear h hg
 go_enter Tryz.func148, Tryz.ntmps148
 go_wp2_with fail
 refine HG.out.mono ?_
 rintro e w1 ⟨rfl, hk1⟩
 have H1 := Lib.hid hk1
 clear hk1
 go_wp2_with fail
 refine (HS.out _ H1.out).mono ?_
 rintro e w2 ⟨rfl, rfl⟩
 go_wp2
 go_ret
 exact ⟨rfl, H1.out⟩
set_option maxRecDepth 100000 in
theorem salt_any (p : Nat) (s : Sn) (w : World) (h : SnB w p s) : Calls Tryz.prog 147 #[.pointer (some ⟨p, 0, none⟩)] w fun e w' => e = .returned (.bool false) /\ w = w' := by
 obtain ⟨-, -, x2, -⟩ := h.cells
 clear h
 go_enter Tryz.func147, Tryz.ntmps147
 go_wp2
 go_ret
 exact ⟨rfl, rfl⟩
theorem un3 : Tryz.prog.underlying 3 = some (.int .i64) := by kernel_rfl
theorem un174 : Tryz.prog.underlying 174 = some (.map 3 4) := by kernel_rfl
def ent (k : Int) (v : Bool) (n : Nat) : MapEntry := ⟨.int .i64 k, .bool v, n⟩
def MpB (w : World) (b : Nat) (es : List MapEntry) : Prop := w.heap[b]? = some (.map es.toArray es.length)
theorem Kept.setBlock' {w : World} (r : Nat) (o : Obj) : Kept (fun i => i = r) w { w with heap := w.heap.setIfInBounds r o } := by
 refine ⟨rfl, rfl, rfl, ?_, fun k hk hn => ?_⟩
 ·show w.heap.size <= (w.heap.setIfInBounds r o).size
  simp
 ·show (w.heap.setIfInBounds r o)[k]? = _
  rw [Array.getElem?_setIfInBounds_ne (fun e => hn e.symm)]
theorem mapIns (w w2 : World) (r : Nat) (k : Int) (v : Bool) (es : List MapEntry) (hb : MpB w r es) (hf : Instr.findNow (.int .i64) (.int .i64 k) es 0 = some none) (hw : ({ w with heap := w.heap.setIfInBounds r (.map (es ++ [ent k v es.length]).toArray (es.length + 1)) } : World) = w2) : (Instr.mapUpdate 174 (.map (some r)) (.int .i64 k) (.bool v)).run Tryz.prog w = .ok () w2 := by
 have hb' : w.heap[r]? = some (.map es.toArray es.length) := hb
 have hc : (Instr.checkKey false 10000 3 (.int .i64 k)).run Tryz.prog w = .ok () w := MapKept.run_checkKey (k := .int .i64 k) un3 (by simp [MapKept.IsKey]) false 9999
 have hf' : Instr.findNow (.int .i64) (.int .i64 k) es.toArray.toList 0 = some none := hf
 rw [<- hw]
 simp [Instr.mapUpdate, run_underlying un174, MapKept.run_getObj_map hb', hc, MapKept.run_findKey un3 hf', MapKept.run_setObj_map _ hb', Result.andThen, ent]
theorem mapLook (w : World) (r : Nat) (k : Int) (v : Bool) (es : List MapEntry) (i : Nat) (hb : MpB w r es) (hf : Instr.findNow (.int .i64) (.int .i64 k) es 0 = some (some (i, .bool v))) : (Instr.lookup 174 (.map (some r)) (.int .i64 k) false).run Tryz.prog w = .ok (.bool v) w := by
 have hb' : w.heap[r]? = some (.map es.toArray es.length) := hb
 have hc : ∀ c, (Instr.checkKey c 10000 3 (.int .i64 k)).run Tryz.prog w = .ok () w := fun c => MapKept.run_checkKey (k := .int .i64 k) un3 (by simp [MapKept.IsKey]) c 9999
 have h9 := MapKept.run_findKey (P := Tryz.prog) (w := w) un3 hf
 simp [Instr.lookup, run_underlying un174, MapKept.run_getObj_map hb', hc, h9, Result.andThen]
theorem zero4 (w : World) : (zeroValue 4).run Tryz.prog w = .ok (.bool false) w := by kernel_rfl
theorem mapNo (w : World) (r : Nat) (k : Int) (es : List MapEntry) (hb : MpB w r es) (hf : Instr.findNow (.int .i64) (.int .i64 k) es 0 = some none) : (Instr.lookup 174 (.map (some r)) (.int .i64 k) false).run Tryz.prog w = .ok (.bool false) w := by
 have hb' : w.heap[r]? = some (.map es.toArray es.length) := hb
 have hc : ∀ c, (Instr.checkKey c 10000 3 (.int .i64 k)).run Tryz.prog w = .ok () w := fun c => MapKept.run_checkKey (k := .int .i64 k) un3 (by simp [MapKept.IsKey]) c 9999
 have h9 := MapKept.run_findKey (P := Tryz.prog) (w := w) un3 hf
 simp [Instr.lookup, run_underlying un174, MapKept.run_getObj_map hb', hc, h9, Result.andThen, zero4]
theorem MpB.kept {w w' : World} {p : Nat} {es : List MapEntry} {S : Nat -> Prop} (h : MpB w p es) (hk : Kept S w w') (hp : ¬ S p) : MpB w' p es := hk.blk h hp
def prv0 : List MapEntry := [ent 7 true 0, ent 25 true 1]
end Go.Proofs.YtmplpcmcbliadaaGreatDoor
