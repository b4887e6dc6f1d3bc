/- The parser: what it holds, where it lies; who listens; The parser in plain Lean: what each byte does. No program in sight. -/
import Derived.Test.YtmplpcmcbliadaaGreatDoorBx0
import Derived.Lib.Hide
set_option linter.unusedVariables false
set_option linter.unusedSimpArgs false
namespace Go.Proofs.YtmplpcmcbliadaaGreatDoor
open Go.RowKit Pl
structure EvV where
 k : Int
 r : Int
 b : Int
 pv : Int
 s : ByteArray
 ap : Option Addr
 np : Nat
 cp : Nat
 ad : Option Addr
 nd : Nat
 cd : Nat
structure Ev where
 k : Int
 r : Int
 b : Int
 pv : Int
 s : ByteArray
 ps : List Int
 ds : List Int
def EvV.val (p : EvV) : Value := .agg #[.int .i64 p.k, .int .i32 p.r, .int .u8 p.b, .int .u8 p.pv, .string p.s, .slice p.ap p.np p.cp, .slice p.ad p.nd p.cd]
def EvAt (w : World) (M : Nat -> Prop) (v : EvV) (e : Ev) : Prop :=
 v.k = e.k /\ v.r = e.r /\ v.b = e.b /\ v.pv = e.pv /\ v.s = e.s /\ SlAt .i64 w v.ap v.np e.ps /\ SlAt .u8 w v.ad v.nd e.ds /\ (v.ap = none -> v.np = 0 /\ v.cp = 0) /\ (v.ad = none -> v.nd = 0 /\ v.cd = 0) /\
  (∀ b off, v.ap = some ⟨b, off, none⟩ -> ¬ M b /\ b < w.heap.size) /\ (∀ b off, v.ad = some ⟨b, off, none⟩ -> ¬ M b /\ b < w.heap.size)
structure Lis where
 p : Nat
 TI : (Nat -> Prop) -> World -> List Ev -> Prop
 A : List Ev -> Prop
 ax : ∀ {L M}, A (L ++ M) -> A L
 lt : ∀ {G w L}, TI G w L -> ∀ i, G i -> i < w.heap.size
 up : ∀ {G S w w' L}, TI G w L -> Kept S w w' -> (∀ i, G i -> ¬ S i) -> TI G w' L
 say : ∀ {G w L v e}, TI G w L -> EvAt w G v e -> A (L ++ [e]) -> Calls Tryz.prog 41 #[.pointer (some ⟨p, 0, none⟩), v.val] w fun r w' => (∃ x, r = .returned x) /\ ∃ G', TI G' w' (L ++ [e]) /\ (∀ i, G' i -> G i \/ w.heap.size <= i) /\ Kept G w w'
def AL (q : Lis) (L E : List Ev) : Prop := q.A (L ++ E)
theorem AL.left {q : Lis} {L A B : List Ev} (h : AL q L (A ++ B)) : AL q L A := q.ax (M := B) (by rw [List.append_assoc]; exact h)
theorem AL.right {q : Lis} {L A B : List Ev} (h : AL q L (A ++ B)) : AL q (L ++ A) B := by unfold AL at *; rw [List.append_assoc]; exact h
theorem AL.stop {q : Lis} {L E : List Ev} (h : AL q L E) : AL q L [] := by unfold AL; rw [List.append_nil]; exact q.ax h
theorem AL.one {q : Lis} {L : List Ev} {e : Ev} (h : AL q L [e]) : q.A (L ++ [e]) := h
structure PS where
 st : Int
 ends : Bool
 ch : St
 pv : Int
 it : List Int
 wr : Bool
 fi : Bool
 ps : List Int
 so : Bool
 la : Int
 ds : List Int
def sayV (q : Lis) : Value := .func (.func 41) #[.pointer (some ⟨q.p, 0, none⟩)] #[]
def PC (s : PS) (d : Nat) (vi vp vd f : Value) : Array Value := #[.int .i64 s.st, .bool s.ends, .pointer (some ⟨d, 0, none⟩), .int .u8 s.pv, vi, .bool s.wr, .bool s.fi, vp, .bool s.so, .int .i64 s.la, vd, f]
structure SOk (s : PS) : Prop where
 st : 0 <= s.st /\ s.st <= 7
 it : s.it.length <= 2
 ps : s.ps.length <= 16
 la : 0 <= s.la /\ s.la <= 65535
 ds : s.ds.length <= 1024
theorem EvAt.kept {w w' : World} {M M' S : Nat -> Prop} {v : EvV} {e : Ev} (h : EvAt w M v e) (hk : Kept S w w') (hS : ∀ i, i < w.heap.size -> S i -> M i) (hM : ∀ i, M' i -> M i \/ w.heap.size <= i) : EvAt w' M' v e := by
 obtain ⟨h1, h2, h3, h4, h5, h6, h7, h8, h9, ha, hb⟩ := h
 have hz := hk.size
 refine ⟨h1, h2, h3, h4, h5, h6.kept hk (fun b off _ h hs => (ha b off h).1 (hS b (ha b off h).2 hs)), h7.kept hk (fun b off _ h hs => (hb b off h).1 (hS b (hb b off h).2 hs)), h8, h9, fun b off h => ⟨fun h0 => ?_, by have := (ha b off h).2; omega⟩, fun b off h => ⟨fun h0 => ?_, by have := (hb b off h).2; omega⟩⟩
 ·rcases hM b h0 with h1 | h1
  ·exact (ha b off h).1 h1
  ·have := (ha b off h).2; omega
 ·rcases hM b h0 with h1 | h1
  ·exact (hb b off h).1 h1
  ·have := (hb b off h).2; omega
def Pset (p d : Nat) (vi vp vd : Value) (i : Nat) : Prop := i = p \/ i = d \/ vi.ownBlock = some i \/ vp.ownBlock = some i \/ vd.ownBlock = some i
def Mset (p : Nat) (q : Lis) (d : Nat) (vi vp vd : Value) (vo : Nat -> Prop) (i : Nat) : Prop := i = p \/ i = d \/ False \/ vi.ownBlock = some i \/ vp.ownBlock = some i \/ vd.ownBlock = some i \/ vo i
structure RC (w : World) (p : Nat) (q : Lis) (d : Nat) (vi vp vd : Value) (vo : Nat -> Prop) (s : PS) (L : List Ev) : Prop where
 pb : w.heap[p]? = some (.cells (PC s d vi vp vd (sayV q)) 139 (0, 0))
 dc : DecAt w d s.ch
 hi : Own .u8 5 w vi s.it
 hp : Own .i64 3 w vp s.ps
 hd : Own .u8 5 w vd s.ds
 ne : ∀ b, vi.ownBlock = some b -> vd.ownBlock ≠ some b
 ti : q.TI vo w L
 dj : ∀ i, vo i -> ¬ Pset p d vi vp vd i
 ok : SOk s
theorem blk_ne {w : World} {i j : Nat} {c c' : Array Value} {t t' : TypeId} (hi : w.heap[i]? = some (.cells c t (0, 0))) (hj : w.heap[j]? = some (.cells c' t' (0, 0))) (h : t ≠ t') : i ≠ j := by
 rintro rfl
 rw [hi] at hj
 cases hj
 exact h rfl
theorem own_blk {k : IntKind} {e : TypeId} {w : World} {v : Value} {xs : List Int} (h : Own k e w v xs) {b : Nat} (hb : v.ownBlock = some b) : ∃ c, w.heap[b]? = some (.cells c e (0, 0)) := by
 obtain ⟨-, h2⟩ := h
 rcases h2 with ⟨rfl, -⟩ | ⟨g, cap, cur, rfl, -, hg, -⟩
 ·cases hb
 ·cases hb; exact ⟨cur, hg⟩
theorem dec_blk {w : World} {d : Nat} {s : St} (h : DecAt w d s) : ∃ c, w.heap[d]? = some (.cells c 252 (0, 0)) := by
 obtain ⟨r, lo, hi, h1, -⟩ := h
 exact ⟨_, h1⟩
section
variable {w w' : World} {p : Nat} {q : Lis} {d : Nat} {vi vp vd : Value} {vo : Nat -> Prop} {s s' : PS} {L : List Ev}
theorem RC.lt (h : RC w p q d vi vp vd vo s L) : ∀ i, Mset p q d vi vp vd vo i -> i < w.heap.size := by
 intro i hi
 rcases hi with rfl | rfl | hi | hi | hi | hi | hi
 ·exact lt_of_blk h.pb
 ·exact h.dc.lt
 ·exact hi.elim
 ·exact h.hi.lt i hi
 ·exact h.hp.lt i hi
 ·exact h.hd.lt i hi
 ·exact q.lt h.ti i hi
theorem RC.up (h : RC w p q d vi vp vd vo s L) (hk : Kept (fun _ => False) w w') : RC w' p q d vi vp vd vo s L :=
 ⟨hk.blk h.pb id, h.dc.kept hk id, h.hi.kept hk (fun _ _ => id), h.hp.kept hk (fun _ _ => id), h.hd.kept hk (fun _ _ => id), h.ne, q.up h.ti hk (fun _ _ => id), h.dj, h.ok⟩
theorem RC.upd (h : RC w p q d vi vp vd vo s L) (hk : Kept (fun i => i = p) w w') (pb : w'.heap[p]? = some (.cells (PC s' d vi vp vd (sayV q)) 139 (0, 0))) (h1 : s'.ch = s.ch) (h2 : s'.it = s.it) (h3 : s'.ps = s.ps) (h4 : s'.ds = s.ds) (ok : SOk s') : RC w' p q d vi vp vd vo s' L := by
 obtain ⟨cd, hcd⟩ := dec_blk h.dc
 have hno : ∀ {i : Nat} {c : Array Value} {t : TypeId}, w.heap[i]? = some (.cells c t (0, 0)) -> t ≠ 139 -> ¬ (fun i => i = p) i := fun hi ht e => blk_ne hi h.pb ht e
 have n1 : ∀ b, vi.ownBlock = some b -> ¬ (fun i => i = p) b := fun b hb => by obtain ⟨c, hc⟩ := own_blk h.hi hb; exact hno hc (by decide)
 have n2 : ∀ b, vp.ownBlock = some b -> ¬ (fun i => i = p) b := fun b hb => by obtain ⟨c, hc⟩ := own_blk h.hp hb; exact hno hc (by decide)
 have n3 : ∀ b, vd.ownBlock = some b -> ¬ (fun i => i = p) b := fun b hb => by obtain ⟨c, hc⟩ := own_blk h.hd hb; exact hno hc (by decide)
 exact ⟨pb, by rw [h1]; exact h.dc.kept hk (hno hcd (by decide)), by rw [h2]; exact h.hi.kept hk n1, by rw [h3]; exact h.hp.kept hk n2, by rw [h4]; exact h.hd.kept hk n3, h.ne, q.up h.ti hk (fun i hi e => h.dj i hi (.inl e)), h.dj, ok⟩
theorem RC.updD (h : RC w p q d vi vp vd vo s L) (hk : Kept (fun i => i = d) w w') {c : St} (dc : DecAt w' d c) : RC w' p q d vi vp vd vo { s with ch := c } L := by
 obtain ⟨cd, hcd⟩ := dec_blk h.dc
 have hno : ∀ {i : Nat} {c : Array Value} {t : TypeId}, w.heap[i]? = some (.cells c t (0, 0)) -> t ≠ 252 -> ¬ (fun i => i = d) i := fun hi ht e => blk_ne hi hcd ht e
 have n1 : ∀ b, vi.ownBlock = some b -> ¬ (fun i => i = d) b := fun b hb => by obtain ⟨c, hc⟩ := own_blk h.hi hb; exact hno hc (by decide)
 have n2 : ∀ b, vp.ownBlock = some b -> ¬ (fun i => i = d) b := fun b hb => by obtain ⟨c, hc⟩ := own_blk h.hp hb; exact hno hc (by decide)
 have n3 : ∀ b, vd.ownBlock = some b -> ¬ (fun i => i = d) b := fun b hb => by obtain ⟨c, hc⟩ := own_blk h.hd hb; exact hno hc (by decide)
 exact ⟨hk.blk h.pb (hno h.pb (by decide)), dc, h.hi.kept hk n1, h.hp.kept hk n2, h.hd.kept hk n3, h.ne, q.up h.ti hk (fun i hi e => h.dj i hi (.inr (.inl e))), h.dj, ⟨h.ok.st, h.ok.it, h.ok.ps, h.ok.la, h.ok.ds⟩⟩
theorem RC.told (h : RC w p q d vi vp vd vo s L) {vo' : Nat -> Prop} {e : Ev} (hk : Kept vo w w') (ti : q.TI vo' w' (L ++ [e])) (hn : ∀ i, vo' i -> vo i \/ w.heap.size <= i) : RC w' p q d vi vp vd vo' s (L ++ [e]) := by
 have n0 : ∀ i, Pset p d vi vp vd i -> ¬ vo i := fun i hi hv => h.dj i hv hi
 have hl := fun i hi => h.lt i (show Mset p q d vi vp vd vo i from hi)
 refine ⟨hk.blk h.pb (n0 _ (.inl rfl)), h.dc.kept hk (n0 _ (.inr (.inl rfl))), h.hi.kept hk (fun b hb => n0 b (.inr (.inr (.inl hb)))), h.hp.kept hk (fun b hb => n0 b (.inr (.inr (.inr (.inl hb))))), h.hd.kept hk (fun b hb => n0 b (.inr (.inr (.inr (.inr hb))))), h.ne, ti, fun i hi hp => ?_, h.ok⟩
 rcases hn i hi with h1 | h1
 ·exact n0 i hp h1
 ·have h2 : i < w.heap.size := by
   rcases hp with h3 | h3 | h3 | h3 | h3
   ·exact hl i (.inl h3)
   ·exact hl i (.inr (.inl h3))
   ·exact hl i (.inr (.inr (.inr (.inl h3))))
   ·exact hl i (.inr (.inr (.inr (.inr (.inl h3)))))
   ·exact hl i (.inr (.inr (.inr (.inr (.inr (.inl h3))))))
  omega
theorem pcells {f : Value} (h : w.heap[p]? = some (.cells (PC s d vi vp vd f) 139 (0, 0))) :
  (w.cell? ⟨p, 0, none⟩ = some (.int .i64 s.st) /\ w.frozen? ⟨p, 0, none⟩ = false) /\ (w.cell? ⟨p, 1, none⟩ = some (.bool s.ends) /\ w.frozen? ⟨p, 1, none⟩ = false) /\ w.cell? ⟨p, 2, none⟩ = some (.pointer (some ⟨d, 0, none⟩)) /\
  (w.cell? ⟨p, 3, none⟩ = some (.int .u8 s.pv) /\ w.frozen? ⟨p, 3, none⟩ = false) /\ (w.cell? ⟨p, 4, none⟩ = some vi /\ w.frozen? ⟨p, 4, none⟩ = false) /\ (w.cell? ⟨p, 5, none⟩ = some (.bool s.wr) /\ w.frozen? ⟨p, 5, none⟩ = false) /\
  (w.cell? ⟨p, 6, none⟩ = some (.bool s.fi) /\ w.frozen? ⟨p, 6, none⟩ = false) /\ (w.cell? ⟨p, 7, none⟩ = some vp /\ w.frozen? ⟨p, 7, none⟩ = false) /\ (w.cell? ⟨p, 8, none⟩ = some (.bool s.so) /\ w.frozen? ⟨p, 8, none⟩ = false) /\
  (w.cell? ⟨p, 9, none⟩ = some (.int .i64 s.la) /\ w.frozen? ⟨p, 9, none⟩ = false) /\ (w.cell? ⟨p, 10, none⟩ = some vd /\ w.frozen? ⟨p, 10, none⟩ = false) /\ (w.cell? ⟨p, 11, none⟩ = some f /\ w.frozen? ⟨p, 11, none⟩ = false) :=
 ⟨⟨blk_cell h 0, blk_free h 0⟩, ⟨blk_cell h 1, blk_free h 1⟩, blk_cell h 2, ⟨blk_cell h 3, blk_free h 3⟩, ⟨blk_cell h 4, blk_free h 4⟩, ⟨blk_cell h 5, blk_free h 5⟩, ⟨blk_cell h 6, blk_free h 6⟩, ⟨blk_cell h 7, blk_free h 7⟩, ⟨blk_cell h 8, blk_free h 8⟩, ⟨blk_cell h 9, blk_free h 9⟩, ⟨blk_cell h 10, blk_free h 10⟩, ⟨blk_cell h 11, blk_free h 11⟩⟩
end
def RR (G : Nat -> Prop) (w : World) (p : Nat) (q : Lis) (s : PS) (L : List Ev) : Prop := ∃ d vi vp vd vo, RC w p q d vi vp vd vo s L /\ ∀ i, G i ↔ Mset p q d vi vp vd vo i
def TP (G : Nat -> Prop) (W : World) (p : Nat) (q : Lis) (s : PS) (L : List Ev) (w : World) : Prop := ∃ G', RR G' w p q s L /\ (∀ i, G' i -> G i \/ W.heap.size <= i) /\ Kept G W w
theorem RR.lt {G : Nat -> Prop} {w : World} {p : Nat} {q : Lis} {s : PS} {L : List Ev} (h : RR G w p q s L) : ∀ i, G i -> i < w.heap.size := by
 obtain ⟨d, vi, vp, vd, vo, hc, hg⟩ := h
 exact fun i hi => hc.lt i ((hg i).1 hi)
theorem RR.up {G : Nat -> Prop} {w w' : World} {p : Nat} {q : Lis} {s : PS} {L : List Ev} (h : RR G w p q s L) (hk : Kept (fun _ => False) w w') : RR G w' p q s L := by
 obtain ⟨d, vi, vp, vd, vo, hc, hg⟩ := h
 exact ⟨d, vi, vp, vd, vo, hc.up hk, hg⟩
theorem TP.refl {G : Nat -> Prop} {w : World} {p : Nat} {q : Lis} {s : PS} {L : List Ev} (h : RR G w p q s L) : TP G w p q s L w := ⟨G, h, fun _ h => .inl h, Kept.refl _ _⟩
theorem TP.then {G G1 : Nat -> Prop} {W w1 w2 : World} {p : Nat} {q : Lis} {s2 : PS} {L2 : List Ev} (hs : ∀ i, G1 i -> G i \/ W.heap.size <= i) (hk : Kept G W w1) (h2 : TP G1 w1 p q s2 L2 w2) : TP G W p q s2 L2 w2 := by
 obtain ⟨G2, hr, h3, h4⟩ := h2
 refine ⟨G2, hr, fun i hi => ?_, hk.trans (h4.mono fun i _ hi => hs i hi)⟩
 rcases h3 i hi with h | h
 ·exact hs i h
 ·exact .inr (Nat.le_trans hk.size h)
theorem TP.up {G : Nat -> Prop} {W w w' : World} {p : Nat} {q : Lis} {s : PS} {L : List Ev} (h : TP G W p q s L w) (hk : Kept (fun _ => False) w w') : TP G W p q s L w' := by
 obtain ⟨G', hr, h1, h2⟩ := h
 exact ⟨G', hr.up hk, h1, h2.then (hk.mono fun _ _ h => h.elim)⟩
section
variable {w w' : World} {p : Nat} {q : Lis} {d : Nat} {vi vp vd : Value} {vo : Nat -> Prop} {s s' : PS} {L : List Ev}
theorem RC.re (h : RC w p q d vi vp vd vo s L) {vi' vp' vd' : Value} (hk : Kept (fun i => i = p \/ vi.ownBlock = some i \/ vp.ownBlock = some i \/ vd.ownBlock = some i) w w') (pb : w'.heap[p]? = some (.cells (PC s' d vi' vp' vd' (sayV q)) 139 (0, 0)))
  (hi : Own .u8 5 w' vi' s'.it) (hp : Own .i64 3 w' vp' s'.ps) (hd : Own .u8 5 w' vd' s'.ds) (ne : ∀ b, vi'.ownBlock = some b -> vd'.ownBlock ≠ some b)
  (qi : vi'.ownBlock = vi.ownBlock \/ ∀ b, vi'.ownBlock = some b -> w.heap.size <= b) (qp : vp'.ownBlock = vp.ownBlock \/ ∀ b, vp'.ownBlock = some b -> w.heap.size <= b) (qd : vd'.ownBlock = vd.ownBlock \/ ∀ b, vd'.ownBlock = some b -> w.heap.size <= b)
  (h1 : s'.ch = s.ch) (ok : SOk s') : RC w' p q d vi' vp' vd' vo s' L := by
 obtain ⟨cd, hcd⟩ := dec_blk h.dc
 have hno : ∀ {i : Nat} {c : Array Value} {t : TypeId}, w.heap[i]? = some (.cells c t (0, 0)) -> t ≠ 139 -> t ≠ 5 -> t ≠ 3 -> ¬ (fun i => i = p \/ vi.ownBlock = some i \/ vp.ownBlock = some i \/ vd.ownBlock = some i) i := by
  intro i c t hi h4 h5 h3 hh
  rcases hh with hh | hh | hh | hh
  ·exact blk_ne hi h.pb h4 hh
  ·obtain ⟨c', hc⟩ := own_blk h.hi hh; exact blk_ne hi hc h5 rfl
  ·obtain ⟨c', hc⟩ := own_blk h.hp hh; exact blk_ne hi hc h3 rfl
  ·obtain ⟨c', hc⟩ := own_blk h.hd hh; exact blk_ne hi hc h5 rfl
 refine ⟨pb, by rw [h1]; exact h.dc.kept hk (hno hcd (by decide) (by decide) (by decide)), hi, hp, hd, ne, q.up h.ti hk (fun i hi hh => h.dj i hi ?_), fun i hi hh => ?_, ok⟩
 ·rcases hh with hh | hh | hh | hh
  ·exact .inl hh
  ·exact .inr (.inr (.inl hh))
  ·exact .inr (.inr (.inr (.inl hh)))
  ·exact .inr (.inr (.inr (.inr hh)))
 ·have hlt := q.lt h.ti i hi
  rcases hh with hh | hh | hh | hh | hh
  ·exact h.dj i hi (.inl hh)
  ·exact h.dj i hi (.inr (.inl hh))
  ·rcases qi with h2 | h2
   ·exact h.dj i hi (.inr (.inr (.inl (by rw [<- h2]; exact hh))))
   ·have := h2 i hh; omega
  ·rcases qp with h2 | h2
   ·exact h.dj i hi (.inr (.inr (.inr (.inl (by rw [<- h2]; exact hh)))))
   ·have := h2 i hh; omega
  ·rcases qd with h2 | h2
   ·exact h.dj i hi (.inr (.inr (.inr (.inr (by rw [<- h2]; exact hh)))))
   ·have := h2 i hh; omega
theorem RC.blocks (h : RC w p q d vi vp vd vo s L) : (∀ b, vi.ownBlock = some b -> b ≠ p /\ vp.ownBlock ≠ some b /\ vd.ownBlock ≠ some b) /\ (∀ b, vp.ownBlock = some b -> b ≠ p /\ vi.ownBlock ≠ some b /\ vd.ownBlock ≠ some b) /\ (∀ b, vd.ownBlock = some b -> b ≠ p /\ vp.ownBlock ≠ some b /\ vi.ownBlock ≠ some b) := by
 refine ⟨fun b hb => ?_, fun b hb => ?_, fun b hb => ?_⟩
 ·obtain ⟨c, hc⟩ := own_blk h.hi hb
  exact ⟨blk_ne hc h.pb (by decide), fun h2 => (by obtain ⟨c', hc'⟩ := own_blk h.hp h2; exact blk_ne hc hc' (by decide) rfl), h.ne b hb⟩
 ·obtain ⟨c, hc⟩ := own_blk h.hp hb
  exact ⟨blk_ne hc h.pb (by decide), fun h2 => (by obtain ⟨c', hc'⟩ := own_blk h.hi h2; exact blk_ne hc hc' (by decide) rfl), fun h2 => (by obtain ⟨c', hc'⟩ := own_blk h.hd h2; exact blk_ne hc hc' (by decide) rfl)⟩
 ·obtain ⟨c, hc⟩ := own_blk h.hd hb
  exact ⟨blk_ne hc h.pb (by decide), fun h2 => (by obtain ⟨c', hc'⟩ := own_blk h.hp h2; exact blk_ne hc hc' (by decide) rfl), fun h2 => h.ne b h2 hb⟩
theorem RC.updI (h : RC w p q d vi vp vd vo s L) {v' : Value} (hk : Kept (fun i => i = p \/ vi.ownBlock = some i) w w') (pb : w'.heap[p]? = some (.cells (PC s' d v' vp vd (sayV q)) 139 (0, 0)))
  (ho : Own .u8 5 w' v' s'.it) (hv : v'.ownBlock = vi.ownBlock \/ ∀ b, v'.ownBlock = some b -> w.heap.size <= b) (h1 : s'.ch = s.ch) (h2 : s'.ps = s.ps) (h3 : s'.ds = s.ds) (ok : SOk s') : RC w' p q d v' vp vd vo s' L := by
 obtain ⟨bi, bp, bd⟩ := h.blocks
 have kvp : Own .i64 3 w' vp s'.ps := by
  rw [h2]
  exact h.hp.kept hk (fun b hb hh => by rcases hh with hh | hh; exact (bp b hb).1 hh; exact (bp b hb).2.1 hh)
 have kvd : Own .u8 5 w' vd s'.ds := by
  rw [h3]
  exact h.hd.kept hk (fun b hb hh => by rcases hh with hh | hh; exact (bd b hb).1 hh; exact (bd b hb).2.2 hh)
 exact h.re (hk.mono fun i _ h => by rcases h with h | h; exact .inl h; exact .inr (.inl h)) pb ho kvp kvd (fun b hb h9 => by rcases hv with h2 | h2; exact h.ne b (by rw [<- h2]; exact hb) h9; have h3 := h2 b hb; have h4 := h.hd.lt b h9; omega) hv (.inl rfl) (.inl rfl) h1 ok
theorem RC.updP (h : RC w p q d vi vp vd vo s L) {v' : Value} (hk : Kept (fun i => i = p \/ vp.ownBlock = some i) w w') (pb : w'.heap[p]? = some (.cells (PC s' d vi v' vd (sayV q)) 139 (0, 0)))
  (ho : Own .i64 3 w' v' s'.ps) (hv : v'.ownBlock = vp.ownBlock \/ ∀ b, v'.ownBlock = some b -> w.heap.size <= b) (h1 : s'.ch = s.ch) (h2 : s'.it = s.it) (h3 : s'.ds = s.ds) (ok : SOk s') : RC w' p q d vi v' vd vo s' L := by
 obtain ⟨bi, bp, bd⟩ := h.blocks
 have kvi : Own .u8 5 w' vi s'.it := by
  rw [h2]
  exact h.hi.kept hk (fun b hb hh => by rcases hh with hh | hh; exact (bi b hb).1 hh; exact (bi b hb).2.1 hh)
 have kvd : Own .u8 5 w' vd s'.ds := by
  rw [h3]
  exact h.hd.kept hk (fun b hb hh => by rcases hh with hh | hh; exact (bd b hb).1 hh; exact (bd b hb).2.1 hh)
 exact h.re (hk.mono fun i _ h => by rcases h with h | h; exact .inl h; exact .inr (.inr (.inl h))) pb kvi ho kvd h.ne (.inl rfl) hv (.inl rfl) h1 ok
theorem RC.updS (h : RC w p q d vi vp vd vo s L) {v' : Value} (hk : Kept (fun i => i = p \/ vd.ownBlock = some i) w w') (pb : w'.heap[p]? = some (.cells (PC s' d vi vp v' (sayV q)) 139 (0, 0)))
  (ho : Own .u8 5 w' v' s'.ds) (hv : v'.ownBlock = vd.ownBlock \/ ∀ b, v'.ownBlock = some b -> w.heap.size <= b) (h1 : s'.ch = s.ch) (h2 : s'.it = s.it) (h3 : s'.ps = s.ps) (ok : SOk s') : RC w' p q d vi vp v' vo s' L := by
 obtain ⟨bi, bp, bd⟩ := h.blocks
 have kvi : Own .u8 5 w' vi s'.it := by
  rw [h2]
  exact h.hi.kept hk (fun b hb hh => by rcases hh with hh | hh; exact (bi b hb).1 hh; exact (bi b hb).2.2 hh)
 have kvp : Own .i64 3 w' vp s'.ps := by
  rw [h3]
  exact h.hp.kept hk (fun b hb hh => by rcases hh with hh | hh; exact (bp b hb).1 hh; exact (bp b hb).2.2 hh)
 exact h.re (hk.mono fun i _ h => by rcases h with h | h; exact .inl h; exact .inr (.inr (.inr h))) pb kvi kvp ho (fun b hb h9 => by rcases hv with h2 | h2; exact h.ne b hb (by rw [<- h2]; exact h9); have h3 := h2 b h9; have h4 := h.hi.lt b hb; omega) (.inl rfl) (.inl rfl) hv h1 ok
end
end Go.Proofs.YtmplpcmcbliadaaGreatDoor
namespace Go.Proofs.YtmplpcmcbliadaaGreatDoor
open Pl
def ctlB (c : Int) : Bool := decide (c < 32) && (c != 24 && (c != 26 && c != 27))
def evX (k r b : Int) : Ev := ⟨k, r, b, 0, ByteArray.empty, [], []⟩
def printE (l : List Int) : List Ev := l.map fun r => evX 1 r 0
def PS.beg (s : PS) (st : Int) : PS := { s with st := st, pv := 0, wr := false, fi := true, so := false, la := 0, it := [], ps := [] }
def closeE (st b : Int) : List Ev := if st = 5 then [evX 8 0 b] else if st = 6 then [evX 11 0 b] else []
def groundS (s : PS) (c : Int) : PS × List Ev :=
 if ctlB c = true then ({ s with ch := s0 }, printE (fin s.ch) ++ [evX 2 0 c])
 else if c = 127 then ({ s with ch := s0 }, printE (fin s.ch))
 else ({ s with ch := (put s.ch c.toNat).1 }, printE (put s.ch c.toNat).2)
def backS (s : PS) (c : Int) : PS × List Ev := groundS { s with st := 0 } c
def keepS (s : PS) (c : Int) : PS := if s.it.length = 2 then { s with wr := true } else { s with it := s.it ++ [c] }
def openS (s : PS) (c : Int) : Option (PS × List Ev) :=
 if c = 91 then some (s.beg 2, []) else if c = 80 then some (s.beg 3, []) else if c = 93 then some ({ s with st := 4, ds := [] }, [])
 else if c = 95 then some ({ s with st := 6 }, [evX 9 0 0]) else if c = 88 \/ c = 94 then some ({ s with st := 7 }, []) else none
def doneS (s : PS) (c : Int) : PS × List Ev := ({ s with st := 0 }, if s.wr = true then [] else [⟨3, 0, c, 0, strOfNums s.it, [], []⟩])
def escS (s : PS) (c : Int) : PS × List Ev :=
 if ctlB c = true then (s, [evX 2 0 c]) else if 128 <= c then backS s c else if c <= 47 then (keepS s c, []) else if c = 127 then (s, [])
 else if 0 < s.it.length then doneS s c else match openS s c with
  | some r => r
  | none => doneS s c
def nextS (s : PS) : PS := { s with ps := if s.ps.length < 16 then s.ps ++ [s.la] else s.ps, la := 0 }
def finalS (s : PS) (c : Int) : PS × List Ev :=
 let k : Int := if s.st = 3 then 6 else 4
 let s1 : PS := { s with st := if s.st = 3 then (if s.wr = true then 7 else 5) else 0 }
 if s.wr = true then (s1, []) else
  let s2 : PS := if s.so = true then nextS s1 else s1
  (s2, [⟨k, 0, c, s.pv, strOfNums s.it, s2.ps, []⟩])
def headS (s : PS) (c : Int) : PS × List Ev :=
 let s1 : PS := { s with fi := s.fi && (ctlB c || c == 127) }
 if ctlB c = true then (s1, if s.st = 2 then [evX 2 0 c] else [])
 else if 128 <= c then backS s1 c else if c <= 47 then (keepS s1 c, []) else if c = 127 then (s1, [])
 else if c <= 57 then ({ s1 with wr := s.wr || decide (0 < s.it.length), so := true, la := min (10 * s.la + (c - 48)) 65535 }, [])
 else if c = 59 then (nextS { s1 with wr := s.wr || decide (0 < s.it.length), so := true }, [])
 else if 60 <= c /\ c <= 63 /\ s.fi = true then ({ s1 with pv := c }, [])
 else if c <= 63 then ({ s1 with wr := true }, [])
 else finalS s1 c
def toldE (s : PS) : Ev := ⟨5, 0, 0, 0, ByteArray.empty, [], s.ds⟩
def dataE (s : PS) (l : List Int) : Ev := ⟨if s.st = 6 then 10 else 7, 0, 0, 0, ByteArray.empty, [], l⟩
def textS (s : PS) (c : Int) : PS × List Ev :=
 if c = 7 then ({ s with st := 0 }, [toldE s]) else if 32 <= c /\ c ≠ 127 /\ s.ds.length < 1024 then ({ s with ds := s.ds ++ [c] }, []) else (s, [])
def endedS (s : PS) (c : Int) : PS × List Ev :=
 if c = 92 then ({ s with ends := false, st := 0 }, (if s.st = 4 then [toldE s] else []) ++ closeE s.st 1)
 else if c = 27 then (({ s with ends := false } : PS).beg 1, closeE s.st 0)
 else if c = 24 \/ c = 26 then ({ ({ s with ends := false } : PS).beg 1 with st := 0 }, closeE s.st 0 ++ [evX 2 0 c])
 else ((escS (({ s with ends := false } : PS).beg 1) c).1, closeE s.st 0 ++ (escS (({ s with ends := false } : PS).beg 1) c).2)
def plainS (s : PS) (c : Int) : PS × List Ev :=
 if s.st = 0 then groundS s c else if s.st = 1 then escS s c else if s.st = 2 \/ s.st = 3 then headS s c else if s.st = 4 then textS s c else (s, [])
def stepS (s : PS) (c : Int) : PS × List Ev :=
 if s.ends = true then endedS s c
 else if c ≠ 24 /\ c ≠ 26 /\ c ≠ 27 then plainS s c
 else
  let s1 : PS := if s.st = 0 then { s with ch := s0 } else s
  let e1 : List Ev := if s.st = 0 then printE (fin s.ch) else []
  if c ≠ 27 then ({ s1 with st := 0 }, e1 ++ (closeE s.st 0 ++ [evX 2 0 c]))
  else if 4 <= s.st then ({ s1 with ends := true }, e1) else (s1.beg 1, e1)
end Go.Proofs.YtmplpcmcbliadaaGreatDoor
