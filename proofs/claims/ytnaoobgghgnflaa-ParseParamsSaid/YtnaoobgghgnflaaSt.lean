/- The parser: what it holds, where it lies; the events told so far. -/
import Derived.Test.YtnaoobgghgnflaaEv
import Derived.Test.YtnaoobgghgnflaaCloneI
import Derived.Test.YtnaoobgghgnflaaStr
namespace Go.Proofs.Ytnaoobgghgnflaa
open Go.RowKit Pl
set_option linter.unusedVariables false
set_option linter.unusedSimpArgs false
/-- What a parser holds. -/
structure PS where
  st : Int
  ends : Bool
  ch : St
  pv : Int
  it : List Int
  wr : Bool
  fi : Bool
  ps : List Int
  so : Bool
  la : Int
  ds : List Int
def sayV (q : Nat) : Value := .func (.func 18) #[] #[.pointer (some ⟨q, 0, none⟩)]
/-- The cells of its block. -/
def PC (s : PS) (d : Nat) (vi vp vd f : Value) : Array Value := #[.int .i64 s.st, .bool s.ends, .pointer (some ⟨d, 0, none⟩), .int .u8 s.pv, vi, .bool s.wr, .bool s.fi, vp, .bool s.so, .int .i64 s.la, vd, f]
structure SOk (s : PS) : Prop where
  st : 0 ≤ s.st ∧ s.st ≤ 7
  it : s.it.length ≤ 2
  ps : s.ps.length ≤ 16
  la : 0 ≤ s.la ∧ s.la ≤ 65535
  ds : s.ds.length ≤ 1024
/-- An event in memory that reads as e, its rows none of M. -/
def EvAt (w : World) (M : Nat → Prop) (v : EvV) (e : Ev) : Prop :=
  v.k = e.k ∧ v.r = e.r ∧ v.b = e.b ∧ v.pv = e.pv ∧ v.s = e.s ∧ SlAt .i64 w v.ap v.np e.ps ∧ SlAt .u8 w v.ad v.nd e.ds ∧ (v.ap = none → v.np = 0 ∧ v.cp = 0) ∧ (v.ad = none → v.nd = 0 ∧ v.cd = 0) ∧
    (∀ b off, v.ap = some ⟨b, off, none⟩ → ¬ M b ∧ b < w.heap.size) ∧ (∀ b off, v.ad = some ⟨b, off, none⟩ → ¬ M b ∧ b < w.heap.size)
def EvL (w : World) (M : Nat → Prop) : List EvV → List Ev → Prop
  | [], [] => True
  | v :: vs, e :: es => EvAt w M v e ∧ EvL w M vs es
  | _, _ => False
theorem EvAt.kept {w w' : World} {M M' S : Nat → Prop} {v : EvV} {e : Ev} (h : EvAt w M v e) (hk : Kept S w w') (hS : ∀ i, i < w.heap.size → S i → M i) (hM : ∀ i, M' i → M i ∨ w.heap.size ≤ i) : EvAt w' M' v e := by
  obtain ⟨h1, h2, h3, h4, h5, h6, h7, h8, h9, ha, hb⟩ := h
  have hz := hk.size
  refine ⟨h1, h2, h3, h4, h5, h6.kept hk (fun b off _ h hs => (ha b off h).1 (hS b (ha b off h).2 hs)), h7.kept hk (fun b off _ h hs => (hb b off h).1 (hS b (hb b off h).2 hs)), h8, h9, fun b off h => ⟨fun h0 => ?_, by have := (ha b off h).2; omega⟩, fun b off h => ⟨fun h0 => ?_, by have := (hb b off h).2; omega⟩⟩
  · rcases hM b h0 with h1 | h1
    · exact (ha b off h).1 h1
    · have := (ha b off h).2; omega
  · rcases hM b h0 with h1 | h1
    · exact (hb b off h).1 h1
    · have := (hb b off h).2; omega
theorem EvL.kept {w w' : World} {M M' S : Nat → Prop} (hk : Kept S w w') (hS : ∀ i, i < w.heap.size → S i → M i) (hM : ∀ i, M' i → M i ∨ w.heap.size ≤ i) : ∀ {Vs : List EvV} {L : List Ev}, EvL w M Vs L → EvL w' M' Vs L
  | [], [], _ => trivial
  | v :: vs, e :: es, h => ⟨h.1.kept hk hS hM, EvL.kept hk hS hM h.2⟩
  | [], _ :: _, h => h.elim
  | _ :: _, [], h => h.elim
theorem EvL.append {w : World} {M : Nat → Prop} : ∀ {Vs Ws : List EvV} {L K : List Ev}, EvL w M Vs L → EvL w M Ws K → EvL w M (Vs ++ Ws) (L ++ K)
  | [], Ws, [], K, _, h => h
  | v :: vs, Ws, e :: es, K, h, h2 => ⟨h.1, EvL.append h.2 h2⟩
  | [], _, _ :: _, _, h, _ => h.elim
  | _ :: _, _, [], _, h, _ => h.elim
theorem EvL.length {w : World} {M : Nat → Prop} : ∀ {Vs : List EvV} {L : List Ev}, EvL w M Vs L → Vs.length = L.length
  | [], [], _ => rfl
  | v :: vs, e :: es, h => by rw [List.length_cons, List.length_cons, EvL.length h.2]
  | [], _ :: _, h => h.elim
  | _ :: _, [], h => h.elim
theorem EvL.get {w : World} {M : Nat → Prop} : ∀ {Vs : List EvV} {L : List Ev} (_ : EvL w M Vs L) {j : Nat} {v : EvV} (_ : Vs[j]? = some v), ∃ e, L[j]? = some e ∧ EvAt w M v e
  | [], [], _, j, v, h => by simp at h
  | v :: vs, e :: es, hh, 0, u, h => by simp at h; subst h; exact ⟨e, rfl, hh.1⟩
  | v :: vs, e :: es, hh, j + 1, u, h => by
    obtain ⟨e', h1, h2⟩ := EvL.get hh.2 (j := j) (v := u) (by simpa using h)
    exact ⟨e', by simpa using h1, h2⟩
  | [], _ :: _, hh, _, _, _ => hh.elim
  | _ :: _, [], hh, _, _, _ => hh.elim
/-- The blocks that the parser and its events' row may change. -/
def Mset (p q d : Nat) (vi vp vd vo : Value) (i : Nat) : Prop := i = p ∨ i = d ∨ i = q ∨ vi.ownBlock = some i ∨ vp.ownBlock = some i ∨ vd.ownBlock = some i ∨ vo.ownBlock = some i
structure RC (w : World) (p q d : Nat) (vi vp vd vo : Value) (Vs : List EvV) (s : PS) (L : List Ev) : Prop where
  pb : w.heap[p]? = some (.cells (PC s d vi vp vd (sayV q)) 43 (0, 0))
  dc : DecAt w d s.ch
  hi : Own .u8 5 w vi s.it
  hp : Own .i64 3 w vp s.ps
  hd : Own .u8 5 w vd s.ds
  ne : ∀ b, vi.ownBlock = some b → vd.ownBlock ≠ some b
  qb : w.heap[q]? = some (.cells #[vo] 26 (0, 0))
  ho : OwnE w vo Vs
  ev : EvL w (Mset p q d vi vp vd vo) Vs L
  ok : SOk s
theorem blk_ne {w : World} {i j : Nat} {c c' : Array Value} {t t' : TypeId} (hi : w.heap[i]? = some (.cells c t (0, 0))) (hj : w.heap[j]? = some (.cells c' t' (0, 0))) (h : t ≠ t') : i ≠ j := by
  rintro rfl
  rw [hi] at hj
  cases hj
  exact h rfl
theorem own_blk {k : IntKind} {e : TypeId} {w : World} {v : Value} {xs : List Int} (h : Own k e w v xs) {b : Nat} (hb : v.ownBlock = some b) : ∃ c, w.heap[b]? = some (.cells c e (0, 0)) := by
  obtain ⟨-, h2⟩ := h
  rcases h2 with ⟨rfl, -⟩ | ⟨g, cap, cur, rfl, -, hg, -⟩
  · cases hb
  · cases hb; exact ⟨cur, hg⟩
theorem ownE_blk {w : World} {v : Value} {L : List EvV} (h : OwnE w v L) {b : Nat} (hb : v.ownBlock = some b) : ∃ c, w.heap[b]? = some (.cells c 30 (0, 0)) := by
  obtain ⟨-, h2⟩ := h
  rcases h2 with ⟨rfl, -⟩ | ⟨g, cap, cur, rfl, -, hg, -⟩
  · cases hb
  · cases hb; exact ⟨cur, hg⟩
theorem dec_blk {w : World} {d : Nat} {s : St} (h : DecAt w d s) : ∃ c, w.heap[d]? = some (.cells c 49 (0, 0)) := by
  obtain ⟨r, lo, hi, h1, -⟩ := h
  exact ⟨_, h1⟩
section
variable {w w' : World} {p q d : Nat} {vi vp vd vo : Value} {Vs : List EvV} {s s' : PS} {L : List Ev}
theorem RC.lt (h : RC w p q d vi vp vd vo Vs s L) : ∀ i, Mset p q d vi vp vd vo i → i < w.heap.size := by
  intro i hi
  rcases hi with rfl | rfl | rfl | hi | hi | hi | hi
  · exact lt_of_blk h.pb
  · exact h.dc.lt
  · exact lt_of_blk h.qb
  · exact h.hi.lt i hi
  · exact h.hp.lt i hi
  · exact h.hd.lt i hi
  · exact h.ho.lt i hi
/-- Nothing of it has changed. -/
theorem RC.up (h : RC w p q d vi vp vd vo Vs s L) (hk : Kept (fun _ => False) w w') : RC w' p q d vi vp vd vo Vs s L :=
  ⟨hk.blk h.pb id, h.dc.kept hk id, h.hi.kept hk (fun _ _ => id), h.hp.kept hk (fun _ _ => id), h.hd.kept hk (fun _ _ => id), h.ne, hk.blk h.qb id, h.ho.kept hk (fun _ _ => id), h.ev.kept hk (fun _ _ h => h.elim) (fun _ h => .inl h), h.ok⟩
/-- Its own block has changed, in what is no list. -/
theorem RC.upd (h : RC w p q d vi vp vd vo Vs s L) (hk : Kept (fun i => i = p) w w') (pb : w'.heap[p]? = some (.cells (PC s' d vi vp vd (sayV q)) 43 (0, 0))) (h1 : s'.ch = s.ch) (h2 : s'.it = s.it) (h3 : s'.ps = s.ps) (h4 : s'.ds = s.ds) (ok : SOk s') : RC w' p q d vi vp vd vo Vs s' L := by
  obtain ⟨cd, hcd⟩ := dec_blk h.dc
  have hno : ∀ {i : Nat} {c : Array Value} {t : TypeId}, w.heap[i]? = some (.cells c t (0, 0)) → t ≠ 43 → ¬ (fun i => i = p) i := fun hi ht e => blk_ne hi h.pb ht e
  have n1 : ∀ b, vi.ownBlock = some b → ¬ (fun i => i = p) b := fun b hb => by obtain ⟨c, hc⟩ := own_blk h.hi hb; exact hno hc (by decide)
  have n2 : ∀ b, vp.ownBlock = some b → ¬ (fun i => i = p) b := fun b hb => by obtain ⟨c, hc⟩ := own_blk h.hp hb; exact hno hc (by decide)
  have n3 : ∀ b, vd.ownBlock = some b → ¬ (fun i => i = p) b := fun b hb => by obtain ⟨c, hc⟩ := own_blk h.hd hb; exact hno hc (by decide)
  have n4 : ∀ b, vo.ownBlock = some b → ¬ (fun i => i = p) b := fun b hb => by obtain ⟨c, hc⟩ := ownE_blk h.ho hb; exact hno hc (by decide)
  exact ⟨pb, by rw [h1]; exact h.dc.kept hk (hno hcd (by decide)), by rw [h2]; exact h.hi.kept hk n1, by rw [h3]; exact h.hp.kept hk n2, by rw [h4]; exact h.hd.kept hk n3, h.ne, hk.blk h.qb (hno h.qb (by decide)), h.ho.kept hk n4, h.ev.kept hk (fun i _ e => .inl e) (fun _ h => .inl h), ok⟩
/-- The decoder has changed. -/
theorem RC.updD (h : RC w p q d vi vp vd vo Vs s L) (hk : Kept (fun i => i = d) w w') {c : St} (dc : DecAt w' d c) : RC w' p q d vi vp vd vo Vs { s with ch := c } L := by
  obtain ⟨cd, hcd⟩ := dec_blk h.dc
  have hno : ∀ {i : Nat} {c : Array Value} {t : TypeId}, w.heap[i]? = some (.cells c t (0, 0)) → t ≠ 49 → ¬ (fun i => i = d) i := fun hi ht e => blk_ne hi hcd ht e
  have n1 : ∀ b, vi.ownBlock = some b → ¬ (fun i => i = d) b := fun b hb => by obtain ⟨c, hc⟩ := own_blk h.hi hb; exact hno hc (by decide)
  have n2 : ∀ b, vp.ownBlock = some b → ¬ (fun i => i = d) b := fun b hb => by obtain ⟨c, hc⟩ := own_blk h.hp hb; exact hno hc (by decide)
  have n3 : ∀ b, vd.ownBlock = some b → ¬ (fun i => i = d) b := fun b hb => by obtain ⟨c, hc⟩ := own_blk h.hd hb; exact hno hc (by decide)
  have n4 : ∀ b, vo.ownBlock = some b → ¬ (fun i => i = d) b := fun b hb => by obtain ⟨c, hc⟩ := ownE_blk h.ho hb; exact hno hc (by decide)
  exact ⟨hk.blk h.pb (hno h.pb (by decide)), dc, h.hi.kept hk n1, h.hp.kept hk n2, h.hd.kept hk n3, h.ne, hk.blk h.qb (hno h.qb (by decide)), h.ho.kept hk n4, h.ev.kept hk (fun i _ e => .inr (.inl e)) (fun _ h => .inl h), ⟨h.ok.st, h.ok.it, h.ok.ps, h.ok.la, h.ok.ds⟩⟩
/-- One event more. -/
theorem RC.told (h : RC w p q d vi vp vd vo Vs s L) {vo' : Value} {v : EvV} {e : Ev} (hk : Kept (fun i => i = q ∨ vo.ownBlock = some i) w w') (qb : w'.heap[q]? = some (.cells #[vo'] 26 (0, 0))) (ho : OwnE w' vo' (Vs ++ [v])) (hp' : vo'.ownBlock = vo.ownBlock ∨ ∀ b, vo'.ownBlock = some b → w.heap.size ≤ b)
    (hv : EvAt w (Mset p q d vi vp vd vo) v e) : RC w' p q d vi vp vd vo' (Vs ++ [v]) s (L ++ [e]) := by
  obtain ⟨cd, hcd⟩ := dec_blk h.dc
  have hM : ∀ i, Mset p q d vi vp vd vo' i → Mset p q d vi vp vd vo i ∨ w.heap.size ≤ i := by
    intro i hi
    rcases hi with hi | hi | hi | hi | hi | hi | hi
    · exact .inl (.inl hi)
    · exact .inl (.inr (.inl hi))
    · exact .inl (.inr (.inr (.inl hi)))
    · exact .inl (.inr (.inr (.inr (.inl hi))))
    · exact .inl (.inr (.inr (.inr (.inr (.inl hi)))))
    · exact .inl (.inr (.inr (.inr (.inr (.inr (.inl hi))))))
    · rcases hp' with h1 | h1
      · exact .inl (.inr (.inr (.inr (.inr (.inr (.inr (by rw [← h1]; exact hi)))))))
      · exact .inr (h1 i hi)
  have hS : ∀ i, i < w.heap.size → (i = q ∨ vo.ownBlock = some i) → Mset p q d vi vp vd vo i := by
    intro i _ hi
    rcases hi with hi | hi
    · exact .inr (.inr (.inl hi))
    · exact .inr (.inr (.inr (.inr (.inr (.inr hi)))))
  have hno : ∀ {i : Nat} {c : Array Value} {t : TypeId}, w.heap[i]? = some (.cells c t (0, 0)) → t ≠ 26 → t ≠ 30 → ¬ (i = q ∨ vo.ownBlock = some i) := by
    intro i c t hi h1 h2 h3
    rcases h3 with h3 | h3
    · exact blk_ne hi h.qb h1 h3
    · obtain ⟨c', hc'⟩ := ownE_blk h.ho h3; exact blk_ne hi hc' h2 rfl
  refine ⟨hk.blk h.pb (hno h.pb (by decide) (by decide)), h.dc.kept hk (hno hcd (by decide) (by decide)), h.hi.kept hk (fun b hb => ?_), h.hp.kept hk (fun b hb => ?_), h.hd.kept hk (fun b hb => ?_), h.ne, qb, ho, (h.ev.kept hk hS hM).append ⟨hv.kept hk hS hM, trivial⟩, h.ok⟩
  · obtain ⟨c, hc⟩ := own_blk h.hi hb; exact hno hc (by decide) (by decide)
  · obtain ⟨c, hc⟩ := own_blk h.hp hb; exact hno hc (by decide) (by decide)
  · obtain ⟨c, hc⟩ := own_blk h.hd hb; exact hno hc (by decide) (by decide)
/-- The cells of the parser's block. -/
theorem pcells {f : Value} (h : w.heap[p]? = some (.cells (PC s d vi vp vd f) 43 (0, 0))) :
    (w.cell? ⟨p, 0, none⟩ = some (.int .i64 s.st) ∧ w.frozen? ⟨p, 0, none⟩ = false) ∧ (w.cell? ⟨p, 1, none⟩ = some (.bool s.ends) ∧ w.frozen? ⟨p, 1, none⟩ = false) ∧ w.cell? ⟨p, 2, none⟩ = some (.pointer (some ⟨d, 0, none⟩)) ∧
    (w.cell? ⟨p, 3, none⟩ = some (.int .u8 s.pv) ∧ w.frozen? ⟨p, 3, none⟩ = false) ∧ (w.cell? ⟨p, 4, none⟩ = some vi ∧ w.frozen? ⟨p, 4, none⟩ = false) ∧ (w.cell? ⟨p, 5, none⟩ = some (.bool s.wr) ∧ w.frozen? ⟨p, 5, none⟩ = false) ∧
    (w.cell? ⟨p, 6, none⟩ = some (.bool s.fi) ∧ w.frozen? ⟨p, 6, none⟩ = false) ∧ (w.cell? ⟨p, 7, none⟩ = some vp ∧ w.frozen? ⟨p, 7, none⟩ = false) ∧ (w.cell? ⟨p, 8, none⟩ = some (.bool s.so) ∧ w.frozen? ⟨p, 8, none⟩ = false) ∧
    (w.cell? ⟨p, 9, none⟩ = some (.int .i64 s.la) ∧ w.frozen? ⟨p, 9, none⟩ = false) ∧ (w.cell? ⟨p, 10, none⟩ = some vd ∧ w.frozen? ⟨p, 10, none⟩ = false) ∧ (w.cell? ⟨p, 11, none⟩ = some f ∧ w.frozen? ⟨p, 11, none⟩ = false) :=
  ⟨⟨blk_cell h 0, blk_free h 0⟩, ⟨blk_cell h 1, blk_free h 1⟩, blk_cell h 2, ⟨blk_cell h 3, blk_free h 3⟩, ⟨blk_cell h 4, blk_free h 4⟩, ⟨blk_cell h 5, blk_free h 5⟩, ⟨blk_cell h 6, blk_free h 6⟩, ⟨blk_cell h 7, blk_free h 7⟩, ⟨blk_cell h 8, blk_free h 8⟩, ⟨blk_cell h 9, blk_free h 9⟩, ⟨blk_cell h 10, blk_free h 10⟩, ⟨blk_cell h 11, blk_free h 11⟩⟩
end
/-- The parser at p, its events at q; G: the blocks that may be changed. -/
def RR (G : Nat → Prop) (w : World) (p q : Nat) (s : PS) (L : List Ev) : Prop := ∃ d vi vp vd vo Vs, RC w p q d vi vp vd vo Vs s L ∧ ∀ i, G i ↔ Mset p q d vi vp vd vo i
/-- What a step leaves. -/
def TP (G : Nat → Prop) (W : World) (p q : Nat) (s : PS) (L : List Ev) (w : World) : Prop := ∃ G', RR G' w p q s L ∧ (∀ i, G' i → G i ∨ W.heap.size ≤ i) ∧ Kept G W w
theorem RR.lt {G : Nat → Prop} {w : World} {p q : Nat} {s : PS} {L : List Ev} (h : RR G w p q s L) : ∀ i, G i → i < w.heap.size := by
  obtain ⟨d, vi, vp, vd, vo, Vs, hc, hg⟩ := h
  exact fun i hi => hc.lt i ((hg i).1 hi)
theorem RR.up {G : Nat → Prop} {w w' : World} {p q : Nat} {s : PS} {L : List Ev} (h : RR G w p q s L) (hk : Kept (fun _ => False) w w') : RR G w' p q s L := by
  obtain ⟨d, vi, vp, vd, vo, Vs, hc, hg⟩ := h
  exact ⟨d, vi, vp, vd, vo, Vs, hc.up hk, hg⟩
theorem TP.refl {G : Nat → Prop} {w : World} {p q : Nat} {s : PS} {L : List Ev} (h : RR G w p q s L) : TP G w p q s L w := ⟨G, h, fun _ h => .inl h, Kept.refl _ _⟩
theorem TP.then {G G1 : Nat → Prop} {W w1 w2 : World} {p q : Nat} {s2 : PS} {L2 : List Ev} (hs : ∀ i, G1 i → G i ∨ W.heap.size ≤ i) (hk : Kept G W w1) (h2 : TP G1 w1 p q s2 L2 w2) : TP G W p q s2 L2 w2 := by
  obtain ⟨G2, hr, h3, h4⟩ := h2
  refine ⟨G2, hr, fun i hi => ?_, hk.trans (h4.mono fun i _ hi => hs i hi)⟩
  rcases h3 i hi with h | h
  · exact hs i h
  · exact .inr (Nat.le_trans hk.size h)
theorem TP.up {G : Nat → Prop} {W w w' : World} {p q : Nat} {s : PS} {L : List Ev} (h : TP G W p q s L w) (hk : Kept (fun _ => False) w w') : TP G W p q s L w' := by
  obtain ⟨G', hr, h1, h2⟩ := h
  exact ⟨G', hr.up hk, h1, h2.then (hk.mono fun _ _ h => h.elim)⟩
end Go.Proofs.Ytnaoobgghgnflaa
