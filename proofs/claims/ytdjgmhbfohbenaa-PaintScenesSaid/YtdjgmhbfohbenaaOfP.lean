/- The document's scene, as it is made: rows that the call owns, given by all their cells; what stands of them. -/
import Derived.Test.YtdjgmhbfohbenaaLCuA
import Derived.Test.YtdjgmhbfohbenaaRDrw
import Derived.Test.YtdjgmhbfohbenaaGrow
namespace Go.Proofs.Ytdjgmhbfohbenaa
open Go.RowKit Go.Sort Pl
set_option linter.unusedVariables false
set_option linter.unusedSimpArgs false
/-- A row that the call owns, of n elements of k cells each, given by all its cells. -/
def OwnF (e : TypeId) (k : Nat) (w : World) (v : Value) (n : Nat) (xs : List Value) : Prop := w.ownsRow 0 e k v n xs
theorem OwnF.nil (e : TypeId) (k : Nat) (w : World) : OwnF e k w (.slice none 0 0) 0 [] := World.ownsRow_nil w 0 e k
theorem OwnF.kept {e : TypeId} {k : Nat} {S : Nat → Prop} {w w' : World} {v : Value} {n : Nat} {xs : List Value} (h : OwnF e k w v n xs) (hk : Kept S w w') (hn : ∀ b, v.ownBlock = some b → ¬ S b) : OwnF e k w' v n xs := by
  obtain ⟨h1, h2⟩ := h
  refine ⟨h1, ?_⟩
  rcases h2 with h2 | ⟨g, cap, cur, rfl, hb, hg, r⟩
  · exact .inl h2
  · exact .inr ⟨g, cap, cur, rfl, hb, hk.blk hg (hn g rfl), r⟩
theorem OwnF.shape {e : TypeId} {k : Nat} {w : World} {v : Value} {n : Nat} {xs : List Value} (h : OwnF e k w v n xs) : ∃ a cap, v = .slice a n cap ∧ n ≤ cap ∧ cap ≤ maxLen ∧ (0 < n → ∃ g, a = some ⟨g, 0, none⟩) := by
  obtain ⟨h1, h2⟩ := h
  rcases h2 with ⟨rfl, h0⟩ | ⟨g, cap, cur, rfl, -, hg, hn, hc, hcs, ht⟩
  · exact ⟨none, 0, by rw [h0], by omega, by simp [maxLen], fun h => by omega⟩
  · exact ⟨some ⟨g, 0, none⟩, cap, rfl, hn, hc, fun _ => ⟨g, rfl⟩⟩
theorem OwnF.at {e : TypeId} {k : Nat} {w : World} {g n cap : Nat} {xs : List Value} (h : OwnF e k w (.slice (some ⟨g, 0, none⟩) n cap) n xs) : g < w.heap.size ∧ ∀ j, j < n * k → w.cell? ⟨g, j, none⟩ = xs[j]? := by
  obtain ⟨h1, h2⟩ := h
  rcases h2 with ⟨h3, -⟩ | ⟨g', cap', cur, h3, -, hg, hn, hcm, hcs, ht⟩
  · cases h3
  · cases h3
    refine ⟨lt_of_blk hg, fun j hj => ?_⟩
    rw [blk_cell hg]
    have h3 : (cur.toList.take (n * k))[j]? = xs[j]? := by rw [ht]
    rw [List.getElem?_take] at h3
    simp only [hj, if_true, Array.getElem?_toList] at h3
    exact h3
theorem OwnF.blk {e : TypeId} {k : Nat} {w : World} {v : Value} {n : Nat} {xs : List Value} (h : OwnF e k w v n xs) {b : Nat} (hb : v.ownBlock = some b) : ∃ c, w.heap[b]? = some (.cells c e (0, 0)) := by
  obtain ⟨h1, h2⟩ := h
  rcases h2 with ⟨rfl, -⟩ | ⟨g, cap, cur, rfl, -, hg, -⟩
  · cases hb
  · cases hb; exact ⟨cur, hg⟩
theorem blk_ty' {w : World} {b : Nat} {c c' : Array Value} {t t' : TypeId} (h : w.heap[b]? = some (.cells c t (0, 0))) (h' : w.heap[b]? = some (.cells c' t' (0, 0))) (ht : t ≠ t') : False := by
  rw [h] at h'
  simp only [Option.some.injEq, Obj.cells.injEq] at h'
  exact ht h'.2.1
theorem lit_cells {w : World} {b : Nat} {ys : List Value} {t : TypeId} (hb : w.heap[b]? = some (.cells ys.toArray t (0, 0))) : ∀ y, (some (⟨b, 0, none⟩ : Addr)) = some y → ∀ j u, ys[j]? = some u → w.cell? (y.add j) = some u := by
  intro y hy j u hu
  cases hy
  have e : (⟨b, 0, none⟩ : Addr).add j = ⟨b, j, none⟩ := by unfold Addr.add; split <;> simp_all
  rw [e, blk_cell hb, List.getElem?_toArray, hu]
/-- APPEND of one element, given by its cells, onto a row that the call owns. -/
theorem wpList_appF {P : Program} {w : World} {ops : Array Oper} {rest : List Oper} {o : Oper} {a : Act} {Q : Exit → Act → World → Prop} (hgd : o.guard = none) (s x : Operand) (t : TypeId)
    (ho : o.op = .call { callee := .builtin .append, args := #[s, x], argTypes := #[t, t] })
    (e : TypeId) (i : TypeInfo) (z : Value) (k bytes : Nat) (ht : P.underlying t = some (.slice e)) (hi : P.info? e = some i) (hz : i.zero = some z)
    (hsize : i.size = k) (hby : i.bytes = bytes) (hzs : z.cells.size = k) (hk : 0 < k)
    (v : Value) (n : Nat) (xs : List Value) (hs : a.eval s = v) (hown : OwnF e k w v n xs)
    (b : Nat) (ys : List Value) (hx : a.eval x = .slice (some ⟨b, 0, none⟩) 1 1) (hl : ys.length = k) (hb : w.heap[b]? = some (.cells ys.toArray e (0, 0))) (h1 : ∀ u ∈ ys, u.oneCell' = true)
    (h63 : n + 1 ≤ maxLen) (hbytes : (n + 1) * bytes ≤ 140737488355328)
    (h : ∀ v' w', OwnF e k w' v' (n + 1) (xs ++ ys) → Kept (fun k => v.ownBlock = some k) w w' → (v'.ownBlock = v.ownBlock ∨ v'.ownBlock = some w.heap.size) → wpList P ops Q rest (a.put o.dst v') w') : wpList P ops Q (o :: rest) a w :=
  wpList_app hgd s x t ho e i z k bytes ht hi hz hsize hby hzs hk v n xs hs hown (some ⟨b, 0, none⟩) 1 1 ys hx (fun h => by cases h) (by omega) (lit_cells hb) h1 h63 hbytes h
/-- What 'x.f = append(x.f, ..)' leaves. -/
theorem appF_field {e T : TypeId} {k : Nat} {w wa w5 : World} {p i : Nat} {C : Array Value} {v v5 : Value} {n : Nat} {zs : List Value} (hb : w.heap[p]? = some (.cells C T (0, 0))) (hop : v.ownBlock ≠ some p)
    (hka : Kept (fun _ => False) w wa) (ho5 : OwnF e k w5 v5 n zs) (hk5 : Kept (fun k => v.ownBlock = some k) wa w5) (hpr5 : v5.ownBlock = v.ownBlock ∨ v5.ownBlock = some wa.heap.size) :
    (w5.setCell ⟨p, i, none⟩ v5).heap[p]? = some (.cells (C.setIfInBounds i v5) T (0, 0)) ∧ OwnF e k (w5.setCell ⟨p, i, none⟩ v5) v5 n zs ∧ Kept (fun j => j = p ∨ v.ownBlock = some j) w (w5.setCell ⟨p, i, none⟩ v5) ∧ (v5.ownBlock = v.ownBlock ∨ ∃ b, v5.ownBlock = some b ∧ w.heap.size ≤ b) := by
  have hpw : p < w.heap.size := lt_of_blk hb
  have hza := hka.size
  have hb5 : w5.heap[p]? = some (.cells C T (0, 0)) := hk5.blk (hka.blk hb id) hop
  have h5p : v5.ownBlock ≠ some p := by
    intro h
    rcases hpr5 with h2 | h2
    · exact hop (by rw [← h2, h])
    · rw [h] at h2; have h3 := Option.some.inj h2; omega
  have hk : Kept (fun j => j = p ∨ v.ownBlock = some j) w w5 := (hka.mono (fun _ _ h => h.elim)).then (hk5.mono (fun i _ hi => Or.inr hi))
  refine ⟨blk_set hb5 i v5, ho5.kept (S := (· = p)) ((Kept.refl (· = p) w5).setCell (p := ⟨p, i, none⟩) (.inl rfl) _) (fun b hb hbp => h5p (by rw [hb]; exact congrArg some hbp)), hk.setCell (p := ⟨p, i, none⟩) (.inl (.inl rfl)) _, ?_⟩
  rcases hpr5 with h | h
  · exact .inl h
  · exact .inr ⟨_, h, hza⟩
/-- What holds while the scene is made: three rows of its own, held by the block that comes behind the world w. -/
structure OfI (w : World) (S0 : Value → Value → Value → Array Value) (a b c : Value) (na nb nc : Nat) (xa xb xc : List Value) (wr : World) : Prop where
  oa : OwnF 72 1 wr a na xa
  ob : OwnF 51 14 wr b nb xb
  oc : OwnF 108 4 wr c nc xc
  s : wr.heap[w.heap.size]? = some (.cells (S0 a b c) 42 (0, 0))
  k : Kept (fun _ => False) w wr
  la : ∀ x, a.ownBlock = some x → w.heap.size < x
  lb : ∀ x, b.ownBlock = some x → w.heap.size < x
  lc : ∀ x, c.ownBlock = some x → w.heap.size < x
theorem OfI.up {w : World} {S0 : Value → Value → Value → Array Value} {a b c : Value} {na nb nc : Nat} {xa xb xc : List Value} {wr w2 : World} (h : OfI w S0 a b c na nb nc xa xb xc wr) (hk : Kept (fun _ => False) wr w2) : OfI w S0 a b c na nb nc xa xb xc w2 :=
  ⟨h.oa.kept hk (fun _ _ => id), h.ob.kept hk (fun _ _ => id), h.oc.kept hk (fun _ _ => id), hk.blk h.s id, h.k.then hk, h.la, h.lb, h.lc⟩
theorem OfI.appA {w : World} {S0 : Value → Value → Value → Array Value} {a b c : Value} {na nb nc : Nat} {xa xb xc : List Value} {wr wa w5 : World} {v5 : Value} {ys : List Value} (h : OfI w S0 a b c na nb nc xa xb xc wr) (hS : ∀ u, (S0 a b c).setIfInBounds 4 u = S0 u b c)
    (hka : Kept (fun _ => False) wr wa) (ho5 : OwnF 72 1 w5 v5 (na + 1) (xa ++ ys)) (hk5 : Kept (fun k => a.ownBlock = some k) wa w5) (hpr5 : v5.ownBlock = a.ownBlock ∨ v5.ownBlock = some wa.heap.size) :
    OfI w S0 v5 b c (na + 1) nb nc (xa ++ ys) xb xc (w5.setCell ⟨w.heap.size, 4, none⟩ v5) := by
  have hgo : a.ownBlock ≠ some w.heap.size := fun he => Nat.lt_irrefl _ (h.la _ he)
  obtain ⟨f1, f2, f4, f5⟩ := appF_field (i := 4) h.s hgo hka ho5 hk5 hpr5
  refine ⟨f2, h.ob.kept f4 (fun x hx hS => hS.elim (fun he => by have := h.lb x hx; omega) (fun he => by obtain ⟨c1, h1⟩ := h.ob.blk hx; obtain ⟨c2, h2⟩ := h.oa.blk he; exact blk_ty' h1 h2 (by decide))), h.oc.kept f4 (fun x hx hS => hS.elim (fun he => by have := h.lc x hx; omega) (fun he => by obtain ⟨c1, h1⟩ := h.oc.blk hx; obtain ⟨c2, h2⟩ := h.oa.blk he; exact blk_ty' h1 h2 (by decide))), by rw [f1, hS], h.k.trans (f4.mono fun x _ hx => Or.inr ?_), (fun x hx => f5.elim (fun h9 => h.la x (by rw [← h9]; exact hx)) (fun ⟨c9, hc9, hz9⟩ => by rw [hx] at hc9; cases hc9; have := lt_of_blk h.s; omega)), h.lb, h.lc⟩
  rcases hx with rfl | hx
  · exact Nat.le_refl _
  · have := h.la x hx; omega
theorem OfI.appB {w : World} {S0 : Value → Value → Value → Array Value} {a b c : Value} {na nb nc : Nat} {xa xb xc : List Value} {wr wa w5 : World} {v5 : Value} {ys : List Value} (h : OfI w S0 a b c na nb nc xa xb xc wr) (hS : ∀ u, (S0 a b c).setIfInBounds 5 u = S0 a u c)
    (hka : Kept (fun _ => False) wr wa) (ho5 : OwnF 51 14 w5 v5 (nb + 1) (xb ++ ys)) (hk5 : Kept (fun k => b.ownBlock = some k) wa w5) (hpr5 : v5.ownBlock = b.ownBlock ∨ v5.ownBlock = some wa.heap.size) :
    OfI w S0 a v5 c na (nb + 1) nc xa (xb ++ ys) xc (w5.setCell ⟨w.heap.size, 5, none⟩ v5) := by
  have hgo : b.ownBlock ≠ some w.heap.size := fun he => Nat.lt_irrefl _ (h.lb _ he)
  obtain ⟨f1, f2, f4, f5⟩ := appF_field (i := 5) h.s hgo hka ho5 hk5 hpr5
  refine ⟨h.oa.kept f4 (fun x hx hS => hS.elim (fun he => by have := h.la x hx; omega) (fun he => by obtain ⟨c1, h1⟩ := h.oa.blk hx; obtain ⟨c2, h2⟩ := h.ob.blk he; exact blk_ty' h1 h2 (by decide))), f2, h.oc.kept f4 (fun x hx hS => hS.elim (fun he => by have := h.lc x hx; omega) (fun he => by obtain ⟨c1, h1⟩ := h.oc.blk hx; obtain ⟨c2, h2⟩ := h.ob.blk he; exact blk_ty' h1 h2 (by decide))), by rw [f1, hS], h.k.trans (f4.mono fun x _ hx => Or.inr ?_), h.la, (fun x hx => f5.elim (fun h9 => h.lb x (by rw [← h9]; exact hx)) (fun ⟨c9, hc9, hz9⟩ => by rw [hx] at hc9; cases hc9; have := lt_of_blk h.s; omega)), h.lc⟩
  rcases hx with rfl | hx
  · exact Nat.le_refl _
  · have := h.lb x hx; omega
theorem OfI.appC {w : World} {S0 : Value → Value → Value → Array Value} {a b c : Value} {na nb nc : Nat} {xa xb xc : List Value} {wr wa w5 : World} {v5 : Value} {ys : List Value} (h : OfI w S0 a b c na nb nc xa xb xc wr) (hS : ∀ u, (S0 a b c).setIfInBounds 6 u = S0 a b u)
    (hka : Kept (fun _ => False) wr wa) (ho5 : OwnF 108 4 w5 v5 (nc + 1) (xc ++ ys)) (hk5 : Kept (fun k => c.ownBlock = some k) wa w5) (hpr5 : v5.ownBlock = c.ownBlock ∨ v5.ownBlock = some wa.heap.size) :
    OfI w S0 a b v5 na nb (nc + 1) xa xb (xc ++ ys) (w5.setCell ⟨w.heap.size, 6, none⟩ v5) := by
  have hgo : c.ownBlock ≠ some w.heap.size := fun he => Nat.lt_irrefl _ (h.lc _ he)
  obtain ⟨f1, f2, f4, f5⟩ := appF_field (i := 6) h.s hgo hka ho5 hk5 hpr5
  refine ⟨h.oa.kept f4 (fun x hx hS => hS.elim (fun he => by have := h.la x hx; omega) (fun he => by obtain ⟨c1, h1⟩ := h.oa.blk hx; obtain ⟨c2, h2⟩ := h.oc.blk he; exact blk_ty' h1 h2 (by decide))), h.ob.kept f4 (fun x hx hS => hS.elim (fun he => by have := h.lb x hx; omega) (fun he => by obtain ⟨c1, h1⟩ := h.ob.blk hx; obtain ⟨c2, h2⟩ := h.oc.blk he; exact blk_ty' h1 h2 (by decide))), f2, by rw [f1, hS], h.k.trans (f4.mono fun x _ hx => Or.inr ?_), h.la, h.lb, (fun x hx => f5.elim (fun h9 => h.lc x (by rw [← h9]; exact hx)) (fun ⟨c9, hc9, hz9⟩ => by rw [hx] at hc9; cases hc9; have := lt_of_blk h.s; omega))⟩
  rcases hx with rfl | hx
  · exact Nat.le_refl _
  · have := h.lc x hx; omega
/-- The flat list of a list of elements of k cells. -/
theorem flat_at {A : Type} {f : A → List Value} {k : Nat} (hf : ∀ x, (f x).length = k) : ∀ (L : List A) (j i : Nat) (x : A), L[j]? = some x → i < k → (L.flatMap f)[j * k + i]? = (f x)[i]?
  | [], j, i, x, h, _ => by simp at h
  | y :: L, 0, i, x, h, hi => by
    simp at h; subst h
    rw [List.flatMap_cons, Nat.zero_mul, Nat.zero_add, List.getElem?_append_left (by rw [hf]; exact hi)]
  | y :: L, j + 1, i, x, h, hi => by
    have e : (j + 1) * k + i = k + (j * k + i) := by rw [Nat.succ_mul]; omega
    rw [List.flatMap_cons, List.getElem?_append_right (by rw [hf]; omega), hf, e, Nat.add_sub_cancel_left]
    exact flat_at hf L j i x (by simpa using h) hi
theorem mul_lt {j n i k : Nat} (hj : j < n) (hi : i < k) : j * k + i < n * k := by
  have h1 : (j + 1) * k ≤ n * k := Nat.mul_le_mul_right _ hj
  rw [Nat.succ_mul] at h1
  omega
/-- The lines laid so far. -/
def LnP (B : Nat) (w0 : World) (ls : List (List Cl)) (i : Nat) (xa : List Value) : Prop := ∀ j l, j < i → ls[j]? = some l → ∃ a' n' c', xa[j]? = some (.slice a' n' c') ∧ LineAt B w0 a' n' l
theorem OwnF.lines {B : Nat} {w0 wr : World} {ls : List (List Cl)} {a : Option Addr} {n c : Nat} {xa : List Value} (h : OwnF 72 1 wr (.slice a n c) n xa) (hl : LnP B w0 ls n xa) (hn : ls.length = n) (hk : Kept (fun _ => False) w0 wr) (hB : B ≤ w0.heap.size) : LinesAt wr.heap.size wr a n ls := by
  refine ⟨hn, ?_⟩
  by_cases h0 : n = 0
  · exact .inl h0
  obtain ⟨a', cap, hv, -, -, hg⟩ := h.shape
  cases hv
  obtain ⟨g, rfl⟩ := hg (by omega)
  obtain ⟨hgl, hat⟩ := h.at
  refine .inr ⟨g, 0, rfl, hgl, fun j l hj => ?_⟩
  have hjn : j < n := by have := (List.getElem?_eq_some_iff.1 hj).1; omega
  obtain ⟨a', n', c', h1, h2⟩ := hl j l hjn hj
  exact ⟨a', n', c', by rw [Nat.zero_add, hat j (by omega)]; exact h1, (h2.kept hk (fun _ h => h.elim)).mono (Nat.le_trans hB hk.size)⟩
theorem OwnF.places {wr : World} {a : Option Addr} {n c : Nat} {L : List Pz} (h : OwnF 51 14 wr (.slice a n c) n (L.flatMap Pz.vs)) (hn : L.length = n) : PzsAt wr.heap.size wr a n L := by
  refine ⟨hn, ?_⟩
  by_cases h0 : n = 0
  · exact .inl h0
  obtain ⟨a', cap, hv, -, -, hg⟩ := h.shape
  cases hv
  obtain ⟨g, rfl⟩ := hg (by omega)
  obtain ⟨hgl, hat⟩ := h.at
  refine .inr ⟨g, 0, rfl, hgl, fun j p hj f hf => ?_⟩
  have hjn : j < n := by have := (List.getElem?_eq_some_iff.1 hj).1; omega
  rw [Nat.zero_add, hat _ (mul_lt hjn hf)]
  exact flat_at (k := 14) (fun x => rfl) L j f p hj hf
/-- The cells of an image with its id. -/
def imV (q : Int × ME) : List Value := [.int .i64 q.1, .int .i64 q.2.x, .int .i64 q.2.y, .slice q.2.a q.2.n q.2.c]
theorem OwnF.ims {B : Nat} {w0 wr : World} {a : Option Addr} {n c : Nat} {IL : List (Int × ME)} (h : OwnF 108 4 wr (.slice a n c) n (IL.flatMap imV)) (hn : IL.length = n) (hm : ∀ q ∈ IL, MEAt B w0 q.2) (hk : Kept (fun _ => False) w0 wr) (hB : B ≤ w0.heap.size) : ImsAt wr.heap.size wr a n IL := by
  refine ⟨hn, fun q hq => ((hm q hq).kept hk (fun _ h => h.elim)).mono (Nat.le_trans hB hk.size), ?_⟩
  by_cases h0 : n = 0
  · exact .inl h0
  obtain ⟨a', cap, hv, -, -, hg⟩ := h.shape
  cases hv
  obtain ⟨g, rfl⟩ := hg (by omega)
  obtain ⟨hgl, hat⟩ := h.at
  refine .inr ⟨g, 0, rfl, hgl, fun j p hj => ?_⟩
  have hjn : j < n := by have := (List.getElem?_eq_some_iff.1 hj).1; omega
  have at' : ∀ f, f < 4 → wr.cell? ⟨g, 0 + j * 4 + f, none⟩ = (imV p)[f]? := fun f hf => by
    rw [Nat.zero_add, hat _ (mul_lt hjn hf)]
    exact flat_at (k := 4) (fun x => rfl) IL j f p hj hf
  exact ⟨at' 0 (by omega), at' 1 (by omega), at' 2 (by omega), at' 3 (by omega)⟩
/-- The images of the places, by their id. -/
def imL (E : List ME) (L : List Pz) : List (Int × ME) := L.filterMap fun p => (lookM E p.im).map fun m => (p.im, m)
theorem imL_take {E : List ME} {L : List Pz} {i : Nat} {p : Pz} (h : L[i]? = some p) : imL E (L.take (i + 1)) = imL E (L.take i) ++ ((lookM E p.im).map fun m => (p.im, m)).toList := by
  unfold imL
  rw [List.take_add_one, h, Option.toList_some, List.filterMap_append]
  congr 1
theorem vs_take {L : List Pz} {i : Nat} {p : Pz} (h : L[i]? = some p) : (L.take (i + 1)).flatMap Pz.vs = (L.take i).flatMap Pz.vs ++ p.vs := by
  rw [List.take_add_one, h, Option.toList_some, List.flatMap_append]
  simp
theorem imL_mem {E : List ME} {L : List Pz} {q : Int × ME} (h : q ∈ imL E L) : q.2 ∈ E ∧ q.2.k = q.1 := by
  unfold imL at h
  obtain ⟨p, -, hp⟩ := List.mem_filterMap.1 h
  cases hl : lookM E p.im with
  | none => rw [hl] at hp; cases hp
  | some m =>
    rw [hl] at hp
    cases hp
    exact lookM_mem hl
/-- Eleven stores, one behind the other. -/
theorem store11 {w : World} {b : Nat} {y0 y1 y2 y3 y4 y5 y6 y7 y8 y9 y10 : Value} {t : TypeId} (h : w.heap[b]? = some (.cells #[y0, y1, y2, y3, y4, y5, y6, y7, y8, y9, y10] t (0, 0))) (x0 x1 x2 x3 x4 x5 x6 x7 x8 x9 x10 : Value) :
    ∃ V1 V2 V3 V4 V5 V6 V7 V8 V9 V10 V11, w.setCell ⟨b, 0, none⟩ x0 = V1 ∧ V1.setCell ⟨b, 1, none⟩ x1 = V2 ∧ V2.setCell ⟨b, 2, none⟩ x2 = V3 ∧ V3.setCell ⟨b, 3, none⟩ x3 = V4 ∧ V4.setCell ⟨b, 4, none⟩ x4 = V5 ∧ V5.setCell ⟨b, 5, none⟩ x5 = V6 ∧ V6.setCell ⟨b, 6, none⟩ x6 = V7 ∧ V7.setCell ⟨b, 7, none⟩ x7 = V8 ∧ V8.setCell ⟨b, 8, none⟩ x8 = V9 ∧ V9.setCell ⟨b, 9, none⟩ x9 = V10 ∧ V10.setCell ⟨b, 10, none⟩ x10 = V11 ∧
      (w.cell? ⟨b, 0, none⟩ = some y0 ∧ w.frozen? ⟨b, 0, none⟩ = false) ∧ (V1.cell? ⟨b, 1, none⟩ = some y1 ∧ V1.frozen? ⟨b, 1, none⟩ = false) ∧ (V2.cell? ⟨b, 2, none⟩ = some y2 ∧ V2.frozen? ⟨b, 2, none⟩ = false) ∧ (V3.cell? ⟨b, 3, none⟩ = some y3 ∧ V3.frozen? ⟨b, 3, none⟩ = false) ∧ (V4.cell? ⟨b, 4, none⟩ = some y4 ∧ V4.frozen? ⟨b, 4, none⟩ = false) ∧ (V5.cell? ⟨b, 5, none⟩ = some y5 ∧ V5.frozen? ⟨b, 5, none⟩ = false) ∧ (V6.cell? ⟨b, 6, none⟩ = some y6 ∧ V6.frozen? ⟨b, 6, none⟩ = false) ∧ (V7.cell? ⟨b, 7, none⟩ = some y7 ∧ V7.frozen? ⟨b, 7, none⟩ = false) ∧ (V8.cell? ⟨b, 8, none⟩ = some y8 ∧ V8.frozen? ⟨b, 8, none⟩ = false) ∧ (V9.cell? ⟨b, 9, none⟩ = some y9 ∧ V9.frozen? ⟨b, 9, none⟩ = false) ∧ (V10.cell? ⟨b, 10, none⟩ = some y10 ∧ V10.frozen? ⟨b, 10, none⟩ = false) ∧ V11.heap[b]? = some (.cells #[x0, x1, x2, x3, x4, x5, x6, x7, x8, x9, x10] t (0, 0)) ∧ Kept (fun i => i = b) w V11 := by
  obtain ⟨V1, e1⟩ : ∃ V, w.setCell ⟨b, 0, none⟩ x0 = V := ⟨_, rfl⟩
  have h1 : V1.heap[b]? = some (.cells #[x0, y1, y2, y3, y4, y5, y6, y7, y8, y9, y10] t (0, 0)) := by rw [← e1]; exact blk_set h 0 x0
  have k1 : Kept (fun i => i = b) w V1 := by rw [← e1]; exact (Kept.refl (fun i => i = b) w).setCell (p := ⟨b, 0, none⟩) (.inl rfl) _
  obtain ⟨V2, e2⟩ : ∃ V, V1.setCell ⟨b, 1, none⟩ x1 = V := ⟨_, rfl⟩
  have h2 : V2.heap[b]? = some (.cells #[x0, x1, y2, y3, y4, y5, y6, y7, y8, y9, y10] t (0, 0)) := by rw [← e2]; exact blk_set h1 1 x1
  have k2 : Kept (fun i => i = b) w V2 := by rw [← e2]; exact (k1).setCell (p := ⟨b, 1, none⟩) (.inl rfl) _
  obtain ⟨V3, e3⟩ : ∃ V, V2.setCell ⟨b, 2, none⟩ x2 = V := ⟨_, rfl⟩
  have h3 : V3.heap[b]? = some (.cells #[x0, x1, x2, y3, y4, y5, y6, y7, y8, y9, y10] t (0, 0)) := by rw [← e3]; exact blk_set h2 2 x2
  have k3 : Kept (fun i => i = b) w V3 := by rw [← e3]; exact (k2).setCell (p := ⟨b, 2, none⟩) (.inl rfl) _
  obtain ⟨V4, e4⟩ : ∃ V, V3.setCell ⟨b, 3, none⟩ x3 = V := ⟨_, rfl⟩
  have h4 : V4.heap[b]? = some (.cells #[x0, x1, x2, x3, y4, y5, y6, y7, y8, y9, y10] t (0, 0)) := by rw [← e4]; exact blk_set h3 3 x3
  have k4 : Kept (fun i => i = b) w V4 := by rw [← e4]; exact (k3).setCell (p := ⟨b, 3, none⟩) (.inl rfl) _
  obtain ⟨V5, e5⟩ : ∃ V, V4.setCell ⟨b, 4, none⟩ x4 = V := ⟨_, rfl⟩
  have h5 : V5.heap[b]? = some (.cells #[x0, x1, x2, x3, x4, y5, y6, y7, y8, y9, y10] t (0, 0)) := by rw [← e5]; exact blk_set h4 4 x4
  have k5 : Kept (fun i => i = b) w V5 := by rw [← e5]; exact (k4).setCell (p := ⟨b, 4, none⟩) (.inl rfl) _
  obtain ⟨V6, e6⟩ : ∃ V, V5.setCell ⟨b, 5, none⟩ x5 = V := ⟨_, rfl⟩
  have h6 : V6.heap[b]? = some (.cells #[x0, x1, x2, x3, x4, x5, y6, y7, y8, y9, y10] t (0, 0)) := by rw [← e6]; exact blk_set h5 5 x5
  have k6 : Kept (fun i => i = b) w V6 := by rw [← e6]; exact (k5).setCell (p := ⟨b, 5, none⟩) (.inl rfl) _
  obtain ⟨V7, e7⟩ : ∃ V, V6.setCell ⟨b, 6, none⟩ x6 = V := ⟨_, rfl⟩
  have h7 : V7.heap[b]? = some (.cells #[x0, x1, x2, x3, x4, x5, x6, y7, y8, y9, y10] t (0, 0)) := by rw [← e7]; exact blk_set h6 6 x6
  have k7 : Kept (fun i => i = b) w V7 := by rw [← e7]; exact (k6).setCell (p := ⟨b, 6, none⟩) (.inl rfl) _
  obtain ⟨V8, e8⟩ : ∃ V, V7.setCell ⟨b, 7, none⟩ x7 = V := ⟨_, rfl⟩
  have h8 : V8.heap[b]? = some (.cells #[x0, x1, x2, x3, x4, x5, x6, x7, y8, y9, y10] t (0, 0)) := by rw [← e8]; exact blk_set h7 7 x7
  have k8 : Kept (fun i => i = b) w V8 := by rw [← e8]; exact (k7).setCell (p := ⟨b, 7, none⟩) (.inl rfl) _
  obtain ⟨V9, e9⟩ : ∃ V, V8.setCell ⟨b, 8, none⟩ x8 = V := ⟨_, rfl⟩
  have h9 : V9.heap[b]? = some (.cells #[x0, x1, x2, x3, x4, x5, x6, x7, x8, y9, y10] t (0, 0)) := by rw [← e9]; exact blk_set h8 8 x8
  have k9 : Kept (fun i => i = b) w V9 := by rw [← e9]; exact (k8).setCell (p := ⟨b, 8, none⟩) (.inl rfl) _
  obtain ⟨V10, e10⟩ : ∃ V, V9.setCell ⟨b, 9, none⟩ x9 = V := ⟨_, rfl⟩
  have h10 : V10.heap[b]? = some (.cells #[x0, x1, x2, x3, x4, x5, x6, x7, x8, x9, y10] t (0, 0)) := by rw [← e10]; exact blk_set h9 9 x9
  have k10 : Kept (fun i => i = b) w V10 := by rw [← e10]; exact (k9).setCell (p := ⟨b, 9, none⟩) (.inl rfl) _
  obtain ⟨V11, e11⟩ : ∃ V, V10.setCell ⟨b, 10, none⟩ x10 = V := ⟨_, rfl⟩
  have h11 : V11.heap[b]? = some (.cells #[x0, x1, x2, x3, x4, x5, x6, x7, x8, x9, x10] t (0, 0)) := by rw [← e11]; exact blk_set h10 10 x10
  have k11 : Kept (fun i => i = b) w V11 := by rw [← e11]; exact (k10).setCell (p := ⟨b, 10, none⟩) (.inl rfl) _
  exact ⟨V1, V2, V3, V4, V5, V6, V7, V8, V9, V10, V11, e1, e2, e3, e4, e5, e6, e7, e8, e9, e10, e11, ⟨blk_cell h 0, blk_free h 0⟩, ⟨blk_cell h1 1, blk_free h1 1⟩, ⟨blk_cell h2 2, blk_free h2 2⟩, ⟨blk_cell h3 3, blk_free h3 3⟩, ⟨blk_cell h4 4, blk_free h4 4⟩, ⟨blk_cell h5 5, blk_free h5 5⟩, ⟨blk_cell h6 6, blk_free h6 6⟩, ⟨blk_cell h7 7, blk_free h7 7⟩, ⟨blk_cell h8 8, blk_free h8 8⟩, ⟨blk_cell h9 9, blk_free h9 9⟩, ⟨blk_cell h10 10, blk_free h10 10⟩, h11, k11⟩
theorem info72 : (Try.prog.info? 72).map (fun i => (i.zero, i.size, i.bytes)) = some (some (.slice none 0 0), 1, 24) := by kernel_rfl
theorem info51 : (Try.prog.info? 51).map (fun i => (i.zero, i.size, i.bytes)) = some (some (.agg #[.int .i64 0, .int .i64 0, .bool false, .int .i64 0, .int .i64 0, .int .i64 0, .int .i64 0, .int .i64 0, .int .i64 0, .int .i64 0, .int .i64 0, .int .i64 0, .int .i64 0, .int .i64 0]), 14, 112) := by kernel_rfl
theorem info108 : (Try.prog.info? 108).map (fun i => (i.zero, i.size, i.bytes)) = some (some (.agg #[.int .i64 0, .int .i64 0, .int .i64 0, .slice none 0 0]), 4, 48) := by kernel_rfl
end Go.Proofs.Ytdjgmhbfohbenaa
