/- Slices of the call's own whose elements are whatever values of one cell. -/
import Derived.Test.YtdjgmhbfohbenaaApp
import Derived.Test.YtdjgmhbfohbenaaOpen
import Derived.Deep.Slices
import Derived.OpenShut
namespace Go.Proofs.Ytdjgmhbfohbenaa
open Go.RowKit
set_option linter.unusedVariables false
set_option linter.unusedSimpArgs false
/-- A slice that the call owns, its elements given as values, one cell each. -/
def OwnV (e : TypeId) (w : World) (v : Value) (xs : List Value) : Prop := w.ownsRow 0 e 1 v xs.length xs
theorem OwnV.nil (e : TypeId) (w : World) : OwnV e w (.slice none 0 0) [] := World.ownsRow_nil w 0 e 1
theorem OwnV.shape {e : TypeId} {w : World} {v : Value} {xs : List Value} (h : OwnV e w v xs) : ∃ a cap, v = .slice a xs.length cap ∧ xs.length ≤ cap ∧ cap ≤ maxLen ∧ (a = none → xs.length = 0 ∧ cap = 0) ∧ (0 < xs.length → ∃ g, a = some ⟨g, 0, none⟩) ∧ (∀ g, a = some ⟨g, 0, none⟩ → v.ownBlock = some g) := by
  obtain ⟨h1, h2⟩ := h
  rcases h2 with ⟨rfl, h0⟩ | ⟨g, cap, cur, rfl, -, hg, hn, hc, hcs, ht⟩
  · exact ⟨none, 0, by rw [h0], by omega, by simp [maxLen], fun _ => ⟨h0, rfl⟩, fun h => by omega, fun g h => by cases h⟩
  · exact ⟨some ⟨g, 0, none⟩, cap, rfl, hn, hc, (fun h => by cases h), fun _ => ⟨g, rfl⟩, fun g' h => by cases h; rfl⟩
theorem OwnV.at {e : TypeId} {w : World} {g n cap : Nat} {xs : List Value} (h : OwnV e w (.slice (some ⟨g, 0, none⟩) n cap) xs) :
    xs.length = n ∧ n ≤ cap ∧ g < w.heap.size ∧ (∀ j, j < n → w.cell? ⟨g, j, none⟩ = xs[j]?) ∧ ∀ j, w.frozen? ⟨g, j, none⟩ = false := by
  obtain ⟨h1, h2⟩ := h
  rcases h2 with ⟨h3, -⟩ | ⟨g', cap', cur, h3, -, hg, hn, hcm, hcs, ht⟩
  · cases h3
  · cases h3
    refine ⟨rfl, hn, lt_of_blk hg, fun j hj => ?_, fun j => blk_free hg j⟩
    rw [blk_cell hg]
    have h3 : (cur.toList.take (xs.length * 1))[j]? = xs[j]? := by rw [ht]
    rw [List.getElem?_take] at h3
    simp only [Nat.mul_one, hj, if_true, Array.getElem?_toList] at h3
    exact h3
theorem OwnV.kept {e : TypeId} {S : Nat → Prop} {w w' : World} {v : Value} {xs : List Value} (h : OwnV e w v xs) (hk : Kept S w w') (hn : ∀ b, v.ownBlock = some b → ¬ S b) : OwnV e w' v xs := by
  obtain ⟨h1, h2⟩ := h
  refine ⟨h1, ?_⟩
  rcases h2 with h2 | ⟨g, cap, cur, rfl, hb, hg, r⟩
  · exact .inl h2
  · exact .inr ⟨g, cap, cur, rfl, hb, hk.blk hg (hn g rfl), r⟩
theorem OwnV.lt {e : TypeId} {w : World} {v : Value} {xs : List Value} (h : OwnV e w v xs) : ∀ b, v.ownBlock = some b → b < w.heap.size := fun b hb => (World.ownsRow.lt h b hb).2
/-- A store into it. -/
theorem OwnV.set {e : TypeId} {w : World} {g n cap : Nat} {xs : List Value} (h : OwnV e w (.slice (some ⟨g, 0, none⟩) n cap) xs) (i : Nat) {x : Value} (hx : x.oneCell' = true) :
    OwnV e (w.setCell ⟨g, i, none⟩ x) (.slice (some ⟨g, 0, none⟩) n cap) (xs.set i x) := by
  have hxl := h.at.1
  obtain ⟨h1, h2⟩ := h
  rcases h2 with ⟨h3, -⟩ | ⟨g', cap', cur, h3, -, hg, hn, hcm, hcs, ht⟩
  · cases h3
  · cases h3
    refine ⟨by simp, .inr ⟨g, cap, cur.setIfInBounds i x, by simp, Nat.zero_le _, blk_set hg i _, by simpa using hn, hcm, by simpa using hcs, ?_⟩⟩
    rw [Array.toList_setIfInBounds, List.length_set, List.take_set, ht]
/-- APPEND of values onto a slice of the call's own. -/
theorem wpList_appV {P : Program} {w : World} {ops : Array Oper} {rest : List Oper} {o : Oper} {a : Act} {Q : Exit → Act → World → Prop} (hgd : o.guard = none) (s x : Operand) (t : TypeId)
    (ho : o.op = .call { callee := .builtin .append, args := #[s, x], argTypes := #[t, t] })
    (e : TypeId) (i : TypeInfo) (z : Value) (bytes : Nat) (ht : P.underlying t = some (.slice e)) (hi : P.info? e = some i) (hz : i.zero = some z)
    (hsize : i.size = 1) (hby : i.bytes = bytes) (hzs : z.cells.size = 1)
    (v : Value) (xs : List Value) (hs : a.eval s = v) (hown : OwnV e w v xs)
    (ad : Option Addr) (m c : Nat) (ys : List Value) (hx : a.eval x = .slice ad m c) (hnil : ad = none → m = 0 ∧ c = 0) (hl : ys.length = m) (h1 : ∀ u ∈ ys, u.oneCell' = true)
    (hsl : ∀ y, ad = some y → ∀ j u, ys[j]? = some u → w.cell? (y.add j) = some u)
    (hbytes : (xs.length + m) * bytes ≤ 140737488355328) (h63 : xs.length + m ≤ maxLen)
    (h : ∀ v' w', OwnV e w' v' (xs ++ ys) → Kept (fun k => v.ownBlock = some k) w w' → (v'.ownBlock = v.ownBlock ∨ v'.ownBlock = some w.heap.size) → wpList P ops Q rest (a.put o.dst v') w') : wpList P ops Q (o :: rest) a w := by
  refine wpList_app hgd s x t ho e i z 1 bytes ht hi hz hsize hby hzs (by omega) v xs.length _ hs hown ad m c ys hx hnil (by simp [hl]) hsl h1 h63 hbytes fun v' w' h1 h2 h3 => h v' w' ?_ h2 h3
  show World.ownsRow _ _ _ _ _ _ _
  rw [List.length_append, hl]
  exact h1
/-- The cells of a one-element literal. -/
theorem one_lit {w : World} {b : Nat} {x : Value} {t : TypeId} {f : Nat × Nat} (hb : w.heap[b]? = some (.cells #[x] t f)) : ∀ y, (some (⟨b, 0, none⟩ : Addr)) = some y → ∀ j u, [x][j]? = some u → w.cell? (y.add j) = some u := by
  intro y hy j u hu
  cases hy
  match j, hu with
  | 0, hu => cases hu; exact blk_cell hb 0
  | j + 1, hu => cases hu
/-- What 'x.f = append(x.f, ..)' leaves. -/
theorem appV_field {e T : TypeId} {w wa w5 : World} {p i : Nat} {C : Array Value} {v v5 : Value} {zs : List Value} {o : Option Nat} (hb : w.heap[p]? = some (.cells C T (0, 0))) (hvo : v.ownBlock = o) (hop : o ≠ some p)
    (hka : Kept (fun _ => False) w wa) (ho5 : OwnV e w5 v5 zs) (hk5 : Kept (fun k => v.ownBlock = some k) wa w5) (hpr5 : v5.ownBlock = v.ownBlock ∨ v5.ownBlock = some wa.heap.size) :
    (w5.setCell ⟨p, i, none⟩ v5).heap[p]? = some (.cells (C.setIfInBounds i v5) T (0, 0)) ∧ OwnV e (w5.setCell ⟨p, i, none⟩ v5) v5 zs ∧ v5.ownBlock ≠ some p ∧ Kept (fun j => j = p ∨ o = some j) w (w5.setCell ⟨p, i, none⟩ v5) ∧ (v5.ownBlock = o ∨ ∃ b, v5.ownBlock = some b ∧ w.heap.size ≤ b) := by
  have hpw : p < w.heap.size := lt_of_blk hb
  have hza := hka.size
  have hb5 : w5.heap[p]? = some (.cells C T (0, 0)) := hk5.blk (hka.blk hb id) (fun h => hop (by rw [← hvo]; exact h))
  have h5p : v5.ownBlock ≠ some p := by
    intro h
    rcases hpr5 with h2 | h2
    · exact hop (by rw [← hvo, ← h2, h])
    · rw [h] at h2; have h3 := Option.some.inj h2; omega
  have hk : Kept (fun j => j = p ∨ o = some j) w w5 := (hka.mono (fun _ _ h => h.elim)).then (hk5.mono (fun i _ hi => Or.inr (by rw [← hvo]; exact hi)))
  refine ⟨blk_set hb5 i v5, ho5.kept (S := (· = p)) ((Kept.refl (· = p) w5).setCell (p := ⟨p, i, none⟩) (.inl rfl) _) (fun b hb hbp => h5p (by rw [hb]; exact congrArg some hbp)), h5p, hk.setCell (p := ⟨p, i, none⟩) (.inl (.inl rfl)) _, ?_⟩
  rcases hpr5 with h | h
  · exact .inl (h.trans hvo)
  · exact .inr ⟨_, h, hza⟩
/-- Four numbers. -/
structure Q4 where
  a : Int
  b : Int
  c : Int
  d : Int
/-- A slice of arrays of four numbers as it comes in. -/
def IsQ (k : IntKind) (w : World) (a : Option Addr) (len : Nat) (Q : Nat → Q4) : Prop :=
  len = 0 ∨ ∃ b off, a = some ⟨b, off, none⟩ ∧ b < w.heap.size ∧ ∀ i, i < len → w.cell? ⟨b, off + i * 4, none⟩ = some (.int k (Q i).a) ∧ w.cell? ⟨b, off + (i * 4 + 1), none⟩ = some (.int k (Q i).b) ∧ w.cell? ⟨b, off + (i * 4 + 2), none⟩ = some (.int k (Q i).c) ∧ w.cell? ⟨b, off + (i * 4 + 3), none⟩ = some (.int k (Q i).d) ∧ (Lit.int k (Q i).a).wf = true ∧ (Lit.int k (Q i).b).wf = true ∧ (Lit.int k (Q i).c).wf = true ∧ (Lit.int k (Q i).d).wf = true
theorem IsQ.kept {k : IntKind} {w w' : World} {a : Option Addr} {len : Nat} {Q : Nat → Q4} (h : IsQ k w a len Q) (hk : Kept (fun _ => False) w w') : IsQ k w' a len Q := by
  refine h.imp (fun h => h) fun ⟨b, off, ha, hb, hc⟩ => ⟨b, off, ha, Nat.lt_of_lt_of_le hb hk.size, fun i hi => ?_⟩
  obtain ⟨h0, h1, h2, h3, hw⟩ := hc i hi
  exact ⟨hk.cell h0 id, hk.cell h1 id, hk.cell h2 id, hk.cell h3 id, hw⟩
section
open Go.ChangeShapes Go.WideShapes Go.ChangeAt Go.Joins Go.Deep
variable {H : Type} {enc : TypeId × Value → H} {P : Program} {W : World} {r : Reach} {b0 : Nat} {t e e1 : TypeId} {v : Value} {d : DataW H} {p : List MemPlace}
theorem o_arr4s {k : IntKind} (ht : P.underlying t = some (.slice e)) (he : P.underlying e = some (.array 4 e1)) (ce : P.cellsOf e = 4) (ce1 : P.cellsOf e1 = 1) (u1 : P.underlying e1 = some (.int k))
    (hv : Value.okWide P W r b0 t v) (h : DataW.Trod enc P W 0 (fun _ => true) true t v d p) :
    ∃ a len cap Q, v = .slice a len cap ∧ IsQ k W a len Q ∧ len ≤ cap ∧ cap ≤ maxLen := by
  obtain ⟨a0, len0, cap0, rfl⟩ := okWide_slice ht hv
  obtain ⟨fuel, hf⟩ := h
  rcases open_slice ht hf with ⟨hcs, -⟩ | ⟨x, len, cap, m, n, D, Pl, hcs, -, hl, hm, hmm, hx, hall⟩
  · simp [Value.cells] at hcs
    obtain ⟨rfl, rfl, rfl⟩ := hcs
    exact ⟨_, _, _, fun _ => ⟨0, 0, 0, 0⟩, rfl, .inl rfl, Nat.le_refl _, by simp [maxLen]⟩
  · simp [Value.cells] at hcs
    obtain ⟨rfl, rfl, rfl⟩ := hcs
    simp only [if_true] at hmm
    have each : ∀ i, i < m → ∃ q : Q4, W.cell? (x.add (i * 4)) = some (.int k q.a) ∧ W.cell? (x.add (i * 4 + 1)) = some (.int k q.b) ∧ W.cell? (x.add (i * 4 + 2)) = some (.int k q.c) ∧ W.cell? (x.add (i * 4 + 3)) = some (.int k q.d) ∧ (Lit.int k q.a).wf = true ∧ (Lit.int k q.b).wf = true ∧ (Lit.int k q.c).wf = true ∧ (Lit.int k q.d).wf = true := by
      intro i hi
      obtain ⟨cs', hc, ht'⟩ := hall i hi
      rw [ce] at hc
      obtain ⟨_, hcl, hat⟩ := World.cells?_some hc
      obtain ⟨xs, n', _, _, _, hlen, hel⟩ := DataW.trod_array he ht'
      have t0 := hel 0 (by omega)
      have t1 := hel 1 (by omega)
      have t2 := hel 2 (by omega)
      have t3 := hel 3 (by omega)
      rw [ce1] at t0 t1 t2 t3
      match cs', hcl with
      | [c0, c1, c2, c3], _ =>
        match xs, hlen with
        | [y0, y1, y2, y3], _ =>
          simp only [Nat.zero_mul, List.drop_zero, List.take_succ_cons, List.take_zero, Nat.one_mul, Nat.mul_one, List.drop_succ_cons, List.getElem?_cons_zero, List.getElem?_cons_succ] at t0 t1 t2 t3
          obtain ⟨z0, e0, -, w0⟩ := DataW.trod_int u1 t0
          obtain ⟨z1, e1, -, w1⟩ := DataW.trod_int u1 t1
          obtain ⟨z2, e2, -, w2⟩ := DataW.trod_int u1 t2
          obtain ⟨z3, e3, -, w3⟩ := DataW.trod_int u1 t3
          simp at e0 e1 e2 e3
          subst e0 e1 e2 e3
          have h0 := hat 0 (by omega)
          have h1 := hat 1 (by omega)
          have h2 := hat 2 (by omega)
          have h3 := hat 3 (by omega)
          rw [Go.Deep.add_add] at h0 h1 h2 h3
          exact ⟨⟨z0, z1, z2, z3⟩, by simpa using h0, by simpa using h1, by simpa using h2, by simpa using h3, w0, w1, w2, w3⟩
    obtain ⟨q, hq⟩ : ∃ q : Nat → Q4, ∀ i, i < m → W.cell? (x.add (i * 4)) = some (.int k (q i).a) ∧ W.cell? (x.add (i * 4 + 1)) = some (.int k (q i).b) ∧ W.cell? (x.add (i * 4 + 2)) = some (.int k (q i).c) ∧ W.cell? (x.add (i * 4 + 3)) = some (.int k (q i).d) ∧ (Lit.int k (q i).a).wf = true ∧ (Lit.int k (q i).b).wf = true ∧ (Lit.int k (q i).c).wf = true ∧ (Lit.int k (q i).d).wf = true := by
      refine ⟨fun i => if h : i < m then (each i h).choose else ⟨0, 0, 0, 0⟩, fun i hi => ?_⟩
      simp only [hi, dif_pos]
      exact (each i hi).choose_spec
    refine ⟨_, _, _, q, rfl, ?_, hl, hm⟩
    by_cases h0 : len0 = 0
    · exact .inl h0
    right
    obtain ⟨b, off, spot⟩ := x
    have h1 := (hq 0 (by omega)).1
    have hs : spot = none := by simpa [Addr.add] using World.cell?_spot h1
    subst hs
    refine ⟨b, off, rfl, lt_of_cell (by simpa [Addr.add] using h1), fun i hi => ?_⟩
    have ea : ∀ j, (⟨b, off, none⟩ : Addr).add j = ⟨b, off + j, none⟩ := fun j => by unfold Addr.add; split <;> simp_all
    obtain ⟨g0, g1, g2, g3, g4⟩ := hq i (by omega)
    rw [ea] at g0 g1 g2 g3
    exact ⟨g0, g1, g2, g3, g4⟩
end
end Go.Proofs.Ytdjgmhbfohbenaa
