/- Several texts in one: Val, Cut. -/
import Derived.Test.YtdjgmhbfohbenaaMOne
import Derived.Deep.Slices
import Derived.OpenShut
import Derived.Test.YtdjgmhbfohbenaaMLay
namespace Go.Proofs.Ytdjgmhbfohbenaa
open Go.RowKit
set_option linter.unusedVariables false
set_option linter.unusedSimpArgs false
/-- A slice that the call owns, its elements given as values, one cell each. -/
def OwnV (e : TypeId) (w : World) (v : Value) (xs : List Value) : Prop := w.ownsRow 0 e 1 v xs.length xs
theorem OwnV.nil (e : TypeId) (w : World) : OwnV e w (.slice none 0 0) [] := World.ownsRow_nil w 0 e 1
theorem OwnV.shape {e : TypeId} {w : World} {v : Value} {xs : List Value} (h : OwnV e w v xs) : ∃ a cap, v = .slice a xs.length cap ∧ xs.length ≤ cap ∧ cap ≤ maxLen ∧ (a = none → xs.length = 0 ∧ cap = 0) ∧ (0 < xs.length → ∃ g, a = some ⟨g, 0, none⟩) ∧ (∀ g, a = some ⟨g, 0, none⟩ → v.ownBlock = some g) := by
  obtain ⟨h1, h2⟩ := h
  rcases h2 with ⟨rfl, h0⟩ | ⟨g, cap, cur, rfl, -, hg, hn, hc, hcs, ht⟩
  · exact ⟨none, 0, by rw [h0], by omega, by simp [maxLen], fun _ => ⟨h0, rfl⟩, fun h => by omega, fun g h => by cases h⟩
  · exact ⟨some ⟨g, 0, none⟩, cap, rfl, hn, hc, (fun h => by cases h), fun _ => ⟨g, rfl⟩, fun g' h => by cases h; rfl⟩
theorem OwnV.at {e : TypeId} {w : World} {g n cap : Nat} {xs : List Value} (h : OwnV e w (.slice (some ⟨g, 0, none⟩) n cap) xs) :
    xs.length = n ∧ n ≤ cap ∧ g < w.heap.size ∧ (∀ j, j < n → w.cell? ⟨g, j, none⟩ = xs[j]?) ∧ ∀ j, w.frozen? ⟨g, j, none⟩ = false := by
  obtain ⟨h1, h2⟩ := h
  rcases h2 with ⟨h3, -⟩ | ⟨g', cap', cur, h3, -, hg, hn, hcm, hcs, ht⟩
  · cases h3
  · cases h3
    refine ⟨rfl, hn, lt_of_blk hg, fun j hj => ?_, fun j => blk_free hg j⟩
    rw [blk_cell hg]
    have h3 : (cur.toList.take (xs.length * 1))[j]? = xs[j]? := by rw [ht]
    rw [List.getElem?_take] at h3
    simp only [Nat.mul_one, hj, if_true, Array.getElem?_toList] at h3
    exact h3
theorem OwnV.kept {e : TypeId} {S : Nat → Prop} {w w' : World} {v : Value} {xs : List Value} (h : OwnV e w v xs) (hk : Kept S w w') (hn : ∀ b, v.ownBlock = some b → ¬ S b) : OwnV e w' v xs := by
  obtain ⟨h1, h2⟩ := h
  refine ⟨h1, ?_⟩
  rcases h2 with h2 | ⟨g, cap, cur, rfl, hb, hg, r⟩
  · exact .inl h2
  · exact .inr ⟨g, cap, cur, rfl, hb, hk.blk hg (hn g rfl), r⟩
theorem OwnV.lt {e : TypeId} {w : World} {v : Value} {xs : List Value} (h : OwnV e w v xs) : ∀ b, v.ownBlock = some b → b < w.heap.size := fun b hb => (World.ownsRow.lt h b hb).2
/-- A store into it. -/
theorem OwnV.set {e : TypeId} {w : World} {g n cap : Nat} {xs : List Value} (h : OwnV e w (.slice (some ⟨g, 0, none⟩) n cap) xs) (i : Nat) {x : Value} (hx : x.oneCell' = true) :
    OwnV e (w.setCell ⟨g, i, none⟩ x) (.slice (some ⟨g, 0, none⟩) n cap) (xs.set i x) := by
  have hxl := h.at.1
  obtain ⟨h1, h2⟩ := h
  rcases h2 with ⟨h3, -⟩ | ⟨g', cap', cur, h3, -, hg, hn, hcm, hcs, ht⟩
  · cases h3
  · cases h3
    refine ⟨by simp, .inr ⟨g, cap, cur.setIfInBounds i x, by simp, Nat.zero_le _, blk_set hg i _, by simpa using hn, hcm, by simpa using hcs, ?_⟩⟩
    rw [Array.toList_setIfInBounds, List.length_set, List.take_set, ht]
/-- APPEND of values onto a slice of the call's own. -/
theorem wpList_appV {P : Program} {w : World} {ops : Array Oper} {rest : List Oper} {o : Oper} {a : Act} {Q : Exit → Act → World → Prop} (hgd : o.guard = none) (s x : Operand) (t : TypeId)
    (ho : o.op = .call { callee := .builtin .append, args := #[s, x], argTypes := #[t, t] })
    (e : TypeId) (i : TypeInfo) (z : Value) (bytes : Nat) (ht : P.underlying t = some (.slice e)) (hi : P.info? e = some i) (hz : i.zero = some z)
    (hsize : i.size = 1) (hby : i.bytes = bytes) (hzs : z.cells.size = 1)
    (v : Value) (xs : List Value) (hs : a.eval s = v) (hown : OwnV e w v xs)
    (ad : Option Addr) (m c : Nat) (ys : List Value) (hx : a.eval x = .slice ad m c) (hnil : ad = none → m = 0 ∧ c = 0) (hl : ys.length = m) (h1 : ∀ u ∈ ys, u.oneCell' = true)
    (hsl : ∀ y, ad = some y → ∀ j u, ys[j]? = some u → w.cell? (y.add j) = some u)
    (hbytes : (xs.length + m) * bytes ≤ 140737488355328) (h63 : xs.length + m ≤ maxLen)
    (h : ∀ v' w', OwnV e w' v' (xs ++ ys) → Kept (fun k => v.ownBlock = some k) w w' → (v'.ownBlock = v.ownBlock ∨ v'.ownBlock = some w.heap.size) → wpList P ops Q rest (a.put o.dst v') w') : wpList P ops Q (o :: rest) a w := by
  refine wpList_app hgd s x t ho e i z 1 bytes ht hi hz hsize hby hzs (by omega) v xs.length _ hs hown ad m c ys hx hnil (by simp [hl]) hsl h1 h63 hbytes fun v' w' h1 h2 h3 => h v' w' ?_ h2 h3
  show World.ownsRow _ _ _ _ _ _ _
  rw [List.length_append, hl]
  exact h1
/-- The cells of a one-element literal. -/
theorem one_lit {w : World} {b : Nat} {x : Value} {t : TypeId} {f : Nat × Nat} (hb : w.heap[b]? = some (.cells #[x] t f)) : ∀ y, (some (⟨b, 0, none⟩ : Addr)) = some y → ∀ j u, [x][j]? = some u → w.cell? (y.add j) = some u := by
  intro y hy j u hu
  cases hy
  match j, hu with
  | 0, hu => cases hu; exact blk_cell hb 0
  | j + 1, hu => cases hu
/-- What 'x.f = append(x.f, ..)' leaves. -/
theorem appV_field {e T : TypeId} {w wa w5 : World} {p i : Nat} {C : Array Value} {v v5 : Value} {zs : List Value} {o : Option Nat} (hb : w.heap[p]? = some (.cells C T (0, 0))) (hvo : v.ownBlock = o) (hop : o ≠ some p)
    (hka : Kept (fun _ => False) w wa) (ho5 : OwnV e w5 v5 zs) (hk5 : Kept (fun k => v.ownBlock = some k) wa w5) (hpr5 : v5.ownBlock = v.ownBlock ∨ v5.ownBlock = some wa.heap.size) :
    (w5.setCell ⟨p, i, none⟩ v5).heap[p]? = some (.cells (C.setIfInBounds i v5) T (0, 0)) ∧ OwnV e (w5.setCell ⟨p, i, none⟩ v5) v5 zs ∧ v5.ownBlock ≠ some p ∧ Kept (fun j => j = p ∨ o = some j) w (w5.setCell ⟨p, i, none⟩ v5) ∧ (v5.ownBlock = o ∨ ∃ b, v5.ownBlock = some b ∧ w.heap.size ≤ b) := by
  have hpw : p < w.heap.size := lt_of_blk hb
  have hza := hka.size
  have hb5 : w5.heap[p]? = some (.cells C T (0, 0)) := hk5.blk (hka.blk hb id) (fun h => hop (by rw [← hvo]; exact h))
  have h5p : v5.ownBlock ≠ some p := by
    intro h
    rcases hpr5 with h2 | h2
    · exact hop (by rw [← hvo, ← h2, h])
    · rw [h] at h2; have h3 := Option.some.inj h2; omega
  have hk : Kept (fun j => j = p ∨ o = some j) w w5 := (hka.mono (fun _ _ h => h.elim)).then (hk5.mono (fun i _ hi => Or.inr (by rw [← hvo]; exact hi)))
  refine ⟨blk_set hb5 i v5, ho5.kept (S := (· = p)) ((Kept.refl (· = p) w5).setCell (p := ⟨p, i, none⟩) (.inl rfl) _) (fun b hb hbp => h5p (by rw [hb]; exact congrArg some hbp)), h5p, hk.setCell (p := ⟨p, i, none⟩) (.inl (.inl rfl)) _, ?_⟩
  rcases hpr5 with h | h
  · exact .inl (h.trans hvo)
  · exact .inr ⟨_, h, hza⟩
/-- Four numbers. -/
structure Q4 where
  a : Int
  b : Int
  c : Int
  d : Int
/-- A slice of arrays of four numbers as it comes in. -/
def IsQ (k : IntKind) (w : World) (a : Option Addr) (len : Nat) (Q : Nat → Q4) : Prop :=
  len = 0 ∨ ∃ b off, a = some ⟨b, off, none⟩ ∧ b < w.heap.size ∧ ∀ i, i < len → w.cell? ⟨b, off + i * 4, none⟩ = some (.int k (Q i).a) ∧ w.cell? ⟨b, off + (i * 4 + 1), none⟩ = some (.int k (Q i).b) ∧ w.cell? ⟨b, off + (i * 4 + 2), none⟩ = some (.int k (Q i).c) ∧ w.cell? ⟨b, off + (i * 4 + 3), none⟩ = some (.int k (Q i).d) ∧ (Lit.int k (Q i).a).wf = true ∧ (Lit.int k (Q i).b).wf = true ∧ (Lit.int k (Q i).c).wf = true ∧ (Lit.int k (Q i).d).wf = true
theorem IsQ.kept {k : IntKind} {w w' : World} {a : Option Addr} {len : Nat} {Q : Nat → Q4} (h : IsQ k w a len Q) (hk : Kept (fun _ => False) w w') : IsQ k w' a len Q := by
  refine h.imp (fun h => h) fun ⟨b, off, ha, hb, hc⟩ => ⟨b, off, ha, Nat.lt_of_lt_of_le hb hk.size, fun i hi => ?_⟩
  obtain ⟨h0, h1, h2, h3, hw⟩ := hc i hi
  exact ⟨hk.cell h0 id, hk.cell h1 id, hk.cell h2 id, hk.cell h3 id, hw⟩
section
open Go.ChangeShapes Go.WideShapes Go.ChangeAt Go.Joins Go.Deep
variable {H : Type} {enc : TypeId × Value → H} {P : Program} {W : World} {r : Reach} {b0 : Nat} {t e e1 : TypeId} {v : Value} {d : DataW H} {p : List MemPlace}
theorem o_arr4s {k : IntKind} (ht : P.underlying t = some (.slice e)) (he : P.underlying e = some (.array 4 e1)) (ce : P.cellsOf e = 4) (ce1 : P.cellsOf e1 = 1) (u1 : P.underlying e1 = some (.int k))
    (hv : Value.okWide P W r b0 t v) (h : DataW.Trod enc P W 0 (fun _ => true) true t v d p) :
    ∃ a len cap Q, v = .slice a len cap ∧ IsQ k W a len Q ∧ len ≤ cap ∧ cap ≤ maxLen := by
  obtain ⟨a0, len0, cap0, rfl⟩ := okWide_slice ht hv
  obtain ⟨fuel, hf⟩ := h
  rcases open_slice ht hf with ⟨hcs, -⟩ | ⟨x, len, cap, m, n, D, Pl, hcs, -, hl, hm, hmm, hx, hall⟩
  · simp [Value.cells] at hcs
    obtain ⟨rfl, rfl, rfl⟩ := hcs
    exact ⟨_, _, _, fun _ => ⟨0, 0, 0, 0⟩, rfl, .inl rfl, Nat.le_refl _, by simp [maxLen]⟩
  · simp [Value.cells] at hcs
    obtain ⟨rfl, rfl, rfl⟩ := hcs
    simp only [if_true] at hmm
    have each : ∀ i, i < m → ∃ q : Q4, W.cell? (x.add (i * 4)) = some (.int k q.a) ∧ W.cell? (x.add (i * 4 + 1)) = some (.int k q.b) ∧ W.cell? (x.add (i * 4 + 2)) = some (.int k q.c) ∧ W.cell? (x.add (i * 4 + 3)) = some (.int k q.d) ∧ (Lit.int k q.a).wf = true ∧ (Lit.int k q.b).wf = true ∧ (Lit.int k q.c).wf = true ∧ (Lit.int k q.d).wf = true := by
      intro i hi
      obtain ⟨cs', hc, ht'⟩ := hall i hi
      rw [ce] at hc
      obtain ⟨_, hcl, hat⟩ := World.cells?_some hc
      obtain ⟨xs, n', _, _, _, hlen, hel⟩ := DataW.trod_array he ht'
      have t0 := hel 0 (by omega)
      have t1 := hel 1 (by omega)
      have t2 := hel 2 (by omega)
      have t3 := hel 3 (by omega)
      rw [ce1] at t0 t1 t2 t3
      match cs', hcl with
      | [c0, c1, c2, c3], _ =>
        match xs, hlen with
        | [y0, y1, y2, y3], _ =>
          simp only [Nat.zero_mul, List.drop_zero, List.take_succ_cons, List.take_zero, Nat.one_mul, Nat.mul_one, List.drop_succ_cons, List.getElem?_cons_zero, List.getElem?_cons_succ] at t0 t1 t2 t3
          obtain ⟨z0, e0, -, w0⟩ := DataW.trod_int u1 t0
          obtain ⟨z1, e1, -, w1⟩ := DataW.trod_int u1 t1
          obtain ⟨z2, e2, -, w2⟩ := DataW.trod_int u1 t2
          obtain ⟨z3, e3, -, w3⟩ := DataW.trod_int u1 t3
          simp at e0 e1 e2 e3
          subst e0 e1 e2 e3
          have h0 := hat 0 (by omega)
          have h1 := hat 1 (by omega)
          have h2 := hat 2 (by omega)
          have h3 := hat 3 (by omega)
          rw [Go.Deep.add_add] at h0 h1 h2 h3
          exact ⟨⟨z0, z1, z2, z3⟩, by simpa using h0, by simpa using h1, by simpa using h2, by simpa using h3, w0, w1, w2, w3⟩
    obtain ⟨q, hq⟩ : ∃ q : Nat → Q4, ∀ i, i < m → W.cell? (x.add (i * 4)) = some (.int k (q i).a) ∧ W.cell? (x.add (i * 4 + 1)) = some (.int k (q i).b) ∧ W.cell? (x.add (i * 4 + 2)) = some (.int k (q i).c) ∧ W.cell? (x.add (i * 4 + 3)) = some (.int k (q i).d) ∧ (Lit.int k (q i).a).wf = true ∧ (Lit.int k (q i).b).wf = true ∧ (Lit.int k (q i).c).wf = true ∧ (Lit.int k (q i).d).wf = true := by
      refine ⟨fun i => if h : i < m then (each i h).choose else ⟨0, 0, 0, 0⟩, fun i hi => ?_⟩
      simp only [hi, dif_pos]
      exact (each i hi).choose_spec
    refine ⟨_, _, _, q, rfl, ?_, hl, hm⟩
    by_cases h0 : len0 = 0
    · exact .inl h0
    right
    obtain ⟨b, off, spot⟩ := x
    have h1 := (hq 0 (by omega)).1
    have hs : spot = none := by simpa [Addr.add] using World.cell?_spot h1
    subst hs
    refine ⟨b, off, rfl, lt_of_cell (by simpa [Addr.add] using h1), fun i hi => ?_⟩
    have ea : ∀ j, (⟨b, off, none⟩ : Addr).add j = ⟨b, off + j, none⟩ := fun j => by unfold Addr.add; split <;> simp_all
    obtain ⟨g0, g1, g2, g3, g4⟩ := hq i (by omega)
    rw [ea] at g0 g1 g2 g3
    exact ⟨g0, g1, g2, g3, g4⟩
end
end Go.Proofs.Ytdjgmhbfohbenaa
namespace Go.Proofs.Ytdjgmhbfohbenaa
open Go.RowKit Go.Sort
set_option linter.unusedVariables false
set_option linter.unusedSimpArgs false
/-- What is cut out: its sides, its bytes. -/
def cutM (W H : Nat) (x y cw ch : Int) (p : List Int) : Nat × Nat × List Int :=
  let x0 := (partS x cw W).1.toNat; let x1 := (partS x cw W).2.toNat; let y0 := (partS y ch H).1.toNat; let y1 := (partS y ch H).2.toNat
  if x1 ≤ x0 ∨ y1 ≤ y0 then (0, 0, []) else (x1 - x0, y1 - y0, tab (4 * ((x1 - x0) * (y1 - y0))) (cutF W x0 y0 (x1 - x0) p))
def CutInv (w : World) (T W H : Nat) (a : Option Addr) (n cap P9 C D : Nat) (L : List Int) (wr : World) : Prop :=
  ∃ v, Own .u8 5 wr v L ∧ Kept (fun _ => False) w wr ∧ wr.heap[w.heap.size]? = some (.cells #[.int .i64 W, .int .i64 H, .slice a n cap] T (0, 0)) ∧ wr.heap[w.heap.size + 1]? = some (.cells #[.int .i64 0, .int .i64 0, .slice none 0 0] T (0, 0)) ∧ wr.heap[P9]? = some (.cells #[.int .i64 C, .int .i64 D, v] T (0, 0)) ∧ w.heap.size + 2 ≤ P9 ∧ ∀ b, v.ownBlock = some b → w.heap.size + 2 ≤ b ∧ b ≠ P9
theorem row_at {w : World} {b off n : Nat} {p : List Int} (h : SlAt .u8 w (some ⟨b, off, none⟩) n p) (A m : Nat) (hA : A + m ≤ n) (h0 : 0 < m) : SlAt .u8 w (some ⟨b, off + A, none⟩) m (tab m (fun j => p.getD (A + j) 0)) := by
  refine ⟨tab_length _ _, .inr ⟨b, off + A, rfl, fun j hj => ?_⟩⟩
  obtain ⟨b', off', he, hc⟩ := h.2.resolve_left (by omega)
  cases he
  have h2 := hc (A + j) (by omega)
  rw [tab_get hj, Nat.add_assoc]
  exact h2

set_option maxRecDepth 100000 in
set_option maxHeartbeats 4000000 in
theorem cut_any (W H : Nat) (x y cw ch : Int) (p : List Int) (a : Option Addr) (n cap : Nat) (w : World) (hxx : I64 x) (hyy : I64 y) (hcw : I64 cw) (hch : I64 ch)
    (hr : rightM ⟨W, H, p⟩ = true) (hs : SlAt .u8 w a n p) (hn2 : n ≤ 16384) (hc : n ≤ cap) (hcm : cap ≤ 9223372036854775807) :
    Calls Try.prog 30 #[.agg #[.int .i64 W, .int .i64 H, .slice a n cap], .int .i64 x, .int .i64 y, .int .i64 cw, .int .i64 ch] w fun e w' => ∃ v, e = .returned (.agg #[.int .i64 (cutM W H x y cw ch p).1, .int .i64 (cutM W H x y cw ch p).2.1, v]) ∧ Made w (cutM W H x y cw ch p).2.2 v w' := by
  have hr2 := hr
  unfold rightM at hr2
  rw [Bool.and_eq_true] at hr2
  have hsz : sizeB W H = true := hr2.1
  have h4 : (p.length : Int) = 4 * (W : Int) * (H : Int) := of_decide_eq_true hr2.2
  obtain ⟨z1, z2, z3, z4, -⟩ := sizeB_t hsz
  have hpl := hs.1
  have bx := partS_bd x cw W (by omega)
  have by' := partS_bd y ch H (by omega)
  obtain ⟨x0, hx0⟩ : ∃ k : Nat, (partS x cw W).1 = (k : Int) := ⟨_, Int.eq_ofNat_of_zero_le bx.1 |>.choose_spec⟩
  obtain ⟨x1, hx1⟩ : ∃ k : Nat, (partS x cw W).2 = (k : Int) := ⟨_, Int.eq_ofNat_of_zero_le bx.2.2.1 |>.choose_spec⟩
  obtain ⟨y0, hy0⟩ : ∃ k : Nat, (partS y ch H).1 = (k : Int) := ⟨_, Int.eq_ofNat_of_zero_le by'.1 |>.choose_spec⟩
  obtain ⟨y1, hy1⟩ : ∃ k : Nat, (partS y ch H).2 = (k : Int) := ⟨_, Int.eq_ofNat_of_zero_le by'.2.2.1 |>.choose_spec⟩
  have HSX := Lib.hid (fun w => show Calls Try.prog 62 #[.int .i64 x, .int .i64 cw, .int .i64 W] w fun e w' => e = .returned (.tuple #[.int .i64 x0, .int .i64 x1]) ∧ w = w' from by rw [← hx0, ← hx1]; exact part_any x cw W w hxx hcw (by omega))
  have HSY := Lib.hid (fun w => show Calls Try.prog 62 #[.int .i64 y, .int .i64 ch, .int .i64 H] w fun e w' => e = .returned (.tuple #[.int .i64 y0, .int .i64 y1]) ∧ w = w' from by rw [← hy0, ← hy1]; exact part_any y ch H w hyy hch (by omega))
  have hx1W : x1 ≤ W := by have := bx.2.1; omega
  have hy1H : y1 ≤ H := by have := by'.2.1; omega
  have hx0W : x0 ≤ W := by have := bx.2.2.2; omega
  have hy0H : y0 ≤ H := by have := by'.2.2.2; omega
  have HR := Lib.hid (fun w => show Calls Try.prog 63 #[.agg #[.int .i64 W, .int .i64 H, .slice a n cap]] w fun e w' => e = .returned (.bool true) ∧ Kept (fun _ => False) w w' from by
    rw [← hr]; exact right_any ⟨W, H, p⟩ a n cap w (by unfold I64; simp only; omega) (by unfold I64; simp only; omega) hpl (by omega))
  obtain ⟨U, hU⟩ : ∃ V, (w.alloc (.cells #[.int .i64 W, .int .i64 H, .slice a n cap] 31)).alloc (.cells #[.int .i64 0, .int .i64 0, .slice none 0 0] 31) = V := ⟨_, rfl⟩
  have kU : Kept (fun _ => False) w U := by rw [← hU]; exact ((Kept.refl _ w).alloc _).alloc _
  have HB0 := Lib.hid (show U.heap[w.heap.size]? = some (.cells #[.int .i64 W, .int .i64 H, .slice a n cap] 31 (0, 0)) by rw [← hU]; exact blk_alloc (blk_new _ _) _)
  have HB1 := Lib.hid (show U.heap[w.heap.size + 1]? = some (.cells #[.int .i64 0, .int .i64 0, .slice none 0 0] 31 (0, 0)) by rw [← hU]; exact blk_at _ _ (by simp))
  have sU : w.heap.size + 2 ≤ U.heap.size := by rw [← hU]; simp
  have HK := Lib.hid kU
  obtain ⟨⟨a0, -⟩, ⟨a1, -⟩, a2, -⟩ := blk3 HB0.out
  by_cases hno : x1 ≤ x0 ∨ y1 ≤ y0
  · have hE : cutM W H x y cw ch p = (0, 0, []) := by unfold cutM; simp only; rw [if_pos]; rw [hx0, hx1, hy0, hy1]; simpa using hno
    rw [hE]
    obtain ⟨V1, V2, V3, f1, f2, f3, ⟨g0, g0'⟩, ⟨g1, g1'⟩, ⟨g2, g2'⟩, bV, kV3⟩ := store3 HB1.out (.int .i64 0) (.int .i64 0) (.slice none 0 0)
    obtain ⟨⟨m0, -⟩, ⟨m1, -⟩, m2, -⟩ := blk3 bV
    have HK3 := Lib.hid (HK.out.trans (kV3.mono fun i _ hi => Or.inr (by have h9 : i = w.heap.size + 1 := hi; omega)))
    have HR1 := HR
    clear bx by' hx0 hx1 hy0 hy1 hr hr2 hsz h4 hpl hs kU bV kV3 hE HR
    by_cases hx : x1 ≤ x0
    · have gx : decide (x1 ≤ x0) = true := decide_eq_true hx
      clear hno
      go_enter Try.func30, Try.ntmps30
      go_wp2_with (go_at_call 62; first | ((with_reducible refine (HSX.out _).mono ?_); rintro e w' ⟨rfl, rfl⟩) | ((with_reducible refine (HSY.out _).mono ?_); rintro e w' ⟨rfl, rfl⟩))
      exact bodyPost_ret (v := .agg #[.int .i64 0, .int .i64 0, .slice none 0 0]) (by simp [results, Try.results30, go_sem, m0, m1, m2]) rfl ⟨_, rfl, Own.nil _ _ _, HK3.out, fun b hb => by cases hb⟩
    · have gx : decide (x1 ≤ x0) = false := decide_eq_false hx
      have gy : decide (y1 ≤ y0) = true := decide_eq_true (by omega)
      clear hno
      go_enter Try.func30, Try.ntmps30
      go_wp2_with (go_at_call 62; first | ((with_reducible refine (HSX.out _).mono ?_); rintro e w' ⟨rfl, rfl⟩) | ((with_reducible refine (HSY.out _).mono ?_); rintro e w' ⟨rfl, rfl⟩))
      exact bodyPost_ret (v := .agg #[.int .i64 0, .int .i64 0, .slice none 0 0]) (by simp [results, Try.results30, go_sem, m0, m1, m2]) rfl ⟨_, rfl, Own.nil _ _ _, HK3.out, fun b hb => by cases hb⟩
  have gx : decide (x1 ≤ x0) = false := decide_eq_false (by omega)
  have gy : decide (y1 ≤ y0) = false := decide_eq_false (by omega)
  have hE : cutM W H x y cw ch p = (x1 - x0, y1 - y0, tab (4 * ((x1 - x0) * (y1 - y0))) (cutF W x0 y0 (x1 - x0) p)) := by unfold cutM; simp only; rw [if_neg]; rw [hx0, hx1, hy0, hy1]; simp; rw [hx0, hx1, hy0, hy1]; simpa using hno
  rw [hE]
  simp only
  obtain ⟨C, hC⟩ : ∃ C, x1 - x0 = C := ⟨_, rfl⟩
  obtain ⟨D, hD⟩ : ∃ D, y1 - y0 = D := ⟨_, rfl⟩
  have eC : (x1 : Int) - (x0 : Int) = (C : Int) := by omega
  have eD : (y1 : Int) - (y0 : Int) = (D : Int) := by omega
  rw [hC, hD]
  have hxlt : x0 < x1 := by omega
  have hN : n = 4 * (W * H) := by rw [Int.mul_assoc, show (W : Int) * (H : Int) = ((W * H : Nat) : Int) by simp] at h4; omega
  have HN := Lib.hid hN
  obtain ⟨b, off, rfl, -⟩ := hs.2.resolve_left (by have := fit_idx (W := W) (H := H) (x := x0) (y := y0) (by omega) (by omega); omega)
  have HS := Lib.hid hs
  clear bx by' hx0 hx1 hy0 hy1 hr hr2 hsz h4 hpl hs kU hE hN
  go_enter Try.func30, Try.ntmps30
  go_wp2_with (first | (go_at_call 62; first | ((with_reducible refine (HSX.out _).mono ?_); rintro e w' ⟨rfl, rfl⟩) | ((with_reducible refine (HSY.out _).mono ?_); rintro e w' ⟨rfl, rfl⟩)))
  refine (HR.out _).mono ?_; rintro e w1 ⟨rfl, hk⟩
  obtain ⟨P9, hP9⟩ : ∃ P, w1.heap.size = P := ⟨_, rfl⟩
  have hP9l : w.heap.size + 2 ≤ P9 := by have := hk.size; omega
  obtain ⟨X, hX⟩ : ∃ X, w1.alloc (.cells #[.int .i64 0, .int .i64 0, .slice none 0 0] 31) = X := ⟨_, rfl⟩
  have kX : Kept (fun _ => False) w1 X := by rw [← hX]; exact (Kept.refl _ _).alloc _
  have bX : X.heap[P9]? = some (.cells #[.int .i64 0, .int .i64 0, .slice none 0 0] 31 (0, 0)) := by rw [← hX]; exact blk_at _ _ hP9.symm
  obtain ⟨V1, V2, V3, f1, f2, f3, ⟨g0, g0'⟩, ⟨g1, g1'⟩, ⟨g2, g2'⟩, bV, kV3⟩ := store3 bX (.int .i64 C) (.int .i64 D) (.slice none 0 0)
  have HINV := Lib.hid (show CutInv w 31 W H (some ⟨b, off, none⟩) n cap P9 C D (tab (4 * C * (y0 - y0)) (cutF W x0 y0 C p)) V3 from ⟨_, by rw [Nat.sub_self, Nat.mul_zero]; exact Own.nil _ _ _, ((HK.out.then hk).then kX).trans (kV3.mono fun i _ hi => Or.inr (by have h9 : i = P9 := hi; omega)), kV3.blk (kX.blk (hk.blk HB0.out id) id) (fun (h : w.heap.size = P9) => by omega), kV3.blk (kX.blk (hk.blk HB1.out id) id) (fun (h : w.heap.size + 1 = P9) => by omega), bV, hP9l, fun b hb => by cases hb⟩)
  clear hk kX bX bV kV3 a0 a1 a2
  go_wp2
  go_loopg [16] y1 (fun gg yv wr => ∃ Y : Nat, y0 ≤ Y ∧ y1 ≤ gg + Y ∧ Y ≤ y1 ∧ yv = .int .i64 Y ∧ CutInv w 31 W H (some ⟨b, off, none⟩) n cap P9 C D (tab (4 * C * (Y - y0)) (cutF W x0 y0 C p)) wr)
  case atStart => exact ⟨y0, by omega, by omega, by omega, rfl, HINV.out⟩
  case round =>
    obtain ⟨Y, hY0, hgg, hYH, rfl, v, ho, hk, hb0, hb1, hb9, hP9l, hf⟩ := hrel
    by_cases hY1 : Y < y1
    · have gy : decide (Y < y1) = true := decide_eq_true hY1
      obtain ⟨i0, hi, hz0, hz1, hz2⟩ := info_parts Try.info5
      have HI := Lib.hid (And.intro hi (And.intro hz0 (And.intro hz1 hz2)))
      clear hi hz0 hz1 hz2
      have yWb : Y * W ≤ 16384 * 16384 := Nat.mul_le_mul (by omega) (by omega)
      have hPn := fit_idx (W := W) (H := H) (x := x1 - 1) (y := Y) (by omega) (by omega)
      have hn4 : 4 * (Y * W + x1) ≤ n := by have := HN.out; omega
      have hll : 4 * C * (Y - y0) ≤ 16384 := by
        have h1 : C * (Y - y0) ≤ W * H := Nat.mul_le_mul (by omega) (by omega)
        have := HN.out
        rw [Nat.mul_assoc]; omega
      obtain ⟨q, hq⟩ : ∃ q, Y * W = q := ⟨_, rfl⟩
      have v5 : (Y : Int) * (W : Int) = (q : Int) := by rw [← hq]; simp
      rw [hq] at hn4 yWb
      obtain ⟨av, cv, rfl, -⟩ := ho.shape
      rw [tab_length] at ho hb9 hf
      obtain ⟨m, hm⟩ : ∃ m, 4 * C * (Y - y0) = m := ⟨_, rfl⟩
      have HM := Lib.hid hm
      rw [hm] at ho hb9 hf hll
      have HROW := Lib.hid (show tab m (cutF W x0 y0 C p) ++ tab (4 * C) (fun j => p.getD (4 * (q + x0) + j) 0) = tab (4 * C * (Y + 1 - y0)) (cutF W x0 y0 C p) by
        rw [show 4 * C * (Y + 1 - y0) = m + 4 * C by rw [← hm, show Y + 1 - y0 = (Y - y0) + 1 by omega, Nat.mul_add, Nat.mul_one]]
        refine tab_app (tab_length _ _) (fun j hj => ?_)
        rw [tab_get hj, ← hm, cut_row hj, ← hq, show Y - y0 + y0 = Y by omega])
      have HSR := Lib.hid (fun (V : World) (hk : Kept (fun _ => False) w V) => show SlAt .u8 V (some ⟨b, off + 4 * (q + x0), none⟩) (4 * C) _ from row_at (HS.out.up hk) (4 * (q + x0)) (4 * C) (by omega) (by omega))
      have HO := Lib.hid ho
      have HKr := Lib.hid hk
      have HB9 := Lib.hid hb9
      have HB0' := Lib.hid hb0
      have HB1' := Lib.hid hb1
      have HF := Lib.hid hf
      obtain ⟨⟨a0, -⟩, ⟨a1, -⟩, a2, -⟩ := blk3 hb0
      obtain ⟨⟨c0, -⟩, ⟨c1, -⟩, c2, c2'⟩ := blk3 hb9
      clear ho hk hb0 hb1 hb9 hf hPn hq hm hno
      have w1' : IntKind.i64.wrap (q : Int) = (q : Int) := IntWalk.i64_in _ (by omega)
      have w2' : IntKind.i64.wrap ((q : Int) + (x0 : Int)) = (q : Int) + (x0 : Int) := IntWalk.i64_in _ (by omega)
      have w3' : IntKind.i64.wrap (4 * ((q : Int) + (x0 : Int))) = 4 * ((q : Int) + (x0 : Int)) := IntWalk.i64_in _ (by omega)
      have w4' : IntKind.i64.wrap ((q : Int) + (x1 : Int)) = (q : Int) + (x1 : Int) := IntWalk.i64_in _ (by omega)
      have w5' : IntKind.i64.wrap (4 * ((q : Int) + (x1 : Int))) = 4 * ((q : Int) + (x1 : Int)) := IntWalk.i64_in _ (by omega)
      have l1 : 0 ≤ 4 * ((q : Int) + (x0 : Int)) := by omega
      have l2 : 4 * ((q : Int) + (x0 : Int)) ≤ 4 * ((q : Int) + (x1 : Int)) := by omega
      have l3 : 4 * ((q : Int) + (x1 : Int)) ≤ (cap : Int) := by omega
      have l4 : 0 ≤ 4 * ((q : Int) + (x1 : Int)) := by omega
      have l5 : x0 ≤ x1 := by omega
      have t1 : (4 * ((q : Int) + (x0 : Int))).toNat = 4 * (q + x0) := by omega
      have t2 : (4 * ((q : Int) + (x1 : Int))).toNat = 4 * (q + x1) := by omega
      have e4 : 4 * (q + x1) - 4 * (q + x0) = 4 * C := by omega
      have hcap : ¬ (cap = 4 * (q + x0)) := by omega
      go_wp2
      go_still_tail 19, (by kernel_rfl)
      clear l1 l2 l3 l4 l5 t1 t2 w1' w2' w3' w4' w5' a0 a1 a2 c0 c1 c2 c2'
      change wpList _ _ _ _ _ wr.drew
      refine wpList_appInts rfl (.tmp 61) (.tmp 78) 29 rfl 5 .u8 i0 (.int .u8 0) 1 Try.underlying29 HI.out.1 HI.out.2.1 HI.out.2.2.1 HI.out.2.2.2 rfl (.slice av m cv) _ rfl (HO.out.kept (Kept.refl (fun _ => False) wr).drew (fun _ _ => id)) (some ⟨b, off + 4 * (q + x0), none⟩) (4 * C) _ _ rfl (fun h => by cases h) (HSR.out _ HKr.out.drew) (by rw [tab_length]; omega) (by rw [tab_length]; simp [maxLen]; omega) ?_
      intro v5' w5 ho5 hk5 hpr5
      obtain ⟨a5, cap5, hv5, -⟩ := ho5.shape
      rw [HROW.out, tab_length] at hv5
      subst hv5
      obtain ⟨r1, r2, r3, r4, r5⟩ := app_field (i := 2) HB9.out rfl (fun h => (HF.out P9 h).2 rfl) (Kept.refl (fun _ => False) wr).drew ho5 hk5 hpr5
      rw [HROW.out] at r2
      have hb5 : w5.heap[P9]? = some (.cells #[.int .i64 C, .int .i64 D, .slice av m cv] 31 (0, 0)) := hk5.blk (show wr.drew.heap[P9]? = _ from HB9.out) (fun h => (HF.out P9 h).2 rfl)
      obtain ⟨⟨c0, -⟩, ⟨c1, -⟩, c2, c2'⟩ := blk3 hb5
      obtain ⟨V, hV⟩ : ∃ V, w5.setCell ⟨P9, 2, none⟩ (.slice a5 (4 * C * (Y + 1 - y0)) cap5) = V := ⟨_, rfl⟩
      rw [hV] at r1 r2 r4
      have hwr := (lt_of_blk HB9.out)
      have hw2 := HKr.out.size
      have HINV2 := Lib.hid (show CutInv w 31 W H (some ⟨b, off, none⟩) n cap P9 C D (tab (4 * C * (Y + 1 - y0)) (cutF W x0 y0 C p)) V from ⟨_, r2, HKr.out.trans (r4.mono fun i _ hi => Or.inr (hi.elim (fun h => by omega) (fun h => by have := (HF.out i h).1; omega))), r4.blk HB0'.out (fun h => h.elim (fun h => by omega) (fun h => by have := (HF.out _ h).1; omega)), r4.blk HB1'.out (fun h => h.elim (fun h => by omega) (fun h => by have := (HF.out _ h).1; omega)), by simpa using r1, hP9l, fun b hb => by
        rcases r5 with h | ⟨b', h, h2⟩
        · exact HF.out b (by rw [← h, hb])
        · rw [hb] at h; cases h; omega⟩)
      clear ho5 hk5 hpr5 r1 r2 r3 r4 r5 hb5
      go_wp2
      go_roundg (gk - 1)
      case rel => exact ⟨Y + 1, by omega, by omega, by omega, by go_num, HINV2.out⟩
      case measure => omega
    · have gy : decide (Y < y1) = false := decide_eq_false hY1
      obtain rfl : Y = y1 := by omega
      rw [hD] at ho
      obtain ⟨av, cv, rfl, -⟩ := ho.shape
      rw [tab_length] at ho hb9 hf
      obtain ⟨⟨c0, -⟩, ⟨c1, -⟩, c2, -⟩ := blk3 hb9
      obtain ⟨V1, V2, V3, f1, f2, f3, ⟨g0, g0'⟩, ⟨g1, g1'⟩, ⟨g2, g2'⟩, bV, kV3⟩ := store3 hb1 (.int .i64 C) (.int .i64 D) (.slice av (4 * C * D) cv)
      obtain ⟨⟨m0, -⟩, ⟨m1, -⟩, m2, -⟩ := blk3 bV
      have HO := Lib.hid ((ho.kept kV3 (fun b hb (hS : b = w.heap.size + 1) => by have := (hf b hb).1; omega)).retag (show tab (4 * (C * D)) (cutF W x0 y0 C p) = _ by rw [Nat.mul_assoc]))
      have HK := Lib.hid (hk.trans (kV3.mono fun i _ hi => Or.inr (by have h9 : i = w.heap.size + 1 := hi; omega)))
      have HF := Lib.hid hf
      clear ho hk hb0 hb1 hb9 hf bV kV3
      go_wp2
      exact bodyPost_ret (v := .agg #[.int .i64 C, .int .i64 D, .slice av (4 * C * D) cv]) (by simp [results, Try.results30, go_sem, m0, m1, m2]) rfl ⟨_, rfl, HO.out, HK.out, fun b hb => by have := (HF.out b hb).1; omega⟩


end Go.Proofs.Ytdjgmhbfohbenaa
