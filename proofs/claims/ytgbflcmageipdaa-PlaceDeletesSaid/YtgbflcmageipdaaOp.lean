/- Places, an ask, a view as they come in. -/
import Derived.Test.YtgbflcmageipdaaOpen
import Derived.Test.YtgbflcmageipdaaMay
import Derived.Deep.Slices
import Derived.Deep.Fields
import Derived.ChangeSame
namespace Go.Proofs.Ytgbflcmageipdaa
open Go.RowKit Go.ChangeShapes Go.WideShapes Go.ChangeAt Go.Joins Go.Deep
set_option linter.unusedVariables false
set_option linter.unusedSimpArgs false
section
variable {H : Type} {enc : TypeId × Value → H} {P : Program} {w : World} {base : Nat} {spare : Nat → Bool} {held : Bool}
theorem open_slice_fields {t e : TypeId} {fs : Array Field} {fuel : Nat} {cs : List Value} {x : DataW H × List MemPlace} (ht : P.underlying t = some (.slice e)) (he : P.underlying e = some (.struct fs))
    (hone : oneCellFields P fs = true) (hC : P.cellsOf e = fs.size) (h : DataW.trod enc P w base spare held fuel t cs = some x) :
    (cs = [.slice none 0 0] ∧ x = (.nil, [])) ∨
    ∃ (a : Addr) (len cap m : Nat) (D : Nat → DataW H) (Pl : Nat → List MemPlace), cs = [.slice (some a) len cap] ∧ base ≤ a.block ∧ len ≤ cap ∧ cap ≤ maxLen ∧ m = (if spare a.block then cap else len) ∧
      x = (.slice ((List.range len).map D) ((List.range (m - len)).map fun j => D (len + j)), MemPlace.row a (m * fs.size) ++ (List.range m).flatMap Pl) ∧
      ∀ i, i < m → ∃ (ys : List (DataW H × List MemPlace)) (n : Nat), D i = .agg (ys.map (·.1)) ∧ Pl i = ys.flatMap (·.2) ∧ ys.length = fs.size ∧
        ∀ (j : Nat) (f : Field), fs[j]? = some f → ∃ (v : Value) (y : DataW H × List MemPlace), w.cell? (a.add (i * fs.size + j)) = some v ∧ ys[j]? = some y ∧ DataW.trod enc P w base spare held n f.type [v] = some y := by
  rcases open_slice ht h with h0 | ⟨a, len, cap, m, n, D, Pl, hcs, hb, hl, hm, hmm, hx, hi⟩
  · exact .inl h0
  · refine .inr ⟨a, len, cap, m, D, Pl, hcs, hb, hl, hm, hmm, by rw [hC] at hx; exact hx, fun i him => ?_⟩
    obtain ⟨cs', hc, ht'⟩ := hi i him
    rw [hC] at hc
    obtain ⟨ys, n', hn', hy, hlen, hyl, hf⟩ := DataW.trod_struct he ht'
    obtain ⟨_, hcl, hat⟩ := World.cells?_some hc
    simp only [Prod.mk.injEq] at hy
    refine ⟨ys, n', hy.1, hy.2, hyl, fun j f hj => ?_⟩
    obtain ⟨ho, hk⟩ := hone_of hone j f hj
    have hjl : j < fs.size := (Array.getElem?_eq_some_iff.1 hj).1
    have hcell := hat j hjl
    have hv : cs'[j]? = some (cs'[j]'(by omega)) := List.getElem?_eq_getElem (by omega)
    have h1 := hf j f hj
    rw [ho, hk] at h1
    have hone' : (cs'.drop j).take 1 = [cs'[j]'(by omega)] := by
      rw [List.drop_eq_getElem_cons (by omega)]
      rfl
    rw [hone'] at h1
    have hys : ys[j]? = some (ys[j]'(by omega)) := List.getElem?_eq_getElem (by omega)
    refine ⟨_, _, ?_, hys, h1.trans hys⟩
    rw [← Go.Deep.add_add, hcell, hv]
end
section
variable {H : Type} {enc : TypeId × Value → H} {P : Program} {W : World} {r : Reach} {b0 : Nat} {t e : TypeId} {v : Value} {d : DataW H} {p : List MemPlace}
theorem o_places {f0 f1 f2 f3 f4 f5 f6 f7 f8 f9 f10 f11 f12 f13 : Field} (ht : P.underlying t = some (.slice e)) (he : P.underlying e = some (.struct #[f0, f1, f2, f3, f4, f5, f6, f7, f8, f9, f10, f11, f12, f13])) (hone : oneCellFields P #[f0, f1, f2, f3, f4, f5, f6, f7, f8, f9, f10, f11, f12, f13] = true) (ce : P.cellsOf e = 14)
    (u0 : P.underlying f0.type = some (.int .i64))
    (u1 : P.underlying f1.type = some (.int .i64))
    (u2 : P.underlying f2.type = some .bool)
    (u3 : P.underlying f3.type = some (.int .i64))
    (u4 : P.underlying f4.type = some (.int .i64))
    (u5 : P.underlying f5.type = some (.int .i64))
    (u6 : P.underlying f6.type = some (.int .i64))
    (u7 : P.underlying f7.type = some (.int .i64))
    (u8 : P.underlying f8.type = some (.int .i64))
    (u9 : P.underlying f9.type = some (.int .i64))
    (u10 : P.underlying f10.type = some (.int .i64))
    (u11 : P.underlying f11.type = some (.int .i64))
    (u12 : P.underlying f12.type = some (.int .i64))
    (u13 : P.underlying f13.type = some (.int .i64))
    (hv : Value.okWide P W r b0 t v) (h : DataW.Trod enc P W 0 (fun _ => true) true t v d p) :
    ∃ a len cap M, v = .slice a len cap ∧ SlP W a len M ∧ ∀ b off, 0 < len → a = some ⟨b, off, none⟩ → b < W.heap.size := by
  obtain ⟨a0, len0, cap0, rfl⟩ := okWide_slice ht hv
  obtain ⟨fuel, hf⟩ := h
  rcases open_slice_fields ht he hone ce hf with ⟨hcs, -⟩ | ⟨x, len, cap, m, D, Pls, hcs, -, hl, hm, hmm, -, hall⟩
  · simp [Value.cells] at hcs
    obtain ⟨rfl, rfl, rfl⟩ := hcs
    exact ⟨_, _, _, [], rfl, ⟨rfl, .inl rfl⟩, fun _ _ h => absurd h (by omega)⟩
  · simp [Value.cells] at hcs
    obtain ⟨rfl, rfl, rfl⟩ := hcs
    simp only [if_true] at hmm
    have each : ∀ i, i < m → ∃ q : Pl, W.cell? (x.add (i * 14)) = some (.int .i64 q.im) ∧ W.cell? (x.add (i * 14 + 1)) = some (.int .i64 q.id) ∧ W.cell? (x.add (i * 14 + 2)) = some (.bool q.alt) ∧ W.cell? (x.add (i * 14 + 3)) = some (.int .i64 q.line) ∧ W.cell? (x.add (i * 14 + 4)) = some (.int .i64 q.col) ∧ W.cell? (x.add (i * 14 + 5)) = some (.int .i64 q.rows) ∧ W.cell? (x.add (i * 14 + 6)) = some (.int .i64 q.cols) ∧ W.cell? (x.add (i * 14 + 7)) = some (.int .i64 q.x) ∧ W.cell? (x.add (i * 14 + 8)) = some (.int .i64 q.y) ∧ W.cell? (x.add (i * 14 + 9)) = some (.int .i64 q.w) ∧ W.cell? (x.add (i * 14 + 10)) = some (.int .i64 q.h) ∧ W.cell? (x.add (i * 14 + 11)) = some (.int .i64 q.dx) ∧ W.cell? (x.add (i * 14 + 12)) = some (.int .i64 q.dy) ∧ W.cell? (x.add (i * 14 + 13)) = some (.int .i64 q.z) := by
      intro i hi
      obtain ⟨ys, n, -, -, -, hfs⟩ := hall i hi
      obtain ⟨v0, y0, c0, -, t0⟩ := hfs 0 f0 rfl
      obtain ⟨v1, y1, c1, -, t1⟩ := hfs 1 f1 rfl
      obtain ⟨v2, y2, c2, -, t2⟩ := hfs 2 f2 rfl
      obtain ⟨v3, y3, c3, -, t3⟩ := hfs 3 f3 rfl
      obtain ⟨v4, y4, c4, -, t4⟩ := hfs 4 f4 rfl
      obtain ⟨v5, y5, c5, -, t5⟩ := hfs 5 f5 rfl
      obtain ⟨v6, y6, c6, -, t6⟩ := hfs 6 f6 rfl
      obtain ⟨v7, y7, c7, -, t7⟩ := hfs 7 f7 rfl
      obtain ⟨v8, y8, c8, -, t8⟩ := hfs 8 f8 rfl
      obtain ⟨v9, y9, c9, -, t9⟩ := hfs 9 f9 rfl
      obtain ⟨v10, y10, c10, -, t10⟩ := hfs 10 f10 rfl
      obtain ⟨v11, y11, c11, -, t11⟩ := hfs 11 f11 rfl
      obtain ⟨v12, y12, c12, -, t12⟩ := hfs 12 f12 rfl
      obtain ⟨v13, y13, c13, -, t13⟩ := hfs 13 f13 rfl
      obtain ⟨z0, e0, -, w0⟩ := DataW.trod_int u0 t0
      obtain ⟨z1, e1, -, w1⟩ := DataW.trod_int u1 t1
      obtain ⟨z2, e2, -⟩ := DataW.trod_bool u2 t2
      obtain ⟨z3, e3, -, w3⟩ := DataW.trod_int u3 t3
      obtain ⟨z4, e4, -, w4⟩ := DataW.trod_int u4 t4
      obtain ⟨z5, e5, -, w5⟩ := DataW.trod_int u5 t5
      obtain ⟨z6, e6, -, w6⟩ := DataW.trod_int u6 t6
      obtain ⟨z7, e7, -, w7⟩ := DataW.trod_int u7 t7
      obtain ⟨z8, e8, -, w8⟩ := DataW.trod_int u8 t8
      obtain ⟨z9, e9, -, w9⟩ := DataW.trod_int u9 t9
      obtain ⟨z10, e10, -, w10⟩ := DataW.trod_int u10 t10
      obtain ⟨z11, e11, -, w11⟩ := DataW.trod_int u11 t11
      obtain ⟨z12, e12, -, w12⟩ := DataW.trod_int u12 t12
      obtain ⟨z13, e13, -, w13⟩ := DataW.trod_int u13 t13
      simp at e0 e1 e2 e3 e4 e5 e6 e7 e8 e9 e10 e11 e12 e13
      subst e0 e1 e2 e3 e4 e5 e6 e7 e8 e9 e10 e11 e12 e13
      exact ⟨⟨z0, z1, z2, z3, z4, z5, z6, z7, z8, z9, z10, z11, z12, z13⟩, by simpa using c0, by simpa using c1, by simpa using c2, by simpa using c3, by simpa using c4, by simpa using c5, by simpa using c6, by simpa using c7, by simpa using c8, by simpa using c9, by simpa using c10, by simpa using c11, by simpa using c12, by simpa using c13⟩
    obtain ⟨q, hq⟩ : ∃ q : Nat → Pl, ∀ i, i < m → W.cell? (x.add (i * 14)) = some (.int .i64 (q i).im) ∧ W.cell? (x.add (i * 14 + 1)) = some (.int .i64 (q i).id) ∧ W.cell? (x.add (i * 14 + 2)) = some (.bool (q i).alt) ∧ W.cell? (x.add (i * 14 + 3)) = some (.int .i64 (q i).line) ∧ W.cell? (x.add (i * 14 + 4)) = some (.int .i64 (q i).col) ∧ W.cell? (x.add (i * 14 + 5)) = some (.int .i64 (q i).rows) ∧ W.cell? (x.add (i * 14 + 6)) = some (.int .i64 (q i).cols) ∧ W.cell? (x.add (i * 14 + 7)) = some (.int .i64 (q i).x) ∧ W.cell? (x.add (i * 14 + 8)) = some (.int .i64 (q i).y) ∧ W.cell? (x.add (i * 14 + 9)) = some (.int .i64 (q i).w) ∧ W.cell? (x.add (i * 14 + 10)) = some (.int .i64 (q i).h) ∧ W.cell? (x.add (i * 14 + 11)) = some (.int .i64 (q i).dx) ∧ W.cell? (x.add (i * 14 + 12)) = some (.int .i64 (q i).dy) ∧ W.cell? (x.add (i * 14 + 13)) = some (.int .i64 (q i).z) := by
      refine ⟨fun i => if h : i < m then (each i h).choose else ⟨0, 0, false, 0, 0, 0, 0, 0, 0, 0, 0, 0, 0, 0⟩, fun i hi => ?_⟩
      simp only [hi, dif_pos]
      exact (each i hi).choose_spec
    by_cases h0 : len0 = 0
    · exact ⟨_, _, _, (List.range len0).map q, rfl, ⟨by simp, .inl h0⟩, fun _ _ h => absurd h (by omega)⟩
    obtain ⟨b, off, spot⟩ := x
    have h1 := (hq 0 (by omega)).1
    have hs : spot = none := by simpa [Addr.add] using World.cell?_spot h1
    subst hs
    have ea : ∀ j, (⟨b, off, none⟩ : Addr).add j = ⟨b, off + j, none⟩ := fun j => by unfold Addr.add; split <;> simp_all
    have hlt : b < W.heap.size := lt_of_cell (by simpa [Addr.add] using h1)
    refine ⟨_, _, _, (List.range len0).map q, rfl, ⟨by simp, .inr ⟨b, off, rfl, fun j p hp f hf => ?_⟩⟩, fun b' off' _ h => by cases h; exact hlt⟩
    have hj : j < len0 := by have h2 := (List.getElem?_eq_some_iff.1 hp).1; simpa using h2
    have hpq : p = q j := by simp [hj] at hp; exact hp.symm
    subst hpq
    obtain ⟨g0, g1, g2, g3, g4, g5, g6, g7, g8, g9, g10, g11, g12, g13⟩ := hq j (by omega)
    rw [ea] at g0 g1 g2 g3 g4 g5 g6 g7 g8 g9 g10 g11 g12 g13
    match f, hf with
    | 0, _ => exact g0
    | 1, _ => rw [Nat.add_assoc]; exact g1
    | 2, _ => rw [Nat.add_assoc]; exact g2
    | 3, _ => rw [Nat.add_assoc]; exact g3
    | 4, _ => rw [Nat.add_assoc]; exact g4
    | 5, _ => rw [Nat.add_assoc]; exact g5
    | 6, _ => rw [Nat.add_assoc]; exact g6
    | 7, _ => rw [Nat.add_assoc]; exact g7
    | 8, _ => rw [Nat.add_assoc]; exact g8
    | 9, _ => rw [Nat.add_assoc]; exact g9
    | 10, _ => rw [Nat.add_assoc]; exact g10
    | 11, _ => rw [Nat.add_assoc]; exact g11
    | 12, _ => rw [Nat.add_assoc]; exact g12
    | 13, _ => rw [Nat.add_assoc]; exact g13
/-- A struct of six one-cell fields. -/
theorem open_agg6 {f0 f1 f2 f3 f4 f5 : Field} (hs : P.underlying t = some (.struct #[f0, f1, f2, f3, f4, f5])) (hone : oneCellFields P #[f0, f1, f2, f3, f4, f5] = true) (hC : P.cellsOf t = 6)
    (hv : Value.okWide P W r b0 t v) (h : DataW.Trod enc P W 0 (fun _ => true) true t v d p) :
    ∃ (v0 v1 v2 v3 v4 v5 : Value) (y0 y1 y2 y3 y4 y5 : DataW H × List MemPlace) (n : Nat), v = .agg #[v0, v1, v2, v3, v4, v5] ∧
      DataW.trod enc P W 0 (fun _ => true) true n f0.type [v0] = some y0 ∧ DataW.trod enc P W 0 (fun _ => true) true n f1.type [v1] = some y1 ∧ DataW.trod enc P W 0 (fun _ => true) true n f2.type [v2] = some y2 ∧ DataW.trod enc P W 0 (fun _ => true) true n f3.type [v3] = some y3 ∧ DataW.trod enc P W 0 (fun _ => true) true n f4.type [v4] = some y4 ∧ DataW.trod enc P W 0 (fun _ => true) true n f5.type [v5] = some y5 := by
  obtain ⟨cs, rfl, hsz⟩ := okWide_struct hs hv
  obtain ⟨l⟩ := cs
  match l, hsz.trans hC with
  | [c0, c1, c2, c3, c4, c5], _ =>
    obtain ⟨fuel, hf⟩ := h
    obtain ⟨xs, n, _, hx, _, hlen, hg⟩ := DataW.trod_struct hs hf
    obtain ⟨o0, k0⟩ := hone_of hone 0 f0 rfl
    obtain ⟨o1, k1⟩ := hone_of hone 1 f1 rfl
    obtain ⟨o2, k2⟩ := hone_of hone 2 f2 rfl
    obtain ⟨o3, k3⟩ := hone_of hone 3 f3 rfl
    obtain ⟨o4, k4⟩ := hone_of hone 4 f4 rfl
    obtain ⟨o5, k5⟩ := hone_of hone 5 f5 rfl
    match xs, hlen with
    | [y0, y1, y2, y3, y4, y5], _ =>
      exact ⟨c0, c1, c2, c3, c4, c5, y0, y1, y2, y3, y4, y5, n, rfl, by simpa [Value.cells, o0, k0] using hg 0 f0 rfl, by simpa [Value.cells, o1, k1] using hg 1 f1 rfl, by simpa [Value.cells, o2, k2] using hg 2 f2 rfl, by simpa [Value.cells, o3, k3] using hg 3 f3 rfl, by simpa [Value.cells, o4, k4] using hg 4 f4 rfl, by simpa [Value.cells, o5, k5] using hg 5 f5 rfl⟩
theorem o_ask {f0 f1 f2 f3 f4 f5 : Field} (hs : P.underlying t = some (.struct #[f0, f1, f2, f3, f4, f5])) (hone : oneCellFields P #[f0, f1, f2, f3, f4, f5] = true) (hC : P.cellsOf t = 6)
    (u0 : P.underlying f0.type = some (.int .u8)) (u1 : P.underlying f1.type = some (.int .i64)) (u2 : P.underlying f2.type = some (.int .i64)) (u3 : P.underlying f3.type = some (.int .i64)) (u4 : P.underlying f4.type = some (.int .i64)) (u5 : P.underlying f5.type = some (.int .i64))
    (hv : Value.okWide P W r b0 t v) (h : DataW.Trod enc P W 0 (fun _ => true) true t v d p) : ∃ a : Ask, v = a.val ∧ True := by
  obtain ⟨v0, v1, v2, v3, v4, v5, y0, y1, y2, y3, y4, y5, n, rfl, t0, t1, t2, t3, t4, t5⟩ := open_agg6 hs hone hC hv h
  obtain ⟨z0, e0, -⟩ := DataW.trod_int u0 t0
  obtain ⟨z1, e1, -⟩ := DataW.trod_int u1 t1
  obtain ⟨z2, e2, -⟩ := DataW.trod_int u2 t2
  obtain ⟨z3, e3, -⟩ := DataW.trod_int u3 t3
  obtain ⟨z4, e4, -⟩ := DataW.trod_int u4 t4
  obtain ⟨z5, e5, -⟩ := DataW.trod_int u5 t5
  simp at e0 e1 e2 e3 e4 e5
  subst e0 e1 e2 e3 e4 e5
  exact ⟨⟨z0, z1, z2, z3, z4, z5⟩, rfl, trivial⟩
theorem o_view {f0 f1 f2 f3 f4 f5 : Field} (hs : P.underlying t = some (.struct #[f0, f1, f2, f3, f4, f5])) (hone : oneCellFields P #[f0, f1, f2, f3, f4, f5] = true) (hC : P.cellsOf t = 6)
    (u0 : P.underlying f0.type = some .bool) (u1 : P.underlying f1.type = some (.int .i64)) (u2 : P.underlying f2.type = some (.int .i64)) (u3 : P.underlying f3.type = some (.int .i64)) (u4 : P.underlying f4.type = some (.int .i64)) (u5 : P.underlying f5.type = some (.int .i64))
    (hv : Value.okWide P W r b0 t v) (h : DataW.Trod enc P W 0 (fun _ => true) true t v d p) : ∃ a : Vw, v = a.val ∧ True := by
  obtain ⟨v0, v1, v2, v3, v4, v5, y0, y1, y2, y3, y4, y5, n, rfl, t0, t1, t2, t3, t4, t5⟩ := open_agg6 hs hone hC hv h
  obtain ⟨z0, e0, -⟩ := DataW.trod_bool u0 t0
  obtain ⟨z1, e1, -⟩ := DataW.trod_int u1 t1
  obtain ⟨z2, e2, -⟩ := DataW.trod_int u2 t2
  obtain ⟨z3, e3, -⟩ := DataW.trod_int u3 t3
  obtain ⟨z4, e4, -⟩ := DataW.trod_int u4 t4
  obtain ⟨z5, e5, -⟩ := DataW.trod_int u5 t5
  simp at e0 e1 e2 e3 e4 e5
  subst e0 e1 e2 e3 e4 e5
  exact ⟨⟨z0, z1, z2, z3, z4, z5⟩, rfl, trivial⟩
end
end Go.Proofs.Ytgbflcmageipdaa
