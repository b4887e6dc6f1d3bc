/- Pieces as they come in: a slice of structs of a number and a slice of bytes; few. -/
import Derived.Test.YtgmbjebighhgkaaOpen
import Derived.Test.YtgmbjebighhgkaaKnown
import Derived.Deep.Slices
import Derived.Deep.Fields
import Derived.ChangeSame
namespace Go.Proofs.Ytgmbjebighhgkaa
open Go.RowKit Go.ChangeShapes Go.WideShapes Go.ChangeAt Go.Joins Go.Deep
set_option linter.unusedVariables false
theorem vint {k : IntKind} {a b : Int} (h : a = b) : Value.int k a = .int k b := by rw [h]
structure PieceR where
  K : Int
  a : Option Addr
  len : Nat
  cap : Nat
  zs : List Int
def IsPiece (w : World) (b off : Nat) (r : PieceR) : Prop :=
  w.cell? ⟨b, off, none⟩ = some (.int .i64 r.K) ∧ w.cell? ⟨b, off + 1, none⟩ = some (.slice r.a r.len r.cap) ∧
  (Lit.int .i64 r.K).wf = true ∧ IsRow .u8 w r.a r.len r.cap r.zs
/-- A slice of pieces as it comes in. -/
def IsPieces (w : World) (a : Option Addr) (len : Nat) (R : Nat → PieceR) : Prop :=
  len = 0 ∨ ∃ b off, a = some ⟨b, off, none⟩ ∧ b < w.heap.size ∧ ∀ i, i < len → IsPiece w b (off + i * 2) (R i)
section
variable {H : Type} {enc : TypeId × Value → H} {P : Program} {w : World} {base : Nat} {spare : Nat → Bool} {held : Bool}
theorem open_slice_fields {t e : TypeId} {fs : Array Field} {fuel : Nat} {cs : List Value} {x : DataW H × List MemPlace} (ht : P.underlying t = some (.slice e)) (he : P.underlying e = some (.struct fs))
    (hone : oneCellFields P fs = true) (hC : P.cellsOf e = fs.size) (h : DataW.trod enc P w base spare held fuel t cs = some x) :
    (cs = [.slice none 0 0] ∧ x = (.nil, [])) ∨
    ∃ (a : Addr) (len cap m : Nat) (D : Nat → DataW H) (Pl : Nat → List MemPlace), cs = [.slice (some a) len cap] ∧ base ≤ a.block ∧ len ≤ cap ∧ cap ≤ maxLen ∧ m = (if spare a.block then cap else len) ∧
      x = (.slice ((List.range len).map D) ((List.range (m - len)).map fun j => D (len + j)), MemPlace.row a (m * fs.size) ++ (List.range m).flatMap Pl) ∧
      ∀ i, i < m → ∃ (ys : List (DataW H × List MemPlace)) (n : Nat), D i = .agg (ys.map (·.1)) ∧ Pl i = ys.flatMap (·.2) ∧ ys.length = fs.size ∧
        ∀ (j : Nat) (f : Field), fs[j]? = some f → ∃ (v : Value) (y : DataW H × List MemPlace), w.cell? (a.add (i * fs.size + j)) = some v ∧ ys[j]? = some y ∧ DataW.trod enc P w base spare held n f.type [v] = some y := by
  rcases open_slice ht h with h0 | ⟨a, len, cap, m, n, D, Pl, hcs, hb, hl, hm, hmm, hx, hi⟩
  · exact .inl h0
  · refine .inr ⟨a, len, cap, m, D, Pl, hcs, hb, hl, hm, hmm, by rw [hC] at hx; exact hx, fun i him => ?_⟩
    obtain ⟨cs', hc, ht'⟩ := hi i him
    rw [hC] at hc
    obtain ⟨ys, n', hn', hy, hlen, hyl, hf⟩ := DataW.trod_struct he ht'
    obtain ⟨_, hcl, hat⟩ := World.cells?_some hc
    simp only [Prod.mk.injEq] at hy
    refine ⟨ys, n', hy.1, hy.2, hyl, fun j f hj => ?_⟩
    obtain ⟨ho, hk⟩ := hone_of hone j f hj
    have hjl : j < fs.size := (Array.getElem?_eq_some_iff.1 hj).1
    have hcell := hat j hjl
    have hv : cs'[j]? = some (cs'[j]'(by omega)) := List.getElem?_eq_getElem (by omega)
    have h1 := hf j f hj
    rw [ho, hk] at h1
    have hone' : (cs'.drop j).take 1 = [cs'[j]'(by omega)] := by
      rw [List.drop_eq_getElem_cons (by omega)]
      rfl
    rw [hone'] at h1
    have hys : ys[j]? = some (ys[j]'(by omega)) := List.getElem?_eq_getElem (by omega)
    refine ⟨_, _, ?_, hys, h1.trans hys⟩
    rw [← Go.Deep.add_add, hcell, hv]
end
section
variable {H : Type} {enc : TypeId × Value → H} {P : Program} {W : World} {r : Reach} {b0 : Nat} {t e e1 : TypeId} {v : Value} {d : DataW H} {p : List MemPlace}
theorem o_pieces {f0 f1 : Field} (ht : P.underlying t = some (.slice e)) (he : P.underlying e = some (.struct #[f0, f1])) (hone : oneCellFields P #[f0, f1] = true) (ce : P.cellsOf e = 2)
    (u0 : P.underlying f0.type = some (.int .i64)) (u3 : P.underlying f1.type = some (.slice e1)) (ue : P.underlying e1 = some (.int .u8)) (ce1 : P.cellsOf e1 = 1)
    (hv : Value.okWide P W r b0 t v) (h : DataW.Trod enc P W 0 (fun _ => true) true t v d p) :
    ∃ a len cap R, v = .slice a len cap ∧ IsPieces W a len R ∧ len ≤ cap ∧ cap ≤ maxLen := by
  obtain ⟨a0, len0, cap0, rfl⟩ := okWide_slice ht hv
  obtain ⟨fuel, hf⟩ := h
  rcases open_slice_fields ht he hone ce hf with ⟨hcs, -⟩ | ⟨x, len, cap, m, D, Pl, hcs, -, hl, hm, hmm, -, hall⟩
  · simp [Value.cells] at hcs
    obtain ⟨rfl, rfl, rfl⟩ := hcs
    exact ⟨_, _, _, fun _ => ⟨0, none, 0, 0, []⟩, rfl, .inl rfl, Nat.le_refl _, by simp [maxLen]⟩
  · simp [Value.cells] at hcs
    obtain ⟨rfl, rfl, rfl⟩ := hcs
    simp only [if_true] at hmm
    have each : ∀ i, i < m → ∃ q : PieceR, W.cell? (x.add (i * 2)) = some (.int .i64 q.K) ∧ W.cell? (x.add (i * 2 + 1)) = some (.slice q.a q.len q.cap) ∧
        (Lit.int .i64 q.K).wf = true ∧ IsRow .u8 W q.a q.len q.cap q.zs := by
      intro i hi
      obtain ⟨ys, n, -, -, -, hfs⟩ := hall i hi
      obtain ⟨v0, y0, c0, -, t0⟩ := hfs 0 f0 rfl
      obtain ⟨v3, y3, c3, -, t3⟩ := hfs 1 f1 rfl
      obtain ⟨z0, e0, -, w0⟩ := DataW.trod_int u0 t0
      obtain ⟨a, len, cap, zs, e3, hrow⟩ := row_of u3 ue ce1 t3
      simp at e0 e3
      subst e0 e3
      exact ⟨⟨z0, a, len, cap, zs⟩, by simpa using c0, by simpa using c3, w0, hrow⟩
    obtain ⟨q, hq⟩ : ∃ q : Nat → PieceR, ∀ i, i < m → W.cell? (x.add (i * 2)) = some (.int .i64 (q i).K) ∧ W.cell? (x.add (i * 2 + 1)) = some (.slice (q i).a (q i).len (q i).cap) ∧
        (Lit.int .i64 (q i).K).wf = true ∧ IsRow .u8 W (q i).a (q i).len (q i).cap (q i).zs := by
      refine ⟨fun i => if h : i < m then (each i h).choose else ⟨0, none, 0, 0, []⟩, fun i hi => ?_⟩
      simp only [hi, dif_pos]
      exact (each i hi).choose_spec
    refine ⟨_, _, _, q, rfl, ?_, hl, hm⟩
    by_cases h0 : len0 = 0
    · exact .inl h0
    right
    obtain ⟨b, off, spot⟩ := x
    have h1 := (hq 0 (by omega)).1
    have hs : spot = none := by simpa [Addr.add] using World.cell?_spot h1
    subst hs
    refine ⟨b, off, rfl, lt_of_cell (by simpa [Addr.add] using h1), fun i hi => ?_⟩
    have ea : ∀ j, (⟨b, off, none⟩ : Addr).add j = ⟨b, off + j, none⟩ := fun j => by unfold Addr.add; split <;> simp_all
    obtain ⟨g0, g1, g⟩ := hq i (by omega)
    rw [ea] at g0 g1
    exact ⟨g0, by rw [Nat.add_assoc]; exact g1, g⟩
end
theorem IsPieces.kept {S : Nat → Prop} {w w' : World} {a : Option Addr} {len : Nat} {R : Nat → PieceR} (h : IsPieces w a len R) (hk : Kept S w w') (hS : ∀ i, i < w.heap.size → ¬ S i) : IsPieces w' a len R := by
  rcases h with h | ⟨b, off, rfl, hb, hi⟩
  · exact .inl h
  · refine .inr ⟨b, off, rfl, Nat.lt_of_lt_of_le hb hk.size, fun i hil => ?_⟩
    obtain ⟨g0, g1, w0, hr⟩ := hi i hil
    have hn := hS b hb
    refine ⟨hk.cell g0 hn, hk.cell g1 hn, w0, ?_⟩
    rcases hr with hr | ⟨x, hx, hl, hm, hz, hc, hw⟩
    · exact .inl hr
    · exact .inr ⟨x, hx, hl, hm, hz, fun i hi => hk.cell (hc i hi) (hS _ (by have := lt_of_cell (hc i hi); exact this)), hw⟩
/-- The bytes of the first pieces, and one for each. -/
def sumL (R : Nat → PieceR) (n : Nat) : Nat → Nat
  | 0 => n
  | k + 1 => sumL R n k + (R k).len
theorem sumL_le (R : Nat → PieceR) (n k : Nat) : n ≤ sumL R n k := by
  induction k with
  | zero => exact Nat.le_refl _
  | succ k ih => exact Nat.le_trans ih (Nat.le_add_right _ _)
theorem sumL_mono (R : Nat → PieceR) (n : Nat) {i k : Nat} (h : i < k) : (R i).len ≤ sumL R n k := by
  induction k with
  | zero => omega
  | succ k ih =>
    show (R i).len ≤ sumL R n k + (R k).len
    rcases Nat.lt_or_ge i k with h1 | h1
    · have := ih h1; omega
    · obtain rfl : i = k := by omega
      omega
def FewPost (R : Nat → PieceR) (len : Nat) (w : World) (e : Ending) (w' : World) : Prop := ∃ b, e = .returned (.bool b) ∧ (b = true → sumL R len len ≤ 4096) ∧ w = w'
set_option maxRecDepth 100000 in
set_option maxHeartbeats 1000000 in
theorem few_any (a : Option Addr) (len cap : Nat) (R : Nat → PieceR) (w : World) (h : IsPieces w a len R) (hl : len ≤ 9223372036854775807) :
    Calls Try.prog 8 #[.slice a len cap] w (FewPost R len w) := by
  have H := Lib.hid h
  clear h
  go_enter Try.func8, Try.ntmps8
  go_wp2
  go_loop [3, 4] (fun n i => ∃ k : Nat, k ≤ len ∧ i = .int .i64 k ∧ n = .int .i64 (sumL R len k : Int) ∧ (k = 0 ∨ sumL R len k ≤ 131076)) (fun _ i => len - (intOf i).toNat)
  case atStart => exact ⟨0, by omega, rfl, rfl, .inl rfl⟩
  case round =>
    obtain ⟨k, hk, rfl, rfl, hn⟩ := hrel
    have hs : sumL R len (k + 1) = sumL R len k + (R k).len := rfl
    obtain ⟨n, hne⟩ : ∃ n, sumL R len k = n := ⟨_, rfl⟩
    rw [hne] at hs hn ⊢
    have hnl : n ≤ 9223372036854775807 := by
      rcases hn with rfl | h
      · rw [← hne]; exact hl
      · omega
    have HS := Lib.hid hs
    have HN := Lib.hid hne
    have HN0 := Lib.hid hn
    clear hs hne hn
    by_cases hkl : k < len
    · obtain ⟨lb, loff, rfl, hlb, hc⟩ := H.out.resolve_left (by omega)
      obtain ⟨-, c3, -, hr⟩ := hc k hkl
      have hll : (R k).len ≤ 9223372036854775807 := by
        obtain ⟨s, hc1, hc2, -⟩ := hr.slAt
        omega
      obtain ⟨z, hz⟩ : ∃ z, (R k).len = z := ⟨_, rfl⟩
      rw [hz] at c3 hll HS
      clear hc hr hz
      by_cases h1 : 65536 < z
      · have g1 : decide (65536 < (z : Int)) = true := by simp; omega
        go_wp2
        go_ret
        exact ⟨false, rfl, (fun h => by cases h), rfl⟩
      · have g1 : decide (65536 < (z : Int)) = false := by simp; omega
        by_cases h2 : 65536 < n
        · have g2 : decide (65536 < (n : Int)) = true := by simp; omega
          go_wp2
          go_ret
          exact ⟨false, rfl, (fun h => by cases h), rfl⟩
        · have g2 : decide (65536 < (n : Int)) = false := by simp; omega
          go_wp2
          go_round
          case rel => exact ⟨k + 1, by omega, by go_num, vint (by rw [HS.out]; omega), .inr (by rw [HS.out]; omega)⟩
          case measure => simp [intOf]; omega
    · obtain rfl : k = len := by omega
      go_wp2
      go_ret
      exact ⟨_, rfl, (fun h => by have h1 := of_decide_eq_true h; have h2 := HN.out; omega), rfl⟩
end Go.Proofs.Ytgmbjebighhgkaa
