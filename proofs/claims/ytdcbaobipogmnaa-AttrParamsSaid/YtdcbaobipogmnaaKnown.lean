/- What the laws share: Apply of both sides for whatever came in; the law's own 'known'; a call in a region of calls that make memory. -/
import Derived.Test.YtdcbaobipogmnaaApply
import Derived.Test.YtdcbaobipogmnaaRApp
import Derived.Test.YtdcbaobipogmnaaCols
import Derived.Test.YtdcbaobipogmnaaOpen
import Derived.Lib.QuietBelow
namespace Go.Proofs.Ytdcbaobipogmnaa
open Go.RowKit Pl Go.Sort
set_option linter.unusedVariables false
set_option linter.unusedSimpArgs false
section
open Go.ChangeShapes Go.WideShapes Go.ChangeAt Go.Joins Go.Deep
variable {H : Type} {enc : TypeId × Value → H} {P : Program} {W : World} {r : Reach} {b0 : Nat} {t e : TypeId} {v : Value} {d : DataW H} {p : List MemPlace}
/-- A struct of three integers. -/
theorem o_int3 {f0 f1 f2 : Field} {k : IntKind} (hs : P.underlying t = some (.struct #[f0, f1, f2])) (hone : oneCellFields P #[f0, f1, f2] = true) (hC : P.cellsOf t = 3)
    (u0 : P.underlying f0.type = some (.int k)) (u1 : P.underlying f1.type = some (.int k)) (u2 : P.underlying f2.type = some (.int k))
    (hv : Value.okWide P W r b0 t v) (h : DataW.Trod enc P W 0 (fun _ => true) true t v d p) :
    ∃ x y z, v = .agg #[.int k x, .int k y, .int k z] ∧ (Lit.int k x).wf = true ∧ (Lit.int k y).wf = true ∧ (Lit.int k z).wf = true := by
  obtain ⟨v0, v1, v2, y0, y1, y2, n, rfl, -, -, t0, t1, t2⟩ := open_agg3 hs hone hC hv h
  obtain ⟨x, e0, -, w0⟩ := DataW.trod_int u0 t0
  obtain ⟨y, e1, -, w1⟩ := DataW.trod_int u1 t1
  obtain ⟨z, e2, -, w2⟩ := DataW.trod_int u2 t2
  simp at e0 e1 e2
  subst e0 e1 e2
  exact ⟨x, y, z, rfl, w0, w1, w2⟩
end
/-- A callee that makes memory and changes none, met in a region that draws its order. -/
theorem quietC {f : FuncId} {args : Array Value} {V : World} {d : Nat} {os : Array Obj} {v : Value} (h : ∀ V', Kept (fun _ => False) V V' → Calls Try.prog f args V' fun e w' => e = .returned v ∧ Kept (fun _ => False) V' w') :
    Calls Try.prog f args (grow (redrawn V d) os) fun e w'' => e = .returned v ∧ ∃ p : Regrown, w'' = grow (redrawn V p.d) p.os :=
  Calls.regrown_of ((h _ (Kept.of_below (below_regrown V d os) (fun i h1 h2 => by omega))).mono fun _ _ ⟨a, b⟩ => ⟨a, b.below⟩)
theorem kept_of_regrown {V : World} (d : Nat) (os : Array Obj) : Kept (fun _ => False) V (grow (redrawn V d) os) := Kept.of_below (below_regrown V d os) (fun i h1 h2 => by omega)
theorem Arg.up {w w' : World} {ad : Option Addr} {len cap : Nat} {l : List Int} (h : Arg w.heap.size w ad len cap l) (hk : Kept (fun _ => False) w w') : Arg w'.heap.size w' ad len cap l := by
  have h2 := h.kept hk (fun _ h => h.elim)
  exact ⟨h2.1, h2.2.1, h2.2.2.1, fun b off h3 h4 => Nat.lt_of_lt_of_le (h2.2.2.2.1 b off h3 h4) hk.size, h2.2.2.2.2⟩
def LookPost (X : Look) (w : World) (e : Ending) (w' : World) : Prop := e = .returned (.agg #[.int .i64 X.fg, .int .i64 X.bg, .int .i64 X.fl]) ∧ Kept (fun _ => False) w w'
set_option maxRecDepth 100000 in
set_option maxHeartbeats 1000000 in
theorem apply_none (a : Look) (ad : Option Addr) (cap : Nat) (w : World) : Calls Try.prog 9 #[lookV a, .slice ad 0 cap] w (LookPost ⟨0, 0, 0⟩ w) := by
  obtain ⟨fg, bg, fl⟩ := a
  unfold lookV
  go_enter Try.func9, Try.ntmps9
  go_wp2
  exact bodyPost_ret (v := .agg #[.int .i64 0, .int .i64 0, .int .i64 0]) (by simp [results, Try.results9, go_sem]) rfl ⟨rfl, by repeat (first | exact Kept.refl _ _ | refine Kept.alloc ?_ _)⟩
set_option maxRecDepth 100000 in
set_option maxHeartbeats 1000000 in
theorem rapply_none (a : Look) (ad : Option Addr) (cap : Nat) (w : World) : Calls Try.prog 10 #[lookV a, .slice ad 0 cap] w (LookPost ⟨0, 0, 0⟩ w) := by
  obtain ⟨fg, bg, fl⟩ := a
  unfold lookV
  go_enter Try.func10, Try.ntmps10
  go_wp2
  exact bodyPost_ret (v := .agg #[.int .i64 0, .int .i64 0, .int .i64 0]) (by simp [results, Try.results10, go_sem]) rfl ⟨rfl, by repeat (first | exact Kept.refl _ _ | refine Kept.alloc ?_ _)⟩
theorem apply_any {a : Look} {ad : Option Addr} {len cap : Nat} {l : List Int} {w : World} (h : Arg w.heap.size w ad len cap l) (ha : a.In) : Calls Try.prog 9 #[lookV a, .slice ad len cap] w (LookPost (apply a l) w) := by
  unfold apply
  by_cases h0 : len = 0
  · subst h0
    rw [if_pos (List.eq_nil_of_length_eq_zero h.1.1)]
    exact apply_none a ad cap w
  · rw [if_neg (fun e => h0 (by rw [← h.1.1, e]; rfl))]
    exact apply_some a ad len cap l w h ha (by omega)
theorem rapply_any {a : Look} {ad : Option Addr} {len cap : Nat} {l : List Int} {w : World} (h : Arg w.heap.size w ad len cap l) (ha : a.In) : Calls Try.prog 10 #[lookV a, .slice ad len cap] w (LookPost (apply a l) w) := by
  unfold apply
  by_cases h0 : len = 0
  · subst h0
    rw [if_pos (List.eq_nil_of_length_eq_zero h.1.1)]
    exact rapply_none a ad cap w
  · rw [if_neg (fun e => h0 (by rw [← h.1.1, e]; rfl))]
    obtain ⟨b, off, rfl, -⟩ := h.1.2.resolve_left h0
    exact rapply_some a b off len cap l w h ha (by omega)
namespace Pl
theorem known_ap : apply ⟨0, 0, 0⟩ [1, 31, 48, 2, 1, 2, 3] = ⟨16777217, 33620483, 1⟩ := by
  unfold apply
  rw [if_neg (by simp), ap_cons]
  have e1 : stp ⟨0, 0, 0⟩ 1 [31, 48, 2, 1, 2, 3] = (⟨0, 0, 1⟩, [31, 48, 2, 1, 2, 3]) := by kernel_rfl
  rw [e1, ap_cons]
  have e2 : stp ⟨0, 0, 1⟩ 31 [48, 2, 1, 2, 3] = (⟨16777217, 0, 1⟩, [48, 2, 1, 2, 3]) := by kernel_rfl
  rw [e2, ap_cons]
  have e3 : stp ⟨16777217, 0, 1⟩ 48 [2, 1, 2, 3] = (⟨16777217, 33620483, 1⟩, []) := by kernel_rfl
  rw [e3, ap_nil]
theorem known_cols : colors ⟨16777217, 33620483, 1⟩ = (⟨205, 0, 0⟩, ⟨1, 2, 3⟩) := by kernel_rfl
theorem far_mem (c : Int) (l : List Int) : ∀ y ∈ (far c l).2, y ∈ l := by
  intro y hy
  unfold far at hy
  split at hy
  · simp only at hy; simp [hy]
  · simp only at hy; simp [hy]
  · cases hy
end Pl
theorem apply_in {a : Look} (h : a.In) : ∀ (n : Nat) (l : List Int), l.length ≤ n → (∀ x ∈ l, In x) → ∀ a : Look, a.In → (ap a l).In := by
  intro n
  induction n with
  | zero =>
    intro l hl _ a ha
    have : l = [] := List.eq_nil_of_length_eq_zero (by omega)
    subst this; rw [ap_nil]; exact ha
  | succ n ih =>
    intro l hl hx a ha
    match l with
    | [] => rw [ap_nil]; exact ha
    | x :: l =>
      rw [ap_cons]
      refine ih _ (by have := stp_le a x l; simp at hl; omega) ?_ _ (stp_in ha x (hx x (by simp)) l)
      intro y hy
      apply hx
      refine List.mem_cons_of_mem _ ?_
      unfold stp at hy
      split at hy
      · exact far_mem _ _ y hy
      · split at hy
        · exact far_mem _ _ y hy
        · exact hy
theorem Pl.apply_In {a : Look} (h : a.In) (l : List Int) (hx : ∀ x ∈ l, In x) : (apply a l).In := by
  unfold apply
  split
  · exact ⟨by unfold In; simp only; omega, by unfold In; simp only; omega, by unfold In; simp only; omega⟩
  · exact apply_in h l.length l (Nat.le_refl _) hx a h
theorem slAt_lit {k : IntKind} (w : World) (xs : List Int) (n : Nat) (C : Array Value) (e : TypeId) (hC : C = (xs.map (Value.int k)).toArray) (hn : xs.length = n) : SlAt k (w.alloc (.cells C e)) (some ⟨w.heap.size, 0, none⟩) n xs := slAt_blk (blk_new w _) hC hn
theorem argLit (w : World) (xs : List Int) (n : Nat) (C : Array Value) (hC : C = (xs.map (Value.int .i64)).toArray) (hn : xs.length = n) (hx : ∀ x ∈ xs, In x) (hm : n ≤ 1000) :
    Arg (w.alloc (.cells C 3)).heap.size (w.alloc (.cells C 3)) (some ⟨w.heap.size, 0, none⟩) n n xs :=
  ⟨slAt_lit w xs n C 3 hC hn, Nat.le_refl _, by omega, fun b off _ h => by cases h; simp, hx⟩
set_option maxRecDepth 100000 in
set_option maxHeartbeats 2000000 in
theorem known_any (w : World) : Calls Try.prog 8 #[] w fun e w' => e = .returned (.bool true) ∧ Kept (fun _ => False) w w' := by
  have hA := argLit w [1, 31, 48, 2, 1, 2, 3] 7 #[.int .i64 1, .int .i64 31, .int .i64 48, .int .i64 2, .int .i64 1, .int .i64 2, .int .i64 3] rfl rfl (by unfold In; decide) (by omega)
  have h1 := apply_any (a := ⟨0, 0, 0⟩) hA ⟨by unfold In; simp only; omega, by unfold In; simp only; omega, by unfold In; simp only; omega⟩
  rw [known_ap] at h1
  unfold LookPost lookV at h1
  have H1 := Lib.hid h1
  have H2 := Lib.hid (fun w => show Calls Try.prog 13 #[.agg #[.int .i64 16777217, .int .i64 33620483, .int .i64 1]] w fun e w' => e = .returned (.tuple #[.agg #[.int .u8 205, .int .u8 0, .int .u8 0], .agg #[.int .u8 1, .int .u8 2, .int .u8 3]]) ∧ Kept (fun _ => False) w w' from by
    have h := cols_any ⟨16777217, 33620483, 1⟩ w
    unfold ColsPost at h
    rw [known_cols] at h
    exact h)
  have H3 := Lib.hid (fun w => show Calls Try.prog 17 #[.int .i64 16] w fun e w' => e = .returned (.agg #[.int .u8 0, .int .u8 0, .int .u8 0]) ∧ Kept (fun _ => False) w w' from by
    have h := basic_any 16 w
    rw [show basic 16 = ⟨0, 0, 0⟩ by kernel_rfl] at h
    exact h)
  have H4 := Lib.hid (fun w => show Calls Try.prog 11 #[.agg #[.int .i64 16777217, .int .i64 33620483, .int .i64 1]] w fun e w' => e = .returned (.bool true) ∧ Kept (fun _ => False) w w' from by
    have h := right_any ⟨16777217, 33620483, 1⟩ w
    rw [show rightB ⟨16777217, 33620483, 1⟩ = true by decide] at h
    exact h)
  clear h1 hA
  have q1 := run_eqLook ⟨16777217, 33620483, 1⟩ ⟨16777217, 33620483, 1⟩
  have q2 := run_eqRgb
  have q3 := @run_eqGuard_agg Try.prog
  go_enter Try.func8, Try.ntmps8
  go_wp2_with fail
  refine H1.out.mono ?_; rintro e w1 ⟨rfl, hk1⟩
  have k1 := ((Kept.refl (fun _ => False) w).alloc _).then hk1
  clear hk1
  go_wp2_with fail
  refine (H2.out _).mono ?_; rintro e w2 ⟨rfl, hk2⟩
  have b2 := hk2.blk (blk_new w1 _) id
  have k2 := (k1.alloc _).then hk2
  obtain ⟨⟨c0, f0⟩, ⟨c1, f1⟩, c2, f2⟩ := blk3 b2
  have z1 : w1.heap.size < w2.heap.size := lt_of_blk b2
  have HB := Lib.hid b2
  clear hk2 b2 k1
  obtain ⟨V, hV⟩ : ∃ V, (w2.alloc (.cells #[.int .u8 205, .int .u8 0, .int .u8 0] 29)).alloc (.cells #[.int .u8 1, .int .u8 2, .int .u8 3] 29) = V := ⟨_, rfl⟩
  have kV : Kept (fun _ => False) w2 V := by rw [← hV]; exact ((Kept.refl _ w2).alloc _).alloc _
  have bx : V.heap[w2.heap.size]? = some (.cells #[.int .u8 205, .int .u8 0, .int .u8 0] 29 (0, 0)) := by rw [← hV]; exact blk_alloc (blk_new _ _) _
  have by' : V.heap[w2.heap.size + 1]? = some (.cells #[.int .u8 1, .int .u8 2, .int .u8 3] 29 (0, 0)) := by rw [← hV]; exact blk_at _ _ (by simp)
  have ba := kV.blk HB.out id
  obtain ⟨⟨a0, -⟩, ⟨a1, -⟩, a2, -⟩ := blk3 ba
  obtain ⟨⟨x0, -⟩, ⟨x1, -⟩, x2, -⟩ := blk3 bx
  obtain ⟨⟨y0, -⟩, ⟨y1, -⟩, y2, -⟩ := blk3 by'
  have k3 := k2.then kV
  have HBA := Lib.hid ba
  clear bx by' kV k2 ba
  go_wp2_with fail
  refine (H3.out _).mono ?_; rintro e w3 ⟨rfl, hk3⟩
  have ba := hk3.blk HBA.out id
  obtain ⟨⟨r0, -⟩, ⟨r1, -⟩, r2, -⟩ := blk3 ba
  have k4 := k3.then hk3
  clear ba k3
  go_wp2_with fail
  refine (H4.out _).mono ?_; rintro e w4 ⟨rfl, hk4⟩
  have k5 := k4.then hk4
  clear k4
  go_wp2
  go_ret
  exact ⟨rfl, k5⟩
end Go.Proofs.Ytdcbaobipogmnaa
