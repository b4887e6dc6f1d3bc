/- All passes of an image have just its pixels. -/
import Derived.Test.YtgpgjpmgnbaneaaKnown
import Derived.Test.YtgpgjpmgnbaneaaOpen
namespace Go.Proofs.Ytgpgjpmgnbaneaa
open Go.RowKit Pl
set_option linter.unusedVariables false
section
open Go.ChangeShapes Go.WideShapes Go.ChangeAt Go.Joins Go.Deep
variable {H : Type} {enc : TypeId × Value → H} {P : Program} {W : World} {r : Reach} {b0 : Nat} {t : TypeId} {v : Value} {d : DataW H} {p : List MemPlace}
/-- A struct of four integers. -/
theorem o_int4 {f0 f1 f2 f3 : Field} {k : IntKind} (hs : P.underlying t = some (.struct #[f0, f1, f2, f3])) (hone : oneCellFields P #[f0, f1, f2, f3] = true) (hC : P.cellsOf t = 4)
    (u0 : P.underlying f0.type = some (.int k)) (u1 : P.underlying f1.type = some (.int k)) (u2 : P.underlying f2.type = some (.int k)) (u3 : P.underlying f3.type = some (.int k))
    (hv : Value.okWide P W r b0 t v) (h : DataW.Trod enc P W 0 (fun _ => true) true t v d p) :
    ∃ x y z u, v = .agg #[.int k x, .int k y, .int k z, .int k u] ∧ (Lit.int k x).wf = true ∧ (Lit.int k y).wf = true ∧ (Lit.int k z).wf = true ∧ (Lit.int k u).wf = true := by
  obtain ⟨v0, v1, v2, v3, y0, y1, y2, y3, n, rfl, -, -, t0, t1, t2, t3⟩ := open_agg4 hs hone hC hv h
  obtain ⟨x, e0, -, w0⟩ := DataW.trod_int u0 t0
  obtain ⟨y, e1, -, w1⟩ := DataW.trod_int u1 t1
  obtain ⟨z, e2, -, w2⟩ := DataW.trod_int u2 t2
  obtain ⟨u, e3, -, w3⟩ := DataW.trod_int u3 t3
  simp at e0 e1 e2 e3
  subst e0 e1 e2 e3
  exact ⟨x, y, z, u, rfl, w0, w1, w2, w3⟩
end
def PX (k : Nat) : Nat := [0, 4, 0, 2, 0, 1, 0].getD k 0
def PY (k : Nat) : Nat := [0, 0, 4, 0, 2, 0, 1].getD k 0
def PU (k : Nat) : Nat := [8, 8, 4, 4, 2, 2, 1].getD k 0
def PV (k : Nat) : Nat := [8, 8, 8, 4, 4, 2, 2].getD k 0
theorem pass_cells (k : Nat) (h : k < 7) : passArr[k * 4]? = some (.int .i64 (PX k)) ∧ passArr[k * 4 + 1]? = some (.int .i64 (PY k)) ∧ passArr[k * 4 + 2]? = some (.int .i64 (PU k)) ∧ passArr[k * 4 + 3]? = some (.int .i64 (PV k)) ∧ PX k ≤ 4 ∧ PY k ≤ 4 ∧ 1 ≤ PU k ∧ PU k ≤ 8 ∧ 1 ≤ PV k ∧ PV k ≤ 8 := by
  rcases (show k = 0 ∨ k = 1 ∨ k = 2 ∨ k = 3 ∨ k = 4 ∨ k = 5 ∨ k = 6 by omega) with rfl | rfl | rfl | rfl | rfl | rfl | rfl <;> exact ⟨rfl, rfl, rfl, rfl, by decide, by decide, by decide, by decide, by decide, by decide⟩
theorem sizeX_bd (x y dx dy w h : Int) : 0 ≤ sizeX x y dx dy w h ∧ sizeX x y dx dy w h ≤ 16385 := by
  unfold sizeX
  split
  · rename_i hb
    have h1 := of_decide_eq_true hb
    have h2 := ediv_bd (a := w - x - 1) (b := dx) (A := 16384) (by omega) (by omega) (by omega)
    unfold sizeI
    omega
  · omega
theorem sizeY_bd (x y dx dy w h : Int) : 0 ≤ sizeY x y dx dy w h ∧ sizeY x y dx dy w h ≤ 16385 := by
  unfold sizeY
  split
  · rename_i hb
    have h1 := of_decide_eq_true hb
    have h2 := ediv_bd (a := h - y - 1) (b := dy) (A := 16384) (by omega) (by omega) (by omega)
    unfold sizeI
    omega
  · omega
/-- The pixels of the first k passes. -/
def sumP (w h : Int) : Nat → Int
  | 0 => 0
  | k + 1 => sumP w h k + sizeX (PX k) (PY k) (PU k) (PV k) w h * sizeY (PX k) (PY k) (PU k) (PV k) w h
theorem sumP_bd (w h : Int) (k : Nat) : 0 ≤ sumP w h k ∧ sumP w h k ≤ 300000000 * k := by
  induction k with
  | zero => simp [sumP]
  | succ k ih =>
    have h1 := sizeX_bd (PX k) (PY k) (PU k) (PV k) w h
    have h2 := sizeY_bd (PX k) (PY k) (PU k) (PV k) w h
    have h3 := mul_bd h1.1 h1.2 h2.1 h2.2
    simp only [sumP]
    omega
theorem sumP_all (w h : Int) : sumP w h 7 = if w < 1 ∨ h < 1 ∨ 16384 < w ∨ 16384 < h then 0 else w * h := by
  split
  · rename_i hc
    have hz : ∀ x y dx dy : Int, sizeX x y dx dy w h = 0 := fun x y dx dy => by
      unfold sizeX
      rw [show sizeB x y dx dy w h = false from decide_eq_false (by omega)]; rfl
    simp [sumP, hz]
  · rename_i hc
    obtain ⟨a, rfl⟩ : ∃ a : Nat, w = a := ⟨w.toNat, by omega⟩
    obtain ⟨b, rfl⟩ : ∃ b : Nat, h = b := ⟨h.toNat, by omega⟩
    have key : ∀ x y dx dy : Nat, 1 ≤ dx → 1 ≤ dy → sizeX x y dx dy a b * sizeY x y dx dy a b = ((cols x dx a * cols y dy b : Nat) : Int) := fun x y dx dy h1 h2 => size_prod (by omega) (by omega) h1 h2
    have hp := passes_all a b
    simp only [sumP]
    rw [key _ _ _ _ (by decide) (by decide), key _ _ _ _ (by decide) (by decide), key _ _ _ _ (by decide) (by decide), key _ _ _ _ (by decide) (by decide), key _ _ _ _ (by decide) (by decide), key _ _ _ _ (by decide) (by decide), key _ _ _ _ (by decide) (by decide)]
    rw [← Int.natCast_mul, ← hp]
    simp only [PX, PY, PU, PV, List.getD_cons_zero, List.getD_cons_succ]
    omega
set_option maxRecDepth 100000 in
set_option maxHeartbeats 8000000 in
theorem passes_go (x y dx dy p q : Int) (w : World) (bx : Q x) (by_ : Q y) (bdx : Q dx) (bdy : Q dy) (bp : Q p) (bq : Q q) :
    Calls Try.prog 5 #[.agg #[.int .i64 x, .int .i64 y, .int .i64 dx, .int .i64 dy], .int .i64 p, .int .i64 q] w fun e w' => e = .returned (.bool true) ∧ Kept (fun _ => False) w w' := by
  have hkb : Kept (fun _ => False) w (w.alloc (.cells #[.int .i64 x, .int .i64 y, .int .i64 dx, .int .i64 dy] 35)) := (Kept.refl _ _).alloc _
  have HB := Lib.hid (blk_new w (.cells #[.int .i64 x, .int .i64 y, .int .i64 dx, .int .i64 dy] 35))
  go_enter Try.func5, Try.ntmps5
  go_wp2_with fail
  refine (known_any _).mono ?_; rintro e w0 ⟨rfl, hk0⟩
  have hkw0 := hkb.then hk0
  have HB0 := Lib.hid (hk0.blk HB.out id)
  have c0 : w0.cell? ⟨w.heap.size, 0, none⟩ = some (.int .i64 x) := blk_cell HB0.out 0
  have c1 : w0.cell? ⟨w.heap.size, 1, none⟩ = some (.int .i64 y) := blk_cell HB0.out 1
  have c2 : w0.cell? ⟨w.heap.size, 2, none⟩ = some (.int .i64 dx) := blk_cell HB0.out 2
  have c3 : w0.cell? ⟨w.heap.size, 3, none⟩ = some (.int .i64 dy) := blk_cell HB0.out 3
  clear hkb hk0
  go_wp2_with fail
  refine (size_any x y dx dy p q _ bx by_ bdx bdy bp bq).mono ?_
  rintro e w1 ⟨rfl, hk1⟩
  have hkw1 := hkw0.then hk1
  have c0 := hk1.cell c0 id
  have c1 := hk1.cell c1 id
  have c2 := hk1.cell c2 id
  have c3 := hk1.cell c3 id
  clear hkw0 hk1
  go_wp2_with fail
  refine (refSize_any x y dx dy p q _ bx by_ bdx bdy bp bq).mono ?_
  rintro e w2 ⟨rfl, hk2⟩
  have hkw2 := hkw1.then hk2
  obtain ⟨sx, hsx⟩ : ∃ z, sizeX x y dx dy p q = z := ⟨_, rfl⟩
  obtain ⟨sy, hsy⟩ : ∃ z, sizeY x y dx dy p q = z := ⟨_, rfl⟩
  rw [hsx, hsy]
  clear hkw1 hk2 c0 c1 c2 c3 hsx hsy
  go_wp2_with fail
  refine (passes_any _).mono ?_
  rintro e w3 ⟨rfl, hb3, hk3, hz3⟩
  have HB3 := Lib.hid hb3
  have hkw3 := hkw2.then hk3
  clear hb3 hk3 hkw2
  go_wp2_with fail
  refine (refPasses_any _).mono ?_
  rintro e w4 ⟨rfl, hb4, hk4, hz4⟩
  have HB4 := Lib.hid hb4
  have HB3 := Lib.hid (hk4.blk HB3.out id)
  have hkw4 := hkw3.then hk4
  obtain ⟨g1, hg1⟩ : ∃ g, w2.heap.size = g := ⟨_, rfl⟩
  obtain ⟨g2, hg2⟩ : ∃ g, w3.heap.size = g := ⟨_, rfl⟩
  rw [hg1] at HB3 ⊢
  rw [hg2] at HB4 ⊢
  clear hb4 hk4 hkw3 hz3 hz4 hg1 hg2
  go_wp2_with fail
  go_loopw [13, 14] (fun n i wr => ∃ k : Nat, k ≤ 7 ∧ i = .int .i64 k ∧ n = .int .i64 (sumP p q k) ∧ Kept (fun _ => False) w4 wr) (fun _ i _ => 7 - (intOf i).toNat)
  case atStart => exact ⟨0, by omega, rfl, rfl, Kept.refl _ _⟩
  case round =>
    obtain ⟨k, hk, rfl, rfl, hkr⟩ := hrel
    have hb := sumP_bd p q k
    by_cases hk7 : k < 7
    · obtain ⟨p0, p1, p2, p3, q0, q1, q2, q3, q4, q5⟩ := pass_cells k hk7
      have b3 := hkr.blk HB3.out id
      have b4 := hkr.blk HB4.out id
      have a0 : wr.cell? ⟨g1, k * 4, none⟩ = some (.int .i64 (PX k)) := (blk_cell b3 _).trans p0
      have a1 : wr.cell? ⟨g1, k * 4 + 1, none⟩ = some (.int .i64 (PY k)) := (blk_cell b3 _).trans p1
      have a2 : wr.cell? ⟨g1, k * 4 + 2, none⟩ = some (.int .i64 (PU k)) := (blk_cell b3 _).trans p2
      have a3 : wr.cell? ⟨g1, k * 4 + 3, none⟩ = some (.int .i64 (PV k)) := (blk_cell b3 _).trans p3
      have e0 : wr.cell? ⟨g2, k * 4, none⟩ = some (.int .i64 (PX k)) := (blk_cell b4 _).trans p0
      have e1 : wr.cell? ⟨g2, k * 4 + 1, none⟩ = some (.int .i64 (PY k)) := (blk_cell b4 _).trans p1
      have e2 : wr.cell? ⟨g2, k * 4 + 2, none⟩ = some (.int .i64 (PU k)) := (blk_cell b4 _).trans p2
      have e3 : wr.cell? ⟨g2, k * 4 + 3, none⟩ = some (.int .i64 (PV k)) := (blk_cell b4 _).trans p3
      have hss : sumP p q (k + 1) = sumP p q k + sizeX (PX k) (PY k) (PU k) (PV k) p q * sizeY (PX k) (PY k) (PU k) (PV k) p q := rfl
      obtain ⟨sm, hsm⟩ : ∃ z, sumP p q k = z := ⟨_, rfl⟩
      obtain ⟨ex, hex⟩ : ∃ z, PX k = z := ⟨_, rfl⟩
      obtain ⟨ey, hey⟩ : ∃ z, PY k = z := ⟨_, rfl⟩
      obtain ⟨eu, heu⟩ : ∃ z, PU k = z := ⟨_, rfl⟩
      obtain ⟨ev, hev⟩ : ∃ z, PV k = z := ⟨_, rfl⟩
      have k1 := sizeX_bd ex ey eu ev p q
      have k2 := sizeY_bd ex ey eu ev p q
      have k3 := mul_bd k1.1 k1.2 k2.1 k2.2
      rw [hex] at a0 e0 hss q0
      rw [hey] at a1 e1 hss q1
      rw [heu] at a2 e2 hss q2 q3
      rw [hev] at a3 e3 hss q4 q5
      rw [hsm] at hss hb ⊢
      have s1 : (0 : Int) ≤ (k : Int) := by omega
      have s2 : (k : Int) < 7 := by omega
      have HSS := Lib.hid hss
      clear p0 p1 p2 p3 b3 b4 hsm hex hey heu hev hss
      go_wp2
      go_quiet (fail)
      generalize hwd : World.drewN _ _ = wd
      have hkd : Kept (fun _ => False) w4 wd := by rw [← hwd]; exact hkr.drewN _
      have a0 : wd.cell? ⟨g1, k * 4, none⟩ = some (.int .i64 ex) := by rw [← hwd]; exact a0
      have a1 : wd.cell? ⟨g1, k * 4 + 1, none⟩ = some (.int .i64 ey) := by rw [← hwd]; exact a1
      have a2 : wd.cell? ⟨g1, k * 4 + 2, none⟩ = some (.int .i64 eu) := by rw [← hwd]; exact a2
      have a3 : wd.cell? ⟨g1, k * 4 + 3, none⟩ = some (.int .i64 ev) := by rw [← hwd]; exact a3
      clear hwd e0 e1 e2 e3
      go_wp2_with fail
      refine (size_any ex ey eu ev p q _ (by unfold Q; omega) (by unfold Q; omega) (by unfold Q; omega) (by unfold Q; omega) bp bq).mono ?_
      rintro e w5 ⟨rfl, hk5⟩
      obtain ⟨tx, htx⟩ : ∃ z, sizeX ex ey eu ev p q = z := ⟨_, rfl⟩
      obtain ⟨ty, hty⟩ : ∃ z, sizeY ex ey eu ev p q = z := ⟨_, rfl⟩
      rw [htx, hty] at HSS k3 ⊢
      have k4 := k3.1
      have k5 := k3.2
      clear htx hty k1 k2 k3 a0 a1 a2 a3
      go_wp2
      go_roundw
      case rel => exact ⟨k + 1, by omega, by go_num, vint HSS.out.symm, hkd.then hk5⟩
      case measure => simp [intOf]; omega
    · obtain rfl : k = 7 := by omega
      have hall := sumP_all p q
      have hkf := hkw4.then hkr
      obtain ⟨sm, hsm⟩ : ∃ z, sumP p q 7 = z := ⟨_, rfl⟩
      rw [hsm] at hall hb ⊢
      clear hsm
      unfold Q at bp bq
      by_cases h1 : p < 1
      · have gh1 : decide (p < 1) = true := decide_eq_true h1
        have hz : sm = 0 := by rw [hall, if_pos (by omega)]
        subst hz
        clear hall hb
        go_wp2
        go_ret
        exact ⟨rfl, hkf⟩
      have gh1 : decide (p < 1) = false := decide_eq_false h1
      by_cases h2 : q < 1
      · have gh2 : decide (q < 1) = true := decide_eq_true h2
        have hz : sm = 0 := by rw [hall, if_pos (by omega)]
        subst hz
        clear hall hb
        go_wp2
        go_ret
        exact ⟨rfl, hkf⟩
      have gh2 : decide (q < 1) = false := decide_eq_false h2
      by_cases h3 : 16384 < p
      · have gh3 : decide (16384 < p) = true := decide_eq_true h3
        have hz : sm = 0 := by rw [hall, if_pos (by omega)]
        subst hz
        clear hall hb
        go_wp2
        go_ret
        exact ⟨rfl, hkf⟩
      have gh3 : decide (16384 < p) = false := decide_eq_false h3
      by_cases h4 : 16384 < q
      · have gh4 : decide (16384 < q) = true := decide_eq_true h4
        have hz : sm = 0 := by rw [hall, if_pos (by omega)]
        subst hz
        clear hall hb
        go_wp2
        go_ret
        exact ⟨rfl, hkf⟩
      have gh4 : decide (16384 < q) = false := decide_eq_false h4
      have hz : sm = p * q := by rw [hall, if_neg (by omega)]
      have m1 := mul_bd (show 0 ≤ p by omega) (show p ≤ 16384 by omega) (show 0 ≤ q by omega) (show q ≤ 16384 by omega)
      have m2 := m1.1
      have m3 := m1.2
      subst hz
      clear hall hb m1
      go_wp2
      go_ret
      exact ⟨ret_bool (by simp), hkf⟩
theorem law_passes {x y dx dy p q : Int} {w : World} (f0 : (Lit.int .i64 x).wf = true ∧ (Lit.int .i64 y).wf = true ∧ (Lit.int .i64 dx).wf = true ∧ (Lit.int .i64 dy).wf = true) (f1 : (Lit.int .i64 p).wf = true) (f2 : (Lit.int .i64 q).wf = true) :
    Calls Try.prog 5 #[.agg #[.int .i64 x, .int .i64 y, .int .i64 dx, .int .i64 dy], .int .i64 p, .int .i64 q] w fun e w' => e = .returned (.bool true) ∧ Below w.heap.size w w' := by
  obtain ⟨k1, k2, k3, k4⟩ := f0
  exact (passes_go x y dx dy p q w (int_of_wf k1) (int_of_wf k2) (int_of_wf k3) (int_of_wf k4) (int_of_wf f1) (int_of_wf f2)).mono fun _ _ h => ⟨h.1, h.2.below⟩
end Go.Proofs.Ytgpgjpmgnbaneaa
