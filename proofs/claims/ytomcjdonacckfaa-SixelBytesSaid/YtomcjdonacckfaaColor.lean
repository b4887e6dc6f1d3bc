/- A register's command: color. -/
import Derived.Test.YtomcjdonacckfaaNum
import Derived.Test.YtomcjdonacckfaaHls
import Derived.Deep.RegionHeld3
import Derived.Test.YtomcjdonacckfaaGrow
namespace Go.Proofs.Ytomcjdonacckfaa
open Go.RowKit
set_option linter.unusedVariables false
set_option linter.unusedSimpArgs false
attribute [local go_sem] growOp growUpon sameUpon
theorem store3 {w : World} {q : Nat} {t : TypeId} {x0 x1 x2 : Value} (h : w.heap[q]? = some (.cells #[x0, x1, x2] t (0, 0))) (y0 y1 y2 : Value) :
    ∃ V1 V2 V3, w.setCell ⟨q, 0, none⟩ y0 = V1 ∧ V1.setCell ⟨q, 1, none⟩ y1 = V2 ∧ V2.setCell ⟨q, 2, none⟩ y2 = V3 ∧
      (w.cell? ⟨q, 0, none⟩ = some x0 ∧ w.frozen? ⟨q, 0, none⟩ = false) ∧ (V1.cell? ⟨q, 1, none⟩ = some x1 ∧ V1.frozen? ⟨q, 1, none⟩ = false) ∧ (V2.cell? ⟨q, 2, none⟩ = some x2 ∧ V2.frozen? ⟨q, 2, none⟩ = false) ∧
      V3.heap[q]? = some (.cells #[y0, y1, y2] t (0, 0)) ∧ Kept (fun i => i = q) w V3 := by
  have h1 := blk_set h 0 y0
  have h2 := blk_set h1 1 y1
  have h3 := blk_set h2 2 y2
  exact ⟨_, _, _, rfl, rfl, rfl, (blk3 h).1, (blk3 h1).2.1, (blk3 h2).2.2, h3, (((Kept.refl (fun i => i = q) w).setCell (p := ⟨q, 0, none⟩) (.inl rfl) _).setCell (p := ⟨q, 1, none⟩) (.inl rfl) _).setCell (p := ⟨q, 2, none⟩) (.inl rfl) _⟩
theorem Turn.upTo {G S : Nat → Prop} {w W W' : World} {a : Nat} {d : Dec} (h : Turn G w W a d) (hk : Kept S W W') (hS : ∀ i, S i → W.heap.size ≤ i) : Turn G w W' a d :=
  h.up ⟨hk.os, hk.tape, hk.output, hk.size, fun k h1 _ => hk.block k h1 (fun h2 => by have := hS k h2; omega)⟩
theorem part5 (i : Nat) (x0 x1 x2 : Value) (w : World) (hi : i < 3) : (part 5 #[x0, x1, x2] i).run Try.prog w = .ok (#[x0, x1, x2].getD i undef) w := by
  rcases i with _ | _ | _ | i <;> first | omega | kernel_rfl
theorem eqIn3 (d t : Nat) (ht : Try.prog.underlying t = some (.array 3 5)) (a0 a1 a2 b0 b1 b2 : Int) (w : World) : (Op.equalIn (d + 3) t (tri a0 a1 a2) (tri b0 b1 b2)).run Try.prog w = .ok (a0 == b0 && (a1 == b1 && a2 == b2)) w := by
  have h5 : ∀ (n : Nat) (a b : Int) (w : World), (Op.equalIn (n + 1) 5 (.int .u8 a) (.int .u8 b)).run Try.prog w = .ok (a == b) w := fun n a b w => run_equalIn_int w n 5 .u8 .u8 a b Try.underlying5
  unfold Op.equalIn tri
  have hp := part5
  cases h0 : (a0 == b0) <;> cases h1 : (a1 == b1) <;> cases h2 : (a2 == b2) <;>
  simp [run_underlying ht, List.range', hp, h5, h0, h1, h2]
theorem run_eqTri (t : Nat) (ht : Try.prog.underlying t = some (.array 3 5)) (a0 a1 a2 b0 b1 b2 : Int) (w : World) : (binOp .eql t (.agg #[.int .u8 a0, .int .u8 a1, .int .u8 a2]) (.agg #[.int .u8 b0, .int .u8 b1, .int .u8 b2])).run Try.prog w = .ok (.bool (a0 == b0 && (a1 == b1 && a2 == b2))) w := by
  rw [run_eql_struct]; have := eqIn3 9997 t ht a0 a1 a2 b0 b1 b2 w; unfold tri at this; rw [this]; rfl
theorem run_neTri (t : Nat) (ht : Try.prog.underlying t = some (.array 3 5)) (a0 a1 a2 b0 b1 b2 : Int) (w : World) : (binOp .neq t (.agg #[.int .u8 a0, .int .u8 a1, .int .u8 a2]) (.agg #[.int .u8 b0, .int .u8 b1, .int .u8 b2])).run Try.prog w = .ok (.bool (!(a0 == b0 && (a1 == b1 && a2 == b2)))) w := by
  rw [run_neq_struct]; have := eqIn3 9997 t ht a0 a1 a2 b0 b1 b2 w; unfold tri at this; rw [this]; rfl
def hueL (q c x m : Int) : List Int :=
  if q = 0 then [hv c m, hv x m, hv 0 m] else if q = 1 then [hv x m, hv c m, hv 0 m] else if q = 2 then [hv 0 m, hv c m, hv x m]
  else if q = 3 then [hv 0 m, hv x m, hv c m] else if q = 4 then [hv x m, hv 0 m, hv c m] else [hv c m, hv 0 m, hv x m]
def hlsL (h l s : Int) : List Int := if hlsOk h l s = true then hueL ((h + 240) % 360 / 60) (hlsC l s) (hlsX h l s) (100 * l - hlsC l s / 2) else [0, 0, 0]
def triL (l : List Int) : Value := tri (l.getD 0 0) (l.getD 1 0) (l.getD 2 0)
theorem hls_triL (h l s : Int) : hls h l s = triL (hlsL h l s) := by
  unfold hls hlsL hue hueL
  repeat' split
  all_goals rfl
/-- A register is set. -/
def setReg (R : List Int) (k : Nat) (c : List Int) : List Int := ((R.set (3 * k) (c.getD 0 0)).set (3 * k + 1) (c.getD 1 0)).set (3 * k + 2) (c.getD 2 0)
theorem setReg_length (R : List Int) (k : Nat) (c : List Int) : (setReg R k c).length = R.length := by simp [setReg]
theorem setReg_same (R : List Int) (k : Nat) (h : 3 * k + 2 < R.length) : setReg R k [R.getD (3 * k) 0, R.getD (3 * k + 1) 0, R.getD (3 * k + 2) 0] = R := by
  have e : ∀ (L : List Int) (j : Nat), L.set j (L.getD j 0) = L := fun L j => by
    apply List.ext_getElem?
    intro i
    rw [List.getElem?_set]
    split
    · rename_i hi; subst hi
      split
      · rename_i hi; rw [List.getD_eq_getElem?_getD, List.getElem?_eq_getElem hi]; rfl
      · rename_i hi; rw [List.getElem?_eq_none (by omega)]
    · rfl
  show (((R.set (3 * k) (R.getD (3 * k) 0)).set (3 * k + 1) (R.getD (3 * k + 1) 0)).set (3 * k + 2) (R.getD (3 * k + 2) 0)) = R
  rw [e, e, e]
def colOf (d : Dec) : List Int × Bool :=
  if d.n.getD 1 0 = 1 then (hlsL (d.n.getD 2 0) (d.n.getD 3 0) (d.n.getD 4 0), hlsOk (d.n.getD 2 0) (d.n.getD 3 0) (d.n.getD 4 0))
  else if d.n.getD 1 0 = 2 then ([pct (d.n.getD 2 0), pct (d.n.getD 3 0), pct (d.n.getD 4 0)], pctOk (d.n.getD 2 0) && pctOk (d.n.getD 3 0) && pctOk (d.n.getD 4 0))
  else ([0, 0, 0], false)
def Dec.color (d : Dec) : Dec :=
  if 256 ≤ d.n.getD 0 0 then d
  else if d.n.length < 5 ∨ (colOf d).2 = false then { d with now := d.n.getD 0 0 }
  else { d with now := d.n.getD 0 0, l := setReg d.l (d.n.getD 0 0).toNat (colOf d).1 }

set_option maxRecDepth 100000 in
set_option maxHeartbeats 4000000 in
theorem color_far (G : Nat → Prop) (d : Dec) (W : World) (a : Nat) (h : DOwn G W a d) (hl : d.n.length ≤ 5) (hk : 256 ≤ d.n.getD 0 0) :
    Calls Try.prog 41 #[.pointer (some ⟨a, 0, none⟩)] W fun e w' => e = .returned (.tuple #[]) ∧ Turn G W w' a d := by
  have HD := Lib.hid h
  obtain ⟨pv, nv, hb, hp, hn, h1, h2, h3, hG⟩ := h
  have HN := Lib.hid (number_any 0 d W a pv nv hb hn hl)
  have g1 : decide (256 ≤ d.n.getD 0 0) = true := decide_eq_true hk
  clear hb hp hn h1 h2 h3 hG
  obtain ⟨k, hk'⟩ : ∃ k, d.n.getD 0 0 = k := ⟨_, rfl⟩
  rw [hk'] at HN g1
  clear hk hk'
  go_enter Try.func41, Try.ntmps41
  go_wp2_with fail
  refine (HN.out).mono ?_; rintro e w1 ⟨rfl, rfl⟩
  go_wp2
  exact bodyPost_ret (results_none rfl _ _ _) rfl ⟨rfl, Turn.refl HD.out⟩
set_option maxRecDepth 100000 in
set_option maxHeartbeats 4000000 in
theorem color_few (G : Nat → Prop) (d : Dec) (W : World) (a : Nat) (h : DOwn G W a d) (hl : d.n.length < 5) (hk : d.n.getD 0 0 < 256) :
    Calls Try.prog 41 #[.pointer (some ⟨a, 0, none⟩)] W fun e w' => e = .returned (.tuple #[]) ∧ Turn G W w' a { d with now := d.n.getD 0 0 } := by
  have HD := Lib.hid h
  obtain ⟨pv, nv, hb, hp, hn, h1, h2, h3, hG⟩ := h
  have HN := Lib.hid (number_any 0 d W a pv nv hb hn (by omega))
  have g1 : decide (256 ≤ d.n.getD 0 0) = false := decide_eq_false (by omega)
  have g2 : decide (d.n.length < 5) = true := decide_eq_true hl
  obtain ⟨c1, c1'⟩ := hb.fnow
  obtain ⟨k, hk'⟩ : ∃ k, d.n.getD 0 0 = k := ⟨_, rfl⟩
  rw [hk'] at HN g1 ⊢
  obtain ⟨c2, -⟩ := (hb.snow k).fn
  obtain ⟨sa, cap, rfl, -⟩ := hn.shape
  clear hb hp hn h1 h2 h3 hG hk hk'
  go_enter Try.func41, Try.ntmps41
  go_wp2_with fail
  refine (HN.out).mono ?_; rintro e w1 ⟨rfl, rfl⟩
  go_wp2
  exact bodyPost_ret (results_none rfl _ _ _) rfl ⟨rfl, (Turn.refl HD.out).set (fun _ _ h => h.snow k) rfl rfl⟩

set_option maxRecDepth 100000 in
set_option maxHeartbeats 4000000 in
theorem color_else (G : Nat → Prop) (d : Dec) (W : World) (a k : Nat) (h : DOwn G W a d) (hl : d.n.length = 5) (hk : d.n.getD 0 0 = k) (hk256 : k < 256) (hm1 : d.n.getD 1 0 ≠ 1) (hm2 : d.n.getD 1 0 ≠ 2) :
    Calls Try.prog 41 #[.pointer (some ⟨a, 0, none⟩)] W fun e w' => e = .returned (.tuple #[]) ∧ Turn G W w' a { d with now := k } := by
  have HD := Lib.hid h
  obtain ⟨pv, nv, hb, hp, hn, h1, h2, h3, hG⟩ := h
  obtain ⟨x0, x1, x2, x3, x4, hns⟩ : ∃ x0 x1 x2 x3 x4, d.n = [x0, x1, x2, x3, x4] := by
    match d.n, hl with
    | [x0, x1, x2, x3, x4], _ => exact ⟨x0, x1, x2, x3, x4, rfl⟩
  have HN := Lib.hid (number_any 0 d W a pv nv hb hn (by omega))
  rw [hns] at hk
  rw [hns] at HN
  simp only [List.getD_cons_zero] at hk HN
  have hbn := (hb.snow (k : Int))
  obtain ⟨c1, c1'⟩ := hb.fnow
  obtain ⟨W1, hW1⟩ : ∃ W1, W.setCell ⟨a, 770, none⟩ (.int .i64 (k : Int)) = W1 := ⟨_, rfl⟩
  rw [hW1] at hbn
  have hk1 : Kept (fun j => j = a) W W1 := by rw [← hW1]; exact (Kept.refl (fun j => j = a) W).setCell (p := ⟨a, 770, none⟩) (.inl rfl) _
  have HT1 := Lib.hid (show Turn G W W1 a { d with now := (k : Int) } by rw [← hW1]; exact (Turn.refl HD.out).set (fun _ _ h => h.snow _) rfl rfl)
  have hn1 : Own .i64 3 W1 nv d.n := hn.kept hk1 (fun b hb hba => h2 (by rw [hb]; exact congrArg some hba))
  obtain ⟨W2, hW2⟩ : ∃ W2, W1.alloc (.cells #[.int .u8 0, .int .u8 0, .int .u8 0] 70) = W2 := ⟨_, rfl⟩
  have hk2 : Kept (fun _ => False) W1 W2 := by rw [← hW2]; exact (Kept.refl _ W1).alloc _
  have hC2 : W2.heap[W1.heap.size]? = some (.cells #[.int .u8 0, .int .u8 0, .int .u8 0] 70 (0, 0)) := by rw [← hW2]; exact blk_new _ _
  have hb2 := hbn.kept hk2 id
  have hn2 := hn1.kept hk2 (fun _ _ => id)
  obtain ⟨c2, -⟩ := hbn.fn
  obtain ⟨c3, -⟩ := hb2.fn
  obtain ⟨sa, cap, rfl, hs, hcap1, -⟩ := hn2.shape
  rw [hns] at hs hn2 hcap1
  obtain ⟨-, h0 | ⟨b, off, rfl, hc⟩⟩ := hs
  · exact absurd h0 (by simp)
  have hcap : 5 ≤ cap := by simpa using hcap1
  have y1 : W2.cell? ⟨b, off + 1, none⟩ = some (.int .i64 x1) := hc 1 (by show 1 < 5; omega)
  have y2 : W2.cell? ⟨b, off + 2, none⟩ = some (.int .i64 x2) := hc 2 (by show 2 < 5; omega)
  have y3 : W2.cell? ⟨b, off + 3, none⟩ = some (.int .i64 x3) := hc 3 (by show 3 < 5; omega)
  have y4 : W2.cell? ⟨b, off + 4, none⟩ = some (.int .i64 x4) := hc 4 (by show 4 < 5; omega)
  have hlen : d.n.length = 5 := hl
  rw [hlen] at c2 c3 hb2
  have g1 : decide ((256 : Int) ≤ (k : Int)) = false := decide_eq_false (by omega)
  have HNL := Lib.hid hn1.lt
  have haq := hbn.lt
  have HAQ := Lib.hid haq
  clear haq
  have HLL := Lib.hid hbn.1
  have HB2 := Lib.hid hb2
  have HC2 := Lib.hid hC2
  have HK2 := Lib.hid hk2
  clear hb hp hn h1 h2 h3 hG hbn hn1 hn2 hb2 hC2 hc hk1 hk2 hcap1
  have hkk : x0 = (k : Int) := hk
  rw [hkk] at HN
  rw [hns] at hm1 hm2
  have g3 : (x1 == 1) = false := by simpa using hm1
  have g4 : (x1 == 2) = false := by simpa using hm2
  clear y2 y3 y4 hm1 hm2
  obtain ⟨DR, hDR⟩ : ∃ D, { d with now := (k : Int) } = D := ⟨_, rfl⟩
  rw [hDR]
  have HDR := Lib.hid hDR
  clear hDR
  go_enter Try.func41, Try.ntmps41
  go_wp2_with fail
  refine (HN.out).mono ?_; rintro e w1 ⟨rfl, hw1⟩; rw [hw1]; clear hw1 w1
  go_wp2_with fail
  go_quiet (fail)
  go_wp2
  go_end0
  exact ⟨rfl, by rw [← HDR.out]; exact HT1.out.up (HK2.out.drewN _)⟩

set_option maxRecDepth 100000 in
set_option maxHeartbeats 4000000 in
theorem color_hls (G : Nat → Prop) (d : Dec) (W : World) (a k : Nat) (h : DOwn G W a d) (hl : d.n.length = 5) (hk : d.n.getD 0 0 = k) (hk256 : k < 256) (hm1 : d.n.getD 1 0 = 1) :
    Calls Try.prog 41 #[.pointer (some ⟨a, 0, none⟩)] W fun e w' => e = .returned (.tuple #[]) ∧ Turn G W w' a (if (colOf d).2 = false then { d with now := k } else { d with now := k, l := setReg d.l k (colOf d).1 }) := by
  have HD := Lib.hid h
  obtain ⟨pv, nv, hb, hp, hn, h1, h2, h3, hG⟩ := h
  obtain ⟨x0, x1, x2, x3, x4, hns⟩ : ∃ x0 x1 x2 x3 x4, d.n = [x0, x1, x2, x3, x4] := by
    match d.n, hl with
    | [x0, x1, x2, x3, x4], _ => exact ⟨x0, x1, x2, x3, x4, rfl⟩
  have HN := Lib.hid (number_any 0 d W a pv nv hb hn (by omega))
  rw [hns] at hk
  rw [hns] at HN
  simp only [List.getD_cons_zero] at hk HN
  have hbn := (hb.snow (k : Int))
  obtain ⟨c1, c1'⟩ := hb.fnow
  obtain ⟨W1, hW1⟩ : ∃ W1, W.setCell ⟨a, 770, none⟩ (.int .i64 (k : Int)) = W1 := ⟨_, rfl⟩
  rw [hW1] at hbn
  have hk1 : Kept (fun j => j = a) W W1 := by rw [← hW1]; exact (Kept.refl (fun j => j = a) W).setCell (p := ⟨a, 770, none⟩) (.inl rfl) _
  have HT1 := Lib.hid (show Turn G W W1 a { d with now := (k : Int) } by rw [← hW1]; exact (Turn.refl HD.out).set (fun _ _ h => h.snow _) rfl rfl)
  have hn1 : Own .i64 3 W1 nv d.n := hn.kept hk1 (fun b hb hba => h2 (by rw [hb]; exact congrArg some hba))
  obtain ⟨W2, hW2⟩ : ∃ W2, W1.alloc (.cells #[.int .u8 0, .int .u8 0, .int .u8 0] 70) = W2 := ⟨_, rfl⟩
  have hk2 : Kept (fun _ => False) W1 W2 := by rw [← hW2]; exact (Kept.refl _ W1).alloc _
  have hC2 : W2.heap[W1.heap.size]? = some (.cells #[.int .u8 0, .int .u8 0, .int .u8 0] 70 (0, 0)) := by rw [← hW2]; exact blk_new _ _
  have hb2 := hbn.kept hk2 id
  have hn2 := hn1.kept hk2 (fun _ _ => id)
  obtain ⟨c2, -⟩ := hbn.fn
  obtain ⟨c3, -⟩ := hb2.fn
  obtain ⟨sa, cap, rfl, hs, hcap1, -⟩ := hn2.shape
  rw [hns] at hs hn2 hcap1
  obtain ⟨-, h0 | ⟨b, off, rfl, hc⟩⟩ := hs
  · exact absurd h0 (by simp)
  have hcap : 5 ≤ cap := by simpa using hcap1
  have y1 : W2.cell? ⟨b, off + 1, none⟩ = some (.int .i64 x1) := hc 1 (by show 1 < 5; omega)
  have y2 : W2.cell? ⟨b, off + 2, none⟩ = some (.int .i64 x2) := hc 2 (by show 2 < 5; omega)
  have y3 : W2.cell? ⟨b, off + 3, none⟩ = some (.int .i64 x3) := hc 3 (by show 3 < 5; omega)
  have y4 : W2.cell? ⟨b, off + 4, none⟩ = some (.int .i64 x4) := hc 4 (by show 4 < 5; omega)
  have hlen : d.n.length = 5 := hl
  rw [hlen] at c2 c3 hb2
  have g1 : decide ((256 : Int) ≤ (k : Int)) = false := decide_eq_false (by omega)
  have HNL := Lib.hid hn1.lt
  have haq := hbn.lt
  have HAQ := Lib.hid haq
  clear haq
  have HLL := Lib.hid hbn.1
  have HB2 := Lib.hid hb2
  have HC2 := Lib.hid hC2
  have HK2 := Lib.hid hk2
  clear hb hp hn h1 h2 h3 hG hbn hn1 hn2 hb2 hC2 hc hk1 hk2 hcap1
  have hkk : x0 = (k : Int) := hk
  rw [hkk] at HN
  rw [hns] at hm1
  have hm1' : x1 = 1 := hm1
  subst hm1'
  have hco : colOf d = (hlsL x2 x3 x4, hlsOk x2 x3 x4) := by unfold colOf; rw [hns]; rfl
  rw [hco]
  have hcol := hls_any x2 x3 x4
  rw [hls_triL] at hcol
  have hbyl : (hlsL x2 x3 x4).length = 3 := by unfold hlsL hueL; (repeat' split) <;> rfl
  obtain ⟨r, g, b', hrgb⟩ : ∃ r g b', hlsL x2 x3 x4 = [r, g, b'] := by
    match hlsL x2 x3 x4, hbyl with
    | [r, g, b'], _ => exact ⟨r, g, b', rfl⟩
  obtain ⟨ok, hok⟩ : ∃ ok, hlsOk x2 x3 x4 = ok := ⟨_, rfl⟩
  simp only [hrgb, hok, triL, List.getD_cons_zero, List.getD_cons_succ] at hcol ⊢
  have HCOL := Lib.hid hcol
  clear hcol hm1 hco hbyl hrgb hok
  obtain ⟨DR, hDR⟩ : ∃ D, (if ok = false then { d with now := (k : Int) } else { d with now := (k : Int), l := setReg d.l k [r, g, b'] }) = D := ⟨_, rfl⟩
  rw [hDR]
  have HDR := Lib.hid hDR
  clear hDR
  go_enter Try.func41, Try.ntmps41
  go_wp2_with fail
  refine (HN.out).mono ?_; rintro e w1 ⟨rfl, hw1⟩; rw [hw1]; clear hw1 w1
  go_wp2_with fail
  obtain ⟨WR, hWR⟩ : ∃ WR, WR = W2.drew := ⟨_, rfl⟩
  obtain ⟨RC, hRC⟩ : ∃ R : Value → World → Prop, R = fun v _ => v = .tuple #[tri r g b', .bool ok] := ⟨_, rfl⟩
  have hkR : Kept (fun _ => False) W2 WR := by rw [hWR]; exact (Kept.refl _ _).drew
  have z1 : WR.cell? ⟨a, 781, none⟩ = some (.slice (some ⟨b, off, none⟩) 5 cap) := hkR.cell c3 id
  have z2 := hkR.cell y2 id
  have z3 := hkR.cell y3 id
  have z4 := hkR.cell y4 id
  have X1 := cell_regrown z1
  have X2 := cell_regrown z2
  have X3 := cell_regrown z3
  have X4 := cell_regrown z4
  have HRC := Lib.hid hRC
  have HWR := Lib.hid hWR
  have HKR := Lib.hid (HK2.out.then hkR)
  have HCR := Lib.hid (hkR.blk HC2.out id)
  have HBR := Lib.hid (HB2.out.kept hkR id)
  clear hRC hWR hkR c1 c1' c2 c3 y1 y2 y3 y4
  refine wp_region_grow #[0, 1, 3, 7, 15, 31, 0, 64, 192, 448, 960, 1984, 0, 4096, 12288, 28672, 61440, 126976, 262143, 524287, 1048575, 1048575, 2097151, 8388607] 22 [21] (fun i => if i = 18 then some RC else none) (by kernel_rfl) rfl (by kernel_rfl) (fun i hi => by simp at hi; subst hi; rfl) (fun _ _ _ _ _ h => h) ?_
  rintro _ rfl
  rw [← HWR.out]
  simp only [List.take_succ_cons, List.take_zero, List.drop_succ_cons, List.drop_zero, number, Nat.reduceAdd]
  repeat (refine wpGrow_step (fun K hK => ?_); go_simp; refine hK _ _ ?_; clear hK K)
  refine wpGrow_step (fun K hK => ?_)
  go_simp
  refine ⟨fun w' hg => (HCOL.out w').mono (fun e w'' ⟨he, hk⟩ => ⟨_, he, hk, by rw [HRC.out]⟩), fun v w' hv _ => ?_⟩
  rw [HRC.out] at hv
  subst hv
  refine hK _ _ ?_; clear hK K
  repeat (refine wpGrow_step (fun K hK => ?_); go_simp; refine hK _ _ ?_; clear hK K)
  refine wpGrow_nil ?_
  intro w3 hk3 hω
  clear hω z1 z2 z3 z4 X1 X2 X3 X4
  obtain ⟨V1, V2, V3, f1, f2, f3, ⟨e1, e1'⟩, ⟨e2, e2'⟩, ⟨e3, e3'⟩, hcV, hkV⟩ := store3 (hk3.blk HCR.out id) (.int .u8 r) (.int .u8 g) (.int .u8 b')
  unfold tri
  go_wp2
  have hdb : DBlk V3 a { d with now := (k : Int) } pv (.slice (some ⟨b, off, none⟩) 5 cap) := (HBR.out.kept hk3 id).kept hkV (fun h => by have := HAQ.out; have h' : a = W1.heap.size := h; omega)
  have HT3 := Lib.hid (show Turn G W V3 a { d with now := (k : Int) } from HT1.out.upTo ((((HKR.out.then hk3).mono (fun _ _ h => h.elim)).then hkV)) (fun i hi => by have h' : i = W1.heap.size := hi; omega))
  obtain ⟨q0, hq0⟩ : ∃ q0, d.l.getD (3 * k) 0 = q0 := ⟨_, rfl⟩
  obtain ⟨q1, hq1⟩ : ∃ q1, d.l.getD (3 * k + 1) 0 = q1 := ⟨_, rfl⟩
  obtain ⟨q2, hq2⟩ : ∃ q2, d.l.getD (3 * k + 2) 0 = q2 := ⟨_, rfl⟩
  have R0 : V3.cell? ⟨a, 2 + k * 3, none⟩ = some (.int .u8 q0) := by rw [← hq0, Nat.mul_comm k 3]; exact (hdb.reg (3 * k) (by omega)).1
  have R1 : V3.cell? ⟨a, 2 + k * 3 + 1, none⟩ = some (.int .u8 q1) := by rw [← hq1, Nat.mul_comm k 3]; exact (hdb.reg (3 * k + 1) (by omega)).1
  have R2 : V3.cell? ⟨a, 2 + k * 3 + 2, none⟩ = some (.int .u8 q2) := by rw [← hq2, Nat.mul_comm k 3]; exact (hdb.reg (3 * k + 2) (by omega)).1
  obtain ⟨⟨p0, -⟩, ⟨p1, -⟩, p2, -⟩ := blk3 hcV
  have HQ := Lib.hid (And.intro hq0 (And.intro hq1 hq2))
  have HDB := Lib.hid hdb
  have hne := run_neTri 70 Try.underlying70
  clear hq0 hq1 hq2 hdb hkV hk3 hcV f1 f2 f3 e1 e1' e2 e2' e3 e3'
  cases ok
  · clear R0 R1 R2 p0 p1 p2
    go_quiet (fail)
    go_wp2
    go_end0
    exact ⟨rfl, by rw [← HDR.out, if_pos trivial]; exact HT3.out.up ((Kept.refl _ _).drewN _)⟩
  by_cases hE : (r == q0 && (g == q1 && b' == q2)) = true
  · go_quiet (fail)
    go_wp2
    go_end0
    refine ⟨rfl, ?_⟩
    rw [← HDR.out, if_neg (by simp)]
    have h1 : r = q0 ∧ g = q1 ∧ b' = q2 := by simpa using hE
    have hl3 := HLL.out
    have e : setReg d.l k [r, g, b'] = d.l := by
      rw [h1.1, h1.2.1, h1.2.2, ← HQ.out.1, ← HQ.out.2.1, ← HQ.out.2.2]
      exact setReg_same d.l k (by have : d.l.length = 768 := hl3; omega)
    rw [e]
    exact HT3.out.up ((Kept.refl _ _).drewN _)
  have hE' : (r == q0 && (g == q1 && b' == q2)) = false := by simpa using hE
  clear hE
  go_quiet (fail)
  go_wp2
  have hk4 : Kept (fun _ => False) V3 (V3.drewN nq) := (Kept.refl _ V3).drewN nq
  generalize V3.drewN nq = V4 at hk4 ⊢
  have u0 := hk4.cell p0 id
  have u1 := hk4.cell p1 id
  have u2 := hk4.cell p2 id
  clear R0 R1 R2 p0 p1 p2 hne
  have hki : (k : Int) < 256 := by omega
  go_still_tail 6, (by kernel_rfl)
  change wpList _ _ _ _ _ V4.drew
  have hk5 : Kept (fun _ => False) V3 V4.drew := hk4.drew
  generalize V4.drew = V5 at hk5 ⊢
  have hd5 := HDB.out.kept hk5 id
  have e3k : ∀ j, 2 + (3 * k + j) = 2 + k * 3 + j := fun j => by omega
  have e3z : 2 + 3 * k = 2 + k * 3 := by omega
  have r0 := hd5.reg (3 * k + 0) (by omega)
  have hd6 := hd5.setReg (3 * k + 0) (by omega) r
  have r1 := hd6.reg (3 * k + 1) (by omega)
  have hd7 := hd6.setReg (3 * k + 1) (by omega) g
  have r2 := hd7.reg (3 * k + 2) (by omega)
  have hT5 := HT3.out.up hk5
  have hT6 := hT5.set (fun _ _ h => h.setReg (3 * k + 0) (by omega) r) rfl rfl
  have hT7 := hT6.set (fun _ _ h => h.setReg (3 * k + 1) (by omega) g) rfl rfl
  have hT8 := hT7.set (fun _ _ h => h.setReg (3 * k + 2) (by omega) b') rfl rfl
  simp only [e3k, e3z, Nat.add_zero] at r0 r1 r2 hT8
  obtain ⟨V6, hV6⟩ : ∃ V, V5.setCell ⟨a, 2 + k * 3, none⟩ (.int .u8 r) = V := ⟨_, rfl⟩
  rw [hV6] at r1 r2 hT8
  obtain ⟨V7, hV7⟩ : ∃ V, V6.setCell ⟨a, 2 + k * 3 + 1, none⟩ (.int .u8 g) = V := ⟨_, rfl⟩
  rw [hV7] at r2 hT8
  obtain ⟨r0, r0'⟩ := r0
  obtain ⟨r1, r1'⟩ := r1
  obtain ⟨r2, r2'⟩ := r2
  have HT8 := Lib.hid hT8
  clear hd5 hd6 hd7 hT5 hT6 hT7 hT8 u0 u1 u2 hk4 hk5
  go_wp2
  go_end0
  refine ⟨rfl, ?_⟩
  rw [← HDR.out, if_neg (by simp)]
  exact HT8.out

set_option maxRecDepth 100000 in
set_option maxHeartbeats 4000000 in
theorem color_pct (G : Nat → Prop) (d : Dec) (W : World) (a k : Nat) (h : DOwn G W a d) (hl : d.n.length = 5) (hk : d.n.getD 0 0 = k) (hk256 : k < 256) (hm1 : d.n.getD 1 0 = 2) :
    Calls Try.prog 41 #[.pointer (some ⟨a, 0, none⟩)] W fun e w' => e = .returned (.tuple #[]) ∧ Turn G W w' a (if (colOf d).2 = false then { d with now := k } else { d with now := k, l := setReg d.l k (colOf d).1 }) := by
  have HD := Lib.hid h
  obtain ⟨pv, nv, hb, hp, hn, h1, h2, h3, hG⟩ := h
  obtain ⟨x0, x1, x2, x3, x4, hns⟩ : ∃ x0 x1 x2 x3 x4, d.n = [x0, x1, x2, x3, x4] := by
    match d.n, hl with
    | [x0, x1, x2, x3, x4], _ => exact ⟨x0, x1, x2, x3, x4, rfl⟩
  have HN := Lib.hid (number_any 0 d W a pv nv hb hn (by omega))
  rw [hns] at hk
  rw [hns] at HN
  simp only [List.getD_cons_zero] at hk HN
  have hbn := (hb.snow (k : Int))
  obtain ⟨c1, c1'⟩ := hb.fnow
  obtain ⟨W1, hW1⟩ : ∃ W1, W.setCell ⟨a, 770, none⟩ (.int .i64 (k : Int)) = W1 := ⟨_, rfl⟩
  rw [hW1] at hbn
  have hk1 : Kept (fun j => j = a) W W1 := by rw [← hW1]; exact (Kept.refl (fun j => j = a) W).setCell (p := ⟨a, 770, none⟩) (.inl rfl) _
  have HT1 := Lib.hid (show Turn G W W1 a { d with now := (k : Int) } by rw [← hW1]; exact (Turn.refl HD.out).set (fun _ _ h => h.snow _) rfl rfl)
  have hn1 : Own .i64 3 W1 nv d.n := hn.kept hk1 (fun b hb hba => h2 (by rw [hb]; exact congrArg some hba))
  obtain ⟨W2, hW2⟩ : ∃ W2, W1.alloc (.cells #[.int .u8 0, .int .u8 0, .int .u8 0] 70) = W2 := ⟨_, rfl⟩
  have hk2 : Kept (fun _ => False) W1 W2 := by rw [← hW2]; exact (Kept.refl _ W1).alloc _
  have hC2 : W2.heap[W1.heap.size]? = some (.cells #[.int .u8 0, .int .u8 0, .int .u8 0] 70 (0, 0)) := by rw [← hW2]; exact blk_new _ _
  have hb2 := hbn.kept hk2 id
  have hn2 := hn1.kept hk2 (fun _ _ => id)
  obtain ⟨c2, -⟩ := hbn.fn
  obtain ⟨c3, -⟩ := hb2.fn
  obtain ⟨sa, cap, rfl, hs, hcap1, -⟩ := hn2.shape
  rw [hns] at hs hn2 hcap1
  obtain ⟨-, h0 | ⟨b, off, rfl, hc⟩⟩ := hs
  · exact absurd h0 (by simp)
  have hcap : 5 ≤ cap := by simpa using hcap1
  have y1 : W2.cell? ⟨b, off + 1, none⟩ = some (.int .i64 x1) := hc 1 (by show 1 < 5; omega)
  have y2 : W2.cell? ⟨b, off + 2, none⟩ = some (.int .i64 x2) := hc 2 (by show 2 < 5; omega)
  have y3 : W2.cell? ⟨b, off + 3, none⟩ = some (.int .i64 x3) := hc 3 (by show 3 < 5; omega)
  have y4 : W2.cell? ⟨b, off + 4, none⟩ = some (.int .i64 x4) := hc 4 (by show 4 < 5; omega)
  have hlen : d.n.length = 5 := hl
  rw [hlen] at c2 c3 hb2
  have g1 : decide ((256 : Int) ≤ (k : Int)) = false := decide_eq_false (by omega)
  have HNL := Lib.hid hn1.lt
  have haq := hbn.lt
  have HAQ := Lib.hid haq
  clear haq
  have HLL := Lib.hid hbn.1
  have HB2 := Lib.hid hb2
  have HC2 := Lib.hid hC2
  have HK2 := Lib.hid hk2
  clear hb hp hn h1 h2 h3 hG hbn hn1 hn2 hb2 hC2 hc hk1 hk2 hcap1
  have hkk : x0 = (k : Int) := hk
  rw [hkk] at HN
  rw [hns] at hm1
  have hm1' : x1 = 2 := hm1
  subst hm1'
  have hco : colOf d = ([pct x2, pct x3, pct x4], pctOk x2 && pctOk x3 && pctOk x4) := by unfold colOf; rw [hns]; rfl
  rw [hco]
  have hq2 := percent_any x2
  have hq3 := percent_any x3
  have hq4 := percent_any x4
  obtain ⟨r, hr⟩ : ∃ r, pct x2 = r := ⟨_, rfl⟩
  obtain ⟨g, hg⟩ : ∃ g, pct x3 = g := ⟨_, rfl⟩
  obtain ⟨b', hb'⟩ : ∃ b', pct x4 = b' := ⟨_, rfl⟩
  obtain ⟨o0, ho0⟩ : ∃ o0, pctOk x2 = o0 := ⟨_, rfl⟩
  obtain ⟨o1, ho1⟩ : ∃ o1, pctOk x3 = o1 := ⟨_, rfl⟩
  obtain ⟨o2, ho2⟩ : ∃ o2, pctOk x4 = o2 := ⟨_, rfl⟩
  rw [hr, ho0] at hq2
  rw [hg, ho1] at hq3
  rw [hb', ho2] at hq4
  rw [hr, hg, hb', ho0, ho1, ho2]
  simp only []
  have HP2 := Lib.hid hq2
  have HP3 := Lib.hid hq3
  have HP4 := Lib.hid hq4
  clear hq2 hq3 hq4 hr hg hb' ho0 ho1 ho2 hm1 hco
  have HBQ := Lib.hid (show b ≠ W1.heap.size from by have := HNL.out b rfl; omega)
  obtain ⟨V1, V2, V3, f1, f2, f3, ⟨e1, e1'⟩, ⟨e2, e2'⟩, ⟨e3, e3'⟩, hcV, hkV⟩ := store3 HC2.out (.int .u8 r) (.int .u8 g) (.int .u8 b')
  have hbq := HBQ.out
  have y3' : V1.cell? ⟨b, off + 3, none⟩ = some (.int .i64 x3) := by rw [← f1]; exact cell_set_other y3 hbq _
  have y4' : V2.cell? ⟨b, off + 4, none⟩ = some (.int .i64 x4) := by rw [← f2, ← f1]; exact cell_set_other (cell_set_other y4 hbq _) hbq _
  have HCV := Lib.hid hcV
  have HKV := Lib.hid hkV
  clear y3 y4 hcV hkV hbq
  cases o0 <;> cases o1 <;> cases o2
  · obtain ⟨DR, hDR⟩ : ∃ D, (if (false && false && false) = false then { d with now := (k : Int) } else { d with now := (k : Int), l := setReg d.l k [r, g, b'] }) = D := ⟨_, rfl⟩
    rw [hDR]
    have HDR := Lib.hid hDR
    clear hDR
    go_enter Try.func41, Try.ntmps41
    go_wp2_with fail
    refine (HN.out).mono ?_; rintro e w1 ⟨rfl, hw1⟩; rw [hw1]; clear hw1 w1
    go_wp2_with fail
    refine wp_loop_rounds 4 ?_
    rw [rounds_succ]
    go_wp2_with fail
    refine (HP2.out _).mono ?_; rintro e w1 ⟨rfl, hw1⟩; rw [hw1]; clear hw1 w1
    go_wp2_with fail
    rw [rounds_succ]
    go_wp2_with fail
    refine (HP3.out _).mono ?_; rintro e w1 ⟨rfl, hw1⟩; rw [hw1]; clear hw1 w1
    go_wp2_with fail
    rw [rounds_succ]
    go_wp2_with fail
    refine (HP4.out _).mono ?_; rintro e w1 ⟨rfl, hw1⟩; rw [hw1]; clear hw1 w1
    go_wp2_with fail
    rw [rounds_succ]
    go_wp2
    have HBR := HB2
    have HKR := HK2
    have hk3 : Kept (fun _ => False) W2 W2 := Kept.refl _ _
    have hcV := HCV.out
    have hkV := HKV.out
    have hdb : DBlk V3 a { d with now := (k : Int) } pv (.slice (some ⟨b, off, none⟩) 5 cap) := (HBR.out.kept hk3 id).kept hkV (fun h => by have := HAQ.out; have h' : a = W1.heap.size := h; omega)
    have HT3 := Lib.hid (show Turn G W V3 a { d with now := (k : Int) } from HT1.out.upTo ((((HKR.out.then hk3).mono (fun _ _ h => h.elim)).then hkV)) (fun i hi => by have h' : i = W1.heap.size := hi; omega))
    obtain ⟨q0, hq0⟩ : ∃ q0, d.l.getD (3 * k) 0 = q0 := ⟨_, rfl⟩
    obtain ⟨q1, hq1⟩ : ∃ q1, d.l.getD (3 * k + 1) 0 = q1 := ⟨_, rfl⟩
    obtain ⟨q2, hq2⟩ : ∃ q2, d.l.getD (3 * k + 2) 0 = q2 := ⟨_, rfl⟩
    have R0 : V3.cell? ⟨a, 2 + k * 3, none⟩ = some (.int .u8 q0) := by rw [← hq0, Nat.mul_comm k 3]; exact (hdb.reg (3 * k) (by omega)).1
    have R1 : V3.cell? ⟨a, 2 + k * 3 + 1, none⟩ = some (.int .u8 q1) := by rw [← hq1, Nat.mul_comm k 3]; exact (hdb.reg (3 * k + 1) (by omega)).1
    have R2 : V3.cell? ⟨a, 2 + k * 3 + 2, none⟩ = some (.int .u8 q2) := by rw [← hq2, Nat.mul_comm k 3]; exact (hdb.reg (3 * k + 2) (by omega)).1
    obtain ⟨⟨p0, -⟩, ⟨p1, -⟩, p2, -⟩ := blk3 hcV
    have HQ := Lib.hid (And.intro hq0 (And.intro hq1 hq2))
    have HDB := Lib.hid hdb
    have hne := run_neTri 70 Try.underlying70
    clear hq0 hq1 hq2 hdb hkV hk3 hcV f1 f2 f3 e1 e1' e2 e2' e3 e3'
    clear R0 R1 R2 p0 p1 p2
    go_quiet (fail)
    go_wp2
    go_end0
    exact ⟨rfl, by rw [← HDR.out, if_pos (by rfl)]; exact HT3.out.up ((Kept.refl _ _).drewN _)⟩
  · obtain ⟨DR, hDR⟩ : ∃ D, (if (false && false && true) = false then { d with now := (k : Int) } else { d with now := (k : Int), l := setReg d.l k [r, g, b'] }) = D := ⟨_, rfl⟩
    rw [hDR]
    have HDR := Lib.hid hDR
    clear hDR
    go_enter Try.func41, Try.ntmps41
    go_wp2_with fail
    refine (HN.out).mono ?_; rintro e w1 ⟨rfl, hw1⟩; rw [hw1]; clear hw1 w1
    go_wp2_with fail
    refine wp_loop_rounds 4 ?_
    rw [rounds_succ]
    go_wp2_with fail
    refine (HP2.out _).mono ?_; rintro e w1 ⟨rfl, hw1⟩; rw [hw1]; clear hw1 w1
    go_wp2_with fail
    rw [rounds_succ]
    go_wp2_with fail
    refine (HP3.out _).mono ?_; rintro e w1 ⟨rfl, hw1⟩; rw [hw1]; clear hw1 w1
    go_wp2_with fail
    rw [rounds_succ]
    go_wp2_with fail
    refine (HP4.out _).mono ?_; rintro e w1 ⟨rfl, hw1⟩; rw [hw1]; clear hw1 w1
    go_wp2_with fail
    rw [rounds_succ]
    go_wp2
    have HBR := HB2
    have HKR := HK2
    have hk3 : Kept (fun _ => False) W2 W2 := Kept.refl _ _
    have hcV := HCV.out
    have hkV := HKV.out
    have hdb : DBlk V3 a { d with now := (k : Int) } pv (.slice (some ⟨b, off, none⟩) 5 cap) := (HBR.out.kept hk3 id).kept hkV (fun h => by have := HAQ.out; have h' : a = W1.heap.size := h; omega)
    have HT3 := Lib.hid (show Turn G W V3 a { d with now := (k : Int) } from HT1.out.upTo ((((HKR.out.then hk3).mono (fun _ _ h => h.elim)).then hkV)) (fun i hi => by have h' : i = W1.heap.size := hi; omega))
    obtain ⟨q0, hq0⟩ : ∃ q0, d.l.getD (3 * k) 0 = q0 := ⟨_, rfl⟩
    obtain ⟨q1, hq1⟩ : ∃ q1, d.l.getD (3 * k + 1) 0 = q1 := ⟨_, rfl⟩
    obtain ⟨q2, hq2⟩ : ∃ q2, d.l.getD (3 * k + 2) 0 = q2 := ⟨_, rfl⟩
    have R0 : V3.cell? ⟨a, 2 + k * 3, none⟩ = some (.int .u8 q0) := by rw [← hq0, Nat.mul_comm k 3]; exact (hdb.reg (3 * k) (by omega)).1
    have R1 : V3.cell? ⟨a, 2 + k * 3 + 1, none⟩ = some (.int .u8 q1) := by rw [← hq1, Nat.mul_comm k 3]; exact (hdb.reg (3 * k + 1) (by omega)).1
    have R2 : V3.cell? ⟨a, 2 + k * 3 + 2, none⟩ = some (.int .u8 q2) := by rw [← hq2, Nat.mul_comm k 3]; exact (hdb.reg (3 * k + 2) (by omega)).1
    obtain ⟨⟨p0, -⟩, ⟨p1, -⟩, p2, -⟩ := blk3 hcV
    have HQ := Lib.hid (And.intro hq0 (And.intro hq1 hq2))
    have HDB := Lib.hid hdb
    have hne := run_neTri 70 Try.underlying70
    clear hq0 hq1 hq2 hdb hkV hk3 hcV f1 f2 f3 e1 e1' e2 e2' e3 e3'
    clear R0 R1 R2 p0 p1 p2
    go_quiet (fail)
    go_wp2
    go_end0
    exact ⟨rfl, by rw [← HDR.out, if_pos (by rfl)]; exact HT3.out.up ((Kept.refl _ _).drewN _)⟩
  · obtain ⟨DR, hDR⟩ : ∃ D, (if (false && true && false) = false then { d with now := (k : Int) } else { d with now := (k : Int), l := setReg d.l k [r, g, b'] }) = D := ⟨_, rfl⟩
    rw [hDR]
    have HDR := Lib.hid hDR
    clear hDR
    go_enter Try.func41, Try.ntmps41
    go_wp2_with fail
    refine (HN.out).mono ?_; rintro e w1 ⟨rfl, hw1⟩; rw [hw1]; clear hw1 w1
    go_wp2_with fail
    refine wp_loop_rounds 4 ?_
    rw [rounds_succ]
    go_wp2_with fail
    refine (HP2.out _).mono ?_; rintro e w1 ⟨rfl, hw1⟩; rw [hw1]; clear hw1 w1
    go_wp2_with fail
    rw [rounds_succ]
    go_wp2_with fail
    refine (HP3.out _).mono ?_; rintro e w1 ⟨rfl, hw1⟩; rw [hw1]; clear hw1 w1
    go_wp2_with fail
    rw [rounds_succ]
    go_wp2_with fail
    refine (HP4.out _).mono ?_; rintro e w1 ⟨rfl, hw1⟩; rw [hw1]; clear hw1 w1
    go_wp2_with fail
    rw [rounds_succ]
    go_wp2
    have HBR := HB2
    have HKR := HK2
    have hk3 : Kept (fun _ => False) W2 W2 := Kept.refl _ _
    have hcV := HCV.out
    have hkV := HKV.out
    have hdb : DBlk V3 a { d with now := (k : Int) } pv (.slice (some ⟨b, off, none⟩) 5 cap) := (HBR.out.kept hk3 id).kept hkV (fun h => by have := HAQ.out; have h' : a = W1.heap.size := h; omega)
    have HT3 := Lib.hid (show Turn G W V3 a { d with now := (k : Int) } from HT1.out.upTo ((((HKR.out.then hk3).mono (fun _ _ h => h.elim)).then hkV)) (fun i hi => by have h' : i = W1.heap.size := hi; omega))
    obtain ⟨q0, hq0⟩ : ∃ q0, d.l.getD (3 * k) 0 = q0 := ⟨_, rfl⟩
    obtain ⟨q1, hq1⟩ : ∃ q1, d.l.getD (3 * k + 1) 0 = q1 := ⟨_, rfl⟩
    obtain ⟨q2, hq2⟩ : ∃ q2, d.l.getD (3 * k + 2) 0 = q2 := ⟨_, rfl⟩
    have R0 : V3.cell? ⟨a, 2 + k * 3, none⟩ = some (.int .u8 q0) := by rw [← hq0, Nat.mul_comm k 3]; exact (hdb.reg (3 * k) (by omega)).1
    have R1 : V3.cell? ⟨a, 2 + k * 3 + 1, none⟩ = some (.int .u8 q1) := by rw [← hq1, Nat.mul_comm k 3]; exact (hdb.reg (3 * k + 1) (by omega)).1
    have R2 : V3.cell? ⟨a, 2 + k * 3 + 2, none⟩ = some (.int .u8 q2) := by rw [← hq2, Nat.mul_comm k 3]; exact (hdb.reg (3 * k + 2) (by omega)).1
    obtain ⟨⟨p0, -⟩, ⟨p1, -⟩, p2, -⟩ := blk3 hcV
    have HQ := Lib.hid (And.intro hq0 (And.intro hq1 hq2))
    have HDB := Lib.hid hdb
    have hne := run_neTri 70 Try.underlying70
    clear hq0 hq1 hq2 hdb hkV hk3 hcV f1 f2 f3 e1 e1' e2 e2' e3 e3'
    clear R0 R1 R2 p0 p1 p2
    go_quiet (fail)
    go_wp2
    go_end0
    exact ⟨rfl, by rw [← HDR.out, if_pos (by rfl)]; exact HT3.out.up ((Kept.refl _ _).drewN _)⟩
  · obtain ⟨DR, hDR⟩ : ∃ D, (if (false && true && true) = false then { d with now := (k : Int) } else { d with now := (k : Int), l := setReg d.l k [r, g, b'] }) = D := ⟨_, rfl⟩
    rw [hDR]
    have HDR := Lib.hid hDR
    clear hDR
    go_enter Try.func41, Try.ntmps41
    go_wp2_with fail
    refine (HN.out).mono ?_; rintro e w1 ⟨rfl, hw1⟩; rw [hw1]; clear hw1 w1
    go_wp2_with fail
    refine wp_loop_rounds 4 ?_
    rw [rounds_succ]
    go_wp2_with fail
    refine (HP2.out _).mono ?_; rintro e w1 ⟨rfl, hw1⟩; rw [hw1]; clear hw1 w1
    go_wp2_with fail
    rw [rounds_succ]
    go_wp2_with fail
    refine (HP3.out _).mono ?_; rintro e w1 ⟨rfl, hw1⟩; rw [hw1]; clear hw1 w1
    go_wp2_with fail
    rw [rounds_succ]
    go_wp2_with fail
    refine (HP4.out _).mono ?_; rintro e w1 ⟨rfl, hw1⟩; rw [hw1]; clear hw1 w1
    go_wp2_with fail
    rw [rounds_succ]
    go_wp2
    have HBR := HB2
    have HKR := HK2
    have hk3 : Kept (fun _ => False) W2 W2 := Kept.refl _ _
    have hcV := HCV.out
    have hkV := HKV.out
    have hdb : DBlk V3 a { d with now := (k : Int) } pv (.slice (some ⟨b, off, none⟩) 5 cap) := (HBR.out.kept hk3 id).kept hkV (fun h => by have := HAQ.out; have h' : a = W1.heap.size := h; omega)
    have HT3 := Lib.hid (show Turn G W V3 a { d with now := (k : Int) } from HT1.out.upTo ((((HKR.out.then hk3).mono (fun _ _ h => h.elim)).then hkV)) (fun i hi => by have h' : i = W1.heap.size := hi; omega))
    obtain ⟨q0, hq0⟩ : ∃ q0, d.l.getD (3 * k) 0 = q0 := ⟨_, rfl⟩
    obtain ⟨q1, hq1⟩ : ∃ q1, d.l.getD (3 * k + 1) 0 = q1 := ⟨_, rfl⟩
    obtain ⟨q2, hq2⟩ : ∃ q2, d.l.getD (3 * k + 2) 0 = q2 := ⟨_, rfl⟩
    have R0 : V3.cell? ⟨a, 2 + k * 3, none⟩ = some (.int .u8 q0) := by rw [← hq0, Nat.mul_comm k 3]; exact (hdb.reg (3 * k) (by omega)).1
    have R1 : V3.cell? ⟨a, 2 + k * 3 + 1, none⟩ = some (.int .u8 q1) := by rw [← hq1, Nat.mul_comm k 3]; exact (hdb.reg (3 * k + 1) (by omega)).1
    have R2 : V3.cell? ⟨a, 2 + k * 3 + 2, none⟩ = some (.int .u8 q2) := by rw [← hq2, Nat.mul_comm k 3]; exact (hdb.reg (3 * k + 2) (by omega)).1
    obtain ⟨⟨p0, -⟩, ⟨p1, -⟩, p2, -⟩ := blk3 hcV
    have HQ := Lib.hid (And.intro hq0 (And.intro hq1 hq2))
    have HDB := Lib.hid hdb
    have hne := run_neTri 70 Try.underlying70
    clear hq0 hq1 hq2 hdb hkV hk3 hcV f1 f2 f3 e1 e1' e2 e2' e3 e3'
    clear R0 R1 R2 p0 p1 p2
    go_quiet (fail)
    go_wp2
    go_end0
    exact ⟨rfl, by rw [← HDR.out, if_pos (by rfl)]; exact HT3.out.up ((Kept.refl _ _).drewN _)⟩
  · obtain ⟨DR, hDR⟩ : ∃ D, (if (true && false && false) = false then { d with now := (k : Int) } else { d with now := (k : Int), l := setReg d.l k [r, g, b'] }) = D := ⟨_, rfl⟩
    rw [hDR]
    have HDR := Lib.hid hDR
    clear hDR
    go_enter Try.func41, Try.ntmps41
    go_wp2_with fail
    refine (HN.out).mono ?_; rintro e w1 ⟨rfl, hw1⟩; rw [hw1]; clear hw1 w1
    go_wp2_with fail
    refine wp_loop_rounds 4 ?_
    rw [rounds_succ]
    go_wp2_with fail
    refine (HP2.out _).mono ?_; rintro e w1 ⟨rfl, hw1⟩; rw [hw1]; clear hw1 w1
    go_wp2_with fail
    rw [rounds_succ]
    go_wp2_with fail
    refine (HP3.out _).mono ?_; rintro e w1 ⟨rfl, hw1⟩; rw [hw1]; clear hw1 w1
    go_wp2_with fail
    rw [rounds_succ]
    go_wp2_with fail
    refine (HP4.out _).mono ?_; rintro e w1 ⟨rfl, hw1⟩; rw [hw1]; clear hw1 w1
    go_wp2_with fail
    rw [rounds_succ]
    go_wp2
    have HBR := HB2
    have HKR := HK2
    have hk3 : Kept (fun _ => False) W2 W2 := Kept.refl _ _
    have hcV := HCV.out
    have hkV := HKV.out
    have hdb : DBlk V3 a { d with now := (k : Int) } pv (.slice (some ⟨b, off, none⟩) 5 cap) := (HBR.out.kept hk3 id).kept hkV (fun h => by have := HAQ.out; have h' : a = W1.heap.size := h; omega)
    have HT3 := Lib.hid (show Turn G W V3 a { d with now := (k : Int) } from HT1.out.upTo ((((HKR.out.then hk3).mono (fun _ _ h => h.elim)).then hkV)) (fun i hi => by have h' : i = W1.heap.size := hi; omega))
    obtain ⟨q0, hq0⟩ : ∃ q0, d.l.getD (3 * k) 0 = q0 := ⟨_, rfl⟩
    obtain ⟨q1, hq1⟩ : ∃ q1, d.l.getD (3 * k + 1) 0 = q1 := ⟨_, rfl⟩
    obtain ⟨q2, hq2⟩ : ∃ q2, d.l.getD (3 * k + 2) 0 = q2 := ⟨_, rfl⟩
    have R0 : V3.cell? ⟨a, 2 + k * 3, none⟩ = some (.int .u8 q0) := by rw [← hq0, Nat.mul_comm k 3]; exact (hdb.reg (3 * k) (by omega)).1
    have R1 : V3.cell? ⟨a, 2 + k * 3 + 1, none⟩ = some (.int .u8 q1) := by rw [← hq1, Nat.mul_comm k 3]; exact (hdb.reg (3 * k + 1) (by omega)).1
    have R2 : V3.cell? ⟨a, 2 + k * 3 + 2, none⟩ = some (.int .u8 q2) := by rw [← hq2, Nat.mul_comm k 3]; exact (hdb.reg (3 * k + 2) (by omega)).1
    obtain ⟨⟨p0, -⟩, ⟨p1, -⟩, p2, -⟩ := blk3 hcV
    have HQ := Lib.hid (And.intro hq0 (And.intro hq1 hq2))
    have HDB := Lib.hid hdb
    have hne := run_neTri 70 Try.underlying70
    clear hq0 hq1 hq2 hdb hkV hk3 hcV f1 f2 f3 e1 e1' e2 e2' e3 e3'
    clear R0 R1 R2 p0 p1 p2
    go_quiet (fail)
    go_wp2
    go_end0
    exact ⟨rfl, by rw [← HDR.out, if_pos (by rfl)]; exact HT3.out.up ((Kept.refl _ _).drewN _)⟩
  · obtain ⟨DR, hDR⟩ : ∃ D, (if (true && false && true) = false then { d with now := (k : Int) } else { d with now := (k : Int), l := setReg d.l k [r, g, b'] }) = D := ⟨_, rfl⟩
    rw [hDR]
    have HDR := Lib.hid hDR
    clear hDR
    go_enter Try.func41, Try.ntmps41
    go_wp2_with fail
    refine (HN.out).mono ?_; rintro e w1 ⟨rfl, hw1⟩; rw [hw1]; clear hw1 w1
    go_wp2_with fail
    refine wp_loop_rounds 4 ?_
    rw [rounds_succ]
    go_wp2_with fail
    refine (HP2.out _).mono ?_; rintro e w1 ⟨rfl, hw1⟩; rw [hw1]; clear hw1 w1
    go_wp2_with fail
    rw [rounds_succ]
    go_wp2_with fail
    refine (HP3.out _).mono ?_; rintro e w1 ⟨rfl, hw1⟩; rw [hw1]; clear hw1 w1
    go_wp2_with fail
    rw [rounds_succ]
    go_wp2_with fail
    refine (HP4.out _).mono ?_; rintro e w1 ⟨rfl, hw1⟩; rw [hw1]; clear hw1 w1
    go_wp2_with fail
    rw [rounds_succ]
    go_wp2
    have HBR := HB2
    have HKR := HK2
    have hk3 : Kept (fun _ => False) W2 W2 := Kept.refl _ _
    have hcV := HCV.out
    have hkV := HKV.out
    have hdb : DBlk V3 a { d with now := (k : Int) } pv (.slice (some ⟨b, off, none⟩) 5 cap) := (HBR.out.kept hk3 id).kept hkV (fun h => by have := HAQ.out; have h' : a = W1.heap.size := h; omega)
    have HT3 := Lib.hid (show Turn G W V3 a { d with now := (k : Int) } from HT1.out.upTo ((((HKR.out.then hk3).mono (fun _ _ h => h.elim)).then hkV)) (fun i hi => by have h' : i = W1.heap.size := hi; omega))
    obtain ⟨q0, hq0⟩ : ∃ q0, d.l.getD (3 * k) 0 = q0 := ⟨_, rfl⟩
    obtain ⟨q1, hq1⟩ : ∃ q1, d.l.getD (3 * k + 1) 0 = q1 := ⟨_, rfl⟩
    obtain ⟨q2, hq2⟩ : ∃ q2, d.l.getD (3 * k + 2) 0 = q2 := ⟨_, rfl⟩
    have R0 : V3.cell? ⟨a, 2 + k * 3, none⟩ = some (.int .u8 q0) := by rw [← hq0, Nat.mul_comm k 3]; exact (hdb.reg (3 * k) (by omega)).1
    have R1 : V3.cell? ⟨a, 2 + k * 3 + 1, none⟩ = some (.int .u8 q1) := by rw [← hq1, Nat.mul_comm k 3]; exact (hdb.reg (3 * k + 1) (by omega)).1
    have R2 : V3.cell? ⟨a, 2 + k * 3 + 2, none⟩ = some (.int .u8 q2) := by rw [← hq2, Nat.mul_comm k 3]; exact (hdb.reg (3 * k + 2) (by omega)).1
    obtain ⟨⟨p0, -⟩, ⟨p1, -⟩, p2, -⟩ := blk3 hcV
    have HQ := Lib.hid (And.intro hq0 (And.intro hq1 hq2))
    have HDB := Lib.hid hdb
    have hne := run_neTri 70 Try.underlying70
    clear hq0 hq1 hq2 hdb hkV hk3 hcV f1 f2 f3 e1 e1' e2 e2' e3 e3'
    clear R0 R1 R2 p0 p1 p2
    go_quiet (fail)
    go_wp2
    go_end0
    exact ⟨rfl, by rw [← HDR.out, if_pos (by rfl)]; exact HT3.out.up ((Kept.refl _ _).drewN _)⟩
  · obtain ⟨DR, hDR⟩ : ∃ D, (if (true && true && false) = false then { d with now := (k : Int) } else { d with now := (k : Int), l := setReg d.l k [r, g, b'] }) = D := ⟨_, rfl⟩
    rw [hDR]
    have HDR := Lib.hid hDR
    clear hDR
    go_enter Try.func41, Try.ntmps41
    go_wp2_with fail
    refine (HN.out).mono ?_; rintro e w1 ⟨rfl, hw1⟩; rw [hw1]; clear hw1 w1
    go_wp2_with fail
    refine wp_loop_rounds 4 ?_
    rw [rounds_succ]
    go_wp2_with fail
    refine (HP2.out _).mono ?_; rintro e w1 ⟨rfl, hw1⟩; rw [hw1]; clear hw1 w1
    go_wp2_with fail
    rw [rounds_succ]
    go_wp2_with fail
    refine (HP3.out _).mono ?_; rintro e w1 ⟨rfl, hw1⟩; rw [hw1]; clear hw1 w1
    go_wp2_with fail
    rw [rounds_succ]
    go_wp2_with fail
    refine (HP4.out _).mono ?_; rintro e w1 ⟨rfl, hw1⟩; rw [hw1]; clear hw1 w1
    go_wp2_with fail
    rw [rounds_succ]
    go_wp2
    have HBR := HB2
    have HKR := HK2
    have hk3 : Kept (fun _ => False) W2 W2 := Kept.refl _ _
    have hcV := HCV.out
    have hkV := HKV.out
    have hdb : DBlk V3 a { d with now := (k : Int) } pv (.slice (some ⟨b, off, none⟩) 5 cap) := (HBR.out.kept hk3 id).kept hkV (fun h => by have := HAQ.out; have h' : a = W1.heap.size := h; omega)
    have HT3 := Lib.hid (show Turn G W V3 a { d with now := (k : Int) } from HT1.out.upTo ((((HKR.out.then hk3).mono (fun _ _ h => h.elim)).then hkV)) (fun i hi => by have h' : i = W1.heap.size := hi; omega))
    obtain ⟨q0, hq0⟩ : ∃ q0, d.l.getD (3 * k) 0 = q0 := ⟨_, rfl⟩
    obtain ⟨q1, hq1⟩ : ∃ q1, d.l.getD (3 * k + 1) 0 = q1 := ⟨_, rfl⟩
    obtain ⟨q2, hq2⟩ : ∃ q2, d.l.getD (3 * k + 2) 0 = q2 := ⟨_, rfl⟩
    have R0 : V3.cell? ⟨a, 2 + k * 3, none⟩ = some (.int .u8 q0) := by rw [← hq0, Nat.mul_comm k 3]; exact (hdb.reg (3 * k) (by omega)).1
    have R1 : V3.cell? ⟨a, 2 + k * 3 + 1, none⟩ = some (.int .u8 q1) := by rw [← hq1, Nat.mul_comm k 3]; exact (hdb.reg (3 * k + 1) (by omega)).1
    have R2 : V3.cell? ⟨a, 2 + k * 3 + 2, none⟩ = some (.int .u8 q2) := by rw [← hq2, Nat.mul_comm k 3]; exact (hdb.reg (3 * k + 2) (by omega)).1
    obtain ⟨⟨p0, -⟩, ⟨p1, -⟩, p2, -⟩ := blk3 hcV
    have HQ := Lib.hid (And.intro hq0 (And.intro hq1 hq2))
    have HDB := Lib.hid hdb
    have hne := run_neTri 70 Try.underlying70
    clear hq0 hq1 hq2 hdb hkV hk3 hcV f1 f2 f3 e1 e1' e2 e2' e3 e3'
    clear R0 R1 R2 p0 p1 p2
    go_quiet (fail)
    go_wp2
    go_end0
    exact ⟨rfl, by rw [← HDR.out, if_pos (by rfl)]; exact HT3.out.up ((Kept.refl _ _).drewN _)⟩
  · obtain ⟨DR, hDR⟩ : ∃ D, (if (true && true && true) = false then { d with now := (k : Int) } else { d with now := (k : Int), l := setReg d.l k [r, g, b'] }) = D := ⟨_, rfl⟩
    rw [hDR]
    have HDR := Lib.hid hDR
    clear hDR
    go_enter Try.func41, Try.ntmps41
    go_wp2_with fail
    refine (HN.out).mono ?_; rintro e w1 ⟨rfl, hw1⟩; rw [hw1]; clear hw1 w1
    go_wp2_with fail
    refine wp_loop_rounds 4 ?_
    rw [rounds_succ]
    go_wp2_with fail
    refine (HP2.out _).mono ?_; rintro e w1 ⟨rfl, hw1⟩; rw [hw1]; clear hw1 w1
    go_wp2_with fail
    rw [rounds_succ]
    go_wp2_with fail
    refine (HP3.out _).mono ?_; rintro e w1 ⟨rfl, hw1⟩; rw [hw1]; clear hw1 w1
    go_wp2_with fail
    rw [rounds_succ]
    go_wp2_with fail
    refine (HP4.out _).mono ?_; rintro e w1 ⟨rfl, hw1⟩; rw [hw1]; clear hw1 w1
    go_wp2_with fail
    rw [rounds_succ]
    go_wp2
    have HBR := HB2
    have HKR := HK2
    have hk3 : Kept (fun _ => False) W2 W2 := Kept.refl _ _
    have hcV := HCV.out
    have hkV := HKV.out
    have hdb : DBlk V3 a { d with now := (k : Int) } pv (.slice (some ⟨b, off, none⟩) 5 cap) := (HBR.out.kept hk3 id).kept hkV (fun h => by have := HAQ.out; have h' : a = W1.heap.size := h; omega)
    have HT3 := Lib.hid (show Turn G W V3 a { d with now := (k : Int) } from HT1.out.upTo ((((HKR.out.then hk3).mono (fun _ _ h => h.elim)).then hkV)) (fun i hi => by have h' : i = W1.heap.size := hi; omega))
    obtain ⟨q0, hq0⟩ : ∃ q0, d.l.getD (3 * k) 0 = q0 := ⟨_, rfl⟩
    obtain ⟨q1, hq1⟩ : ∃ q1, d.l.getD (3 * k + 1) 0 = q1 := ⟨_, rfl⟩
    obtain ⟨q2, hq2⟩ : ∃ q2, d.l.getD (3 * k + 2) 0 = q2 := ⟨_, rfl⟩
    have R0 : V3.cell? ⟨a, 2 + k * 3, none⟩ = some (.int .u8 q0) := by rw [← hq0, Nat.mul_comm k 3]; exact (hdb.reg (3 * k) (by omega)).1
    have R1 : V3.cell? ⟨a, 2 + k * 3 + 1, none⟩ = some (.int .u8 q1) := by rw [← hq1, Nat.mul_comm k 3]; exact (hdb.reg (3 * k + 1) (by omega)).1
    have R2 : V3.cell? ⟨a, 2 + k * 3 + 2, none⟩ = some (.int .u8 q2) := by rw [← hq2, Nat.mul_comm k 3]; exact (hdb.reg (3 * k + 2) (by omega)).1
    obtain ⟨⟨p0, -⟩, ⟨p1, -⟩, p2, -⟩ := blk3 hcV
    have HQ := Lib.hid (And.intro hq0 (And.intro hq1 hq2))
    have HDB := Lib.hid hdb
    have hne := run_neTri 70 Try.underlying70
    clear hq0 hq1 hq2 hdb hkV hk3 hcV f1 f2 f3 e1 e1' e2 e2' e3 e3'
    by_cases hE : (r == q0 && (g == q1 && b' == q2)) = true
    · go_quiet (fail)
      go_wp2
      go_end0
      refine ⟨rfl, ?_⟩
      rw [← HDR.out, if_neg (by simp)]
      have h1 : r = q0 ∧ g = q1 ∧ b' = q2 := by simpa using hE
      have hl3 := HLL.out
      have e : setReg d.l k [r, g, b'] = d.l := by
        rw [h1.1, h1.2.1, h1.2.2, ← HQ.out.1, ← HQ.out.2.1, ← HQ.out.2.2]
        exact setReg_same d.l k (by have : d.l.length = 768 := hl3; omega)
      rw [e]
      exact HT3.out.up ((Kept.refl _ _).drewN _)
    have hE' : (r == q0 && (g == q1 && b' == q2)) = false := by simpa using hE
    clear hE
    go_quiet (fail)
    go_wp2
    have hk4 : Kept (fun _ => False) V3 (V3.drewN nq) := (Kept.refl _ V3).drewN nq
    generalize V3.drewN nq = V4 at hk4 ⊢
    have u0 := hk4.cell p0 id
    have u1 := hk4.cell p1 id
    have u2 := hk4.cell p2 id
    clear R0 R1 R2 p0 p1 p2 hne
    have hki : (k : Int) < 256 := by omega
    go_still_tail 6, (by kernel_rfl)
    change wpList _ _ _ _ _ V4.drew
    have hk5 : Kept (fun _ => False) V3 V4.drew := hk4.drew
    generalize V4.drew = V5 at hk5 ⊢
    have hd5 := HDB.out.kept hk5 id
    have e3k : ∀ j, 2 + (3 * k + j) = 2 + k * 3 + j := fun j => by omega
    have e3z : 2 + 3 * k = 2 + k * 3 := by omega
    have r0 := hd5.reg (3 * k + 0) (by omega)
    have hd6 := hd5.setReg (3 * k + 0) (by omega) r
    have r1 := hd6.reg (3 * k + 1) (by omega)
    have hd7 := hd6.setReg (3 * k + 1) (by omega) g
    have r2 := hd7.reg (3 * k + 2) (by omega)
    have hT5 := HT3.out.up hk5
    have hT6 := hT5.set (fun _ _ h => h.setReg (3 * k + 0) (by omega) r) rfl rfl
    have hT7 := hT6.set (fun _ _ h => h.setReg (3 * k + 1) (by omega) g) rfl rfl
    have hT8 := hT7.set (fun _ _ h => h.setReg (3 * k + 2) (by omega) b') rfl rfl
    simp only [e3k, e3z, Nat.add_zero] at r0 r1 r2 hT8
    obtain ⟨V6, hV6⟩ : ∃ V, V5.setCell ⟨a, 2 + k * 3, none⟩ (.int .u8 r) = V := ⟨_, rfl⟩
    rw [hV6] at r1 r2 hT8
    obtain ⟨V7, hV7⟩ : ∃ V, V6.setCell ⟨a, 2 + k * 3 + 1, none⟩ (.int .u8 g) = V := ⟨_, rfl⟩
    rw [hV7] at r2 hT8
    obtain ⟨r0, r0'⟩ := r0
    obtain ⟨r1, r1'⟩ := r1
    obtain ⟨r2, r2'⟩ := r2
    have HT8 := Lib.hid hT8
    clear hd5 hd6 hd7 hT5 hT6 hT7 hT8 u0 u1 u2 hk4 hk5
    go_wp2
    go_end0
    refine ⟨rfl, ?_⟩
    rw [← HDR.out, if_neg (by simp)]
    exact HT8.out

end Go.Proofs.Ytomcjdonacckfaa
