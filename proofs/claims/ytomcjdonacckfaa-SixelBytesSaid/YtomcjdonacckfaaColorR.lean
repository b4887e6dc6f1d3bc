/- The document's decoder: Color, printed by port_rdec.py from the program's side. -/
import Derived.Test.YtomcjdonacckfaaNumR
import Derived.Test.YtomcjdonacckfaaColor
import Derived.Test.YtomcjdonacckfaaRhls
namespace Go.Proofs.Ytomcjdonacckfaa.R
attribute [local go_sem] growOp growUpon sameUpon
open Go.Proofs.Ytomcjdonacckfaa Go.RowKit
set_option linter.unusedVariables false
set_option linter.unusedSimpArgs false
theorem Turn.upTo {G S : Nat → Prop} {w W W' : World} {a : Nat} {d : Dec} (h : Turn G w W a d) (hk : Kept S W W') (hS : ∀ i, S i → W.heap.size ≤ i) : Turn G w W' a d :=
  h.up ⟨hk.os, hk.tape, hk.output, hk.size, fun k h1 _ => hk.block k h1 (fun h2 => by have := hS k h2; omega)⟩
set_option maxRecDepth 100000 in
set_option maxHeartbeats 4000000 in
theorem color_far (G : Nat → Prop) (d : Dec) (W : World) (a : Nat) (h : DOwn G W a d) (hl : d.n.length ≤ 5) (hk : 256 ≤ d.n.getD 0 0) :
    Calls Try.prog 46 #[.pointer (some ⟨a, 0, none⟩)] W fun e w' => e = .returned (.tuple #[]) ∧ Turn G W w' a d := by
  have HD := Lib.hid h
  obtain ⟨pv, nv, hb, hp, hn, h1, h2, h3, hG⟩ := h
  have HN := Lib.hid (number_any 0 d W a pv nv hb hn hl)
  have g1 : decide (255 < d.n.getD 0 0) = true := decide_eq_true (by omega)
  clear hb hp hn h1 h2 h3 hG
  obtain ⟨k, hk'⟩ : ∃ k, d.n.getD 0 0 = k := ⟨_, rfl⟩
  rw [hk'] at HN g1
  clear hk hk'
  go_enter Try.func46, Try.ntmps46
  go_wp2_with fail
  refine (HN.out).mono ?_; rintro e w1 ⟨rfl, rfl⟩
  go_wp2
  exact bodyPost_ret (results_none rfl _ _ _) rfl ⟨rfl, Turn.refl HD.out⟩
set_option maxRecDepth 100000 in
set_option maxHeartbeats 4000000 in
theorem color_few (G : Nat → Prop) (d : Dec) (W : World) (a : Nat) (h : DOwn G W a d) (hl : d.n.length < 5) (hk : d.n.getD 0 0 < 256) :
    Calls Try.prog 46 #[.pointer (some ⟨a, 0, none⟩)] W fun e w' => e = .returned (.tuple #[]) ∧ Turn G W w' a { d with now := d.n.getD 0 0 } := by
  have HD := Lib.hid h
  obtain ⟨pv, nv, hb, hp, hn, h1, h2, h3, hG⟩ := h
  have HN := Lib.hid (number_any 0 d W a pv nv hb hn (by omega))
  have g1 : decide (255 < d.n.getD 0 0) = false := decide_eq_false (by omega)
  have g2 : decide (d.n.length < 5) = true := decide_eq_true hl
  obtain ⟨c1, c1'⟩ := hb.fnow
  obtain ⟨k, hk'⟩ : ∃ k, d.n.getD 0 0 = k := ⟨_, rfl⟩
  rw [hk'] at HN g1 ⊢
  obtain ⟨c2, -⟩ := (hb.snow k).fn
  obtain ⟨sa, cap, rfl, -⟩ := hn.shape
  clear hb hp hn h1 h2 h3 hG hk hk'
  go_enter Try.func46, Try.ntmps46
  go_wp2_with fail
  refine (HN.out).mono ?_; rintro e w1 ⟨rfl, rfl⟩
  go_wp2
  exact bodyPost_ret (results_none rfl _ _ _) rfl ⟨rfl, (Turn.refl HD.out).set (fun _ _ h => h.snow k) rfl rfl⟩

set_option maxRecDepth 100000 in
set_option maxHeartbeats 4000000 in
theorem color_no (G : Nat → Prop) (d : Dec) (W : World) (a k : Nat) (h : DOwn G W a d) (hl : d.n.length = 5) (hk : d.n.getD 0 0 = k) (hk256 : k < 256) (hm1 : d.n.getD 1 0 ≠ 1) (hm2 : d.n.getD 1 0 ≠ 2) :
    Calls Try.prog 46 #[.pointer (some ⟨a, 0, none⟩)] W fun e w' => e = .returned (.tuple #[]) ∧ Turn G W w' a { d with now := k } := by
  have HD := Lib.hid h
  obtain ⟨pv, nv, hb, hp, hn, h1, h2, h3, hG⟩ := h
  obtain ⟨x0, x1, x2, x3, x4, hns⟩ : ∃ x0 x1 x2 x3 x4, d.n = [x0, x1, x2, x3, x4] := by
    match d.n, hl with
    | [x0, x1, x2, x3, x4], _ => exact ⟨x0, x1, x2, x3, x4, rfl⟩
  have HN := Lib.hid (number_any 0 d W a pv nv hb hn (by omega))
  rw [hns] at hk
  rw [hns] at HN
  simp only [List.getD_cons_zero] at hk HN
  have hbn := (hb.snow (k : Int))
  obtain ⟨c1, c1'⟩ := hb.fnow
  obtain ⟨W1, hW1⟩ : ∃ W1, W.setCell ⟨a, 772, none⟩ (.int .i64 (k : Int)) = W1 := ⟨_, rfl⟩
  rw [hW1] at hbn
  have hk1 : Kept (fun j => j = a) W W1 := by rw [← hW1]; exact (Kept.refl (fun j => j = a) W).setCell (p := ⟨a, 772, none⟩) (.inl rfl) _
  have HT1 := Lib.hid (show Turn G W W1 a { d with now := (k : Int) } by rw [← hW1]; exact (Turn.refl HD.out).set (fun _ _ h => h.snow _) rfl rfl)
  have hn1 : Own .i64 3 W1 nv d.n := hn.kept hk1 (fun b hb hba => h2 (by rw [hb]; exact congrArg some hba))
  obtain ⟨c2, -⟩ := hbn.fn
  obtain ⟨sa, cap, rfl, hs, hcap1, -⟩ := hn1.shape
  rw [hns] at hs hcap1
  obtain ⟨-, h0 | ⟨b, off, rfl, hc⟩⟩ := hs
  · exact absurd h0 (by simp)
  have hcap : 5 ≤ cap := by simpa using hcap1
  have y1 : W1.cell? ⟨b, off + 1, none⟩ = some (.int .i64 x1) := hc 1 (by show 1 < 5; omega)
  have y2 : W1.cell? ⟨b, off + 2, none⟩ = some (.int .i64 x2) := hc 2 (by show 2 < 5; omega)
  have y3 : W1.cell? ⟨b, off + 3, none⟩ = some (.int .i64 x3) := hc 3 (by show 3 < 5; omega)
  have y4 : W1.cell? ⟨b, off + 4, none⟩ = some (.int .i64 x4) := hc 4 (by show 4 < 5; omega)
  have hlen : d.n.length = 5 := hl
  rw [hlen] at c2 hbn
  have g1 : decide ((255 : Int) < (k : Int)) = false := decide_eq_false (by omega)
  have HLL := Lib.hid hbn.1
  have HB1 := Lib.hid hbn
  clear hb hp hn h1 h2 h3 hG hbn hn1 hc hk1 hcap1
  have hkk : x0 = (k : Int) := hk
  rw [hkk] at HN
  rw [hns] at hm1 hm2
  have g3 : (x1 == 1) = false := by simpa using hm1
  have g4 : (x1 == 2) = false := by simpa using hm2
  clear y2 y3 y4 hm1 hm2
  obtain ⟨DR, hDR⟩ : ∃ D, { d with now := (k : Int) } = D := ⟨_, rfl⟩
  rw [hDR]
  have HDR := Lib.hid hDR
  clear hDR
  go_enter Try.func46, Try.ntmps46
  go_wp2_with fail
  refine (HN.out).mono ?_; rintro e w1 ⟨rfl, hw1⟩; rw [hw1]; clear hw1 w1
  go_wp2
  go_end0
  exact ⟨rfl, by rw [← HDR.out]; exact HT1.out⟩
set_option maxRecDepth 100000 in
set_option maxHeartbeats 4000000 in
theorem color_hls (G : Nat → Prop) (d : Dec) (W : World) (a k : Nat) (h : DOwn G W a d) (hl : d.n.length = 5) (hk : d.n.getD 0 0 = k) (hk256 : k < 256) (hm1 : d.n.getD 1 0 = 1) :
    Calls Try.prog 46 #[.pointer (some ⟨a, 0, none⟩)] W fun e w' => e = .returned (.tuple #[]) ∧ Turn G W w' a (if (colOf d).2 = false then { d with now := k } else { d with now := k, l := setReg d.l k (colOf d).1 }) := by
  have HD := Lib.hid h
  obtain ⟨pv, nv, hb, hp, hn, h1, h2, h3, hG⟩ := h
  obtain ⟨x0, x1, x2, x3, x4, hns⟩ : ∃ x0 x1 x2 x3 x4, d.n = [x0, x1, x2, x3, x4] := by
    match d.n, hl with
    | [x0, x1, x2, x3, x4], _ => exact ⟨x0, x1, x2, x3, x4, rfl⟩
  have HN := Lib.hid (number_any 0 d W a pv nv hb hn (by omega))
  rw [hns] at hk
  rw [hns] at HN
  simp only [List.getD_cons_zero] at hk HN
  have hbn := (hb.snow (k : Int))
  obtain ⟨c1, c1'⟩ := hb.fnow
  obtain ⟨W1, hW1⟩ : ∃ W1, W.setCell ⟨a, 772, none⟩ (.int .i64 (k : Int)) = W1 := ⟨_, rfl⟩
  rw [hW1] at hbn
  have hk1 : Kept (fun j => j = a) W W1 := by rw [← hW1]; exact (Kept.refl (fun j => j = a) W).setCell (p := ⟨a, 772, none⟩) (.inl rfl) _
  have HT1 := Lib.hid (show Turn G W W1 a { d with now := (k : Int) } by rw [← hW1]; exact (Turn.refl HD.out).set (fun _ _ h => h.snow _) rfl rfl)
  have hn1 : Own .i64 3 W1 nv d.n := hn.kept hk1 (fun b hb hba => h2 (by rw [hb]; exact congrArg some hba))
  obtain ⟨c2, -⟩ := hbn.fn
  obtain ⟨sa, cap, rfl, hs, hcap1, -⟩ := hn1.shape
  rw [hns] at hs hcap1
  obtain ⟨-, h0 | ⟨b, off, rfl, hc⟩⟩ := hs
  · exact absurd h0 (by simp)
  have hcap : 5 ≤ cap := by simpa using hcap1
  have y1 : W1.cell? ⟨b, off + 1, none⟩ = some (.int .i64 x1) := hc 1 (by show 1 < 5; omega)
  have y2 : W1.cell? ⟨b, off + 2, none⟩ = some (.int .i64 x2) := hc 2 (by show 2 < 5; omega)
  have y3 : W1.cell? ⟨b, off + 3, none⟩ = some (.int .i64 x3) := hc 3 (by show 3 < 5; omega)
  have y4 : W1.cell? ⟨b, off + 4, none⟩ = some (.int .i64 x4) := hc 4 (by show 4 < 5; omega)
  have hlen : d.n.length = 5 := hl
  rw [hlen] at c2 hbn
  have g1 : decide ((255 : Int) < (k : Int)) = false := decide_eq_false (by omega)
  have HLL := Lib.hid hbn.1
  have HB1 := Lib.hid hbn
  clear hb hp hn h1 h2 h3 hG hbn hn1 hc hk1 hcap1
  have hkk : x0 = (k : Int) := hk
  rw [hkk] at HN
  rw [hns] at hm1
  have hm1' : x1 = 1 := hm1
  subst hm1'
  have hco : colOf d = (hlsL x2 x3 x4, hlsOk x2 x3 x4) := by unfold colOf; rw [hns]; rfl
  rw [hco]
  have hcol := rhls_any x2 x3 x4
  rw [hls_triL] at hcol
  have hbyl : (hlsL x2 x3 x4).length = 3 := by unfold hlsL hueL; (repeat' split) <;> rfl
  obtain ⟨r, g, b', hrgb⟩ : ∃ r g b', hlsL x2 x3 x4 = [r, g, b'] := by
    match hlsL x2 x3 x4, hbyl with
    | [r, g, b'], _ => exact ⟨r, g, b', rfl⟩
  obtain ⟨ok, hok⟩ : ∃ ok, hlsOk x2 x3 x4 = ok := ⟨_, rfl⟩
  simp only [hrgb, hok, triL, List.getD_cons_zero, List.getD_cons_succ] at hcol ⊢
  have HCOL := Lib.hid hcol
  clear hcol hm1 hco hbyl hrgb hok
  obtain ⟨DR, hDR⟩ : ∃ D, (if ok = false then { d with now := (k : Int) } else { d with now := (k : Int), l := setReg d.l k [r, g, b'] }) = D := ⟨_, rfl⟩
  rw [hDR]
  have HDR := Lib.hid hDR
  clear hDR
  obtain ⟨WR, hWR⟩ : ∃ WR, WR = W1.drew := ⟨_, rfl⟩
  obtain ⟨RC, hRC⟩ : ∃ R : Value → World → Prop, R = fun v _ => v = .tuple #[tri r g b', .bool ok] := ⟨_, rfl⟩
  obtain ⟨RA, hRA⟩ : ∃ R : Value → World → Prop, R = fun v w' => ∃ q, v = .pointer (some ⟨q, 0, none⟩) ∧ W1.heap.size ≤ q ∧ w'.heap[q]? = some (.cells #[.int .u8 0, .int .u8 0, .int .u8 0] 23 (0, 0)) := ⟨_, rfl⟩
  have hkR : Kept (fun _ => False) W1 WR := by rw [hWR]; exact (Kept.refl _ _).drew
  have HRC := Lib.hid hRC
  have HRA := Lib.hid hRA
  have HWR := Lib.hid hWR
  have HKR := Lib.hid hkR
  go_enter Try.func46, Try.ntmps46
  go_wp2_with fail
  refine (HN.out).mono ?_; rintro e w1 ⟨rfl, hw1⟩; rw [hw1]; clear hw1 w1
  have X1 := cell_regrown (hkR.cell c2 id)
  have X2 := cell_regrown (hkR.cell y2 id)
  have X3 := cell_regrown (hkR.cell y3 id)
  have X4 := cell_regrown (hkR.cell y4 id)
  clear hRC hRA hWR hkR
  go_wp2
  clear c1 c1' c2 y1 y2 y3 y4
  refine wp_region_grow #[0, 1, 3, 7, 15, 31, 0, 64, 192, 448, 960, 1984, 0, 4096, 12288, 28672, 61440, 126976, 262143, 524287, 1048575, 1048575, 0, 6291455, 16777215] 23 [21] (fun i => if i = 18 then some RC else if i = 22 then some RA else none) (by kernel_rfl) rfl (by kernel_rfl) (fun i hi => by simp at hi; subst hi; rfl) (fun _ _ _ _ _ h => h) ?_
  rintro _ rfl
  rw [← HWR.out]
  simp only [List.take_succ_cons, List.take_zero, List.drop_succ_cons, List.drop_zero, number, Nat.reduceAdd]
  refine wpGrow_step (fun K hK => ?_); go_simp; refine hK _ _ ?_; clear hK K
  refine wpGrow_step (fun K hK => ?_); go_simp; refine hK _ _ ?_; clear hK K
  refine wpGrow_step (fun K hK => ?_); go_simp; refine hK _ _ ?_; clear hK K
  refine wpGrow_step (fun K hK => ?_); go_simp; refine hK _ _ ?_; clear hK K
  refine wpGrow_step (fun K hK => ?_); go_simp; refine hK _ _ ?_; clear hK K
  refine wpGrow_step (fun K hK => ?_); go_simp; refine hK _ _ ?_; clear hK K
  refine wpGrow_step (fun K hK => ?_); go_simp; refine hK _ _ ?_; clear hK K
  refine wpGrow_step (fun K hK => ?_); go_simp; refine hK _ _ ?_; clear hK K
  refine wpGrow_step (fun K hK => ?_); go_simp; refine hK _ _ ?_; clear hK K
  refine wpGrow_step (fun K hK => ?_); go_simp; refine hK _ _ ?_; clear hK K
  refine wpGrow_step (fun K hK => ?_); go_simp; refine hK _ _ ?_; clear hK K
  refine wpGrow_step (fun K hK => ?_); go_simp; refine hK _ _ ?_; clear hK K
  refine wpGrow_step (fun K hK => ?_); go_simp; refine hK _ _ ?_; clear hK K
  refine wpGrow_step (fun K hK => ?_); go_simp; refine hK _ _ ?_; clear hK K
  refine wpGrow_step (fun K hK => ?_); go_simp; refine hK _ _ ?_; clear hK K
  refine wpGrow_step (fun K hK => ?_); go_simp; refine hK _ _ ?_; clear hK K
  refine wpGrow_step (fun K hK => ?_); go_simp; refine hK _ _ ?_; clear hK K
  refine wpGrow_step (fun K hK => ?_); go_simp; refine hK _ _ ?_; clear hK K
  refine wpGrow_step (fun K hK => ?_)
  go_simp
  refine ⟨fun w' hg => (HCOL.out w').mono (fun e w'' ⟨he, hk⟩ => ⟨_, he, hk, by rw [HRC.out]⟩), fun v w' hv _ => ?_⟩
  rw [HRC.out] at hv
  subst hv
  refine hK _ _ ?_; clear hK K
  refine wpGrow_step (fun K hK => ?_); go_simp; refine hK _ _ ?_; clear hK K
  refine wpGrow_step (fun K hK => ?_); go_simp; refine hK _ _ ?_; clear hK K
  refine wpGrow_step (fun K hK => ?_); go_simp; refine hK _ _ ?_; clear hK K
  refine wpGrow_step (fun K hK => ?_)
  go_simp
  refine ⟨fun w' hg => ⟨(Kept.refl _ _).alloc _, by rw [HRA.out]; exact ⟨_, rfl, (HKR.out.then hg.old).size, blk_new _ _⟩⟩, fun v22 w22 hv22 _ => ?_⟩
  rw [HRA.out] at hv22
  obtain ⟨q, rfl, hqz, hqc⟩ := hv22
  refine hK _ _ ?_; clear hK K
  refine wpGrow_nil ?_
  intro w3 hk3 hω
  have hk22 : Kept (fun _ => False) w22 w3 := hω 22
  have hc3 := hk22.blk hqc id
  clear hω hk22 hqc X1 X2 X3 X4
  obtain ⟨V1, V2, V3, f1, f2, f3, ⟨e1, e1'⟩, ⟨e2, e2'⟩, ⟨e3, e3'⟩, hcV, hkV⟩ := store3 hc3 (.int .u8 r) (.int .u8 g) (.int .u8 b')
  unfold tri
  have hqa : q ≠ a := by have := HB1.out.lt; omega
  have hdb : DBlk V3 a { d with now := (k : Int) } pv (.slice (some ⟨b, off, none⟩) 5 cap) := ((HB1.out.kept HKR.out id).kept hk3 id).kept hkV (fun h => hqa (by have h' : a = q := h; exact h'.symm))
  have HT3 := Lib.hid (show Turn G W V3 a { d with now := (k : Int) } from HT1.out.upTo ((((HKR.out.then hk3).mono (fun _ _ h => h.elim)).then hkV)) (fun i hi => by have h' : i = q := hi; omega))
  obtain ⟨⟨p0, -⟩, ⟨p1, -⟩, p2, -⟩ := blk3 hcV
  have HDB := Lib.hid hdb
  clear hdb hkV hk3 hcV
  cases ok
  · go_wp2
    go_end0
    exact ⟨rfl, by rw [← HDR.out, if_pos trivial]; exact HT3.out⟩
  have hki : (k : Int) < 256 := by omega
  go_wp2
  clear f1 f2 f3 e1 e1' e2 e2' e3 e3'
  go_still_tail 6, (by kernel_rfl)
  change wpList _ _ _ _ _ V3.drew
  have hk5 : Kept (fun _ => False) V3 V3.drew := (Kept.refl _ _).drew
  generalize V3.drew = V5 at hk5 ⊢
  have hd5 := HDB.out.kept hk5 id
  have e3k : ∀ j, 2 + (3 * k + j) = 2 + k * 3 + j := fun j => by omega
  have e3z : 2 + 3 * k = 2 + k * 3 := by omega
  have r0 := hd5.reg (3 * k + 0) (by omega)
  have hd6 := hd5.setReg (3 * k + 0) (by omega) r
  have r1 := hd6.reg (3 * k + 1) (by omega)
  have hd7 := hd6.setReg (3 * k + 1) (by omega) g
  have r2 := hd7.reg (3 * k + 2) (by omega)
  have hT5 := HT3.out.up hk5
  have hT6 := hT5.set (fun _ _ h => h.setReg (3 * k + 0) (by omega) r) rfl rfl
  have hT7 := hT6.set (fun _ _ h => h.setReg (3 * k + 1) (by omega) g) rfl rfl
  have hT8 := hT7.set (fun _ _ h => h.setReg (3 * k + 2) (by omega) b') rfl rfl
  simp only [e3k, e3z, Nat.add_zero] at r0 r1 r2 hT8
  obtain ⟨V6, hV6⟩ : ∃ V, V5.setCell ⟨a, 2 + k * 3, none⟩ (.int .u8 r) = V := ⟨_, rfl⟩
  rw [hV6] at r1 r2 hT8
  obtain ⟨V7, hV7⟩ : ∃ V, V6.setCell ⟨a, 2 + k * 3 + 1, none⟩ (.int .u8 g) = V := ⟨_, rfl⟩
  rw [hV7] at r2 hT8
  obtain ⟨r0, r0'⟩ := r0
  obtain ⟨r1, r1'⟩ := r1
  obtain ⟨r2, r2'⟩ := r2
  have HT8 := Lib.hid hT8
  clear hd5 hd6 hd7 hT5 hT6 hT7 hT8 hk5 p0 p1 p2
  go_wp2
  go_end0
  refine ⟨rfl, ?_⟩
  rw [← HDR.out, if_neg (by simp)]
  exact HT8.out
set_option maxRecDepth 100000 in
set_option maxHeartbeats 8000000 in
theorem color_pct (G : Nat → Prop) (d : Dec) (W : World) (a k : Nat) (h : DOwn G W a d) (hl : d.n.length = 5) (hk : d.n.getD 0 0 = k) (hk256 : k < 256) (hm1 : d.n.getD 1 0 = 2) :
    Calls Try.prog 46 #[.pointer (some ⟨a, 0, none⟩)] W fun e w' => e = .returned (.tuple #[]) ∧ Turn G W w' a (if (colOf d).2 = false then { d with now := k } else { d with now := k, l := setReg d.l k (colOf d).1 }) := by
  have HD := Lib.hid h
  obtain ⟨pv, nv, hb, hp, hn, h1, h2, h3, hG⟩ := h
  obtain ⟨x0, x1, x2, x3, x4, hns⟩ : ∃ x0 x1 x2 x3 x4, d.n = [x0, x1, x2, x3, x4] := by
    match d.n, hl with
    | [x0, x1, x2, x3, x4], _ => exact ⟨x0, x1, x2, x3, x4, rfl⟩
  have HN := Lib.hid (number_any 0 d W a pv nv hb hn (by omega))
  rw [hns] at hk
  rw [hns] at HN
  simp only [List.getD_cons_zero] at hk HN
  have hbn := (hb.snow (k : Int))
  obtain ⟨c1, c1'⟩ := hb.fnow
  obtain ⟨W1, hW1⟩ : ∃ W1, W.setCell ⟨a, 772, none⟩ (.int .i64 (k : Int)) = W1 := ⟨_, rfl⟩
  rw [hW1] at hbn
  have hk1 : Kept (fun j => j = a) W W1 := by rw [← hW1]; exact (Kept.refl (fun j => j = a) W).setCell (p := ⟨a, 772, none⟩) (.inl rfl) _
  have HT1 := Lib.hid (show Turn G W W1 a { d with now := (k : Int) } by rw [← hW1]; exact (Turn.refl HD.out).set (fun _ _ h => h.snow _) rfl rfl)
  have hn1 : Own .i64 3 W1 nv d.n := hn.kept hk1 (fun b hb hba => h2 (by rw [hb]; exact congrArg some hba))
  obtain ⟨c2, -⟩ := hbn.fn
  obtain ⟨sa, cap, rfl, hs, hcap1, -⟩ := hn1.shape
  rw [hns] at hs hcap1
  obtain ⟨-, h0 | ⟨b, off, rfl, hc⟩⟩ := hs
  · exact absurd h0 (by simp)
  have hcap : 5 ≤ cap := by simpa using hcap1
  have y1 : W1.cell? ⟨b, off + 1, none⟩ = some (.int .i64 x1) := hc 1 (by show 1 < 5; omega)
  have y2 : W1.cell? ⟨b, off + 2, none⟩ = some (.int .i64 x2) := hc 2 (by show 2 < 5; omega)
  have y3 : W1.cell? ⟨b, off + 3, none⟩ = some (.int .i64 x3) := hc 3 (by show 3 < 5; omega)
  have y4 : W1.cell? ⟨b, off + 4, none⟩ = some (.int .i64 x4) := hc 4 (by show 4 < 5; omega)
  have hlen : d.n.length = 5 := hl
  rw [hlen] at c2 hbn
  have g1 : decide ((255 : Int) < (k : Int)) = false := decide_eq_false (by omega)
  have HLL := Lib.hid hbn.1
  have HB1 := Lib.hid hbn
  clear hb hp hn h1 h2 h3 hG hbn hn1 hc hk1 hcap1
  have hkk : x0 = (k : Int) := hk
  rw [hkk] at HN
  rw [hns] at hm1
  have hm1' : x1 = 2 := hm1
  subst hm1'
  have hco : colOf d = ([pct x2, pct x3, pct x4], pctOk x2 && pctOk x3 && pctOk x4) := by unfold colOf; rw [hns]; rfl
  rw [hco]
  have H2 := rpercent_any x2 W1
  have H3 := rpercent_any x3 W1
  have H4 := rpercent_any x4 W1
  obtain ⟨r, hr⟩ : ∃ r, pct x2 = r := ⟨_, rfl⟩
  obtain ⟨g, hg⟩ : ∃ r, pct x3 = r := ⟨_, rfl⟩
  obtain ⟨b', hb'⟩ : ∃ r, pct x4 = r := ⟨_, rfl⟩
  obtain ⟨o2, ho2⟩ : ∃ r, pctOk x2 = r := ⟨_, rfl⟩
  obtain ⟨o3, ho3⟩ : ∃ r, pctOk x3 = r := ⟨_, rfl⟩
  obtain ⟨o4, ho4⟩ : ∃ r, pctOk x4 = r := ⟨_, rfl⟩
  rw [hr, ho2] at H2
  rw [hg, ho3] at H3
  rw [hb', ho4] at H4
  rw [hr, hg, hb', ho2, ho3, ho4]
  have P2 := Lib.hid H2
  have P3 := Lib.hid H3
  have P4 := Lib.hid H4
  clear H2 H3 H4 hr hg hb' ho2 ho3 ho4 hm1 hco
  have hki : (k : Int) < 256 := by omega
  have hki' : k < 256 := hk256
  have e3k : ∀ j, 2 + (3 * k + j) = 2 + k * 3 + j := fun j => by omega
  have e3z : 2 + 3 * k = 2 + k * 3 := by omega
  have hd5 := HB1.out
  have r0 := hd5.reg (3 * k + 0) (by omega)
  have hd6 := hd5.setReg (3 * k + 0) (by omega) r
  have r1 := hd6.reg (3 * k + 1) (by omega)
  have hd7 := hd6.setReg (3 * k + 1) (by omega) g
  have r2 := hd7.reg (3 * k + 2) (by omega)
  have hT6 := HT1.out.set (fun _ _ h => h.setReg (3 * k + 0) (by omega) r) rfl rfl
  have hT7 := hT6.set (fun _ _ h => h.setReg (3 * k + 1) (by omega) g) rfl rfl
  have hT8 := hT7.set (fun _ _ h => h.setReg (3 * k + 2) (by omega) b') rfl rfl
  simp only [e3k, e3z, Nat.add_zero] at r0 r1 r2 hT8
  obtain ⟨V6, hV6⟩ : ∃ V, W1.setCell ⟨a, 2 + k * 3, none⟩ (.int .u8 r) = V := ⟨_, rfl⟩
  rw [hV6] at r1 r2 hT8
  obtain ⟨V7, hV7⟩ : ∃ V, V6.setCell ⟨a, 2 + k * 3 + 1, none⟩ (.int .u8 g) = V := ⟨_, rfl⟩
  rw [hV7] at r2 hT8
  obtain ⟨r0, r0'⟩ := r0
  obtain ⟨r1, r1'⟩ := r1
  obtain ⟨r2, r2'⟩ := r2
  have HT8 := Lib.hid hT8
  clear hd5 hd6 hd7 hT6 hT7 hT8 e3k e3z
  obtain ⟨DR, hDR⟩ : ∃ D, (if (o2 && o3 && o4) = false then { d with now := (k : Int) } else { d with now := (k : Int), l := setReg d.l k [r, g, b'] }) = D := ⟨_, rfl⟩
  have hDR' : (if ([r, g, b'], o2 && o3 && o4).2 = false then { d with now := (k : Int) } else { d with now := (k : Int), l := setReg d.l k ([r, g, b'], o2 && o3 && o4).1 }) = DR := hDR
  rw [hDR']
  have HDR := Lib.hid hDR
  clear hDR hDR'
  cases o2 <;> cases o3 <;> cases o4
  all_goals
    go_enter Try.func46, Try.ntmps46
    go_wp2_with fail
    refine (HN.out).mono ?_; rintro e w1 ⟨rfl, hw1⟩; rw [hw1]; clear hw1 w1
    go_wp2_with fail
    refine (P2.out).mono ?_; rintro e w1 ⟨rfl, hw1⟩; rw [hw1]; clear hw1 w1
    go_wp2_with fail
    refine (P3.out).mono ?_; rintro e w1 ⟨rfl, hw1⟩; rw [hw1]; clear hw1 w1
    go_wp2_with fail
    refine (P4.out).mono ?_; rintro e w1 ⟨rfl, hw1⟩; rw [hw1]; clear hw1 w1
    go_wp2
    go_end0
    first
      | exact ⟨rfl, by rw [← HDR.out, if_pos (by rfl)]; exact HT1.out⟩
      | exact ⟨rfl, by rw [← HDR.out, if_neg (by simp)]; exact HT8.out⟩
end Go.Proofs.Ytomcjdonacckfaa.R
