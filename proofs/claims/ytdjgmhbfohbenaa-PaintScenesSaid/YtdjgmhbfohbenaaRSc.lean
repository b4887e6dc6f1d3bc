/- The document's scenes: how they lie in memory; cell, Cells, Region. -/
import Derived.Test.YtdjgmhbfohbenaaMFew
import Derived.Test.YtdjgmhbfohbenaaRegG
namespace Go.Proofs.Ytdjgmhbfohbenaa
open Go.RowKit Go.Sort Pl
set_option linter.unusedVariables false
set_option linter.unusedSimpArgs false
/-- What a scene of the document's holds, as values. -/
structure RSc where
  rows : Nat
  cols : Nat
  cw : Nat
  ch : Nat
  la : Option Addr
  ln : Nat
  lc : Nat
  pa : Option Addr
  pn : Nat
  pc : Nat
  ia : Option Addr
  ik : Nat
  ic : Nat
  top : Int
  cur : Bool
  row : Int
  col : Int
def RSc.val (s : RSc) : Value := .agg #[.int .i64 s.rows, .int .i64 s.cols, .int .i64 s.cw, .int .i64 s.ch, .slice s.la s.ln s.lc, .slice s.pa s.pn s.pc, .slice s.ia s.ik s.ic, .int .i64 s.top, .bool s.cur, .int .i64 s.row, .int .i64 s.col]
def RSc.cs (s : RSc) : Array Value := #[.int .i64 s.rows, .int .i64 s.cols, .int .i64 s.cw, .int .i64 s.ch, .slice s.la s.ln s.lc, .slice s.pa s.pn s.pc, .slice s.ia s.ik s.ic, .int .i64 s.top, .bool s.cur, .int .i64 s.row, .int .i64 s.col]
/-- Images by their id, in a row of blocks below B. -/
def ImsAt (B : Nat) (w : World) (a : Option Addr) (n : Nat) (L : List (Int × ME)) : Prop :=
  L.length = n ∧ (∀ p ∈ L, MEAt B w p.2) ∧ (n = 0 ∨ ∃ b off, a = some ⟨b, off, none⟩ ∧ b < B ∧ ∀ j p, L[j]? = some p → w.cell? ⟨b, off + j * 4, none⟩ = some (.int .i64 p.1) ∧ w.cell? ⟨b, off + j * 4 + 1, none⟩ = some (.int .i64 p.2.x) ∧ w.cell? ⟨b, off + j * 4 + 2, none⟩ = some (.int .i64 p.2.y) ∧ w.cell? ⟨b, off + j * 4 + 3, none⟩ = some (.slice p.2.a p.2.n p.2.c))
theorem ImsAt.kept {B : Nat} {S : Nat → Prop} {w w' : World} {a : Option Addr} {n : Nat} {L : List (Int × ME)} (h : ImsAt B w a n L) (hk : Kept S w w') (hS : ∀ i, S i → B ≤ i) : ImsAt B w' a n L :=
  ⟨h.1, fun p hp => (h.2.1 p hp).kept hk hS, h.2.2.imp (fun h => h) fun ⟨b, off, ha, hb, hc⟩ => ⟨b, off, ha, hb, fun j p hp => by
    have hn : ¬ S b := fun hs => absurd (hS b hs) (Nat.not_le.2 hb)
    obtain ⟨c0, c1, c2, c3⟩ := hc j p hp
    exact ⟨hk.cell c0 hn, hk.cell c1 hn, hk.cell c2 hn, hk.cell c3 hn⟩⟩⟩
def lookI : List (Int × ME) → Int → Option ME
  | [], _ => none
  | p :: L, k => if p.1 = k then some p.2 else lookI L k
set_option maxRecDepth 100000 in
set_option maxHeartbeats 8000000 in
theorem rcell_any (B : Nat) (s : RSc) (ls : List (List Cl)) (row col : Nat) (w : World) (hl : LinesAt B w s.la s.ln ls) (hlen : s.ln ≤ 9223372036854775807) (hr : row ≤ 1000000) (hc : col ≤ 1000000) :
    Calls Try.prog 37 #[s.val, .int .i64 row, .int .i64 col] w fun e w' => e = .returned (cellS ls row col).val ∧ Kept (fun _ => False) w w' := by
  obtain ⟨rows, cols, cw, ch, la, ln, lc, pa, pn, pc, ia, ik, ic, top, cur, srow, scol⟩ := s
  unfold RSc.val
  simp only at hl hlen ⊢
  obtain ⟨V, hV⟩ : ∃ V, (w.alloc (.cells #[.int .i64 rows, .int .i64 cols, .int .i64 cw, .int .i64 ch, .slice la ln lc, .slice pa pn pc, .slice ia ik ic, .int .i64 top, .bool cur, .int .i64 srow, .int .i64 scol] 42)).alloc (.cells #[.int .i32 0, .int .i64 0, .int .i64 0, .int .i64 0, .int .i64 0] 100) = V := ⟨_, rfl⟩
  have kV : Kept (fun _ => False) w V := by rw [← hV]; exact ((Kept.refl _ _).alloc _).alloc _
  have b0 : V.heap[w.heap.size]? = some (.cells #[.int .i64 rows, .int .i64 cols, .int .i64 cw, .int .i64 ch, .slice la ln lc, .slice pa pn pc, .slice ia ik ic, .int .i64 top, .bool cur, .int .i64 srow, .int .i64 scol] 42 (0, 0)) := by rw [← hV]; exact blk_alloc (blk_new _ _) _
  have b1 : V.heap[w.heap.size + 1]? = some (.cells #[.int .i32 0, .int .i64 0, .int .i64 0, .int .i64 0, .int .i64 0] 100 (0, 0)) := by rw [← hV]; exact blk_at _ _ (by simp)
  obtain ⟨-, -, -, -, x4, -⟩ := blk11 b0
  have hlV := hl.kept kV (fun _ h => h.elim)
  have HK := Lib.hid kV
  have hll := hl.1
  by_cases h1 : row < ln
  · have g1 : decide (ln ≤ row) = false := decide_eq_false (by omega)
    have g1' : decide ((ln : Int) ≤ (row : Int)) = false := decide_eq_false (by omega)
    have r0 : (0 : Int) ≤ (row : Int) := by omega
    have r1 : (row : Int) < (ln : Int) := by omega
    obtain ⟨l, hlr⟩ : ∃ l, ls[row]? = some l := ⟨_, List.getElem?_eq_getElem (by omega)⟩
    obtain ⟨b, off, rfl, hb, hc'⟩ := hlV.2.resolve_left (by omega)
    obtain ⟨a', n', c', hcell, hline⟩ := hc' row l hlr
    have hn' := hline.1
    by_cases h2 : col < n'
    · have g2 : decide (n' ≤ col) = false := decide_eq_false (by omega)
      have g2' : decide ((n' : Int) ≤ (col : Int)) = false := decide_eq_false (by omega)
      obtain ⟨c, hcc⟩ : ∃ c, l[col]? = some c := ⟨_, List.getElem?_eq_getElem (by omega)⟩
      obtain ⟨b2, off2, rfl, hb2, hcells⟩ := hline.2.resolve_left (by omega)
      have y0 := hcells col c hcc 0 (by omega)
      have y1 := hcells col c hcc 1 (by omega)
      have y2 := hcells col c hcc 2 (by omega)
      have y3 := hcells col c hcc 3 (by omega)
      have y4 := hcells col c hcc 4 (by omega)
      rw [Nat.add_zero] at y0
      have hS : cellS ls row col = c := by unfold cellS; rw [hlr]; simp [hcc]
      rw [hS]
      obtain ⟨cr, ck, cfg, cbg, cfl⟩ := c
      unfold Cl.val
      unfold Cl.vs at y0 y1 y2 y3 y4
      simp only [List.getElem?_cons_zero, List.getElem?_cons_succ] at y0 y1 y2 y3 y4 ⊢
      obtain ⟨V1, V2, V3, V4, V5, f1, f2, f3, f4, f5, ⟨z0, z0'⟩, ⟨z1, z1'⟩, ⟨z2, z2'⟩, ⟨z3, z3'⟩, ⟨z4, z4'⟩, bU, kU⟩ := store5 b1 (.int .i32 cr) (.int .i64 ck) (.int .i64 cfg) (.int .i64 cbg) (.int .i64 cfl)
      obtain ⟨m0, m1, m2, m3, m4⟩ := blk5 bU
      have HE := Lib.hid (kV.trans (kU.mono fun i _ hi => Or.inr (by have h9 : i = w.heap.size + 1 := hi; omega)))
      clear hS hcells hc' hlV hl hline hcc hlr kV hll b0 b1 hb hb2 hn' hlen hr hc bU kU
      go_enter Try.func37, Try.ntmps37
      go_wp2
      exact bodyPost_ret (v := .agg #[.int .i32 cr, .int .i64 ck, .int .i64 cfg, .int .i64 cbg, .int .i64 cfl]) (by simp [results, Try.results37, go_sem, m0, m1, m2, m3, m4]) rfl ⟨rfl, HE.out⟩
    · have g2 : decide (n' ≤ col) = true := decide_eq_true (by omega)
      have g2' : decide ((n' : Int) ≤ (col : Int)) = true := decide_eq_true (by omega)
      have hS : cellS ls row col = cl0 := by unfold cellS; rw [hlr]; simp [List.getElem?_eq_none (show l.length ≤ col by omega)]
      rw [hS]
      obtain ⟨V1, V2, V3, V4, V5, f1, f2, f3, f4, f5, ⟨z0, z0'⟩, ⟨z1, z1'⟩, ⟨z2, z2'⟩, ⟨z3, z3'⟩, ⟨z4, z4'⟩, bU, kU⟩ := store5 b1 (.int .i32 0) (.int .i64 0) (.int .i64 0) (.int .i64 0) (.int .i64 0)
      obtain ⟨m0, m1, m2, m3, m4⟩ := blk5 bU
      have HE := Lib.hid (kV.trans (kU.mono fun i _ hi => Or.inr (by have h9 : i = w.heap.size + 1 := hi; omega)))
      clear hS hc' hlV hl hline hlr h2 kV hll b0 b1 hb hn' hlen hr hc bU kU
      go_enter Try.func37, Try.ntmps37
      go_wp2
      exact bodyPost_ret (v := .agg #[.int .i32 0, .int .i64 0, .int .i64 0, .int .i64 0, .int .i64 0]) (by simp [results, Try.results37, go_sem, m0, m1, m2, m3, m4]) rfl ⟨rfl, HE.out⟩
  · have g1 : decide (ln ≤ row) = true := decide_eq_true (by omega)
    have g1' : decide ((ln : Int) ≤ (row : Int)) = true := decide_eq_true (by omega)
    have hS : cellS ls row col = cl0 := by unfold cellS; rw [List.getElem?_eq_none (show ls.length ≤ row by omega)]; rfl
    rw [hS]
    obtain ⟨V1, V2, V3, V4, V5, f1, f2, f3, f4, f5, ⟨z0, z0'⟩, ⟨z1, z1'⟩, ⟨z2, z2'⟩, ⟨z3, z3'⟩, ⟨z4, z4'⟩, bU, kU⟩ := store5 b1 (.int .i32 0) (.int .i64 0) (.int .i64 0) (.int .i64 0) (.int .i64 0)
    obtain ⟨m0, m1, m2, m3, m4⟩ := blk5 bU
    have HE := Lib.hid (kV.trans (kU.mono fun i _ hi => Or.inr (by have h9 : i = w.heap.size + 1 := hi; omega)))
    clear hS hlV hl h1 kV hll b0 b1 hlen hr hc bU kU
    go_enter Try.func37, Try.ntmps37
    go_wp2
    exact bodyPost_ret (v := .agg #[.int .i32 0, .int .i64 0, .int .i64 0, .int .i64 0, .int .i64 0]) (by simp [results, Try.results37, go_sem, m0, m1, m2, m3, m4]) rfl ⟨rfl, HE.out⟩
set_option maxRecDepth 100000 in
set_option maxHeartbeats 8000000 in
theorem rCells_any (w h dx dy cw ch : Int) (wd : World) (hw : 1 ≤ w ∧ w ≤ 16384) (hh : 1 ≤ h ∧ h ≤ 16384) (hdx : 0 ≤ dx ∧ dx ≤ 64) (hdy : 0 ≤ dy ∧ dy ≤ 64) (hcw : 1 ≤ cw ∧ cw ≤ 64) (hch : 1 ≤ ch ∧ ch ≤ 64) :
    Calls Try.prog 44 #[.int .i64 w, .int .i64 h, .int .i64 dx, .int .i64 dy, .int .i64 cw, .int .i64 ch] wd fun e w' => e = .returned (.tuple #[.int .i64 ((h + dy + ch - 1) / ch), .int .i64 ((w + dx + cw - 1) / cw)]) ∧ Kept (fun _ => False) wd w' := by
  have t1 : (h + dy + ch - 1).tdiv ch = (h + dy + ch - 1) / ch := Int.tdiv_eq_ediv_of_nonneg (by omega)
  have t2 : (w + dx + cw - 1).tdiv cw = (w + dx + cw - 1) / cw := Int.tdiv_eq_ediv_of_nonneg (by omega)
  obtain ⟨q1, hq1⟩ : ∃ q, (h + dy + ch - 1) / ch = q := ⟨_, rfl⟩
  obtain ⟨q2, hq2⟩ : ∃ q, (w + dx + cw - 1) / cw = q := ⟨_, rfl⟩
  have b1 : 0 ≤ q1 ∧ q1 ≤ h + dy + ch - 1 := by rw [← hq1]; exact ⟨Int.ediv_nonneg (by omega) (by omega), Int.ediv_le_self _ (by omega)⟩
  have b2 : 0 ≤ q2 ∧ q2 ≤ w + dx + cw - 1 := by rw [← hq2]; exact ⟨Int.ediv_nonneg (by omega) (by omega), Int.ediv_le_self _ (by omega)⟩
  rw [hq1] at t1 ⊢
  rw [hq2] at t2 ⊢
  have g0 : decide (w < 1) = false := decide_eq_false (by omega)
  have k0 : decide (16384 < w) = false := decide_eq_false (by omega)
  have g1 : decide (h < 1) = false := decide_eq_false (by omega)
  have k1 : decide (16384 < h) = false := decide_eq_false (by omega)
  have g2 : decide (dx < 0) = false := decide_eq_false (by omega)
  have k2 : decide (64 < dx) = false := decide_eq_false (by omega)
  have g3 : decide (dy < 0) = false := decide_eq_false (by omega)
  have k3 : decide (64 < dy) = false := decide_eq_false (by omega)
  have g4 : decide (cw < 1) = false := decide_eq_false (by omega)
  have k4 : decide (64 < cw) = false := decide_eq_false (by omega)
  have g5 : decide (ch < 1) = false := decide_eq_false (by omega)
  have k5 : decide (64 < ch) = false := decide_eq_false (by omega)
  have u0 : IntKind.i64.wrap (h + dy) = h + dy := IntWalk.i64_in _ (by omega)
  have u1 : IntKind.i64.wrap (h + dy + ch) = h + dy + ch := IntWalk.i64_in _ (by omega)
  have u2 : IntKind.i64.wrap (h + dy + ch - 1) = h + dy + ch - 1 := IntWalk.i64_in _ (by omega)
  have u3 : IntKind.i64.wrap (q1) = q1 := IntWalk.i64_in _ (by omega)
  have u4 : IntKind.i64.wrap (w + dx) = w + dx := IntWalk.i64_in _ (by omega)
  have u5 : IntKind.i64.wrap (w + dx + cw) = w + dx + cw := IntWalk.i64_in _ (by omega)
  have u6 : IntKind.i64.wrap (w + dx + cw - 1) = w + dx + cw - 1 := IntWalk.i64_in _ (by omega)
  have u7 : IntKind.i64.wrap (q2) = q2 := IntWalk.i64_in _ (by omega)
  have z1 : (ch == 0) = false := by simp; omega
  have z2 : ¬ ch = 0 := by omega
  have z3 : (cw == 0) = false := by simp; omega
  have z4 : ¬ cw = 0 := by omega
  obtain ⟨E1, hE1⟩ : ∃ E, wd.drew = E := ⟨_, rfl⟩
  have HK := Lib.hid (show Kept (fun _ => False) wd E1 by rw [← hE1]; exact (Kept.refl _ _).drew)
  clear hw hh hdx hdy hcw hch hq1 hq2 b1 b2
  go_enter Try.func44, Try.ntmps44
  go_wp2
  go_still (by kernel_rfl)
  rw [show (World.mk wd.heap wd.tape (wd.drawn + 1) wd.os wd.output) = E1 from hE1]
  go_wp2
  exact bodyPost_ret (v := .tuple #[.int .i64 q1, .int .i64 q2]) (by simp [results, Try.results44, go_sem]) rfl ⟨rfl, HK.out⟩
set_option maxRecDepth 100000 in
set_option maxHeartbeats 8000000 in
theorem rregion_any (s : RSc) (p : Pz) (wd : World) (hcw : 1 ≤ s.cw ∧ s.cw ≤ 64) (hch : 1 ≤ s.ch ∧ s.ch ≤ 64) (htop : 0 ≤ s.top ∧ s.top ≤ 1125899906842624) (hp : p.Ok) :
    Calls Try.prog 16 #[s.val, p.val] wd fun e w' => e = .returned (.tuple #[.int .i64 (regP s.cw s.ch s.top p).x, .int .i64 (regP s.cw s.ch s.top p).y, .int .i64 (regP s.cw s.ch s.top p).w, .int .i64 (regP s.cw s.ch s.top p).h]) ∧ Kept (fun _ => False) wd w' := by
  obtain ⟨h1, h2, h3, h4, h5, h6, h7, h8, h9, h10, h11, h12⟩ := hp
  obtain ⟨im, pid, alt, line, pcol, prows, pcols, px, py, pw, ph, dx, dy, z⟩ := p
  obtain ⟨rows, cols, cw, ch, la, ln, lc, pa, pn, pc, ia, ik, ic, top, cur, srow, scol⟩ := s
  simp only at h1 h2 h3 h4 h5 h6 h7 h8 h9 h10 h11 h12 hcw hch htop
  unfold RSc.val Pz.val
  simp only
  obtain ⟨q1, hq1⟩ : ∃ q, (ph + dy + (ch : Int) - 1) / (ch : Int) = q := ⟨_, rfl⟩
  obtain ⟨q2, hq2⟩ : ∃ q, (pw + dx + (cw : Int) - 1) / (cw : Int) = q := ⟨_, rfl⟩
  have HC := Lib.hid (fun x => show Calls Try.prog 44 #[.int .i64 pw, .int .i64 ph, .int .i64 dx, .int .i64 dy, .int .i64 cw, .int .i64 ch] x fun e w' => e = .returned (.tuple #[.int .i64 q1, .int .i64 q2]) ∧ Kept (fun _ => False) x w' from by
    have h := rCells_any pw ph dx dy cw ch x (by omega) (by omega) (by omega) (by omega) (by omega) (by omega)
    rw [hq1, hq2] at h
    exact h)
  obtain ⟨X, hX⟩ : ∃ x, pcol * (cw : Int) = x := ⟨_, rfl⟩
  have bX0 : 0 ≤ pcol * (cw : Int) := Int.mul_nonneg (by omega) (by omega)
  have bX1 : pcol * (cw : Int) ≤ 1000 * 64 := Int.mul_le_mul (by omega) (by omega) (by omega) (by omega)
  obtain ⟨U, hU⟩ : ∃ x, line - top = x := ⟨_, rfl⟩
  obtain ⟨Y, hY⟩ : ∃ x, U * (ch : Int) = x := ⟨_, rfl⟩
  have bY0 : -72057594037927936 ≤ U * (ch : Int) := by
    have h := Int.mul_le_mul_of_nonneg_right (show -1125899906842624 ≤ U by omega) (show (0 : Int) ≤ ch by omega)
    have h2 : (1125899906842624 : Int) * ch ≤ 1125899906842624 * 64 := Int.mul_le_mul_of_nonneg_left (by omega) (by omega)
    rw [Int.neg_mul] at h
    omega
  have bY1 : U * (ch : Int) ≤ 72057594037927936 := by
    have h := Int.mul_le_mul_of_nonneg_right (show U ≤ 1125899906842624 by omega) (show (0 : Int) ≤ ch by omega)
    have h2 : (1125899906842624 : Int) * ch ≤ 1125899906842624 * 64 := Int.mul_le_mul_of_nonneg_left (by omega) (by omega)
    omega
  obtain ⟨A, hA⟩ : ∃ x, pcols * (cw : Int) = x := ⟨_, rfl⟩
  have bA0 : 0 ≤ pcols * (cw : Int) := Int.mul_nonneg (by omega) (by omega)
  have bA1 : pcols * (cw : Int) ≤ 64 * 64 := Int.mul_le_mul (by omega) (by omega) (by omega) (by omega)
  obtain ⟨B, hB⟩ : ∃ x, prows * (ch : Int) = x := ⟨_, rfl⟩
  have bB0 : 0 ≤ prows * (ch : Int) := Int.mul_nonneg (by omega) (by omega)
  have bB1 : prows * (ch : Int) ≤ 64 * 64 := Int.mul_le_mul (by omega) (by omega) (by omega) (by omega)
  rw [hX] at bX0 bX1; rw [hY] at bY0 bY1; rw [hA] at bA0 bA1; rw [hB] at bB0 bB1
  have HFI : fitsP cw ch ⟨im, pid, alt, line, pcol, prows, pcols, px, py, pw, ph, dx, dy, z⟩ ↔ q1 = prows ∧ q2 = pcols := by unfold fitsP; simp only; rw [hq1, hq2]
  have RW : regW cw ch ⟨im, pid, alt, line, pcol, prows, pcols, px, py, pw, ph, dx, dy, z⟩ = if q1 = prows ∧ q2 = pcols then pw else A - dx := by
    unfold regW
    simp only [HFI]
    rw [hA]
  have RH : regH cw ch ⟨im, pid, alt, line, pcol, prows, pcols, px, py, pw, ph, dx, dy, z⟩ = if q1 = prows ∧ q2 = pcols then ph else B - dy := by
    unfold regH
    simp only [HFI]
    rw [hB]
  unfold regP
  simp only
  rw [RW, RH, hX, hU, hY]
  have uX : IntKind.i64.wrap X = X := IntWalk.i64_in _ (by omega)
  have uX2 : IntKind.i64.wrap (X + dx) = X + dx := IntWalk.i64_in _ (by omega)
  have uU : IntKind.i64.wrap U = U := IntWalk.i64_in _ (by omega)
  have uY : IntKind.i64.wrap Y = Y := IntWalk.i64_in _ (by omega)
  have uY2 : IntKind.i64.wrap (Y + dy) = Y + dy := IntWalk.i64_in _ (by omega)
  obtain ⟨V, hV⟩ : ∃ V, (wd.alloc (.cells #[.int .i64 rows, .int .i64 cols, .int .i64 cw, .int .i64 ch, .slice la ln lc, .slice pa pn pc, .slice ia ik ic, .int .i64 top, .bool cur, .int .i64 srow, .int .i64 scol] 42)).alloc (.cells #[.int .i64 im, .int .i64 pid, .bool alt, .int .i64 line, .int .i64 pcol, .int .i64 prows, .int .i64 pcols, .int .i64 px, .int .i64 py, .int .i64 pw, .int .i64 ph, .int .i64 dx, .int .i64 dy, .int .i64 z] 51) = V := ⟨_, rfl⟩
  have kV : Kept (fun _ => False) wd V := by rw [← hV]; exact ((Kept.refl _ _).alloc _).alloc _
  have b0 : V.heap[wd.heap.size]? = some (.cells #[.int .i64 rows, .int .i64 cols, .int .i64 cw, .int .i64 ch, .slice la ln lc, .slice pa pn pc, .slice ia ik ic, .int .i64 top, .bool cur, .int .i64 srow, .int .i64 scol] 42 (0, 0)) := by rw [← hV]; exact blk_alloc (blk_new _ _) _
  have b1 : V.heap[wd.heap.size + 1]? = some (.cells #[.int .i64 im, .int .i64 pid, .bool alt, .int .i64 line, .int .i64 pcol, .int .i64 prows, .int .i64 pcols, .int .i64 px, .int .i64 py, .int .i64 pw, .int .i64 ph, .int .i64 dx, .int .i64 dy, .int .i64 z] 51 (0, 0)) := by rw [← hV]; exact blk_at _ _ (by simp)
  have HB := Lib.hid (And.intro kV (And.intro b0 b1))
  obtain ⟨y0, y1, y2, y3, y4, y5, y6, y7, y8, y9, y10, y11, y12, y13⟩ := blk14 b1
  obtain ⟨-, -, s2, s3, -, -, -, s7, -⟩ := blk11 b0
  obtain ⟨E1, hE1⟩ : ∃ E, V.drew = E := ⟨_, rfl⟩
  have kE : Kept (fun _ => False) V E1 := by rw [← hE1]; exact (Kept.refl _ _).drew
  have HE := Lib.hid (kV.then kE)
  obtain ⟨z0, z1, z2, z3, z4, z5, z6, z7, z8, z9, z10, z11, z12, z13⟩ := blk14 (kE.blk b1 id)
  obtain ⟨-, -, r2, r3, -, -, -, r7, -⟩ := blk11 (kE.blk b0 id)
  have n0 : decide (pcols < 0) = false := decide_eq_false (by omega)
  have n1' : decide (1048576 < pcols) = false := decide_eq_false (by omega)
  have n2' : decide (prows < 0) = false := decide_eq_false (by omega)
  have n3' : decide (1048576 < prows) = false := decide_eq_false (by omega)
  have HKE := Lib.hid kE
  clear kE kV b0 b1 RW RH HFI h1 h2 h3 h4 h5 h6 h7 hcw hch htop
  by_cases hf : q1 = prows ∧ q2 = pcols
  · obtain ⟨rfl, rfl⟩ := hf
    rw [if_pos (c := q1 = q1 ∧ q2 = q2) ⟨rfl, rfl⟩, if_pos (c := q1 = q1 ∧ q2 = q2) ⟨rfl, rfl⟩, if_pos (by omega)]
    obtain ⟨P, hP⟩ : ∃ x, pw * ph = x := ⟨_, rfl⟩
    have bP0 : 0 ≤ pw * ph := Int.mul_nonneg (by omega) (by omega)
    have bP1 : pw * ph ≤ 400 * 400 := Int.mul_le_mul (by omega) (by omega) (by omega) (by omega)
    rw [hP] at bP0 bP1
    have uP : IntKind.i64.wrap P = P := IntWalk.i64_in _ (by omega)
    have gP : decide (67108864 < P) = false := decide_eq_false (by omega)
    have j0 : decide (pw < 1) = false := decide_eq_false (by omega)
    have j1 : decide (ph < 1) = false := decide_eq_false (by omega)
    have j2 : decide (16384 < pw) = false := decide_eq_false (by omega)
    have j3 : decide (16384 < ph) = false := decide_eq_false (by omega)
    clear h8 h9 h10 h11 h12 bX0 bX1 bY0 bY1 bA0 bA1 bB0 bB1 hq1 hq2 bP0 bP1
    go_enter Try.func16, Try.ntmps16
    go_wp2_with fail
    refine (HC.out _).mono ?_
    rintro e w2 ⟨rfl, hk2⟩
    obtain ⟨y0, y1, y2, y3, y4, y5, y6, y7, y8, y9, y10, y11, y12, y13⟩ := blk14 (hk2.blk HB.out.2.2 (fun h => h))
    obtain ⟨-, -, s2, s3, -, -, -, s7, -⟩ := blk11 (hk2.blk HB.out.2.1 (fun h => h))
    have H2 := Lib.hid (HB.out.1.then hk2)
    obtain ⟨E2, hE2⟩ : ∃ E, w2.drew = E := ⟨_, rfl⟩
    have kE2 : Kept (fun _ => False) w2 E2 := by rw [← hE2]; exact (Kept.refl _ _).drew
    obtain ⟨z0, z1, z2, z3, z4, z5, z6, z7, z8, z9, z10, z11, z12, z13⟩ := blk14 ((hk2.then kE2).blk HB.out.2.2 (fun h => h))
    obtain ⟨-, -, r2, r3, -, -, -, r7, -⟩ := blk11 ((hk2.then kE2).blk HB.out.2.1 (fun h => h))
    have HE2 := Lib.hid kE2
    clear hk2 kE2
    go_wp2
    go_still (by kernel_rfl)
    rw [show (World.mk w2.heap w2.tape (w2.drawn + 1) w2.os w2.output) = E2 from hE2]
    go_wp2
    exact bodyPost_ret (v := .tuple #[.int .i64 (X + dx), .int .i64 (Y + dy), .int .i64 (pw), .int .i64 (ph)]) (by simp [results, Try.results16, go_sem]) rfl ⟨rfl, H2.out.then HE2.out⟩
  rw [if_neg hf, if_neg hf]
  have uA : IntKind.i64.wrap A = A := IntWalk.i64_in _ (by omega)
  have uA2 : IntKind.i64.wrap (A - dx) = A - dx := IntWalk.i64_in _ (by omega)
  have uB : IntKind.i64.wrap B = B := IntWalk.i64_in _ (by omega)
  have uB2 : IntKind.i64.wrap (B - dy) = B - dy := IntWalk.i64_in _ (by omega)
  by_cases hr : q1 = prows
  · subst hr
    have m2 : (q2 != pcols) = true := by simp; exact fun h => hf ⟨rfl, h⟩
    have m2' : ¬ q2 = pcols := fun h => hf ⟨rfl, h⟩
    obtain ⟨WW, hWW⟩ : ∃ x, A - dx = x := ⟨_, rfl⟩
    obtain ⟨HH, hHH⟩ : ∃ x, B - dy = x := ⟨_, rfl⟩
    rw [hWW] at uA2 ⊢
    rw [hHH] at uB2 ⊢
    by_cases c0 : WW < 1
    · have j0 : decide (WW < 1) = true := decide_eq_true c0
      rw [if_neg (by omega)]
      clear h8 h9 h10 h11 h12 bX0 bX1 bY0 bY1 bA0 bA1 bB0 bB1 hq1 hq2 hf c0
      go_enter Try.func16, Try.ntmps16
      go_wp2_with fail
      refine (HC.out _).mono ?_
      rintro e w2 ⟨rfl, hk2⟩
      obtain ⟨y0, y1, y2, y3, y4, y5, y6, y7, y8, y9, y10, y11, y12, y13⟩ := blk14 (hk2.blk HB.out.2.2 (fun h => h))
      obtain ⟨-, -, s2, s3, -, -, -, s7, -⟩ := blk11 (hk2.blk HB.out.2.1 (fun h => h))
      have H2 := Lib.hid (HB.out.1.then hk2)
      obtain ⟨E2, hE2⟩ : ∃ E, w2.drew = E := ⟨_, rfl⟩
      have kE2 : Kept (fun _ => False) w2 E2 := by rw [← hE2]; exact (Kept.refl _ _).drew
      obtain ⟨z0, z1, z2, z3, z4, z5, z6, z7, z8, z9, z10, z11, z12, z13⟩ := blk14 ((hk2.then kE2).blk HB.out.2.2 (fun h => h))
      obtain ⟨-, -, r2, r3, -, -, -, r7, -⟩ := blk11 ((hk2.then kE2).blk HB.out.2.1 (fun h => h))
      have HE2 := Lib.hid kE2
      clear hk2 kE2
      go_wp2
      exact bodyPost_ret (v := .tuple #[.int .i64 0, .int .i64 0, .int .i64 0, .int .i64 0]) (by simp [results, Try.results16, go_sem]) rfl ⟨rfl, H2.out⟩
    have j0 : decide (WW < 1) = false := decide_eq_false c0
    by_cases c1 : HH < 1
    · have j1 : decide (HH < 1) = true := decide_eq_true c1
      rw [if_neg (by omega)]
      clear h8 h9 h10 h11 h12 bX0 bX1 bY0 bY1 bA0 bA1 bB0 bB1 hq1 hq2 hf c0 c1
      go_enter Try.func16, Try.ntmps16
      go_wp2_with fail
      refine (HC.out _).mono ?_
      rintro e w2 ⟨rfl, hk2⟩
      obtain ⟨y0, y1, y2, y3, y4, y5, y6, y7, y8, y9, y10, y11, y12, y13⟩ := blk14 (hk2.blk HB.out.2.2 (fun h => h))
      obtain ⟨-, -, s2, s3, -, -, -, s7, -⟩ := blk11 (hk2.blk HB.out.2.1 (fun h => h))
      have H2 := Lib.hid (HB.out.1.then hk2)
      obtain ⟨E2, hE2⟩ : ∃ E, w2.drew = E := ⟨_, rfl⟩
      have kE2 : Kept (fun _ => False) w2 E2 := by rw [← hE2]; exact (Kept.refl _ _).drew
      obtain ⟨z0, z1, z2, z3, z4, z5, z6, z7, z8, z9, z10, z11, z12, z13⟩ := blk14 ((hk2.then kE2).blk HB.out.2.2 (fun h => h))
      obtain ⟨-, -, r2, r3, -, -, -, r7, -⟩ := blk11 ((hk2.then kE2).blk HB.out.2.1 (fun h => h))
      have HE2 := Lib.hid kE2
      clear hk2 kE2
      go_wp2
      exact bodyPost_ret (v := .tuple #[.int .i64 0, .int .i64 0, .int .i64 0, .int .i64 0]) (by simp [results, Try.results16, go_sem]) rfl ⟨rfl, H2.out⟩
    have j1 : decide (HH < 1) = false := decide_eq_false c1
    by_cases c2 : 16384 < WW
    · have j2 : decide (16384 < WW) = true := decide_eq_true c2
      rw [if_neg (by omega)]
      clear h8 h9 h10 h11 h12 bX0 bX1 bY0 bY1 bA0 bA1 bB0 bB1 hq1 hq2 hf c0 c1 c2
      go_enter Try.func16, Try.ntmps16
      go_wp2_with fail
      refine (HC.out _).mono ?_
      rintro e w2 ⟨rfl, hk2⟩
      obtain ⟨y0, y1, y2, y3, y4, y5, y6, y7, y8, y9, y10, y11, y12, y13⟩ := blk14 (hk2.blk HB.out.2.2 (fun h => h))
      obtain ⟨-, -, s2, s3, -, -, -, s7, -⟩ := blk11 (hk2.blk HB.out.2.1 (fun h => h))
      have H2 := Lib.hid (HB.out.1.then hk2)
      obtain ⟨E2, hE2⟩ : ∃ E, w2.drew = E := ⟨_, rfl⟩
      have kE2 : Kept (fun _ => False) w2 E2 := by rw [← hE2]; exact (Kept.refl _ _).drew
      obtain ⟨z0, z1, z2, z3, z4, z5, z6, z7, z8, z9, z10, z11, z12, z13⟩ := blk14 ((hk2.then kE2).blk HB.out.2.2 (fun h => h))
      obtain ⟨-, -, r2, r3, -, -, -, r7, -⟩ := blk11 ((hk2.then kE2).blk HB.out.2.1 (fun h => h))
      have HE2 := Lib.hid kE2
      clear hk2 kE2
      go_wp2
      exact bodyPost_ret (v := .tuple #[.int .i64 0, .int .i64 0, .int .i64 0, .int .i64 0]) (by simp [results, Try.results16, go_sem]) rfl ⟨rfl, H2.out⟩
    have j2 : decide (16384 < WW) = false := decide_eq_false c2
    by_cases c3 : 16384 < HH
    · have j3 : decide (16384 < HH) = true := decide_eq_true c3
      rw [if_neg (by omega)]
      clear h8 h9 h10 h11 h12 bX0 bX1 bY0 bY1 bA0 bA1 bB0 bB1 hq1 hq2 hf c0 c1 c2 c3
      go_enter Try.func16, Try.ntmps16
      go_wp2_with fail
      refine (HC.out _).mono ?_
      rintro e w2 ⟨rfl, hk2⟩
      obtain ⟨y0, y1, y2, y3, y4, y5, y6, y7, y8, y9, y10, y11, y12, y13⟩ := blk14 (hk2.blk HB.out.2.2 (fun h => h))
      obtain ⟨-, -, s2, s3, -, -, -, s7, -⟩ := blk11 (hk2.blk HB.out.2.1 (fun h => h))
      have H2 := Lib.hid (HB.out.1.then hk2)
      obtain ⟨E2, hE2⟩ : ∃ E, w2.drew = E := ⟨_, rfl⟩
      have kE2 : Kept (fun _ => False) w2 E2 := by rw [← hE2]; exact (Kept.refl _ _).drew
      obtain ⟨z0, z1, z2, z3, z4, z5, z6, z7, z8, z9, z10, z11, z12, z13⟩ := blk14 ((hk2.then kE2).blk HB.out.2.2 (fun h => h))
      obtain ⟨-, -, r2, r3, -, -, -, r7, -⟩ := blk11 ((hk2.then kE2).blk HB.out.2.1 (fun h => h))
      have HE2 := Lib.hid kE2
      clear hk2 kE2
      go_wp2
      exact bodyPost_ret (v := .tuple #[.int .i64 0, .int .i64 0, .int .i64 0, .int .i64 0]) (by simp [results, Try.results16, go_sem]) rfl ⟨rfl, H2.out⟩
    have j3 : decide (16384 < HH) = false := decide_eq_false c3
    rw [if_pos (by omega)]
    obtain ⟨P, hP⟩ : ∃ x, WW * HH = x := ⟨_, rfl⟩
    have bP0 : 0 ≤ WW * HH := Int.mul_nonneg (by omega) (by omega)
    have bP1 : WW * HH ≤ 4096 * 4096 := Int.mul_le_mul (by omega) (by omega) (by omega) (by omega)
    rw [hP] at bP0 bP1
    have uP : IntKind.i64.wrap P = P := IntWalk.i64_in _ (by omega)
    have gP : decide (67108864 < P) = false := decide_eq_false (by omega)
    clear h8 h9 h10 h11 h12 bX0 bX1 bY0 bY1 bA0 bA1 bB0 bB1 hq1 hq2 bP0 bP1 hf c0 c1 c2 c3
    go_enter Try.func16, Try.ntmps16
    go_wp2_with fail
    refine (HC.out _).mono ?_
    rintro e w2 ⟨rfl, hk2⟩
    obtain ⟨y0, y1, y2, y3, y4, y5, y6, y7, y8, y9, y10, y11, y12, y13⟩ := blk14 (hk2.blk HB.out.2.2 (fun h => h))
    obtain ⟨-, -, s2, s3, -, -, -, s7, -⟩ := blk11 (hk2.blk HB.out.2.1 (fun h => h))
    have H2 := Lib.hid (HB.out.1.then hk2)
    obtain ⟨E2, hE2⟩ : ∃ E, w2.drew = E := ⟨_, rfl⟩
    have kE2 : Kept (fun _ => False) w2 E2 := by rw [← hE2]; exact (Kept.refl _ _).drew
    obtain ⟨z0, z1, z2, z3, z4, z5, z6, z7, z8, z9, z10, z11, z12, z13⟩ := blk14 ((hk2.then kE2).blk HB.out.2.2 (fun h => h))
    obtain ⟨-, -, r2, r3, -, -, -, r7, -⟩ := blk11 ((hk2.then kE2).blk HB.out.2.1 (fun h => h))
    have HE2 := Lib.hid kE2
    clear hk2 kE2
    go_wp2
    go_still (by kernel_rfl)
    rw [show (World.mk w2.heap w2.tape (w2.drawn + 1) w2.os w2.output) = E2 from hE2]
    go_wp2
    exact bodyPost_ret (v := .tuple #[.int .i64 (X + dx), .int .i64 (Y + dy), .int .i64 (WW), .int .i64 (HH)]) (by simp [results, Try.results16, go_sem]) rfl ⟨rfl, H2.out.then HE2.out⟩
  · have m1 : (q1 != prows) = true := by simpa using hr
    clear hr
    obtain ⟨WW, hWW⟩ : ∃ x, A - dx = x := ⟨_, rfl⟩
    obtain ⟨HH, hHH⟩ : ∃ x, B - dy = x := ⟨_, rfl⟩
    rw [hWW] at uA2 ⊢
    rw [hHH] at uB2 ⊢
    by_cases c0 : WW < 1
    · have j0 : decide (WW < 1) = true := decide_eq_true c0
      rw [if_neg (by omega)]
      clear h8 h9 h10 h11 h12 bX0 bX1 bY0 bY1 bA0 bA1 bB0 bB1 hq1 hq2 hf c0
      go_enter Try.func16, Try.ntmps16
      go_wp2_with fail
      refine (HC.out _).mono ?_
      rintro e w2 ⟨rfl, hk2⟩
      obtain ⟨y0, y1, y2, y3, y4, y5, y6, y7, y8, y9, y10, y11, y12, y13⟩ := blk14 (hk2.blk HB.out.2.2 (fun h => h))
      obtain ⟨-, -, s2, s3, -, -, -, s7, -⟩ := blk11 (hk2.blk HB.out.2.1 (fun h => h))
      have H2 := Lib.hid (HB.out.1.then hk2)
      obtain ⟨E2, hE2⟩ : ∃ E, w2.drew = E := ⟨_, rfl⟩
      have kE2 : Kept (fun _ => False) w2 E2 := by rw [← hE2]; exact (Kept.refl _ _).drew
      obtain ⟨z0, z1, z2, z3, z4, z5, z6, z7, z8, z9, z10, z11, z12, z13⟩ := blk14 ((hk2.then kE2).blk HB.out.2.2 (fun h => h))
      obtain ⟨-, -, r2, r3, -, -, -, r7, -⟩ := blk11 ((hk2.then kE2).blk HB.out.2.1 (fun h => h))
      have HE2 := Lib.hid kE2
      clear hk2 kE2
      go_wp2
      exact bodyPost_ret (v := .tuple #[.int .i64 0, .int .i64 0, .int .i64 0, .int .i64 0]) (by simp [results, Try.results16, go_sem]) rfl ⟨rfl, H2.out⟩
    have j0 : decide (WW < 1) = false := decide_eq_false c0
    by_cases c1 : HH < 1
    · have j1 : decide (HH < 1) = true := decide_eq_true c1
      rw [if_neg (by omega)]
      clear h8 h9 h10 h11 h12 bX0 bX1 bY0 bY1 bA0 bA1 bB0 bB1 hq1 hq2 hf c0 c1
      go_enter Try.func16, Try.ntmps16
      go_wp2_with fail
      refine (HC.out _).mono ?_
      rintro e w2 ⟨rfl, hk2⟩
      obtain ⟨y0, y1, y2, y3, y4, y5, y6, y7, y8, y9, y10, y11, y12, y13⟩ := blk14 (hk2.blk HB.out.2.2 (fun h => h))
      obtain ⟨-, -, s2, s3, -, -, -, s7, -⟩ := blk11 (hk2.blk HB.out.2.1 (fun h => h))
      have H2 := Lib.hid (HB.out.1.then hk2)
      obtain ⟨E2, hE2⟩ : ∃ E, w2.drew = E := ⟨_, rfl⟩
      have kE2 : Kept (fun _ => False) w2 E2 := by rw [← hE2]; exact (Kept.refl _ _).drew
      obtain ⟨z0, z1, z2, z3, z4, z5, z6, z7, z8, z9, z10, z11, z12, z13⟩ := blk14 ((hk2.then kE2).blk HB.out.2.2 (fun h => h))
      obtain ⟨-, -, r2, r3, -, -, -, r7, -⟩ := blk11 ((hk2.then kE2).blk HB.out.2.1 (fun h => h))
      have HE2 := Lib.hid kE2
      clear hk2 kE2
      go_wp2
      exact bodyPost_ret (v := .tuple #[.int .i64 0, .int .i64 0, .int .i64 0, .int .i64 0]) (by simp [results, Try.results16, go_sem]) rfl ⟨rfl, H2.out⟩
    have j1 : decide (HH < 1) = false := decide_eq_false c1
    by_cases c2 : 16384 < WW
    · have j2 : decide (16384 < WW) = true := decide_eq_true c2
      rw [if_neg (by omega)]
      clear h8 h9 h10 h11 h12 bX0 bX1 bY0 bY1 bA0 bA1 bB0 bB1 hq1 hq2 hf c0 c1 c2
      go_enter Try.func16, Try.ntmps16
      go_wp2_with fail
      refine (HC.out _).mono ?_
      rintro e w2 ⟨rfl, hk2⟩
      obtain ⟨y0, y1, y2, y3, y4, y5, y6, y7, y8, y9, y10, y11, y12, y13⟩ := blk14 (hk2.blk HB.out.2.2 (fun h => h))
      obtain ⟨-, -, s2, s3, -, -, -, s7, -⟩ := blk11 (hk2.blk HB.out.2.1 (fun h => h))
      have H2 := Lib.hid (HB.out.1.then hk2)
      obtain ⟨E2, hE2⟩ : ∃ E, w2.drew = E := ⟨_, rfl⟩
      have kE2 : Kept (fun _ => False) w2 E2 := by rw [← hE2]; exact (Kept.refl _ _).drew
      obtain ⟨z0, z1, z2, z3, z4, z5, z6, z7, z8, z9, z10, z11, z12, z13⟩ := blk14 ((hk2.then kE2).blk HB.out.2.2 (fun h => h))
      obtain ⟨-, -, r2, r3, -, -, -, r7, -⟩ := blk11 ((hk2.then kE2).blk HB.out.2.1 (fun h => h))
      have HE2 := Lib.hid kE2
      clear hk2 kE2
      go_wp2
      exact bodyPost_ret (v := .tuple #[.int .i64 0, .int .i64 0, .int .i64 0, .int .i64 0]) (by simp [results, Try.results16, go_sem]) rfl ⟨rfl, H2.out⟩
    have j2 : decide (16384 < WW) = false := decide_eq_false c2
    by_cases c3 : 16384 < HH
    · have j3 : decide (16384 < HH) = true := decide_eq_true c3
      rw [if_neg (by omega)]
      clear h8 h9 h10 h11 h12 bX0 bX1 bY0 bY1 bA0 bA1 bB0 bB1 hq1 hq2 hf c0 c1 c2 c3
      go_enter Try.func16, Try.ntmps16
      go_wp2_with fail
      refine (HC.out _).mono ?_
      rintro e w2 ⟨rfl, hk2⟩
      obtain ⟨y0, y1, y2, y3, y4, y5, y6, y7, y8, y9, y10, y11, y12, y13⟩ := blk14 (hk2.blk HB.out.2.2 (fun h => h))
      obtain ⟨-, -, s2, s3, -, -, -, s7, -⟩ := blk11 (hk2.blk HB.out.2.1 (fun h => h))
      have H2 := Lib.hid (HB.out.1.then hk2)
      obtain ⟨E2, hE2⟩ : ∃ E, w2.drew = E := ⟨_, rfl⟩
      have kE2 : Kept (fun _ => False) w2 E2 := by rw [← hE2]; exact (Kept.refl _ _).drew
      obtain ⟨z0, z1, z2, z3, z4, z5, z6, z7, z8, z9, z10, z11, z12, z13⟩ := blk14 ((hk2.then kE2).blk HB.out.2.2 (fun h => h))
      obtain ⟨-, -, r2, r3, -, -, -, r7, -⟩ := blk11 ((hk2.then kE2).blk HB.out.2.1 (fun h => h))
      have HE2 := Lib.hid kE2
      clear hk2 kE2
      go_wp2
      exact bodyPost_ret (v := .tuple #[.int .i64 0, .int .i64 0, .int .i64 0, .int .i64 0]) (by simp [results, Try.results16, go_sem]) rfl ⟨rfl, H2.out⟩
    have j3 : decide (16384 < HH) = false := decide_eq_false c3
    rw [if_pos (by omega)]
    obtain ⟨P, hP⟩ : ∃ x, WW * HH = x := ⟨_, rfl⟩
    have bP0 : 0 ≤ WW * HH := Int.mul_nonneg (by omega) (by omega)
    have bP1 : WW * HH ≤ 4096 * 4096 := Int.mul_le_mul (by omega) (by omega) (by omega) (by omega)
    rw [hP] at bP0 bP1
    have uP : IntKind.i64.wrap P = P := IntWalk.i64_in _ (by omega)
    have gP : decide (67108864 < P) = false := decide_eq_false (by omega)
    clear h8 h9 h10 h11 h12 bX0 bX1 bY0 bY1 bA0 bA1 bB0 bB1 hq1 hq2 bP0 bP1 hf c0 c1 c2 c3
    go_enter Try.func16, Try.ntmps16
    go_wp2_with fail
    refine (HC.out _).mono ?_
    rintro e w2 ⟨rfl, hk2⟩
    obtain ⟨y0, y1, y2, y3, y4, y5, y6, y7, y8, y9, y10, y11, y12, y13⟩ := blk14 (hk2.blk HB.out.2.2 (fun h => h))
    obtain ⟨-, -, s2, s3, -, -, -, s7, -⟩ := blk11 (hk2.blk HB.out.2.1 (fun h => h))
    have H2 := Lib.hid (HB.out.1.then hk2)
    obtain ⟨E2, hE2⟩ : ∃ E, w2.drew = E := ⟨_, rfl⟩
    have kE2 : Kept (fun _ => False) w2 E2 := by rw [← hE2]; exact (Kept.refl _ _).drew
    obtain ⟨z0, z1, z2, z3, z4, z5, z6, z7, z8, z9, z10, z11, z12, z13⟩ := blk14 ((hk2.then kE2).blk HB.out.2.2 (fun h => h))
    obtain ⟨-, -, r2, r3, -, -, -, r7, -⟩ := blk11 ((hk2.then kE2).blk HB.out.2.1 (fun h => h))
    have HE2 := Lib.hid kE2
    clear hk2 kE2
    go_wp2
    go_still (by kernel_rfl)
    rw [show (World.mk w2.heap w2.tape (w2.drawn + 1) w2.os w2.output) = E2 from hE2]
    go_wp2
    exact bodyPost_ret (v := .tuple #[.int .i64 (X + dx), .int .i64 (Y + dy), .int .i64 (WW), .int .i64 (HH)]) (by simp [results, Try.results16, go_sem]) rfl ⟨rfl, H2.out.then HE2.out⟩
end Go.Proofs.Ytdjgmhbfohbenaa
