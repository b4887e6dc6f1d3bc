/- Scenes: how they lie in memory; a cell of one. -/
import Derived.Test.YtdjgmhbfohbenaaGlyP
namespace Go.Proofs.Ytdjgmhbfohbenaa
open Go.RowKit Go.Sort Pl
set_option linter.unusedVariables false
set_option linter.unusedSimpArgs false
/-- A cell. -/
structure Cl where
  r : Int
  k : Int
  a : Look
def Cl.val (c : Cl) : Value := .agg #[.int .i32 c.r, .int .i64 c.k, .int .i64 c.a.fg, .int .i64 c.a.bg, .int .i64 c.a.fl]
def Cl.vs (c : Cl) : List Value := [.int .i32 c.r, .int .i64 c.k, .int .i64 c.a.fg, .int .i64 c.a.bg, .int .i64 c.a.fl]
def Cl.cs (c : Cl) : Array Value := #[.int .i32 c.r, .int .i64 c.k, .int .i64 c.a.fg, .int .i64 c.a.bg, .int .i64 c.a.fl]
def cl0 : Cl := ⟨0, 0, ⟨0, 0, 0⟩⟩
/-- A line of cells in blocks below B. -/
def LineAt (B : Nat) (w : World) (a : Option Addr) (n : Nat) (l : List Cl) : Prop := l.length = n ∧ (n = 0 ∨ ∃ b off, a = some ⟨b, off, none⟩ ∧ b < B ∧ ∀ j c, l[j]? = some c → ∀ f, f < 5 → w.cell? ⟨b, off + j * 5 + f, none⟩ = c.vs[f]?)
/-- Lines in blocks below B. -/
def LinesAt (B : Nat) (w : World) (a : Option Addr) (n : Nat) (ls : List (List Cl)) : Prop := ls.length = n ∧ (n = 0 ∨ ∃ b off, a = some ⟨b, off, none⟩ ∧ b < B ∧ ∀ j l, ls[j]? = some l → ∃ a' n' c', w.cell? ⟨b, off + j, none⟩ = some (.slice a' n' c') ∧ LineAt B w a' n' l)
theorem LineAt.kept {B : Nat} {S : Nat → Prop} {w w' : World} {a : Option Addr} {n : Nat} {l : List Cl} (h : LineAt B w a n l) (hk : Kept S w w') (hS : ∀ i, S i → B ≤ i) : LineAt B w' a n l := by
  obtain ⟨h1, h2⟩ := h
  refine ⟨h1, h2.imp (fun h => h) fun ⟨b, off, ha, hb, hc⟩ => ⟨b, off, ha, hb, fun j c hj f hf => ?_⟩⟩
  have hv : c.vs[f]? = some (c.vs[f]'(by show f < 5; exact hf)) := List.getElem?_eq_getElem _
  rw [hv]
  exact hk.cell ((hc j c hj f hf).trans hv) (fun hs => absurd (hS b hs) (Nat.not_le.2 hb))
theorem LinesAt.kept {B : Nat} {S : Nat → Prop} {w w' : World} {a : Option Addr} {n : Nat} {ls : List (List Cl)} (h : LinesAt B w a n ls) (hk : Kept S w w') (hS : ∀ i, S i → B ≤ i) : LinesAt B w' a n ls := by
  obtain ⟨h1, h2⟩ := h
  refine ⟨h1, h2.imp (fun h => h) fun ⟨b, off, ha, hb, hc⟩ => ⟨b, off, ha, hb, fun j l hj => ?_⟩⟩
  obtain ⟨a', n', c', hcell, hl⟩ := hc j l hj
  exact ⟨a', n', c', hk.cell hcell (fun hs => absurd (hS b hs) (Nat.not_le.2 hb)), hl.kept hk hS⟩
theorem LinesAt.nil (B : Nat) (w : World) (a : Option Addr) : LinesAt B w a 0 [] := ⟨rfl, .inl rfl⟩
/-- What a scene holds, as values. -/
structure Sc where
  rows : Nat
  cols : Nat
  cw : Nat
  ch : Nat
  la : Option Addr
  ln : Nat
  lc : Nat
  pa : Option Addr
  pn : Nat
  pc : Nat
  im : Option Nat
  top : Int
  cur : Bool
  row : Int
  col : Int
def Sc.val (s : Sc) : Value := .agg #[.int .i64 s.rows, .int .i64 s.cols, .int .i64 s.cw, .int .i64 s.ch, .slice s.la s.ln s.lc, .slice s.pa s.pn s.pc, .map s.im, .int .i64 s.top, .bool s.cur, .int .i64 s.row, .int .i64 s.col]
def Sc.cs (s : Sc) : Array Value := #[.int .i64 s.rows, .int .i64 s.cols, .int .i64 s.cw, .int .i64 s.ch, .slice s.la s.ln s.lc, .slice s.pa s.pn s.pc, .map s.im, .int .i64 s.top, .bool s.cur, .int .i64 s.row, .int .i64 s.col]
theorem blk11 {w : World} {b : Nat} {x0 x1 x2 x3 x4 x5 x6 x7 x8 x9 x10 : Value} {t : TypeId} (h : w.heap[b]? = some (.cells #[x0, x1, x2, x3, x4, x5, x6, x7, x8, x9, x10] t (0, 0))) :
    w.cell? ⟨b, 0, none⟩ = some x0 ∧ w.cell? ⟨b, 1, none⟩ = some x1 ∧ w.cell? ⟨b, 2, none⟩ = some x2 ∧ w.cell? ⟨b, 3, none⟩ = some x3 ∧ w.cell? ⟨b, 4, none⟩ = some x4 ∧ w.cell? ⟨b, 5, none⟩ = some x5 ∧ w.cell? ⟨b, 6, none⟩ = some x6 ∧ w.cell? ⟨b, 7, none⟩ = some x7 ∧ w.cell? ⟨b, 8, none⟩ = some x8 ∧ w.cell? ⟨b, 9, none⟩ = some x9 ∧ w.cell? ⟨b, 10, none⟩ = some x10 :=
  ⟨blk_cell h 0, blk_cell h 1, blk_cell h 2, blk_cell h 3, blk_cell h 4, blk_cell h 5, blk_cell h 6, blk_cell h 7, blk_cell h 8, blk_cell h 9, blk_cell h 10⟩
theorem blk5 {w : World} {b : Nat} {x y z u v : Value} {t : TypeId} (h : w.heap[b]? = some (.cells #[x, y, z, u, v] t (0, 0))) :
    w.cell? ⟨b, 0, none⟩ = some x ∧ w.cell? ⟨b, 1, none⟩ = some y ∧ w.cell? ⟨b, 2, none⟩ = some z ∧ w.cell? ⟨b, 3, none⟩ = some u ∧ w.cell? ⟨b, 4, none⟩ = some v :=
  ⟨blk_cell h 0, blk_cell h 1, blk_cell h 2, blk_cell h 3, blk_cell h 4⟩
theorem store5 {w : World} {p : Nat} {x' y' z' u' v' : Value} {T : TypeId} (h : w.heap[p]? = some (.cells #[x', y', z', u', v'] T (0, 0))) (x y z u v : Value) :
    ∃ V1 V2 V3 V4 V5, w.setCell ⟨p, 0, none⟩ x = V1 ∧ V1.setCell ⟨p, 1, none⟩ y = V2 ∧ V2.setCell ⟨p, 2, none⟩ z = V3 ∧ V3.setCell ⟨p, 3, none⟩ u = V4 ∧ V4.setCell ⟨p, 4, none⟩ v = V5 ∧ (w.cell? ⟨p, 0, none⟩ = some x' ∧ w.frozen? ⟨p, 0, none⟩ = false) ∧ (V1.cell? ⟨p, 1, none⟩ = some y' ∧ V1.frozen? ⟨p, 1, none⟩ = false) ∧
      (V2.cell? ⟨p, 2, none⟩ = some z' ∧ V2.frozen? ⟨p, 2, none⟩ = false) ∧ (V3.cell? ⟨p, 3, none⟩ = some u' ∧ V3.frozen? ⟨p, 3, none⟩ = false) ∧ (V4.cell? ⟨p, 4, none⟩ = some v' ∧ V4.frozen? ⟨p, 4, none⟩ = false) ∧ V5.heap[p]? = some (.cells #[x, y, z, u, v] T (0, 0)) ∧ Kept (· = p) w V5 := by
  have h1 := blk_set h 0 x
  have h2 := blk_set h1 1 y
  have h3 := blk_set h2 2 z
  have h4 := blk_set h3 3 u
  have h5 := blk_set h4 4 v
  exact ⟨_, _, _, _, _, rfl, rfl, rfl, rfl, rfl, ⟨blk_cell h 0, blk_free h 0⟩, ⟨blk_cell h1 1, blk_free h1 1⟩, ⟨blk_cell h2 2, blk_free h2 2⟩, ⟨blk_cell h3 3, blk_free h3 3⟩, ⟨blk_cell h4 4, blk_free h4 4⟩, h5, (((((Kept.refl (fun i => i = p) w).setCell (p := ⟨p, 0, none⟩) (.inl rfl) x).setCell (p := ⟨p, 1, none⟩) (.inl rfl) y).setCell (p := ⟨p, 2, none⟩) (.inl rfl) z).setCell (p := ⟨p, 3, none⟩) (.inl rfl) u).setCell (p := ⟨p, 4, none⟩) (.inl rfl) v⟩
def cellS (ls : List (List Cl)) (row col : Nat) : Cl := ((ls[row]?.getD [])[col]?).getD cl0
set_option maxRecDepth 100000 in
set_option maxHeartbeats 8000000 in
theorem cell_any (B : Nat) (s : Sc) (ls : List (List Cl)) (row col : Nat) (w : World) (hl : LinesAt B w s.la s.ln ls) (hlen : s.ln ≤ 9223372036854775807) (hr : row ≤ 1000000) (hc : col ≤ 1000000) :
    Calls Try.prog 108 #[s.val, .int .i64 row, .int .i64 col] w fun e w' => e = .returned (cellS ls row col).val ∧ Kept (fun _ => False) w w' := by
  obtain ⟨rows, cols, cw, ch, la, ln, lc, pa, pn, pc, im, top, cur, srow, scol⟩ := s
  unfold Sc.val
  simp only at hl hlen ⊢
  obtain ⟨V, hV⟩ : ∃ V, (w.alloc (.cells #[.int .i64 rows, .int .i64 cols, .int .i64 cw, .int .i64 ch, .slice la ln lc, .slice pa pn pc, .map im, .int .i64 top, .bool cur, .int .i64 srow, .int .i64 scol] 26)).alloc (.cells #[.int .i32 0, .int .i64 0, .int .i64 0, .int .i64 0, .int .i64 0] 100) = V := ⟨_, rfl⟩
  have kV : Kept (fun _ => False) w V := by rw [← hV]; exact ((Kept.refl _ _).alloc _).alloc _
  have b0 : V.heap[w.heap.size]? = some (.cells #[.int .i64 rows, .int .i64 cols, .int .i64 cw, .int .i64 ch, .slice la ln lc, .slice pa pn pc, .map im, .int .i64 top, .bool cur, .int .i64 srow, .int .i64 scol] 26 (0, 0)) := by rw [← hV]; exact blk_alloc (blk_new _ _) _
  have b1 : V.heap[w.heap.size + 1]? = some (.cells #[.int .i32 0, .int .i64 0, .int .i64 0, .int .i64 0, .int .i64 0] 100 (0, 0)) := by rw [← hV]; exact blk_at _ _ (by simp)
  obtain ⟨-, -, -, -, x4, -⟩ := blk11 b0
  have hlV := hl.kept kV (fun _ h => h.elim)
  have HK := Lib.hid kV
  have hll := hl.1
  by_cases h1 : row < ln
  · have g1 : decide (ln ≤ row) = false := decide_eq_false (by omega)
    have g1' : decide ((ln : Int) ≤ (row : Int)) = false := decide_eq_false (by omega)
    have r0 : (0 : Int) ≤ (row : Int) := by omega
    have r1 : (row : Int) < (ln : Int) := by omega
    obtain ⟨l, hlr⟩ : ∃ l, ls[row]? = some l := ⟨_, List.getElem?_eq_getElem (by omega)⟩
    obtain ⟨b, off, rfl, hb, hc'⟩ := hlV.2.resolve_left (by omega)
    obtain ⟨a', n', c', hcell, hline⟩ := hc' row l hlr
    have hn' := hline.1
    by_cases h2 : col < n'
    · have g2 : decide (n' ≤ col) = false := decide_eq_false (by omega)
      have g2' : decide ((n' : Int) ≤ (col : Int)) = false := decide_eq_false (by omega)
      obtain ⟨c, hcc⟩ : ∃ c, l[col]? = some c := ⟨_, List.getElem?_eq_getElem (by omega)⟩
      obtain ⟨b2, off2, rfl, hb2, hcells⟩ := hline.2.resolve_left (by omega)
      have y0 := hcells col c hcc 0 (by omega)
      have y1 := hcells col c hcc 1 (by omega)
      have y2 := hcells col c hcc 2 (by omega)
      have y3 := hcells col c hcc 3 (by omega)
      have y4 := hcells col c hcc 4 (by omega)
      rw [Nat.add_zero] at y0
      have hS : cellS ls row col = c := by unfold cellS; rw [hlr]; simp [hcc]
      rw [hS]
      obtain ⟨cr, ck, cfg, cbg, cfl⟩ := c
      unfold Cl.val
      unfold Cl.vs at y0 y1 y2 y3 y4
      simp only [List.getElem?_cons_zero, List.getElem?_cons_succ] at y0 y1 y2 y3 y4 ⊢
      obtain ⟨V1, V2, V3, V4, V5, f1, f2, f3, f4, f5, ⟨z0, z0'⟩, ⟨z1, z1'⟩, ⟨z2, z2'⟩, ⟨z3, z3'⟩, ⟨z4, z4'⟩, bU, kU⟩ := store5 b1 (.int .i32 cr) (.int .i64 ck) (.int .i64 cfg) (.int .i64 cbg) (.int .i64 cfl)
      obtain ⟨m0, m1, m2, m3, m4⟩ := blk5 bU
      have HE := Lib.hid (kV.trans (kU.mono fun i _ hi => Or.inr (by have h9 : i = w.heap.size + 1 := hi; omega)))
      clear hS hcells hc' hlV hl hline hcc hlr kV hll b0 b1 hb hb2 hn' hlen hr hc bU kU
      go_enter Try.func108, Try.ntmps108
      go_wp2
      exact bodyPost_ret (v := .agg #[.int .i32 cr, .int .i64 ck, .int .i64 cfg, .int .i64 cbg, .int .i64 cfl]) (by simp [results, Try.results108, go_sem, m0, m1, m2, m3, m4]) rfl ⟨rfl, HE.out⟩
    · have g2 : decide (n' ≤ col) = true := decide_eq_true (by omega)
      have g2' : decide ((n' : Int) ≤ (col : Int)) = true := decide_eq_true (by omega)
      have hS : cellS ls row col = cl0 := by unfold cellS; rw [hlr]; simp [List.getElem?_eq_none (show l.length ≤ col by omega)]
      rw [hS]
      obtain ⟨V1, V2, V3, V4, V5, f1, f2, f3, f4, f5, ⟨z0, z0'⟩, ⟨z1, z1'⟩, ⟨z2, z2'⟩, ⟨z3, z3'⟩, ⟨z4, z4'⟩, bU, kU⟩ := store5 b1 (.int .i32 0) (.int .i64 0) (.int .i64 0) (.int .i64 0) (.int .i64 0)
      obtain ⟨m0, m1, m2, m3, m4⟩ := blk5 bU
      have HE := Lib.hid (kV.trans (kU.mono fun i _ hi => Or.inr (by have h9 : i = w.heap.size + 1 := hi; omega)))
      clear hS hc' hlV hl hline hlr h2 kV hll b0 b1 hb hn' hlen hr hc bU kU
      go_enter Try.func108, Try.ntmps108
      go_wp2
      exact bodyPost_ret (v := .agg #[.int .i32 0, .int .i64 0, .int .i64 0, .int .i64 0, .int .i64 0]) (by simp [results, Try.results108, go_sem, m0, m1, m2, m3, m4]) rfl ⟨rfl, HE.out⟩
  · have g1 : decide (ln ≤ row) = true := decide_eq_true (by omega)
    have g1' : decide ((ln : Int) ≤ (row : Int)) = true := decide_eq_true (by omega)
    have hS : cellS ls row col = cl0 := by unfold cellS; rw [List.getElem?_eq_none (show ls.length ≤ row by omega)]; rfl
    rw [hS]
    obtain ⟨V1, V2, V3, V4, V5, f1, f2, f3, f4, f5, ⟨z0, z0'⟩, ⟨z1, z1'⟩, ⟨z2, z2'⟩, ⟨z3, z3'⟩, ⟨z4, z4'⟩, bU, kU⟩ := store5 b1 (.int .i32 0) (.int .i64 0) (.int .i64 0) (.int .i64 0) (.int .i64 0)
    obtain ⟨m0, m1, m2, m3, m4⟩ := blk5 bU
    have HE := Lib.hid (kV.trans (kU.mono fun i _ hi => Or.inr (by have h9 : i = w.heap.size + 1 := hi; omega)))
    clear hS hlV hl h1 kV hll b0 b1 hlen hr hc bU kU
    go_enter Try.func108, Try.ntmps108
    go_wp2
    exact bodyPost_ret (v := .agg #[.int .i32 0, .int .i64 0, .int .i64 0, .int .i64 0, .int .i64 0]) (by simp [results, Try.results108, go_sem, m0, m1, m2, m3, m4]) rfl ⟨rfl, HE.out⟩
end Go.Proofs.Ytdjgmhbfohbenaa
