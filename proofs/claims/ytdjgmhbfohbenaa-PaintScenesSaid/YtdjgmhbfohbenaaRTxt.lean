/- The document's text: a cell's glyph laid on the picture. -/
import Derived.Test.YtdjgmhbfohbenaaRImg
import Derived.Test.YtdjgmhbfohbenaaGrow
import Derived.Test.YtdjgmhbfohbenaaMDrw
import Derived.Test.YtdjgmhbfohbenaaMCut
import Derived.Deep.Slices
import Derived.Deep.Fields
import Derived.OpenShut
namespace Go.Proofs.Ytdjgmhbfohbenaa
open Go.RowKit Go.Sort Pl
set_option linter.unusedVariables false
set_option linter.unusedSimpArgs false
attribute [local go_sem] growOp growUpon sameUpon
/-- Byte k of pixel Q of a cell's glyph that begins at X0, Y0, bw wide, bh high. -/
noncomputable def txK (W bw bh X0 Y0 : Nat) (c : Cl) (P : List Int) (Q k : Nat) : Int :=
  if kindI c.r bw bh c.a.fl (((Q % W : Nat) : Int) - X0) (((Q / W : Nat) : Int) - Y0) = 1 then [(colors c.a).1.r, (colors c.a).1.g, (colors c.a).1.b, 255].getD k 0
  else if kindI c.r bw bh c.a.fl (((Q % W : Nat) : Int) - X0) (((Q / W : Nat) : Int) - Y0) = 2 then [(colors c.a).2.r, (colors c.a).2.g, (colors c.a).2.b, 255].getD k 0
  else P.getD (4 * Q + k) 0
theorem paintD_skip (t : Spot) (p : List Int) (K : Nat → Nat → Int) (n X Y : Nat) (hX : X < t.W) (hk : ∀ k, k < 4 → K (Y * t.W + X) k = p.getD (4 * (Y * t.W + X) + k) 0) : tab n (paintD t p K Y X) = tab n (paintD t p K Y (X + 1)) := by
  obtain ⟨e1, e2⟩ := pos_of (y := Y) hX
  refine tab_ext fun j hj => ?_
  unfold paintD
  by_cases hj4 : j / 4 = Y * t.W + X
  · have hd : ¬ t.done Y X (j / 4) := by unfold Spot.done; rw [hj4, e1, e2]; omega
    rw [if_neg (fun h => hd h.2)]
    split
    · rw [hj4, hk _ (Nat.mod_lt _ (by omega))]
      congr 1
      omega
    · rfl
  · by_cases hi : t.inside (j / 4)
    · by_cases hd : t.done Y X (j / 4)
      · have hd2 : t.done Y (X + 1) (j / 4) := by unfold Spot.done at *; omega
        rw [if_pos ⟨hi, hd⟩, if_pos ⟨hi, hd2⟩]
      · have hd2 : ¬ t.done Y (X + 1) (j / 4) := by
          intro h
          apply hj4
          unfold Spot.done at h hd
          exact unpos (by omega) (by omega)
        rw [if_neg (fun h => hd h.2), if_neg (fun h => hd2 h.2)]
    · rw [if_neg (fun h => hi h.1), if_neg (fun h => hi h.1)]
theorem txt_eq {W H n bw bh X0 Y0 : Nat} {c : Cl} {P : List Int} (hn : n = 4 * (W * H)) (hP : P.length = n) (hw : 1 ≤ bw) (hh : 1 ≤ bh) :
    boxS (glsL W H X0 Y0) c.r bw bh c.a P = tab n (paintF ⟨W, 0, 0, 0, X0, X0 + bw, Y0, Y0 + bh⟩ P (txK W bw bh X0 Y0 c P)) := by
  have hl : (boxS (glsL W H X0 Y0) c.r bw bh c.a P).length = n := by
    rw [hn] at hP ⊢
    exact boxS_len (fun x y bw bh c P => by unfold glsL; exact layL_len ..) _ _ _ _ hP
  refine list_ext (by rw [hl, tab_length]) (fun j hj => ?_)
  rw [hl] at hj
  rw [tab_get hj]
  have hL : ∀ (x y bw bh : Int) (c : Rgb) (P : List Int), (glsL W H X0 Y0 x y bw bh c P).getD j 0 = if InR W ((X0 : Int) + x) ((Y0 : Int) + y) bw bh j then [c.r, c.g, c.b, 255].getD (j % 4) 0 else P.getD j 0 := fun x y bw bh c P => by
    unfold glsL
    exact layL_get (by omega)
  unfold paintF
  by_cases hI : (⟨W, 0, 0, 0, X0, X0 + bw, Y0, Y0 + bh⟩ : Spot).inside (j / 4)
  · rw [if_pos hI]
    have hI2 := hI
    unfold Spot.inside at hI2
    simp only at hI2
    rw [box_get (W := W) (ox := X0) (oy := Y0) (by omega) (by omega) hL (by omega) (by omega) (by omega) (by omega)]
    unfold txK
    rw [show 4 * (j / 4) + j % 4 = j by omega]
  · rw [if_neg hI]
    refine box_out (W := W) (ox := X0) (oy := Y0) (by omega) (by omega) hL (fun h => hI ?_)
    unfold Spot.inside
    simp only
    omega
/-- What holds of memory while a glyph is laid. -/
def TxI (w : World) (W H n g cap cb P : Nat) (SC : Array Value) (c : Cl) (F B : Rgb) (L : List Int) (wr : World) : Prop :=
  Own .u8 5 wr (.slice (some ⟨g, 0, none⟩) n cap) L ∧ Kept (fun i => i = g) w wr ∧ wr.heap[w.heap.size]? = some (.cells #[.int .i64 W, .int .i64 H, .slice (some ⟨g, 0, none⟩) n cap] 35 (0, 0)) ∧ wr.heap[w.heap.size + 1]? = some (.cells SC 42 (0, 0)) ∧ wr.heap[cb]? = some (.cells c.cs 100 (0, 0)) ∧
  wr.heap[P]? = some (.cells #[.int .u8 F.r, .int .u8 F.g, .int .u8 F.b] 96 (0, 0)) ∧ wr.heap[P + 1]? = some (.cells #[.int .u8 B.r, .int .u8 B.g, .int .u8 B.b] 96 (0, 0))
theorem TxI.kept {w : World} {W H n g cap cb P : Nat} {SC : Array Value} {c : Cl} {F B : Rgb} {L : List Int} {wr w2 : World} (h : TxI w W H n g cap cb P SC c F B L wr) (hk : Kept (fun _ => False) wr w2) : TxI w W H n g cap cb P SC c F B L w2 :=
  ⟨h.1.kept hk (fun _ _ => id), h.2.1.then (hk.mono fun _ _ h => h.elim), hk.blk h.2.2.1 id, hk.blk h.2.2.2.1 id, hk.blk h.2.2.2.2.1 id, hk.blk h.2.2.2.2.2.1 id, hk.blk h.2.2.2.2.2.2 id⟩
theorem TxI.put {w : World} {W H n g cap cb P : Nat} {SC : Array Value} {c : Cl} {F B : Rgb} {L L' : List Int} {wr w2 : World} (h : TxI w W H n g cap cb P SC c F B L wr) (ho : Own .u8 5 w2 (.slice (some ⟨g, 0, none⟩) n cap) L') (hk : Kept (fun i => i = g) wr w2) (hg : g < w.heap.size) (hcb : w.heap.size ≤ cb) (hP : w.heap.size ≤ P) : TxI w W H n g cap cb P SC c F B L' w2 :=
  ⟨ho, h.2.1.then hk, hk.blk h.2.2.1 (fun (h : w.heap.size = g) => by omega), hk.blk h.2.2.2.1 (fun (h : w.heap.size + 1 = g) => by omega), hk.blk h.2.2.2.2.1 (fun (h : cb = g) => by omega), hk.blk h.2.2.2.2.2.1 (fun (h : P = g) => by omega), hk.blk h.2.2.2.2.2.2 (fun (h : P + 1 = g) => by omega)⟩
def RSc.sc (s : RSc) : Sc := ⟨s.rows, s.cols, s.cw, s.ch, s.la, s.ln, s.lc, s.pa, s.pn, s.pc, none, s.top, s.cur, s.row, s.col⟩
set_option maxRecDepth 100000 in
set_option maxHeartbeats 8000000 in
theorem rtext_any (B : Nat) (s : RSc) (ls : List (List Cl)) (W H n g cap row col : Nat) (P : List Int) (w : World) (hl : LinesAt B w s.la s.ln ls) (hlen : s.ln ≤ 9223372036854775807) (hcl : ∀ r c, -2147483648 ≤ (cellS ls r c).r ∧ (cellS ls r c).r ≤ 2147483647)
    (hcw : 1 ≤ s.cw ∧ s.cw ≤ 64) (hch : 1 ≤ s.ch ∧ s.ch ≤ 64) (hW : W = s.cols * s.cw) (hH : H = s.rows * s.ch) (hr : row < s.rows) (hc : col < s.cols) (hrs : s.rows ≤ 1000) (hcs : s.cols ≤ 1000) (hWb : W ≤ 16384) (hHb : H ≤ 16384) (hn : n = 4 * (W * H)) (hn2 : n ≤ 16384)
    (ho : Own .u8 5 w (.slice (some ⟨g, 0, none⟩) n cap) P) :
    Calls Try.prog 41 #[.agg #[.int .i64 W, .int .i64 H, .slice (some ⟨g, 0, none⟩) n cap], s.val, .int .i64 row, .int .i64 col] w fun e w' => e = .returned (.tuple #[]) ∧ Own .u8 5 w' (.slice (some ⟨g, 0, none⟩) n cap) (glsF s.sc ls W H row col P) ∧ Kept (fun i => i = g) w w' := by
  have hPl : P.length = n := by obtain ⟨_, _, hv, -, -⟩ := ho.shape; cases hv; rfl
  have hgw := ho.lt g rfl
  have HCELL := Lib.hid (fun (x : World) (hx : LinesAt B x s.la s.ln ls) => rcell_any B s ls row col x hx hlen (by omega) (by omega))
  obtain ⟨c, hcc⟩ : ∃ c, cellS ls row col = c := ⟨_, rfl⟩
  rw [hcc] at HCELL
  have hcr := hcl row col
  rw [hcc] at hcr
  unfold glsF
  rw [hcc]
  obtain ⟨rows, cols, cw, ch, la, ln, lc, pa, pn, pc, ia, ik, ic, top, cur, srow, scol⟩ := s
  unfold RSc.sc
  simp only at hl hlen hcw hch hW hH hr hc hrs hcs HCELL ⊢
  unfold RSc.val at HCELL ⊢
  unfold Cl.val at HCELL
  simp only at HCELL ⊢
  obtain ⟨V, hV⟩ : ∃ V, (w.alloc (.cells #[.int .i64 W, .int .i64 H, .slice (some ⟨g, 0, none⟩) n cap] 35)).alloc (.cells #[.int .i64 rows, .int .i64 cols, .int .i64 cw, .int .i64 ch, .slice la ln lc, .slice pa pn pc, .slice ia ik ic, .int .i64 top, .bool cur, .int .i64 srow, .int .i64 scol] 42) = V := ⟨_, rfl⟩
  have kV : Kept (fun _ => False) w V := by rw [← hV]; exact ((Kept.refl _ _).alloc _).alloc _
  have b0 : V.heap[w.heap.size]? = some (.cells #[.int .i64 W, .int .i64 H, .slice (some ⟨g, 0, none⟩) n cap] 35 (0, 0)) := by rw [← hV]; exact blk_alloc (blk_new _ _) _
  have b1 : V.heap[w.heap.size + 1]? = some (.cells #[.int .i64 rows, .int .i64 cols, .int .i64 cw, .int .i64 ch, .slice la ln lc, .slice pa pn pc, .slice ia ik ic, .int .i64 top, .bool cur, .int .i64 srow, .int .i64 scol] 42 (0, 0)) := by rw [← hV]; exact blk_at _ _ (by simp)
  obtain ⟨x0, x1, x2, x3, x4, x5, x6, x7, x8, x9, x10⟩ := blk11 b1
  have HV := Lib.hid (And.intro kV (And.intro b0 b1))
  have HLV := Lib.hid (hl.kept kV (fun _ h => h.elim))
  have HO := Lib.hid ho
  obtain ⟨F, hF⟩ : ∃ F, (colors c.a).1 = F := ⟨_, rfl⟩
  obtain ⟨Bk, hB⟩ : ∃ B, (colors c.a).2 = B := ⟨_, rfl⟩
  have HC := Lib.hid (show ∀ w, Calls Try.prog 36 #[.agg #[.int .i64 c.a.fg, .int .i64 c.a.bg, .int .i64 c.a.fl]] w fun e w' => e = .returned (.tuple #[.agg #[.int .u8 F.r, .int .u8 F.g, .int .u8 F.b], .agg #[.int .u8 Bk.r, .int .u8 Bk.g, .int .u8 Bk.b]]) ∧ Kept (fun _ => False) w w' from fun w => by have h := rcols_any c.a w; unfold ColsPost lookV at h; rw [hF, hB] at h; exact h)
  have HFF := Lib.hid (show ∀ w, Calls Try.prog 39 #[.agg #[.int .u8 F.r, .int .u8 F.g, .int .u8 F.b]] w fun e w' => e = .returned (.agg #[.int .u8 F.r, .int .u8 F.g, .int .u8 F.b, .int .u8 255]) ∧ Kept (fun _ => False) w w' from fun w => full_any F w)
  have HFB := Lib.hid (show ∀ w, Calls Try.prog 39 #[.agg #[.int .u8 Bk.r, .int .u8 Bk.g, .int .u8 Bk.b]] w fun e w' => e = .returned (.agg #[.int .u8 Bk.r, .int .u8 Bk.g, .int .u8 Bk.b, .int .u8 255]) ∧ Kept (fun _ => False) w w' from fun w => full_any Bk w)
  obtain ⟨X0, hX0⟩ : ∃ x, col * cw = x := ⟨_, rfl⟩
  obtain ⟨Y0, hY0⟩ : ∃ x, row * ch = x := ⟨_, rfl⟩
  have hXW : X0 + cw ≤ W := by rw [← hX0, hW, ← Nat.succ_mul]; exact Nat.mul_le_mul_right _ hc
  have hYH : Y0 + ch ≤ H := by rw [← hY0, hH, ← Nat.succ_mul]; exact Nat.mul_le_mul_right _ hr
  have hXW2 : col + 1 < cols → X0 + 2 * cw ≤ W := fun h => by
    rw [← hX0, hW, ← Nat.add_mul]; exact Nat.mul_le_mul_right _ (by omega)
  have HN := Lib.hid (And.intro hcw (And.intro hch (And.intro hWb (And.intro hHb (And.intro hn (And.intro hn2 (And.intro hgw (And.intro hcr (And.intro hXW (And.intro hYH (And.intro hrs hcs)))))))))))
  have HPL := Lib.hid hPl
  have HFB0 := Lib.hid (And.intro hF hB)
  have p1 : (col : Int) * (cw : Int) = (X0 : Int) := by rw [← hX0]; simp
  have p2 : (row : Int) * (ch : Int) = (Y0 : Int) := by rw [← hY0]; simp
  have p3 : IntKind.i64.wrap (X0 : Int) = (X0 : Int) := IntWalk.i64_in _ (by omega)
  have p4 : IntKind.i64.wrap (Y0 : Int) = (Y0 : Int) := IntWalk.i64_in _ (by omega)
  by_cases hz : c.r = 0 ∨ c.k = 2
  · rw [if_pos hz]
    have HZ := Lib.hid hz
    clear hPl hgw hcc hcr hl hlen hcl hW hH hrs hcs hWb hHb hn hn2 ho kV b0 b1 hF hB hX0 hY0 hXW hYH hXW2 hz
    by_cases h0 : c.r = 0
    · have g0 : (c.r == 0) = true := by simp [h0]
      clear h0
      go_enter Try.func41, Try.ntmps41
      go_wp2_with fail
      refine (HCELL.out _ HLV.out).mono ?_
      rintro e w1 ⟨rfl, hk1⟩
      obtain ⟨C1, hC1⟩ : ∃ X, w1.alloc (.cells #[.int .i32 c.r, .int .i64 c.k, .int .i64 c.a.fg, .int .i64 c.a.bg, .int .i64 c.a.fl] 100) = X := ⟨_, rfl⟩
      have kC1 : Kept (fun _ => False) w1 C1 := by rw [← hC1]; exact (Kept.refl _ _).alloc _
      have bC1 : C1.heap[w1.heap.size]? = some (.cells #[.int .i32 c.r, .int .i64 c.k, .int .i64 c.a.fg, .int .i64 c.a.bg, .int .i64 c.a.fl] 100 (0, 0)) := by rw [← hC1]; exact blk_new _ _
      obtain ⟨c0, c1, c2, c3, c4⟩ := blk5 bC1
      obtain ⟨x0, x1, x2, x3, x4, x5, x6, x7, x8, x9, x10⟩ := blk11 ((hk1.then kC1).blk HV.out.2.2 id)
      have H1 := Lib.hid (And.intro (hk1.then kC1) (And.intro bC1 hk1.size))
      clear hk1 kC1 bC1
      go_wp2
      exact bodyPost_ret (results_none rfl _ _ _) rfl ⟨rfl, HO.out.kept (HV.out.1.then H1.out.1) (fun _ _ => id), (HV.out.1.then H1.out.1).mono fun _ _ h => h.elim⟩
    · have g0 : (c.r == 0) = false := by simpa using h0
      have g1 : (c.k == 2) = true := by have := HZ.out; simp; omega
      clear h0
      go_enter Try.func41, Try.ntmps41
      go_wp2_with fail
      refine (HCELL.out _ HLV.out).mono ?_
      rintro e w1 ⟨rfl, hk1⟩
      obtain ⟨C1, hC1⟩ : ∃ X, w1.alloc (.cells #[.int .i32 c.r, .int .i64 c.k, .int .i64 c.a.fg, .int .i64 c.a.bg, .int .i64 c.a.fl] 100) = X := ⟨_, rfl⟩
      have kC1 : Kept (fun _ => False) w1 C1 := by rw [← hC1]; exact (Kept.refl _ _).alloc _
      have bC1 : C1.heap[w1.heap.size]? = some (.cells #[.int .i32 c.r, .int .i64 c.k, .int .i64 c.a.fg, .int .i64 c.a.bg, .int .i64 c.a.fl] 100 (0, 0)) := by rw [← hC1]; exact blk_new _ _
      obtain ⟨c0, c1, c2, c3, c4⟩ := blk5 bC1
      obtain ⟨x0, x1, x2, x3, x4, x5, x6, x7, x8, x9, x10⟩ := blk11 ((hk1.then kC1).blk HV.out.2.2 id)
      have H1 := Lib.hid (And.intro (hk1.then kC1) (And.intro bC1 hk1.size))
      clear hk1 kC1 bC1
      go_wp2
      exact bodyPost_ret (results_none rfl _ _ _) rfl ⟨rfl, HO.out.kept (HV.out.1.then H1.out.1) (fun _ _ => id), (HV.out.1.then H1.out.1).mono fun _ _ h => h.elim⟩
  rw [if_neg hz]
  have g0 : (c.r == 0) = false := by simp; exact fun h => hz (.inl h)
  have g1 : (c.k == 2) = false := by simp; exact fun h => hz (.inr h)
  by_cases hwd : c.k = 1 ∧ col + 1 < cols
  · obtain ⟨bw, hbw⟩ : ∃ x, 2 * cw = x := ⟨_, rfl⟩
    have e1 : glsW ⟨rows, cols, cw, ch, la, ln, lc, pa, pn, pc, none, top, cur, srow, scol⟩ c col = (bw : Int) := by unfold glsW; rw [if_pos hwd, ← hbw]; simp
    rw [e1]
    have HBW := Lib.hid (show 1 ≤ bw ∧ bw ≤ 128 ∧ X0 + bw ≤ W from by have := hXW2 hwd.2; omega)
    have g2 : (c.k == 1) = true := by simp [hwd.1]
    have w1' : IntKind.i64.wrap ((col : Int) + 1) = (col : Int) + 1 := IntWalk.i64_in _ (by omega)
    have g3 : decide ((col : Int) + 1 < (cols : Int)) = true := decide_eq_true (by omega)
    have w2' : (2 : Int) * (cw : Int) = (bw : Int) := by omega
    have w3' : IntKind.i64.wrap (bw : Int) = (bw : Int) := IntWalk.i64_in _ (by omega)
    clear hbw e1 hwd
    obtain ⟨t, ht⟩ : ∃ t : Spot, (⟨W, 0, 0, 0, X0, X0 + bw, Y0, Y0 + ch⟩ : Spot) = t := ⟨_, rfl⟩
    obtain ⟨K, hK⟩ : ∃ K, txK W bw ch X0 Y0 c P = K := ⟨_, rfl⟩
    have HRES := Lib.hid (show boxS (glsL W H (col * cw) (row * ch)) c.r bw ch c.a P = tab n (paintF t P K) from by
      rw [hX0, hY0, ← ht, ← hK]
      exact txt_eq hn hPl HBW.out.1 hch.1)
    have HSTART := Lib.hid (show tab n (paintD t P K Y0 X0) = P from by have h := paintD_start t P K n hPl; rw [← ht] at h ⊢; exact h)
    have HEND := Lib.hid (show tab n (paintD t P K (Y0 + ch) X0) = tab n (paintF t P K) from paintD_end t P K n X0 (Y0 + ch) (by rw [← ht]; exact Nat.le_refl _))
    have HROWS := Lib.hid (fun (Y : Nat) => show tab n (paintD t P K Y (X0 + bw)) = tab n (paintD t P K (Y + 1) X0) from by have h := paintD_row t P K n (X0 + bw) Y (by rw [← ht]; exact Nat.le_refl _); rw [← ht] at h ⊢; exact h)
    have HSTEP := Lib.hid (fun (x y : Nat) (c0 c1 c2 : Int) (hx : x < bw) (hy : y < ch) (hcK : ∀ k, k < 4 → [c0, c1, c2, 255].getD k 0 = K ((Y0 + y) * W + (X0 + x)) k) (hn4 : 4 * ((Y0 + y) * W + (X0 + x)) + 4 ≤ n) => show spl (tab n (paintD t P K (Y0 + y) (X0 + x))) (4 * ((Y0 + y) * W + (X0 + x))) [c0, c1, c2, 255] = tab n (paintD t P K (Y0 + y) (X0 + x + 1)) from by
      have hbw := HBW.out
      have h := paintD_step t P K n (X0 + x) (Y0 + y) (by rw [← ht]; show X0 + x < W; omega) (by rw [← ht]; show X0 ≤ X0 + x; omega) (by rw [← ht]; show X0 + x < X0 + bw; omega) (by rw [← ht]; show Y0 ≤ Y0 + y; omega) (by rw [← ht]; show Y0 + y < Y0 + ch; omega) (by rw [← ht]; exact hn4) [c0, c1, c2, 255] rfl (by rw [← ht]; exact hcK)
      rw [← ht] at h ⊢
      exact h)
    have HSKIP := Lib.hid (fun (x y : Nat) (hx : x < bw) (hcK : ∀ k, k < 4 → K ((Y0 + y) * W + (X0 + x)) k = P.getD (4 * ((Y0 + y) * W + (X0 + x)) + k) 0) => show tab n (paintD t P K (Y0 + y) (X0 + x)) = tab n (paintD t P K (Y0 + y) (X0 + x + 1)) from by
      have hbw := HBW.out
      have h := paintD_skip t P K n (X0 + x) (Y0 + y) (by rw [← ht]; show X0 + x < W; omega) (by rw [← ht]; exact hcK)
      rw [← ht] at h ⊢
      exact h)
    have HKK := Lib.hid (fun (x y k : Nat) (hx : x < bw) => show K ((Y0 + y) * W + (X0 + x)) k = if kindI c.r bw ch c.a.fl x y = 1 then [F.r, F.g, F.b, 255].getD k 0 else if kindI c.r bw ch c.a.fl x y = 2 then [Bk.r, Bk.g, Bk.b, 255].getD k 0 else P.getD (4 * ((Y0 + y) * W + (X0 + x)) + k) 0 from by
      have hbw := HBW.out
      rw [← hK]
      unfold txK
      obtain ⟨e1, e2⟩ := pos_of (W := W) (x := X0 + x) (y := Y0 + y) (by omega)
      rw [e1, e2, hF, hB, show (((X0 + x : Nat) : Int) - (X0 : Int)) = (x : Int) by omega, show (((Y0 + y : Nat) : Int) - (Y0 : Int)) = (y : Int) by omega])
    rw [HRES.out]
    clear hPl hgw hcc hcr hl hlen hcl hW hH hrs hcs hWb hHb hn hn2 ho kV b0 b1 hF hB hX0 hY0 hXW hYH hXW2 hz ht hK hcw hch hr hc
    go_enter Try.func41, Try.ntmps41
    go_wp2_with fail
    refine (HCELL.out _ HLV.out).mono ?_
    rintro e w1 ⟨rfl, hk1⟩
    obtain ⟨C1, hC1⟩ : ∃ X, w1.alloc (.cells #[.int .i32 c.r, .int .i64 c.k, .int .i64 c.a.fg, .int .i64 c.a.bg, .int .i64 c.a.fl] 100) = X := ⟨_, rfl⟩
    have kC1 : Kept (fun _ => False) w1 C1 := by rw [← hC1]; exact (Kept.refl _ _).alloc _
    have bC1 : C1.heap[w1.heap.size]? = some (.cells #[.int .i32 c.r, .int .i64 c.k, .int .i64 c.a.fg, .int .i64 c.a.bg, .int .i64 c.a.fl] 100 (0, 0)) := by rw [← hC1]; exact blk_new _ _
    obtain ⟨c0, c1, c2, c3, c4⟩ := blk5 bC1
    obtain ⟨x0, x1, x2, x3, x4, x5, x6, x7, x8, x9, x10⟩ := blk11 ((hk1.then kC1).blk HV.out.2.2 id)
    have H1 := Lib.hid (And.intro (hk1.then kC1) (And.intro bC1 hk1.size))
    clear hk1 kC1 bC1
    go_wp2_with fail
    refine (HC.out _).mono ?_
    rintro e w2 ⟨rfl, hk2⟩
    obtain ⟨Z, hZ⟩ : ∃ V, (w2.alloc (.cells #[.int .u8 F.r, .int .u8 F.g, .int .u8 F.b] 96)).alloc (.cells #[.int .u8 Bk.r, .int .u8 Bk.g, .int .u8 Bk.b] 96) = V := ⟨_, rfl⟩
    have kZ : Kept (fun _ => False) w2 Z := by rw [← hZ]; exact ((Kept.refl _ _).alloc _).alloc _
    have z0 : Z.heap[w2.heap.size]? = some (.cells #[.int .u8 F.r, .int .u8 F.g, .int .u8 F.b] 96 (0, 0)) := by rw [← hZ]; exact blk_alloc (blk_new _ _) _
    have z1 : Z.heap[w2.heap.size + 1]? = some (.cells #[.int .u8 Bk.r, .int .u8 Bk.g, .int .u8 Bk.b] 96 (0, 0)) := by rw [← hZ]; exact blk_at _ _ (by simp)
    have kCZ := hk2.then kZ
    have kWZ := HV.out.1.then (H1.out.1.then kCZ)
    have HI0 := Lib.hid (show TxI w W H n g cap w1.heap.size w2.heap.size #[.int .i64 rows, .int .i64 cols, .int .i64 cw, .int .i64 ch, .slice la ln lc, .slice pa pn pc, .slice ia ik ic, .int .i64 top, .bool cur, .int .i64 srow, .int .i64 scol] c F Bk (tab n (paintD t P K (Y0 + 0) X0)) Z from ⟨by rw [Nat.add_zero, HSTART.out]; exact HO.out.kept kWZ (fun _ _ => id), kWZ.mono (fun _ _ h => h.elim), (H1.out.1.then kCZ).blk HV.out.2.1 id, (H1.out.1.then kCZ).blk HV.out.2.2 id, kCZ.blk H1.out.2.1 id, z0, z1⟩)
    have HSZ := Lib.hid (show w.heap.size ≤ w1.heap.size ∧ w.heap.size ≤ w2.heap.size from by have h1 := HV.out.1.size; have h2 := H1.out.1.size; have h3 := H1.out.2.2; have h4 := hk2.size; omega)
    clear hk2 kZ z0 z1 kCZ kWZ c0 c1 c2 c3 c4 x0 x1 x2 x4 x5 x6 x7 x8 x9 x10
    obtain ⟨-, -, -, x3, -⟩ := blk11 HI0.out.2.2.2.1
    go_wp2
    clear x3
    go_loopg [12, 13] ch (fun gg yv _ wr => ∃ y : Nat, ch ≤ gg + y ∧ y ≤ ch ∧ yv = .int .i64 (y : Int) ∧ TxI w W H n g cap w1.heap.size w2.heap.size #[.int .i64 rows, .int .i64 cols, .int .i64 cw, .int .i64 ch, .slice la ln lc, .slice pa pn pc, .slice ia ik ic, .int .i64 top, .bool cur, .int .i64 srow, .int .i64 scol] c F Bk (tab n (paintD t P K (Y0 + y) X0)) wr)
    case atStart => exact ⟨0, by omega, by omega, rfl, HI0.out⟩
    case round =>
      obtain ⟨y, hgg, hyc, rfl, hinv⟩ := hrel
      obtain ⟨-, -, x2, x3, -⟩ := blk11 hinv.2.2.2.1
      by_cases hy1 : y < ch
      · have gy : decide (y < ch) = true := decide_eq_true hy1
        have gy' : decide ((y : Int) < (ch : Int)) = true := decide_eq_true (by omega)
        have wy : IntKind.i64.wrap ((y : Int) + 1) = (y : Int) + 1 := IntWalk.i64_in _ (by have := HN.out; omega)
        have HI := Lib.hid hinv
        obtain ⟨gko, hgo⟩ : ∃ x, x = gk := ⟨_, rfl⟩
        subst hgo
        clear hinv
        go_wp2
        go_loopg [13] bw (fun gg xv wr => ∃ x : Nat, bw ≤ gg + x ∧ x ≤ bw ∧ xv = .int .i64 (x : Int) ∧ TxI w W H n g cap w1.heap.size w2.heap.size #[.int .i64 rows, .int .i64 cols, .int .i64 cw, .int .i64 ch, .slice la ln lc, .slice pa pn pc, .slice ia ik ic, .int .i64 top, .bool cur, .int .i64 srow, .int .i64 scol] c F Bk (tab n (paintD t P K (Y0 + y) (X0 + x))) wr)
        case atStart => exact ⟨0, by omega, by omega, rfl, HI.out⟩
        case round =>
          obtain ⟨x, hgx, hxb, rfl, hinv⟩ := hrel
          by_cases hx1 : x < bw
          · have gx : decide (x < bw) = true := decide_eq_true hx1
            have gx' : decide ((x : Int) < (bw : Int)) = true := decide_eq_true (by omega)
            have hbw := HBW.out
            have hnn := HN.out
            have wx : IntKind.i64.wrap ((x : Int) + 1) = (x : Int) + 1 := IntWalk.i64_in _ (by omega)
            have a1 : IntKind.i64.wrap ((X0 : Int) + (x : Int)) = (X0 : Int) + (x : Int) := IntWalk.i64_in _ (by omega)
            have a2 : IntKind.i64.wrap ((Y0 : Int) + (y : Int)) = (Y0 : Int) + (y : Int) := IntWalk.i64_in _ (by omega)
            have hPn := fit_idx (W := W) (H := H) (x := X0 + x) (y := Y0 + y) (by omega) (by omega)
            obtain ⟨KD, hKD⟩ : ∃ k, kindI c.r bw ch c.a.fl x y = k := ⟨_, rfl⟩
            have HKIND := Lib.hid (fun wd' => show Calls Try.prog 50 #[.int .i64 c.r, .int .i64 bw, .int .i64 ch, .agg #[.int .i64 c.a.fg, .int .i64 c.a.bg, .int .i64 c.a.fl], .int .i64 x, .int .i64 y] wd' fun e w' => e = .returned (.int .i64 KD) ∧ Kept (fun _ => False) wd' w' from by
              rw [← hKD]
              exact kind_any c.r bw ch c.a.fg c.a.bg c.a.fl x y wd' hnn.2.2.2.2.2.2.2.1 (by omega) (by omega) (by omega) (by omega))
            have HKC := Lib.hid (fun (k : Nat) => HKK.out x y k hx1)
            rw [hKD] at HKC
            have HP := Lib.hid (And.intro (show 4 * ((Y0 + y) * W + (X0 + x)) + 4 ≤ n by omega) (show X0 + x < W ∧ Y0 + y < H by omega))
            have wr32 : IntKind.i64.wrap c.r = c.r := IntWalk.i64_in _ (by omega)
            obtain ⟨c0, -, c2, c3, c4⟩ := blk5 (show wr.heap[w1.heap.size]? = some (.cells #[.int .i32 c.r, .int .i64 c.k, .int .i64 c.a.fg, .int .i64 c.a.bg, .int .i64 c.a.fl] 100 (0, 0)) from hinv.2.2.2.2.1)
            obtain ⟨-, -, x2, x3, -⟩ := blk11 hinv.2.2.2.1
            have HI2 := Lib.hid hinv
            clear hinv hbw hnn hPn hKD
            go_wp2_with fail
            refine (HKIND.out _).mono ?_
            rintro e w4 ⟨rfl, hk4⟩
            have HI4 := Lib.hid (HI2.out.kept hk4)
            clear hk4 c0 c2 c3 c4
            by_cases hk1 : KD = 1
            · have gk1 : (KD == 1) = true := by simp [hk1]
              have HST := Lib.hid (HSTEP.out x y F.r F.g F.b hx1 hy1 (fun k _ => by rw [HKC.out k]; rw [if_pos hk1]) HP.out.1)
              clear hk1
              obtain ⟨WR, hWR⟩ : ∃ WR, WR = w4.drew := ⟨_, rfl⟩
              have kR : Kept (fun _ => False) w4 WR := by rw [hWR]; exact (Kept.refl _ _).drew
              have hi5 := HI4.out.kept kR
              obtain ⟨-, -, x2, x3, -⟩ := blk11 hi5.2.2.2.1
              obtain ⟨⟨d0, -⟩, ⟨d1, -⟩, d2, -⟩ := blk3 hi5.2.2.1
              obtain ⟨⟨f0, -⟩, ⟨f1, -⟩, f2, -⟩ := blk3 hi5.2.2.2.2.2.1
              have Q0 := cell_regrown x2
              have Q1 := cell_regrown x3
              have Q2 := cell_regrown d0
              have Q3 := cell_regrown d1
              have Q4 := cell_regrown d2
              have Q5 := cell_regrown f0
              have Q6 := cell_regrown f1
              have Q7 := cell_regrown f2
              obtain ⟨R14, hR14⟩ : ∃ R : Value → World → Prop, R = fun v w' => v = .agg #[.int .u8 F.r, .int .u8 F.g, .int .u8 F.b, .int .u8 255] := ⟨_, rfl⟩
              have HR14 := Lib.hid hR14
              have HWR := Lib.hid hWR
              have HI5 := Lib.hid hi5
              clear hWR kR hi5 x2 x3 d0 d1 d2 f0 f1 f2 hR14
              go_wp2
              refine wp_region_grow #[0, 0, 0, 4, 14, 0, 62, 0, 0, 256, 896, 0, 3968, 0, 8192, 32767] 15 [] (fun i => if i = 14 then some R14 else none) (by kernel_rfl) rfl (by kernel_rfl) (fun i hi => by cases hi) (fun _ _ _ _ _ h => h) ?_
              rintro _ rfl
              rw [← HWR.out]
              simp only [List.take_succ_cons, List.take_zero, List.drop_succ_cons, List.drop_zero, number, Nat.reduceAdd]
              repeat (refine wpGrow_step (fun K hK => ?_); go_simp; refine hK _ _ ?_; clear hK K)
              refine wpGrow_step (fun K hK => ?_)
              go_simp
              refine ⟨fun w' hg => (HFF.out w').mono (fun e w'' ⟨he, hk⟩ => ⟨_, he, hk, by rw [HR14.out]⟩), fun v14 w14 hv14 _ => ?_⟩
              rw [HR14.out] at hv14
              subst hv14
              refine hK _ _ ?_; clear hK K
              refine wpGrow_nil ?_
              intro w6 hk6 hω
              have HI6 := Lib.hid (HI5.out.kept hk6)
              have HPUT := Lib.hid (rput_any W H (X0 + x) (Y0 + y) (tab n (paintD t P K (Y0 + y) (X0 + x))) [] g n cap w6 HP.out.2.1 HP.out.2.2 (by have := HN.out; omega) HN.out.2.2.2.2.1 HI6.out.1 (by have := HN.out; omega) (by have := HN.out; omega) F.r F.g F.b 255)
              rw [HST.out] at HPUT
              simp only [Int.natCast_add] at HPUT
              clear hω hk6 Q0 Q1 Q2 Q3 Q4 Q5 Q6 Q7
              go_wp2_with fail
              refine HPUT.out.mono ?_
              rintro e w7 ⟨rfl, ho7, hk7⟩
              have HI7 := Lib.hid (HI6.out.put ho7 hk7 HN.out.2.2.2.2.2.2.1 HSZ.out.1 HSZ.out.2)
              clear ho7 hk7
              go_wp2
              go_roundg (gk - 1)
              case rel => exact ⟨x + 1, by omega, by omega, by go_num, HI7.out⟩
              case measure => omega
            have gk1 : (KD == 1) = false := by simp [hk1]
            by_cases hk2 : KD = 2
            · have gk2 : (KD == 2) = true := by simp [hk2]
              have HST := Lib.hid (HSTEP.out x y Bk.r Bk.g Bk.b hx1 hy1 (fun k _ => by rw [HKC.out k]; rw [if_neg hk1, if_pos hk2]) HP.out.1)
              clear hk1 hk2
              obtain ⟨WR, hWR⟩ : ∃ WR, WR = w4.drew := ⟨_, rfl⟩
              have kR : Kept (fun _ => False) w4 WR := by rw [hWR]; exact (Kept.refl _ _).drew
              have hi5 := HI4.out.kept kR
              obtain ⟨-, -, x2, x3, -⟩ := blk11 hi5.2.2.2.1
              obtain ⟨⟨d0, -⟩, ⟨d1, -⟩, d2, -⟩ := blk3 hi5.2.2.1
              obtain ⟨⟨f0, -⟩, ⟨f1, -⟩, f2, -⟩ := blk3 hi5.2.2.2.2.2.2
              have Q0 := cell_regrown x2
              have Q1 := cell_regrown x3
              have Q2 := cell_regrown d0
              have Q3 := cell_regrown d1
              have Q4 := cell_regrown d2
              have Q5 := cell_regrown f0
              have Q6 := cell_regrown f1
              have Q7 := cell_regrown f2
              obtain ⟨R14, hR14⟩ : ∃ R : Value → World → Prop, R = fun v w' => v = .agg #[.int .u8 Bk.r, .int .u8 Bk.g, .int .u8 Bk.b, .int .u8 255] := ⟨_, rfl⟩
              have HR14 := Lib.hid hR14
              have HWR := Lib.hid hWR
              have HI5 := Lib.hid hi5
              clear hWR kR hi5 x2 x3 d0 d1 d2 f0 f1 f2 hR14
              go_wp2
              refine wp_region_grow #[0, 0, 0, 4, 14, 0, 62, 0, 0, 256, 896, 0, 3968, 0, 8192, 32767] 15 [] (fun i => if i = 14 then some R14 else none) (by kernel_rfl) rfl (by kernel_rfl) (fun i hi => by cases hi) (fun _ _ _ _ _ h => h) ?_
              rintro _ rfl
              rw [← HWR.out]
              simp only [List.take_succ_cons, List.take_zero, List.drop_succ_cons, List.drop_zero, number, Nat.reduceAdd]
              repeat (refine wpGrow_step (fun K hK => ?_); go_simp; refine hK _ _ ?_; clear hK K)
              refine wpGrow_step (fun K hK => ?_)
              go_simp
              refine ⟨fun w' hg => (HFB.out w').mono (fun e w'' ⟨he, hk⟩ => ⟨_, he, hk, by rw [HR14.out]⟩), fun v14 w14 hv14 _ => ?_⟩
              rw [HR14.out] at hv14
              subst hv14
              refine hK _ _ ?_; clear hK K
              refine wpGrow_nil ?_
              intro w6 hk6 hω
              have HI6 := Lib.hid (HI5.out.kept hk6)
              have HPUT := Lib.hid (rput_any W H (X0 + x) (Y0 + y) (tab n (paintD t P K (Y0 + y) (X0 + x))) [] g n cap w6 HP.out.2.1 HP.out.2.2 (by have := HN.out; omega) HN.out.2.2.2.2.1 HI6.out.1 (by have := HN.out; omega) (by have := HN.out; omega) Bk.r Bk.g Bk.b 255)
              rw [HST.out] at HPUT
              simp only [Int.natCast_add] at HPUT
              clear hω hk6 Q0 Q1 Q2 Q3 Q4 Q5 Q6 Q7
              go_wp2_with fail
              refine HPUT.out.mono ?_
              rintro e w7 ⟨rfl, ho7, hk7⟩
              have HI7 := Lib.hid (HI6.out.put ho7 hk7 HN.out.2.2.2.2.2.2.1 HSZ.out.1 HSZ.out.2)
              clear ho7 hk7
              go_wp2
              go_roundg (gk - 1)
              case rel => exact ⟨x + 1, by omega, by omega, by go_num, HI7.out⟩
              case measure => omega
            have gk2 : (KD == 2) = false := by simp [hk2]
            have hskip := HSKIP.out x y hx1 (fun k _ => by rw [HKC.out k, if_neg hk1, if_neg hk2])
            have HI5 := Lib.hid (show TxI w W H n g cap w1.heap.size w2.heap.size #[.int .i64 rows, .int .i64 cols, .int .i64 cw, .int .i64 ch, .slice la ln lc, .slice pa pn pc, .slice ia ik ic, .int .i64 top, .bool cur, .int .i64 srow, .int .i64 scol] c F Bk (tab n (paintD t P K (Y0 + y) (X0 + (x + 1)))) w4 from by rw [← Nat.add_assoc, ← hskip]; exact HI4.out)
            clear hk1 hk2 hskip
            go_wp2
            go_roundg (gk - 1)
            case rel => exact ⟨x + 1, by omega, by omega, by go_num, HI5.out⟩
            case measure => omega
          · obtain rfl : x = bw := by omega
            have gx : decide (x < x) = false := decide_eq_false (by omega)
            have hrow := HROWS.out (Y0 + y)
            rw [hrow] at hinv
            have HI2 := Lib.hid hinv
            clear hinv hrow
            go_wp2
            go_roundg (gko - 1)
            case rel => exact ⟨y + 1, by omega, by omega, by go_num, HI2.out⟩
            case measure => omega
      · obtain rfl : y = ch := by omega
        have gy : decide (y < y) = false := decide_eq_false (by omega)
        have hend := HEND.out
        rw [hend] at hinv
        have HE := Lib.hid (And.intro hinv.1 hinv.2.1)
        clear hinv hend
        go_wp2
        go_end0
        exact ⟨rfl, HE.out.1, HE.out.2⟩
  · have e1 : glsW ⟨rows, cols, cw, ch, la, ln, lc, pa, pn, pc, none, top, cur, srow, scol⟩ c col = (cw : Int) := by unfold glsW; rw [if_neg hwd]
    rw [e1]
    have HBW := Lib.hid (show 1 ≤ cw ∧ cw ≤ 128 ∧ X0 + cw ≤ W from by omega)
    have w1' : IntKind.i64.wrap ((col : Int) + 1) = (col : Int) + 1 := IntWalk.i64_in _ (by omega)
    by_cases hk1 : c.k = 1
    · have g2 : (c.k == 1) = true := by simp [hk1]
      have g3 : decide ((col : Int) + 1 < (cols : Int)) = false := decide_eq_false (by omega)
      clear e1 hwd hk1
      obtain ⟨t, ht⟩ : ∃ t : Spot, (⟨W, 0, 0, 0, X0, X0 + cw, Y0, Y0 + ch⟩ : Spot) = t := ⟨_, rfl⟩
      obtain ⟨K, hK⟩ : ∃ K, txK W cw ch X0 Y0 c P = K := ⟨_, rfl⟩
      have HRES := Lib.hid (show boxS (glsL W H (col * cw) (row * ch)) c.r cw ch c.a P = tab n (paintF t P K) from by
        rw [hX0, hY0, ← ht, ← hK]
        exact txt_eq hn hPl HBW.out.1 hch.1)
      have HSTART := Lib.hid (show tab n (paintD t P K Y0 X0) = P from by have h := paintD_start t P K n hPl; rw [← ht] at h ⊢; exact h)
      have HEND := Lib.hid (show tab n (paintD t P K (Y0 + ch) X0) = tab n (paintF t P K) from paintD_end t P K n X0 (Y0 + ch) (by rw [← ht]; exact Nat.le_refl _))
      have HROWS := Lib.hid (fun (Y : Nat) => show tab n (paintD t P K Y (X0 + cw)) = tab n (paintD t P K (Y + 1) X0) from by have h := paintD_row t P K n (X0 + cw) Y (by rw [← ht]; exact Nat.le_refl _); rw [← ht] at h ⊢; exact h)
      have HSTEP := Lib.hid (fun (x y : Nat) (c0 c1 c2 : Int) (hx : x < cw) (hy : y < ch) (hcK : ∀ k, k < 4 → [c0, c1, c2, 255].getD k 0 = K ((Y0 + y) * W + (X0 + x)) k) (hn4 : 4 * ((Y0 + y) * W + (X0 + x)) + 4 ≤ n) => show spl (tab n (paintD t P K (Y0 + y) (X0 + x))) (4 * ((Y0 + y) * W + (X0 + x))) [c0, c1, c2, 255] = tab n (paintD t P K (Y0 + y) (X0 + x + 1)) from by
        have hbw := HBW.out
        have h := paintD_step t P K n (X0 + x) (Y0 + y) (by rw [← ht]; show X0 + x < W; omega) (by rw [← ht]; show X0 ≤ X0 + x; omega) (by rw [← ht]; show X0 + x < X0 + cw; omega) (by rw [← ht]; show Y0 ≤ Y0 + y; omega) (by rw [← ht]; show Y0 + y < Y0 + ch; omega) (by rw [← ht]; exact hn4) [c0, c1, c2, 255] rfl (by rw [← ht]; exact hcK)
        rw [← ht] at h ⊢
        exact h)
      have HSKIP := Lib.hid (fun (x y : Nat) (hx : x < cw) (hcK : ∀ k, k < 4 → K ((Y0 + y) * W + (X0 + x)) k = P.getD (4 * ((Y0 + y) * W + (X0 + x)) + k) 0) => show tab n (paintD t P K (Y0 + y) (X0 + x)) = tab n (paintD t P K (Y0 + y) (X0 + x + 1)) from by
        have hbw := HBW.out
        have h := paintD_skip t P K n (X0 + x) (Y0 + y) (by rw [← ht]; show X0 + x < W; omega) (by rw [← ht]; exact hcK)
        rw [← ht] at h ⊢
        exact h)
      have HKK := Lib.hid (fun (x y k : Nat) (hx : x < cw) => show K ((Y0 + y) * W + (X0 + x)) k = if kindI c.r cw ch c.a.fl x y = 1 then [F.r, F.g, F.b, 255].getD k 0 else if kindI c.r cw ch c.a.fl x y = 2 then [Bk.r, Bk.g, Bk.b, 255].getD k 0 else P.getD (4 * ((Y0 + y) * W + (X0 + x)) + k) 0 from by
        have hbw := HBW.out
        rw [← hK]
        unfold txK
        obtain ⟨e1, e2⟩ := pos_of (W := W) (x := X0 + x) (y := Y0 + y) (by omega)
        rw [e1, e2, hF, hB, show (((X0 + x : Nat) : Int) - (X0 : Int)) = (x : Int) by omega, show (((Y0 + y : Nat) : Int) - (Y0 : Int)) = (y : Int) by omega])
      rw [HRES.out]
      clear hPl hgw hcc hcr hl hlen hcl hW hH hrs hcs hWb hHb hn hn2 ho kV b0 b1 hF hB hX0 hY0 hXW hYH hXW2 hz ht hK hcw hch hr hc
      go_enter Try.func41, Try.ntmps41
      go_wp2_with fail
      refine (HCELL.out _ HLV.out).mono ?_
      rintro e w1 ⟨rfl, hk1⟩
      obtain ⟨C1, hC1⟩ : ∃ X, w1.alloc (.cells #[.int .i32 c.r, .int .i64 c.k, .int .i64 c.a.fg, .int .i64 c.a.bg, .int .i64 c.a.fl] 100) = X := ⟨_, rfl⟩
      have kC1 : Kept (fun _ => False) w1 C1 := by rw [← hC1]; exact (Kept.refl _ _).alloc _
      have bC1 : C1.heap[w1.heap.size]? = some (.cells #[.int .i32 c.r, .int .i64 c.k, .int .i64 c.a.fg, .int .i64 c.a.bg, .int .i64 c.a.fl] 100 (0, 0)) := by rw [← hC1]; exact blk_new _ _
      obtain ⟨c0, c1, c2, c3, c4⟩ := blk5 bC1
      obtain ⟨x0, x1, x2, x3, x4, x5, x6, x7, x8, x9, x10⟩ := blk11 ((hk1.then kC1).blk HV.out.2.2 id)
      have H1 := Lib.hid (And.intro (hk1.then kC1) (And.intro bC1 hk1.size))
      clear hk1 kC1 bC1
      go_wp2_with fail
      refine (HC.out _).mono ?_
      rintro e w2 ⟨rfl, hk2⟩
      obtain ⟨Z, hZ⟩ : ∃ V, (w2.alloc (.cells #[.int .u8 F.r, .int .u8 F.g, .int .u8 F.b] 96)).alloc (.cells #[.int .u8 Bk.r, .int .u8 Bk.g, .int .u8 Bk.b] 96) = V := ⟨_, rfl⟩
      have kZ : Kept (fun _ => False) w2 Z := by rw [← hZ]; exact ((Kept.refl _ _).alloc _).alloc _
      have z0 : Z.heap[w2.heap.size]? = some (.cells #[.int .u8 F.r, .int .u8 F.g, .int .u8 F.b] 96 (0, 0)) := by rw [← hZ]; exact blk_alloc (blk_new _ _) _
      have z1 : Z.heap[w2.heap.size + 1]? = some (.cells #[.int .u8 Bk.r, .int .u8 Bk.g, .int .u8 Bk.b] 96 (0, 0)) := by rw [← hZ]; exact blk_at _ _ (by simp)
      have kCZ := hk2.then kZ
      have kWZ := HV.out.1.then (H1.out.1.then kCZ)
      have HI0 := Lib.hid (show TxI w W H n g cap w1.heap.size w2.heap.size #[.int .i64 rows, .int .i64 cols, .int .i64 cw, .int .i64 ch, .slice la ln lc, .slice pa pn pc, .slice ia ik ic, .int .i64 top, .bool cur, .int .i64 srow, .int .i64 scol] c F Bk (tab n (paintD t P K (Y0 + 0) X0)) Z from ⟨by rw [Nat.add_zero, HSTART.out]; exact HO.out.kept kWZ (fun _ _ => id), kWZ.mono (fun _ _ h => h.elim), (H1.out.1.then kCZ).blk HV.out.2.1 id, (H1.out.1.then kCZ).blk HV.out.2.2 id, kCZ.blk H1.out.2.1 id, z0, z1⟩)
      have HSZ := Lib.hid (show w.heap.size ≤ w1.heap.size ∧ w.heap.size ≤ w2.heap.size from by have h1 := HV.out.1.size; have h2 := H1.out.1.size; have h3 := H1.out.2.2; have h4 := hk2.size; omega)
      clear hk2 kZ z0 z1 kCZ kWZ c0 c1 c2 c3 c4 x0 x1 x2 x4 x5 x6 x7 x8 x9 x10
      obtain ⟨-, -, -, x3, -⟩ := blk11 HI0.out.2.2.2.1
      go_wp2
      clear x3
      go_loopg [12, 13] ch (fun gg yv _ wr => ∃ y : Nat, ch ≤ gg + y ∧ y ≤ ch ∧ yv = .int .i64 (y : Int) ∧ TxI w W H n g cap w1.heap.size w2.heap.size #[.int .i64 rows, .int .i64 cols, .int .i64 cw, .int .i64 ch, .slice la ln lc, .slice pa pn pc, .slice ia ik ic, .int .i64 top, .bool cur, .int .i64 srow, .int .i64 scol] c F Bk (tab n (paintD t P K (Y0 + y) X0)) wr)
      case atStart => exact ⟨0, by omega, by omega, rfl, HI0.out⟩
      case round =>
        obtain ⟨y, hgg, hyc, rfl, hinv⟩ := hrel
        obtain ⟨-, -, x2, x3, -⟩ := blk11 hinv.2.2.2.1
        by_cases hy1 : y < ch
        · have gy : decide (y < ch) = true := decide_eq_true hy1
          have gy' : decide ((y : Int) < (ch : Int)) = true := decide_eq_true (by omega)
          have wy : IntKind.i64.wrap ((y : Int) + 1) = (y : Int) + 1 := IntWalk.i64_in _ (by have := HN.out; omega)
          have HI := Lib.hid hinv
          obtain ⟨gko, hgo⟩ : ∃ x, x = gk := ⟨_, rfl⟩
          subst hgo
          clear hinv
          go_wp2
          go_loopg [13] cw (fun gg xv wr => ∃ x : Nat, cw ≤ gg + x ∧ x ≤ cw ∧ xv = .int .i64 (x : Int) ∧ TxI w W H n g cap w1.heap.size w2.heap.size #[.int .i64 rows, .int .i64 cols, .int .i64 cw, .int .i64 ch, .slice la ln lc, .slice pa pn pc, .slice ia ik ic, .int .i64 top, .bool cur, .int .i64 srow, .int .i64 scol] c F Bk (tab n (paintD t P K (Y0 + y) (X0 + x))) wr)
          case atStart => exact ⟨0, by omega, by omega, rfl, HI.out⟩
          case round =>
            obtain ⟨x, hgx, hxb, rfl, hinv⟩ := hrel
            by_cases hx1 : x < cw
            · have gx : decide (x < cw) = true := decide_eq_true hx1
              have gx' : decide ((x : Int) < (cw : Int)) = true := decide_eq_true (by omega)
              have hbw := HBW.out
              have hnn := HN.out
              have wx : IntKind.i64.wrap ((x : Int) + 1) = (x : Int) + 1 := IntWalk.i64_in _ (by omega)
              have a1 : IntKind.i64.wrap ((X0 : Int) + (x : Int)) = (X0 : Int) + (x : Int) := IntWalk.i64_in _ (by omega)
              have a2 : IntKind.i64.wrap ((Y0 : Int) + (y : Int)) = (Y0 : Int) + (y : Int) := IntWalk.i64_in _ (by omega)
              have hPn := fit_idx (W := W) (H := H) (x := X0 + x) (y := Y0 + y) (by omega) (by omega)
              obtain ⟨KD, hKD⟩ : ∃ k, kindI c.r cw ch c.a.fl x y = k := ⟨_, rfl⟩
              have HKIND := Lib.hid (fun wd' => show Calls Try.prog 50 #[.int .i64 c.r, .int .i64 cw, .int .i64 ch, .agg #[.int .i64 c.a.fg, .int .i64 c.a.bg, .int .i64 c.a.fl], .int .i64 x, .int .i64 y] wd' fun e w' => e = .returned (.int .i64 KD) ∧ Kept (fun _ => False) wd' w' from by
                rw [← hKD]
                exact kind_any c.r cw ch c.a.fg c.a.bg c.a.fl x y wd' hnn.2.2.2.2.2.2.2.1 (by omega) (by omega) (by omega) (by omega))
              have HKC := Lib.hid (fun (k : Nat) => HKK.out x y k hx1)
              rw [hKD] at HKC
              have HP := Lib.hid (And.intro (show 4 * ((Y0 + y) * W + (X0 + x)) + 4 ≤ n by omega) (show X0 + x < W ∧ Y0 + y < H by omega))
              have wr32 : IntKind.i64.wrap c.r = c.r := IntWalk.i64_in _ (by omega)
              obtain ⟨c0, -, c2, c3, c4⟩ := blk5 (show wr.heap[w1.heap.size]? = some (.cells #[.int .i32 c.r, .int .i64 c.k, .int .i64 c.a.fg, .int .i64 c.a.bg, .int .i64 c.a.fl] 100 (0, 0)) from hinv.2.2.2.2.1)
              obtain ⟨-, -, x2, x3, -⟩ := blk11 hinv.2.2.2.1
              have HI2 := Lib.hid hinv
              clear hinv hbw hnn hPn hKD
              go_wp2_with fail
              refine (HKIND.out _).mono ?_
              rintro e w4 ⟨rfl, hk4⟩
              have HI4 := Lib.hid (HI2.out.kept hk4)
              clear hk4 c0 c2 c3 c4
              by_cases hk1 : KD = 1
              · have gk1 : (KD == 1) = true := by simp [hk1]
                have HST := Lib.hid (HSTEP.out x y F.r F.g F.b hx1 hy1 (fun k _ => by rw [HKC.out k]; rw [if_pos hk1]) HP.out.1)
                clear hk1
                obtain ⟨WR, hWR⟩ : ∃ WR, WR = w4.drew := ⟨_, rfl⟩
                have kR : Kept (fun _ => False) w4 WR := by rw [hWR]; exact (Kept.refl _ _).drew
                have hi5 := HI4.out.kept kR
                obtain ⟨-, -, x2, x3, -⟩ := blk11 hi5.2.2.2.1
                obtain ⟨⟨d0, -⟩, ⟨d1, -⟩, d2, -⟩ := blk3 hi5.2.2.1
                obtain ⟨⟨f0, -⟩, ⟨f1, -⟩, f2, -⟩ := blk3 hi5.2.2.2.2.2.1
                have Q0 := cell_regrown x2
                have Q1 := cell_regrown x3
                have Q2 := cell_regrown d0
                have Q3 := cell_regrown d1
                have Q4 := cell_regrown d2
                have Q5 := cell_regrown f0
                have Q6 := cell_regrown f1
                have Q7 := cell_regrown f2
                obtain ⟨R14, hR14⟩ : ∃ R : Value → World → Prop, R = fun v w' => v = .agg #[.int .u8 F.r, .int .u8 F.g, .int .u8 F.b, .int .u8 255] := ⟨_, rfl⟩
                have HR14 := Lib.hid hR14
                have HWR := Lib.hid hWR
                have HI5 := Lib.hid hi5
                clear hWR kR hi5 x2 x3 d0 d1 d2 f0 f1 f2 hR14
                go_wp2
                refine wp_region_grow #[0, 0, 0, 4, 14, 0, 62, 0, 0, 256, 896, 0, 3968, 0, 8192, 32767] 15 [] (fun i => if i = 14 then some R14 else none) (by kernel_rfl) rfl (by kernel_rfl) (fun i hi => by cases hi) (fun _ _ _ _ _ h => h) ?_
                rintro _ rfl
                rw [← HWR.out]
                simp only [List.take_succ_cons, List.take_zero, List.drop_succ_cons, List.drop_zero, number, Nat.reduceAdd]
                repeat (refine wpGrow_step (fun K hK => ?_); go_simp; refine hK _ _ ?_; clear hK K)
                refine wpGrow_step (fun K hK => ?_)
                go_simp
                refine ⟨fun w' hg => (HFF.out w').mono (fun e w'' ⟨he, hk⟩ => ⟨_, he, hk, by rw [HR14.out]⟩), fun v14 w14 hv14 _ => ?_⟩
                rw [HR14.out] at hv14
                subst hv14
                refine hK _ _ ?_; clear hK K
                refine wpGrow_nil ?_
                intro w6 hk6 hω
                have HI6 := Lib.hid (HI5.out.kept hk6)
                have HPUT := Lib.hid (rput_any W H (X0 + x) (Y0 + y) (tab n (paintD t P K (Y0 + y) (X0 + x))) [] g n cap w6 HP.out.2.1 HP.out.2.2 (by have := HN.out; omega) HN.out.2.2.2.2.1 HI6.out.1 (by have := HN.out; omega) (by have := HN.out; omega) F.r F.g F.b 255)
                rw [HST.out] at HPUT
                simp only [Int.natCast_add] at HPUT
                clear hω hk6 Q0 Q1 Q2 Q3 Q4 Q5 Q6 Q7
                go_wp2_with fail
                refine HPUT.out.mono ?_
                rintro e w7 ⟨rfl, ho7, hk7⟩
                have HI7 := Lib.hid (HI6.out.put ho7 hk7 HN.out.2.2.2.2.2.2.1 HSZ.out.1 HSZ.out.2)
                clear ho7 hk7
                go_wp2
                go_roundg (gk - 1)
                case rel => exact ⟨x + 1, by omega, by omega, by go_num, HI7.out⟩
                case measure => omega
              have gk1 : (KD == 1) = false := by simp [hk1]
              by_cases hk2 : KD = 2
              · have gk2 : (KD == 2) = true := by simp [hk2]
                have HST := Lib.hid (HSTEP.out x y Bk.r Bk.g Bk.b hx1 hy1 (fun k _ => by rw [HKC.out k]; rw [if_neg hk1, if_pos hk2]) HP.out.1)
                clear hk1 hk2
                obtain ⟨WR, hWR⟩ : ∃ WR, WR = w4.drew := ⟨_, rfl⟩
                have kR : Kept (fun _ => False) w4 WR := by rw [hWR]; exact (Kept.refl _ _).drew
                have hi5 := HI4.out.kept kR
                obtain ⟨-, -, x2, x3, -⟩ := blk11 hi5.2.2.2.1
                obtain ⟨⟨d0, -⟩, ⟨d1, -⟩, d2, -⟩ := blk3 hi5.2.2.1
                obtain ⟨⟨f0, -⟩, ⟨f1, -⟩, f2, -⟩ := blk3 hi5.2.2.2.2.2.2
                have Q0 := cell_regrown x2
                have Q1 := cell_regrown x3
                have Q2 := cell_regrown d0
                have Q3 := cell_regrown d1
                have Q4 := cell_regrown d2
                have Q5 := cell_regrown f0
                have Q6 := cell_regrown f1
                have Q7 := cell_regrown f2
                obtain ⟨R14, hR14⟩ : ∃ R : Value → World → Prop, R = fun v w' => v = .agg #[.int .u8 Bk.r, .int .u8 Bk.g, .int .u8 Bk.b, .int .u8 255] := ⟨_, rfl⟩
                have HR14 := Lib.hid hR14
                have HWR := Lib.hid hWR
                have HI5 := Lib.hid hi5
                clear hWR kR hi5 x2 x3 d0 d1 d2 f0 f1 f2 hR14
                go_wp2
                refine wp_region_grow #[0, 0, 0, 4, 14, 0, 62, 0, 0, 256, 896, 0, 3968, 0, 8192, 32767] 15 [] (fun i => if i = 14 then some R14 else none) (by kernel_rfl) rfl (by kernel_rfl) (fun i hi => by cases hi) (fun _ _ _ _ _ h => h) ?_
                rintro _ rfl
                rw [← HWR.out]
                simp only [List.take_succ_cons, List.take_zero, List.drop_succ_cons, List.drop_zero, number, Nat.reduceAdd]
                repeat (refine wpGrow_step (fun K hK => ?_); go_simp; refine hK _ _ ?_; clear hK K)
                refine wpGrow_step (fun K hK => ?_)
                go_simp
                refine ⟨fun w' hg => (HFB.out w').mono (fun e w'' ⟨he, hk⟩ => ⟨_, he, hk, by rw [HR14.out]⟩), fun v14 w14 hv14 _ => ?_⟩
                rw [HR14.out] at hv14
                subst hv14
                refine hK _ _ ?_; clear hK K
                refine wpGrow_nil ?_
                intro w6 hk6 hω
                have HI6 := Lib.hid (HI5.out.kept hk6)
                have HPUT := Lib.hid (rput_any W H (X0 + x) (Y0 + y) (tab n (paintD t P K (Y0 + y) (X0 + x))) [] g n cap w6 HP.out.2.1 HP.out.2.2 (by have := HN.out; omega) HN.out.2.2.2.2.1 HI6.out.1 (by have := HN.out; omega) (by have := HN.out; omega) Bk.r Bk.g Bk.b 255)
                rw [HST.out] at HPUT
                simp only [Int.natCast_add] at HPUT
                clear hω hk6 Q0 Q1 Q2 Q3 Q4 Q5 Q6 Q7
                go_wp2_with fail
                refine HPUT.out.mono ?_
                rintro e w7 ⟨rfl, ho7, hk7⟩
                have HI7 := Lib.hid (HI6.out.put ho7 hk7 HN.out.2.2.2.2.2.2.1 HSZ.out.1 HSZ.out.2)
                clear ho7 hk7
                go_wp2
                go_roundg (gk - 1)
                case rel => exact ⟨x + 1, by omega, by omega, by go_num, HI7.out⟩
                case measure => omega
              have gk2 : (KD == 2) = false := by simp [hk2]
              have hskip := HSKIP.out x y hx1 (fun k _ => by rw [HKC.out k, if_neg hk1, if_neg hk2])
              have HI5 := Lib.hid (show TxI w W H n g cap w1.heap.size w2.heap.size #[.int .i64 rows, .int .i64 cols, .int .i64 cw, .int .i64 ch, .slice la ln lc, .slice pa pn pc, .slice ia ik ic, .int .i64 top, .bool cur, .int .i64 srow, .int .i64 scol] c F Bk (tab n (paintD t P K (Y0 + y) (X0 + (x + 1)))) w4 from by rw [← Nat.add_assoc, ← hskip]; exact HI4.out)
              clear hk1 hk2 hskip
              go_wp2
              go_roundg (gk - 1)
              case rel => exact ⟨x + 1, by omega, by omega, by go_num, HI5.out⟩
              case measure => omega
            · obtain rfl : x = cw := by omega
              have gx : decide (x < x) = false := decide_eq_false (by omega)
              have hrow := HROWS.out (Y0 + y)
              rw [hrow] at hinv
              have HI2 := Lib.hid hinv
              clear hinv hrow
              go_wp2
              go_roundg (gko - 1)
              case rel => exact ⟨y + 1, by omega, by omega, by go_num, HI2.out⟩
              case measure => omega
        · obtain rfl : y = ch := by omega
          have gy : decide (y < y) = false := decide_eq_false (by omega)
          have hend := HEND.out
          rw [hend] at hinv
          have HE := Lib.hid (And.intro hinv.1 hinv.2.1)
          clear hinv hend
          go_wp2
          go_end0
          exact ⟨rfl, HE.out.1, HE.out.2⟩
    · have g2 : (c.k == 1) = false := by simpa using hk1
      clear e1 hwd hk1
      obtain ⟨t, ht⟩ : ∃ t : Spot, (⟨W, 0, 0, 0, X0, X0 + cw, Y0, Y0 + ch⟩ : Spot) = t := ⟨_, rfl⟩
      obtain ⟨K, hK⟩ : ∃ K, txK W cw ch X0 Y0 c P = K := ⟨_, rfl⟩
      have HRES := Lib.hid (show boxS (glsL W H (col * cw) (row * ch)) c.r cw ch c.a P = tab n (paintF t P K) from by
        rw [hX0, hY0, ← ht, ← hK]
        exact txt_eq hn hPl HBW.out.1 hch.1)
      have HSTART := Lib.hid (show tab n (paintD t P K Y0 X0) = P from by have h := paintD_start t P K n hPl; rw [← ht] at h ⊢; exact h)
      have HEND := Lib.hid (show tab n (paintD t P K (Y0 + ch) X0) = tab n (paintF t P K) from paintD_end t P K n X0 (Y0 + ch) (by rw [← ht]; exact Nat.le_refl _))
      have HROWS := Lib.hid (fun (Y : Nat) => show tab n (paintD t P K Y (X0 + cw)) = tab n (paintD t P K (Y + 1) X0) from by have h := paintD_row t P K n (X0 + cw) Y (by rw [← ht]; exact Nat.le_refl _); rw [← ht] at h ⊢; exact h)
      have HSTEP := Lib.hid (fun (x y : Nat) (c0 c1 c2 : Int) (hx : x < cw) (hy : y < ch) (hcK : ∀ k, k < 4 → [c0, c1, c2, 255].getD k 0 = K ((Y0 + y) * W + (X0 + x)) k) (hn4 : 4 * ((Y0 + y) * W + (X0 + x)) + 4 ≤ n) => show spl (tab n (paintD t P K (Y0 + y) (X0 + x))) (4 * ((Y0 + y) * W + (X0 + x))) [c0, c1, c2, 255] = tab n (paintD t P K (Y0 + y) (X0 + x + 1)) from by
        have hbw := HBW.out
        have h := paintD_step t P K n (X0 + x) (Y0 + y) (by rw [← ht]; show X0 + x < W; omega) (by rw [← ht]; show X0 ≤ X0 + x; omega) (by rw [← ht]; show X0 + x < X0 + cw; omega) (by rw [← ht]; show Y0 ≤ Y0 + y; omega) (by rw [← ht]; show Y0 + y < Y0 + ch; omega) (by rw [← ht]; exact hn4) [c0, c1, c2, 255] rfl (by rw [← ht]; exact hcK)
        rw [← ht] at h ⊢
        exact h)
      have HSKIP := Lib.hid (fun (x y : Nat) (hx : x < cw) (hcK : ∀ k, k < 4 → K ((Y0 + y) * W + (X0 + x)) k = P.getD (4 * ((Y0 + y) * W + (X0 + x)) + k) 0) => show tab n (paintD t P K (Y0 + y) (X0 + x)) = tab n (paintD t P K (Y0 + y) (X0 + x + 1)) from by
        have hbw := HBW.out
        have h := paintD_skip t P K n (X0 + x) (Y0 + y) (by rw [← ht]; show X0 + x < W; omega) (by rw [← ht]; exact hcK)
        rw [← ht] at h ⊢
        exact h)
      have HKK := Lib.hid (fun (x y k : Nat) (hx : x < cw) => show K ((Y0 + y) * W + (X0 + x)) k = if kindI c.r cw ch c.a.fl x y = 1 then [F.r, F.g, F.b, 255].getD k 0 else if kindI c.r cw ch c.a.fl x y = 2 then [Bk.r, Bk.g, Bk.b, 255].getD k 0 else P.getD (4 * ((Y0 + y) * W + (X0 + x)) + k) 0 from by
        have hbw := HBW.out
        rw [← hK]
        unfold txK
        obtain ⟨e1, e2⟩ := pos_of (W := W) (x := X0 + x) (y := Y0 + y) (by omega)
        rw [e1, e2, hF, hB, show (((X0 + x : Nat) : Int) - (X0 : Int)) = (x : Int) by omega, show (((Y0 + y : Nat) : Int) - (Y0 : Int)) = (y : Int) by omega])
      rw [HRES.out]
      clear hPl hgw hcc hcr hl hlen hcl hW hH hrs hcs hWb hHb hn hn2 ho kV b0 b1 hF hB hX0 hY0 hXW hYH hXW2 hz ht hK hcw hch hr hc
      go_enter Try.func41, Try.ntmps41
      go_wp2_with fail
      refine (HCELL.out _ HLV.out).mono ?_
      rintro e w1 ⟨rfl, hk1⟩
      obtain ⟨C1, hC1⟩ : ∃ X, w1.alloc (.cells #[.int .i32 c.r, .int .i64 c.k, .int .i64 c.a.fg, .int .i64 c.a.bg, .int .i64 c.a.fl] 100) = X := ⟨_, rfl⟩
      have kC1 : Kept (fun _ => False) w1 C1 := by rw [← hC1]; exact (Kept.refl _ _).alloc _
      have bC1 : C1.heap[w1.heap.size]? = some (.cells #[.int .i32 c.r, .int .i64 c.k, .int .i64 c.a.fg, .int .i64 c.a.bg, .int .i64 c.a.fl] 100 (0, 0)) := by rw [← hC1]; exact blk_new _ _
      obtain ⟨c0, c1, c2, c3, c4⟩ := blk5 bC1
      obtain ⟨x0, x1, x2, x3, x4, x5, x6, x7, x8, x9, x10⟩ := blk11 ((hk1.then kC1).blk HV.out.2.2 id)
      have H1 := Lib.hid (And.intro (hk1.then kC1) (And.intro bC1 hk1.size))
      clear hk1 kC1 bC1
      go_wp2_with fail
      refine (HC.out _).mono ?_
      rintro e w2 ⟨rfl, hk2⟩
      obtain ⟨Z, hZ⟩ : ∃ V, (w2.alloc (.cells #[.int .u8 F.r, .int .u8 F.g, .int .u8 F.b] 96)).alloc (.cells #[.int .u8 Bk.r, .int .u8 Bk.g, .int .u8 Bk.b] 96) = V := ⟨_, rfl⟩
      have kZ : Kept (fun _ => False) w2 Z := by rw [← hZ]; exact ((Kept.refl _ _).alloc _).alloc _
      have z0 : Z.heap[w2.heap.size]? = some (.cells #[.int .u8 F.r, .int .u8 F.g, .int .u8 F.b] 96 (0, 0)) := by rw [← hZ]; exact blk_alloc (blk_new _ _) _
      have z1 : Z.heap[w2.heap.size + 1]? = some (.cells #[.int .u8 Bk.r, .int .u8 Bk.g, .int .u8 Bk.b] 96 (0, 0)) := by rw [← hZ]; exact blk_at _ _ (by simp)
      have kCZ := hk2.then kZ
      have kWZ := HV.out.1.then (H1.out.1.then kCZ)
      have HI0 := Lib.hid (show TxI w W H n g cap w1.heap.size w2.heap.size #[.int .i64 rows, .int .i64 cols, .int .i64 cw, .int .i64 ch, .slice la ln lc, .slice pa pn pc, .slice ia ik ic, .int .i64 top, .bool cur, .int .i64 srow, .int .i64 scol] c F Bk (tab n (paintD t P K (Y0 + 0) X0)) Z from ⟨by rw [Nat.add_zero, HSTART.out]; exact HO.out.kept kWZ (fun _ _ => id), kWZ.mono (fun _ _ h => h.elim), (H1.out.1.then kCZ).blk HV.out.2.1 id, (H1.out.1.then kCZ).blk HV.out.2.2 id, kCZ.blk H1.out.2.1 id, z0, z1⟩)
      have HSZ := Lib.hid (show w.heap.size ≤ w1.heap.size ∧ w.heap.size ≤ w2.heap.size from by have h1 := HV.out.1.size; have h2 := H1.out.1.size; have h3 := H1.out.2.2; have h4 := hk2.size; omega)
      clear hk2 kZ z0 z1 kCZ kWZ c0 c1 c2 c3 c4 x0 x1 x2 x4 x5 x6 x7 x8 x9 x10
      obtain ⟨-, -, -, x3, -⟩ := blk11 HI0.out.2.2.2.1
      go_wp2
      clear x3
      go_loopg [12, 13] ch (fun gg yv _ wr => ∃ y : Nat, ch ≤ gg + y ∧ y ≤ ch ∧ yv = .int .i64 (y : Int) ∧ TxI w W H n g cap w1.heap.size w2.heap.size #[.int .i64 rows, .int .i64 cols, .int .i64 cw, .int .i64 ch, .slice la ln lc, .slice pa pn pc, .slice ia ik ic, .int .i64 top, .bool cur, .int .i64 srow, .int .i64 scol] c F Bk (tab n (paintD t P K (Y0 + y) X0)) wr)
      case atStart => exact ⟨0, by omega, by omega, rfl, HI0.out⟩
      case round =>
        obtain ⟨y, hgg, hyc, rfl, hinv⟩ := hrel
        obtain ⟨-, -, x2, x3, -⟩ := blk11 hinv.2.2.2.1
        by_cases hy1 : y < ch
        · have gy : decide (y < ch) = true := decide_eq_true hy1
          have gy' : decide ((y : Int) < (ch : Int)) = true := decide_eq_true (by omega)
          have wy : IntKind.i64.wrap ((y : Int) + 1) = (y : Int) + 1 := IntWalk.i64_in _ (by have := HN.out; omega)
          have HI := Lib.hid hinv
          obtain ⟨gko, hgo⟩ : ∃ x, x = gk := ⟨_, rfl⟩
          subst hgo
          clear hinv
          go_wp2
          go_loopg [13] cw (fun gg xv wr => ∃ x : Nat, cw ≤ gg + x ∧ x ≤ cw ∧ xv = .int .i64 (x : Int) ∧ TxI w W H n g cap w1.heap.size w2.heap.size #[.int .i64 rows, .int .i64 cols, .int .i64 cw, .int .i64 ch, .slice la ln lc, .slice pa pn pc, .slice ia ik ic, .int .i64 top, .bool cur, .int .i64 srow, .int .i64 scol] c F Bk (tab n (paintD t P K (Y0 + y) (X0 + x))) wr)
          case atStart => exact ⟨0, by omega, by omega, rfl, HI.out⟩
          case round =>
            obtain ⟨x, hgx, hxb, rfl, hinv⟩ := hrel
            by_cases hx1 : x < cw
            · have gx : decide (x < cw) = true := decide_eq_true hx1
              have gx' : decide ((x : Int) < (cw : Int)) = true := decide_eq_true (by omega)
              have hbw := HBW.out
              have hnn := HN.out
              have wx : IntKind.i64.wrap ((x : Int) + 1) = (x : Int) + 1 := IntWalk.i64_in _ (by omega)
              have a1 : IntKind.i64.wrap ((X0 : Int) + (x : Int)) = (X0 : Int) + (x : Int) := IntWalk.i64_in _ (by omega)
              have a2 : IntKind.i64.wrap ((Y0 : Int) + (y : Int)) = (Y0 : Int) + (y : Int) := IntWalk.i64_in _ (by omega)
              have hPn := fit_idx (W := W) (H := H) (x := X0 + x) (y := Y0 + y) (by omega) (by omega)
              obtain ⟨KD, hKD⟩ : ∃ k, kindI c.r cw ch c.a.fl x y = k := ⟨_, rfl⟩
              have HKIND := Lib.hid (fun wd' => show Calls Try.prog 50 #[.int .i64 c.r, .int .i64 cw, .int .i64 ch, .agg #[.int .i64 c.a.fg, .int .i64 c.a.bg, .int .i64 c.a.fl], .int .i64 x, .int .i64 y] wd' fun e w' => e = .returned (.int .i64 KD) ∧ Kept (fun _ => False) wd' w' from by
                rw [← hKD]
                exact kind_any c.r cw ch c.a.fg c.a.bg c.a.fl x y wd' hnn.2.2.2.2.2.2.2.1 (by omega) (by omega) (by omega) (by omega))
              have HKC := Lib.hid (fun (k : Nat) => HKK.out x y k hx1)
              rw [hKD] at HKC
              have HP := Lib.hid (And.intro (show 4 * ((Y0 + y) * W + (X0 + x)) + 4 ≤ n by omega) (show X0 + x < W ∧ Y0 + y < H by omega))
              have wr32 : IntKind.i64.wrap c.r = c.r := IntWalk.i64_in _ (by omega)
              obtain ⟨c0, -, c2, c3, c4⟩ := blk5 (show wr.heap[w1.heap.size]? = some (.cells #[.int .i32 c.r, .int .i64 c.k, .int .i64 c.a.fg, .int .i64 c.a.bg, .int .i64 c.a.fl] 100 (0, 0)) from hinv.2.2.2.2.1)
              obtain ⟨-, -, x2, x3, -⟩ := blk11 hinv.2.2.2.1
              have HI2 := Lib.hid hinv
              clear hinv hbw hnn hPn hKD
              go_wp2_with fail
              refine (HKIND.out _).mono ?_
              rintro e w4 ⟨rfl, hk4⟩
              have HI4 := Lib.hid (HI2.out.kept hk4)
              clear hk4 c0 c2 c3 c4
              by_cases hk1 : KD = 1
              · have gk1 : (KD == 1) = true := by simp [hk1]
                have HST := Lib.hid (HSTEP.out x y F.r F.g F.b hx1 hy1 (fun k _ => by rw [HKC.out k]; rw [if_pos hk1]) HP.out.1)
                clear hk1
                obtain ⟨WR, hWR⟩ : ∃ WR, WR = w4.drew := ⟨_, rfl⟩
                have kR : Kept (fun _ => False) w4 WR := by rw [hWR]; exact (Kept.refl _ _).drew
                have hi5 := HI4.out.kept kR
                obtain ⟨-, -, x2, x3, -⟩ := blk11 hi5.2.2.2.1
                obtain ⟨⟨d0, -⟩, ⟨d1, -⟩, d2, -⟩ := blk3 hi5.2.2.1
                obtain ⟨⟨f0, -⟩, ⟨f1, -⟩, f2, -⟩ := blk3 hi5.2.2.2.2.2.1
                have Q0 := cell_regrown x2
                have Q1 := cell_regrown x3
                have Q2 := cell_regrown d0
                have Q3 := cell_regrown d1
                have Q4 := cell_regrown d2
                have Q5 := cell_regrown f0
                have Q6 := cell_regrown f1
                have Q7 := cell_regrown f2
                obtain ⟨R14, hR14⟩ : ∃ R : Value → World → Prop, R = fun v w' => v = .agg #[.int .u8 F.r, .int .u8 F.g, .int .u8 F.b, .int .u8 255] := ⟨_, rfl⟩
                have HR14 := Lib.hid hR14
                have HWR := Lib.hid hWR
                have HI5 := Lib.hid hi5
                clear hWR kR hi5 x2 x3 d0 d1 d2 f0 f1 f2 hR14
                go_wp2
                refine wp_region_grow #[0, 0, 0, 4, 14, 0, 62, 0, 0, 256, 896, 0, 3968, 0, 8192, 32767] 15 [] (fun i => if i = 14 then some R14 else none) (by kernel_rfl) rfl (by kernel_rfl) (fun i hi => by cases hi) (fun _ _ _ _ _ h => h) ?_
                rintro _ rfl
                rw [← HWR.out]
                simp only [List.take_succ_cons, List.take_zero, List.drop_succ_cons, List.drop_zero, number, Nat.reduceAdd]
                repeat (refine wpGrow_step (fun K hK => ?_); go_simp; refine hK _ _ ?_; clear hK K)
                refine wpGrow_step (fun K hK => ?_)
                go_simp
                refine ⟨fun w' hg => (HFF.out w').mono (fun e w'' ⟨he, hk⟩ => ⟨_, he, hk, by rw [HR14.out]⟩), fun v14 w14 hv14 _ => ?_⟩
                rw [HR14.out] at hv14
                subst hv14
                refine hK _ _ ?_; clear hK K
                refine wpGrow_nil ?_
                intro w6 hk6 hω
                have HI6 := Lib.hid (HI5.out.kept hk6)
                have HPUT := Lib.hid (rput_any W H (X0 + x) (Y0 + y) (tab n (paintD t P K (Y0 + y) (X0 + x))) [] g n cap w6 HP.out.2.1 HP.out.2.2 (by have := HN.out; omega) HN.out.2.2.2.2.1 HI6.out.1 (by have := HN.out; omega) (by have := HN.out; omega) F.r F.g F.b 255)
                rw [HST.out] at HPUT
                simp only [Int.natCast_add] at HPUT
                clear hω hk6 Q0 Q1 Q2 Q3 Q4 Q5 Q6 Q7
                go_wp2_with fail
                refine HPUT.out.mono ?_
                rintro e w7 ⟨rfl, ho7, hk7⟩
                have HI7 := Lib.hid (HI6.out.put ho7 hk7 HN.out.2.2.2.2.2.2.1 HSZ.out.1 HSZ.out.2)
                clear ho7 hk7
                go_wp2
                go_roundg (gk - 1)
                case rel => exact ⟨x + 1, by omega, by omega, by go_num, HI7.out⟩
                case measure => omega
              have gk1 : (KD == 1) = false := by simp [hk1]
              by_cases hk2 : KD = 2
              · have gk2 : (KD == 2) = true := by simp [hk2]
                have HST := Lib.hid (HSTEP.out x y Bk.r Bk.g Bk.b hx1 hy1 (fun k _ => by rw [HKC.out k]; rw [if_neg hk1, if_pos hk2]) HP.out.1)
                clear hk1 hk2
                obtain ⟨WR, hWR⟩ : ∃ WR, WR = w4.drew := ⟨_, rfl⟩
                have kR : Kept (fun _ => False) w4 WR := by rw [hWR]; exact (Kept.refl _ _).drew
                have hi5 := HI4.out.kept kR
                obtain ⟨-, -, x2, x3, -⟩ := blk11 hi5.2.2.2.1
                obtain ⟨⟨d0, -⟩, ⟨d1, -⟩, d2, -⟩ := blk3 hi5.2.2.1
                obtain ⟨⟨f0, -⟩, ⟨f1, -⟩, f2, -⟩ := blk3 hi5.2.2.2.2.2.2
                have Q0 := cell_regrown x2
                have Q1 := cell_regrown x3
                have Q2 := cell_regrown d0
                have Q3 := cell_regrown d1
                have Q4 := cell_regrown d2
                have Q5 := cell_regrown f0
                have Q6 := cell_regrown f1
                have Q7 := cell_regrown f2
                obtain ⟨R14, hR14⟩ : ∃ R : Value → World → Prop, R = fun v w' => v = .agg #[.int .u8 Bk.r, .int .u8 Bk.g, .int .u8 Bk.b, .int .u8 255] := ⟨_, rfl⟩
                have HR14 := Lib.hid hR14
                have HWR := Lib.hid hWR
                have HI5 := Lib.hid hi5
                clear hWR kR hi5 x2 x3 d0 d1 d2 f0 f1 f2 hR14
                go_wp2
                refine wp_region_grow #[0, 0, 0, 4, 14, 0, 62, 0, 0, 256, 896, 0, 3968, 0, 8192, 32767] 15 [] (fun i => if i = 14 then some R14 else none) (by kernel_rfl) rfl (by kernel_rfl) (fun i hi => by cases hi) (fun _ _ _ _ _ h => h) ?_
                rintro _ rfl
                rw [← HWR.out]
                simp only [List.take_succ_cons, List.take_zero, List.drop_succ_cons, List.drop_zero, number, Nat.reduceAdd]
                repeat (refine wpGrow_step (fun K hK => ?_); go_simp; refine hK _ _ ?_; clear hK K)
                refine wpGrow_step (fun K hK => ?_)
                go_simp
                refine ⟨fun w' hg => (HFB.out w').mono (fun e w'' ⟨he, hk⟩ => ⟨_, he, hk, by rw [HR14.out]⟩), fun v14 w14 hv14 _ => ?_⟩
                rw [HR14.out] at hv14
                subst hv14
                refine hK _ _ ?_; clear hK K
                refine wpGrow_nil ?_
                intro w6 hk6 hω
                have HI6 := Lib.hid (HI5.out.kept hk6)
                have HPUT := Lib.hid (rput_any W H (X0 + x) (Y0 + y) (tab n (paintD t P K (Y0 + y) (X0 + x))) [] g n cap w6 HP.out.2.1 HP.out.2.2 (by have := HN.out; omega) HN.out.2.2.2.2.1 HI6.out.1 (by have := HN.out; omega) (by have := HN.out; omega) Bk.r Bk.g Bk.b 255)
                rw [HST.out] at HPUT
                simp only [Int.natCast_add] at HPUT
                clear hω hk6 Q0 Q1 Q2 Q3 Q4 Q5 Q6 Q7
                go_wp2_with fail
                refine HPUT.out.mono ?_
                rintro e w7 ⟨rfl, ho7, hk7⟩
                have HI7 := Lib.hid (HI6.out.put ho7 hk7 HN.out.2.2.2.2.2.2.1 HSZ.out.1 HSZ.out.2)
                clear ho7 hk7
                go_wp2
                go_roundg (gk - 1)
                case rel => exact ⟨x + 1, by omega, by omega, by go_num, HI7.out⟩
                case measure => omega
              have gk2 : (KD == 2) = false := by simp [hk2]
              have hskip := HSKIP.out x y hx1 (fun k _ => by rw [HKC.out k, if_neg hk1, if_neg hk2])
              have HI5 := Lib.hid (show TxI w W H n g cap w1.heap.size w2.heap.size #[.int .i64 rows, .int .i64 cols, .int .i64 cw, .int .i64 ch, .slice la ln lc, .slice pa pn pc, .slice ia ik ic, .int .i64 top, .bool cur, .int .i64 srow, .int .i64 scol] c F Bk (tab n (paintD t P K (Y0 + y) (X0 + (x + 1)))) w4 from by rw [← Nat.add_assoc, ← hskip]; exact HI4.out)
              clear hk1 hk2 hskip
              go_wp2
              go_roundg (gk - 1)
              case rel => exact ⟨x + 1, by omega, by omega, by go_num, HI5.out⟩
              case measure => omega
            · obtain rfl : x = cw := by omega
              have gx : decide (x < x) = false := decide_eq_false (by omega)
              have hrow := HROWS.out (Y0 + y)
              rw [hrow] at hinv
              have HI2 := Lib.hid hinv
              clear hinv hrow
              go_wp2
              go_roundg (gko - 1)
              case rel => exact ⟨y + 1, by omega, by omega, by go_num, HI2.out⟩
              case measure => omega
        · obtain rfl : y = ch := by omega
          have gy : decide (y < y) = false := decide_eq_false (by omega)
          have hend := HEND.out
          rw [hend] at hinv
          have HE := Lib.hid (And.intro hinv.1 hinv.2.1)
          clear hinv hend
          go_wp2
          go_end0
          exact ⟨rfl, HE.out.1, HE.out.2⟩
end Go.Proofs.Ytdjgmhbfohbenaa
