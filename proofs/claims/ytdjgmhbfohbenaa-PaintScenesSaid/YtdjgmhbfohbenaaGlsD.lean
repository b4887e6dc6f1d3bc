/- The glyphs of all cells. -/
import Derived.Test.YtdjgmhbfohbenaaMEac
import Derived.Test.YtdjgmhbfohbenaaBox113
namespace Go.Proofs.Ytdjgmhbfohbenaa
open Go.RowKit Go.Sort Pl
set_option linter.unusedVariables false
set_option linter.unusedSimpArgs false
/-- What a cell's glyph makes of a picture. -/
def glsL (W H : Nat) (X Y : Nat) (x y bw bh : Int) (c : Rgb) (P : List Int) : List Int := layL W H ((X : Int) + x) ((Y : Int) + y) bw bh c P
def glsW (s : Sc) (c : Cl) (col : Nat) : Int := if c.k = 1 ∧ col + 1 < s.cols then 2 * (s.cw : Int) else s.cw
def glsF (s : Sc) (ls : List (List Cl)) (W H : Nat) (row col : Nat) (P : List Int) : List Int :=
  if (cellS ls row col).r = 0 ∨ (cellS ls row col).k = 2 then P else boxS (glsL W H (col * s.cw) (row * s.ch)) (cellS ls row col).r (glsW s (cellS ls row col) col) s.ch (cellS ls row col).a P
/-- .. and the row and the column, in boxes. -/
def SJ (s : Sc) (W H n m g lb rb cb : Nat) (row col : Nat) (P : List Int) (w : World) : Prop := SI s W H n m g lb 93 P w ∧ w.heap[rb]? = some (.cells #[.int .i64 row] 3 (0, 0)) ∧ w.heap[cb]? = some (.cells #[.int .i64 col] 3 (0, 0))
theorem SJ.kept {s : Sc} {W H n m g lb rb cb row col : Nat} {P : List Int} {w w' : World} (h : SJ s W H n m g lb rb cb row col P w) (hk : Kept (fun _ => False) w w') : SJ s W H n m g lb rb cb row col P w' := ⟨h.1.kept hk, hk.blk h.2.1 id, hk.blk h.2.2 id⟩
set_option maxRecDepth 100000 in
set_option maxHeartbeats 8000000 in
theorem lays113 (s : Sc) (W H n m g lb rb cb row col : Nat) (hd : Dim s W H n) (hm : m ≠ g) (hb : lb ≠ g) (hrb : rb ≠ g) (hcb : cb ≠ g) (hrow : row < s.rows) (hcol : col < s.cols) :
    Lays 113 #[.pointer (some ⟨m, 0, none⟩), .pointer (some ⟨cb, 0, none⟩), .pointer (some ⟨lb, 0, none⟩), .pointer (some ⟨rb, 0, none⟩)] (fun i => i = g) (SJ s W H n m g lb rb cb row col) (glsL W H (col * s.cw) (row * s.ch)) := by
  intro x y bw bh c P w hx hy hbw hbh hI
  obtain ⟨r, gg, b⟩ := c
  unfold Sml at hx hy hbw hbh
  obtain ⟨rows, cols, cw, ch, la, ln, lc, pa, pn, pc, im, top, cur, srow, scol⟩ := s
  have d1 := hd.rows
  have d2 := hd.cols
  have d3 := hd.cw
  have d4 := hd.ch
  simp only at d1 d2 d3 d4 hrow hcol ⊢
  have bx : col * cw ≤ 1000 * 64 := Nat.mul_le_mul (by omega) d3.2
  have by' : row * ch ≤ 1000 * 64 := Nat.mul_le_mul (by omega) d4.2
  obtain ⟨X, hX⟩ : ∃ x, col * cw = x := ⟨_, rfl⟩
  obtain ⟨Y, hY⟩ : ∃ x, row * ch = x := ⟨_, rfl⟩
  rw [hX] at bx ⊢
  rw [hY] at by' ⊢
  have v1 : (col : Int) * (cw : Int) = (X : Int) := by rw [← hX]; simp
  have v2 : (row : Int) * (ch : Int) = (Y : Int) := by rw [← hY]; simp
  have u1 : IntKind.i64.wrap (X : Int) = (X : Int) := IntWalk.i64_in _ (by omega)
  have u2 : IntKind.i64.wrap (Y : Int) = (Y : Int) := IntWalk.i64_in _ (by omega)
  have u3 : IntKind.i64.wrap ((X : Int) + x) = (X : Int) + x := IntWalk.i64_in _ (by omega)
  have u4 : IntKind.i64.wrap ((Y : Int) + y) = (Y : Int) + y := IntWalk.i64_in _ (by omega)
  obtain ⟨V, hV⟩ : ∃ V, w.alloc (.cells #[.int .u8 r, .int .u8 gg, .int .u8 b, .int .u8 255] 66) = V := ⟨_, rfl⟩
  have kV : Kept (fun _ => False) w V := by rw [← hV]; exact (Kept.refl _ _).alloc _
  have b0 : V.heap[w.heap.size]? = some (.cells #[.int .u8 r, .int .u8 gg, .int .u8 b, .int .u8 255] 66 (0, 0)) := by rw [← hV]; exact blk_new _ _
  have hIV := hI.kept kV
  obtain ⟨⟨a0, -⟩, ⟨a1, -⟩, ⟨a2, -⟩, a3, -⟩ := blk4 b0
  obtain ⟨⟨e0, -⟩, ⟨e1, -⟩, e2, -⟩ := blk3 hIV.1.1.2
  obtain ⟨-, -, s2, s3, -⟩ := blk11 hIV.1.2
  obtain ⟨q0, -⟩ := blk1 hIV.2.1
  obtain ⟨p0, -⟩ := blk1 hIV.2.2
  have HF := Lib.hid (filD_any W H (X + x) (Y + y) bw bh P (some ⟨g, 0, none⟩) n n r gg b 255 V (by unfold Mid; omega) (by unfold Mid; omega) (by unfold Mid; omega) (by unfold Mid; omega) hd.bW hd.bH hd.bn hd.bn2 hIV.1.1.1)
  have HK := Lib.hid (And.intro kV (And.intro hIV (And.intro hm (And.intro hb (And.intro hrb (And.intro hcb hd.bn))))))
  clear b0 kV hI hIV hx hy hbw hbh hd hm hb hrb hcb hrow hcol d1 d2 d3 d4 bx by' hX hY
  show Calls Try.prog 113 #[.int .i64 x, .int .i64 y, .int .i64 bw, .int .i64 bh, .agg #[.int .u8 r, .int .u8 gg, .int .u8 b, .int .u8 255], .pointer (some ⟨m, 0, none⟩), .pointer (some ⟨cb, 0, none⟩), .pointer (some ⟨lb, 0, none⟩), .pointer (some ⟨rb, 0, none⟩)] w _
  go_enter Try.func113, Try.ntmps113
  go_wp2_with fail
  refine HF.out.mono ?_
  rintro e w2 ⟨rfl, ho, hk⟩
  have hk2 : Kept (fun i => i = g) V w2 := hk.mono fun i _ hi => by cases hi; rfl
  have HR := Lib.hid (And.intro ho (And.intro hk2 (And.intro (hk2.blk HK.out.2.1.1.1.2 HK.out.2.2.1) (And.intro (hk2.blk HK.out.2.1.1.2 HK.out.2.2.2.1) (And.intro (hk2.blk HK.out.2.1.2.1 HK.out.2.2.2.2.1) (hk2.blk HK.out.2.1.2.2 HK.out.2.2.2.2.2.1))))))
  clear ho hk hk2 a0 a1 a2 a3 e0 e1 e2 s2 s3 q0 p0
  go_wp2
  go_end0
  refine ⟨rfl, ⟨⟨⟨?_, HR.out.2.2.1⟩, HR.out.2.2.2.1⟩, HR.out.2.2.2.2⟩, (HK.out.1.mono fun _ _ h => h.elim).then HR.out.2.1⟩
  unfold glsL layL
  rw [← HK.out.2.2.2.2.2.2]
  exact HR.out.1
set_option maxRecDepth 100000 in
set_option maxHeartbeats 8000000 in
theorem do112 (s : Sc) (ls : List (List Cl)) (W H n m g lb : Nat) (hd : Dim s W H n) (hm : m ≠ g) (hb : lb ≠ g) (hcl : ∀ row col, -2147483648 ≤ (cellS ls row col).r ∧ (cellS ls row col).r ≤ 2147483647) :
    Does 112 (.pointer (some ⟨lb, 0, none⟩)) (.pointer (some ⟨m, 0, none⟩)) (fun i => i = g) (SI s W H n m g lb 93) ls s.rows s.cols (glsF s ls W H) := by
  intro row col P w hrow hcol hI
  have hgw : g < w.heap.size := hI.1.1.lt g rfl
  have hr := hcl row col
  have hfn : glsF s ls W H row col P = if (cellS ls row col).r = 0 ∨ (cellS ls row col).k = 2 then P else boxS (glsL W H (col * s.cw) (row * s.ch)) (cellS ls row col).r (glsW s (cellS ls row col) col) s.ch (cellS ls row col).a P := rfl
  obtain ⟨CL, hCL⟩ : ∃ c, cellS ls row col = c := ⟨_, rfl⟩
  rw [hCL] at hr hfn ⊢
  obtain ⟨cr, ck, fg, bg, fl⟩ := CL
  obtain ⟨RES, hRES⟩ : ∃ R, glsF s ls W H row col P = R := ⟨_, rfl⟩
  rw [hRES] at hfn ⊢
  unfold Cl.val
  simp only at hr hfn ⊢
  obtain ⟨V, hV⟩ : ∃ V, ((w.alloc (.cells #[.int .i64 row] 3)).alloc (.cells #[.int .i64 col] 3)).alloc (.cells #[.int .i32 cr, .int .i64 ck, .int .i64 fg, .int .i64 bg, .int .i64 fl] 100) = V := ⟨_, rfl⟩
  have kV : Kept (fun _ => False) w V := by rw [← hV]; exact (((Kept.refl _ _).alloc _).alloc _).alloc _
  have b0 : V.heap[w.heap.size]? = some (.cells #[.int .i64 row] 3 (0, 0)) := by rw [← hV]; exact blk_alloc (blk_alloc (blk_new _ _) _) _
  have b1 : V.heap[w.heap.size + 1]? = some (.cells #[.int .i64 col] 3 (0, 0)) := by rw [← hV]; exact blk_alloc (blk_at _ _ (by simp)) _
  have b2 : V.heap[w.heap.size + 1 + 1]? = some (.cells #[.int .i32 cr, .int .i64 ck, .int .i64 fg, .int .i64 bg, .int .i64 fl] 100 (0, 0)) := by rw [← hV]; exact blk_at _ _ (by simp)
  have hIV := hI.kept kV
  have hSJ : SJ s W H n m g lb w.heap.size (w.heap.size + 1) row col P V := ⟨hIV, b0, b1⟩
  have HLAY := Lib.hid (lays113 s W H n m g lb w.heap.size (w.heap.size + 1) row col hd hm hb (by omega) (by omega) hrow hcol)
  have HBOX := Lib.hid (fun (gw : Int) (hgw : 1 ≤ gw ∧ gw ≤ 128) => box113_any (.pointer (some ⟨m, 0, none⟩)) (.pointer (some ⟨w.heap.size + 1, 0, none⟩)) (.pointer (some ⟨lb, 0, none⟩)) (.pointer (some ⟨w.heap.size, 0, none⟩)) (fun i => i = g) (SJ s W H n m g lb w.heap.size (w.heap.size + 1) row col) (glsL W H (col * s.cw) (row * s.ch)) cr gw s.ch ⟨fg, bg, fl⟩ P V hSJ (fun P w w' h hk => h.kept hk) (fun i hi => by have h9 : i = g := hi; rw [h9]; exact hIV.1.1.lt g rfl) HLAY.out hr hgw (by have := hd.ch; omega))
  have d2 := hd.cols
  have d3 := hd.cw
  obtain ⟨x0, x1, x2, x3, x4⟩ := blk5 b2
  obtain ⟨p0, -⟩ := blk1 b0
  obtain ⟨q0, -⟩ := blk1 b1
  obtain ⟨-, s1, s2, s3, -⟩ := blk11 hIV.2
  have HK := Lib.hid (And.intro kV hIV)
  obtain ⟨rows, cols, cw, ch, la, ln, lc, pa, pn, pc, im, top, cur, srow, scol⟩ := s
  unfold glsW at hfn
  simp only at d2 d3 hrow hcol hfn s1 s2 s3 HBOX
  have HFN := Lib.hid hfn
  clear hfn hI hgw hr hCL hRES hd hm hb hcl b0 b1 b2 kV hIV hSJ
  by_cases e1 : cr = 0
  · have g1 : (cr == 0) = true := by simp [e1]
    have hP : RES = P := by rw [HFN.out, if_pos (.inl e1)]
    rw [hP]
    clear hP e1
    go_enter Try.func112, Try.ntmps112
    go_wp2
    exact bodyPost_ret (results_none rfl _ _ _) rfl ⟨rfl, HK.out.2, HK.out.1.mono fun _ _ h => h.elim⟩
  have g1 : (cr == 0) = false := by simp [e1]
  by_cases e2 : ck = 2
  · have g2 : (ck == 2) = true := by simp [e2]
    have hP : RES = P := by rw [HFN.out, if_pos (.inr e2)]
    rw [hP]
    clear hP e1 e2
    go_enter Try.func112, Try.ntmps112
    go_wp2
    exact bodyPost_ret (results_none rfl _ _ _) rfl ⟨rfl, HK.out.2, HK.out.1.mono fun _ _ h => h.elim⟩
  have g2 : (ck == 2) = false := by simp [e2]
  have hP : RES = boxS (glsL W H (col * cw) (row * ch)) cr (if ck = 1 ∧ col + 1 < cols then 2 * (cw : Int) else cw) ch ⟨fg, bg, fl⟩ P := by rw [HFN.out, if_neg (fun h => h.elim e1 e2)]
  have w1 : IntKind.i64.wrap ((col : Int) + 1) = (col : Int) + 1 := IntWalk.i64_in _ (by omega)
  have w2 : IntKind.i64.wrap ((cw : Int) * 2) = (cw : Int) * 2 := IntWalk.i64_in _ (by omega)
  by_cases e3 : ck = 1
  · have g3 : (ck == 1) = true := by simp [e3]
    by_cases e4 : col + 1 < cols
    · have g4 : decide ((col : Int) + 1 < (cols : Int)) = true := decide_eq_true (by omega)
      have g4' : decide (col + 1 < cols) = true := decide_eq_true e4
      rw [if_pos ⟨e3, e4⟩] at hP
      have HB := Lib.hid (HBOX.out (2 * (cw : Int)) (by omega))
      rw [← hP, show (2 : Int) * (cw : Int) = (cw : Int) * 2 from Int.mul_comm ..] at HB
      clear hP e1 e2 e3 e4
      unfold lookV at HB
      go_enter Try.func112, Try.ntmps112
      go_wp2_with fail
      refine HB.out.mono ?_
      rintro e w3 ⟨rfl, hi, hk⟩
      have HE := Lib.hid (And.intro hi.1 ((HK.out.1.mono fun _ _ h => h.elim).then hk))
      clear hi hk x0 x1 x2 x3 x4 p0 q0 s1 s2 s3
      go_wp2
      go_end0
      exact ⟨rfl, HE.out⟩
    · have g4 : decide ((col : Int) + 1 < (cols : Int)) = false := decide_eq_false (by omega)
      have g4' : decide (col + 1 < cols) = false := decide_eq_false e4
      rw [if_neg (fun h => e4 h.2)] at hP
      have HB := Lib.hid (HBOX.out cw (by omega))
      rw [← hP] at HB
      clear hP e1 e2 e3 e4
      unfold lookV at HB
      go_enter Try.func112, Try.ntmps112
      go_wp2_with fail
      refine HB.out.mono ?_
      rintro e w3 ⟨rfl, hi, hk⟩
      have HE := Lib.hid (And.intro hi.1 ((HK.out.1.mono fun _ _ h => h.elim).then hk))
      clear hi hk x0 x1 x2 x3 x4 p0 q0 s1 s2 s3
      go_wp2
      go_end0
      exact ⟨rfl, HE.out⟩
  · have g3 : (ck == 1) = false := by simp [e3]
    rw [if_neg (fun h => e3 h.1)] at hP
    have HB := Lib.hid (HBOX.out cw (by omega))
    rw [← hP] at HB
    clear hP e1 e2 e3
    unfold lookV at HB
    go_enter Try.func112, Try.ntmps112
    go_wp2_with fail
    refine HB.out.mono ?_
    rintro e w3 ⟨rfl, hi, hk⟩
    have HE := Lib.hid (And.intro hi.1 ((HK.out.1.mono fun _ _ h => h.elim).then hk))
    clear hi hk x0 x1 x2 x3 x4 p0 q0 s1 s2 s3
    go_wp2
    go_end0
    exact ⟨rfl, HE.out⟩
set_option maxRecDepth 100000 in
set_option maxHeartbeats 8000000 in
theorem glyphs_any (B : Nat) (s : Sc) (ls : List (List Cl)) (W H n g : Nat) (P : List Int) (wd : World) (hd : Dim s W H n) (hl : LinesAt B wd s.la s.ln ls) (hlen : s.ln ≤ 9223372036854775807) (hB : B ≤ g) (hcl : ∀ row col, -2147483648 ≤ (cellS ls row col).r ∧ (cellS ls row col).r ≤ 2147483647)
    (ho : Own .u8 5 wd (.slice (some ⟨g, 0, none⟩) n n) P) :
    Calls Try.prog 111 #[s.val, .agg #[.int .i64 W, .int .i64 H, .slice (some ⟨g, 0, none⟩) n n]] wd fun e w' => e = .returned (.agg #[.int .i64 W, .int .i64 H, .slice (some ⟨g, 0, none⟩) n n]) ∧ Own .u8 5 w' (.slice (some ⟨g, 0, none⟩) n n) (eachF (glsF s ls W H) s.cols s.rows P) ∧ Kept (fun i => i = g) wd w' := by
  have hgw := ho.lt g rfl
  obtain ⟨V, hV⟩ : ∃ V, ((wd.alloc (.cells s.cs 93)).alloc (.cells #[.int .i64 W, .int .i64 H, .slice (some ⟨g, 0, none⟩) n n] 31)).alloc (.cells #[.int .i64 0, .int .i64 0, .slice none 0 0] 31) = V := ⟨_, rfl⟩
  have kV : Kept (fun _ => False) wd V := by rw [← hV]; exact (((Kept.refl _ _).alloc _).alloc _).alloc _
  have b0 : V.heap[wd.heap.size]? = some (.cells s.cs 93 (0, 0)) := by rw [← hV]; exact blk_alloc (blk_alloc (blk_new _ _) _) _
  have b1 : V.heap[wd.heap.size + 1]? = some (.cells #[.int .i64 W, .int .i64 H, .slice (some ⟨g, 0, none⟩) n n] 31 (0, 0)) := by rw [← hV]; exact blk_alloc (blk_at _ _ (by simp)) _
  have b2 : V.heap[wd.heap.size + 1 + 1]? = some (.cells #[.int .i64 0, .int .i64 0, .slice none 0 0] 31 (0, 0)) := by rw [← hV]; exact blk_at _ _ (by simp)
  have hgV : g < V.heap.size := (ho.kept kV (fun _ _ => id)).lt g rfl
  have HEACH := Lib.hid (each112_any B s ls (.pointer (some ⟨wd.heap.size, 0, none⟩)) (.pointer (some ⟨wd.heap.size + 1, 0, none⟩)) (fun i => i = g) (SI s W H n (wd.heap.size + 1) g wd.heap.size 93) (glsF s ls W H) P V
    (hl.kept kV (fun _ h => h.elim)) hlen (by have := hd.rows; omega) (by have := hd.cols; omega) ⟨⟨ho.kept kV (fun _ _ => id), b1⟩, b0⟩ (fun P w w' h hk => h.kept hk) (fun i hi => by have h9 : i = g := hi; rw [h9]; exact ⟨hB, hgV⟩) (do112 s ls W H n (wd.heap.size + 1) g wd.heap.size hd (by omega) (by omega) hcl))
  have HK := Lib.hid (And.intro kV (And.intro b2 hgw))
  obtain ⟨R, hR⟩ : ∃ R, eachF (glsF s ls W H) s.cols s.rows P = R := ⟨_, rfl⟩
  rw [hR] at HEACH
  rw [hR]
  obtain ⟨x0, x1, x2, x3, x4, x5, x6, x7, x8, x9, x10⟩ := blk11 b0
  obtain ⟨rows, cols, cw, ch, la, ln, lc, pa, pn, pc, im, top, cur, srow, scol⟩ := s
  unfold Sc.cs at hV
  unfold Sc.val at HEACH ⊢
  simp only at x0 x1 x2 x3 x4 x5 x6 x7 x8 x9 x10 hV HEACH ⊢
  clear hR hd hl hlen hB ho hgw kV b0 b1 b2 hgV
  go_enter Try.func111, Try.ntmps111
  go_wp2_with fail
  refine HEACH.out.mono ?_
  rintro e w2 ⟨rfl, hi2, hk2⟩
  obtain ⟨⟨d0, -⟩, ⟨d1, -⟩, d2, -⟩ := blk3 hi2.1.2
  obtain ⟨U1, U2, U3, f1, f2, f3, ⟨z0, z0'⟩, ⟨z1, z1'⟩, ⟨z2, z2'⟩, bU, kU⟩ := store3 (hk2.blk HK.out.2.1 (fun (h : wd.heap.size + 1 + 1 = g) => by have := HK.out.2.2; omega)) (.int .i64 W) (.int .i64 H) (.slice (some ⟨g, 0, none⟩) n n)
  obtain ⟨⟨m0, -⟩, ⟨m1, -⟩, m2, -⟩ := blk3 bU
  have HE := Lib.hid (And.intro (hi2.1.1.kept kU (fun b hb hS => by have h9 : b = wd.heap.size + 1 + 1 := hS; have h8 : g = b := (by cases hb; rfl); have := HK.out.2.2; omega)) (((HK.out.1.mono (fun _ _ h => h.elim)).then hk2).trans (kU.mono fun i _ hi => Or.inr (by have h9 : i = wd.heap.size + 1 + 1 := hi; omega))))
  clear hi2 hk2 bU kU x0 x1 x2 x3 x4 x5 x6 x7 x8 x9 x10
  go_wp2
  exact bodyPost_ret (v := .agg #[.int .i64 W, .int .i64 H, .slice (some ⟨g, 0, none⟩) n n]) (by simp [results, Try.results111, go_sem, m0, m1, m2]) rfl ⟨rfl, HE.out⟩
end Go.Proofs.Ytdjgmhbfohbenaa
