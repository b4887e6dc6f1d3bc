/- A glyph by itself: the program's Glyph. -/
import Derived.Test.YtdjgmhbfohbenaaBox49
import Derived.Test.YtdjgmhbfohbenaaLFits
namespace Go.Proofs.Ytdjgmhbfohbenaa
open Go.RowKit Go.Sort Pl
set_option linter.unusedVariables false
set_option linter.unusedSimpArgs false
attribute [local go_sem] A2.growOp A2.growUpon A2.sameUpon
/-- One part laid on a matrix, W wide, H high. -/
def layL (W H : Nat) (x y bw bh : Int) (c : Rgb) (P : List Int) : List Int := fillP W H x y bw bh c.r c.g c.b 255 (4 * (W * H)) P
def glyP (W H : Nat) (r : Int) (a : Look) : List Int := boxS (layL W H) r W H a (layL W H 0 0 W H (colors a).2 (List.replicate (4 * (W * H)) 0))
/-- A matrix whose bytes lie in block g; its three numbers in block m. -/
def MatI (W H n m g : Nat) (P : List Int) (w : World) : Prop :=
  Own .u8 5 w (.slice (some ⟨g, 0, none⟩) n n) P ∧ w.heap[m]? = some (.cells #[.int .i64 W, .int .i64 H, .slice (some ⟨g, 0, none⟩) n n] 31 (0, 0))
theorem MatI.kept {W H n m g : Nat} {P : List Int} {w w' : World} (h : MatI W H n m g P w) (hk : Kept (fun _ => False) w w') : MatI W H n m g P w' := ⟨h.1.kept hk (fun _ _ => id), hk.blk h.2 id⟩
set_option maxRecDepth 100000 in
set_option maxHeartbeats 8000000 in
theorem lays49 (W H n m g : Nat) (hm : m ≠ g) (hW : W ≤ 16384) (hH : H ≤ 16384) (hN : n = 4 * (W * H)) (hn2 : n ≤ 67108864) :
    Lays 49 #[.pointer (some ⟨m, 0, none⟩)] (fun i => i = g) (MatI W H n m g) (layL W H) := by
  intro x y bw bh c P w hx hy hbw hbh hI
  obtain ⟨r, gg, b⟩ := c
  unfold Sml at hx hy hbw hbh
  obtain ⟨V, hV⟩ : ∃ V, w.alloc (.cells #[.int .u8 r, .int .u8 gg, .int .u8 b, .int .u8 255] 66) = V := ⟨_, rfl⟩
  have kV : Kept (fun _ => False) w V := by rw [← hV]; exact (Kept.refl _ _).alloc _
  have b0 : V.heap[w.heap.size]? = some (.cells #[.int .u8 r, .int .u8 gg, .int .u8 b, .int .u8 255] 66 (0, 0)) := by rw [← hV]; exact blk_new _ _
  have hIV := hI.kept kV
  obtain ⟨⟨a0, -⟩, ⟨a1, -⟩, ⟨a2, -⟩, a3, -⟩ := blk4 b0
  obtain ⟨⟨d0, -⟩, ⟨d1, -⟩, d2, -⟩ := blk3 hIV.2
  have HF := Lib.hid (filD_any W H x y bw bh P (some ⟨g, 0, none⟩) n n r gg b 255 V (by unfold Mid; omega) (by unfold Mid; omega) (by unfold Mid; omega) (by unfold Mid; omega) hW hH hN hn2 hIV.1)
  have HK := Lib.hid (And.intro kV (And.intro hIV hm))
  have HNN := Lib.hid hN
  clear b0 kV hI hIV hx hy hbw hbh hN
  show Calls Try.prog 49 #[.int .i64 x, .int .i64 y, .int .i64 bw, .int .i64 bh, .agg #[.int .u8 r, .int .u8 gg, .int .u8 b, .int .u8 255], .pointer (some ⟨m, 0, none⟩)] w _
  go_enter Try.func49, Try.ntmps49
  go_wp2_with fail
  refine HF.out.mono ?_
  rintro e w2 ⟨rfl, ho, hk⟩
  have hk2 : Kept (fun i => i = g) V w2 := hk.mono fun i _ hi => by cases hi; rfl
  have HR := Lib.hid (And.intro ho (And.intro hk2 (hk2.blk HK.out.2.1.2 HK.out.2.2)))
  clear ho hk hk2 a0 a1 a2 a3 d0 d1 d2
  go_wp2
  go_end0
  refine ⟨rfl, ⟨?_, HR.out.2.2⟩, (HK.out.1.mono fun _ _ h => h.elim).then HR.out.2.1⟩
  unfold layL
  rw [← HNN.out]
  exact HR.out.1
set_option maxRecDepth 100000 in
set_option maxHeartbeats 8000000 in
theorem glyph_yes (r : Int) (W H : Nat) (a : Look) (wd : World) (hr : -2147483648 ≤ r ∧ r ≤ 2147483647) (hw : 1 ≤ W ∧ W ≤ 128) (hh : 1 ≤ H ∧ H ≤ 64) :
    Calls Try.prog 18 #[.int .i32 r, .int .i64 W, .int .i64 H, lookV a] wd fun e w' => ∃ g : Nat, e = .returned (.tuple #[mat W H (some ⟨g, 0, none⟩) (4 * (W * H)) (4 * (W * H)), .int .i64 0]) ∧ wd.heap.size ≤ g ∧ Own .u8 5 w' (.slice (some ⟨g, 0, none⟩) (4 * (W * H)) (4 * (W * H))) (glyP W H r a) ∧ Kept (fun _ => False) wd w' := by
  have hWH : W * H ≤ 128 * 64 := Nat.mul_le_mul hw.2 hh.2
  have hsz : sizeB W H = true := by
    unfold sizeB
    refine decide_eq_true (.inr ⟨by omega, by omega, by omega, by omega, ?_⟩)
    rw [show (W : Int) * (H : Int) = ((W * H : Nat) : Int) by simp]; omega
  have g1 : ∀ w, Calls Try.prog 32 #[.int .i64 W, .int .i64 1, .int .i64 128] w fun e w' => e = .returned (.bool true) ∧ w = w' := fun w => by
    have h := betw_any W 1 128 w
    rw [decide_eq_true (show (1 : Int) ≤ (W : Int) by omega), decide_eq_true (show (W : Int) ≤ 128 by omega)] at h; exact h.mono fun _ _ h => ⟨h.1, h.2.symm⟩
  have g2 : ∀ w, Calls Try.prog 32 #[.int .i64 H, .int .i64 1, .int .i64 64] w fun e w' => e = .returned (.bool true) ∧ w = w' := fun w => by
    have h := betw_any H 1 64 w
    rw [decide_eq_true (show (1 : Int) ≤ (H : Int) by omega), decide_eq_true (show (H : Int) ≤ 64 by omega)] at h; exact h.mono fun _ _ h => ⟨h.1, h.2.symm⟩
  have G1 := Lib.hid g1
  have G2 := Lib.hid g2
  obtain ⟨fg, bg, fl⟩ := a
  obtain ⟨F, hF⟩ : ∃ F, (colors ⟨fg, bg, fl⟩).1 = F := ⟨_, rfl⟩
  obtain ⟨B, hB⟩ : ∃ B, (colors ⟨fg, bg, fl⟩).2 = B := ⟨_, rfl⟩
  have HC := Lib.hid (show ∀ w, Calls Try.prog 45 #[.agg #[.int .i64 fg, .int .i64 bg, .int .i64 fl]] w fun e w' => e = .returned (.tuple #[.agg #[.int .u8 F.r, .int .u8 F.g, .int .u8 F.b], .agg #[.int .u8 B.r, .int .u8 B.g, .int .u8 B.b]]) ∧ Kept (fun _ => False) w w' from fun w => by have h := cols_any ⟨fg, bg, fl⟩ w; unfold ColsPost at h; rw [hF, hB] at h; exact h)
  have HGLY := Lib.hid (show glyP W H r ⟨fg, bg, fl⟩ = boxS (layL W H) r W H ⟨fg, bg, fl⟩ (layL W H 0 0 W H B (List.replicate (4 * (W * H)) 0)) from by unfold glyP; rw [hB])
  have HSB := Lib.hid (show ∀ w, Calls Try.prog 47 #[.agg #[.int .u8 B.r, .int .u8 B.g, .int .u8 B.b]] w fun e w' => e = .returned (.agg #[.int .u8 B.r, .int .u8 B.g, .int .u8 B.b, .int .u8 255]) ∧ Kept (fun _ => False) w w' from fun w => solid_any B w)
  obtain ⟨n, hn⟩ : ∃ n, 4 * (W * H) = n := ⟨_, rfl⟩
  have HN := Lib.hid (And.intro hn (And.intro (And.intro hw hh) (And.intro hWH hr)))
  have HNEW := Lib.hid (fun w => show Calls Try.prog 33 #[.int .i64 W, .int .i64 H] w fun e w' => ∃ g, e = .returned (.tuple #[.agg #[.int .i64 W, .int .i64 H, .slice (some ⟨g, 0, none⟩) n n], .int .i64 0]) ∧ w.heap.size ≤ g ∧ Own .u8 5 w' (.slice (some ⟨g, 0, none⟩) n n) (List.replicate n 0) ∧ Kept (fun _ => False) w w' from (new_yes W H w hsz).mono fun e w' ⟨g, k, hk, he, h1, h2, h3⟩ => by
    obtain rfl : k = n := by
      rw [Int.mul_assoc, show (W : Int) * (H : Int) = ((W * H : Nat) : Int) by simp] at hk
      omega
    exact ⟨g, he, h1, h2, h3⟩)
  rw [hn] at HGLY
  rw [hn]
  clear hF hB hsz g1 g2 hw hh hWH hn hr
  obtain ⟨W0, hW0⟩ : ∃ W0, (wd.alloc (.cells #[.int .i64 fg, .int .i64 bg, .int .i64 fl] 54)).alloc (.cells #[.int .i64 0, .int .i64 0, .slice none 0 0] 31) = W0 := ⟨_, rfl⟩
  have k0 : Kept (fun _ => False) wd W0 := by rw [← hW0]; exact ((Kept.refl _ _).alloc _).alloc _
  have c0 : W0.heap[wd.heap.size]? = some (.cells #[.int .i64 fg, .int .i64 bg, .int .i64 fl] 54 (0, 0)) := by rw [← hW0]; exact blk_alloc (blk_new _ _) _
  have c1 : W0.heap[wd.heap.size + 1]? = some (.cells #[.int .i64 0, .int .i64 0, .slice none 0 0] 31 (0, 0)) := by rw [← hW0]; exact blk_at _ _ (by simp)
  have H0 := Lib.hid (And.intro k0 (And.intro c0 c1))
  clear k0 c0 c1
  unfold lookV
  go_enter Try.func18, Try.ntmps18
  go_wp2_with (go_at_call 32; first | ((with_reducible refine (G1.out _).mono ?_); rintro e w' ⟨rfl, rfl⟩) | ((with_reducible refine (G2.out _).mono ?_); rintro e w' ⟨rfl, rfl⟩))
  refine (HNEW.out _).mono ?_
  rintro e w1 ⟨g, rfl, hg, ho, hk1⟩
  obtain ⟨V, hV⟩ : ∃ V, w1.alloc (.cells #[.int .i64 W, .int .i64 H, .slice (some ⟨g, 0, none⟩) n n] 31) = V := ⟨_, rfl⟩
  have kV : Kept (fun _ => False) w1 V := by rw [← hV]; exact (Kept.refl _ _).alloc _
  have hm : V.heap[w1.heap.size]? = some (.cells #[.int .i64 W, .int .i64 H, .slice (some ⟨g, 0, none⟩) n n] 31 (0, 0)) := by rw [← hV]; exact blk_new _ _
  obtain ⟨⟨c0, -⟩, ⟨c1, -⟩, c2, -⟩ := blk3 ((hk1.then kV).blk H0.out.2.1 id)
  have hgw := ho.lt g rfl
  have H1 := Lib.hid (And.intro (hk1.then kV) (And.intro (show MatI W H n w1.heap.size g (List.replicate n 0) V from ⟨ho.kept kV (fun _ _ => id), hm⟩) (And.intro hg hgw)))
  clear hg ho hk1 kV hm hgw
  go_wp2_with fail
  refine (HC.out _).mono ?_
  rintro e w2 ⟨rfl, hk2⟩
  obtain ⟨Y, hY⟩ : ∃ Y, (w2.alloc (.cells #[.int .u8 F.r, .int .u8 F.g, .int .u8 F.b] 96)).alloc (.cells #[.int .u8 B.r, .int .u8 B.g, .int .u8 B.b] 96) = Y := ⟨_, rfl⟩
  have kY : Kept (fun _ => False) w2 Y := by rw [← hY]; exact ((Kept.refl _ _).alloc _).alloc _
  have y1 : Y.heap[w2.heap.size + 1]? = some (.cells #[.int .u8 B.r, .int .u8 B.g, .int .u8 B.b] 96 (0, 0)) := by rw [← hY]; exact blk_at _ _ (by simp)
  obtain ⟨WR, hWR⟩ : ∃ WR, WR = Y.drew := ⟨_, rfl⟩
  have kR : Kept (fun _ => False) Y WR := by rw [hWR]; exact (Kept.refl _ _).drew
  have kA := (hk2.then kY).then kR
  have HMI := Lib.hid (H1.out.2.1.kept kA)
  obtain ⟨⟨d0, -⟩, ⟨d1, -⟩, d2, -⟩ := blk3 HMI.out.2
  obtain ⟨⟨e0, -⟩, ⟨e1, -⟩, e2, -⟩ := blk3 (kR.blk y1 id)
  have X0 := cell_regrown d0
  have X1 := cell_regrown d1
  have X2 := cell_regrown d2
  have Y0 := cell_regrown e0
  have Y1 := cell_regrown e1
  have Y2 := cell_regrown e2
  obtain ⟨RB, hRB⟩ : ∃ R : Value → World → Prop, R = fun v _ => v = .agg #[.int .u8 B.r, .int .u8 B.g, .int .u8 B.b, .int .u8 255] := ⟨_, rfl⟩
  have HRB := Lib.hid hRB
  have HWR := Lib.hid hWR
  have HKA := Lib.hid ((H0.out.1.then H1.out.1).then kA)
  have HBA := Lib.hid (And.intro ((H1.out.1.then kA).blk H0.out.2.1 id) ((H1.out.1.then kA).blk H0.out.2.2 id))
  clear hk2 kY y1 kR kA d0 d1 d2 e0 e1 e2 hRB hWR c0 c1 c2
  go_wp2
  refine A2.wp_region_grow (fun _ => false) #[0, 0, 0, 0, 8, 31] 5 [] (fun i => if i = 4 then some RB else none) (by kernel_rfl) rfl (by kernel_rfl) (fun i hi => by cases hi) (fun _ _ _ _ _ h => h) ?_
  rintro _ rfl
  rw [← HWR.out]
  simp only [List.take_succ_cons, List.take_zero, List.drop_succ_cons, List.drop_zero, A2.number, Nat.reduceAdd]
  repeat (refine A2.wpGrow_step (fun K hK => ?_); go_simp; refine hK _ _ ?_; clear hK K)
  refine A2.wpGrow_step (fun K hK => ?_)
  go_simp
  refine ⟨fun w' hg => (HSB.out w').mono (fun e9 w'' ⟨he, hk⟩ => ⟨_, he, hk, by rw [HRB.out]⟩), fun v4 w4 hv4 hg4 _ => ?_⟩
  rw [HRB.out] at hv4
  subst hv4
  refine hK _ _ ?_; clear hK K
  refine A2.wpGrow_nil ?_
  intro w5 hk5 hω
  have hI5 := HMI.out.kept hk5
  have hbW := HN.out.2.2.1
  have HF := Lib.hid (filD_any W H 0 0 W H (List.replicate n 0) (some ⟨g, 0, none⟩) n n B.r B.g B.b 255 w5 (by unfold Mid; omega) (by unfold Mid; omega) (by unfold Mid; have := HN.out.2.1; omega) (by unfold Mid; have := HN.out.2.1; omega) (by have := HN.out.2.1; omega) (by have := HN.out.2.1; omega) HN.out.1.symm (by have := HN.out.1; omega) hI5.1)
  have H5 := Lib.hid (And.intro hk5 hI5)
  clear hω hg4 hI5 hk5 X0 X1 X2 Y0 Y1 Y2 hbW
  go_wp2_with fail
  refine HF.out.mono ?_
  rintro e w6 ⟨rfl, ho6, hk6⟩
  have hk6' : Kept (fun i => i = g) w5 w6 := hk6.mono fun i _ hi => by cases hi; rfl
  have hgm : w1.heap.size ≠ g := by have := H1.out.2.2.2; omega
  have hI6 : MatI W H n w1.heap.size g (layL W H 0 0 W H B (List.replicate n 0)) w6 := ⟨by unfold layL; rw [HN.out.1]; exact ho6, hk6'.blk H5.out.2.2 hgm⟩
  have hzg : W0.heap.size ≤ g := H1.out.2.2.1
  have hz0 : wd.heap.size + 1 < W0.heap.size := lt_of_blk H0.out.2.2
  have ba6 := hk6'.blk (H5.out.1.blk HBA.out.1 id) (fun (h : wd.heap.size = g) => by omega)
  have bb6 := hk6'.blk (H5.out.1.blk HBA.out.2 id) (fun (h : wd.heap.size + 1 = g) => by omega)
  have k6 : Kept (fun _ => False) wd w6 := (HKA.out.then H5.out.1).trans (hk6'.mono fun i _ hi => Or.inr (by have h9 : i = g := hi; omega))
  have hb := HN.out.2.1
  have HBX := Lib.hid (box49_any (.pointer (some ⟨w1.heap.size, 0, none⟩)) (fun i => i = g) (MatI W H n w1.heap.size g) (layL W H) r W H ⟨fg, bg, fl⟩ _ w6 hI6 (fun P w w' h hk => h.kept hk) (fun i hi => by have h9 : i = g := hi; rw [h9]; exact hI6.1.lt g rfl) (lays49 W H n w1.heap.size g hgm (by omega) (by omega) HN.out.1.symm (by have := HN.out.1; have := HN.out.2.2.1; omega)) HN.out.2.2.2 (by omega) (by omega))
  rw [← HGLY.out] at HBX
  obtain ⟨⟨a0, -⟩, ⟨a1, -⟩, a2, -⟩ := blk3 ba6
  have H6 := Lib.hid (And.intro k6 (And.intro ba6 (And.intro bb6 (And.intro hzg hz0))))
  clear ho6 hk6 hk6' hI6 hgm hzg hz0 ba6 bb6 k6 hb
  go_wp2_with fail
  refine HBX.out.mono ?_
  rintro e w7 ⟨rfl, hI7, hk7⟩
  have bb7 := hk7.blk H6.out.2.2.1 (fun (h : wd.heap.size + 1 = g) => by have := H6.out.2.2.2; omega)
  obtain ⟨⟨d0, -⟩, ⟨d1, -⟩, d2, -⟩ := blk3 hI7.2
  obtain ⟨U1, U2, U3, f1, f2, f3, ⟨x0, y0⟩, ⟨x1, y1⟩, ⟨x2, y2⟩, bU, kU⟩ := store3 bb7 (.int .i64 W) (.int .i64 H) (.slice (some ⟨g, 0, none⟩) n n)
  obtain ⟨⟨m0, -⟩, ⟨m1, -⟩, m2, -⟩ := blk3 bU
  have hO := hI7.1.kept kU (fun b hb hS => by have h9 : b = wd.heap.size + 1 := hS; have h8 : g = b := (by cases hb; rfl); have := H6.out.2.2.2; omega)
  have hK : Kept (fun _ => False) wd U3 := (H6.out.1.trans (hk7.mono fun i _ hi => Or.inr (by have h9 : i = g := hi; have := H6.out.2.2.2; omega))).trans (kU.mono fun i _ hi => Or.inr (by have h9 : i = wd.heap.size + 1 := hi; omega))
  have HE := Lib.hid (And.intro hO hK)
  clear hI7 hk7 bb7 bU kU hO hK a0 a1 a2
  go_wp2
  exact bodyPost_ret (v := .tuple #[.agg #[.int .i64 W, .int .i64 H, .slice (some ⟨g, 0, none⟩) n n], .int .i64 0]) (by simp [results, Try.results18, go_sem, m0, m1, m2]) rfl ⟨g, rfl, by have := H6.out.2.2.2; omega, HE.out.1, HE.out.2⟩
set_option maxRecDepth 100000 in
set_option maxHeartbeats 8000000 in
theorem glyph_no (r w h : Int) (a : Look) (wd : World) (hn : ¬ ((1 ≤ w ∧ w ≤ 128) ∧ (1 ≤ h ∧ h ≤ 64))) :
    Calls Try.prog 18 #[.int .i32 r, .int .i64 w, .int .i64 h, lookV a] wd fun e w' => e = .returned (.tuple #[mat0, .int .i64 1]) ∧ Kept (fun _ => False) wd w' := by
  obtain ⟨fg, bg, fl⟩ := a
  unfold lookV
  by_cases h1 : 1 ≤ w ∧ w ≤ 128
  · have h2 : ¬ (1 ≤ h ∧ h ≤ 64) := fun h2 => hn ⟨h1, h2⟩
    have G1 := Lib.hid (show ∀ x, Calls Try.prog 32 #[.int .i64 w, .int .i64 1, .int .i64 128] x fun e w' => e = .returned (.bool true) ∧ x = w' from fun x => by
      have h := betw_any w 1 128 x
      rw [decide_eq_true h1.1, decide_eq_true h1.2] at h; exact h.mono fun _ _ h => ⟨h.1, h.2.symm⟩)
    have G2 := Lib.hid (show ∀ x, Calls Try.prog 32 #[.int .i64 h, .int .i64 1, .int .i64 64] x fun e w' => e = .returned (.bool false) ∧ x = w' from fun x => by
      have hh := betw_any h 1 64 x
      rw [show (decide (1 ≤ h) && decide (h ≤ 64)) = false by rw [← Bool.decide_and]; exact decide_eq_false h2] at hh; exact hh.mono fun _ _ h => ⟨h.1, h.2.symm⟩)
    clear hn h1 h2
    go_enter Try.func18, Try.ntmps18
    go_wp2_with (go_at_call 32; first | ((with_reducible refine (G1.out _).mono ?_); rintro e w' ⟨rfl, rfl⟩) | ((with_reducible refine (G2.out _).mono ?_); rintro e w' ⟨rfl, rfl⟩))
    refine bodyPost_ret (v := .tuple #[mat0, .int .i64 1]) (by simp [results, Try.results18, go_sem, mat0, mat]) rfl ⟨rfl, ?_⟩
    repeat (first | apply Kept.alloc | apply Kept.drew)
    exact Kept.refl _ _
  · have G1 := Lib.hid (show ∀ x, Calls Try.prog 32 #[.int .i64 w, .int .i64 1, .int .i64 128] x fun e w' => e = .returned (.bool false) ∧ x = w' from fun x => by
      have hh := betw_any w 1 128 x
      rw [show (decide (1 ≤ w) && decide (w ≤ 128)) = false by rw [← Bool.decide_and]; exact decide_eq_false h1] at hh; exact hh.mono fun _ _ h => ⟨h.1, h.2.symm⟩)
    clear hn h1
    go_enter Try.func18, Try.ntmps18
    go_wp2_with (go_at_call 32; (with_reducible refine (G1.out _).mono ?_); rintro e w' ⟨rfl, rfl⟩)
    refine bodyPost_ret (v := .tuple #[mat0, .int .i64 1]) (by simp [results, Try.results18, go_sem, mat0, mat]) rfl ⟨rfl, ?_⟩
    repeat (first | apply Kept.alloc | apply Kept.drew)
    exact Kept.refl _ _
end Go.Proofs.Ytdjgmhbfohbenaa
