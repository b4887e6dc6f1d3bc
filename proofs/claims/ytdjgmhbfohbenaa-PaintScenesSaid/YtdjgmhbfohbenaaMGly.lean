/- Several texts in one: GlyD, RGlyD, GlyP, ScD. -/
import Derived.Test.YtdjgmhbfohbenaaBox49
import Derived.Test.YtdjgmhbfohbenaaMMat
import Derived.Test.YtdjgmhbfohbenaaKindD
import Derived.Test.YtdjgmhbfohbenaaMFil
namespace Go.Proofs.Ytdjgmhbfohbenaa
open Go.RowKit Go.Sort Pl
set_option linter.unusedVariables false
set_option linter.unusedSimpArgs false
attribute [local go_sem] A2.growOp A2.growUpon A2.sameUpon
/-- One part laid on a matrix, W wide, H high. -/
def layL (W H : Nat) (x y bw bh : Int) (c : Rgb) (P : List Int) : List Int := fillP W H x y bw bh c.r c.g c.b 255 (4 * (W * H)) P
def glyP (W H : Nat) (r : Int) (a : Look) : List Int := boxS (layL W H) r W H a (layL W H 0 0 W H (colors a).2 (List.replicate (4 * (W * H)) 0))
/-- A matrix whose bytes lie in block g; its three numbers in block m. -/
def MatI (W H n m g : Nat) (P : List Int) (w : World) : Prop :=
  Own .u8 5 w (.slice (some ⟨g, 0, none⟩) n n) P ∧ w.heap[m]? = some (.cells #[.int .i64 W, .int .i64 H, .slice (some ⟨g, 0, none⟩) n n] 31 (0, 0))
theorem MatI.kept {W H n m g : Nat} {P : List Int} {w w' : World} (h : MatI W H n m g P w) (hk : Kept (fun _ => False) w w') : MatI W H n m g P w' := ⟨h.1.kept hk (fun _ _ => id), hk.blk h.2 id⟩
set_option maxRecDepth 100000 in
set_option maxHeartbeats 8000000 in
theorem lays49 (W H n m g : Nat) (hm : m ≠ g) (hW : W ≤ 16384) (hH : H ≤ 16384) (hN : n = 4 * (W * H)) (hn2 : n ≤ 67108864) :
    Lays 49 #[.pointer (some ⟨m, 0, none⟩)] (fun i => i = g) (MatI W H n m g) (layL W H) := by
  intro x y bw bh c P w hx hy hbw hbh hI
  obtain ⟨r, gg, b⟩ := c
  unfold Sml at hx hy hbw hbh
  obtain ⟨V, hV⟩ : ∃ V, w.alloc (.cells #[.int .u8 r, .int .u8 gg, .int .u8 b, .int .u8 255] 66) = V := ⟨_, rfl⟩
  have kV : Kept (fun _ => False) w V := by rw [← hV]; exact (Kept.refl _ _).alloc _
  have b0 : V.heap[w.heap.size]? = some (.cells #[.int .u8 r, .int .u8 gg, .int .u8 b, .int .u8 255] 66 (0, 0)) := by rw [← hV]; exact blk_new _ _
  have hIV := hI.kept kV
  obtain ⟨⟨a0, -⟩, ⟨a1, -⟩, ⟨a2, -⟩, a3, -⟩ := blk4 b0
  obtain ⟨⟨d0, -⟩, ⟨d1, -⟩, d2, -⟩ := blk3 hIV.2
  have HF := Lib.hid (filD_any W H x y bw bh P (some ⟨g, 0, none⟩) n n r gg b 255 V (by unfold Mid; omega) (by unfold Mid; omega) (by unfold Mid; omega) (by unfold Mid; omega) hW hH hN hn2 hIV.1)
  have HK := Lib.hid (And.intro kV (And.intro hIV hm))
  have HNN := Lib.hid hN
  clear b0 kV hI hIV hx hy hbw hbh hN
  show Calls Try.prog 49 #[.int .i64 x, .int .i64 y, .int .i64 bw, .int .i64 bh, .agg #[.int .u8 r, .int .u8 gg, .int .u8 b, .int .u8 255], .pointer (some ⟨m, 0, none⟩)] w _
  go_enter Try.func49, Try.ntmps49
  go_wp2_with fail
  refine HF.out.mono ?_
  rintro e w2 ⟨rfl, ho, hk⟩
  have hk2 : Kept (fun i => i = g) V w2 := hk.mono fun i _ hi => by cases hi; rfl
  have HR := Lib.hid (And.intro ho (And.intro hk2 (hk2.blk HK.out.2.1.2 HK.out.2.2)))
  clear ho hk hk2 a0 a1 a2 a3 d0 d1 d2
  go_wp2
  go_end0
  refine ⟨rfl, ⟨?_, HR.out.2.2⟩, (HK.out.1.mono fun _ _ h => h.elim).then HR.out.2.1⟩
  unfold layL
  rw [← HNN.out]
  exact HR.out.1
set_option maxRecDepth 100000 in
set_option maxHeartbeats 8000000 in
theorem glyph_yes (r : Int) (W H : Nat) (a : Look) (wd : World) (hr : -2147483648 ≤ r ∧ r ≤ 2147483647) (hw : 1 ≤ W ∧ W ≤ 128) (hh : 1 ≤ H ∧ H ≤ 64) :
    Calls Try.prog 18 #[.int .i32 r, .int .i64 W, .int .i64 H, lookV a] wd fun e w' => ∃ g : Nat, e = .returned (.tuple #[mat W H (some ⟨g, 0, none⟩) (4 * (W * H)) (4 * (W * H)), .int .i64 0]) ∧ wd.heap.size ≤ g ∧ Own .u8 5 w' (.slice (some ⟨g, 0, none⟩) (4 * (W * H)) (4 * (W * H))) (glyP W H r a) ∧ Kept (fun _ => False) wd w' := by
  have hWH : W * H ≤ 128 * 64 := Nat.mul_le_mul hw.2 hh.2
  have hsz : sizeB W H = true := by
    unfold sizeB
    refine decide_eq_true (.inr ⟨by omega, by omega, by omega, by omega, ?_⟩)
    rw [show (W : Int) * (H : Int) = ((W * H : Nat) : Int) by simp]; omega
  have g1 : ∀ w, Calls Try.prog 32 #[.int .i64 W, .int .i64 1, .int .i64 128] w fun e w' => e = .returned (.bool true) ∧ w = w' := fun w => by
    have h := betw_any W 1 128 w
    rw [decide_eq_true (show (1 : Int) ≤ (W : Int) by omega), decide_eq_true (show (W : Int) ≤ 128 by omega)] at h; exact h.mono fun _ _ h => ⟨h.1, h.2.symm⟩
  have g2 : ∀ w, Calls Try.prog 32 #[.int .i64 H, .int .i64 1, .int .i64 64] w fun e w' => e = .returned (.bool true) ∧ w = w' := fun w => by
    have h := betw_any H 1 64 w
    rw [decide_eq_true (show (1 : Int) ≤ (H : Int) by omega), decide_eq_true (show (H : Int) ≤ 64 by omega)] at h; exact h.mono fun _ _ h => ⟨h.1, h.2.symm⟩
  have G1 := Lib.hid g1
  have G2 := Lib.hid g2
  obtain ⟨fg, bg, fl⟩ := a
  obtain ⟨F, hF⟩ : ∃ F, (colors ⟨fg, bg, fl⟩).1 = F := ⟨_, rfl⟩
  obtain ⟨B, hB⟩ : ∃ B, (colors ⟨fg, bg, fl⟩).2 = B := ⟨_, rfl⟩
  have HC := Lib.hid (show ∀ w, Calls Try.prog 45 #[.agg #[.int .i64 fg, .int .i64 bg, .int .i64 fl]] w fun e w' => e = .returned (.tuple #[.agg #[.int .u8 F.r, .int .u8 F.g, .int .u8 F.b], .agg #[.int .u8 B.r, .int .u8 B.g, .int .u8 B.b]]) ∧ Kept (fun _ => False) w w' from fun w => by have h := cols_any ⟨fg, bg, fl⟩ w; unfold ColsPost at h; rw [hF, hB] at h; exact h)
  have HGLY := Lib.hid (show glyP W H r ⟨fg, bg, fl⟩ = boxS (layL W H) r W H ⟨fg, bg, fl⟩ (layL W H 0 0 W H B (List.replicate (4 * (W * H)) 0)) from by unfold glyP; rw [hB])
  have HSB := Lib.hid (show ∀ w, Calls Try.prog 47 #[.agg #[.int .u8 B.r, .int .u8 B.g, .int .u8 B.b]] w fun e w' => e = .returned (.agg #[.int .u8 B.r, .int .u8 B.g, .int .u8 B.b, .int .u8 255]) ∧ Kept (fun _ => False) w w' from fun w => solid_any B w)
  obtain ⟨n, hn⟩ : ∃ n, 4 * (W * H) = n := ⟨_, rfl⟩
  have HN := Lib.hid (And.intro hn (And.intro (And.intro hw hh) (And.intro hWH hr)))
  have HNEW := Lib.hid (fun w => show Calls Try.prog 33 #[.int .i64 W, .int .i64 H] w fun e w' => ∃ g, e = .returned (.tuple #[.agg #[.int .i64 W, .int .i64 H, .slice (some ⟨g, 0, none⟩) n n], .int .i64 0]) ∧ w.heap.size ≤ g ∧ Own .u8 5 w' (.slice (some ⟨g, 0, none⟩) n n) (List.replicate n 0) ∧ Kept (fun _ => False) w w' from (new_yes W H w hsz).mono fun e w' ⟨g, k, hk, he, h1, h2, h3⟩ => by
    obtain rfl : k = n := by
      rw [Int.mul_assoc, show (W : Int) * (H : Int) = ((W * H : Nat) : Int) by simp] at hk
      omega
    exact ⟨g, he, h1, h2, h3⟩)
  rw [hn] at HGLY
  rw [hn]
  clear hF hB hsz g1 g2 hw hh hWH hn hr
  obtain ⟨W0, hW0⟩ : ∃ W0, (wd.alloc (.cells #[.int .i64 fg, .int .i64 bg, .int .i64 fl] 54)).alloc (.cells #[.int .i64 0, .int .i64 0, .slice none 0 0] 31) = W0 := ⟨_, rfl⟩
  have k0 : Kept (fun _ => False) wd W0 := by rw [← hW0]; exact ((Kept.refl _ _).alloc _).alloc _
  have c0 : W0.heap[wd.heap.size]? = some (.cells #[.int .i64 fg, .int .i64 bg, .int .i64 fl] 54 (0, 0)) := by rw [← hW0]; exact blk_alloc (blk_new _ _) _
  have c1 : W0.heap[wd.heap.size + 1]? = some (.cells #[.int .i64 0, .int .i64 0, .slice none 0 0] 31 (0, 0)) := by rw [← hW0]; exact blk_at _ _ (by simp)
  have H0 := Lib.hid (And.intro k0 (And.intro c0 c1))
  clear k0 c0 c1
  unfold lookV
  go_enter Try.func18, Try.ntmps18
  go_wp2_with (go_at_call 32; first | ((with_reducible refine (G1.out _).mono ?_); rintro e w' ⟨rfl, rfl⟩) | ((with_reducible refine (G2.out _).mono ?_); rintro e w' ⟨rfl, rfl⟩))
  refine (HNEW.out _).mono ?_
  rintro e w1 ⟨g, rfl, hg, ho, hk1⟩
  obtain ⟨V, hV⟩ : ∃ V, w1.alloc (.cells #[.int .i64 W, .int .i64 H, .slice (some ⟨g, 0, none⟩) n n] 31) = V := ⟨_, rfl⟩
  have kV : Kept (fun _ => False) w1 V := by rw [← hV]; exact (Kept.refl _ _).alloc _
  have hm : V.heap[w1.heap.size]? = some (.cells #[.int .i64 W, .int .i64 H, .slice (some ⟨g, 0, none⟩) n n] 31 (0, 0)) := by rw [← hV]; exact blk_new _ _
  obtain ⟨⟨c0, -⟩, ⟨c1, -⟩, c2, -⟩ := blk3 ((hk1.then kV).blk H0.out.2.1 id)
  have hgw := ho.lt g rfl
  have H1 := Lib.hid (And.intro (hk1.then kV) (And.intro (show MatI W H n w1.heap.size g (List.replicate n 0) V from ⟨ho.kept kV (fun _ _ => id), hm⟩) (And.intro hg hgw)))
  clear hg ho hk1 kV hm hgw
  go_wp2_with fail
  refine (HC.out _).mono ?_
  rintro e w2 ⟨rfl, hk2⟩
  obtain ⟨Y, hY⟩ : ∃ Y, (w2.alloc (.cells #[.int .u8 F.r, .int .u8 F.g, .int .u8 F.b] 96)).alloc (.cells #[.int .u8 B.r, .int .u8 B.g, .int .u8 B.b] 96) = Y := ⟨_, rfl⟩
  have kY : Kept (fun _ => False) w2 Y := by rw [← hY]; exact ((Kept.refl _ _).alloc _).alloc _
  have y1 : Y.heap[w2.heap.size + 1]? = some (.cells #[.int .u8 B.r, .int .u8 B.g, .int .u8 B.b] 96 (0, 0)) := by rw [← hY]; exact blk_at _ _ (by simp)
  obtain ⟨WR, hWR⟩ : ∃ WR, WR = Y.drew := ⟨_, rfl⟩
  have kR : Kept (fun _ => False) Y WR := by rw [hWR]; exact (Kept.refl _ _).drew
  have kA := (hk2.then kY).then kR
  have HMI := Lib.hid (H1.out.2.1.kept kA)
  obtain ⟨⟨d0, -⟩, ⟨d1, -⟩, d2, -⟩ := blk3 HMI.out.2
  obtain ⟨⟨e0, -⟩, ⟨e1, -⟩, e2, -⟩ := blk3 (kR.blk y1 id)
  have X0 := cell_regrown d0
  have X1 := cell_regrown d1
  have X2 := cell_regrown d2
  have Y0 := cell_regrown e0
  have Y1 := cell_regrown e1
  have Y2 := cell_regrown e2
  obtain ⟨RB, hRB⟩ : ∃ R : Value → World → Prop, R = fun v _ => v = .agg #[.int .u8 B.r, .int .u8 B.g, .int .u8 B.b, .int .u8 255] := ⟨_, rfl⟩
  have HRB := Lib.hid hRB
  have HWR := Lib.hid hWR
  have HKA := Lib.hid ((H0.out.1.then H1.out.1).then kA)
  have HBA := Lib.hid (And.intro ((H1.out.1.then kA).blk H0.out.2.1 id) ((H1.out.1.then kA).blk H0.out.2.2 id))
  clear hk2 kY y1 kR kA d0 d1 d2 e0 e1 e2 hRB hWR c0 c1 c2
  go_wp2
  refine A2.wp_region_grow (fun _ => false) #[0, 0, 0, 0, 8, 31] 5 [] (fun i => if i = 4 then some RB else none) (by kernel_rfl) rfl (by kernel_rfl) (fun i hi => by cases hi) (fun _ _ _ _ _ h => h) ?_
  rintro _ rfl
  rw [← HWR.out]
  simp only [List.take_succ_cons, List.take_zero, List.drop_succ_cons, List.drop_zero, A2.number, Nat.reduceAdd]
  repeat (refine A2.wpGrow_step (fun K hK => ?_); go_simp; refine hK _ _ ?_; clear hK K)
  refine A2.wpGrow_step (fun K hK => ?_)
  go_simp
  refine ⟨fun w' hg => (HSB.out w').mono (fun e9 w'' ⟨he, hk⟩ => ⟨_, he, hk, by rw [HRB.out]⟩), fun v4 w4 hv4 hg4 _ => ?_⟩
  rw [HRB.out] at hv4
  subst hv4
  refine hK _ _ ?_; clear hK K
  refine A2.wpGrow_nil ?_
  intro w5 hk5 hω
  have hI5 := HMI.out.kept hk5
  have hbW := HN.out.2.2.1
  have HF := Lib.hid (filD_any W H 0 0 W H (List.replicate n 0) (some ⟨g, 0, none⟩) n n B.r B.g B.b 255 w5 (by unfold Mid; omega) (by unfold Mid; omega) (by unfold Mid; have := HN.out.2.1; omega) (by unfold Mid; have := HN.out.2.1; omega) (by have := HN.out.2.1; omega) (by have := HN.out.2.1; omega) HN.out.1.symm (by have := HN.out.1; omega) hI5.1)
  have H5 := Lib.hid (And.intro hk5 hI5)
  clear hω hg4 hI5 hk5 X0 X1 X2 Y0 Y1 Y2 hbW
  go_wp2_with fail
  refine HF.out.mono ?_
  rintro e w6 ⟨rfl, ho6, hk6⟩
  have hk6' : Kept (fun i => i = g) w5 w6 := hk6.mono fun i _ hi => by cases hi; rfl
  have hgm : w1.heap.size ≠ g := by have := H1.out.2.2.2; omega
  have hI6 : MatI W H n w1.heap.size g (layL W H 0 0 W H B (List.replicate n 0)) w6 := ⟨by unfold layL; rw [HN.out.1]; exact ho6, hk6'.blk H5.out.2.2 hgm⟩
  have hzg : W0.heap.size ≤ g := H1.out.2.2.1
  have hz0 : wd.heap.size + 1 < W0.heap.size := lt_of_blk H0.out.2.2
  have ba6 := hk6'.blk (H5.out.1.blk HBA.out.1 id) (fun (h : wd.heap.size = g) => by omega)
  have bb6 := hk6'.blk (H5.out.1.blk HBA.out.2 id) (fun (h : wd.heap.size + 1 = g) => by omega)
  have k6 : Kept (fun _ => False) wd w6 := (HKA.out.then H5.out.1).trans (hk6'.mono fun i _ hi => Or.inr (by have h9 : i = g := hi; omega))
  have hb := HN.out.2.1
  have HBX := Lib.hid (box49_any (.pointer (some ⟨w1.heap.size, 0, none⟩)) (fun i => i = g) (MatI W H n w1.heap.size g) (layL W H) r W H ⟨fg, bg, fl⟩ _ w6 hI6 (fun P w w' h hk => h.kept hk) (fun i hi => by have h9 : i = g := hi; rw [h9]; exact hI6.1.lt g rfl) (lays49 W H n w1.heap.size g hgm (by omega) (by omega) HN.out.1.symm (by have := HN.out.1; have := HN.out.2.2.1; omega)) HN.out.2.2.2 (by omega) (by omega))
  rw [← HGLY.out] at HBX
  obtain ⟨⟨a0, -⟩, ⟨a1, -⟩, a2, -⟩ := blk3 ba6
  have H6 := Lib.hid (And.intro k6 (And.intro ba6 (And.intro bb6 (And.intro hzg hz0))))
  clear ho6 hk6 hk6' hI6 hgm hzg hz0 ba6 bb6 k6 hb
  go_wp2_with fail
  refine HBX.out.mono ?_
  rintro e w7 ⟨rfl, hI7, hk7⟩
  have bb7 := hk7.blk H6.out.2.2.1 (fun (h : wd.heap.size + 1 = g) => by have := H6.out.2.2.2; omega)
  obtain ⟨⟨d0, -⟩, ⟨d1, -⟩, d2, -⟩ := blk3 hI7.2
  obtain ⟨U1, U2, U3, f1, f2, f3, ⟨x0, y0⟩, ⟨x1, y1⟩, ⟨x2, y2⟩, bU, kU⟩ := store3 bb7 (.int .i64 W) (.int .i64 H) (.slice (some ⟨g, 0, none⟩) n n)
  obtain ⟨⟨m0, -⟩, ⟨m1, -⟩, m2, -⟩ := blk3 bU
  have hO := hI7.1.kept kU (fun b hb hS => by have h9 : b = wd.heap.size + 1 := hS; have h8 : g = b := (by cases hb; rfl); have := H6.out.2.2.2; omega)
  have hK : Kept (fun _ => False) wd U3 := (H6.out.1.trans (hk7.mono fun i _ hi => Or.inr (by have h9 : i = g := hi; have := H6.out.2.2.2; omega))).trans (kU.mono fun i _ hi => Or.inr (by have h9 : i = wd.heap.size + 1 := hi; omega))
  have HE := Lib.hid (And.intro hO hK)
  clear hI7 hk7 bb7 bU kU hO hK a0 a1 a2
  go_wp2
  exact bodyPost_ret (v := .tuple #[.agg #[.int .i64 W, .int .i64 H, .slice (some ⟨g, 0, none⟩) n n], .int .i64 0]) (by simp [results, Try.results18, go_sem, m0, m1, m2]) rfl ⟨g, rfl, by have := H6.out.2.2.2; omega, HE.out.1, HE.out.2⟩
set_option maxRecDepth 100000 in
set_option maxHeartbeats 8000000 in
theorem glyph_no (r w h : Int) (a : Look) (wd : World) (hn : ¬ ((1 ≤ w ∧ w ≤ 128) ∧ (1 ≤ h ∧ h ≤ 64))) :
    Calls Try.prog 18 #[.int .i32 r, .int .i64 w, .int .i64 h, lookV a] wd fun e w' => e = .returned (.tuple #[mat0, .int .i64 1]) ∧ Kept (fun _ => False) wd w' := by
  obtain ⟨fg, bg, fl⟩ := a
  unfold lookV
  by_cases h1 : 1 ≤ w ∧ w ≤ 128
  · have h2 : ¬ (1 ≤ h ∧ h ≤ 64) := fun h2 => hn ⟨h1, h2⟩
    have G1 := Lib.hid (show ∀ x, Calls Try.prog 32 #[.int .i64 w, .int .i64 1, .int .i64 128] x fun e w' => e = .returned (.bool true) ∧ x = w' from fun x => by
      have h := betw_any w 1 128 x
      rw [decide_eq_true h1.1, decide_eq_true h1.2] at h; exact h.mono fun _ _ h => ⟨h.1, h.2.symm⟩)
    have G2 := Lib.hid (show ∀ x, Calls Try.prog 32 #[.int .i64 h, .int .i64 1, .int .i64 64] x fun e w' => e = .returned (.bool false) ∧ x = w' from fun x => by
      have hh := betw_any h 1 64 x
      rw [show (decide (1 ≤ h) && decide (h ≤ 64)) = false by rw [← Bool.decide_and]; exact decide_eq_false h2] at hh; exact hh.mono fun _ _ h => ⟨h.1, h.2.symm⟩)
    clear hn h1 h2
    go_enter Try.func18, Try.ntmps18
    go_wp2_with (go_at_call 32; first | ((with_reducible refine (G1.out _).mono ?_); rintro e w' ⟨rfl, rfl⟩) | ((with_reducible refine (G2.out _).mono ?_); rintro e w' ⟨rfl, rfl⟩))
    refine bodyPost_ret (v := .tuple #[mat0, .int .i64 1]) (by simp [results, Try.results18, go_sem, mat0, mat]) rfl ⟨rfl, ?_⟩
    repeat (first | apply Kept.alloc | apply Kept.drew)
    exact Kept.refl _ _
  · have G1 := Lib.hid (show ∀ x, Calls Try.prog 32 #[.int .i64 w, .int .i64 1, .int .i64 128] x fun e w' => e = .returned (.bool false) ∧ x = w' from fun x => by
      have hh := betw_any w 1 128 x
      rw [show (decide (1 ≤ w) && decide (w ≤ 128)) = false by rw [← Bool.decide_and]; exact decide_eq_false h1] at hh; exact hh.mono fun _ _ h => ⟨h.1, h.2.symm⟩)
    clear hn h1
    go_enter Try.func18, Try.ntmps18
    go_wp2_with (go_at_call 32; (with_reducible refine (G1.out _).mono ?_); rintro e w' ⟨rfl, rfl⟩)
    refine bodyPost_ret (v := .tuple #[mat0, .int .i64 1]) (by simp [results, Try.results18, go_sem, mat0, mat]) rfl ⟨rfl, ?_⟩
    repeat (first | apply Kept.alloc | apply Kept.drew)
    exact Kept.refl _ _
end Go.Proofs.Ytdjgmhbfohbenaa
namespace Go.Proofs.Ytdjgmhbfohbenaa
open Go.RowKit Go.Sort Pl
set_option linter.unusedVariables false
set_option linter.unusedSimpArgs false
/-- Byte k of a pixel of a glyph, by its kind. -/
noncomputable def glyK (W H : Nat) (r : Int) (a : Look) (Q k : Nat) : Int :=
  let c := if kindI r W H a.fl ((Q % W : Nat) : Int) ((Q / W : Nat) : Int) = 1 then (colors a).1 else (colors a).2
  [c.r, c.g, c.b, 255].getD k 0
noncomputable def rglyP (W H : Nat) (r : Int) (a : Look) : List Int := tab (4 * (W * H)) (paintF ⟨W, 0, 0, 0, 0, W, 0, H⟩ (List.replicate (4 * (W * H)) 0) (glyK W H r a))
/-- What holds of memory while the document's glyph is made. -/
def RgI (w : World) (W H n g m P Q : Nat) (fg bg fl : Int) (F B : Rgb) (L : List Int) (wr : World) : Prop :=
  Own .u8 5 wr (.slice (some ⟨g, 0, none⟩) n n) L ∧ Kept (fun _ => False) w wr ∧ wr.heap[w.heap.size]? = some (.cells #[.int .i64 fg, .int .i64 bg, .int .i64 fl] 54 (0, 0)) ∧ wr.heap[w.heap.size + 1]? = some (.cells #[.int .i64 0, .int .i64 0, .slice none 0 0] 35 (0, 0)) ∧
  wr.heap[P]? = some (.cells #[.int .u8 F.r, .int .u8 F.g, .int .u8 F.b] 96 (0, 0)) ∧ wr.heap[P + 1]? = some (.cells #[.int .u8 B.r, .int .u8 B.g, .int .u8 B.b] 96 (0, 0)) ∧ wr.heap[m]? = some (.cells #[.int .i64 W, .int .i64 H, .slice (some ⟨g, 0, none⟩) n n] 35 (0, 0))
theorem RgI.kept {w : World} {W H n g m P Q : Nat} {fg bg fl : Int} {F B : Rgb} {L : List Int} {wr w2 : World} (h : RgI w W H n g m P Q fg bg fl F B L wr) (hk : Kept (fun _ => False) wr w2) : RgI w W H n g m P Q fg bg fl F B L w2 :=
  ⟨h.1.kept hk (fun _ _ => id), h.2.1.then hk, hk.blk h.2.2.1 id, hk.blk h.2.2.2.1 id, hk.blk h.2.2.2.2.1 id, hk.blk h.2.2.2.2.2.1 id, hk.blk h.2.2.2.2.2.2 id⟩
/-- A block beyond all of these is written. -/
theorem RgI.fresh {w : World} {W H n g m P Q : Nat} {fg bg fl : Int} {F B : Rgb} {L : List Int} {wr w2 : World} {q : Nat} (h : RgI w W H n g m P Q fg bg fl F B L wr) (hk : Kept (fun i => i = q) wr w2) (hg : g ≠ q) (hz : w.heap.size + 1 < q) (hP : P + 1 < q) (hm : m ≠ q) : RgI w W H n g m P Q fg bg fl F B L w2 :=
  ⟨h.1.kept hk (fun b hb hS => by have h9 : b = q := hS; cases hb; exact hg h9), h.2.1.trans (hk.mono fun i _ hi => Or.inr (by have h9 : i = q := hi; omega)), hk.blk h.2.2.1 (fun (h : w.heap.size = q) => by omega), hk.blk h.2.2.2.1 (fun (h : w.heap.size + 1 = q) => by omega), hk.blk h.2.2.2.2.1 (fun (h : P = q) => by omega), hk.blk h.2.2.2.2.2.1 (fun (h : P + 1 = q) => by omega), hk.blk h.2.2.2.2.2.2 (fun (h : m = q) => hm h)⟩
theorem RgI.put {w : World} {W H n g m P Q : Nat} {fg bg fl : Int} {F B : Rgb} {L L' : List Int} {wr w2 : World} (h : RgI w W H n g m P Q fg bg fl F B L wr) (ho : Own .u8 5 w2 (.slice (some ⟨g, 0, none⟩) n n) L') (hk : Kept (fun i => i = g) wr w2) (hgw : w.heap.size + 1 < g) (hP : P ≠ g ∧ P + 1 ≠ g) (hm : m ≠ g) : RgI w W H n g m P Q fg bg fl F B L' w2 :=
  ⟨ho, h.2.1.trans (hk.mono fun i _ hi => Or.inr (by have h9 : i = g := hi; omega)), hk.blk h.2.2.1 (fun (h : w.heap.size = g) => by omega), hk.blk h.2.2.2.1 (fun (h : w.heap.size + 1 = g) => by omega), hk.blk h.2.2.2.2.1 (fun (h : P = g) => hP.1 h), hk.blk h.2.2.2.2.2.1 (fun (h : P + 1 = g) => hP.2 h), hk.blk h.2.2.2.2.2.2 (fun (h : m = g) => hm h)⟩
set_option maxRecDepth 100000 in
set_option maxHeartbeats 8000000 in
theorem rglyph_yes (r : Int) (W H : Nat) (a : Look) (wd : World) (hr : -2147483648 ≤ r ∧ r ≤ 2147483647) (hw : 1 ≤ W ∧ W ≤ 128) (hh : 1 ≤ H ∧ H ≤ 64) :
    Calls Try.prog 19 #[.int .i64 r, .int .i64 W, .int .i64 H, lookV a] wd fun e w' => ∃ g : Nat, e = .returned (.tuple #[mat W H (some ⟨g, 0, none⟩) (4 * (W * H)) (4 * (W * H)), .int .i64 0]) ∧ wd.heap.size ≤ g ∧ Own .u8 5 w' (.slice (some ⟨g, 0, none⟩) (4 * (W * H)) (4 * (W * H))) (rglyP W H r a) ∧ Kept (fun _ => False) wd w' := by
  have hWH : W * H ≤ 128 * 64 := Nat.mul_le_mul hw.2 hh.2
  have hsz : sizeB W H = true := by
    unfold sizeB
    refine decide_eq_true (.inr ⟨by omega, by omega, by omega, by omega, ?_⟩)
    rw [show (W : Int) * (H : Int) = ((W * H : Nat) : Int) by simp]; omega
  obtain ⟨fg, bg, fl⟩ := a
  obtain ⟨F, hF⟩ : ∃ F, (colors ⟨fg, bg, fl⟩).1 = F := ⟨_, rfl⟩
  obtain ⟨B, hB⟩ : ∃ B, (colors ⟨fg, bg, fl⟩).2 = B := ⟨_, rfl⟩
  have HC := Lib.hid (show ∀ w, Calls Try.prog 36 #[.agg #[.int .i64 fg, .int .i64 bg, .int .i64 fl]] w fun e w' => e = .returned (.tuple #[.agg #[.int .u8 F.r, .int .u8 F.g, .int .u8 F.b], .agg #[.int .u8 B.r, .int .u8 B.g, .int .u8 B.b]]) ∧ Kept (fun _ => False) w w' from fun w => by have h := rcols_any ⟨fg, bg, fl⟩ w; unfold ColsPost at h; rw [hF, hB] at h; exact h)
  have HFF := Lib.hid (show ∀ w, Calls Try.prog 39 #[.agg #[.int .u8 F.r, .int .u8 F.g, .int .u8 F.b]] w fun e w' => e = .returned (.agg #[.int .u8 F.r, .int .u8 F.g, .int .u8 F.b, .int .u8 255]) ∧ Kept (fun _ => False) w w' from fun w => full_any F w)
  have HFB := Lib.hid (show ∀ w, Calls Try.prog 39 #[.agg #[.int .u8 B.r, .int .u8 B.g, .int .u8 B.b]] w fun e w' => e = .returned (.agg #[.int .u8 B.r, .int .u8 B.g, .int .u8 B.b, .int .u8 255]) ∧ Kept (fun _ => False) w w' from fun w => full_any B w)
  obtain ⟨n, hn⟩ : ∃ n, 4 * (W * H) = n := ⟨_, rfl⟩
  obtain ⟨t, ht⟩ : ∃ t : Spot, (⟨W, 0, 0, 0, 0, W, 0, H⟩ : Spot) = t := ⟨_, rfl⟩
  obtain ⟨K, hK⟩ : ∃ K, glyK W H r ⟨fg, bg, fl⟩ = K := ⟨_, rfl⟩
  obtain ⟨z, hz⟩ : ∃ z, List.replicate n (0 : Int) = z := ⟨_, rfl⟩
  have hzl : z.length = n := by rw [← hz]; simp
  have HGLY := Lib.hid (show rglyP W H r ⟨fg, bg, fl⟩ = tab n (paintF t z K) from by unfold rglyP; rw [hn, ht, hK, hz])
  have HSTART := Lib.hid (show tab n (paintD t z K 0 0) = z from by have h := paintD_start t z K n hzl; rw [← ht] at h ⊢; exact h)
  have HEND := Lib.hid (show tab n (paintD t z K H 0) = tab n (paintF t z K) from paintD_end t z K n 0 H (by rw [← ht]; exact Nat.le_refl _))
  have HROWS := Lib.hid (fun (Y : Nat) => show tab n (paintD t z K Y W) = tab n (paintD t z K (Y + 1) 0) from by have h := paintD_row t z K n W Y (by rw [← ht]; exact Nat.le_refl _); rw [← ht] at h ⊢; exact h)
  have HSTEP := Lib.hid (fun (X Y : Nat) (c0 c1 c2 : Int) (hXW : X < W) (hY : Y < H) (hc : ∀ k, k < 4 → [c0, c1, c2, 255].getD k 0 = K (Y * W + X) k) (hn : 4 * (Y * W + X) + 4 ≤ n) => show spl (tab n (paintD t z K Y X)) (4 * (Y * W + X)) [c0, c1, c2, 255] = tab n (paintD t z K Y (X + 1)) from by
    have h := paintD_step t z K n X Y (by rw [← ht]; exact hXW) (by rw [← ht]; exact Nat.zero_le _) (by rw [← ht]; exact hXW) (by rw [← ht]; exact Nat.zero_le _) (by rw [← ht]; exact hY) (by rw [← ht]; exact hn) [c0, c1, c2, 255] rfl (by rw [← ht]; exact hc)
    rw [← ht] at h ⊢
    exact h)
  have HKK := Lib.hid (fun (X Y : Nat) (hX : X < W) => show (∀ k, k < 4 → (if kindI r W H fl X Y = 1 then [F.r, F.g, F.b, 255] else [B.r, B.g, B.b, 255]).getD k 0 = K (Y * W + X) k) from fun k _ => by
    rw [← hK]
    unfold glyK
    obtain ⟨e1, e2⟩ := pos_of (W := W) (x := X) (y := Y) hX
    simp only [e1, e2, hF, hB]
    split <;> rfl)
  have HN := Lib.hid (And.intro hn (And.intro (And.intro hw hh) (And.intro hWH hr)))
  have HNEW := Lib.hid (fun w => show Calls Try.prog 35 #[.int .i64 W, .int .i64 H] w fun e w' => ∃ g, e = .returned (.tuple #[.agg #[.int .i64 W, .int .i64 H, .slice (some ⟨g, 0, none⟩) n n], .int .i64 0]) ∧ w.heap.size ≤ g ∧ Own .u8 5 w' (.slice (some ⟨g, 0, none⟩) n n) z ∧ Kept (fun _ => False) w w' from (rnew_yes W H w hsz).mono fun e w' ⟨g, k, hk, he, h1, h2, h3⟩ => by
    obtain rfl : k = n := by
      rw [Int.mul_assoc, show (W : Int) * (H : Int) = ((W * H : Nat) : Int) by simp] at hk
      omega
    rw [hz] at h2
    exact ⟨g, he, h1, h2, h3⟩)
  rw [hn, HGLY.out]
  have gW1 : decide (W < 1) = false := decide_eq_false (by omega)
  have gW2 : decide (128 < W) = false := decide_eq_false (by omega)
  have gH1 : decide (H < 1) = false := decide_eq_false (by omega)
  have gH2 : decide (64 < H) = false := decide_eq_false (by omega)
  have gW1' : decide ((W : Int) < 1) = false := decide_eq_false (by omega)
  have gW2' : decide (128 < (W : Int)) = false := decide_eq_false (by omega)
  have gH1' : decide ((H : Int) < 1) = false := decide_eq_false (by omega)
  have gH2' : decide (64 < (H : Int)) = false := decide_eq_false (by omega)
  clear hF hB hsz hw hh hWH hn hr ht hK hz hzl
  obtain ⟨W0, hW0⟩ : ∃ W0, (wd.alloc (.cells #[.int .i64 fg, .int .i64 bg, .int .i64 fl] 54)).alloc (.cells #[.int .i64 0, .int .i64 0, .slice none 0 0] 35) = W0 := ⟨_, rfl⟩
  have k0 : Kept (fun _ => False) wd W0 := by rw [← hW0]; exact ((Kept.refl _ _).alloc _).alloc _
  have c0 : W0.heap[wd.heap.size]? = some (.cells #[.int .i64 fg, .int .i64 bg, .int .i64 fl] 54 (0, 0)) := by rw [← hW0]; exact blk_alloc (blk_new _ _) _
  have c1 : W0.heap[wd.heap.size + 1]? = some (.cells #[.int .i64 0, .int .i64 0, .slice none 0 0] 35 (0, 0)) := by rw [← hW0]; exact blk_at _ _ (by simp)
  obtain ⟨⟨a0, -⟩, ⟨a1, -⟩, a2, -⟩ := blk3 c0
  have H0 := Lib.hid (And.intro k0 (And.intro c0 c1))
  clear k0 c0 c1
  unfold lookV
  go_enter Try.func19, Try.ntmps19
  go_wp2_with fail
  refine (HC.out _).mono ?_
  rintro e w1 ⟨rfl, hk1⟩
  obtain ⟨V, hV⟩ : ∃ V, (w1.alloc (.cells #[.int .u8 F.r, .int .u8 F.g, .int .u8 F.b] 96)).alloc (.cells #[.int .u8 B.r, .int .u8 B.g, .int .u8 B.b] 96) = V := ⟨_, rfl⟩
  have kV : Kept (fun _ => False) w1 V := by rw [← hV]; exact ((Kept.refl _ _).alloc _).alloc _
  have v0 : V.heap[w1.heap.size]? = some (.cells #[.int .u8 F.r, .int .u8 F.g, .int .u8 F.b] 96 (0, 0)) := by rw [← hV]; exact blk_alloc (blk_new _ _) _
  have v1 : V.heap[w1.heap.size + 1]? = some (.cells #[.int .u8 B.r, .int .u8 B.g, .int .u8 B.b] 96 (0, 0)) := by rw [← hV]; exact blk_at _ _ (by simp)
  have H1 := Lib.hid (And.intro (H0.out.1.then (hk1.then kV)) (And.intro ((hk1.then kV).blk H0.out.2.1 id) (And.intro ((hk1.then kV).blk H0.out.2.2 id) (And.intro v0 (And.intro v1 hk1.size)))))
  clear hk1 kV v0 v1 a0 a1 a2
  go_wp2_with fail
  refine (HNEW.out _).mono ?_
  rintro e w2 ⟨g, rfl, hg, ho, hk2⟩
  obtain ⟨Y0, hY⟩ : ∃ Y, w2.alloc (.cells #[.int .i64 W, .int .i64 H, .slice (some ⟨g, 0, none⟩) n n] 35) = Y := ⟨_, rfl⟩
  have kY : Kept (fun _ => False) w2 Y0 := by rw [← hY]; exact (Kept.refl _ _).alloc _
  have y1 : Y0.heap[w2.heap.size]? = some (.cells #[.int .i64 W, .int .i64 H, .slice (some ⟨g, 0, none⟩) n n] 35 (0, 0)) := by rw [← hY]; exact blk_new _ _
  have kk := hk2.then kY
  have HI0 := Lib.hid (show RgI wd W H n g w2.heap.size w1.heap.size 0 fg bg fl F B (tab n (paintD t z K 0 0)) Y0 from ⟨by rw [HSTART.out]; exact ho.kept kY (fun _ _ => id), H1.out.1.then kk, kk.blk H1.out.2.1 id, kk.blk H1.out.2.2.1 id, kk.blk H1.out.2.2.2.1 id, kk.blk H1.out.2.2.2.2.1 id, y1⟩)
  have hsV : w1.heap.size + 1 < V.heap.size := lt_of_blk H1.out.2.2.2.2.1
  have hs1 : wd.heap.size + 1 < w1.heap.size := by have h1 := lt_of_blk H0.out.2.2; have h2 := H1.out.2.2.2.2.2; omega
  have HS := Lib.hid (And.intro (show wd.heap.size + 1 < g ∧ w1.heap.size + 1 < g by omega) (And.intro hs1 (And.intro (show g < w2.heap.size from ho.lt g rfl) (show w1.heap.size + 1 < w2.heap.size by have := hk2.size; omega))))
  clear hg ho hk2 kY y1 kk hsV hs1
  go_wp2
  go_loopg [14, 15, 16] H (fun gg yv _ _ wr => ∃ Y : Nat, H ≤ gg + Y ∧ Y ≤ H ∧ yv = .int .i64 Y ∧ RgI wd W H n g w2.heap.size w1.heap.size 0 fg bg fl F B (tab n (paintD t z K Y 0)) wr)
  case atStart => exact ⟨0, by omega, by omega, rfl, HI0.out⟩
  case round =>
    obtain ⟨Y, hgg, hYH, rfl, hinv⟩ := hrel
    by_cases hY1 : Y < H
    · have gy : decide (Y < H) = true := decide_eq_true hY1
      have gy' : decide ((Y : Int) < (H : Int)) = true := decide_eq_true (by omega)
      have HI := Lib.hid hinv
      obtain ⟨gko, hgo⟩ : ∃ x, x = gk := ⟨_, rfl⟩
      subst hgo
      have wY : IntKind.i64.wrap ((Y : Int) + 1) = (Y : Int) + 1 := IntWalk.i64_in _ (by have := HN.out; omega)
      clear hinv
      go_wp2
      go_loopg [15, 16] W (fun gg xv _ wr => ∃ X : Nat, W ≤ gg + X ∧ X ≤ W ∧ xv = .int .i64 X ∧ RgI wd W H n g w2.heap.size w1.heap.size 0 fg bg fl F B (tab n (paintD t z K Y X)) wr)
      case atStart => exact ⟨0, by omega, by omega, rfl, HI.out⟩
      case round =>
        obtain ⟨X, hgx, hXW', rfl, hinv⟩ := hrel
        by_cases hX1 : X < W
        · have gx : decide (X < W) = true := decide_eq_true hX1
          have gx' : decide ((X : Int) < (W : Int)) = true := decide_eq_true (by omega)
          have wX : IntKind.i64.wrap ((X : Int) + 1) = (X : Int) + 1 := IntWalk.i64_in _ (by have := HN.out; omega)
          have hPn := fit_idx hX1 hY1
          have hn4 : 4 * (Y * W + X) + 4 ≤ n := by have := HN.out.1; omega
          obtain ⟨⟨b0, -⟩, ⟨b1, -⟩, b2, -⟩ := blk3 hinv.2.2.2.2.2.1
          obtain ⟨KD, hKD⟩ : ∃ k, kindI r W H fl X Y = k := ⟨_, rfl⟩
          have HKIND := Lib.hid (fun wd' => show Calls Try.prog 50 #[.int .i64 r, .int .i64 W, .int .i64 H, .agg #[.int .i64 fg, .int .i64 bg, .int .i64 fl], .int .i64 X, .int .i64 Y] wd' fun e w' => e = .returned (.int .i64 KD) ∧ Kept (fun _ => False) wd' w' from by
            have h := HN.out
            rw [← hKD]
            exact kind_any r W H fg bg fl X Y wd' h.2.2.2 (by omega) (by omega) (by omega) (by omega))
          have hkk := HKK.out X Y hX1
          rw [hKD] at hkk
          have HHK := Lib.hid hkk
          have HP := Lib.hid (And.intro hX1 (And.intro hY1 hn4))
          have HI := Lib.hid hinv
          clear hinv hPn hKD hkk hn4
          go_wp2_with fail
          refine (HFB.out _).mono ?_; rintro e w3 ⟨rfl, hk3⟩
          obtain ⟨C, hC⟩ : ∃ C, w3.alloc (.cells #[.int .u8 B.r, .int .u8 B.g, .int .u8 B.b, .int .u8 255] 65) = C := ⟨_, rfl⟩
          have kC : Kept (fun _ => False) w3 C := by rw [← hC]; exact (Kept.refl _ _).alloc _
          have bC : C.heap[w3.heap.size]? = some (.cells #[.int .u8 B.r, .int .u8 B.g, .int .u8 B.b, .int .u8 255] 65 (0, 0)) := by rw [← hC]; exact blk_new _ _
          have HIC := Lib.hid (HI.out.kept (hk3.then kC))
          have HBC := Lib.hid bC
          have hz3 : w2.heap.size < w3.heap.size := by have h := lt_of_blk HI.out.2.2.2.2.2.2; have := hk3.size; omega
          obtain ⟨⟨a0, -⟩, ⟨a1, -⟩, a2, -⟩ := blk3 HIC.out.2.2.1
          clear hk3 kC bC b0 b1 b2
          go_wp2_with fail
          refine (HKIND.out _).mono ?_; rintro e w4 ⟨rfl, hk4⟩
          have HI4 := Lib.hid (HIC.out.kept hk4)
          have HB4 := Lib.hid (hk4.blk HBC.out id)
          clear hk4 a0 a1 a2
          by_cases hk1 : KD = 1
          · have gk1 : (KD == 1) = true := by simp [hk1]
            have hkk := HHK.out
            rw [if_pos hk1] at hkk
            have HST := Lib.hid (HSTEP.out X Y F.r F.g F.b HP.out.1 HP.out.2.1 hkk HP.out.2.2)
            clear hkk hk1
            obtain ⟨⟨f0, -⟩, ⟨f1, -⟩, f2, -⟩ := blk3 HI4.out.2.2.2.2.1
            go_wp2_with fail
            refine (HFF.out _).mono ?_; rintro e w5 ⟨rfl, hk5⟩
            obtain ⟨U1, U2, U3, U4, q1, q2, q3, q4, ⟨x0, x0'⟩, ⟨x1, x1'⟩, ⟨x2, x2'⟩, ⟨x3, x3'⟩, bU, kU⟩ := store4 (hk5.blk HB4.out id) (.int .u8 F.r) (.int .u8 F.g) (.int .u8 F.b) (.int .u8 255)
            have hiU := (HI4.out.kept hk5).fresh kU (by have := HS.out; omega) (by have := HS.out; omega) (by have := HS.out; omega) (by omega)
            have HIU := Lib.hid hiU
            obtain ⟨⟨d0, -⟩, ⟨d1, -⟩, d2, -⟩ := blk3 hiU.2.2.2.2.2.2
            obtain ⟨⟨m0, -⟩, ⟨m1, -⟩, ⟨m2, -⟩, m3, -⟩ := blk4 bU
            have HPUT := Lib.hid (rput_any W H X Y (tab n (paintD t z K Y X)) [] g n n U4 HP.out.1 HP.out.2.1 (by have := HN.out.2.2.1; omega) HN.out.1.symm hiU.1 (by have := HN.out.2.1; omega) (by have := HN.out.2.1; omega) F.r F.g F.b 255)
            rw [HST.out] at HPUT
            clear hk5 bU kU hiU f0 f1 f2
            go_wp2_with fail
            refine HPUT.out.mono ?_; rintro e w6 ⟨rfl, ho6, hk6⟩
            have HI6 := Lib.hid (HIU.out.put ho6 hk6 (by have := HS.out; omega) (by have := HS.out; omega) (by have := HS.out; omega))
            clear ho6 hk6 d0 d1 d2 m0 m1 m2 m3 q1 q2 q3 q4 x0 x0' x1 x1' x2 x2' x3 x3'
            go_wp2
            go_roundg (gk - 1)
            case rel => exact ⟨X + 1, by omega, by omega, by go_num, HI6.out⟩
            case measure => omega
          · have gk1 : (KD == 1) = false := by simp [hk1]
            have hkk := HHK.out
            rw [if_neg hk1] at hkk
            have HST := Lib.hid (HSTEP.out X Y B.r B.g B.b HP.out.1 HP.out.2.1 hkk HP.out.2.2)
            clear hkk hk1
            obtain ⟨⟨d0, -⟩, ⟨d1, -⟩, d2, -⟩ := blk3 HI4.out.2.2.2.2.2.2
            obtain ⟨⟨m0, -⟩, ⟨m1, -⟩, ⟨m2, -⟩, m3, -⟩ := blk4 HB4.out
            have HPUT := Lib.hid (rput_any W H X Y (tab n (paintD t z K Y X)) [] g n n w4 HP.out.1 HP.out.2.1 (by have := HN.out.2.2.1; omega) HN.out.1.symm HI4.out.1 (by have := HN.out.2.1; omega) (by have := HN.out.2.1; omega) B.r B.g B.b 255)
            rw [HST.out] at HPUT
            go_wp2_with fail
            refine HPUT.out.mono ?_; rintro e w6 ⟨rfl, ho6, hk6⟩
            have HI6 := Lib.hid (HI4.out.put ho6 hk6 (by have := HS.out; omega) (by have := HS.out; omega) (by have := HS.out; omega))
            clear ho6 hk6 d0 d1 d2 m0 m1 m2 m3
            go_wp2
            go_roundg (gk - 1)
            case rel => exact ⟨X + 1, by omega, by omega, by go_num, HI6.out⟩
            case measure => omega
        · obtain rfl : X = W := by omega
          have gx : decide (X < X) = false := decide_eq_false (by omega)
          have hrow := HROWS.out Y
          rw [hrow] at hinv
          have HI := Lib.hid hinv
          clear hinv hrow
          go_wp2
          go_roundg (gko - 1)
          case rel => exact ⟨Y + 1, by omega, by omega, by go_num, HI.out⟩
          case measure => omega
    · obtain rfl : Y = H := by omega
      have gy : decide (Y < Y) = false := decide_eq_false (by omega)
      have hend := HEND.out
      rw [hend] at hinv
      obtain ⟨⟨d0, -⟩, ⟨d1, -⟩, d2, -⟩ := blk3 hinv.2.2.2.2.2.2
      obtain ⟨U1, U2, U3, q1, q2, q3, ⟨x0, x0'⟩, ⟨x1, x1'⟩, ⟨x2, x2'⟩, bU, kU⟩ := store3 hinv.2.2.2.1 (.int .i64 W) (.int .i64 Y) (.slice (some ⟨g, 0, none⟩) n n)
      obtain ⟨⟨m0, -⟩, ⟨m1, -⟩, m2, -⟩ := blk3 bU
      have hO := hinv.1.kept kU (fun b hb hS => by have h9 : b = wd.heap.size + 1 := hS; have h8 : g = b := (by cases hb; rfl); have := HS.out; omega)
      have hK : Kept (fun _ => False) wd U3 := hinv.2.1.trans (kU.mono fun i _ hi => Or.inr (by have h9 : i = wd.heap.size + 1 := hi; omega))
      have HE := Lib.hid (And.intro hO hK)
      clear hinv hend bU kU hO hK
      go_wp2
      exact bodyPost_ret (v := .tuple #[.agg #[.int .i64 W, .int .i64 Y, .slice (some ⟨g, 0, none⟩) n n], .int .i64 0]) (by simp [results, Try.results19, go_sem, m0, m1, m2]) rfl ⟨g, rfl, by have := HS.out; omega, HE.out.1, HE.out.2⟩
end Go.Proofs.Ytdjgmhbfohbenaa
namespace Go.Proofs.Ytdjgmhbfohbenaa
open Go.RowKit Go.Sort Pl
set_option linter.unusedVariables false
set_option linter.unusedSimpArgs false
theorem rgb_getD (c : Rgb) (k : Nat) : [c.r, c.g, c.b, 255].getD k 0 = [c.r, c.g, c.b, 255].getD k 0 := rfl
def InR (W : Nat) (x y bw bh : Int) (j : Nat) : Prop := x ≤ ((j / 4 % W : Nat) : Int) ∧ ((j / 4 % W : Nat) : Int) < x + bw ∧ y ≤ ((j / 4 / W : Nat) : Int) ∧ ((j / 4 / W : Nat) : Int) < y + bh
instance (W : Nat) (x y bw bh : Int) (j : Nat) : Decidable (InR W x y bw bh j) := inferInstanceAs (Decidable (_ ∧ _))
theorem px_lt {W H j : Nat} (hj : j < 4 * (W * H)) : j / 4 % W < W ∧ j / 4 / W < H := by
  have hW : 0 < W := Nat.pos_of_ne_zero (by rintro rfl; simp at hj)
  exact ⟨Nat.mod_lt _ hW, Nat.div_lt_of_lt_mul (by omega)⟩
theorem fillP_get {W H : Nat} {x y bw bh c0 c1 c2 c3 : Int} {n : Nat} {P : List Int} {j : Nat} (hn : n = 4 * (W * H)) (hj : j < n) : (fillP W H x y bw bh c0 c1 c2 c3 n P).getD j 0 = if InR W x y bw bh j then [c0, c1, c2, c3].getD (j % 4) 0 else P.getD j 0 := by
  subst hn
  obtain ⟨h1, h2⟩ := px_lt hj
  unfold fillP
  rw [tab_get hj]
  unfold paintF
  have hiff : Spot.inside (fspot W H x y bw bh) (j / 4) ↔ InR W x y bw bh j := by
    unfold InR Spot.inside fspot
    simp only
    obtain ⟨X, hX⟩ : ∃ X, j / 4 % W = X := ⟨_, rfl⟩
    obtain ⟨Y, hY⟩ : ∃ Y, j / 4 / W = Y := ⟨_, rfl⟩
    rw [hX] at h1
    rw [hY] at h2
    rw [hX, hY]
    omega
  by_cases h : InR W x y bw bh j
  · rw [if_pos h, if_pos (hiff.2 h)]
  · rw [if_neg h, if_neg (fun h2 => h (hiff.1 h2))]
theorem inR_whole {W H j : Nat} (hj : j < 4 * (W * H)) : InR W 0 0 W H j := by
  obtain ⟨h1, h2⟩ := px_lt hj
  refine ⟨Int.natCast_nonneg _, ?_, Int.natCast_nonneg _, ?_⟩
  · rw [Int.zero_add]; exact Int.ofNat_lt.2 h1
  · rw [Int.zero_add]; exact Int.ofNat_lt.2 h2
theorem layL_get {W H : Nat} {x y bw bh : Int} {c : Rgb} {P : List Int} {j : Nat} (hj : j < 4 * (W * H)) : (layL W H x y bw bh c P).getD j 0 = if InR W x y bw bh j then [c.r, c.g, c.b, 255].getD (j % 4) 0 else P.getD j 0 := fillP_get rfl hj
theorem layL_len (W H : Nat) (x y bw bh : Int) (c : Rgb) (P : List Int) : (layL W H x y bw bh c P).length = 4 * (W * H) := fillP_length ..
theorem boxS_len {L : Int → Int → Int → Int → Rgb → List Int → List Int} {n : Nat} (hL : ∀ x y bw bh c P, (L x y bw bh c P).length = n) (r w h : Int) (a : Look) {P : List Int} (hP : P.length = n) : (boxS L r w h a P).length = n := by
  unfold boxS
  simp only
  repeat' split
  all_goals first | exact hL .. | exact hP
/-- What a byte of a glyph's box is, over what was there. -/
theorem box_get {W : Nat} {L : Int → Int → Int → Int → Rgb → List Int → List Int} {ox oy : Int} {r : Int} {w h : Int} {a : Look} {P : List Int} {j : Nat} (hw : 1 ≤ w) (hh : 1 ≤ h)
    (hL : ∀ (x y bw bh : Int) (c : Rgb) (P : List Int), (L x y bw bh c P).getD j 0 = if InR W (ox + x) (oy + y) bw bh j then [c.r, c.g, c.b, 255].getD (j % 4) 0 else P.getD j 0)
    (hX : ox ≤ ((j / 4 % W : Nat) : Int)) (hX2 : ((j / 4 % W : Nat) : Int) < ox + w) (hY : oy ≤ ((j / 4 / W : Nat) : Int)) (hY2 : ((j / 4 / W : Nat) : Int) < oy + h) :
    (boxS L r w h a P).getD j 0 = if kindI r w h a.fl (((j / 4 % W : Nat) : Int) - ox) (((j / 4 / W : Nat) : Int) - oy) = 1 then [(colors a).1.r, (colors a).1.g, (colors a).1.b, 255].getD (j % 4) 0 else if kindI r w h a.fl (((j / 4 % W : Nat) : Int) - ox) (((j / 4 / W : Nat) : Int) - oy) = 2 then [(colors a).2.r, (colors a).2.g, (colors a).2.b, 255].getD (j % 4) 0 else P.getD j 0 := by
  obtain ⟨X, hXX⟩ : ∃ X : Int, ((j / 4 % W : Nat) : Int) = X := ⟨_, rfl⟩
  obtain ⟨Y, hYY⟩ : ∃ Y : Int, ((j / 4 / W : Nat) : Int) = Y := ⟨_, rfl⟩
  unfold InR at hL
  rw [hXX] at hX hX2
  rw [hYY] at hY hY2
  simp only [hXX, hYY] at hL ⊢
  unfold boxS
  simp only
  obtain ⟨VF, hVF⟩ : ∃ v, [(colors a).1.r, (colors a).1.g, (colors a).1.b, 255].getD (j % 4) 0 = v := ⟨_, rfl⟩
  obtain ⟨VB, hVB⟩ : ∃ v, [(colors a).2.r, (colors a).2.g, (colors a).2.b, 255].getD (j % 4) 0 = v := ⟨_, rfl⟩
  obtain ⟨m1, hm1⟩ : ∃ m, r % ((w + 1) / 2) = m := ⟨_, rfl⟩
  obtain ⟨m2, hm2⟩ : ∃ m, r / 256 % ((h + 1) / 2) = m := ⟨_, rfl⟩
  have hl : lineB a.fl h (Y - oy) ↔ (hasB a.fl 8 = true ∧ Y - oy = h - 1) ∨ (hasB a.fl 128 = true ∧ Y - oy = h / 2) := Iff.rfl
  have ho : outB r w h (X - ox) (Y - oy) ↔ (r ≤ 32 ∨ X - ox - w / 4 < 0 ∨ Y - oy - h / 4 < 0 ∨ (w + 1) / 2 ≤ X - ox - w / 4 ∨ (h + 1) / 2 ≤ Y - oy - h / 4) := Iff.rfl
  have he : eyeB r w h (X - ox) (Y - oy) ↔ (2 < (w + 1) / 2 ∧ 2 < (h + 1) / 2 ∧ X - ox - w / 4 = m1 ∧ Y - oy - h / 4 = m2) := by unfold eyeB; rw [hm1, hm2]
  rw [hm1, hm2]
  by_cases k1 : lineB a.fl h (Y - oy)
  · rw [kind_line k1, if_pos (show (1 : Int) = 1 from rfl)]
    rw [hl] at k1
    clear hl ho he
    by_cases s1 : hasB a.fl 128 = true
    · rw [if_pos s1, hL, hVF]
      by_cases s2 : Y - oy = h / 2
      · rw [if_pos (by omega)]
      · rw [if_neg (by omega)]
        have k2 : hasB a.fl 8 = true ∧ Y - oy = h - 1 := k1.resolve_right (fun h => s2 h.2)
        rw [if_pos k2.1, hL, hVF, if_pos (by omega)]
    · rw [if_neg s1]
      have k2 : hasB a.fl 8 = true ∧ Y - oy = h - 1 := k1.resolve_right (fun h => s1 h.1)
      rw [if_pos k2.1, hL, hVF, if_pos (by omega)]
  · have n1 : ∀ P', (if hasB a.fl 8 = true then L 0 (h - 1) w 1 (colors a).1 P' else P').getD j 0 = P'.getD j 0 := by
      intro P'
      by_cases s1 : hasB a.fl 8 = true
      · rw [if_pos s1, hL, if_neg]
        intro q
        exact k1 (hl.2 (.inl ⟨s1, by omega⟩))
      · rw [if_neg s1]
    have n2 : ∀ P', (if hasB a.fl 128 = true then L 0 (h / 2) w 1 (colors a).1 P' else P').getD j 0 = P'.getD j 0 := by
      intro P'
      by_cases s1 : hasB a.fl 128 = true
      · rw [if_pos s1, hL, if_neg]
        intro q
        exact k1 (hl.2 (.inr ⟨s1, by omega⟩))
      · rw [if_neg s1]
    rw [n2, n1]
    by_cases k2 : outB r w h (X - ox) (Y - oy)
    · rw [kind_out k1 k2, if_neg (show ¬ ((0 : Int) = 1) by decide), if_neg (show ¬ ((0 : Int) = 2) by decide)]
      rw [ho] at k2
      by_cases c32 : 32 < r
      · have b1 : 0 ≤ m1 ∧ m1 < (w + 1) / 2 := by rw [← hm1]; exact ⟨Int.emod_nonneg _ (by omega), Int.emod_lt_of_pos _ (by omega)⟩
        have b2 : 0 ≤ m2 ∧ m2 < (h + 1) / 2 := by rw [← hm2]; exact ⟨Int.emod_nonneg _ (by omega), Int.emod_lt_of_pos _ (by omega)⟩
        rw [if_pos c32]
        by_cases cb : 2 < (w + 1) / 2 ∧ 2 < (h + 1) / 2
        · rw [if_pos cb, hL, if_neg (by omega), hL, if_neg (by omega)]
        · rw [if_neg cb, hL, if_neg (by omega)]
      · rw [if_neg c32]
    · have c32 : 32 < r := by rw [ho] at k2; omega
      rw [if_pos c32]
      by_cases k3 : eyeB r w h (X - ox) (Y - oy)
      · rw [kind_eye k1 k2 k3, if_neg (show ¬ ((2 : Int) = 1) by decide), if_pos (show (2 : Int) = 2 from rfl)]
        rw [he] at k3
        rw [if_pos ⟨k3.1, k3.2.1⟩, hL, hVB, if_pos (by omega)]
      · rw [kind_box k1 k2 k3, if_pos (show (1 : Int) = 1 from rfl)]
        rw [he] at k3
        rw [ho] at k2
        by_cases cb : 2 < (w + 1) / 2 ∧ 2 < (h + 1) / 2
        · rw [if_pos cb, hL, if_neg (by omega), hL, hVF, if_pos (by omega)]
        · rw [if_neg cb, hL, hVF, if_pos (by omega)]
theorem gly_same (W H : Nat) (r : Int) (a : Look) (hw : 1 ≤ W) (hh : 1 ≤ H) : glyP W H r a = rglyP W H r a := by
  have hl : (glyP W H r a).length = 4 * (W * H) := by unfold glyP; exact boxS_len (fun x y bw bh c P => layL_len ..) _ _ _ _ (layL_len ..)
  refine list_ext (by rw [hl]; unfold rglyP; rw [tab_length]) (fun j hj => ?_)
  rw [hl] at hj
  obtain ⟨h1, h2⟩ := px_lt hj
  unfold glyP rglyP
  rw [box_get (W := W) (ox := 0) (oy := 0) (by omega) (by omega) (fun x y bw bh c P => by rw [layL_get hj, Int.zero_add, Int.zero_add]) (inR_whole hj).1 (inR_whole hj).2.1 (inR_whole hj).2.2.1 (inR_whole hj).2.2.2]
  rw [layL_get hj, if_pos (inR_whole hj)]
  rw [tab_get hj]
  unfold paintF
  rw [if_pos (show Spot.inside _ _ from ⟨Nat.zero_le _, h1, Nat.zero_le _, h2⟩)]
  unfold glyK
  simp only [Int.sub_zero]
  split
  · rfl
  · split <;> rfl
end Go.Proofs.Ytdjgmhbfohbenaa
namespace Go.Proofs.Ytdjgmhbfohbenaa
open Go.RowKit Go.Sort Pl
set_option linter.unusedVariables false
set_option linter.unusedSimpArgs false
/-- A cell. -/
structure Cl where
  r : Int
  k : Int
  a : Look
def Cl.val (c : Cl) : Value := .agg #[.int .i32 c.r, .int .i64 c.k, .int .i64 c.a.fg, .int .i64 c.a.bg, .int .i64 c.a.fl]
def Cl.vs (c : Cl) : List Value := [.int .i32 c.r, .int .i64 c.k, .int .i64 c.a.fg, .int .i64 c.a.bg, .int .i64 c.a.fl]
def Cl.cs (c : Cl) : Array Value := #[.int .i32 c.r, .int .i64 c.k, .int .i64 c.a.fg, .int .i64 c.a.bg, .int .i64 c.a.fl]
def cl0 : Cl := ⟨0, 0, ⟨0, 0, 0⟩⟩
/-- A line of cells in blocks below B. -/
def LineAt (B : Nat) (w : World) (a : Option Addr) (n : Nat) (l : List Cl) : Prop := l.length = n ∧ (n = 0 ∨ ∃ b off, a = some ⟨b, off, none⟩ ∧ b < B ∧ ∀ j c, l[j]? = some c → ∀ f, f < 5 → w.cell? ⟨b, off + j * 5 + f, none⟩ = c.vs[f]?)
/-- Lines in blocks below B. -/
def LinesAt (B : Nat) (w : World) (a : Option Addr) (n : Nat) (ls : List (List Cl)) : Prop := ls.length = n ∧ (n = 0 ∨ ∃ b off, a = some ⟨b, off, none⟩ ∧ b < B ∧ ∀ j l, ls[j]? = some l → ∃ a' n' c', w.cell? ⟨b, off + j, none⟩ = some (.slice a' n' c') ∧ LineAt B w a' n' l)
theorem LineAt.kept {B : Nat} {S : Nat → Prop} {w w' : World} {a : Option Addr} {n : Nat} {l : List Cl} (h : LineAt B w a n l) (hk : Kept S w w') (hS : ∀ i, S i → B ≤ i) : LineAt B w' a n l := by
  obtain ⟨h1, h2⟩ := h
  refine ⟨h1, h2.imp (fun h => h) fun ⟨b, off, ha, hb, hc⟩ => ⟨b, off, ha, hb, fun j c hj f hf => ?_⟩⟩
  have hv : c.vs[f]? = some (c.vs[f]'(by show f < 5; exact hf)) := List.getElem?_eq_getElem _
  rw [hv]
  exact hk.cell ((hc j c hj f hf).trans hv) (fun hs => absurd (hS b hs) (Nat.not_le.2 hb))
theorem LinesAt.kept {B : Nat} {S : Nat → Prop} {w w' : World} {a : Option Addr} {n : Nat} {ls : List (List Cl)} (h : LinesAt B w a n ls) (hk : Kept S w w') (hS : ∀ i, S i → B ≤ i) : LinesAt B w' a n ls := by
  obtain ⟨h1, h2⟩ := h
  refine ⟨h1, h2.imp (fun h => h) fun ⟨b, off, ha, hb, hc⟩ => ⟨b, off, ha, hb, fun j l hj => ?_⟩⟩
  obtain ⟨a', n', c', hcell, hl⟩ := hc j l hj
  exact ⟨a', n', c', hk.cell hcell (fun hs => absurd (hS b hs) (Nat.not_le.2 hb)), hl.kept hk hS⟩
theorem LinesAt.nil (B : Nat) (w : World) (a : Option Addr) : LinesAt B w a 0 [] := ⟨rfl, .inl rfl⟩
/-- What a scene holds, as values. -/
structure Sc where
  rows : Nat
  cols : Nat
  cw : Nat
  ch : Nat
  la : Option Addr
  ln : Nat
  lc : Nat
  pa : Option Addr
  pn : Nat
  pc : Nat
  im : Option Nat
  top : Int
  cur : Bool
  row : Int
  col : Int
def Sc.val (s : Sc) : Value := .agg #[.int .i64 s.rows, .int .i64 s.cols, .int .i64 s.cw, .int .i64 s.ch, .slice s.la s.ln s.lc, .slice s.pa s.pn s.pc, .map s.im, .int .i64 s.top, .bool s.cur, .int .i64 s.row, .int .i64 s.col]
def Sc.cs (s : Sc) : Array Value := #[.int .i64 s.rows, .int .i64 s.cols, .int .i64 s.cw, .int .i64 s.ch, .slice s.la s.ln s.lc, .slice s.pa s.pn s.pc, .map s.im, .int .i64 s.top, .bool s.cur, .int .i64 s.row, .int .i64 s.col]
theorem blk11 {w : World} {b : Nat} {x0 x1 x2 x3 x4 x5 x6 x7 x8 x9 x10 : Value} {t : TypeId} (h : w.heap[b]? = some (.cells #[x0, x1, x2, x3, x4, x5, x6, x7, x8, x9, x10] t (0, 0))) :
    w.cell? ⟨b, 0, none⟩ = some x0 ∧ w.cell? ⟨b, 1, none⟩ = some x1 ∧ w.cell? ⟨b, 2, none⟩ = some x2 ∧ w.cell? ⟨b, 3, none⟩ = some x3 ∧ w.cell? ⟨b, 4, none⟩ = some x4 ∧ w.cell? ⟨b, 5, none⟩ = some x5 ∧ w.cell? ⟨b, 6, none⟩ = some x6 ∧ w.cell? ⟨b, 7, none⟩ = some x7 ∧ w.cell? ⟨b, 8, none⟩ = some x8 ∧ w.cell? ⟨b, 9, none⟩ = some x9 ∧ w.cell? ⟨b, 10, none⟩ = some x10 :=
  ⟨blk_cell h 0, blk_cell h 1, blk_cell h 2, blk_cell h 3, blk_cell h 4, blk_cell h 5, blk_cell h 6, blk_cell h 7, blk_cell h 8, blk_cell h 9, blk_cell h 10⟩
theorem blk5 {w : World} {b : Nat} {x y z u v : Value} {t : TypeId} (h : w.heap[b]? = some (.cells #[x, y, z, u, v] t (0, 0))) :
    w.cell? ⟨b, 0, none⟩ = some x ∧ w.cell? ⟨b, 1, none⟩ = some y ∧ w.cell? ⟨b, 2, none⟩ = some z ∧ w.cell? ⟨b, 3, none⟩ = some u ∧ w.cell? ⟨b, 4, none⟩ = some v :=
  ⟨blk_cell h 0, blk_cell h 1, blk_cell h 2, blk_cell h 3, blk_cell h 4⟩
theorem store5 {w : World} {p : Nat} {x' y' z' u' v' : Value} {T : TypeId} (h : w.heap[p]? = some (.cells #[x', y', z', u', v'] T (0, 0))) (x y z u v : Value) :
    ∃ V1 V2 V3 V4 V5, w.setCell ⟨p, 0, none⟩ x = V1 ∧ V1.setCell ⟨p, 1, none⟩ y = V2 ∧ V2.setCell ⟨p, 2, none⟩ z = V3 ∧ V3.setCell ⟨p, 3, none⟩ u = V4 ∧ V4.setCell ⟨p, 4, none⟩ v = V5 ∧ (w.cell? ⟨p, 0, none⟩ = some x' ∧ w.frozen? ⟨p, 0, none⟩ = false) ∧ (V1.cell? ⟨p, 1, none⟩ = some y' ∧ V1.frozen? ⟨p, 1, none⟩ = false) ∧
      (V2.cell? ⟨p, 2, none⟩ = some z' ∧ V2.frozen? ⟨p, 2, none⟩ = false) ∧ (V3.cell? ⟨p, 3, none⟩ = some u' ∧ V3.frozen? ⟨p, 3, none⟩ = false) ∧ (V4.cell? ⟨p, 4, none⟩ = some v' ∧ V4.frozen? ⟨p, 4, none⟩ = false) ∧ V5.heap[p]? = some (.cells #[x, y, z, u, v] T (0, 0)) ∧ Kept (· = p) w V5 := by
  have h1 := blk_set h 0 x
  have h2 := blk_set h1 1 y
  have h3 := blk_set h2 2 z
  have h4 := blk_set h3 3 u
  have h5 := blk_set h4 4 v
  exact ⟨_, _, _, _, _, rfl, rfl, rfl, rfl, rfl, ⟨blk_cell h 0, blk_free h 0⟩, ⟨blk_cell h1 1, blk_free h1 1⟩, ⟨blk_cell h2 2, blk_free h2 2⟩, ⟨blk_cell h3 3, blk_free h3 3⟩, ⟨blk_cell h4 4, blk_free h4 4⟩, h5, (((((Kept.refl (fun i => i = p) w).setCell (p := ⟨p, 0, none⟩) (.inl rfl) x).setCell (p := ⟨p, 1, none⟩) (.inl rfl) y).setCell (p := ⟨p, 2, none⟩) (.inl rfl) z).setCell (p := ⟨p, 3, none⟩) (.inl rfl) u).setCell (p := ⟨p, 4, none⟩) (.inl rfl) v⟩
def cellS (ls : List (List Cl)) (row col : Nat) : Cl := ((ls[row]?.getD [])[col]?).getD cl0
set_option maxRecDepth 100000 in
set_option maxHeartbeats 8000000 in
theorem cell_any (B : Nat) (s : Sc) (ls : List (List Cl)) (row col : Nat) (w : World) (hl : LinesAt B w s.la s.ln ls) (hlen : s.ln ≤ 9223372036854775807) (hr : row ≤ 1000000) (hc : col ≤ 1000000) :
    Calls Try.prog 108 #[s.val, .int .i64 row, .int .i64 col] w fun e w' => e = .returned (cellS ls row col).val ∧ Kept (fun _ => False) w w' := by
  obtain ⟨rows, cols, cw, ch, la, ln, lc, pa, pn, pc, im, top, cur, srow, scol⟩ := s
  unfold Sc.val
  simp only at hl hlen ⊢
  obtain ⟨V, hV⟩ : ∃ V, (w.alloc (.cells #[.int .i64 rows, .int .i64 cols, .int .i64 cw, .int .i64 ch, .slice la ln lc, .slice pa pn pc, .map im, .int .i64 top, .bool cur, .int .i64 srow, .int .i64 scol] 26)).alloc (.cells #[.int .i32 0, .int .i64 0, .int .i64 0, .int .i64 0, .int .i64 0] 100) = V := ⟨_, rfl⟩
  have kV : Kept (fun _ => False) w V := by rw [← hV]; exact ((Kept.refl _ _).alloc _).alloc _
  have b0 : V.heap[w.heap.size]? = some (.cells #[.int .i64 rows, .int .i64 cols, .int .i64 cw, .int .i64 ch, .slice la ln lc, .slice pa pn pc, .map im, .int .i64 top, .bool cur, .int .i64 srow, .int .i64 scol] 26 (0, 0)) := by rw [← hV]; exact blk_alloc (blk_new _ _) _
  have b1 : V.heap[w.heap.size + 1]? = some (.cells #[.int .i32 0, .int .i64 0, .int .i64 0, .int .i64 0, .int .i64 0] 100 (0, 0)) := by rw [← hV]; exact blk_at _ _ (by simp)
  obtain ⟨-, -, -, -, x4, -⟩ := blk11 b0
  have hlV := hl.kept kV (fun _ h => h.elim)
  have HK := Lib.hid kV
  have hll := hl.1
  by_cases h1 : row < ln
  · have g1 : decide (ln ≤ row) = false := decide_eq_false (by omega)
    have g1' : decide ((ln : Int) ≤ (row : Int)) = false := decide_eq_false (by omega)
    have r0 : (0 : Int) ≤ (row : Int) := by omega
    have r1 : (row : Int) < (ln : Int) := by omega
    obtain ⟨l, hlr⟩ : ∃ l, ls[row]? = some l := ⟨_, List.getElem?_eq_getElem (by omega)⟩
    obtain ⟨b, off, rfl, hb, hc'⟩ := hlV.2.resolve_left (by omega)
    obtain ⟨a', n', c', hcell, hline⟩ := hc' row l hlr
    have hn' := hline.1
    by_cases h2 : col < n'
    · have g2 : decide (n' ≤ col) = false := decide_eq_false (by omega)
      have g2' : decide ((n' : Int) ≤ (col : Int)) = false := decide_eq_false (by omega)
      obtain ⟨c, hcc⟩ : ∃ c, l[col]? = some c := ⟨_, List.getElem?_eq_getElem (by omega)⟩
      obtain ⟨b2, off2, rfl, hb2, hcells⟩ := hline.2.resolve_left (by omega)
      have y0 := hcells col c hcc 0 (by omega)
      have y1 := hcells col c hcc 1 (by omega)
      have y2 := hcells col c hcc 2 (by omega)
      have y3 := hcells col c hcc 3 (by omega)
      have y4 := hcells col c hcc 4 (by omega)
      rw [Nat.add_zero] at y0
      have hS : cellS ls row col = c := by unfold cellS; rw [hlr]; simp [hcc]
      rw [hS]
      obtain ⟨cr, ck, cfg, cbg, cfl⟩ := c
      unfold Cl.val
      unfold Cl.vs at y0 y1 y2 y3 y4
      simp only [List.getElem?_cons_zero, List.getElem?_cons_succ] at y0 y1 y2 y3 y4 ⊢
      obtain ⟨V1, V2, V3, V4, V5, f1, f2, f3, f4, f5, ⟨z0, z0'⟩, ⟨z1, z1'⟩, ⟨z2, z2'⟩, ⟨z3, z3'⟩, ⟨z4, z4'⟩, bU, kU⟩ := store5 b1 (.int .i32 cr) (.int .i64 ck) (.int .i64 cfg) (.int .i64 cbg) (.int .i64 cfl)
      obtain ⟨m0, m1, m2, m3, m4⟩ := blk5 bU
      have HE := Lib.hid (kV.trans (kU.mono fun i _ hi => Or.inr (by have h9 : i = w.heap.size + 1 := hi; omega)))
      clear hS hcells hc' hlV hl hline hcc hlr kV hll b0 b1 hb hb2 hn' hlen hr hc bU kU
      go_enter Try.func108, Try.ntmps108
      go_wp2
      exact bodyPost_ret (v := .agg #[.int .i32 cr, .int .i64 ck, .int .i64 cfg, .int .i64 cbg, .int .i64 cfl]) (by simp [results, Try.results108, go_sem, m0, m1, m2, m3, m4]) rfl ⟨rfl, HE.out⟩
    · have g2 : decide (n' ≤ col) = true := decide_eq_true (by omega)
      have g2' : decide ((n' : Int) ≤ (col : Int)) = true := decide_eq_true (by omega)
      have hS : cellS ls row col = cl0 := by unfold cellS; rw [hlr]; simp [List.getElem?_eq_none (show l.length ≤ col by omega)]
      rw [hS]
      obtain ⟨V1, V2, V3, V4, V5, f1, f2, f3, f4, f5, ⟨z0, z0'⟩, ⟨z1, z1'⟩, ⟨z2, z2'⟩, ⟨z3, z3'⟩, ⟨z4, z4'⟩, bU, kU⟩ := store5 b1 (.int .i32 0) (.int .i64 0) (.int .i64 0) (.int .i64 0) (.int .i64 0)
      obtain ⟨m0, m1, m2, m3, m4⟩ := blk5 bU
      have HE := Lib.hid (kV.trans (kU.mono fun i _ hi => Or.inr (by have h9 : i = w.heap.size + 1 := hi; omega)))
      clear hS hc' hlV hl hline hlr h2 kV hll b0 b1 hb hn' hlen hr hc bU kU
      go_enter Try.func108, Try.ntmps108
      go_wp2
      exact bodyPost_ret (v := .agg #[.int .i32 0, .int .i64 0, .int .i64 0, .int .i64 0, .int .i64 0]) (by simp [results, Try.results108, go_sem, m0, m1, m2, m3, m4]) rfl ⟨rfl, HE.out⟩
  · have g1 : decide (ln ≤ row) = true := decide_eq_true (by omega)
    have g1' : decide ((ln : Int) ≤ (row : Int)) = true := decide_eq_true (by omega)
    have hS : cellS ls row col = cl0 := by unfold cellS; rw [List.getElem?_eq_none (show ls.length ≤ row by omega)]; rfl
    rw [hS]
    obtain ⟨V1, V2, V3, V4, V5, f1, f2, f3, f4, f5, ⟨z0, z0'⟩, ⟨z1, z1'⟩, ⟨z2, z2'⟩, ⟨z3, z3'⟩, ⟨z4, z4'⟩, bU, kU⟩ := store5 b1 (.int .i32 0) (.int .i64 0) (.int .i64 0) (.int .i64 0) (.int .i64 0)
    obtain ⟨m0, m1, m2, m3, m4⟩ := blk5 bU
    have HE := Lib.hid (kV.trans (kU.mono fun i _ hi => Or.inr (by have h9 : i = w.heap.size + 1 := hi; omega)))
    clear hS hlV hl h1 kV hll b0 b1 hlen hr hc bU kU
    go_enter Try.func108, Try.ntmps108
    go_wp2
    exact bodyPost_ret (v := .agg #[.int .i32 0, .int .i64 0, .int .i64 0, .int .i64 0, .int .i64 0]) (by simp [results, Try.results108, go_sem, m0, m1, m2, m3, m4]) rfl ⟨rfl, HE.out⟩
end Go.Proofs.Ytdjgmhbfohbenaa
