/- The law PaintGlyphs. -/
import Derived.Test.YtdjgmhbfohbenaaKnown
import Derived.Test.YtdjgmhbfohbenaaOpen
namespace Go.Proofs.Ytdjgmhbfohbenaa
open Go.RowKit Go.Sort Pl
set_option linter.unusedVariables false
set_option linter.unusedSimpArgs false
section
open Go.ChangeShapes Go.WideShapes Go.ChangeAt Go.Joins Go.Deep
variable {H : Type} {enc : TypeId × Value → H} {P : Program} {W : World} {r : Reach} {b0 : Nat} {t e : TypeId} {v : Value} {d : DataW H} {p : List MemPlace}
/-- A struct of three integers. -/
theorem o_int3 {f0 f1 f2 : Field} {k : IntKind} (hs : P.underlying t = some (.struct #[f0, f1, f2])) (hone : oneCellFields P #[f0, f1, f2] = true) (hC : P.cellsOf t = 3)
    (u0 : P.underlying f0.type = some (.int k)) (u1 : P.underlying f1.type = some (.int k)) (u2 : P.underlying f2.type = some (.int k))
    (hv : Value.okWide P W r b0 t v) (h : DataW.Trod enc P W 0 (fun _ => true) true t v d p) :
    ∃ x y z, v = .agg #[.int k x, .int k y, .int k z] ∧ (Lit.int k x).wf = true ∧ (Lit.int k y).wf = true ∧ (Lit.int k z).wf = true := by
  obtain ⟨v0, v1, v2, y0, y1, y2, n, rfl, -, -, t0, t1, t2⟩ := open_agg3 hs hone hC hv h
  obtain ⟨x, e0, -, w0⟩ := DataW.trod_int u0 t0
  obtain ⟨y, e1, -, w1⟩ := DataW.trod_int u1 t1
  obtain ⟨z, e2, -, w2⟩ := DataW.trod_int u2 t2
  simp at e0 e1 e2
  subst e0 e1 e2
  exact ⟨x, y, z, rfl, w0, w1, w2⟩
end
theorem gly_bytes (W H : Nat) (r : Int) (a : Look) : IsBytes (glyP W H r a) := by
  unfold glyP
  refine boxS_ind (fun x y bw bh c P hc hP => layL_bytes hc hP) _ _ _ _ (layL_bytes (colors_isB a).2 ?_)
  intro v hv
  rw [List.eq_of_mem_replicate hv]
  exact ⟨by decide, by decide⟩
set_option maxRecDepth 100000 in
set_option maxHeartbeats 8000000 in
theorem rglyph_no (r w h : Int) (a : Look) (wd : World) (hn : ¬ ((1 ≤ w ∧ w ≤ 128) ∧ (1 ≤ h ∧ h ≤ 64))) :
    Calls Try.prog 19 #[.int .i64 r, .int .i64 w, .int .i64 h, lookV a] wd fun e w' => e = .returned (.tuple #[mat0, .int .i64 1]) ∧ Kept (fun _ => False) wd w' := by
  obtain ⟨fg, bg, fl⟩ := a
  unfold lookV
  by_cases c0 : w < 1
  · have g0 : decide (w < 1) = true := decide_eq_true c0
    clear hn c0
    go_enter Try.func19, Try.ntmps19
    go_wp2
    refine bodyPost_ret (v := .tuple #[mat0, .int .i64 1]) (by simp [results, Try.results19, go_sem, mat0, mat]) rfl ⟨rfl, ?_⟩
    repeat (first | apply Kept.alloc | apply Kept.drew)
    exact Kept.refl _ _
  have g0 : decide (w < 1) = false := decide_eq_false c0
  by_cases c1 : 128 < w
  · have g1 : decide (128 < w) = true := decide_eq_true c1
    clear hn c0 c1
    go_enter Try.func19, Try.ntmps19
    go_wp2
    refine bodyPost_ret (v := .tuple #[mat0, .int .i64 1]) (by simp [results, Try.results19, go_sem, mat0, mat]) rfl ⟨rfl, ?_⟩
    repeat (first | apply Kept.alloc | apply Kept.drew)
    exact Kept.refl _ _
  have g1 : decide (128 < w) = false := decide_eq_false c1
  by_cases c2 : h < 1
  · have g2 : decide (h < 1) = true := decide_eq_true c2
    clear hn c0 c1 c2
    go_enter Try.func19, Try.ntmps19
    go_wp2
    refine bodyPost_ret (v := .tuple #[mat0, .int .i64 1]) (by simp [results, Try.results19, go_sem, mat0, mat]) rfl ⟨rfl, ?_⟩
    repeat (first | apply Kept.alloc | apply Kept.drew)
    exact Kept.refl _ _
  have g2 : decide (h < 1) = false := decide_eq_false c2
  by_cases c3 : 64 < h
  · have g3 : decide (64 < h) = true := decide_eq_true c3
    clear hn c0 c1 c2 c3
    go_enter Try.func19, Try.ntmps19
    go_wp2
    refine bodyPost_ret (v := .tuple #[mat0, .int .i64 1]) (by simp [results, Try.results19, go_sem, mat0, mat]) rfl ⟨rfl, ?_⟩
    repeat (first | apply Kept.alloc | apply Kept.drew)
    exact Kept.refl _ _
  have g3 : decide (64 < h) = false := decide_eq_false c3
  exact absurd ⟨⟨by omega, by omega⟩, ⟨by omega, by omega⟩⟩ hn
set_option maxRecDepth 100000 in
set_option maxHeartbeats 8000000 in
theorem glyphs_go (r w h : Int) (a : Look) (W : World) (hr : -2147483648 ≤ r ∧ r ≤ 2147483647) :
    Calls Try.prog 4 #[.int .i32 r, .int .i64 w, .int .i64 h, .agg #[.int .i64 a.fg, .int .i64 a.bg, .int .i64 a.fl]] W fun e w' => e = .returned (.bool true) ∧ Below W.heap.size W w' := by
  have wr : IntKind.i64.wrap r = r := IntWalk.i64_in _ (by omega)
  -- both sides' answers, alike
  have HP : ∃ (x y : Int) (L : List Int) (er : Int) (n c : Nat), IsBytes L ∧
      (∀ w1, Calls Try.prog 18 #[.int .i32 r, .int .i64 w, .int .i64 h, .agg #[.int .i64 a.fg, .int .i64 a.bg, .int .i64 a.fl]] w1 fun e w' => ∃ ad, e = .returned (.tuple #[.agg #[.int .i64 x, .int .i64 y, .slice ad n c], .int .i64 er]) ∧ SlAt .u8 w' ad n L ∧ Kept (fun _ => False) w1 w') ∧
      (∀ w1, Calls Try.prog 19 #[.int .i64 r, .int .i64 w, .int .i64 h, .agg #[.int .i64 a.fg, .int .i64 a.bg, .int .i64 a.fl]] w1 fun e w' => ∃ ad, e = .returned (.tuple #[.agg #[.int .i64 x, .int .i64 y, .slice ad n c], .int .i64 er]) ∧ SlAt .u8 w' ad n L ∧ Kept (fun _ => False) w1 w') := by
    by_cases hn : (1 ≤ w ∧ w ≤ 128) ∧ (1 ≤ h ∧ h ≤ 64)
    · obtain ⟨Wn, rfl⟩ : ∃ k : Nat, w = (k : Int) := ⟨w.toNat, by omega⟩
      obtain ⟨Hn, rfl⟩ : ∃ k : Nat, h = (k : Int) := ⟨h.toNat, by omega⟩
      have hl : (glyP Wn Hn r a).length = 4 * (Wn * Hn) := by unfold glyP; exact boxS_len (fun x y bw bh c P => layL_len ..) _ _ _ _ (layL_len ..)
      refine ⟨Wn, Hn, glyP Wn Hn r a, 0, 4 * (Wn * Hn), 4 * (Wn * Hn), gly_bytes _ _ _ _, fun w1 => ?_, fun w1 => ?_⟩
      · refine (glyph_yes r Wn Hn a w1 hr (by omega) (by omega)).mono ?_
        rintro e w' ⟨g, rfl, -, ho, hk⟩
        exact ⟨_, rfl, by have h := ho.slAt; exact h, hk⟩
      · refine (rglyph_yes r Wn Hn a w1 hr (by omega) (by omega)).mono ?_
        rintro e w' ⟨g, rfl, -, ho, hk⟩
        rw [← gly_same Wn Hn r a (by omega) (by omega)] at ho
        exact ⟨_, rfl, by have h := ho.slAt; exact h, hk⟩
    · refine ⟨0, 0, [], 1, 0, 0, (fun _ h => by cases h), fun w1 => ?_, fun w1 => ?_⟩
      · exact (glyph_no r w h a w1 hn).mono fun e w' ⟨he, hk⟩ => ⟨none, he, ⟨rfl, .inl rfl⟩, hk⟩
      · exact (rglyph_no r w h a w1 hn).mono fun e w' ⟨he, hk⟩ => ⟨none, he, ⟨rfl, .inl rfl⟩, hk⟩
  obtain ⟨x, y, L, er, n, c, hLb, P1, P2⟩ := HP
  have P1 := Lib.hid P1
  have P2 := Lib.hid P2
  obtain ⟨fg, bg, fl⟩ := a
  simp only at P1 P2 ⊢
  obtain ⟨W0, hW0⟩ : ∃ W0, W.alloc (.cells #[.int .i64 fg, .int .i64 bg, .int .i64 fl] 54) = W0 := ⟨_, rfl⟩
  have k0 : Kept (fun _ => False) W W0 := by rw [← hW0]; exact (Kept.refl _ _).alloc _
  have b0 : W0.heap[W.heap.size]? = some (.cells #[.int .i64 fg, .int .i64 bg, .int .i64 fl] 54 (0, 0)) := by rw [← hW0]; exact blk_new _ _
  have H0 := Lib.hid (And.intro k0 b0)
  have HL := Lib.hid hLb
  clear k0 b0 hLb hr
  go_enter Try.func4, Try.ntmps4
  go_wp2_with fail
  refine (known_any _).mono ?_
  rintro e w1 ⟨rfl, hk1⟩
  obtain ⟨⟨x0, -⟩, ⟨x1, -⟩, x2, -⟩ := blk3 (hk1.blk H0.out.2 id)
  have H1 := Lib.hid (And.intro (H0.out.1.then hk1) (hk1.blk H0.out.2 id))
  clear hk1
  go_wp2_with fail
  refine (P1.out _).mono ?_
  rintro e w2 ⟨ad, rfl, hs, hk2⟩
  obtain ⟨V2, hV2⟩ : ∃ V, w2.alloc (.cells #[.int .i64 x, .int .i64 y, .slice ad n c] 31) = V := ⟨_, rfl⟩
  have k2 : Kept (fun _ => False) w2 V2 := by rw [← hV2]; exact (Kept.refl _ _).alloc _
  have b2 : V2.heap[w2.heap.size]? = some (.cells #[.int .i64 x, .int .i64 y, .slice ad n c] 31 (0, 0)) := by rw [← hV2]; exact blk_new _ _
  obtain ⟨⟨x0, -⟩, ⟨x1, -⟩, x2, -⟩ := blk3 ((hk2.then k2).blk H1.out.2 id)
  have H2 := Lib.hid (And.intro (H1.out.1.then (hk2.then k2)) (And.intro b2 (hs.up k2)))
  clear hs hk2 k2 b2
  go_wp2_with fail
  refine (P2.out _).mono ?_
  rintro e w3 ⟨ad2, rfl, hs, hk3⟩
  obtain ⟨V3, hV3⟩ : ∃ V, w3.alloc (.cells #[.int .i64 x, .int .i64 y, .slice ad2 n c] 35) = V := ⟨_, rfl⟩
  have k3 : Kept (fun _ => False) w3 V3 := by rw [← hV3]; exact (Kept.refl _ _).alloc _
  have b3 : V3.heap[w3.heap.size]? = some (.cells #[.int .i64 x, .int .i64 y, .slice ad2 n c] 35 (0, 0)) := by rw [← hV3]; exact blk_new _ _
  obtain ⟨⟨x0, -⟩, ⟨x1, -⟩, x2, -⟩ := blk3 ((hk3.then k3).blk H2.out.2.1 id)
  obtain ⟨⟨y0, -⟩, ⟨y1, -⟩, y2, -⟩ := blk3 b3
  have HA := Lib.hid (show Calls Try.prog 14 #[.agg #[.int .i64 x, .int .i64 y, .slice ad n c], .agg #[.int .i64 x, .int .i64 y, .slice ad2 n c]] V3 fun e w' => e = .returned (.bool true) ∧ Kept (fun _ => False) V3 w' from by
    have h := alike_any ⟨x, y, L⟩ ⟨x, y, L⟩ ad ad2 n n c c V3 (H2.out.2.2.up (hk3.then k3)) (hs.up k3) HL.out HL.out
    rw [sameM_self] at h
    exact h)
  have H3 := Lib.hid (H2.out.1.then (hk3.then k3))
  clear hs hk3 k3 b3
  go_wp2_with fail
  refine HA.out.mono ?_
  rintro e w4 ⟨rfl, hk4⟩
  have H4 := Lib.hid (H3.out.then hk4)
  clear hk4 x0 x1 x2 y0 y1 y2
  go_wp2
  exact bodyPost_ret (v := .bool true) (by simp [results, Try.results4, go_sem]) rfl ⟨rfl, H4.out.below⟩
theorem law_glyphs {r w h fg bg fl : Int} {W : World} (f0 : (Lit.int .i32 r).wf = true) (f3 : (Lit.int .i64 fg).wf = true ∧ (Lit.int .i64 bg).wf = true ∧ (Lit.int .i64 fl).wf = true) :
    Calls Try.prog 4 #[.int .i32 r, .int .i64 w, .int .i64 h, .agg #[.int .i64 fg, .int .i64 bg, .int .i64 fl]] W fun e w' => e = .returned (.bool true) ∧ Below W.heap.size W w' := by
  simp [Lit.wf, IntKind.min, IntKind.max, IntKind.signed, IntKind.bits] at f0
  exact glyphs_go r w h ⟨fg, bg, fl⟩ W (by omega)
end Go.Proofs.Ytdjgmhbfohbenaa
