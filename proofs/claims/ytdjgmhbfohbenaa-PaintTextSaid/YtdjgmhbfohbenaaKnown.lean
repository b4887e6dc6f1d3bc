/- The example of the chapter: a letter's box, a cursor. -/
import Derived.Test.YtdjgmhbfohbenaaDrawD
namespace Go.Proofs.Ytdjgmhbfohbenaa
open Go.RowKit Go.Sort Pl
set_option linter.unusedVariables false
set_option linter.unusedSimpArgs false
set_option maxRecDepth 100000 in
set_option maxHeartbeats 8000000 in
theorem imgs0 (s : Sc) (W H n B : Nat) (w0 : World) (hp : s.pn = 0) : Imgs s W H n B w0 (fun _ P => P) := by
  intro above P g w hg hk ho hb
  have hgw := ho.lt g rfl
  obtain ⟨rows, cols, cw, ch, la, ln, lc, pa, pn, pc, im, top, cur, row, col⟩ := s
  simp only at hp ⊢
  subst hp
  obtain ⟨V, hV⟩ : ∃ V, ((w.alloc (.cells #[.int .i64 rows, .int .i64 cols, .int .i64 cw, .int .i64 ch, .slice la ln lc, .slice pa 0 pc, .map im, .int .i64 top, .bool cur, .int .i64 row, .int .i64 col, .bool above] 92)).alloc (.cells #[.int .i64 W, .int .i64 H, .slice (some ⟨g, 0, none⟩) n n] 31)).alloc (.cells #[.int .i64 0, .int .i64 0, .slice none 0 0] 31) = V := ⟨_, rfl⟩
  have kV : Kept (fun _ => False) w V := by rw [← hV]; exact (((Kept.refl _ _).alloc _).alloc _).alloc _
  have b0 : V.heap[w.heap.size]? = some (.cells #[.int .i64 rows, .int .i64 cols, .int .i64 cw, .int .i64 ch, .slice la ln lc, .slice pa 0 pc, .map im, .int .i64 top, .bool cur, .int .i64 row, .int .i64 col, .bool above] 92 (0, 0)) := by rw [← hV]; exact blk_alloc (blk_alloc (blk_new _ _) _) _
  have b1 : V.heap[w.heap.size + 1]? = some (.cells #[.int .i64 W, .int .i64 H, .slice (some ⟨g, 0, none⟩) n n] 31 (0, 0)) := by rw [← hV]; exact blk_alloc (blk_at _ _ (by simp)) _
  have b2 : V.heap[w.heap.size + 1 + 1]? = some (.cells #[.int .i64 0, .int .i64 0, .slice none 0 0] 31 (0, 0)) := by rw [← hV]; exact blk_at _ _ (by simp)
  have x5 : V.cell? ⟨w.heap.size, 5, none⟩ = some (.slice pa 0 pc) := blk_cell b0 5
  obtain ⟨⟨d0, -⟩, ⟨d1, -⟩, d2, -⟩ := blk3 b1
  obtain ⟨U1, U2, U3, f1, f2, f3, ⟨q0, q0'⟩, ⟨q1, q1'⟩, ⟨q2, q2'⟩, bU, kU⟩ := store3 b2 (.int .i64 W) (.int .i64 H) (.slice (some ⟨g, 0, none⟩) n n)
  obtain ⟨⟨m0, -⟩, ⟨m1, -⟩, m2, -⟩ := blk3 bU
  have HE := Lib.hid (And.intro ((ho.kept kV (fun _ _ => id)).kept kU (fun b hb hS => by have h9 : b = w.heap.size + 1 + 1 := hS; have h8 : g = b := (by cases hb; rfl); omega)) ((kV.mono (fun _ _ h => h.elim) : Kept (fun i => i = g) w V).trans (kU.mono fun i _ hi => Or.inr (by have h9 : i = w.heap.size + 1 + 1 := hi; omega))))
  clear hg hk ho hb hgw kV b0 b1 b2 bU kU
  go_enter Try.func109, Try.ntmps109
  go_wp2
  refine wp_loop_rounds 1 ?_
  rw [rounds_succ]
  go_wp2
  exact bodyPost_ret (v := .agg #[.int .i64 W, .int .i64 H, .slice (some ⟨g, 0, none⟩) n n]) (by simp [results, Try.results109, go_sem, m0, m1, m2]) rfl ⟨rfl, HE.out⟩
theorem known_gly : (glyP 4 4 97 ⟨0, 0, 0⟩).getD 0 0 = 0 ∧ (glyP 4 4 97 ⟨0, 0, 0⟩).getD 20 0 = 229 := ⟨by kernel_rfl, by kernel_rfl⟩
def sc1 : Sc := ⟨1, 1, 1, 1, none, 0, 0, none, 0, 0, none, 0, true, 0, 0⟩
theorem known_drw : drawP sc1 [] (fun _ P => P) 1 1 4 (List.replicate 4 0) = [255, 255, 255, 255] := by kernel_rfl
set_option maxRecDepth 100000 in
set_option maxHeartbeats 8000000 in
theorem known_any (wd : World) : Calls Try.prog 9 #[] wd fun e w' => e = .returned (.bool true) ∧ Kept (fun _ => False) wd w' := by
  have HG := Lib.hid (fun w => show Calls Try.prog 18 #[.int .i32 97, .int .i64 4, .int .i64 4, .agg #[.int .i64 0, .int .i64 0, .int .i64 0]] w fun e w' => ∃ g : Nat, e = .returned (.tuple #[.agg #[.int .i64 4, .int .i64 4, .slice (some ⟨g, 0, none⟩) 64 64], .int .i64 0]) ∧ w.heap.size ≤ g ∧ Own .u8 5 w' (.slice (some ⟨g, 0, none⟩) 64 64) (glyP 4 4 97 ⟨0, 0, 0⟩) ∧ Kept (fun _ => False) w w' from glyph_yes 97 4 4 ⟨0, 0, 0⟩ w (by omega) (by omega) (by omega))
  have HD := Lib.hid (fun w => show Calls Try.prog 11 #[.agg #[.int .i64 1, .int .i64 1, .int .i64 1, .int .i64 1, .slice none 0 0, .slice none 0 0, .map none, .int .i64 0, .bool true, .int .i64 0, .int .i64 0]] w fun e w' => ∃ g : Nat, e = .returned (.tuple #[.agg #[.int .i64 1, .int .i64 1, .slice (some ⟨g, 0, none⟩) 4 4], .int .i64 0]) ∧ w.heap.size ≤ g ∧ Own .u8 5 w' (.slice (some ⟨g, 0, none⟩) 4 4) [255, 255, 255, 255] ∧ Kept (fun _ => False) w w' from by
    have h := draw_yes sc1 [] (fun _ P => P) w 1 1 4 ⟨by decide, by decide, by decide, by decide, by decide, by decide, by decide, by decide⟩ (by decide) (by decide) (by decide) (by decide) (fun row col => by unfold cellS; simp [cl0]) (by decide) (imgs0 _ _ _ _ _ _ rfl) (fun _ P h => h) (LinesAt.nil _ _ _)
    rw [known_drw] at h
    exact h)
  obtain ⟨GL, hGL⟩ : ∃ x, glyP 4 4 97 ⟨0, 0, 0⟩ = x := ⟨_, rfl⟩
  have HGL := Lib.hid (show GL.getD 0 0 = 0 ∧ GL.getD 20 0 = 229 by rw [← hGL]; exact known_gly)
  rw [hGL] at HG
  clear hGL
  go_enter Try.func9, Try.ntmps9
  go_wp2_with fail
  refine (HG.out _).mono ?_
  rintro e w1 ⟨g, rfl, hg, ho, hk1⟩
  obtain ⟨V1, hV1⟩ : ∃ V, w1.alloc (.cells #[.int .i64 4, .int .i64 4, .slice (some ⟨g, 0, none⟩) 64 64] 31) = V := ⟨_, rfl⟩
  have k1 : Kept (fun _ => False) w1 V1 := by rw [← hV1]; exact (Kept.refl _ _).alloc _
  have c0 : V1.heap[w1.heap.size]? = some (.cells #[.int .i64 4, .int .i64 4, .slice (some ⟨g, 0, none⟩) 64 64] 31 (0, 0)) := by rw [← hV1]; exact blk_new _ _
  have H1 := Lib.hid (And.intro (hk1.then k1) (And.intro c0 (ho.kept k1 (fun _ _ => id))))
  clear hg ho hk1 k1 c0
  go_wp2_with fail
  refine (HD.out _).mono ?_
  rintro e w2 ⟨g2, rfl, hg2, ho2, hk2⟩
  obtain ⟨V2, hV2⟩ : ∃ V, w2.alloc (.cells #[.int .i64 1, .int .i64 1, .slice (some ⟨g2, 0, none⟩) 4 4] 31) = V := ⟨_, rfl⟩
  have k2 : Kept (fun _ => False) w2 V2 := by rw [← hV2]; exact (Kept.refl _ _).alloc _
  have e0 : V2.heap[w2.heap.size]? = some (.cells #[.int .i64 1, .int .i64 1, .slice (some ⟨g2, 0, none⟩) 4 4] 31 (0, 0)) := by rw [← hV2]; exact blk_new _ _
  obtain ⟨⟨c0, -⟩, ⟨c1, -⟩, c2, -⟩ := blk3 ((hk2.then k2).blk H1.out.2.1 id)
  obtain ⟨⟨d0, -⟩, ⟨d1, -⟩, d2, -⟩ := blk3 e0
  have hsl := H1.out.2.2.kept (hk2.then k2) (fun _ _ => id)
  have y0 := hsl.at.2.2.2.1 0 (by omega)
  have y20 := hsl.at.2.2.2.1 20 (by omega)
  rw [HGL.out.1] at y0
  rw [HGL.out.2] at y20
  have hcv := run_str (P := Try.prog) (dst := 9) (cap := 4) Try.underlying29 Try.underlying5 Try.underlying9 ((ho2.kept k2 (fun _ _ => id)).slAt)
  rw [show strOfNums [255, 255, 255, 255] = ⟨#[255, 255, 255, 255]⟩ from rfl] at hcv
  have HK := Lib.hid ((H1.out.1.then hk2).then k2)
  clear hg2 ho2 hk2 k2 e0 hsl
  go_wp2
  go_ret
  exact ⟨rfl, HK.out⟩
end Go.Proofs.Ytdjgmhbfohbenaa
