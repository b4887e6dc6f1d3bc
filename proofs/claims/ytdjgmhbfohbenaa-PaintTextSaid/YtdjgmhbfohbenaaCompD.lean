/- A scene drawn: the five layers one behind the other. -/
import Derived.Test.YtdjgmhbfohbenaaDrwD
namespace Go.Proofs.Ytdjgmhbfohbenaa
open Go.RowKit Go.Sort Pl
set_option linter.unusedVariables false
set_option linter.unusedSimpArgs false
set_option maxRecDepth 100000 in
set_option maxHeartbeats 8000000 in
theorem compose_any (s : Sc) (ls : List (List Cl)) (img : Bool → List Int → List Int) (B : Nat) (w0 wd : World) (W H n g lb : Nat) (P : List Int) (hd : Dim s W H n) (hWW : W = s.cols * s.cw) (hHH : H = s.rows * s.ch) (hn0 : 0 < n)
    (hcl : ∀ row col, -2147483648 ≤ (cellS ls row col).r ∧ (cellS ls row col).r ≤ 2147483647) (hlen : s.ln ≤ 9223372036854775807) (himg : Imgs s W H n B w0 img) (hib : ∀ a P, IsBytes P → IsBytes (img a P))
    (hPb : IsBytes P) (hBg : B ≤ g) (hlg : lb ≠ g) (hw0 : Kept (fun i => B ≤ i) w0 wd) (hls : LinesAt B wd s.la s.ln ls) (hBw : B ≤ wd.heap.size)
    (ho : Own .u8 5 wd (.slice (some ⟨g, 0, none⟩) n n) P) (hlb : wd.heap[lb]? = some (.cells #[.iface 90 s.val, .iface 92 (s.valB false), .iface 93 s.val, .iface 92 (s.valB true), .iface 94 s.val] 122 (0, 0))) :
    Calls Try.prog 24 #[.agg #[.int .i64 W, .int .i64 H, .slice (some ⟨g, 0, none⟩) n n], .slice (some ⟨lb, 0, none⟩) 5 5] wd fun e w' => e = .returned (.agg #[.int .i64 W, .int .i64 H, .slice (some ⟨g, 0, none⟩) n n]) ∧ Own .u8 5 w' (.slice (some ⟨g, 0, none⟩) n n) (drawP s ls img W H n P) ∧ Kept (fun i => i = g) wd w' := by
  have hgw := ho.lt g rfl
  have hlw := lt_of_blk hlb
  obtain ⟨V, hV⟩ : ∃ V, (wd.alloc (.cells #[.int .i64 W, .int .i64 H, .slice (some ⟨g, 0, none⟩) n n] 31)).alloc (.cells #[.int .i64 0, .int .i64 0, .slice none 0 0] 31) = V := ⟨_, rfl⟩
  have kV : Kept (fun _ => False) wd V := by rw [← hV]; exact ((Kept.refl _ _).alloc _).alloc _
  have b0 : V.heap[wd.heap.size]? = some (.cells #[.int .i64 W, .int .i64 H, .slice (some ⟨g, 0, none⟩) n n] 31 (0, 0)) := by rw [← hV]; exact blk_alloc (blk_new _ _) _
  have b1 : V.heap[wd.heap.size + 1]? = some (.cells #[.int .i64 0, .int .i64 0, .slice none 0 0] 31 (0, 0)) := by rw [← hV]; exact blk_at _ _ (by simp)
  obtain ⟨P1, hP1⟩ : ∃ x, eachF (groF s ls W H) s.cols s.rows P = x := ⟨_, rfl⟩
  obtain ⟨P2, hP2⟩ : ∃ x, img false P1 = x := ⟨_, rfl⟩
  obtain ⟨P3, hP3⟩ : ∃ x, eachF (glsF s ls W H) s.cols s.rows P2 = x := ⟨_, rfl⟩
  obtain ⟨P4, hP4⟩ : ∃ x, img true P3 = x := ⟨_, rfl⟩
  obtain ⟨P5, hP5⟩ : ∃ x, curP s W n P4 = x := ⟨_, rfl⟩
  have c1 : IsBytes P1 := by rw [← hP1]; exact gro_bytes s ls W H hPb
  have c2 : IsBytes P2 := by rw [← hP2]; exact hib _ _ c1
  have c3 : IsBytes P3 := by rw [← hP3]; exact gls_bytes s ls W H c2
  have c4 : IsBytes P4 := by rw [← hP4]; exact hib _ _ c3
  have hR : drawP s ls img W H n P = P5 := by unfold drawP; rw [hP1, hP2, hP3, hP4, hP5]
  rw [hR]
  have HI0 := Lib.hid (show CoI s ls B w0 wd W H n g lb P V from ⟨ho.kept kV (fun _ _ => id), kV.mono (fun _ _ h => h.elim), b0, b1, kV.blk hlb id, hw0.then (kV.mono fun _ _ h => h.elim), hls.kept kV (fun _ h => h.elim)⟩)
  have HN := Lib.hid (And.intro hgw (And.intro hBg (And.intro hlg (And.intro hlw hBw))))
  have S1 := Lib.hid (fun (w : World) (h : CoI s ls B w0 wd W H n g lb P w) => show Calls Try.prog 106 #[s.val, .agg #[.int .i64 W, .int .i64 H, .slice (some ⟨g, 0, none⟩) n n]] w fun e w' => e = .returned (.agg #[.int .i64 W, .int .i64 H, .slice (some ⟨g, 0, none⟩) n n]) ∧ Own .u8 5 w' (.slice (some ⟨g, 0, none⟩) n n) P1 ∧ Kept (fun i => i = g) w w' from by rw [← hP1]; exact grounds_any B s ls W H n g P w hd h.s hlen hBg h.o)
  have S2 := Lib.hid (fun (w : World) (h : CoI s ls B w0 wd W H n g lb P1 w) => show Calls Try.prog 109 #[s.valB false, .agg #[.int .i64 W, .int .i64 H, .slice (some ⟨g, 0, none⟩) n n]] w fun e w' => e = .returned (.agg #[.int .i64 W, .int .i64 H, .slice (some ⟨g, 0, none⟩) n n]) ∧ Own .u8 5 w' (.slice (some ⟨g, 0, none⟩) n n) P2 ∧ Kept (fun i => i = g) w w' from by rw [← hP2]; exact himg false P1 g w hBg h.w h.o c1)
  have S3 := Lib.hid (fun (w : World) (h : CoI s ls B w0 wd W H n g lb P2 w) => show Calls Try.prog 111 #[s.val, .agg #[.int .i64 W, .int .i64 H, .slice (some ⟨g, 0, none⟩) n n]] w fun e w' => e = .returned (.agg #[.int .i64 W, .int .i64 H, .slice (some ⟨g, 0, none⟩) n n]) ∧ Own .u8 5 w' (.slice (some ⟨g, 0, none⟩) n n) P3 ∧ Kept (fun i => i = g) w w' from by rw [← hP3]; exact glyphs_any B s ls W H n g P2 w hd h.s hlen hBg hcl h.o)
  have S4 := Lib.hid (fun (w : World) (h : CoI s ls B w0 wd W H n g lb P3 w) => show Calls Try.prog 109 #[s.valB true, .agg #[.int .i64 W, .int .i64 H, .slice (some ⟨g, 0, none⟩) n n]] w fun e w' => e = .returned (.agg #[.int .i64 W, .int .i64 H, .slice (some ⟨g, 0, none⟩) n n]) ∧ Own .u8 5 w' (.slice (some ⟨g, 0, none⟩) n n) P4 ∧ Kept (fun i => i = g) w w' from by rw [← hP4]; exact himg true P3 g w hBg h.w h.o c3)
  have S5 := Lib.hid (fun (w : World) (h : CoI s ls B w0 wd W H n g lb P4 w) => show Calls Try.prog 114 #[s.val, .agg #[.int .i64 W, .int .i64 H, .slice (some ⟨g, 0, none⟩) n n]] w fun e w' => e = .returned (.agg #[.int .i64 W, .int .i64 H, .slice (some ⟨g, 0, none⟩) n n]) ∧ Own .u8 5 w' (.slice (some ⟨g, 0, none⟩) n n) P5 ∧ Kept (fun i => i = g) w w' from by rw [← hP5]; exact cursor_any s W H n g P4 w hd hWW hHH c4 h.o)
  obtain ⟨CS, hCS⟩ : ∃ C : Array Value, C = #[.int .i64 s.rows, .int .i64 s.cols, .int .i64 s.cw, .int .i64 s.ch, .slice s.la s.ln s.lc, .slice s.pa s.pn s.pc, .map s.im, .int .i64 s.top, .bool s.cur, .int .i64 s.row, .int .i64 s.col] := ⟨_, rfl⟩
  obtain ⟨CF, hCF⟩ : ∃ C : Array Value, C = #[.int .i64 s.rows, .int .i64 s.cols, .int .i64 s.cw, .int .i64 s.ch, .slice s.la s.ln s.lc, .slice s.pa s.pn s.pc, .map s.im, .int .i64 s.top, .bool s.cur, .int .i64 s.row, .int .i64 s.col, .bool false] := ⟨_, rfl⟩
  obtain ⟨CT, hCT⟩ : ∃ C : Array Value, C = #[.int .i64 s.rows, .int .i64 s.cols, .int .i64 s.cw, .int .i64 s.ch, .slice s.la s.ln s.lc, .slice s.pa s.pn s.pc, .map s.im, .int .i64 s.top, .bool s.cur, .int .i64 s.row, .int .i64 s.col, .bool true] := ⟨_, rfl⟩
  have eS : s.val = .agg CS := by rw [hCS]; rfl
  have eF : s.valB false = .agg CF := by rw [hCF]; rfl
  have eT : s.valB true = .agg CT := by rw [hCT]; rfl
  rw [eS] at S1 S3 S5
  rw [eF] at S2
  rw [eT] at S4
  have HL := Lib.hid (fun (L : List Int) (w : World) (h : CoI s ls B w0 wd W H n g lb L w) => show w.heap[lb]? = some (.cells #[.iface 90 (.agg CS), .iface 92 (.agg CF), .iface 93 (.agg CS), .iface 92 (.agg CT), .iface 94 (.agg CS)] 122 (0, 0)) from by have h2 := h.l; rw [eS, eF, eT] at h2; exact h2)
  have g0 : decide (0 < n) = true := decide_eq_true hn0
  have g0' : decide ((0 : Int) < (n : Int)) = true := decide_eq_true (by omega)
  clear hCS hCF hCT eS eF eT hd hWW hHH hn0 hcl hlen himg hib hPb hBg hlg hw0 hls hBw ho hlb hgw hlw kV b0 b1 hP1 hP2 hP3 hP4 hP5 c1 c2 c3 c4 hR
  obtain ⟨y0, y1, y2, y3, y4⟩ := blk5 (HL.out _ _ HI0.out)
  obtain ⟨⟨d0, -⟩, ⟨d1, -⟩, d2, -⟩ := blk3 HI0.out.m
  have mm0 := m_grounds
  have mm1 := m_images
  have mm2 := m_glyphs
  have mm3 := m_cursor
  go_enter Try.func24, Try.ntmps24
  go_wp2
  refine wp_loop_rounds 6 ?_
  rw [rounds_succ]
  go_wp2_with fail
  refine (names_grounds CS _).mono ?_
  rintro e w' ⟨rfl, rfl⟩
  go_wp2_with fail
  refine (S1.out _ HI0.out).mono ?_
  rintro e w' ⟨rfl, ho, hk⟩
  have hJ := HI0.out.lay ho hk HN.out.1 HN.out.2.1 HN.out.2.2.1
  obtain ⟨U1, U2, U3, f1, f2, f3, ⟨q0, q0'⟩, ⟨q1, q1'⟩, ⟨q2, q2'⟩, bU, kU⟩ := same3 hJ.m
  have HI1 := Lib.hid (hJ.same bU kU HN.out.1 HN.out.2.2.2.2 HN.out.2.2.2.1)
  clear ho hk hJ bU kU y0 y1 y2 y3 y4 d0 d1 d2
  go_wp2
  clear q0 q0' q1 q1' q2 q2' f1 f2 f3
  obtain ⟨y0, y1, y2, y3, y4⟩ := blk5 (HL.out _ _ HI1.out)
  obtain ⟨⟨d0, -⟩, ⟨d1, -⟩, d2, -⟩ := blk3 HI1.out.m
  rw [rounds_succ]
  go_wp2_with fail
  refine (names_images CF _).mono ?_
  rintro e w' ⟨rfl, rfl⟩
  go_wp2_with fail
  refine (S2.out _ HI1.out).mono ?_
  rintro e w' ⟨rfl, ho, hk⟩
  have hJ := HI1.out.lay ho hk HN.out.1 HN.out.2.1 HN.out.2.2.1
  obtain ⟨U1, U2, U3, f1, f2, f3, ⟨q0, q0'⟩, ⟨q1, q1'⟩, ⟨q2, q2'⟩, bU, kU⟩ := same3 hJ.m
  have HI2 := Lib.hid (hJ.same bU kU HN.out.1 HN.out.2.2.2.2 HN.out.2.2.2.1)
  clear ho hk hJ bU kU y0 y1 y2 y3 y4 d0 d1 d2
  go_wp2
  clear q0 q0' q1 q1' q2 q2' f1 f2 f3
  obtain ⟨y0, y1, y2, y3, y4⟩ := blk5 (HL.out _ _ HI2.out)
  obtain ⟨⟨d0, -⟩, ⟨d1, -⟩, d2, -⟩ := blk3 HI2.out.m
  rw [rounds_succ]
  go_wp2_with fail
  refine (names_glyphs CS _).mono ?_
  rintro e w' ⟨rfl, rfl⟩
  go_wp2_with fail
  refine (S3.out _ HI2.out).mono ?_
  rintro e w' ⟨rfl, ho, hk⟩
  have hJ := HI2.out.lay ho hk HN.out.1 HN.out.2.1 HN.out.2.2.1
  obtain ⟨U1, U2, U3, f1, f2, f3, ⟨q0, q0'⟩, ⟨q1, q1'⟩, ⟨q2, q2'⟩, bU, kU⟩ := same3 hJ.m
  have HI3 := Lib.hid (hJ.same bU kU HN.out.1 HN.out.2.2.2.2 HN.out.2.2.2.1)
  clear ho hk hJ bU kU y0 y1 y2 y3 y4 d0 d1 d2
  go_wp2
  clear q0 q0' q1 q1' q2 q2' f1 f2 f3
  obtain ⟨y0, y1, y2, y3, y4⟩ := blk5 (HL.out _ _ HI3.out)
  obtain ⟨⟨d0, -⟩, ⟨d1, -⟩, d2, -⟩ := blk3 HI3.out.m
  rw [rounds_succ]
  go_wp2_with fail
  refine (names_images CT _).mono ?_
  rintro e w' ⟨rfl, rfl⟩
  go_wp2_with fail
  refine (S4.out _ HI3.out).mono ?_
  rintro e w' ⟨rfl, ho, hk⟩
  have hJ := HI3.out.lay ho hk HN.out.1 HN.out.2.1 HN.out.2.2.1
  obtain ⟨U1, U2, U3, f1, f2, f3, ⟨q0, q0'⟩, ⟨q1, q1'⟩, ⟨q2, q2'⟩, bU, kU⟩ := same3 hJ.m
  have HI4 := Lib.hid (hJ.same bU kU HN.out.1 HN.out.2.2.2.2 HN.out.2.2.2.1)
  clear ho hk hJ bU kU y0 y1 y2 y3 y4 d0 d1 d2
  go_wp2
  clear q0 q0' q1 q1' q2 q2' f1 f2 f3
  obtain ⟨y0, y1, y2, y3, y4⟩ := blk5 (HL.out _ _ HI4.out)
  obtain ⟨⟨d0, -⟩, ⟨d1, -⟩, d2, -⟩ := blk3 HI4.out.m
  rw [rounds_succ]
  go_wp2_with fail
  refine (names_cursor CS _).mono ?_
  rintro e w' ⟨rfl, rfl⟩
  go_wp2_with fail
  refine (S5.out _ HI4.out).mono ?_
  rintro e w' ⟨rfl, ho, hk⟩
  have hJ := HI4.out.lay ho hk HN.out.1 HN.out.2.1 HN.out.2.2.1
  obtain ⟨U1, U2, U3, f1, f2, f3, ⟨q0, q0'⟩, ⟨q1, q1'⟩, ⟨q2, q2'⟩, bU, kU⟩ := same3 hJ.m
  have HI5 := Lib.hid (hJ.same bU kU HN.out.1 HN.out.2.2.2.2 HN.out.2.2.2.1)
  clear ho hk hJ bU kU y0 y1 y2 y3 y4 d0 d1 d2
  go_wp2
  clear q0 q0' q1 q1' q2 q2' f1 f2 f3
  obtain ⟨y0, y1, y2, y3, y4⟩ := blk5 (HL.out _ _ HI5.out)
  obtain ⟨⟨d0, -⟩, ⟨d1, -⟩, d2, -⟩ := blk3 HI5.out.m
  rw [rounds_succ]
  obtain ⟨U1, U2, U3, f1, f2, f3, ⟨q0, q0'⟩, ⟨q1, q1'⟩, ⟨q2, q2'⟩, bU, kU⟩ := store3 HI5.out.z (.int .i64 W) (.int .i64 H) (.slice (some ⟨g, 0, none⟩) n n)
  obtain ⟨⟨m0, -⟩, ⟨m1, -⟩, m2, -⟩ := blk3 bU
  have HE := Lib.hid (And.intro (HI5.out.o.kept kU (fun b hb hS => by have h9 : b = wd.heap.size + 1 := hS; have h8 : g = b := (by cases hb; rfl); have := HN.out.1; omega)) (HI5.out.k.trans (kU.mono fun i _ hi => Or.inr (by have h9 : i = wd.heap.size + 1 := hi; omega))))
  clear bU kU
  go_wp2
  exact bodyPost_ret (v := .agg #[.int .i64 W, .int .i64 H, .slice (some ⟨g, 0, none⟩) n n]) (by simp [results, Try.results24, go_sem, m0, m1, m2]) rfl ⟨rfl, HE.out⟩
end Go.Proofs.Ytdjgmhbfohbenaa
