/- A scene drawn. -/
import Derived.Test.YtdjgmhbfohbenaaCompD
namespace Go.Proofs.Ytdjgmhbfohbenaa
open Go.RowKit Go.Sort Pl
set_option linter.unusedVariables false
set_option linter.unusedSimpArgs false
set_option maxRecDepth 100000 in
set_option maxHeartbeats 8000000 in
theorem draw_yes (s : Sc) (ls : List (List Cl)) (img : Bool → List Int → List Int) (wd : World) (W H n : Nat) (hd : Dim s W H n) (hr : 1 ≤ s.rows) (hc : 1 ≤ s.cols) (hWW : W = s.cols * s.cw) (hHH : H = s.rows * s.ch)
    (hcl : ∀ row col, -2147483648 ≤ (cellS ls row col).r ∧ (cellS ls row col).r ≤ 2147483647) (hlen : s.ln ≤ 9223372036854775807) (himg : Imgs s W H n wd.heap.size wd img) (hib : ∀ a P, IsBytes P → IsBytes (img a P))
    (hls : LinesAt wd.heap.size wd s.la s.ln ls) :
    Calls Try.prog 11 #[s.val] wd fun e w' => ∃ g : Nat, e = .returned (.tuple #[mat W H (some ⟨g, 0, none⟩) n n, .int .i64 0]) ∧ wd.heap.size ≤ g ∧ Own .u8 5 w' (.slice (some ⟨g, 0, none⟩) n n) (drawP s ls img W H n (List.replicate n 0)) ∧ Kept (fun _ => False) wd w' := by
  have hd1 := hd.rows
  have hd2 := hd.cols
  have hd3 := hd.cw
  have hd4 := hd.ch
  have hW1 : 1 ≤ W := by rw [hWW]; exact Nat.mul_pos (by omega) (by omega)
  have hH1 : 1 ≤ H := by rw [hHH]; exact Nat.mul_pos (by omega) (by omega)
  have hWH : 1 ≤ W * H := Nat.mul_pos hW1 hH1
  have hn0 : 0 < n := by have := hd.bn; omega
  have hsz : sizeB W H = true := by
    unfold sizeB
    have h1 := hd.bW
    have h2 := hd.bH
    have h3 := hd.bn
    have h4 := hd.bn2
    refine decide_eq_true (.inr ⟨by omega, by omega, by omega, by omega, ?_⟩)
    rw [show (W : Int) * (H : Int) = ((W * H : Nat) : Int) by simp]; omega
  have HNEW := Lib.hid (fun w => show Calls Try.prog 33 #[.int .i64 W, .int .i64 H] w fun e w' => ∃ g, e = .returned (.tuple #[.agg #[.int .i64 W, .int .i64 H, .slice (some ⟨g, 0, none⟩) n n], .int .i64 0]) ∧ w.heap.size ≤ g ∧ Own .u8 5 w' (.slice (some ⟨g, 0, none⟩) n n) (List.replicate n 0) ∧ Kept (fun _ => False) w w' from (new_yes W H w hsz).mono fun e w' ⟨g, k, hk, he, h1, h2, h3⟩ => by
    have h5 := hd.bn
    obtain rfl : k = n := by
      rw [Int.mul_assoc, show (W : Int) * (H : Int) = ((W * H : Nat) : Int) by simp] at hk
      omega
    exact ⟨g, he, h1, h2, h3⟩)
  have HBT := fun (v lo hi : Int) (h1 : lo ≤ v) (h2 : v ≤ hi) (x : World) => show Calls Try.prog 32 #[.int .i64 v, .int .i64 lo, .int .i64 hi] x fun e w' => e = .returned (.bool true) ∧ x = w' from by
    have h := betw_any v lo hi x
    rw [decide_eq_true h1, decide_eq_true h2] at h
    exact h.mono fun _ _ h => ⟨h.1, h.2.symm⟩
  have B1 := Lib.hid (HBT s.rows 1 1000 (by omega) (by omega))
  have B2 := Lib.hid (HBT s.cols 1 1000 (by omega) (by omega))
  have B3 := Lib.hid (HBT s.cw 1 64 (by omega) (by omega))
  have B4 := Lib.hid (HBT s.ch 1 64 (by omega) (by omega))
  have HCO := Lib.hid (fun (w : World) (g lb : Nat) (hg : wd.heap.size ≤ g) (hl : lb ≠ g) (hw0 : Kept (fun i => wd.heap.size ≤ i) wd w) (hlw : LinesAt wd.heap.size w s.la s.ln ls) (hz : wd.heap.size ≤ w.heap.size) (ho : Own .u8 5 w (.slice (some ⟨g, 0, none⟩) n n) (List.replicate n 0)) (hlb : w.heap[lb]? = some (.cells #[.iface 90 s.val, .iface 92 (s.valB false), .iface 93 s.val, .iface 92 (s.valB true), .iface 94 s.val] 122 (0, 0))) =>
    compose_any s ls img wd.heap.size wd w W H n g lb (List.replicate n 0) hd hWW hHH hn0 hcl hlen himg hib (by intro v hv; rw [List.eq_of_mem_replicate hv]; exact ⟨by decide, by decide⟩) hg hl hw0 hlw hz ho hlb)
  obtain ⟨RES, hRES⟩ : ∃ R, drawP s ls img W H n (List.replicate n 0) = R := ⟨_, rfl⟩
  rw [hRES] at HCO ⊢
  have HLS := Lib.hid hls
  have v1 : (s.cols : Int) * (s.cw : Int) = (W : Int) := by rw [hWW]; simp
  have v2 : (s.rows : Int) * (s.ch : Int) = (H : Int) := by rw [hHH]; simp
  have u1 : IntKind.i64.wrap (W : Int) = (W : Int) := IntWalk.i64_in _ (by have := hd.bW; omega)
  have u2 : IntKind.i64.wrap (H : Int) = (H : Int) := IntWalk.i64_in _ (by have := hd.bH; omega)
  obtain ⟨V, hV⟩ : ∃ V, (wd.alloc (.cells s.cs 26)).alloc (.cells #[.int .i64 0, .int .i64 0, .slice none 0 0] 31) = V := ⟨_, rfl⟩
  have kV : Kept (fun _ => False) wd V := by rw [← hV]; exact ((Kept.refl _ _).alloc _).alloc _
  have b0 : V.heap[wd.heap.size]? = some (.cells s.cs 26 (0, 0)) := by rw [← hV]; exact blk_alloc (blk_new _ _) _
  have b1 : V.heap[wd.heap.size + 1]? = some (.cells #[.int .i64 0, .int .i64 0, .slice none 0 0] 31 (0, 0)) := by rw [← hV]; exact blk_at _ _ (by simp)
  have H0 := Lib.hid (And.intro kV (And.intro b0 b1))
  obtain ⟨x0, x1, x2, x3, x4, x5, x6, x7, x8, x9, x10⟩ := blk11 b0
  obtain ⟨rows, cols, cw, ch, la, ln, lc, pa, pn, pc, im, top, cur, row, col⟩ := s
  unfold Sc.cs at hV H0
  unfold Sc.val Sc.valB at HCO
  unfold Sc.val
  simp only at x0 x1 x2 x3 x4 x5 x6 x7 x8 x9 x10 hV B1 B2 B3 B4 v1 v2 HLS ⊢
  clear hd hr hc hWW hHH hcl hlen himg hib hls hW1 hH1 hWH hn0 hsz HBT hRES kV b0 b1 hd1 hd2 hd3 hd4
  go_enter Try.func11, Try.ntmps11
  go_wp2_with (go_at_call 32; first | ((with_reducible refine (B1.out _).mono ?_); rintro e w' ⟨rfl, rfl⟩) | ((with_reducible refine (B2.out _).mono ?_); rintro e w' ⟨rfl, rfl⟩) | ((with_reducible refine (B3.out _).mono ?_); rintro e w' ⟨rfl, rfl⟩) | ((with_reducible refine (B4.out _).mono ?_); rintro e w' ⟨rfl, rfl⟩))
  refine (HNEW.out _).mono ?_
  rintro e w1 ⟨g, rfl, hg, ho, hk1⟩
  obtain ⟨V1, hV1⟩ : ∃ V, w1.alloc (.cells #[.int .i64 W, .int .i64 H, .slice (some ⟨g, 0, none⟩) n n] 31) = V := ⟨_, rfl⟩
  have k1 : Kept (fun _ => False) w1 V1 := by rw [← hV1]; exact (Kept.refl _ _).alloc _
  have c0 : V1.heap[w1.heap.size]? = some (.cells #[.int .i64 W, .int .i64 H, .slice (some ⟨g, 0, none⟩) n n] 31 (0, 0)) := by rw [← hV1]; exact blk_new _ _
  obtain ⟨V2, hV2⟩ : ∃ V, V1.alloc (.cells #[.iface 90 (.agg #[.int .i64 rows, .int .i64 cols, .int .i64 cw, .int .i64 ch, .slice la ln lc, .slice pa pn pc, .map im, .int .i64 top, .bool cur, .int .i64 row, .int .i64 col]), .iface 92 (.agg #[.int .i64 rows, .int .i64 cols, .int .i64 cw, .int .i64 ch, .slice la ln lc, .slice pa pn pc, .map im, .int .i64 top, .bool cur, .int .i64 row, .int .i64 col, .bool false]), .iface 93 (.agg #[.int .i64 rows, .int .i64 cols, .int .i64 cw, .int .i64 ch, .slice la ln lc, .slice pa pn pc, .map im, .int .i64 top, .bool cur, .int .i64 row, .int .i64 col]), .iface 92 (.agg #[.int .i64 rows, .int .i64 cols, .int .i64 cw, .int .i64 ch, .slice la ln lc, .slice pa pn pc, .map im, .int .i64 top, .bool cur, .int .i64 row, .int .i64 col, .bool true]), .iface 94 (.agg #[.int .i64 rows, .int .i64 cols, .int .i64 cw, .int .i64 ch, .slice la ln lc, .slice pa pn pc, .map im, .int .i64 top, .bool cur, .int .i64 row, .int .i64 col])] 122) = V := ⟨_, rfl⟩
  have k2 : Kept (fun _ => False) V1 V2 := by rw [← hV2]; exact (Kept.refl _ _).alloc _
  have c1 := blk_new V1 (.cells #[.iface 90 (.agg #[.int .i64 rows, .int .i64 cols, .int .i64 cw, .int .i64 ch, .slice la ln lc, .slice pa pn pc, .map im, .int .i64 top, .bool cur, .int .i64 row, .int .i64 col]), .iface 92 (.agg #[.int .i64 rows, .int .i64 cols, .int .i64 cw, .int .i64 ch, .slice la ln lc, .slice pa pn pc, .map im, .int .i64 top, .bool cur, .int .i64 row, .int .i64 col, .bool false]), .iface 93 (.agg #[.int .i64 rows, .int .i64 cols, .int .i64 cw, .int .i64 ch, .slice la ln lc, .slice pa pn pc, .map im, .int .i64 top, .bool cur, .int .i64 row, .int .i64 col]), .iface 92 (.agg #[.int .i64 rows, .int .i64 cols, .int .i64 cw, .int .i64 ch, .slice la ln lc, .slice pa pn pc, .map im, .int .i64 top, .bool cur, .int .i64 row, .int .i64 col, .bool true]), .iface 94 (.agg #[.int .i64 rows, .int .i64 cols, .int .i64 cw, .int .i64 ch, .slice la ln lc, .slice pa pn pc, .map im, .int .i64 top, .bool cur, .int .i64 row, .int .i64 col])] 122)
  rw [hV2] at c1
  have kA := hk1.then k1
  have kAll := H0.out.1.then (kA.then k2)
  have hgV : g < V1.heap.size := (ho.kept k1 (fun _ _ => id)).lt g rfl
  have hs2 : wd.heap.size ≤ V2.heap.size := kAll.size
  have HC := Lib.hid (HCO.out V2 g V1.heap.size (by have := H0.out.1.size; omega) (by omega) (kAll.mono fun _ _ h => h.elim) (HLS.out.kept kAll (fun _ h => h.elim)) hs2 (ho.kept (k1.then k2) (fun _ _ => id)) c1)
  obtain ⟨x0, x1, x2, x3, x4, x5, x6, x7, x8, x9, x10⟩ := blk11 (kA.blk H0.out.2.1 id)
  obtain ⟨⟨d0, -⟩, ⟨d1, -⟩, d2, -⟩ := blk3 c0
  have hzg : wd.heap.size + 1 < V.heap.size := lt_of_blk H0.out.2.2
  have H2 := Lib.hid (And.intro kAll (And.intro ((kA.then k2).blk H0.out.2.2 id) (And.intro hg hzg)))
  clear hg ho hk1 k1 c0 k2 c1 kA kAll hgV hs2 hzg
  go_wp2_with fail
  refine HC.out.mono ?_
  rintro e w3 ⟨rfl, ho3, hk3⟩
  obtain ⟨U1, U2, U3, f1, f2, f3, ⟨q0, q0'⟩, ⟨q1, q1'⟩, ⟨q2, q2'⟩, bU, kU⟩ := store3 (hk3.blk H2.out.2.1 (fun (h : wd.heap.size + 1 = g) => by have := H2.out.2.2; omega)) (.int .i64 W) (.int .i64 H) (.slice (some ⟨g, 0, none⟩) n n)
  obtain ⟨⟨m0, -⟩, ⟨m1, -⟩, m2, -⟩ := blk3 bU
  have HE := Lib.hid (And.intro (ho3.kept kU (fun b hb hS => by have h9 : b = wd.heap.size + 1 := hS; have h8 : g = b := (by cases hb; rfl); have := H2.out.2.2; omega)) ((H2.out.1.trans (hk3.mono fun i _ hi => Or.inr (by have h9 : i = g := hi; have := H2.out.2.2; omega))).trans (kU.mono fun i _ hi => Or.inr (by have h9 : i = wd.heap.size + 1 := hi; omega))))
  clear ho3 hk3 bU kU x0 x1 x2 x3 x4 x5 x6 x7 x8 x9 x10 d0 d1 d2
  go_wp2
  exact bodyPost_ret (v := .tuple #[.agg #[.int .i64 W, .int .i64 H, .slice (some ⟨g, 0, none⟩) n n], .int .i64 0]) (by simp [results, Try.results11, go_sem, m0, m1, m2]) rfl ⟨g, rfl, by have := H2.out.2.2; omega, HE.out.1, HE.out.2⟩
set_option maxRecDepth 100000 in
set_option maxHeartbeats 8000000 in
theorem draw_no (rows cols cw ch : Int) (la : Option Addr) (ln lc : Nat) (pa : Option Addr) (pn pc : Nat) (im : Option Nat) (top : Int) (cur : Bool) (row col : Int) (wd : World)
    (h : ¬ ((1 ≤ rows ∧ rows ≤ 1000) ∧ (1 ≤ cols ∧ cols ≤ 1000) ∧ (1 ≤ cw ∧ cw ≤ 64) ∧ (1 ≤ ch ∧ ch ≤ 64))) :
    Calls Try.prog 11 #[.agg #[.int .i64 rows, .int .i64 cols, .int .i64 cw, .int .i64 ch, .slice la ln lc, .slice pa pn pc, .map im, .int .i64 top, .bool cur, .int .i64 row, .int .i64 col]] wd fun e w' => e = .returned (.tuple #[mat0, .int .i64 1]) ∧ Kept (fun _ => False) wd w' := by
  have HB := Lib.hid (fun (v lo hi : Int) (b : Bool) (hb : decide (lo ≤ v ∧ v ≤ hi) = b) (x : World) => show Calls Try.prog 32 #[.int .i64 v, .int .i64 lo, .int .i64 hi] x fun e w' => e = .returned (.bool b) ∧ x = w' from by
    have h := betw_any v lo hi x
    rw [← Bool.decide_and, hb] at h
    exact h.mono fun _ _ h => ⟨h.1, h.2.symm⟩)
  by_cases c0 : 1 ≤ rows ∧ rows ≤ 1000
  rotate_left
  · have HF := Lib.hid (HB.out rows 1 1000 false (decide_eq_false c0))
    clear h HB c0
    go_enter Try.func11, Try.ntmps11
    go_wp2_with (go_at_call 32; first | ((with_reducible refine (HF.out _).mono ?_); rintro e w' ⟨rfl, rfl⟩))
    refine bodyPost_ret (v := .tuple #[mat0, .int .i64 1]) (by simp [results, Try.results11, go_sem, mat0, mat]) rfl ⟨rfl, ?_⟩
    repeat (first | apply Kept.alloc | apply Kept.drew)
    exact Kept.refl _ _
  have HT0 := Lib.hid (HB.out rows 1 1000 true (decide_eq_true c0))
  by_cases c1 : 1 ≤ cols ∧ cols ≤ 1000
  rotate_left
  · have HF := Lib.hid (HB.out cols 1 1000 false (decide_eq_false c1))
    clear h HB c0 c1
    go_enter Try.func11, Try.ntmps11
    go_wp2_with (go_at_call 32; first | ((with_reducible refine (HF.out _).mono ?_); rintro e w' ⟨rfl, rfl⟩) | ((with_reducible refine (HT0.out _).mono ?_); rintro e w' ⟨rfl, rfl⟩))
    refine bodyPost_ret (v := .tuple #[mat0, .int .i64 1]) (by simp [results, Try.results11, go_sem, mat0, mat]) rfl ⟨rfl, ?_⟩
    repeat (first | apply Kept.alloc | apply Kept.drew)
    exact Kept.refl _ _
  have HT1 := Lib.hid (HB.out cols 1 1000 true (decide_eq_true c1))
  by_cases c2 : 1 ≤ cw ∧ cw ≤ 64
  rotate_left
  · have HF := Lib.hid (HB.out cw 1 64 false (decide_eq_false c2))
    clear h HB c0 c1 c2
    go_enter Try.func11, Try.ntmps11
    go_wp2_with (go_at_call 32; first | ((with_reducible refine (HF.out _).mono ?_); rintro e w' ⟨rfl, rfl⟩) | ((with_reducible refine (HT0.out _).mono ?_); rintro e w' ⟨rfl, rfl⟩) | ((with_reducible refine (HT1.out _).mono ?_); rintro e w' ⟨rfl, rfl⟩))
    refine bodyPost_ret (v := .tuple #[mat0, .int .i64 1]) (by simp [results, Try.results11, go_sem, mat0, mat]) rfl ⟨rfl, ?_⟩
    repeat (first | apply Kept.alloc | apply Kept.drew)
    exact Kept.refl _ _
  have HT2 := Lib.hid (HB.out cw 1 64 true (decide_eq_true c2))
  by_cases c3 : 1 ≤ ch ∧ ch ≤ 64
  rotate_left
  · have HF := Lib.hid (HB.out ch 1 64 false (decide_eq_false c3))
    clear h HB c0 c1 c2 c3
    go_enter Try.func11, Try.ntmps11
    go_wp2_with (go_at_call 32; first | ((with_reducible refine (HF.out _).mono ?_); rintro e w' ⟨rfl, rfl⟩) | ((with_reducible refine (HT0.out _).mono ?_); rintro e w' ⟨rfl, rfl⟩) | ((with_reducible refine (HT1.out _).mono ?_); rintro e w' ⟨rfl, rfl⟩) | ((with_reducible refine (HT2.out _).mono ?_); rintro e w' ⟨rfl, rfl⟩))
    refine bodyPost_ret (v := .tuple #[mat0, .int .i64 1]) (by simp [results, Try.results11, go_sem, mat0, mat]) rfl ⟨rfl, ?_⟩
    repeat (first | apply Kept.alloc | apply Kept.drew)
    exact Kept.refl _ _
  have HT3 := Lib.hid (HB.out ch 1 64 true (decide_eq_true c3))
  exact absurd ⟨c0, c1, c2, c3⟩ h
end Go.Proofs.Ytdjgmhbfohbenaa
