/- The cursor turns the colours of its cell round. -/
import Derived.Test.YtdjgmhbfohbenaaMEac
namespace Go.Proofs.Ytdjgmhbfohbenaa
open Go.RowKit Go.Sort Pl
set_option linter.unusedVariables false
set_option linter.unusedSimpArgs false
def curD (t : Spot) (P : List Int) (Y X k q : Nat) : Int := if t.inside (q / 4) ∧ q % 4 < 3 ∧ (t.done Y X (q / 4) ∨ (q / 4 = Y * t.W + X ∧ q % 4 < k)) then 255 - P.getD q 0 else P.getD q 0
def curF (t : Spot) (P : List Int) (q : Nat) : Int := if t.inside (q / 4) ∧ q % 4 < 3 then 255 - P.getD q 0 else P.getD q 0
theorem curD_start (t : Spot) (P : List Int) (n : Nat) (hp : P.length = n) : tab n (curD t P t.y0 t.x0 0) = P := by
  refine list_ext (by rw [tab_length, hp]) (fun j hj => ?_)
  rw [tab_length] at hj
  rw [tab_get hj]
  unfold curD
  rw [if_neg]
  rintro ⟨h1, -, h2⟩
  unfold Spot.inside at h1
  unfold Spot.done at h2
  omega
theorem curD_end (t : Spot) (P : List Int) (n X Y : Nat) (hY : t.y1 ≤ Y) : tab n (curD t P Y X 0) = tab n (curF t P) := by
  refine tab_ext fun j hj => ?_
  unfold curD curF
  by_cases h : t.inside (j / 4) ∧ j % 4 < 3
  · rw [if_pos h, if_pos]
    refine ⟨h.1, h.2, .inl ?_⟩
    have h1 := h.1
    unfold Spot.inside at h1
    unfold Spot.done
    omega
  · rw [if_neg h, if_neg (fun h2 => h ⟨h2.1, h2.2.1⟩)]
theorem curD_row (t : Spot) (P : List Int) (n X Y : Nat) (hX : t.x1 ≤ X) : tab n (curD t P Y X 0) = tab n (curD t P (Y + 1) t.x0 0) := by
  refine tab_ext fun j hj => ?_
  unfold curD
  by_cases h : t.inside (j / 4)
  · have e : (t.done Y X (j / 4) ∨ (j / 4 = Y * t.W + X ∧ j % 4 < 0)) ↔ (t.done (Y + 1) t.x0 (j / 4) ∨ (j / 4 = (Y + 1) * t.W + t.x0 ∧ j % 4 < 0)) := by
      unfold Spot.inside at h
      unfold Spot.done
      omega
    by_cases h2 : j % 4 < 3
    · by_cases h3 : t.done Y X (j / 4) ∨ (j / 4 = Y * t.W + X ∧ j % 4 < 0)
      · rw [if_pos ⟨h, h2, h3⟩, if_pos ⟨h, h2, e.1 h3⟩]
      · rw [if_neg (fun h4 => h3 h4.2.2), if_neg (fun h4 => h3 (e.2 h4.2.2))]
    · rw [if_neg (fun h4 => h2 h4.2.1), if_neg (fun h4 => h2 h4.2.1)]
  · rw [if_neg (fun h4 => h h4.1), if_neg (fun h4 => h h4.1)]
theorem curD_pix (t : Spot) (P : List Int) (n X Y : Nat) (hX : X < t.W) : tab n (curD t P Y X 3) = tab n (curD t P Y (X + 1) 0) := by
  refine tab_ext fun j hj => ?_
  unfold curD
  obtain ⟨e1, e2⟩ := pos_of (y := Y) hX
  have e : j % 4 < 3 → ((t.done Y X (j / 4) ∨ (j / 4 = Y * t.W + X ∧ j % 4 < 3)) ↔ (t.done Y (X + 1) (j / 4) ∨ (j / 4 = Y * t.W + (X + 1) ∧ j % 4 < 0))) := by
    intro hk
    constructor
    · rintro (h | ⟨h, -⟩)
      · left; unfold Spot.done at *; omega
      · left; unfold Spot.done; rw [h, e1, e2]; omega
    · rintro (h | ⟨-, h⟩)
      · unfold Spot.done at *
        by_cases h2 : j / 4 / t.W < Y ∨ j / 4 / t.W = Y ∧ j / 4 % t.W < X
        · exact .inl h2
        · exact .inr ⟨unpos (by omega) (by omega), hk⟩
      · omega
  by_cases h : t.inside (j / 4)
  · by_cases h2 : j % 4 < 3
    · by_cases h3 : t.done Y X (j / 4) ∨ (j / 4 = Y * t.W + X ∧ j % 4 < 3)
      · rw [if_pos ⟨h, h2, h3⟩, if_pos ⟨h, h2, (e h2).1 h3⟩]
      · rw [if_neg (fun h4 => h3 h4.2.2), if_neg (fun h4 => h3 ((e h2).2 h4.2.2))]
    · rw [if_neg (fun h4 => h2 h4.2.1), if_neg (fun h4 => h2 h4.2.1)]
  · rw [if_neg (fun h4 => h h4.1), if_neg (fun h4 => h h4.1)]
theorem curD_get (t : Spot) (P : List Int) (n X Y k : Nat) (hX : X < t.W) (hk : k < 3) (hn : 4 * (Y * t.W + X) + 4 ≤ n) : (tab n (curD t P Y X k)).getD (4 * (Y * t.W + X) + k) 0 = P.getD (4 * (Y * t.W + X) + k) 0 := by
  rw [tab_get (by omega)]
  unfold curD
  rw [if_neg]
  rintro ⟨-, -, h⟩
  have e4 : (4 * (Y * t.W + X) + k) / 4 = Y * t.W + X := by omega
  obtain ⟨e1, e2⟩ := pos_of (y := Y) hX
  rw [e4] at h
  unfold Spot.done at h
  rw [e1, e2] at h
  omega
theorem curD_step (t : Spot) (P : List Int) (n X Y k : Nat) (hX : X < t.W) (h0 : t.x0 ≤ X) (h1 : X < t.x1) (h2 : t.y0 ≤ Y) (h3 : Y < t.y1) (hk : k < 3) (hn : 4 * (Y * t.W + X) + 4 ≤ n) :
    (tab n (curD t P Y X k)).set (4 * (Y * t.W + X) + k) (255 - P.getD (4 * (Y * t.W + X) + k) 0) = tab n (curD t P Y X (k + 1)) := by
  rw [tab_set (by omega)]
  obtain ⟨e1, e2⟩ := pos_of (y := Y) hX
  refine tab_ext fun j hj => ?_
  by_cases hj4 : j = 4 * (Y * t.W + X) + k
  · rw [if_pos hj4]
    have e4 : j / 4 = Y * t.W + X := by omega
    have e5 : j % 4 = k := by omega
    unfold curD
    rw [if_pos, hj4]
    refine ⟨?_, by omega, .inr ⟨e4, by omega⟩⟩
    rw [e4]
    unfold Spot.inside
    rw [e1, e2]
    omega
  · rw [if_neg hj4]
    unfold curD
    have e : (t.done Y X (j / 4) ∨ (j / 4 = Y * t.W + X ∧ j % 4 < k)) ↔ (t.done Y X (j / 4) ∨ (j / 4 = Y * t.W + X ∧ j % 4 < k + 1)) := by
      constructor
      · rintro (h | h)
        · exact .inl h
        · exact .inr ⟨h.1, by omega⟩
      · rintro (h | h)
        · exact .inl h
        · exact .inr ⟨h.1, by omega⟩
    by_cases h : t.inside (j / 4) ∧ j % 4 < 3
    · by_cases h5 : t.done Y X (j / 4) ∨ (j / 4 = Y * t.W + X ∧ j % 4 < k)
      · rw [if_pos ⟨h.1, h.2, h5⟩, if_pos ⟨h.1, h.2, e.1 h5⟩]
      · rw [if_neg (fun h4 => h5 h4.2.2), if_neg (fun h4 => h5 (e.2 h4.2.2))]
    · rw [if_neg (fun h4 => h ⟨h4.1, h4.2.1⟩), if_neg (fun h4 => h ⟨h4.1, h4.2.1⟩)]
def curS (s : Sc) : Prop := s.cur = true ∧ (0 ≤ s.row ∧ s.row ≤ (s.rows : Int) - 1) ∧ (0 ≤ s.col ∧ s.col ≤ (s.cols : Int) - 1)
instance (s : Sc) : Decidable (curS s) := inferInstanceAs (Decidable (_ ∧ _))
def curSpot (s : Sc) (W : Nat) : Spot := ⟨W, 0, 0, 0, s.col.toNat * s.cw, (s.col.toNat + 1) * s.cw, s.row.toNat * s.ch, (s.row.toNat + 1) * s.ch⟩
def curP (s : Sc) (W n : Nat) (P : List Int) : List Int := if curS s then tab n (curF (curSpot s W) P) else P
/-- What holds of memory while the cursor is drawn. -/
def CuI (s : Sc) (wd : World) (W H n g : Nat) (L : List Int) (wr : World) : Prop :=
  MatI W H n (wd.heap.size + 1) g L wr ∧ Kept (fun i => i = g) wd wr ∧ wr.heap[wd.heap.size + 1 + 1]? = some (.cells #[.int .i64 0, .int .i64 0, .slice none 0 0] 31 (0, 0)) ∧ wr.heap[wd.heap.size + 1 + 1 + 1]? = some (.cells s.cs 26 (0, 0))
theorem CuI.kept {s : Sc} {wd : World} {W H n g : Nat} {L : List Int} {wr w2 : World} (h : CuI s wd W H n g L wr) (hk : Kept (fun _ => False) wr w2) : CuI s wd W H n g L w2 :=
  ⟨h.1.kept hk, h.2.1.then (hk.mono fun _ _ h => h.elim), hk.blk h.2.2.1 id, hk.blk h.2.2.2 id⟩
theorem CuI.put {s : Sc} {wd : World} {W H n g : Nat} {L L' : List Int} {wr w2 : World} (h : CuI s wd W H n g L wr) (ho : Own .u8 5 w2 (.slice (some ⟨g, 0, none⟩) n n) L') (hk : Kept (fun i => i = g) wr w2) (hgw : g < wd.heap.size) : CuI s wd W H n g L' w2 :=
  ⟨⟨ho, hk.blk h.1.2 (fun (h : wd.heap.size + 1 = g) => by omega)⟩, h.2.1.then hk, hk.blk h.2.2.1 (fun (h : wd.heap.size + 1 + 1 = g) => by omega), hk.blk h.2.2.2 (fun (h : wd.heap.size + 1 + 1 + 1 = g) => by omega)⟩
set_option maxRecDepth 100000 in
set_option maxHeartbeats 8000000 in
theorem cursor_any (s : Sc) (W H n g : Nat) (P : List Int) (wd : World) (hd : Dim s W H n) (hWW : W = s.cols * s.cw) (hHH : H = s.rows * s.ch) (hPb : IsBytes P)
    (ho : Own .u8 5 wd (.slice (some ⟨g, 0, none⟩) n n) P) :
    Calls Try.prog 114 #[s.val, .agg #[.int .i64 W, .int .i64 H, .slice (some ⟨g, 0, none⟩) n n]] wd fun e w' => e = .returned (.agg #[.int .i64 W, .int .i64 H, .slice (some ⟨g, 0, none⟩) n n]) ∧ Own .u8 5 w' (.slice (some ⟨g, 0, none⟩) n n) (curP s W n P) ∧ Kept (fun i => i = g) wd w' := by
  have hgw := ho.lt g rfl
  have HG := Lib.hid hgw
  have hPl : P.length = n := by obtain ⟨_, _, hv, -⟩ := ho.shape; cases hv; rfl
  obtain ⟨V, hV⟩ : ∃ V, (((wd.alloc (.cells s.cs 94)).alloc (.cells #[.int .i64 W, .int .i64 H, .slice (some ⟨g, 0, none⟩) n n] 31)).alloc (.cells #[.int .i64 0, .int .i64 0, .slice none 0 0] 31)).alloc (.cells s.cs 26) = V := ⟨_, rfl⟩
  have kV : Kept (fun _ => False) wd V := by rw [← hV]; exact ((((Kept.refl _ _).alloc _).alloc _).alloc _).alloc _
  have b0 : ((wd.alloc (.cells s.cs 94)).alloc (.cells #[.int .i64 W, .int .i64 H, .slice (some ⟨g, 0, none⟩) n n] 31)).heap[wd.heap.size]? = some (.cells s.cs 94 (0, 0)) := blk_alloc (blk_new _ _) _
  have b1 : V.heap[wd.heap.size + 1]? = some (.cells #[.int .i64 W, .int .i64 H, .slice (some ⟨g, 0, none⟩) n n] 31 (0, 0)) := by rw [← hV]; exact blk_alloc (blk_alloc (blk_at _ _ (by simp)) _) _
  have b2 : V.heap[wd.heap.size + 1 + 1]? = some (.cells #[.int .i64 0, .int .i64 0, .slice none 0 0] 31 (0, 0)) := by rw [← hV]; exact blk_alloc (blk_at _ _ (by simp)) _
  have b3 : V.heap[wd.heap.size + 1 + 1 + 1]? = some (.cells s.cs 26 (0, 0)) := by rw [← hV]; exact blk_at _ _ (by simp)
  have HI0 := Lib.hid (show CuI s wd W H n g P V from ⟨⟨ho.kept kV (fun _ _ => id), b1⟩, kV.mono (fun _ _ h => h.elim), b2, b3⟩)
  have hcp : curP s W n P = if curS s then tab n (curF (curSpot s W) P) else P := rfl
  obtain ⟨RES, hRES⟩ : ∃ R, curP s W n P = R := ⟨_, rfl⟩
  rw [hRES] at hcp ⊢
  have hd1 := hd.rows
  have hd2 := hd.cols
  have hd3 := hd.cw
  have hd4 := hd.ch
  have hd5 := hd.bn
  have hd6 := hd.bW
  have hd7 := hd.bH
  have hd8 := hd.bn2
  obtain ⟨y0, y1, y2, y3, y4, y5, y6, y7, y8, y9, y10⟩ := blk11 b3
  obtain ⟨U9, hU9⟩ : ∃ U, (wd.alloc (.cells s.cs 94)).alloc (.cells #[.int .i64 W, .int .i64 H, .slice (some ⟨g, 0, none⟩) n n] 31) = U := ⟨_, rfl⟩
  obtain ⟨U8, hU8⟩ : ∃ U, U9.alloc (.cells #[.int .i64 0, .int .i64 0, .slice none 0 0] 31) = U := ⟨_, rfl⟩
  rw [hU9] at b0 hV
  rw [hU8] at hV
  have k8 : Kept (fun _ => False) U9 U8 := by rw [← hU8]; exact (Kept.refl _ _).alloc _
  obtain ⟨x0, x1, x2, x3, x4, x5, x6, x7, x8, x9, x10⟩ := blk11 (k8.blk b0 id)
  have s8 : U8.heap.size = wd.heap.size + 1 + 1 + 1 := by rw [← hU8, ← hU9]; simp
  have s9 : U9.heap.size = wd.heap.size + 1 + 1 := by rw [← hU9]; simp
  obtain ⟨rows, cols, cw, ch, la, ln, lc, pa, pn, pc, im, top, cur, row, col⟩ := s
  unfold Sc.cs at hU9 hV
  unfold Sc.val
  simp only at x0 x1 x2 x3 x4 x5 x6 x7 x8 x9 x10 y0 y1 y2 y3 y4 y5 y6 y7 y8 y9 y10 hV hU9 hd1 hd2 hd3 hd4 hWW hHH ⊢
  have HCP := Lib.hid hcp
  have w1 : IntKind.i64.wrap ((rows : Int) - 1) = (rows : Int) - 1 := IntWalk.i64_in _ (by omega)
  have w2 : IntKind.i64.wrap ((cols : Int) - 1) = (cols : Int) - 1 := IntWalk.i64_in _ (by omega)
  have HBT := Lib.hid (fun (v lo hi : Int) (b : Bool) (hb : (decide (lo ≤ v) && decide (v ≤ hi)) = b) (x : World) => show Calls Try.prog 32 #[.int .i64 v, .int .i64 lo, .int .i64 hi] x fun e w' => e = .returned (.bool b) ∧ x = w' from by rw [← hb]; exact (betw_any v lo hi x).mono fun _ _ h => ⟨h.1, h.2.symm⟩)
  clear hcp hRES hd b0 b1 b2 b3 kV ho hgw k8
  cases cur with
  | false =>
    have hR : RES = P := by rw [HCP.out, if_neg (fun h => by cases h.1)]
    subst hR
    obtain ⟨⟨d0, -⟩, ⟨d1, -⟩, d2, -⟩ := blk3 HI0.out.1.2
    obtain ⟨U1, U2, U3, f1, f2, f3, ⟨z0, z0'⟩, ⟨z1, z1'⟩, ⟨z2, z2'⟩, bU, kU⟩ := store3 HI0.out.2.2.1 (.int .i64 W) (.int .i64 H) (.slice (some ⟨g, 0, none⟩) n n)
    obtain ⟨⟨m0, -⟩, ⟨m1, -⟩, m2, -⟩ := blk3 bU
    have HE := Lib.hid (And.intro (HI0.out.1.1.kept kU (fun b hb hS => by have h9 : b = wd.heap.size + 1 + 1 := hS; have h8 : g = b := (by cases hb; rfl); have := HG.out; omega)) (HI0.out.2.1.trans (kU.mono fun i _ hi => Or.inr (by have h9 : i = wd.heap.size + 1 + 1 := hi; omega))))
    clear bU kU
    clear hPl hWW hHH hd1 hd2 hd3 hd4 hd5 hd6 hd7 hd8
    go_enter Try.func114, Try.ntmps114
    go_wp2
    exact bodyPost_ret (v := .agg #[.int .i64 W, .int .i64 H, .slice (some ⟨g, 0, none⟩) n n]) (by simp [results, Try.results114, go_sem, m0, m1, m2]) rfl ⟨rfl, HE.out⟩
  | true =>
    by_cases c1 : 0 ≤ row ∧ row ≤ (rows : Int) - 1
    rotate_left
    · have hR : RES = P := by rw [HCP.out, if_neg (fun h => c1 h.2.1)]
      subst hR
      have B1 := Lib.hid (fun x => HBT.out row 0 ((rows : Int) - 1) false (by rw [← Bool.decide_and]; exact decide_eq_false c1) x)
      obtain ⟨⟨d0, -⟩, ⟨d1, -⟩, d2, -⟩ := blk3 HI0.out.1.2
      obtain ⟨U1, U2, U3, f1, f2, f3, ⟨z0, z0'⟩, ⟨z1, z1'⟩, ⟨z2, z2'⟩, bU, kU⟩ := store3 HI0.out.2.2.1 (.int .i64 W) (.int .i64 H) (.slice (some ⟨g, 0, none⟩) n n)
      obtain ⟨⟨m0, -⟩, ⟨m1, -⟩, m2, -⟩ := blk3 bU
      have HE := Lib.hid (And.intro (HI0.out.1.1.kept kU (fun b hb hS => by have h9 : b = wd.heap.size + 1 + 1 := hS; have h8 : g = b := (by cases hb; rfl); have := HG.out; omega)) (HI0.out.2.1.trans (kU.mono fun i _ hi => Or.inr (by have h9 : i = wd.heap.size + 1 + 1 := hi; omega))))
      clear bU kU
      clear hPl hWW hHH hd1 hd2 hd3 hd4 hd5 hd6 hd7 hd8 c1
      go_enter Try.func114, Try.ntmps114
      go_wp2_with (go_at_call 32; (with_reducible refine (B1.out _).mono ?_); rintro e w' ⟨rfl, rfl⟩)
      exact bodyPost_ret (v := .agg #[.int .i64 W, .int .i64 H, .slice (some ⟨g, 0, none⟩) n n]) (by simp [results, Try.results114, go_sem, m0, m1, m2]) rfl ⟨rfl, HE.out⟩
    have B1 := Lib.hid (fun x => HBT.out row 0 ((rows : Int) - 1) true (by rw [← Bool.decide_and]; exact decide_eq_true c1) x)
    by_cases c2 : 0 ≤ col ∧ col ≤ (cols : Int) - 1
    rotate_left
    · have hR : RES = P := by rw [HCP.out, if_neg (fun h => c2 h.2.2)]
      subst hR
      have B2 := Lib.hid (fun x => HBT.out col 0 ((cols : Int) - 1) false (by rw [← Bool.decide_and]; exact decide_eq_false c2) x)
      obtain ⟨⟨d0, -⟩, ⟨d1, -⟩, d2, -⟩ := blk3 HI0.out.1.2
      obtain ⟨U1, U2, U3, f1, f2, f3, ⟨z0, z0'⟩, ⟨z1, z1'⟩, ⟨z2, z2'⟩, bU, kU⟩ := store3 HI0.out.2.2.1 (.int .i64 W) (.int .i64 H) (.slice (some ⟨g, 0, none⟩) n n)
      obtain ⟨⟨m0, -⟩, ⟨m1, -⟩, m2, -⟩ := blk3 bU
      have HE := Lib.hid (And.intro (HI0.out.1.1.kept kU (fun b hb hS => by have h9 : b = wd.heap.size + 1 + 1 := hS; have h8 : g = b := (by cases hb; rfl); have := HG.out; omega)) (HI0.out.2.1.trans (kU.mono fun i _ hi => Or.inr (by have h9 : i = wd.heap.size + 1 + 1 := hi; omega))))
      clear bU kU
      clear hPl hWW hHH hd1 hd2 hd3 hd4 hd5 hd6 hd7 hd8 c1 c2
      go_enter Try.func114, Try.ntmps114
      go_wp2_with (go_at_call 32; first | ((with_reducible refine (B1.out _).mono ?_); rintro e w' ⟨rfl, rfl⟩) | ((with_reducible refine (B2.out _).mono ?_); rintro e w' ⟨rfl, rfl⟩))
      exact bodyPost_ret (v := .agg #[.int .i64 W, .int .i64 H, .slice (some ⟨g, 0, none⟩) n n]) (by simp [results, Try.results114, go_sem, m0, m1, m2]) rfl ⟨rfl, HE.out⟩
    have B2 := Lib.hid (fun x => HBT.out col 0 ((cols : Int) - 1) true (by rw [← Bool.decide_and]; exact decide_eq_true c2) x)
    obtain ⟨R, rfl⟩ : ∃ R : Nat, row = (R : Int) := ⟨row.toNat, by omega⟩
    obtain ⟨C, rfl⟩ : ∃ C : Nat, col = (C : Int) := ⟨col.toNat, by omega⟩
    have hR1 : R < rows := by omega
    have hC1 : C < cols := by omega
    have HRES := Lib.hid (show RES = tab n (curF ⟨W, 0, 0, 0, C * cw, (C + 1) * cw, R * ch, (R + 1) * ch⟩ P) by rw [HCP.out, if_pos ⟨rfl, c1, c2⟩]; unfold curSpot; simp only [Int.toNat_natCast])
    have bx1 : (C + 1) * cw ≤ W := by rw [hWW]; exact Nat.mul_le_mul (by omega) (Nat.le_refl _)
    have by1 : (R + 1) * ch ≤ H := by rw [hHH]; exact Nat.mul_le_mul (by omega) (Nat.le_refl _)
    have ex1 : (C + 1) * cw = C * cw + cw := Nat.succ_mul ..
    have ey1 : (R + 1) * ch = R * ch + ch := Nat.succ_mul ..
    obtain ⟨x0', hx0'⟩ : ∃ x, C * cw = x := ⟨_, rfl⟩
    obtain ⟨y0', hy0'⟩ : ∃ x, R * ch = x := ⟨_, rfl⟩
    obtain ⟨x1', hx1'⟩ : ∃ x, (C + 1) * cw = x := ⟨_, rfl⟩
    obtain ⟨y1', hy1'⟩ : ∃ x, (R + 1) * ch = x := ⟨_, rfl⟩
    rw [hx0', hx1'] at ex1
    rw [hy0', hy1'] at ey1
    rw [hx1'] at bx1
    rw [hy1'] at by1
    rw [hx0', hx1', hy0', hy1'] at HRES
    have q1 : (R : Int) * (ch : Int) = (y0' : Int) := by rw [← hy0']; simp
    have q2 : (C : Int) * (cw : Int) = (x0' : Int) := by rw [← hx0']; simp
    have q3 : ((R : Int) + 1) * (ch : Int) = (y1' : Int) := by rw [← hy1']; simp
    have q4 : ((C : Int) + 1) * (cw : Int) = (x1' : Int) := by rw [← hx1']; simp
    have u1 : IntKind.i64.wrap (y0' : Int) = (y0' : Int) := IntWalk.i64_in _ (by omega)
    have u2 : IntKind.i64.wrap (x0' : Int) = (x0' : Int) := IntWalk.i64_in _ (by omega)
    have u3 : IntKind.i64.wrap (y1' : Int) = (y1' : Int) := IntWalk.i64_in _ (by omega)
    have u4 : IntKind.i64.wrap (x1' : Int) = (x1' : Int) := IntWalk.i64_in _ (by omega)
    have u5 : IntKind.i64.wrap ((R : Int) + 1) = (R : Int) + 1 := IntWalk.i64_in _ (by omega)
    have u6 : IntKind.i64.wrap ((C : Int) + 1) = (C : Int) + 1 := IntWalk.i64_in _ (by omega)
    obtain ⟨t, ht⟩ : ∃ t : Spot, (⟨W, 0, 0, 0, x0', x1', y0', y1'⟩ : Spot) = t := ⟨_, rfl⟩
    rw [ht] at HRES
    have HSTART := Lib.hid (show tab n (curD t P y0' x0' 0) = P from by have h := curD_start t P n hPl; rw [← ht] at h ⊢; exact h)
    have HEND := Lib.hid (show tab n (curD t P y1' x0' 0) = tab n (curF t P) from curD_end t P n x0' y1' (by rw [← ht]; exact Nat.le_refl _))
    have HROW := Lib.hid (fun (Y : Nat) => show tab n (curD t P Y x1' 0) = tab n (curD t P (Y + 1) x0' 0) from by have h := curD_row t P n x1' Y (by rw [← ht]; exact Nat.le_refl _); rw [← ht] at h ⊢; exact h)
    have HPIX := Lib.hid (fun (Y X : Nat) (hX : X < W) => show tab n (curD t P Y X 3) = tab n (curD t P Y (X + 1) 0) from curD_pix t P n X Y (by rw [← ht]; exact hX))
    have HGET := Lib.hid (fun (Y X k : Nat) (hX : X < W) (hk : k < 3) (hn : 4 * (Y * W + X) + 4 ≤ n) => show (tab n (curD t P Y X k)).getD (4 * (Y * W + X) + k) 0 = P.getD (4 * (Y * W + X) + k) 0 from by have h := curD_get t P n X Y k (by rw [← ht]; exact hX) hk (by rw [← ht]; exact hn); rw [← ht] at h ⊢; exact h)
    have HSTEP := Lib.hid (fun (Y X k : Nat) (hX : X < W) (h0 : x0' ≤ X) (h1 : X < x1') (h2 : y0' ≤ Y) (h3 : Y < y1') (hk : k < 3) (hn : 4 * (Y * W + X) + 4 ≤ n) => show (tab n (curD t P Y X k)).set (4 * (Y * W + X) + k) (255 - P.getD (4 * (Y * W + X) + k) 0) = tab n (curD t P Y X (k + 1)) from by
      have h := curD_step t P n X Y k (by rw [← ht]; exact hX) (by rw [← ht]; exact h0) (by rw [← ht]; exact h1) (by rw [← ht]; exact h2) (by rw [← ht]; exact h3) hk (by rw [← ht]; exact hn)
      rw [← ht] at h ⊢
      exact h)
    have HPB := Lib.hid hPb
    have HEX := Lib.hid (And.intro ex1 ey1)
    clear ex1 ey1
    have HDIM := Lib.hid (And.intro hd5 (And.intro hd6 (And.intro hd7 hd8)))
    clear ht hPl hx0' hx1' hy0' hy1' hWW hHH hd5 c1 c2 hPb
    go_enter Try.func114, Try.ntmps114
    go_wp2_with (go_at_call 32; first | ((with_reducible refine (B1.out _).mono ?_); rintro e w' ⟨rfl, rfl⟩) | ((with_reducible refine (B2.out _).mono ?_); rintro e w' ⟨rfl, rfl⟩))
    clear x0 x1 x2 x3 x4 x5 x6 x7 x8 x9 x10 y0 y1 y2 y3 y4 y5 y6 y7 y8 y9 y10
    go_loopg [6, 7, 8, 63] y1' (fun gg yv _ _ _ wr => ∃ Y : Nat, y1' ≤ gg + Y ∧ y0' ≤ Y ∧ Y ≤ y1' ∧ yv = .int .i64 Y ∧ CuI ⟨rows, cols, cw, ch, la, ln, lc, pa, pn, pc, im, top, true, R, C⟩ wd W H n g (tab n (curD t P Y x0' 0)) wr)
    case atStart => exact ⟨y0', by omega, by omega, by have := HEX.out; omega, rfl, by rw [HSTART.out]; exact HI0.out⟩
    case round =>
      obtain ⟨Y, hgg, hYa, hYb, rfl, hinv⟩ := hrel
      obtain ⟨y0, y1, y2, y3, -, -, -, -, -, y9, y10⟩ := blk11 hinv.2.2.2
      by_cases hY1 : Y < y1'
      · have gy : decide (Y < y1') = true := decide_eq_true hY1
        have gy' : decide ((Y : Int) < (y1' : Int)) = true := decide_eq_true (by omega)
        have wY : IntKind.i64.wrap ((Y : Int) + 1) = (Y : Int) + 1 := IntWalk.i64_in _ (by omega)
        have HI := Lib.hid hinv
        obtain ⟨gko, hgo⟩ : ∃ x, x = gk := ⟨_, rfl⟩
        subst hgo
        clear hinv
        go_wp2
        clear y0 y1 y2 y3 y9 y10
        go_loopg [7, 8, 63] x1' (fun gg xv _ _ wr => ∃ X : Nat, x1' ≤ gg + X ∧ x0' ≤ X ∧ X ≤ x1' ∧ xv = .int .i64 X ∧ CuI ⟨rows, cols, cw, ch, la, ln, lc, pa, pn, pc, im, top, true, R, C⟩ wd W H n g (tab n (curD t P Y X 0)) wr)
        case atStart => exact ⟨x0', by omega, by omega, by have := HEX.out; omega, rfl, HI.out⟩
        case round =>
          obtain ⟨X, hgx, hXa, hXb, rfl, hinv⟩ := hrel
          obtain ⟨y0, y1, y2, y3, -, -, -, -, -, y9, y10⟩ := blk11 hinv.2.2.2
          by_cases hX1 : X < x1'
          · have gx : decide (X < x1') = true := decide_eq_true hX1
            have gx' : decide ((X : Int) < (x1' : Int)) = true := decide_eq_true (by omega)
            have wX : IntKind.i64.wrap ((X : Int) + 1) = (X : Int) + 1 := IntWalk.i64_in _ (by omega)
            have hXW : X < W := by omega
            have hYH : Y < H := by omega
            have hPn := fit_idx hXW hYH
            have hn4 : 4 * (Y * W + X) + 4 ≤ n := by have := HDIM.out.1; omega
            have HI2 := Lib.hid hinv
            obtain ⟨gkx, hgo⟩ : ∃ x, x = gk := ⟨_, rfl⟩
            subst hgo
            have HXN := Lib.hid (And.intro hXW hn4)
            obtain ⟨yW, hyW⟩ : ∃ q, Y * W = q := ⟨_, rfl⟩
            rw [hyW] at hPn hn4
            have v5 : (Y : Int) * (W : Int) = (yW : Int) := by rw [← hyW]; simp
            have HYW := Lib.hid hyW
            have HGET2 := Lib.hid (fun (k : Nat) (hk : k < 3) => show (tab n (curD t P Y X k)).getD (4 * (yW + X) + k) 0 = P.getD (4 * (yW + X) + k) 0 from by have h := HGET.out Y X k hXW hk HXN.out.2; rw [hyW] at h; exact h)
            have HSTEP2 := Lib.hid (fun (k : Nat) (hk : k < 3) => show (tab n (curD t P Y X k)).set (4 * (yW + X) + k) (255 - P.getD (4 * (yW + X) + k) 0) = tab n (curD t P Y X (k + 1)) from by have h := HSTEP.out Y X k hXW hXa hX1 hYa hY1 hk HXN.out.2; rw [hyW] at h; exact h)
            clear hinv hPn hyW
            go_wp2
            clear y0 y1 y2 y3 y9 y10
            go_loopg [8, 63] 3 (fun gg _ kv wr => ∃ k : Nat, k ≤ 3 ∧ 3 ≤ gg + k ∧ kv = .int .i64 k ∧ CuI ⟨rows, cols, cw, ch, la, ln, lc, pa, pn, pc, im, top, true, R, C⟩ wd W H n g (tab n (curD t P Y X k)) wr)
            case atStart => exact ⟨0, by omega, by omega, rfl, HI2.out⟩
            case round =>
              obtain ⟨k, hk, hgk, rfl, hinv⟩ := hrel
              by_cases hk3 : k < 3
              · have gk' : decide ((k : Int) < 3) = true := decide_eq_true (by omega)
                have wK : IntKind.i64.wrap ((k : Int) + 1) = (k : Int) + 1 := IntWalk.i64_in _ (by omega)
                obtain ⟨⟨a0, -⟩, ⟨a1, -⟩, a2, -⟩ := blk3 hinv.1.2
                have hog := hinv.1.1
                obtain ⟨z, hz⟩ : ∃ z, P.getD (4 * (yW + X) + k) 0 = z := ⟨_, rfl⟩
                have bz : 0 ≤ z ∧ z < 256 := by rw [← hz]; exact getD_byte HPB.out _
                have d3 := hog.at.2.2.2.1 (4 * (yW + X) + k) (by omega)
                have e3 := hog.at.2.2.2.2 (4 * (yW + X) + k)
                rw [HGET2.out k hk3, hz] at d3
                obtain ⟨V2, hV2⟩ : ∃ V2, wr.setCell ⟨g, 4 * (yW + X) + k, none⟩ (.int .u8 (255 - z)) = V2 := ⟨_, rfl⟩
                have ho1 : Own .u8 5 V2 (.slice (some ⟨g, 0, none⟩) n n) (tab n (curD t P Y X (k + 1))) := by
                  have h := hog.set (show 4 * (yW + X) + k < n by omega) (255 - z)
                  rw [hV2] at h
                  have hs := HSTEP2.out k hk3
                  rw [hz] at hs
                  rw [hs] at h
                  exact h
                have kV2 : Kept (fun i => i = g) wr V2 := by rw [← hV2]; exact (Kept.refl (fun i => i = g) _).setCell (p := ⟨g, 4 * (yW + X) + k, none⟩) (.inl rfl) _
                have HI3 := Lib.hid (hinv.put ho1 kV2 HG.out)
                have p1 : IntKind.i64.wrap (4 * ((yW : Int) + (X : Int)) + (k : Int)) = 4 * ((yW : Int) + (X : Int)) + (k : Int) := IntWalk.i64_in _ (by omega)
                have p2 : IntKind.i64.wrap (4 * ((yW : Int) + (X : Int))) = 4 * ((yW : Int) + (X : Int)) := IntWalk.i64_in _ (by omega)
                have p3 : IntKind.i64.wrap ((yW : Int) + (X : Int)) = (yW : Int) + (X : Int) := IntWalk.i64_in _ (by omega)
                have p4 : IntKind.i64.wrap (yW : Int) = (yW : Int) := IntWalk.i64_in _ (by omega)
                have p5 : IntKind.u8.wrap (255 - z) = 255 - z := IntWalk.u8_in _ (by omega)
                have t1 : (4 * ((yW : Int) + (X : Int)) + (k : Int)).toNat = 4 * (yW + X) + k := by omega
                have l1 : 0 ≤ 4 * ((yW : Int) + (X : Int)) + (k : Int) := by omega
                have l2 : 4 * ((yW : Int) + (X : Int)) + (k : Int) < (n : Int) := by omega
                clear hinv hog ho1 kV2 hz
                go_wp2
                go_still_tail 26, (by kernel_rfl)
                clear p1 p2 p3 p4 p5 t1 l1 l2
                change wpList _ _ _ _ _ wr.drew
                go_wp2
                go_roundg (gk - 1)
                case rel => exact ⟨k + 1, by omega, by omega, by go_num, HI3.out.kept ((Kept.refl (fun _ => False) _).drew)⟩
                case measure => omega
              · obtain rfl : k = 3 := by omega
                have gk' : decide (((3 : Nat) : Int) < 3) = false := by decide
                rw [HPIX.out Y X HXN.out.1] at hinv
                have HI4 := Lib.hid hinv
                clear hinv
                go_wp2
                go_roundg (gkx - 1)
                case rel => exact ⟨X + 1, by omega, by omega, by omega, by go_num, HI4.out⟩
                case measure => omega
          · obtain rfl : X = x1' := by omega
            have gx : decide (X < X) = false := decide_eq_false (by omega)
            rw [HROW.out Y] at hinv
            have HI2 := Lib.hid hinv
            clear hinv
            go_wp2
            go_roundg (gko - 1)
            case rel => exact ⟨Y + 1, by omega, by omega, by omega, by go_num, HI2.out⟩
            case measure => omega
      · obtain rfl : Y = y1' := by omega
        have gy : decide (Y < Y) = false := decide_eq_false (by omega)
        rw [HEND.out, ← HRES.out] at hinv
        obtain ⟨⟨d0, -⟩, ⟨d1, -⟩, d2, -⟩ := blk3 hinv.1.2
        obtain ⟨U1, U2, U3, f1, f2, f3, ⟨z0, z0'⟩, ⟨z1, z1'⟩, ⟨z2, z2'⟩, bU, kU⟩ := store3 hinv.2.2.1 (.int .i64 W) (.int .i64 H) (.slice (some ⟨g, 0, none⟩) n n)
        obtain ⟨⟨m0, -⟩, ⟨m1, -⟩, m2, -⟩ := blk3 bU
        have HE := Lib.hid (And.intro (hinv.1.1.kept kU (fun b hb hS => by have h9 : b = wd.heap.size + 1 + 1 := hS; have h8 : g = b := (by cases hb; rfl); have := HG.out; omega)) (hinv.2.1.trans (kU.mono fun i _ hi => Or.inr (by have h9 : i = wd.heap.size + 1 + 1 := hi; omega))))
        clear bU kU hinv
        go_wp2
        exact bodyPost_ret (v := .agg #[.int .i64 W, .int .i64 H, .slice (some ⟨g, 0, none⟩) n n]) (by simp [results, Try.results114, go_sem, m0, m1, m2]) rfl ⟨rfl, HE.out⟩
end Go.Proofs.Ytdjgmhbfohbenaa
