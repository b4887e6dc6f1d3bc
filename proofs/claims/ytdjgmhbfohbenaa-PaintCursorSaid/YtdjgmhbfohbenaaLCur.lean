/- The law PaintCursor. -/
import Derived.Test.YtdjgmhbfohbenaaMFew
import Derived.Test.YtdjgmhbfohbenaaMDrw
import Derived.Deep.DeepCutAuto
namespace Go.Proofs.Ytdjgmhbfohbenaa
open Go.RowKit Go.Sort Pl
set_option linter.unusedVariables false
set_option linter.unusedSimpArgs false
theorem LineAt.mono {B B' : Nat} {w : World} {a : Option Addr} {n : Nat} {l : List Cl} (h : LineAt B w a n l) (hB : B ≤ B') : LineAt B' w a n l :=
  ⟨h.1, h.2.imp (fun h => h) fun ⟨b, off, ha, hb, hc⟩ => ⟨b, off, ha, by omega, hc⟩⟩
theorem LinesAt.mono {B B' : Nat} {w : World} {a : Option Addr} {n : Nat} {ls : List (List Cl)} (h : LinesAt B w a n ls) (hB : B ≤ B') : LinesAt B' w a n ls :=
  ⟨h.1, h.2.imp (fun h => h) fun ⟨b, off, ha, hb, hc⟩ => ⟨b, off, ha, by omega, fun j l hj => by
    obtain ⟨a', n', c', h1, h2⟩ := hc j l hj
    exact ⟨a', n', c', h1, h2.mono hB⟩⟩⟩
theorem PzsAt.mono {B B' : Nat} {w : World} {a : Option Addr} {n : Nat} {L : List Pz} (h : PzsAt B w a n L) (hB : B ≤ B') : PzsAt B' w a n L :=
  ⟨h.1, h.2.imp (fun h => h) fun ⟨b, off, ha, hb, hc⟩ => ⟨b, off, ha, by omega, hc⟩⟩
theorem MEAt.mono {B B' : Nat} {w : World} {m : ME} (h : MEAt B w m) (hB : B ≤ B') : MEAt B' w m :=
  ⟨h.s, fun b off h0 he => by have := h.b b off h0 he; omega, h.c, h.by', h.k, h.x, h.y, h.nil⟩
theorem MapAt.mono {B B' : Nat} {w : World} {im : Option Nat} {E : List ME} (h : MapAt B w im E) (hB : B ≤ B') : MapAt B' w im E :=
  h.imp (fun h => h) fun ⟨b, es, clock, h1, h2, h3, h4, h5, h6⟩ => ⟨b, es, clock, h1, by omega, h3, h4, h5, fun m hm => (h6 m hm).mono hB⟩
/-- What of a scene stays through a walk. -/
structure SceneAt (B : Nat) (w : World) (la : Option Addr) (ln : Nat) (pa : Option Addr) (pn : Nat) (im : Option Nat) (ls : List (List Cl)) (E : List ME) (L : List Pz) : Prop where
  lines : LinesAt B w la ln ls
  places : PzsAt B w pa pn L
  images : MapAt B w im E
theorem SceneAt.up {B : Nat} {w w' : World} {la : Option Addr} {ln : Nat} {pa : Option Addr} {pn : Nat} {im : Option Nat} {ls : List (List Cl)} {E : List ME} {L : List Pz} {S : Nat → Prop} (h : SceneAt B w la ln pa pn im ls E L) (hk : Kept S w w') (hS : ∀ i, S i → B ≤ i) (hB : B ≤ w'.heap.size) : SceneAt w'.heap.size w' la ln pa pn im ls E L :=
  ⟨(h.lines.kept hk hS).mono hB, (h.places.kept hk hS).mono hB, (h.images.kept hk hS).mono hB⟩
theorem FewP.ok {rows cols cw ch : Int} {E : List ME} {L : List Pz} {top : Int} (h : FewP rows cols cw ch E L top) (hi : ∀ p ∈ L, PzI p) (hz : True) : ∀ p ∈ L, p.Ok := by
  intro p hp
  obtain ⟨hm, h1, h2, h3, h4⟩ := h.pls p hp
  have hpi := hi p hp
  have hz := hm.z
  exact ⟨hpi.im, hm.line, hm.col, ⟨hm.rows.1, by omega⟩, ⟨hm.cols.1, by omega⟩, hpi.x, hpi.y, ⟨hm.w.1, h3⟩, ⟨hm.h.1, h4⟩, hm.dx, hm.dy, by unfold I64; omega⟩
/-- Byte j of the picture with the cursor, by that of the picture without. -/
def inC (W cw ch : Nat) (row col : Int) (j : Nat) : Prop := j % 4 ≠ 3 ∧ 0 ≤ row ∧ 0 ≤ col ∧ ((j / 4 % W / cw : Nat) : Int) = col ∧ ((j / 4 / W / ch : Nat) : Int) = row
instance (W cw ch : Nat) (row col : Int) (j : Nat) : Decidable (inC W cw ch row col j) := by unfold inC; exact inferInstance
theorem cur_at {rows cols cw ch : Nat} {la : Option Addr} {ln lc : Nat} {pa : Option Addr} {pn pc : Nat} {im : Option Nat} {top row col : Int} (ls : List (List Cl)) (img : Bool → List Int → List Int) {W H n : Nat} (P : List Int) (hcw : 1 ≤ cw) (hch : 1 ≤ ch) (hW : W = cols * cw) (hH : H = rows * ch) (hn : n = 4 * (W * H)) {j : Nat} (hj : j < n) :
    (drawP ⟨rows, cols, cw, ch, la, ln, lc, pa, pn, pc, im, top, true, row, col⟩ ls img W H n P).getD j 0 = if inC W cw ch row col j then 255 - (drawP ⟨rows, cols, cw, ch, la, ln, lc, pa, pn, pc, im, top, false, row, col⟩ ls img W H n P).getD j 0 else (drawP ⟨rows, cols, cw, ch, la, ln, lc, pa, pn, pc, im, top, false, row, col⟩ ls img W H n P).getD j 0 := by
  obtain ⟨M, hM⟩ : ∃ M, img true (eachF (glsF ⟨rows, cols, cw, ch, la, ln, lc, pa, pn, pc, im, top, false, row, col⟩ ls W H) cols rows (img false (eachF (groF ⟨rows, cols, cw, ch, la, ln, lc, pa, pn, pc, im, top, false, row, col⟩ ls W H) cols rows P))) = M := ⟨_, rfl⟩
  have e1 : drawP ⟨rows, cols, cw, ch, la, ln, lc, pa, pn, pc, im, top, true, row, col⟩ ls img W H n P = curP ⟨rows, cols, cw, ch, la, ln, lc, pa, pn, pc, im, top, true, row, col⟩ W n M := by rw [← hM]; rfl
  have e2 : drawP ⟨rows, cols, cw, ch, la, ln, lc, pa, pn, pc, im, top, false, row, col⟩ ls img W H n P = M := by
    rw [← hM]
    unfold drawP curP
    rw [if_neg]
    rintro ⟨h, -⟩
    cases h
  rw [e1, e2]
  have hcw0 : 0 < cw := hcw
  have hch0 : 0 < ch := hch
  have hjq : j / 4 < W * H := by omega
  have hW0 : 0 < W := Nat.pos_of_ne_zero (by rintro h; rw [h, Nat.zero_mul] at hjq; omega)
  have hX : j / 4 % W < cols * cw := by rw [← hW]; exact Nat.mod_lt _ hW0
  have hY : j / 4 / W < rows * ch := by rw [← hH]; exact Nat.div_lt_of_lt_mul hjq
  have hXc : j / 4 % W / cw < cols := Nat.div_lt_of_lt_mul (by rw [Nat.mul_comm]; exact hX)
  have hYr : j / 4 / W / ch < rows := Nat.div_lt_of_lt_mul (by rw [Nat.mul_comm]; exact hY)
  unfold curP
  by_cases hS : curS ⟨rows, cols, cw, ch, la, ln, lc, pa, pn, pc, im, top, true, row, col⟩
  · rw [if_pos hS, tab_get hj]
    unfold curF
    have hS' := hS
    unfold curS at hS'
    simp only at hS'
    have hiff : ((curSpot ⟨rows, cols, cw, ch, la, ln, lc, pa, pn, pc, im, top, true, row, col⟩ W).inside (j / 4) ∧ j % 4 < 3) ↔ inC W cw ch row col j := by
      unfold Spot.inside curSpot inC
      simp only
      have k1 := cell_iff (X := j / 4 % W) (col := col.toNat) hcw0
      have k2 := cell_iff (X := j / 4 / W) (col := row.toNat) hch0
      have m1 : (col.toNat + 1) * cw = col.toNat * cw + cw := by rw [Nat.add_mul, Nat.one_mul]
      have m2 : (row.toNat + 1) * ch = row.toNat * ch + ch := by rw [Nat.add_mul, Nat.one_mul]
      rw [m1, m2]
      constructor
      · rintro ⟨⟨a, b, c, d⟩, e⟩
        have h1 := k1.1 ⟨a, b⟩
        have h2 := k2.1 ⟨c, d⟩
        exact ⟨by omega, by omega, by omega, by omega, by omega⟩
      · rintro ⟨a, b, c, d, e⟩
        have h1 := k1.2 (by omega)
        have h2 := k2.2 (by omega)
        exact ⟨⟨h1.1, h1.2, h2.1, h2.2⟩, by omega⟩
    by_cases hI : inC W cw ch row col j
    · rw [if_pos (hiff.2 hI), if_pos hI]
    · rw [if_neg (fun h => hI (hiff.1 h)), if_neg hI]
  · rw [if_neg hS, if_neg]
    rintro ⟨a, b, c, d, e⟩
    apply hS
    unfold curS
    simp only
    refine ⟨trivial, ⟨by omega, by omega⟩, ⟨by omega, by omega⟩⟩
theorem set_cur {w : World} {b : Nat} {x0 x1 x2 x3 x4 x5 x6 x7 x8 x9 x10 : Value} {t : TypeId} (h : w.heap[b]? = some (.cells #[x0, x1, x2, x3, x4, x5, x6, x7, x8, x9, x10] t (0, 0))) (v : Value) :
    ∃ V, w.setCell ⟨b, 8, none⟩ v = V ∧ w.cell? ⟨b, 8, none⟩ = some x8 ∧ w.frozen? ⟨b, 8, none⟩ = false ∧ V.heap[b]? = some (.cells #[x0, x1, x2, x3, x4, x5, x6, x7, v, x9, x10] t (0, 0)) ∧ Kept (fun i => i = b) w V :=
  ⟨_, rfl, blk_cell h 8, blk_free h 8, blk_set h 8 v, (Kept.refl (fun i => i = b) w).setCell (p := ⟨b, 8, none⟩) (.inl rfl) v⟩
theorem dim_of {rows cols cw ch : Nat} {la : Option Addr} {ln lc : Nat} {pa : Option Addr} {pn pc : Nat} {im : Option Nat} {top row col : Int} {cur : Bool} (h1 : 1 ≤ rows ∧ rows ≤ 1000) (h2 : 1 ≤ cols ∧ cols ≤ 1000) (h3 : 1 ≤ cw ∧ cw ≤ 64) (h4 : 1 ≤ ch ∧ ch ≤ 64) (ha : (rows : Int) * ch * cols * cw ≤ 4000) :
    Dim ⟨rows, cols, cw, ch, la, ln, lc, pa, pn, pc, im, top, cur, row, col⟩ (cols * cw) (rows * ch) (4 * (cols * cw * (rows * ch))) ∧ 4 * (cols * cw * (rows * ch)) ≤ 16000 ∧ 0 < 4 * (cols * cw * (rows * ch)) ∧ sizeB ((cols * cw : Nat) : Int) ((rows * ch : Nat) : Int) = true := by
  have e : (rows : Int) * ch * cols * cw = ((cols * cw * (rows * ch) : Nat) : Int) := by
    simp only [Int.natCast_mul]
    rw [Int.mul_assoc, Int.mul_comm]
  rw [e] at ha
  have p1 : 1 ≤ cols * cw := Nat.mul_pos (by omega) (by omega)
  have p2 : 1 ≤ rows * ch := Nat.mul_pos (by omega) (by omega)
  have q1 : cols * cw ≤ cols * cw * (rows * ch) := Nat.le_mul_of_pos_right _ p2
  have q2 : rows * ch ≤ cols * cw * (rows * ch) := Nat.le_mul_of_pos_left _ p1
  have p3 : 1 ≤ cols * cw * (rows * ch) := Nat.mul_pos p1 p2
  refine ⟨⟨h1.2, h2.2, h3, h4, by omega, by omega, rfl, by omega⟩, by omega, by omega, ?_⟩
  unfold sizeB
  refine decide_eq_true (.inr ⟨by omega, by omega, by omega, by omega, ?_⟩)
  rw [← Int.natCast_mul]; omega
theorem drawP_bytes' (s : Sc) (ls : List (List Cl)) (img : Bool → List Int → List Int) (W H n : Nat) (P : List Int) (hib : ∀ a P, IsBytes P → IsBytes (img a P)) (hP : IsBytes P) : IsBytes (drawP s ls img W H n P) := by
  unfold drawP
  have h := hib true _ (gls_bytes s ls W H (hib false _ (gro_bytes s ls W H hP)))
  unfold curP
  split
  · refine bytes_tab fun q => ?_
    unfold curF
    have := getD_byte h q
    split <;> omega
  · exact h
set_option maxRecDepth 100000 in
/-- A small scene drawn. -/
theorem draw_small (rows cols cw ch : Nat) (la : Option Addr) (ln lc : Nat) (pa : Option Addr) (pn pc : Nat) (im : Option Nat) (top : Int) (cur : Bool) (row col : Int) (ls : List (List Cl)) (E : List ME) (L : List Pz) (hf : FewP rows cols cw ch E L top) (hi : ∀ p ∈ L, PzI p) (hcl : ∀ l ∈ ls, ∀ c ∈ l, -2147483648 ≤ c.r ∧ c.r ≤ 2147483647) (hln : ln ≤ 9223372036854775807) (hpn : pn ≤ 9223372036854775807)
    (h1 : 1 ≤ rows ∧ rows ≤ 1000) (h2 : 1 ≤ cols ∧ cols ≤ 1000) (h3 : 1 ≤ cw ∧ cw ≤ 64) (h4 : 1 ≤ ch ∧ ch ≤ 64) (w : World) (hs : SceneAt w.heap.size w la ln pa pn im ls E L) :
    Calls Try.prog 11 #[.agg #[.int .i64 rows, .int .i64 cols, .int .i64 cw, .int .i64 ch, .slice la ln lc, .slice pa pn pc, .map im, .int .i64 top, .bool cur, .int .i64 row, .int .i64 col]] w fun e w' => ∃ g : Nat, e = .returned (.tuple #[mat (cols * cw : Nat) (rows * ch : Nat) (some ⟨g, 0, none⟩) (4 * (cols * cw * (rows * ch))) (4 * (cols * cw * (rows * ch))), .int .i64 0]) ∧ w.heap.size ≤ g ∧
      Own .u8 5 w' (.slice (some ⟨g, 0, none⟩) (4 * (cols * cw * (rows * ch))) (4 * (cols * cw * (rows * ch)))) (drawP ⟨rows, cols, cw, ch, la, ln, lc, pa, pn, pc, im, top, cur, row, col⟩ ls (imgsP (cols * cw) (rows * ch) (4 * (cols * cw * (rows * ch))) cw ch top E L) (cols * cw) (rows * ch) (4 * (cols * cw * (rows * ch))) (List.replicate (4 * (cols * cw * (rows * ch))) 0)) ∧ Kept (fun _ => False) w w' := by
  obtain ⟨hd, hn2, hn0, hsz⟩ := dim_of (la := la) (ln := ln) (lc := lc) (pa := pa) (pn := pn) (pc := pc) (im := im) (top := top) (row := row) (col := col) (cur := cur) h1 h2 h3 h4 (hf.area (by omega) (by omega) (by omega) (by omega) (by omega) (by omega) (by omega) (by omega))
  refine draw_yes ⟨rows, cols, cw, ch, la, ln, lc, pa, pn, pc, im, top, cur, row, col⟩ ls _ w (cols * cw) (rows * ch) (4 * (cols * cw * (rows * ch))) hd h1.1 h2.1 rfl rfl ?_ hln (images_any ⟨rows, cols, cw, ch, la, ln, lc, pa, pn, pc, im, top, cur, row, col⟩ (cols * cw) (rows * ch) (4 * (cols * cw * (rows * ch))) w.heap.size w E L hd (by omega) hn0 hsz ⟨hf.top0, hf.top1⟩ hpn hs.places (hf.ok hi trivial) hs.images (fun m hm => ⟨(hf.mats m hm).1, by have := (hf.mats m hm).2; omega⟩)) (fun a P hP => imgs_bytes (fun m hm => (hs.images.mem m hm).by') L P hP) hs.lines
  intro r c
  unfold cellS
  cases hr : ls[r]? with
  | none => simp [cl0]
  | some l =>
    simp only [Option.getD_some]
    cases hc : l[c]? with
    | none => simp [cl0]
    | some x => exact hcl l (List.mem_of_getElem? hr) x (List.mem_of_getElem? hc)
set_option maxRecDepth 100000 in
set_option maxHeartbeats 8000000 in
theorem curs_go (rows cols cw ch : Int) (la : Option Addr) (ln lc : Nat) (pa : Option Addr) (pn pc : Nat) (im : Option Nat) (top : Int) (cur : Bool) (row col : Int) (ls : List (List Cl)) (E : List ME) (L : List Pz) (W : World) (h : SceneIn W rows cols cw ch la ln pa pn im top row col ls E L) :
    Calls Try.prog 6 #[.agg #[.int .i64 rows, .int .i64 cols, .int .i64 cw, .int .i64 ch, .slice la ln lc, .slice pa pn pc, .map im, .int .i64 top, .bool cur, .int .i64 row, .int .i64 col]] W fun e w' => e = .returned (.bool true) ∧ Below W.heap.size W w' := by
  obtain ⟨V, hV⟩ : ∃ V, W.alloc (.cells #[.int .i64 rows, .int .i64 cols, .int .i64 cw, .int .i64 ch, .slice la ln lc, .slice pa pn pc, .map im, .int .i64 top, .bool cur, .int .i64 row, .int .i64 col] 26) = V := ⟨_, rfl⟩
  have kV : Kept (fun _ => False) W V := by rw [← hV]; exact (Kept.refl _ _).alloc _
  have b0 : V.heap[W.heap.size]? = some (.cells #[.int .i64 rows, .int .i64 cols, .int .i64 cw, .int .i64 ch, .slice la ln lc, .slice pa pn pc, .map im, .int .i64 top, .bool cur, .int .i64 row, .int .i64 col] 26 (0, 0)) := by rw [← hV]; exact blk_new _ _
  have HV := Lib.hid (And.intro kV b0)
  have HS := Lib.hid (fun (w : World) (k : Kept (fun _ => False) W w) => show SceneAt w.heap.size w la ln pa pn im ls E L from (SceneAt.mk h.lines h.places h.images).up k (fun _ h => h.elim) k.size)
  have HIN := Lib.hid h
  have HFW := Lib.hid (fun (w : World) (k : Kept (fun _ => False) W w) => show Calls Try.prog 10 #[.agg #[.int .i64 rows, .int .i64 cols, .int .i64 cw, .int .i64 ch, .slice la ln lc, .slice pa pn pc, .map im, .int .i64 top, .bool cur, .int .i64 row, .int .i64 col]] w (FewR (FewP rows cols cw ch E L top) w) from fewS_any rows cols cw ch la ln lc pa pn pc im top cur row col ls E L w h.ln h.pn (HS.out w k).lines (HS.out w k).places (HS.out w k).images)
  clear kV b0 h
  go_enter Try.func6, Try.ntmps6
  go_wp2_with fail
  refine (known_any _).mono ?_
  rintro e w1 ⟨rfl, hk1⟩
  obtain ⟨x0, x1, x2, x3, x4, x5, x6, x7, x8, x9, x10⟩ := blk11 (hk1.blk HV.out.2 id)
  have H1 := Lib.hid (And.intro (HV.out.1.then hk1) (hk1.blk HV.out.2 id))
  clear hk1
  go_wp2_with fail
  refine (HFW.out _ H1.out.1).mono ?_
  rintro e w2 ⟨b, rfl, hb, hk2⟩
  have H2 := Lib.hid (And.intro (H1.out.1.then hk2) (hk2.blk H1.out.2 id))
  clear hk2
  cases b with
  | false =>
    clear hb
    go_wp2
    exact bodyPost_ret (v := .bool true) (by simp [results, Try.results6, go_sem]) rfl ⟨rfl, H2.out.1.below⟩
  | true =>
    have HF := Lib.hid (hb rfl)
    clear hb
    obtain ⟨V3, hV3, y8, y8', b3, k3⟩ := set_cur H2.out.2 (.bool true)
    obtain ⟨x0, x1, x2, x3, x4, x5, x6, x7, x8, x9, x10⟩ := blk11 b3
    have H3 := Lib.hid (And.intro (H2.out.1.trans (k3.mono fun i _ hi => Or.inr (by have h9 : i = W.heap.size := hi; omega))) b3)
    clear k3 b3
    by_cases hsz : (1 ≤ rows ∧ rows ≤ 1000) ∧ (1 ≤ cols ∧ cols ≤ 1000) ∧ (1 ≤ cw ∧ cw ≤ 64) ∧ (1 ≤ ch ∧ ch ≤ 64)
    rotate_left
    · have HNO := Lib.hid (fun (c : Bool) (w : World) => draw_no rows cols cw ch la ln lc pa pn pc im top c row col w hsz)
      unfold mat0 mat at HNO
      clear hsz
      go_wp2_with fail
      refine (HNO.out _ _).mono ?_
      rintro e w3 ⟨rfl, hk3⟩
      obtain ⟨V4, hV4⟩ : ∃ X, w3.alloc (.cells #[.int .i64 0, .int .i64 0, .slice none 0 0] 31) = X := ⟨_, rfl⟩
      have k4 : Kept (fun _ => False) w3 V4 := by rw [← hV4]; exact (Kept.refl _ _).alloc _
      have e4 : V4.heap[w3.heap.size]? = some (.cells #[.int .i64 0, .int .i64 0, .slice none 0 0] 31 (0, 0)) := by rw [← hV4]; exact blk_new _ _
      obtain ⟨U1, U2, U3, g1, g2, g3, ⟨z0, z0'⟩, ⟨z1, z1'⟩, ⟨z2, z2'⟩, bU, kU⟩ := same3 e4
      have hs3 := H3.out.1.size
      have hs4 := hk3.size
      have hlW := lt_of_blk H3.out.2
      have kU' : Kept (fun _ => False) V3 U3 := (hk3.then k4).trans (kU.mono fun x _ hi => Or.inr (by have h9 : x = w3.heap.size := hi; omega))
      have hneW : W.heap.size ≠ w3.heap.size := by omega
      obtain ⟨V5, hV5, u8, u8', b5, k5⟩ := set_cur (kU'.blk H3.out.2 id) (.bool false)
      obtain ⟨x0, x1, x2, x3, x4, x5, x6, x7, x8, x9, x10⟩ := blk11 b5
      have H5 := Lib.hid (And.intro ((H3.out.1.then kU').trans (k5.mono fun i _ hi => Or.inr (by have h9 : i = W.heap.size := hi; omega))) (k5.blk bU (fun (h : w3.heap.size = W.heap.size) => hneW h.symm)))
      clear hk3 k4 e4 bU kU kU' k5 b5 hs3 hs4 hlW hneW
      go_wp2_with fail
      refine (HNO.out _ _).mono ?_
      rintro e w6 ⟨rfl, hk6⟩
      obtain ⟨V7, hV7⟩ : ∃ X, w6.alloc (.cells #[.int .i64 0, .int .i64 0, .slice none 0 0] 31) = X := ⟨_, rfl⟩
      have k7 : Kept (fun _ => False) w6 V7 := by rw [← hV7]; exact (Kept.refl _ _).alloc _
      have e7 : V7.heap[w6.heap.size]? = some (.cells #[.int .i64 0, .int .i64 0, .slice none 0 0] 31 (0, 0)) := by rw [← hV7]; exact blk_new _ _
      obtain ⟨T1, T2, T3, t1, t2, t3, ⟨r0, r0'⟩, ⟨r1, r1'⟩, ⟨r2, r2'⟩, bT, kT⟩ := same3 e7
      have hs6 := hk6.size
      have hl5 := lt_of_blk H5.out.2
      have hs5 := H5.out.1.size
      have kT' : Kept (fun _ => False) V5 T3 := (hk6.then k7).trans (kT.mono fun x _ hi => Or.inr (by have h9 : x = w6.heap.size := hi; omega))
      have HE := Lib.hid (H5.out.1.then kT')
      obtain ⟨⟨a0, -⟩, ⟨a1, -⟩, a2, -⟩ := blk3 (kT'.blk H5.out.2 id)
      obtain ⟨⟨d0, -⟩, ⟨d1, -⟩, d2, -⟩ := blk3 bT
      clear hk6 k7 e7 bT kT kT' hs6 hl5 hs5
      go_wp2
      refine wp_loop_rounds 1 ?_
      rw [rounds_succ]
      go_wp2
      exact bodyPost_ret (v := .bool true) (by simp [results, Try.results6, go_sem]) rfl ⟨rfl, HE.out.below⟩
    obtain ⟨⟨rN, hrN⟩, ⟨cN, hcN⟩, ⟨wN, hwN⟩, ⟨hN, hhN⟩⟩ : (∃ k : Nat, rows = k) ∧ (∃ k : Nat, cols = k) ∧ (∃ k : Nat, cw = k) ∧ (∃ k : Nat, ch = k) := ⟨⟨rows.toNat, by omega⟩, ⟨cols.toNat, by omega⟩, ⟨cw.toNat, by omega⟩, ⟨ch.toNat, by omega⟩⟩
    subst hrN hcN hwN hhN
    obtain ⟨PW, hPW⟩ : ∃ x, cN * wN = x := ⟨_, rfl⟩
    obtain ⟨PH, hPH⟩ : ∃ x, rN * hN = x := ⟨_, rfl⟩
    obtain ⟨n, hn⟩ : ∃ x, 4 * (PW * PH) = x := ⟨_, rfl⟩
    obtain ⟨hd, hn2, hn0, -⟩ := dim_of (la := la) (ln := ln) (lc := lc) (pa := pa) (pn := pn) (pc := pc) (im := im) (top := top) (row := row) (col := col) (cur := true) (rows := rN) (cols := cN) (cw := wN) (ch := hN) (by omega) (by omega) (by omega) (by omega) (HF.out.area (by omega) (by omega) (by omega) (by omega) (by omega) (by omega) (by omega) (by omega))
    rw [hPW, hPH, hn] at hn2 hn0
    have hd5 := hd.bW
    have hd6 := hd.bH
    rw [hPW] at hd5
    rw [hPH] at hd6
    obtain ⟨PT, hPT⟩ : ∃ x, drawP ⟨rN, cN, wN, hN, la, ln, lc, pa, pn, pc, im, top, true, row, col⟩ ls (imgsP PW PH n wN hN top E L) PW PH n (List.replicate n 0) = x := ⟨_, rfl⟩
    obtain ⟨PF, hPF⟩ : ∃ x, drawP ⟨rN, cN, wN, hN, la, ln, lc, pa, pn, pc, im, top, false, row, col⟩ ls (imgsP PW PH n wN hN top E L) PW PH n (List.replicate n 0) = x := ⟨_, rfl⟩
    have HDT := Lib.hid (fun (w : World) (hs : SceneAt w.heap.size w la ln pa pn im ls E L) => show Calls Try.prog 11 #[.agg #[.int .i64 (rN : Int), .int .i64 (cN : Int), .int .i64 (wN : Int), .int .i64 (hN : Int), .slice la ln lc, .slice pa pn pc, .map im, .int .i64 top, .bool true, .int .i64 row, .int .i64 col]] w fun e w' => ∃ g : Nat, e = .returned (.tuple #[.agg #[.int .i64 PW, .int .i64 PH, .slice (some ⟨g, 0, none⟩) n n], .int .i64 0]) ∧ w.heap.size ≤ g ∧ Own .u8 5 w' (.slice (some ⟨g, 0, none⟩) n n) PT ∧ Kept (fun _ => False) w w' from by
      have h := draw_small rN cN wN hN la ln lc pa pn pc im top true row col ls E L HF.out HIN.out.pis HIN.out.cells HIN.out.ln HIN.out.pn (by omega) (by omega) (by omega) (by omega) w hs
      rw [hPW, hPH, hn, hPT] at h
      exact h)
    have HDF := Lib.hid (fun (w : World) (hs : SceneAt w.heap.size w la ln pa pn im ls E L) => show Calls Try.prog 11 #[.agg #[.int .i64 (rN : Int), .int .i64 (cN : Int), .int .i64 (wN : Int), .int .i64 (hN : Int), .slice la ln lc, .slice pa pn pc, .map im, .int .i64 top, .bool false, .int .i64 row, .int .i64 col]] w fun e w' => ∃ g : Nat, e = .returned (.tuple #[.agg #[.int .i64 PW, .int .i64 PH, .slice (some ⟨g, 0, none⟩) n n], .int .i64 0]) ∧ w.heap.size ≤ g ∧ Own .u8 5 w' (.slice (some ⟨g, 0, none⟩) n n) PF ∧ Kept (fun _ => False) w w' from by
      have h := draw_small rN cN wN hN la ln lc pa pn pc im top false row col ls E L HF.out HIN.out.pis HIN.out.cells HIN.out.ln HIN.out.pn (by omega) (by omega) (by omega) (by omega) w hs
      rw [hPW, hPH, hn, hPF] at h
      exact h)
    have HAT := Lib.hid (fun (j : Nat) (hj : j < n) => show PT.getD j 0 = if inC PW wN hN row col j then 255 - PF.getD j 0 else PF.getD j 0 from by
      rw [← hPT, ← hPF]
      exact cur_at ls _ _ (by omega) (by omega) hPW.symm hPH.symm hn.symm hj)
    have HBF := Lib.hid (show IsBytes PF by
      rw [← hPF]
      have hs := HS.out _ HV.out.1
      refine drawP_bytes' _ _ _ _ _ _ _ (fun a P hP => imgs_bytes (fun m hm => (hs.images.mem m hm).by') L P hP) ?_
      intro v hv
      rw [List.eq_of_mem_replicate hv]
      exact ⟨by decide, by decide⟩)
    have HSZ := Lib.hid hsz
    have HNN := Lib.hid hn
    have HPP := Lib.hid (show 0 < PW by have h1 := Nat.mul_pos (show 0 < cN by omega) (show 0 < wN by omega); omega)
    have n16 : n ≤ 16384 := by omega
    clear hPW hPH hn hPT hPF hd hn2 hsz
    go_wp2_with fail
    refine (HDT.out _ (HS.out _ H3.out.1)).mono ?_
    rintro e w3 ⟨gt, rfl, hgt, hot, hk3⟩
    obtain ⟨V4, hV4⟩ : ∃ X, w3.alloc (.cells #[.int .i64 PW, .int .i64 PH, .slice (some ⟨gt, 0, none⟩) n n] 31) = X := ⟨_, rfl⟩
    have k4 : Kept (fun _ => False) w3 V4 := by rw [← hV4]; exact (Kept.refl _ _).alloc _
    have e4 : V4.heap[w3.heap.size]? = some (.cells #[.int .i64 PW, .int .i64 PH, .slice (some ⟨gt, 0, none⟩) n n] 31 (0, 0)) := by rw [← hV4]; exact blk_new _ _
    have hs3 := H3.out.1.size
    have hs4 := hk3.size
    have hlW := lt_of_blk H3.out.2
    have hneW : w3.heap.size ≠ W.heap.size := by omega
    obtain ⟨V5, hV5, u8, u8', b5, k5⟩ := set_cur ((hk3.then k4).blk H3.out.2 id) (.bool false)
    obtain ⟨x0, x1, x2, x3, x4, x5, x6, x7, x8, x9, x10⟩ := blk11 b5
    have H5 := Lib.hid (And.intro ((H3.out.1.then (hk3.then k4)).trans (k5.mono fun i _ hi => Or.inr (by have h9 : i = W.heap.size := hi; omega))) (And.intro (k5.blk e4 hneW) (And.intro b5 ((hot.kept k4 (fun _ _ => id)).kept k5 (fun b hb (hS : b = W.heap.size) => by have h8 : gt = b := (by cases hb; rfl); omega)))))
    have HGT := Lib.hid (show W.heap.size < gt by omega)
    clear hk3 k4 e4 k5 b5 hs3 hs4 hlW hneW hgt hot
    go_wp2_with fail
    refine (HDF.out _ (HS.out _ H5.out.1)).mono ?_
    rintro e w6 ⟨gf, rfl, hgf, hof, hk6⟩
    obtain ⟨V7, hV7⟩ : ∃ X, w6.alloc (.cells #[.int .i64 PW, .int .i64 PH, .slice (some ⟨gf, 0, none⟩) n n] 31) = X := ⟨_, rfl⟩
    have k7 : Kept (fun _ => False) w6 V7 := by rw [← hV7]; exact (Kept.refl _ _).alloc _
    have e7 : V7.heap[w6.heap.size]? = some (.cells #[.int .i64 PW, .int .i64 PH, .slice (some ⟨gf, 0, none⟩) n n] 31 (0, 0)) := by rw [← hV7]; exact blk_new _ _
    have k57 := hk6.then k7
    have H7 := Lib.hid (And.intro (H5.out.1.then k57) (And.intro (k57.blk H5.out.2.1 id) (And.intro e7 (And.intro (k57.blk H5.out.2.2.1 id) (And.intro ((H5.out.2.2.2.kept k57 (fun _ _ => id))) (hof.kept k7 (fun _ _ => id)))))))
    obtain ⟨⟨a0, -⟩, ⟨a1, -⟩, a2, -⟩ := blk3 (k57.blk H5.out.2.1 id)
    obtain ⟨⟨d0, -⟩, ⟨d1, -⟩, d2, -⟩ := blk3 e7
    clear hk6 k7 e7 k57 hgf hof
    go_wp2
    clear a0 a1 a2 d0 d1 d2 x0 x1 x2 x3 x4 x5 x6 x7 x8 x9 x10
    go_loopg [7, 8, 9, 10] n (fun gg iv _ _ _ wr => ∃ i : Nat, n ≤ gg + i ∧ i ≤ n ∧ iv = .int .i64 (i : Int) ∧ Kept (fun _ => False) V7 wr)
    case atStart => exact ⟨0, by omega, by omega, rfl, Kept.refl _ _⟩
    case round =>
      obtain ⟨i, hgg, hin, rfl, hk⟩ := hrel
      obtain ⟨⟨a0, -⟩, ⟨a1, -⟩, a2, -⟩ := blk3 (hk.blk H7.out.2.1 id)
      obtain ⟨⟨d0, -⟩, ⟨d1, -⟩, d2, -⟩ := blk3 (hk.blk H7.out.2.2.1 id)
      by_cases hi1 : i < n
      · have g1 : decide (i < n) = true := decide_eq_true hi1
        have g1' : decide ((i : Int) < (n : Int)) = true := decide_eq_true (by omega)
        have wi : IntKind.i64.wrap ((i : Int) + 1) = (i : Int) + 1 := IntWalk.i64_in _ (by omega)
        have i0 : (0 : Int) ≤ (i : Int) := by omega
        have i1 : (i : Int) < (n : Int) := by omega
        obtain ⟨-, -, s2, s3, -, -, -, -, -, s9, s10⟩ := blk11 (hk.blk H7.out.2.2.2.1 id)
        have y1 := ((H7.out.2.2.2.2.1.kept hk (fun _ _ => id)).slAt.2.resolve_left (by omega))
        have y2 := ((H7.out.2.2.2.2.2.kept hk (fun _ _ => id)).slAt.2.resolve_left (by omega))
        obtain ⟨bt, ot, et, ct⟩ := y1
        obtain ⟨bf, of', ef, cf⟩ := y2
        cases et
        cases ef
        have p1 := ct i hi1
        have p2 := cf i hi1
        rw [Nat.zero_add] at p1 p2
        have hat := HAT.out i hi1
        have hbf := getD_byte HBF.out i
        obtain ⟨A, hA⟩ : ∃ x, PT.getD i 0 = x := ⟨_, rfl⟩
        obtain ⟨B, hB⟩ : ∃ x, PF.getD i 0 = x := ⟨_, rfl⟩
        rw [hA] at p1 hat
        rw [hB] at p2 hat hbf
        obtain ⟨Q, hQ⟩ : ∃ x, i / 4 = x := ⟨_, rfl⟩
        obtain ⟨R, hR⟩ : ∃ x, i % 4 = x := ⟨_, rfl⟩
        obtain ⟨X, hX⟩ : ∃ x, Q % PW = x := ⟨_, rfl⟩
        obtain ⟨Y, hY⟩ : ∃ x, Q / PW = x := ⟨_, rfl⟩
        obtain ⟨XC, hXC⟩ : ∃ x, X / wN = x := ⟨_, rfl⟩
        obtain ⟨YC, hYC⟩ : ∃ x, Y / hN = x := ⟨_, rfl⟩
        have hPW0 := HPP.out
        have hsz := HSZ.out
        have hXl : X ≤ 16384 := by rw [← hX]; have := Nat.mod_lt Q hPW0; omega
        have hYl : Y ≤ 16384 := by rw [← hY]; have := Nat.div_le_self Q PW; omega
        have hXCl : XC ≤ 16384 := by rw [← hXC]; have := Nat.div_le_self X wN; omega
        have hYCl : YC ≤ 16384 := by rw [← hYC]; have := Nat.div_le_self Y hN; omega
        have v1 : (i : Int).tdiv 4 = (Q : Int) := by rw [Int.tdiv_eq_ediv_of_nonneg (by omega)]; omega
        have v1' : (i : Int) / 4 = (Q : Int) := by omega
        have v2 : (i : Int).tmod 4 = (R : Int) := by rw [Int.tmod_eq_emod_of_nonneg (by omega)]; omega
        have v2' : (i : Int) % 4 = (R : Int) := by omega
        have v3 : (Q : Int).tmod (PW : Int) = (X : Int) := by rw [Int.tmod_eq_emod_of_nonneg (by omega), ← hX]; simp
        have v3' : (Q : Int) % (PW : Int) = (X : Int) := by rw [← hX]; simp
        have v4 : (Q : Int).tdiv (PW : Int) = (Y : Int) := by rw [Int.tdiv_eq_ediv_of_nonneg (by omega), ← hY]; simp
        have v4' : (Q : Int) / (PW : Int) = (Y : Int) := by rw [← hY]; simp
        have v5 : (X : Int).tdiv (wN : Int) = (XC : Int) := by rw [Int.tdiv_eq_ediv_of_nonneg (by omega), ← hXC]; simp
        have v6 : (Y : Int).tdiv (hN : Int) = (YC : Int) := by rw [Int.tdiv_eq_ediv_of_nonneg (by omega), ← hYC]; simp
        have u1 : IntKind.i64.wrap (Q : Int) = (Q : Int) := IntWalk.i64_in _ (by omega)
        have u2 : IntKind.i64.wrap (R : Int) = (R : Int) := IntWalk.i64_in _ (by omega)
        have u3 : IntKind.i64.wrap (X : Int) = (X : Int) := IntWalk.i64_in _ (by omega)
        have u4 : IntKind.i64.wrap (Y : Int) = (Y : Int) := IntWalk.i64_in _ (by omega)
        have u5 : IntKind.i64.wrap (XC : Int) = (XC : Int) := IntWalk.i64_in _ (by omega)
        have u6 : IntKind.i64.wrap (YC : Int) = (YC : Int) := IntWalk.i64_in _ (by omega)
        have z1 : ((PW : Int) == 0) = false := by simp; omega
        have z2 : ¬ PW = 0 := by omega
        have z3 : ¬ (PW : Int) = 0 := by omega
        have z4 : ((wN : Int) == 0) = false := by simp; omega
        have z5 : ¬ wN = 0 := by omega
        have z6 : ¬ (wN : Int) = 0 := by omega
        have z7 : ((hN : Int) == 0) = false := by simp; omega
        have z8 : ¬ hN = 0 := by omega
        have z9 : ¬ (hN : Int) = 0 := by omega
        have hIC : inC PW wN hN row col i ↔ R ≠ 3 ∧ 0 ≤ row ∧ 0 ≤ col ∧ (XC : Int) = col ∧ (YC : Int) = row := by
          unfold inC
          rw [hQ, hR, hX, hY, hXC, hYC]
        have HAT2 := Lib.hid (show (¬ (R ≠ 3 ∧ 0 ≤ row ∧ 0 ≤ col ∧ (XC : Int) = col ∧ (YC : Int) = row) → A = B) ∧ ((R ≠ 3 ∧ 0 ≤ row ∧ 0 ≤ col ∧ (XC : Int) = col ∧ (YC : Int) = row) → A = 255 - B) from by
          rw [← hIC]
          exact ⟨fun h => by rw [hat, if_neg h], fun h => by rw [hat, if_pos h]⟩)
        have HBF2 := Lib.hid hbf
        have HAB := Lib.hid (And.intro hA hB)
        have HK := Lib.hid hk
        have HR3 := Lib.hid (show R < 4 by omega)
        obtain ⟨E1, hE1⟩ : ∃ E, wr.drew = E := ⟨_, rfl⟩
        have kE : Kept (fun _ => False) wr E1 := by rw [← hE1]; exact (Kept.refl _ _).drew
        obtain ⟨-, -, r2, r3, -, -, -, -, -, r9, r10⟩ := blk11 ((hk.then kE).blk H7.out.2.2.2.1 id)
        have HKE := Lib.hid (hk.then kE)
        have HP12 := Lib.hid (And.intro p1 p2)
        clear hIC hat hbf hA hB hQ hR hX hY hXC hYC hk kE hsz hPW0 hXl hYl hXCl hYCl ct cf p1 p2
        go_upto_region 16 with fail
        go_cut [10] (fun v wx => ∃ b : Bool, v = .bool b ∧ (b = false → A = B) ∧ (b = true → A = 255 - B) ∧ Kept (fun _ => False) V7 wx)
        case first =>
          by_cases c0 : R ≠ 3
          rotate_left
          · have e0 : ((R : Int) != 3) = false := by simp at c0 ⊢; omega
            have e0' : R = 3 := by simpa using c0
            subst e0'
            have HC := Lib.hid (HAT2.out.1 (fun h => c0 h.1))
            clear c0
            refine wp_region_still_lit (by kernel_rfl) (by kernel_rfl) ?_
            refine wpStill_step (fun K hK => ?_)
            go_simp
            repeat (generalize hfr : Act.mk _ _ = fr; refine hK _ ?_; clear hK K; refine wpStill_step (fun K hK => ?_); subst hfr; go_simp)
            generalize hfr : Act.mk _ _ = fr
            refine hK _ ?_
            clear hK K
            refine wpStill_nil ?_
            subst hfr
            rw [show (World.mk wr.heap wr.tape (wr.drawn + 1) wr.os wr.output) = E1 from hE1]
            go_wp2_with fail
            go_meet
            exact ⟨false, rfl, fun _ => HC.out, (fun h => by cases h), HKE.out⟩
          have e0 : ((R : Int) != 3) = true := by simp; omega
          by_cases c1 : 0 ≤ row
          rotate_left
          · have e1 : decide (0 ≤ row) = false := by exact decide_eq_false c1
            have HC := Lib.hid (HAT2.out.1 (fun h => c1 h.2.1))
            clear c0 c1
            refine wp_region_still_lit (by kernel_rfl) (by kernel_rfl) ?_
            refine wpStill_step (fun K hK => ?_)
            go_simp
            repeat (generalize hfr : Act.mk _ _ = fr; refine hK _ ?_; clear hK K; refine wpStill_step (fun K hK => ?_); subst hfr; go_simp)
            generalize hfr : Act.mk _ _ = fr
            refine hK _ ?_
            clear hK K
            refine wpStill_nil ?_
            subst hfr
            rw [show (World.mk wr.heap wr.tape (wr.drawn + 1) wr.os wr.output) = E1 from hE1]
            go_wp2_with fail
            go_meet
            exact ⟨false, rfl, fun _ => HC.out, (fun h => by cases h), HKE.out⟩
          have e1 : decide (0 ≤ row) = true := by exact decide_eq_true c1
          by_cases c2 : 0 ≤ col
          rotate_left
          · have e2 : decide (0 ≤ col) = false := by exact decide_eq_false c2
            have HC := Lib.hid (HAT2.out.1 (fun h => c2 h.2.2.1))
            clear c0 c1 c2
            refine wp_region_still_lit (by kernel_rfl) (by kernel_rfl) ?_
            refine wpStill_step (fun K hK => ?_)
            go_simp
            repeat (generalize hfr : Act.mk _ _ = fr; refine hK _ ?_; clear hK K; refine wpStill_step (fun K hK => ?_); subst hfr; go_simp)
            generalize hfr : Act.mk _ _ = fr
            refine hK _ ?_
            clear hK K
            refine wpStill_nil ?_
            subst hfr
            rw [show (World.mk wr.heap wr.tape (wr.drawn + 1) wr.os wr.output) = E1 from hE1]
            go_wp2_with fail
            go_meet
            exact ⟨false, rfl, fun _ => HC.out, (fun h => by cases h), HKE.out⟩
          have e2 : decide (0 ≤ col) = true := by exact decide_eq_true c2
          by_cases c3 : (XC : Int) = col
          rotate_left
          · have e3 : ((XC : Int) == col) = false := by simpa using c3
            have HC := Lib.hid (HAT2.out.1 (fun h => c3 h.2.2.2.1))
            clear c0 c1 c2 c3
            refine wp_region_still_lit (by kernel_rfl) (by kernel_rfl) ?_
            refine wpStill_step (fun K hK => ?_)
            go_simp
            repeat (generalize hfr : Act.mk _ _ = fr; refine hK _ ?_; clear hK K; refine wpStill_step (fun K hK => ?_); subst hfr; go_simp)
            generalize hfr : Act.mk _ _ = fr
            refine hK _ ?_
            clear hK K
            refine wpStill_nil ?_
            subst hfr
            rw [show (World.mk wr.heap wr.tape (wr.drawn + 1) wr.os wr.output) = E1 from hE1]
            go_wp2_with fail
            go_meet
            exact ⟨false, rfl, fun _ => HC.out, (fun h => by cases h), HKE.out⟩
          have e3 : ((XC : Int) == col) = true := by simpa using c3
          by_cases c4 : (YC : Int) = row
          rotate_left
          · have e4 : ((YC : Int) == row) = false := by simpa using c4
            have HC := Lib.hid (HAT2.out.1 (fun h => c4 h.2.2.2.2))
            clear c0 c1 c2 c3 c4
            refine wp_region_still_lit (by kernel_rfl) (by kernel_rfl) ?_
            refine wpStill_step (fun K hK => ?_)
            go_simp
            repeat (generalize hfr : Act.mk _ _ = fr; refine hK _ ?_; clear hK K; refine wpStill_step (fun K hK => ?_); subst hfr; go_simp)
            generalize hfr : Act.mk _ _ = fr
            refine hK _ ?_
            clear hK K
            refine wpStill_nil ?_
            subst hfr
            rw [show (World.mk wr.heap wr.tape (wr.drawn + 1) wr.os wr.output) = E1 from hE1]
            go_wp2_with fail
            go_meet
            exact ⟨false, rfl, fun _ => HC.out, (fun h => by cases h), HKE.out⟩
          have e4 : ((YC : Int) == row) = true := by simpa using c4
          have HC := Lib.hid (HAT2.out.2 ⟨c0, c1, c2, c3, c4⟩)
          clear c0 c1 c2 c3 c4
          refine wp_region_still_lit (by kernel_rfl) (by kernel_rfl) ?_
          refine wpStill_step (fun K hK => ?_)
          go_simp
          repeat (generalize hfr : Act.mk _ _ = fr; refine hK _ ?_; clear hK K; refine wpStill_step (fun K hK => ?_); subst hfr; go_simp)
          generalize hfr : Act.mk _ _ = fr
          refine hK _ ?_
          clear hK K
          refine wpStill_nil ?_
          subst hfr
          rw [show (World.mk wr.heap wr.tape (wr.drawn + 1) wr.os wr.output) = E1 from hE1]
          go_wp2_with fail
          go_meet
          exact ⟨true, rfl, (fun h => by cases h), fun _ => HC.out, HKE.out⟩
        case rest =>
          obtain ⟨b, rfl, hb0, hb1, hkc⟩ := hcut
          obtain ⟨⟨a0, -⟩, ⟨a1, -⟩, a2, -⟩ := blk3 (hkc.blk H7.out.2.1 id)
          obtain ⟨⟨d0, -⟩, ⟨d1, -⟩, d2, -⟩ := blk3 (hkc.blk H7.out.2.2.1 id)
          obtain ⟨E2, hE2⟩ : ∃ E, wc.drew = E := ⟨_, rfl⟩
          have kE2 : Kept (fun _ => False) wc E2 := by rw [← hE2]; exact (Kept.refl _ _).drew
          obtain ⟨⟨a0, -⟩, ⟨a1, -⟩, a2, -⟩ := blk3 ((hkc.then kE2).blk H7.out.2.1 id)
          obtain ⟨⟨d0, -⟩, ⟨d1, -⟩, d2, -⟩ := blk3 ((hkc.then kE2).blk H7.out.2.2.1 id)
          obtain ⟨bt, ot, et, ct⟩ := ((H7.out.2.2.2.2.1.kept (hkc.then kE2) (fun _ _ => id)).slAt.2.resolve_left (by omega))
          obtain ⟨bf, of', ef, cf⟩ := ((H7.out.2.2.2.2.2.kept (hkc.then kE2) (fun _ _ => id)).slAt.2.resolve_left (by omega))
          cases et
          cases ef
          have p1 := ct i hi1
          have p2 := cf i hi1
          rw [Nat.zero_add, HAB.out.1] at p1
          rw [Nat.zero_add, HAB.out.2] at p2
          have HKC := Lib.hid (hkc.then kE2)
          have wB : IntKind.u8.wrap (255 - B) = 255 - B := IntWalk.u8_in _ (by have := HBF2.out; omega)
          cases b with
          | false =>
            obtain rfl := hb0 rfl
            clear hb0 hb1 hkc kE2 ct cf
            go_wp2
            refine wp_region_still_lit (by kernel_rfl) (by kernel_rfl) ?_
            refine wpStill_step (fun K hK => ?_)
            go_simp
            repeat (generalize hfr : Act.mk _ _ = fr; refine hK _ ?_; clear hK K; refine wpStill_step (fun K hK => ?_); subst hfr; go_simp)
            generalize hfr : Act.mk _ _ = fr
            refine hK _ ?_
            clear hK K
            refine wpStill_nil ?_
            subst hfr
            rw [show (World.mk wc.heap wc.tape (wc.drawn + 1) wc.os wc.output) = E2 from hE2]
            go_wp2
            go_roundg (gk - 1)
            case rel => exact ⟨i + 1, by omega, by omega, by go_num, HKC.out⟩
            case measure => omega
          | true =>
            have hAB := hb1 rfl
            rw [hAB] at p1
            clear hb0 hb1 hkc kE2 ct cf hAB
            go_wp2
            refine wp_region_still_lit (by kernel_rfl) (by kernel_rfl) ?_
            refine wpStill_step (fun K hK => ?_)
            go_simp
            repeat (generalize hfr : Act.mk _ _ = fr; refine hK _ ?_; clear hK K; refine wpStill_step (fun K hK => ?_); subst hfr; go_simp)
            generalize hfr : Act.mk _ _ = fr
            refine hK _ ?_
            clear hK K
            refine wpStill_nil ?_
            subst hfr
            rw [show (World.mk wc.heap wc.tape (wc.drawn + 1) wc.os wc.output) = E2 from hE2]
            go_wp2
            go_roundg (gk - 1)
            case rel => exact ⟨i + 1, by omega, by omega, by go_num, HKC.out⟩
            case measure => omega
      · obtain rfl : i = n := by omega
        have g1 : decide (i < i) = false := decide_eq_false (by omega)
        have HE := Lib.hid (H7.out.1.then hk)
        clear hk
        go_wp2
        exact bodyPost_ret (v := .bool true) (by simp [results, Try.results6, go_sem]) rfl ⟨rfl, HE.out.below⟩
end Go.Proofs.Ytdjgmhbfohbenaa
