/- The images' layer of a scene: any places, any images. -/
import Derived.Test.YtdjgmhbfohbenaaRegG
namespace Go.Proofs.Ytdjgmhbfohbenaa
open Go.RowKit Go.Sort Pl
set_option linter.unusedVariables false
set_option linter.unusedSimpArgs false
theorem ov_byte {d s a : Int} (hd : 0 ≤ d ∧ d < 256) (hs : 0 ≤ s ∧ s < 256) (ha : 0 ≤ a ∧ a < 256) : 0 ≤ ov d s a ∧ ov d s a < 256 := by
  have := ov_bd (d := d) (s := s) (a := a) (by omega) (by omega) (by omega); omega
theorem blk12 {w : World} {b : Nat} {x0 x1 x2 x3 x4 x5 x6 x7 x8 x9 x10 x11 : Value} {t : TypeId} (h : w.heap[b]? = some (.cells #[x0, x1, x2, x3, x4, x5, x6, x7, x8, x9, x10, x11] t (0, 0))) :
    w.cell? ⟨b, 0, none⟩ = some x0 ∧ w.cell? ⟨b, 1, none⟩ = some x1 ∧ w.cell? ⟨b, 2, none⟩ = some x2 ∧ w.cell? ⟨b, 3, none⟩ = some x3 ∧ w.cell? ⟨b, 4, none⟩ = some x4 ∧ w.cell? ⟨b, 5, none⟩ = some x5 ∧ w.cell? ⟨b, 6, none⟩ = some x6 ∧ w.cell? ⟨b, 7, none⟩ = some x7 ∧ w.cell? ⟨b, 8, none⟩ = some x8 ∧ w.cell? ⟨b, 9, none⟩ = some x9 ∧ w.cell? ⟨b, 10, none⟩ = some x10 ∧ w.cell? ⟨b, 11, none⟩ = some x11 :=
  ⟨blk_cell h 0, blk_cell h 1, blk_cell h 2, blk_cell h 3, blk_cell h 4, blk_cell h 5, blk_cell h 6, blk_cell h 7, blk_cell h 8, blk_cell h 9, blk_cell h 10, blk_cell h 11⟩
theorem bytes_tab {n : Nat} {f : Nat → Int} (h : ∀ q, 0 ≤ f q ∧ f q < 256) : IsBytes (tab n f) := by
  intro v hv
  simp only [tab, List.mem_map] at hv
  obtain ⟨q, -, rfl⟩ := hv
  exact h q
theorem layG_bytes {W H SW SH FW FH : Nat} {x y : Int} {p s : List Int} (n : Nat) (hp : IsBytes p) (hs : IsBytes s) : IsBytes (layG W H SW SH FW FH x y p s n) := by
  refine bytes_tab fun q => ?_
  unfold paintF
  split
  · unfold layK overK
    split
    · omega
    · exact ov_byte (getD_byte hp _) (getD_byte hs _) (getD_byte hs _)
  · exact getD_byte hp _
theorem cutM_bytes {W H : Nat} {x y cw ch : Int} {p : List Int} (hp : IsBytes p) : IsBytes (cutM W H x y cw ch p).2.2 := by
  unfold cutM
  simp only
  split
  · intro v hv; cases hv
  · exact bytes_tab fun q => getD_byte hp _
theorem cutM_ok {W H : Nat} {x y cw ch : Int} {p : List Int} (hr : rightM ⟨W, H, p⟩ = true) (h0 : 0 < (cutM W H x y cw ch p).1) :
    (cutM W H x y cw ch p).2.2.length = 4 * ((cutM W H x y cw ch p).1 * (cutM W H x y cw ch p).2.1) ∧ (cutM W H x y cw ch p).1 ≤ W ∧ (cutM W H x y cw ch p).2.1 ≤ H ∧ 1 ≤ (cutM W H x y cw ch p).2.1 ∧ rightM ⟨(cutM W H x y cw ch p).1, (cutM W H x y cw ch p).2.1, (cutM W H x y cw ch p).2.2⟩ = true ∧ W ≤ 16384 ∧ H ≤ 16384 ∧ (cutM W H x y cw ch p).2.2.length ≤ p.length := by
  unfold rightM at hr
  rw [Bool.and_eq_true] at hr
  have hsz : sizeB W H = true := hr.1
  have hl : (p.length : Int) = 4 * (W : Int) * (H : Int) := of_decide_eq_true hr.2
  obtain ⟨z1, z2, z3, z4, z5, z6, z7⟩ := sizeB_t hsz
  have bx := partS_bd x cw W (by omega)
  have by' := partS_bd y ch H (by omega)
  unfold cutM at h0 ⊢
  simp only at h0 ⊢
  split
  · rename_i h; rw [if_pos h] at h0; cases h0
  · rename_i h
    rw [if_neg h] at h0
    simp only at h0 ⊢
    have c1 : (partS x cw W).2.toNat - (partS x cw W).1.toNat ≤ W := by omega
    have c2 : (partS y ch H).2.toNat - (partS y ch H).1.toNat ≤ H := by omega
    have c3 : 1 ≤ (partS y ch H).2.toNat - (partS y ch H).1.toNat := by omega
    generalize (partS x cw W).2.toNat - (partS x cw W).1.toNat = C at h0 c1 ⊢
    generalize (partS y ch H).2.toNat - (partS y ch H).1.toNat = D at c2 c3 ⊢
    have hCD : C * D ≤ W * H := Nat.mul_le_mul c1 c2
    have hWH : (W : Int) * (H : Int) = ((W * H : Nat) : Int) := by simp
    have hCD2 : (C : Int) * (D : Int) = ((C * D : Nat) : Int) := by simp
    rw [hWH] at z6
    refine ⟨tab_length _ _, c1, c2, c3, ?_, by omega, by omega, ?_⟩
    · unfold rightM
      rw [Bool.and_eq_true]
      refine ⟨?_, decide_eq_true ?_⟩
      · show sizeB (C : Int) (D : Int) = true
        unfold sizeB
        refine decide_eq_true (.inr ⟨by omega, by omega, by omega, by omega, ?_⟩)
        rw [hCD2]; omega
      · simp only [tab_length]
        rw [Int.mul_assoc, hCD2]; omega
    · rw [tab_length]
      rw [Int.mul_assoc, hWH] at hl
      omega
theorem natsM {m : Mx} (h : rightM m = true) : ∃ W H : Nat, m.w = W ∧ m.h = H := by
  unfold rightM at h
  rw [Bool.and_eq_true] at h
  obtain ⟨b1, -, b3, -⟩ := sizeB_t h.1
  exact ⟨m.w.toNat, m.h.toNat, by omega, by omega⟩
theorem imgStep_len {W H n cw ch : Nat} {top : Int} {E : List ME} {above : Bool} {P : List Int} {p : Pz} (hP : P.length = n) : (imgStep W H n cw ch top E above P p).length = n := by
  unfold imgStep
  split
  · exact hP
  · split
    · exact hP
    · split
      · exact tab_length _ _
      · exact hP
theorem imgStep_bytes {W H n cw ch : Nat} {top : Int} {E : List ME} {above : Bool} {P : List Int} {p : Pz} (hE : ∀ m ∈ E, IsBytes m.p) (hP : IsBytes P) : IsBytes (imgStep W H n cw ch top E above P p) := by
  unfold imgStep
  split
  · exact hP
  · rename_i m hm
    split
    · exact hP
    · split
      · exact layG_bytes n hP (cutM_bytes (hE m (lookM_mem hm).1))
      · exact hP
theorem imgs_bytes {W H n cw ch : Nat} {top : Int} {E : List ME} {above : Bool} (hE : ∀ m ∈ E, IsBytes m.p) : ∀ (L : List Pz) (P : List Int), IsBytes P → IsBytes (imgsP W H n cw ch top E L above P)
  | [], _, h => h
  | p :: L, P, h => imgs_bytes hE L _ (imgStep_bytes hE h)
theorem imgsP_take {W H n cw ch : Nat} {top : Int} {E : List ME} {above : Bool} {L : List Pz} {P : List Int} {i : Nat} {p : Pz} (h : L[i]? = some p) : imgsP W H n cw ch top E (L.take (i + 1)) above P = imgStep W H n cw ch top E above (imgsP W H n cw ch top E (L.take i) above P) p := by
  unfold imgsP
  rw [List.take_add_one, h, Option.toList_some, List.foldl_append]
  rfl
/-- What holds of memory while images are laid. -/
structure ImI (W H n g B : Nat) (SC : Array Value) (w0 w : World) (P : List Int) (wr : World) : Prop where
  o : Own .u8 5 wr (.slice (some ⟨g, 0, none⟩) n n) P
  k : Kept (fun i => i = g) w wr
  k0 : Kept (fun i => B ≤ i) w0 wr
  s : wr.heap[w.heap.size]? = some (.cells SC 92 (0, 0))
  m : wr.heap[w.heap.size + 1]? = some (.cells #[.int .i64 W, .int .i64 H, .slice (some ⟨g, 0, none⟩) n n] 31 (0, 0))
  z : wr.heap[w.heap.size + 1 + 1]? = some (.cells #[.int .i64 0, .int .i64 0, .slice none 0 0] 31 (0, 0))
  by' : IsBytes P
theorem ImI.up {W H n g B : Nat} {SC : Array Value} {w0 w : World} {P : List Int} {wr w2 : World} (h : ImI W H n g B SC w0 w P wr) (k : Kept (fun _ => False) wr w2) : ImI W H n g B SC w0 w P w2 :=
  ⟨h.o.kept k (fun _ _ => id), h.k.then (k.mono fun _ _ h => h.elim), h.k0.then (k.mono fun _ _ h => h.elim), k.blk h.s id, k.blk h.m id, k.blk h.z id, h.by'⟩
theorem ImI.lay {W H n g B : Nat} {SC : Array Value} {w0 w : World} {P P' : List Int} {wr w2 : World} (h : ImI W H n g B SC w0 w P wr) (o : Own .u8 5 w2 (.slice (some ⟨g, 0, none⟩) n n) P') (k : Kept (fun i => i = g) wr w2) (hg : g < w.heap.size) (hB : B ≤ g) (hb : IsBytes P') : ImI W H n g B SC w0 w P' w2 :=
  ⟨o, h.k.then k, h.k0.then (k.mono fun i _ hi => (by have h9 : i = g := hi; omega : B ≤ i)), k.blk h.s (fun (e : w.heap.size = g) => by omega), k.blk h.m (fun (e : w.heap.size + 1 = g) => by omega), k.blk h.z (fun (e : w.heap.size + 1 + 1 = g) => by omega), hb⟩
set_option maxRecDepth 100000 in
set_option maxHeartbeats 8000000 in
theorem images_any (s : Sc) (W H n B : Nat) (w0 : World) (E : List ME) (L : List Pz) (hd : Dim s W H n) (hn2 : n ≤ 16384) (hn0 : 0 < n) (hsz : sizeB W H = true) (htop : 0 ≤ s.top ∧ s.top ≤ 1125899906842624) (hpn : s.pn ≤ 9223372036854775807)
    (hL : PzsAt B w0 s.pa s.pn L) (hOk : ∀ p ∈ L, p.Ok) (hE : MapAt B w0 s.im E) (hr : ∀ m ∈ E, rightM m.mx = true ∧ m.n ≤ 16384) : Imgs s W H n B w0 (imgsP W H n s.cw s.ch s.top E L) := by
  intro above P g w hg hk ho hb
  have hgw := ho.lt g rfl
  have hcw := hd.cw
  have hch := hd.ch
  have hbW := hd.bW
  have hbH := hd.bH
  have hbn := hd.bn
  have HREG := Lib.hid (fun (p : Pz) (hp : p.Ok) (x : World) => region_any s p x hcw hch htop hp)
  have HMX := Lib.hid (fun (m : ME) (hm : m ∈ E) => hr m hm)
  have HEM := Lib.hid hE.mem
  have HRG : ∀ p, regP s.cw s.ch s.top p = regP s.cw s.ch s.top p := fun _ => rfl
  clear HRG
  obtain ⟨rows, cols, cw, ch, la, ln, lc, pa, pn, pc, im0, top, cur, srow, scol⟩ := s
  simp only at hcw hch htop hpn hL hE HREG ⊢
  unfold Sc.val at HREG
  simp only at HREG
  have hll := hL.1
  obtain ⟨V, hV⟩ : ∃ V, ((w.alloc (.cells #[.int .i64 rows, .int .i64 cols, .int .i64 cw, .int .i64 ch, .slice la ln lc, .slice pa pn pc, .map im0, .int .i64 top, .bool cur, .int .i64 srow, .int .i64 scol, .bool above] 92)).alloc (.cells #[.int .i64 W, .int .i64 H, .slice (some ⟨g, 0, none⟩) n n] 31)).alloc (.cells #[.int .i64 0, .int .i64 0, .slice none 0 0] 31) = V := ⟨_, rfl⟩
  have kV : Kept (fun _ => False) w V := by rw [← hV]; exact (((Kept.refl _ _).alloc _).alloc _).alloc _
  have b0 : V.heap[w.heap.size]? = some (.cells #[.int .i64 rows, .int .i64 cols, .int .i64 cw, .int .i64 ch, .slice la ln lc, .slice pa pn pc, .map im0, .int .i64 top, .bool cur, .int .i64 srow, .int .i64 scol, .bool above] 92 (0, 0)) := by rw [← hV]; exact blk_alloc (blk_alloc (blk_new _ _) _) _
  have b1 : V.heap[w.heap.size + 1]? = some (.cells #[.int .i64 W, .int .i64 H, .slice (some ⟨g, 0, none⟩) n n] 31 (0, 0)) := by rw [← hV]; exact blk_alloc (blk_at _ _ (by simp)) _
  have b2 : V.heap[w.heap.size + 1 + 1]? = some (.cells #[.int .i64 0, .int .i64 0, .slice none 0 0] 31 (0, 0)) := by rw [← hV]; exact blk_at _ _ (by simp)
  obtain ⟨J, hJ⟩ : ∃ J, ImI W H n g B #[.int .i64 rows, .int .i64 cols, .int .i64 cw, .int .i64 ch, .slice la ln lc, .slice pa pn pc, .map im0, .int .i64 top, .bool cur, .int .i64 srow, .int .i64 scol, .bool above] w0 w = J := ⟨_, rfl⟩
  have HJ0 := Lib.hid (show J P V by rw [← hJ]; exact ⟨ho.kept kV (fun _ _ => id), kV.mono (fun _ _ h => h.elim), hk.then (kV.mono fun _ _ h => h.elim), b0, b1, b2, hb⟩)
  have HJE := Lib.hid (fun (P : List Int) (wr : World) (h : J P wr) => show ImI W H n g B #[.int .i64 rows, .int .i64 cols, .int .i64 cw, .int .i64 ch, .slice la ln lc, .slice pa pn pc, .map im0, .int .i64 top, .bool cur, .int .i64 srow, .int .i64 scol, .bool above] w0 w P wr from by rw [hJ]; exact h)
  have HJU := Lib.hid (fun (P : List Int) (wr w2 : World) (h : J P wr) (k : Kept (fun _ => False) wr w2) => show J P w2 from by rw [← hJ] at h ⊢; exact h.up k)
  have HJL := Lib.hid (fun (P P' : List Int) (wr w2 : World) (h : J P wr) (o : Own .u8 5 w2 (.slice (some ⟨g, 0, none⟩) n n) P') (k : Kept (fun i => i = g) wr w2) (hb : IsBytes P') => show J P' w2 from by rw [← hJ] at h ⊢; exact h.lay o k hgw hg hb)
  have HLL := Lib.hid (fun (P : List Int) (wr : World) (h : J P wr) => show PzsAt B wr pa pn L ∧ MapAt B wr im0 E from by
    have k0 := (show ImI W H n g B #[.int .i64 rows, .int .i64 cols, .int .i64 cw, .int .i64 ch, .slice la ln lc, .slice pa pn pc, .map im0, .int .i64 top, .bool cur, .int .i64 srow, .int .i64 scol, .bool above] w0 w P wr from by rw [hJ]; exact h).k0
    exact ⟨hL.kept k0 (fun _ h => h), hE.kept k0 (fun _ h => h)⟩)
  have HN := Lib.hid (And.intro hgw (And.intro hg (And.intro hll hOk)))
  have HD := Lib.hid (And.intro hbW (And.intro hbH (And.intro hbn (And.intro hn2 hsz))))
  have HV := Lib.hid (show pn < 9223372036854775808 by omega)
  have HCH := Lib.hid (And.intro hcw hch)
  have HTOP := Lib.hid htop
  clear hd hn2 hsz htop hL hOk hE hr hk ho hgw hcw hch hbW hbH hbn hll kV b0 b1 b2 hb hg hJ hpn hn0
  obtain ⟨-, -, -, -, -, x5, -⟩ := blk12 (HJE.out _ _ HJ0.out).s
  go_enter Try.func109, Try.ntmps109
  go_wp2
  clear x5
  go_loopg [6, 7, 8, 9, 10, 11, 12, 13, 18] pn (fun gg _ _ _ _ _ _ _ _ iv wr => ∃ i : Nat, pn ≤ gg + i ∧ i ≤ pn ∧ iv = .int .i64 (i : Int) ∧ J (imgsP W H n cw ch top E (L.take i) above P) wr)
  case atStart => exact ⟨0, by omega, by omega, rfl, HJ0.out⟩
  case round =>
    obtain ⟨i, hgg, hik, rfl, hj⟩ := hrel
    by_cases hi1 : i < pn
    · have hpn := HV.out
      have g1 : decide (i < pn) = true := decide_eq_true hi1
      have g1' : decide ((i : Int) < (pn : Int)) = true := decide_eq_true (by omega)
      have wi : IntKind.i64.wrap ((i : Int) + 1) = (i : Int) + 1 := IntWalk.i64_in _ (by omega)
      have i0 : (0 : Int) ≤ (i : Int) := by omega
      have i1 : (i : Int) < (pn : Int) := by omega
      obtain ⟨hls, hmp⟩ := HLL.out _ _ hj
      obtain ⟨p, hp⟩ : ∃ p, L[i]? = some p := ⟨_, List.getElem?_eq_getElem (by have := HN.out.2.2.1; omega)⟩
      have hpo : p.Ok := HN.out.2.2.2 p (List.mem_of_getElem? hp)
      have HTK := Lib.hid (imgsP_take (W := W) (H := H) (n := n) (cw := cw) (ch := ch) (top := top) (E := E) (above := above) (P := P) hp)
      obtain ⟨Q, hQ⟩ : ∃ Q, imgsP W H n cw ch top E (L.take i) above P = Q := ⟨_, rfl⟩
      rw [hQ] at hj HTK
      obtain ⟨bb, off, rfl, hbB, hcs⟩ := hls.2.resolve_left (by omega)
      obtain ⟨y0, y1, y2, y3, y4, y5, y6, y7, y8, y9, y10, y11, y12, y13⟩ := (hcs i p hp).cells
      have HR := Lib.hid (HREG.out p hpo)
      unfold imgStep at HTK
      obtain ⟨⟨rx, ry, rw', rh⟩, hRG⟩ : ∃ r, regP cw ch top p = r := ⟨_, rfl⟩
      rw [hRG] at HR HTK
      have HRG := Lib.hid hRG
      have HPO := Lib.hid hpo
      clear hcs hp hls hQ hRG hpo
      obtain ⟨pim, pid, alt, line, pcol, prows, pcols, px, py, pw, ph, dx, dy, z⟩ := p
      unfold Pz.val at HR
      simp only at y0 y1 y2 y3 y4 y5 y6 y7 y8 y9 y10 y11 y12 y13 HR HTK
      obtain ⟨-, -, -, -, -, x5, x6, -⟩ := blk12 (HJE.out _ _ hj).s
      obtain ⟨V4, hV4⟩ : ∃ X, wr.alloc (.cells #[.int .i64 pim, .int .i64 pid, .bool alt, .int .i64 line, .int .i64 pcol, .int .i64 prows, .int .i64 pcols, .int .i64 px, .int .i64 py, .int .i64 pw, .int .i64 ph, .int .i64 dx, .int .i64 dy, .int .i64 z] 48) = X := ⟨_, rfl⟩
      have k4 : Kept (fun _ => False) wr V4 := by rw [← hV4]; exact (Kept.refl _ _).alloc _
      have e4 : V4.heap[wr.heap.size]? = some (.cells #[.int .i64 pim, .int .i64 pid, .bool alt, .int .i64 line, .int .i64 pcol, .int .i64 prows, .int .i64 pcols, .int .i64 px, .int .i64 py, .int .i64 pw, .int .i64 ph, .int .i64 dx, .int .i64 dy, .int .i64 z] 48 (0, 0)) := by rw [← hV4]; exact blk_new _ _
      have hmp4 := (HLL.out _ _ (HJU.out _ _ _ hj k4)).2
      obtain ⟨-, -, -, -, -, -, x6', -⟩ := blk12 (HJE.out _ _ (HJU.out _ _ _ hj k4)).s
      have z0' : V4.cell? ⟨wr.heap.size, 0, none⟩ = some (.int .i64 pim) := blk_cell e4 0
      cases hlk : lookM E pim with
      | none =>
        have hlo := look_no hmp4 hlk
        rw [hlk] at HTK
        simp only at HTK
        obtain ⟨V5, hV5⟩ : ∃ X, V4.alloc (.cells #[.int .i64 0, .int .i64 0, .slice none 0 0] 31) = X := ⟨_, rfl⟩
        have k5 : Kept (fun _ => False) V4 V5 := by rw [← hV5]; exact (Kept.refl _ _).alloc _
        have e5 : V5.heap[V4.heap.size]? = some (.cells #[.int .i64 0, .int .i64 0, .slice none 0 0] 31 (0, 0)) := by rw [← hV5]; exact blk_new _ _
        obtain ⟨U1, U2, U3, g1, g2, g3, ⟨z0, z0'⟩, ⟨z1, z1'⟩, ⟨z2, z2'⟩, bU, kU⟩ := same3 e5
        have k45 : Kept (fun _ => False) wr U3 := (k4.then k5).trans (kU.mono fun x _ hi => Or.inr (by have h9 : x = V4.heap.size := hi; have := k4.size; omega))
        have hlt4 := lt_of_blk e4
        obtain ⟨f0, f1, f2, f3, f4, f5, f6, f7, f8, f9, f10, f11, f12, f13⟩ := blk14 (kU.blk (k5.blk e4 id) (fun (h : wr.heap.size = V4.heap.size) => by omega))
        obtain ⟨q0, q1, q2, q3, q4, q5, q6, q7, q8, q9, q10, q11⟩ := blk12 (HJE.out _ _ (HJU.out _ _ _ hj k45)).s
        have HJ5 := Lib.hid (HJU.out _ _ _ hj k45)
        clear hj k4 e4 hmp4 hmp k5 hlk e5 bU kU k45 hlt4
        go_wp2_with fail
        refine (HR.out _).mono ?_
        rintro e w6 ⟨rfl, hk6⟩
        have HJ6 := Lib.hid (HJU.out _ _ _ HJ5.out hk6)
        clear hk6
        go_wp2
        go_roundg (gk - 1)
        case rel => exact ⟨i + 1, by omega, by omega, by go_num, by rw [HTK.out]; exact HJ6.out⟩
        case measure => omega
      | some m =>
        have hlo := look_yes hmp4 hlk
        have hmm := (lookM_mem hlk).1
        have hme := HEM.out m hmm
        obtain ⟨hmr, hmn⟩ := HMX.out m hmm
        rw [hlk] at HTK
        simp only at HTK
        obtain ⟨Wm, Hm, eW, eH⟩ := natsM hmr
        have hms : SlAt .u8 V4 m.a m.n m.p := (hmp4.mem m hmm).s
        obtain ⟨mk, mx, my, ma, mn, mc, mp, born⟩ := m
        unfold ME.mx at eW eH hmr
        simp only at eW eH hmr hmn hms
        subst eW eH
        unfold ME.val at hlo
        simp only [Int.toNat_natCast] at hlo HTK
        have hmc := hme.c
        have hmby := hme.by'
        have hmbb := hme.b
        simp only at hmc hmby hmbb
        obtain ⟨V5, hV5⟩ : ∃ X, V4.alloc (.cells #[.int .i64 Wm, .int .i64 Hm, .slice ma mn mc] 31) = X := ⟨_, rfl⟩
        have k5 : Kept (fun _ => False) V4 V5 := by rw [← hV5]; exact (Kept.refl _ _).alloc _
        have e5 : V5.heap[V4.heap.size]? = some (.cells #[.int .i64 Wm, .int .i64 Hm, .slice ma mn mc] 31 (0, 0)) := by rw [← hV5]; exact blk_new _ _
        obtain ⟨f0, f1, f2, f3, f4, f5, f6, f7, f8, f9, f10, f11, f12, f13⟩ := blk14 (k5.blk e4 id)
        obtain ⟨q0, q1, q2, q3, q4, q5, q6, q7, q8, q9, q10, q11⟩ := blk12 (HJE.out _ _ (HJU.out _ _ _ hj (k4.then k5))).s
        have HJ5 := Lib.hid (HJU.out _ _ _ hj (k4.then k5))
        have HB5 := Lib.hid (And.intro (k5.blk e4 id) (And.intro e5 (hms.up k5)))
        have HMM := Lib.hid (And.intro hmr (And.intro hmn (And.intro hmc (And.intro hmby hmbb))))
        have hmg : SlAt .u8 V5 ma mn mp := hms.up k5
        have HSZ := Lib.hid (show w.heap.size + 2 < V5.heap.size from by have h1 := lt_of_blk (HJE.out _ _ (HJU.out _ _ _ hj (k4.then k5))).z; omega)
        clear hj k4 e4 hmp4 hmp k5 e5 hlk hmm hme hmr hmn hms hmc hmby hmbb hmg
        by_cases h0 : rw' = 0
        · subst h0
          rw [if_pos (.inl rfl)] at HTK
          go_wp2_with fail
          refine (HR.out _).mono ?_
          rintro e w6 ⟨rfl, hk6⟩
          have HJ6 := Lib.hid (HJU.out _ _ _ HJ5.out hk6)
          obtain ⟨f0, f1, f2, f3, f4, f5, f6, f7, f8, f9, f10, f11, f12, f13⟩ := blk14 (hk6.blk HB5.out.1 id)
          obtain ⟨q0, q1, q2, q3, q4, q5, q6, q7, q8, q9, q10, q11⟩ := blk12 (HJE.out _ _ HJ6.out).s
          clear hk6
          go_wp2
          go_roundg (gk - 1)
          case rel => exact ⟨i + 1, by omega, by omega, by go_num, by rw [HTK.out]; exact HJ6.out⟩
          case measure => omega
        have n0 : (rw' == 0) = false := by simpa using h0
        have HH0 := Lib.hid h0
        by_cases hz0 : 0 ≤ z
        · have gz : decide (0 ≤ z) = true := decide_eq_true hz0
          rw [gz] at HTK
          cases above
          · rw [if_pos (.inr (by decide))] at HTK
            clear h0 hz0
            go_wp2_with fail
            refine (HR.out _).mono ?_
            rintro e w6 ⟨rfl, hk6⟩
            have HJ6 := Lib.hid (HJU.out _ _ _ HJ5.out hk6)
            obtain ⟨f0, f1, f2, f3, f4, f5, f6, f7, f8, f9, f10, f11, f12, f13⟩ := blk14 (hk6.blk HB5.out.1 id)
            obtain ⟨q0, q1, q2, q3, q4, q5, q6, q7, q8, q9, q10, q11⟩ := blk12 (HJE.out _ _ HJ6.out).s
            clear hk6
            go_wp2
            go_roundg (gk - 1)
            case rel => exact ⟨i + 1, by omega, by omega, by go_num, by rw [HTK.out]; exact HJ6.out⟩
            case measure => omega
          · rw [if_neg (fun h => h.elim h0 (fun h => h rfl))] at HTK
            clear h0 hz0
            obtain ⟨⟨C, D, CP⟩, hCM⟩ : ∃ x, cutM Wm Hm px py pw ph mp = x := ⟨_, rfl⟩
            rw [hCM] at HTK
            simp only at HTK
            have HCUT := Lib.hid (fun (x : World) (hs : SlAt .u8 x ma mn mp) => show Calls Try.prog 30 #[.agg #[.int .i64 Wm, .int .i64 Hm, .slice ma mn mc], .int .i64 px, .int .i64 py, .int .i64 pw, .int .i64 ph] x fun e w' => ∃ v, e = .returned (.agg #[.int .i64 C, .int .i64 D, v]) ∧ Made x CP v w' from by
              have hpo := HPO.out
              have h := cut_any Wm Hm px py pw ph mp ma mn mc x hpo.x hpo.y (by have := hpo.w; unfold I64; simp only at this; omega) (by have := hpo.h; unfold I64; simp only at this; omega) HMM.out.1 hs HMM.out.2.1 HMM.out.2.2.1.1 HMM.out.2.2.1.2
              rw [hCM] at h
              exact h)
            have HCM := Lib.hid hCM
            clear hCM
            go_wp2_with fail
            refine (HR.out _).mono ?_
            rintro e w6 ⟨rfl, hk6⟩
            have HJ6 := Lib.hid (HJU.out _ _ _ HJ5.out hk6)
            obtain ⟨f0, f1, f2, f3, f4, f5, f6, f7, f8, f9, f10, f11, f12, f13⟩ := blk14 (hk6.blk HB5.out.1 id)
            obtain ⟨q0, q1, q2, q3, q4, q5, q6, q7, q8, q9, q10, q11⟩ := blk12 (HJE.out _ _ HJ6.out).s
            obtain ⟨⟨a0, -⟩, ⟨a1, -⟩, a2, -⟩ := blk3 (hk6.blk HB5.out.2.1 id)
            have HC6 := Lib.hid (HCUT.out _ (HB5.out.2.2.up hk6))
            have HSZ6 := Lib.hid (show w.heap.size + 2 < w6.heap.size from by have := hk6.size; have := HSZ.out; omega)
            clear hk6
            go_wp2_with fail
            refine HC6.out.mono ?_
            rintro e w7 ⟨cv, rfl, hm7, hk7, hb7⟩
            obtain ⟨ca, cc, hce, hs7, hc1, hc2, -, hbb7⟩ := hm7.shape
            obtain ⟨cn, hcn⟩ : ∃ x, CP.length = x := ⟨_, rfl⟩
            rw [hcn] at hce hs7 hc1
            subst hce
            obtain ⟨V8, hV8⟩ : ∃ X, w7.alloc (.cells #[.int .i64 C, .int .i64 D, .slice ca cn cc] 31) = X := ⟨_, rfl⟩
            have k8 : Kept (fun _ => False) w7 V8 := by rw [← hV8]; exact (Kept.refl _ _).alloc _
            have b8 : V8.heap[w7.heap.size]? = some (.cells #[.int .i64 C, .int .i64 D, .slice ca cn cc] 31 (0, 0)) := by rw [← hV8]; exact blk_new _ _
            obtain ⟨⟨t0, -⟩, ⟨t1, -⟩, t2, -⟩ := blk3 b8
            have HJ8 := Lib.hid (HJU.out _ _ _ HJ6.out (hk7.then k8))
            obtain ⟨⟨d0, -⟩, ⟨d1, -⟩, d2, -⟩ := blk3 (HJE.out _ _ HJ8.out).m
            have H8 := Lib.hid (And.intro (hs7.up k8) (And.intro hc1 (And.intro hc2 (And.intro hcn (fun b off (he : ca = some ⟨b, off, none⟩) => hb7 b (hbb7 b off he))))))
            clear hm7 hk7 hb7 hs7 hc1 hc2 hbb7 k8 b8 hcn
            by_cases hC : 0 < C
            rotate_left
            · have gC : decide (0 < C) = false := decide_eq_false hC
              have gC' : decide (0 < (C : Int)) = false := decide_eq_false (by omega)
              rw [if_neg hC] at HTK
              clear hC
              go_wp2
              go_roundg (gk - 1)
              case rel => exact ⟨i + 1, by omega, by omega, by go_num, by rw [HTK.out]; exact HJ8.out⟩
              case measure => omega
            have gC : decide (0 < C) = true := decide_eq_true hC
            have gC' : decide (0 < (C : Int)) = true := decide_eq_true (by omega)
            rw [if_pos hC] at HTK
            have HOK := Lib.hid (show CP.length = 4 * (C * D) ∧ C ≤ Wm ∧ D ≤ Hm ∧ 1 ≤ D ∧ rightM ⟨C, D, CP⟩ = true ∧ Wm ≤ 16384 ∧ Hm ≤ 16384 ∧ CP.length ≤ mp.length ∧ IsBytes CP from by
              have h := cutM_ok (x := px) (y := py) (cw := pw) (ch := ph) HMM.out.1 (by rw [HCM.out]; exact hC)
              have h2 := cutM_bytes (W := Wm) (H := Hm) (x := px) (y := py) (cw := pw) (ch := ph) HMM.out.2.2.2.1
              rw [HCM.out] at h h2
              exact ⟨h.1, h.2.1, h.2.2.1, h.2.2.2.1, h.2.2.2.2.1, h.2.2.2.2.2.1, h.2.2.2.2.2.2.1, h.2.2.2.2.2.2.2, h2⟩)
            obtain ⟨FW, hFW, FH, hFH, hFWb, hFHb⟩ : ∃ FW : Nat, rw' = (FW : Int) ∧ ∃ FH : Nat, rh = (FH : Int) ∧ (1 ≤ FW ∧ FW ≤ 16384) ∧ (1 ≤ FH ∧ FH ≤ 16384) := by
              have h := regP_pos (cw := cw) (ch := ch) (top := top) (p := ⟨pim, pid, alt, line, pcol, prows, pcols, px, py, pw, ph, dx, dy, z⟩) (by rw [HRG.out]; exact HH0.out)
              rw [HRG.out] at h
              simp only at h
              exact ⟨rw'.toNat, by omega, rh.toNat, by omega, by omega, by omega⟩
            have hri := regP_i64 HPO.out HCH.out.1 HCH.out.2 HTOP.out
            rw [HRG.out] at hri
            simp only at hri
            subst hFW hFH
            simp only [Int.toNat_natCast] at HTK
            have HLAY := Lib.hid (show Calls Try.prog 110 #[.agg #[.int .i64 W, .int .i64 H, .slice (some ⟨g, 0, none⟩) n n], .agg #[.int .i64 C, .int .i64 D, .slice ca cn cc], .int .i64 rx, .int .i64 ry, .int .i64 FW, .int .i64 FH] V8 fun e w' => e = .returned (.tuple #[]) ∧ Own .u8 5 w' (.slice (some ⟨g, 0, none⟩) n n) (layG W H C D FW FH rx ry Q CP n) ∧ Kept (fun i => i = g) V8 w' from by
              obtain ⟨o1, o2, o3, o4, o5, o6, o7, o8, o9⟩ := HOK.out
              obtain ⟨e1, e2, e3, e4, e5⟩ := H8.out
              have hji := HJE.out _ _ HJ8.out
              have hQl : Q.length = n := by obtain ⟨_, _, hv, -, -⟩ := hji.o.shape; cases hv; rfl
              obtain ⟨d1, d2, d3, d4, d5⟩ := HD.out
              have hmnl : mp.length = mn := HB5.out.2.2.1
              have hmn2 := HMM.out.2.1
              refine (layG_any W H C D FW FH rx ry Q CP (some ⟨g, 0, none⟩) ca n n cn cc V8 hri.1 hri.2 d1 d2 (by omega) (by omega) ⟨hC, o4⟩ hFWb hFHb d3 (by omega) d4 (by omega) ?_ o5 hji.o e1 hji.by' o9 e2 (by simpa [maxLen] using e3) ?_).mono ?_
              · unfold rightM
                rw [Bool.and_eq_true]
                refine ⟨d5, decide_eq_true ?_⟩
                simp only
                rw [hQl, d3]; simp [Int.mul_assoc]
              · intro b off h0 he hS
                have h7 := e5 b off he
                have h8 : g = b := (by cases hS; rfl)
                have h9 := HSZ6.out
                have := HN.out.1
                omega
              · rintro e w' ⟨h1, h2, h3⟩
                exact ⟨h1, h2, h3.mono fun i _ h => (by have h8 : g = i := (by cases h; rfl)
                                                        exact h8.symm)⟩)
            have HBY := Lib.hid (show IsBytes (layG W H C D FW FH rx ry Q CP n) from layG_bytes n (HJE.out _ _ HJ8.out).by' HOK.out.2.2.2.2.2.2.2.2)
            obtain ⟨RES, hRES⟩ : ∃ x, layG W H C D FW FH rx ry Q CP n = x := ⟨_, rfl⟩
            rw [hRES] at HLAY HBY HTK
            clear hC hri hFWb hFHb hRES
            go_wp2_with fail
            refine HLAY.out.mono ?_
            rintro e w9 ⟨rfl, ho9, hk9⟩
            have HJ9 := Lib.hid (HJL.out _ _ _ _ HJ8.out ho9 hk9 HBY.out)
            clear ho9 hk9
            go_wp2
            go_roundg (gk - 1)
            case rel => exact ⟨i + 1, by omega, by omega, by go_num, by rw [HTK.out]; exact HJ9.out⟩
            case measure => omega
        · have gz : decide (0 ≤ z) = false := decide_eq_false hz0
          rw [gz] at HTK
          cases above
          · rw [if_neg (fun h => h.elim h0 (fun h => h rfl))] at HTK
            clear h0 hz0
            obtain ⟨⟨C, D, CP⟩, hCM⟩ : ∃ x, cutM Wm Hm px py pw ph mp = x := ⟨_, rfl⟩
            rw [hCM] at HTK
            simp only at HTK
            have HCUT := Lib.hid (fun (x : World) (hs : SlAt .u8 x ma mn mp) => show Calls Try.prog 30 #[.agg #[.int .i64 Wm, .int .i64 Hm, .slice ma mn mc], .int .i64 px, .int .i64 py, .int .i64 pw, .int .i64 ph] x fun e w' => ∃ v, e = .returned (.agg #[.int .i64 C, .int .i64 D, v]) ∧ Made x CP v w' from by
              have hpo := HPO.out
              have h := cut_any Wm Hm px py pw ph mp ma mn mc x hpo.x hpo.y (by have := hpo.w; unfold I64; simp only at this; omega) (by have := hpo.h; unfold I64; simp only at this; omega) HMM.out.1 hs HMM.out.2.1 HMM.out.2.2.1.1 HMM.out.2.2.1.2
              rw [hCM] at h
              exact h)
            have HCM := Lib.hid hCM
            clear hCM
            go_wp2_with fail
            refine (HR.out _).mono ?_
            rintro e w6 ⟨rfl, hk6⟩
            have HJ6 := Lib.hid (HJU.out _ _ _ HJ5.out hk6)
            obtain ⟨f0, f1, f2, f3, f4, f5, f6, f7, f8, f9, f10, f11, f12, f13⟩ := blk14 (hk6.blk HB5.out.1 id)
            obtain ⟨q0, q1, q2, q3, q4, q5, q6, q7, q8, q9, q10, q11⟩ := blk12 (HJE.out _ _ HJ6.out).s
            obtain ⟨⟨a0, -⟩, ⟨a1, -⟩, a2, -⟩ := blk3 (hk6.blk HB5.out.2.1 id)
            have HC6 := Lib.hid (HCUT.out _ (HB5.out.2.2.up hk6))
            have HSZ6 := Lib.hid (show w.heap.size + 2 < w6.heap.size from by have := hk6.size; have := HSZ.out; omega)
            clear hk6
            go_wp2_with fail
            refine HC6.out.mono ?_
            rintro e w7 ⟨cv, rfl, hm7, hk7, hb7⟩
            obtain ⟨ca, cc, hce, hs7, hc1, hc2, -, hbb7⟩ := hm7.shape
            obtain ⟨cn, hcn⟩ : ∃ x, CP.length = x := ⟨_, rfl⟩
            rw [hcn] at hce hs7 hc1
            subst hce
            obtain ⟨V8, hV8⟩ : ∃ X, w7.alloc (.cells #[.int .i64 C, .int .i64 D, .slice ca cn cc] 31) = X := ⟨_, rfl⟩
            have k8 : Kept (fun _ => False) w7 V8 := by rw [← hV8]; exact (Kept.refl _ _).alloc _
            have b8 : V8.heap[w7.heap.size]? = some (.cells #[.int .i64 C, .int .i64 D, .slice ca cn cc] 31 (0, 0)) := by rw [← hV8]; exact blk_new _ _
            obtain ⟨⟨t0, -⟩, ⟨t1, -⟩, t2, -⟩ := blk3 b8
            have HJ8 := Lib.hid (HJU.out _ _ _ HJ6.out (hk7.then k8))
            obtain ⟨⟨d0, -⟩, ⟨d1, -⟩, d2, -⟩ := blk3 (HJE.out _ _ HJ8.out).m
            have H8 := Lib.hid (And.intro (hs7.up k8) (And.intro hc1 (And.intro hc2 (And.intro hcn (fun b off (he : ca = some ⟨b, off, none⟩) => hb7 b (hbb7 b off he))))))
            clear hm7 hk7 hb7 hs7 hc1 hc2 hbb7 k8 b8 hcn
            by_cases hC : 0 < C
            rotate_left
            · have gC : decide (0 < C) = false := decide_eq_false hC
              have gC' : decide (0 < (C : Int)) = false := decide_eq_false (by omega)
              rw [if_neg hC] at HTK
              clear hC
              go_wp2
              go_roundg (gk - 1)
              case rel => exact ⟨i + 1, by omega, by omega, by go_num, by rw [HTK.out]; exact HJ8.out⟩
              case measure => omega
            have gC : decide (0 < C) = true := decide_eq_true hC
            have gC' : decide (0 < (C : Int)) = true := decide_eq_true (by omega)
            rw [if_pos hC] at HTK
            have HOK := Lib.hid (show CP.length = 4 * (C * D) ∧ C ≤ Wm ∧ D ≤ Hm ∧ 1 ≤ D ∧ rightM ⟨C, D, CP⟩ = true ∧ Wm ≤ 16384 ∧ Hm ≤ 16384 ∧ CP.length ≤ mp.length ∧ IsBytes CP from by
              have h := cutM_ok (x := px) (y := py) (cw := pw) (ch := ph) HMM.out.1 (by rw [HCM.out]; exact hC)
              have h2 := cutM_bytes (W := Wm) (H := Hm) (x := px) (y := py) (cw := pw) (ch := ph) HMM.out.2.2.2.1
              rw [HCM.out] at h h2
              exact ⟨h.1, h.2.1, h.2.2.1, h.2.2.2.1, h.2.2.2.2.1, h.2.2.2.2.2.1, h.2.2.2.2.2.2.1, h.2.2.2.2.2.2.2, h2⟩)
            obtain ⟨FW, hFW, FH, hFH, hFWb, hFHb⟩ : ∃ FW : Nat, rw' = (FW : Int) ∧ ∃ FH : Nat, rh = (FH : Int) ∧ (1 ≤ FW ∧ FW ≤ 16384) ∧ (1 ≤ FH ∧ FH ≤ 16384) := by
              have h := regP_pos (cw := cw) (ch := ch) (top := top) (p := ⟨pim, pid, alt, line, pcol, prows, pcols, px, py, pw, ph, dx, dy, z⟩) (by rw [HRG.out]; exact HH0.out)
              rw [HRG.out] at h
              simp only at h
              exact ⟨rw'.toNat, by omega, rh.toNat, by omega, by omega, by omega⟩
            have hri := regP_i64 HPO.out HCH.out.1 HCH.out.2 HTOP.out
            rw [HRG.out] at hri
            simp only at hri
            subst hFW hFH
            simp only [Int.toNat_natCast] at HTK
            have HLAY := Lib.hid (show Calls Try.prog 110 #[.agg #[.int .i64 W, .int .i64 H, .slice (some ⟨g, 0, none⟩) n n], .agg #[.int .i64 C, .int .i64 D, .slice ca cn cc], .int .i64 rx, .int .i64 ry, .int .i64 FW, .int .i64 FH] V8 fun e w' => e = .returned (.tuple #[]) ∧ Own .u8 5 w' (.slice (some ⟨g, 0, none⟩) n n) (layG W H C D FW FH rx ry Q CP n) ∧ Kept (fun i => i = g) V8 w' from by
              obtain ⟨o1, o2, o3, o4, o5, o6, o7, o8, o9⟩ := HOK.out
              obtain ⟨e1, e2, e3, e4, e5⟩ := H8.out
              have hji := HJE.out _ _ HJ8.out
              have hQl : Q.length = n := by obtain ⟨_, _, hv, -, -⟩ := hji.o.shape; cases hv; rfl
              obtain ⟨d1, d2, d3, d4, d5⟩ := HD.out
              have hmnl : mp.length = mn := HB5.out.2.2.1
              have hmn2 := HMM.out.2.1
              refine (layG_any W H C D FW FH rx ry Q CP (some ⟨g, 0, none⟩) ca n n cn cc V8 hri.1 hri.2 d1 d2 (by omega) (by omega) ⟨hC, o4⟩ hFWb hFHb d3 (by omega) d4 (by omega) ?_ o5 hji.o e1 hji.by' o9 e2 (by simpa [maxLen] using e3) ?_).mono ?_
              · unfold rightM
                rw [Bool.and_eq_true]
                refine ⟨d5, decide_eq_true ?_⟩
                simp only
                rw [hQl, d3]; simp [Int.mul_assoc]
              · intro b off h0 he hS
                have h7 := e5 b off he
                have h8 : g = b := (by cases hS; rfl)
                have h9 := HSZ6.out
                have := HN.out.1
                omega
              · rintro e w' ⟨h1, h2, h3⟩
                exact ⟨h1, h2, h3.mono fun i _ h => (by have h8 : g = i := (by cases h; rfl)
                                                        exact h8.symm)⟩)
            have HBY := Lib.hid (show IsBytes (layG W H C D FW FH rx ry Q CP n) from layG_bytes n (HJE.out _ _ HJ8.out).by' HOK.out.2.2.2.2.2.2.2.2)
            obtain ⟨RES, hRES⟩ : ∃ x, layG W H C D FW FH rx ry Q CP n = x := ⟨_, rfl⟩
            rw [hRES] at HLAY HBY HTK
            clear hC hri hFWb hFHb hRES
            go_wp2_with fail
            refine HLAY.out.mono ?_
            rintro e w9 ⟨rfl, ho9, hk9⟩
            have HJ9 := Lib.hid (HJL.out _ _ _ _ HJ8.out ho9 hk9 HBY.out)
            clear ho9 hk9
            go_wp2
            go_roundg (gk - 1)
            case rel => exact ⟨i + 1, by omega, by omega, by go_num, by rw [HTK.out]; exact HJ9.out⟩
            case measure => omega
          · rw [if_pos (.inr (by decide))] at HTK
            clear h0 hz0
            go_wp2_with fail
            refine (HR.out _).mono ?_
            rintro e w6 ⟨rfl, hk6⟩
            have HJ6 := Lib.hid (HJU.out _ _ _ HJ5.out hk6)
            obtain ⟨f0, f1, f2, f3, f4, f5, f6, f7, f8, f9, f10, f11, f12, f13⟩ := blk14 (hk6.blk HB5.out.1 id)
            obtain ⟨q0, q1, q2, q3, q4, q5, q6, q7, q8, q9, q10, q11⟩ := blk12 (HJE.out _ _ HJ6.out).s
            clear hk6
            go_wp2
            go_roundg (gk - 1)
            case rel => exact ⟨i + 1, by omega, by omega, by go_num, by rw [HTK.out]; exact HJ6.out⟩
            case measure => omega
    · obtain rfl : i = pn := by omega
      have g1 : decide (i < i) = false := decide_eq_false (by omega)
      have hje := HJE.out _ _ hj
      obtain ⟨⟨d0, -⟩, ⟨d1, -⟩, d2, -⟩ := blk3 hje.m
      obtain ⟨U1, U2, U3, f1, f2, f3, ⟨z0, z0'⟩, ⟨z1, z1'⟩, ⟨z2, z2'⟩, bU, kU⟩ := store3 hje.z (.int .i64 W) (.int .i64 H) (.slice (some ⟨g, 0, none⟩) n n)
      obtain ⟨⟨m0, -⟩, ⟨m1, -⟩, m2, -⟩ := blk3 bU
      have HE := Lib.hid (And.intro (hje.o.kept kU (fun b hb hS => by have h9 : b = w.heap.size + 1 + 1 := hS; have h8 : g = b := (by cases hb; rfl); have := HN.out.1; omega)) (hje.k.trans (kU.mono fun x _ hi => Or.inr (by have h9 : x = w.heap.size + 1 + 1 := hi; omega))))
      rw [show L.take i = L from List.take_of_length_le (by have := HN.out.2.2.1; omega)] at HE
      clear hj hje bU kU
      go_wp2
      exact bodyPost_ret (v := .agg #[.int .i64 W, .int .i64 H, .slice (some ⟨g, 0, none⟩) n n]) (by simp [results, Try.results109, go_sem, m0, m1, m2]) rfl ⟨rfl, HE.out⟩
end Go.Proofs.Ytdjgmhbfohbenaa
