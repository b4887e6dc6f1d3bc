/- The document's Draw. -/
import Derived.Test.YtdjgmhbfohbenaaRTxt
import Derived.Test.YtdjgmhbfohbenaaRImg
import Derived.Test.YtdjgmhbfohbenaaMFil
import Derived.Test.YtdjgmhbfohbenaaMDrw
namespace Go.Proofs.Ytdjgmhbfohbenaa
open Go.RowKit Go.Sort Pl
set_option linter.unusedVariables false
set_option linter.unusedSimpArgs false
attribute [local go_sem] A2.growOp A2.growUpon A2.sameUpon
/-- The ground of a picture, byte by byte. -/
noncomputable def groK (ls : List (List Cl)) (W cw ch P k : Nat) : Int := bakB (cellS ls (P / W / ch) (P % W / cw)) k
noncomputable def groP (ls : List (List Cl)) (W H cw ch : Nat) (z : List Int) : List Int := tab (4 * (W * H)) (paintF ⟨W, 0, 0, 0, 0, W, 0, H⟩ z (groK ls W cw ch))
/-- The places of one side of the text, drawn one behind the other. -/
def imgsR (W H n cw ch : Nat) (top : Int) (IL : List (Int × ME)) (L : List Pz) (above : Bool) (P : List Int) : List Int := L.foldl (fun Q p => if decide (0 ≤ p.z) = above then imgD W H n cw ch top IL Q p else Q) P
theorem imgsR_take {W H n cw ch : Nat} {top : Int} {IL : List (Int × ME)} {above : Bool} {L : List Pz} {P : List Int} {i : Nat} {p : Pz} (h : L[i]? = some p) : imgsR W H n cw ch top IL (L.take (i + 1)) above P = if decide (0 ≤ p.z) = above then imgD W H n cw ch top IL (imgsR W H n cw ch top IL (L.take i) above P) p else imgsR W H n cw ch top IL (L.take i) above P := by
  unfold imgsR
  rw [List.take_add_one, h, Option.toList_some, List.foldl_append]
  rfl
theorem bakB_byte (c : Cl) (k : Nat) : 0 ≤ bakB c k ∧ bakB c k < 256 := by
  have hb := (colors_isB c.a).2
  obtain ⟨h1, h2, h3⟩ := hb
  unfold Pl.IsB at h1 h2 h3
  unfold bakB
  rcases k with _ | _ | _ | _ | k
  · simpa using h1
  · simpa using h2
  · simpa using h3
  · simp
  · simp
theorem groP_bytes {ls : List (List Cl)} {W H cw ch : Nat} {z : List Int} (hz : IsBytes z) : IsBytes (groP ls W H cw ch z) := by
  unfold groP
  refine bytes_tab fun q => ?_
  unfold paintF
  split
  · exact bakB_byte _ _
  · exact getD_byte hz _
theorem lookI_of : ∀ {L : List (Int × ME)} {k : Int} {m : ME}, lookI L k = some m → ∃ q ∈ L, q.2 = m
  | [], _, _, h => by cases h
  | q :: L, k, m, h => by
    unfold lookI at h
    split at h
    · cases h; exact ⟨q, .head _, rfl⟩
    · obtain ⟨r, hr, e⟩ := lookI_of h
      exact ⟨r, .tail _ hr, e⟩
theorem imgD_bytes {W H n cw ch : Nat} {top : Int} {IL : List (Int × ME)} {P : List Int} {p : Pz} (hE : ∀ q ∈ IL, IsBytes q.2.p) (hP : IsBytes P) : IsBytes (imgD W H n cw ch top IL P p) := by
  unfold imgD
  split
  · exact hP
  · rename_i m hm
    obtain ⟨q, hq, rfl⟩ := lookI_of hm
    split
    · exact hP
    · split
      · exact layG_bytes n hP (cutM_bytes (hE q hq))
      · exact hP
theorem imgsR_bytes {W H n cw ch : Nat} {top : Int} {IL : List (Int × ME)} {above : Bool} (hE : ∀ q ∈ IL, IsBytes q.2.p) : ∀ (L : List Pz) (P : List Int), IsBytes P → IsBytes (imgsR W H n cw ch top IL L above P)
  | [], _, h => h
  | p :: L, P, h => imgsR_bytes hE L _ (by
    show IsBytes (if decide (0 ≤ p.z) = above then imgD W H n cw ch top IL P p else P)
    split
    · exact imgD_bytes hE h
    · exact h)
noncomputable def rdrawP (s : RSc) (ls : List (List Cl)) (L : List Pz) (IL : List (Int × ME)) (W H n : Nat) : List Int :=
  curP s.sc W n (imgsR W H n s.cw s.ch s.top IL L true (eachF (glsF s.sc ls W H) s.cols s.rows (imgsR W H n s.cw s.ch s.top IL L false (groP ls W H s.cw s.ch (List.replicate n 0)))))
/-- What holds of memory while the document draws. -/
structure RdI (w : World) (W H n mb : Nat) (SC : Array Value) (g c : Nat) (L : List Int) (wr : World) : Prop where
  o : Own .u8 5 wr (.slice (some ⟨g, 0, none⟩) n c) L
  k : Kept (fun _ => False) w wr
  s : wr.heap[w.heap.size]? = some (.cells SC 42 (0, 0))
  z : wr.heap[w.heap.size + 1]? = some (.cells #[.int .i64 0, .int .i64 0, .slice none 0 0] 35 (0, 0))
  m : wr.heap[mb]? = some (.cells #[.int .i64 W, .int .i64 H, .slice (some ⟨g, 0, none⟩) n c] 35 (0, 0))
  gs : w.heap.size + 1 < g ∧ g ≠ mb ∧ w.heap.size + 1 < mb
theorem RdI.kept {w : World} {W H n mb : Nat} {SC : Array Value} {g c : Nat} {L : List Int} {wr w2 : World} (h : RdI w W H n mb SC g c L wr) (hk : Kept (fun _ => False) wr w2) : RdI w W H n mb SC g c L w2 :=
  ⟨h.o.kept hk (fun _ _ => id), h.k.then hk, hk.blk h.s id, hk.blk h.z id, hk.blk h.m id, h.gs⟩
/-- A block beyond these is written. -/
theorem RdI.fresh {w : World} {W H n mb : Nat} {SC : Array Value} {g c : Nat} {L : List Int} {wr w2 : World} {q : Nat} (h : RdI w W H n mb SC g c L wr) (hk : Kept (fun i => i = q) wr w2) (hq : wr.heap.size ≤ q) : RdI w W H n mb SC g c L w2 := by
  have hg := h.o.lt g rfl
  have hm := lt_of_blk h.m
  have hz := lt_of_blk h.z
  exact ⟨h.o.kept hk (fun b hb (hS : b = q) => by have h8 : g = b := (by cases hb; rfl); omega), h.k.trans (hk.mono fun i _ hi => Or.inr (by have h9 : i = q := hi; omega)), hk.blk h.s (fun (e : w.heap.size = q) => by omega), hk.blk h.z (fun (e : w.heap.size + 1 = q) => by omega), hk.blk h.m (fun (e : mb = q) => by omega), h.gs⟩
/-- Blocks that a region made are written. -/
theorem RdI.beyond {w : World} {W H n mb : Nat} {SC : Array Value} {g c : Nat} {L : List Int} {wr w2 w3 : World} (h : RdI w W H n mb SC g c L wr) (hk : Kept (fun _ => False) wr w2) (hk2 : Kept (fun i => wr.heap.size ≤ i) w2 w3) : RdI w W H n mb SC g c L w3 := by
  have hg := h.o.lt g rfl
  have hm := lt_of_blk h.m
  have hz := lt_of_blk h.z
  have h2 := h.kept hk
  exact ⟨h2.o.kept hk2 (fun b hb (hS : wr.heap.size ≤ b) => by have h8 : g = b := (by cases hb; rfl); omega), h2.k.trans (hk2.mono fun i _ hi => Or.inr (by have h9 : wr.heap.size ≤ i := hi; omega)), hk2.blk h2.s (fun (e : wr.heap.size ≤ w.heap.size) => by omega), hk2.blk h2.z (fun (e : wr.heap.size ≤ w.heap.size + 1) => by omega), hk2.blk h2.m (fun (e : wr.heap.size ≤ mb) => by omega), h.gs⟩
theorem RdI.put {w : World} {W H n mb : Nat} {SC : Array Value} {g c : Nat} {L L' : List Int} {wr w2 : World} (h : RdI w W H n mb SC g c L wr) (ho : Own .u8 5 w2 (.slice (some ⟨g, 0, none⟩) n c) L') (hk : Kept (fun i => i = g) wr w2) : RdI w W H n mb SC g c L' w2 := by
  have hg := h.gs
  exact ⟨ho, h.k.trans (hk.mono fun i _ hi => Or.inr (by have h9 : i = g := hi; omega)), hk.blk h.s (fun (e : w.heap.size = g) => by omega), hk.blk h.z (fun (e : w.heap.size + 1 = g) => by omega), hk.blk h.m (fun (e : mb = g) => hg.2.1 e.symm), h.gs⟩
/-- A place's image is drawn: the matrix may be another one. -/
theorem RdI.img {w : World} {W H n mb : Nat} {SC : Array Value} {g c : Nat} {L L' : List Int} {wr w2 : World} {a' : Option Addr} {c' : Nat} (h : RdI w W H n mb SC g c L wr) (o : Own .u8 5 w2 (.slice a' n c') L') (hk : Kept (fun _ => False) wr w2)
    (hor : (a' = some ⟨g, 0, none⟩ ∧ c' = c) ∨ ∀ b, (Value.slice a' n c').ownBlock = some b → wr.heap.size ≤ b) (hn : 0 < n) :
    ∃ g', a' = some ⟨g', 0, none⟩ ∧ ∀ w3, Kept (fun i => i = mb) w2 w3 → w3.heap[mb]? = some (.cells #[.int .i64 W, .int .i64 H, .slice a' n c'] 35 (0, 0)) → RdI w W H n mb SC g' c' L' w3 := by
  have o2 := o
  obtain ⟨-, h2⟩ := o2
  have hm := lt_of_blk h.m
  have hgs := h.gs
  have hg1 := h.o.lt g rfl
  rcases h2 with ⟨hv, -⟩ | ⟨g', cap, cur, hv, -, hg, -⟩
  · cases hv; omega
  cases hv
  refine ⟨g', rfl, fun w3 k3 b3 => ?_⟩
  have hgm : w.heap.size + 1 < g' ∧ g' ≠ mb := by
    rcases hor with ⟨e, -⟩ | h9
    · cases e; exact ⟨hgs.1, hgs.2.1⟩
    · have := h9 g' rfl; omega
  exact ⟨o.kept k3 (fun b hb (hS : b = mb) => by have h8 : g' = b := (by cases hb; rfl); omega), (h.k.then hk).trans (k3.mono fun i _ hi => Or.inr (by have h9 : i = mb := hi; omega)), k3.blk (hk.blk h.s id) (fun (e : w.heap.size = mb) => by omega), k3.blk (hk.blk h.z id) (fun (e : w.heap.size + 1 = mb) => by omega), b3, hgm.1, hgm.2, hgs.2.2⟩
set_option maxRecDepth 100000 in
set_option maxHeartbeats 8000000 in
theorem rdrw_any (B : Nat) (s : RSc) (ls : List (List Cl)) (L : List Pz) (IL : List (Int × ME)) (W H n : Nat) (w : World) (hl : LinesAt B w s.la s.ln ls) (hL : PzsAt B w s.pa s.pn L) (hI : ImsAt B w s.ia s.ik IL) (hlen : s.ln ≤ 9223372036854775807) (hpn : s.pn ≤ 9223372036854775807) (hik : s.ik ≤ 9223372036854775807)
    (hcl : ∀ r c, -2147483648 ≤ (cellS ls r c).r ∧ (cellS ls r c).r ≤ 2147483647) (hOk : ∀ p ∈ L, p.Ok) (hir : ∀ q ∈ IL, rightM q.2.mx = true ∧ q.2.n ≤ 16384) (htop : 0 ≤ s.top ∧ s.top ≤ 1125899906842624) (hrs : 1 ≤ s.rows ∧ s.rows ≤ 1000) (hcs : 1 ≤ s.cols ∧ s.cols ≤ 1000) (hcw : 1 ≤ s.cw ∧ s.cw ≤ 64) (hch : 1 ≤ s.ch ∧ s.ch ≤ 64)
    (hW : W = s.cols * s.cw) (hH : H = s.rows * s.ch) (hn : n = 4 * (W * H)) (hn2 : n ≤ 16384) (hn0 : 0 < n) (hBw : B ≤ w.heap.size) :
    Calls Try.prog 12 #[s.val] w fun e w' => ∃ g c : Nat, e = .returned (.tuple #[.agg #[.int .i64 W, .int .i64 H, .slice (some ⟨g, 0, none⟩) n c], .int .i64 0]) ∧ Own .u8 5 w' (.slice (some ⟨g, 0, none⟩) n c) (rdrawP s ls L IL W H n) ∧ Kept (fun _ => False) w w' := by
  have hWH : W * H ≤ 4096 := by omega
  have hW1 : 1 ≤ W := by rw [hW]; exact Nat.mul_pos (by omega) (by omega)
  have hH1 : 1 ≤ H := by rw [hH]; exact Nat.mul_pos (by omega) (by omega)
  have hWb : W ≤ W * H := Nat.le_mul_of_pos_right _ hH1
  have hHb : H ≤ W * H := Nat.le_mul_of_pos_left _ hW1
  have hsz : sizeB W H = true := by
    unfold sizeB
    refine decide_eq_true (.inr ⟨by omega, by omega, by omega, by omega, ?_⟩)
    rw [← Int.natCast_mul]; omega
  have HCELL := Lib.hid (fun (r c : Nat) (x : World) (hx : LinesAt B x s.la s.ln ls) (h1 : r ≤ 1000000) (h2 : c ≤ 1000000) => rcell_any B s ls r c x hx hlen h1 h2)
  have HTXT := Lib.hid (fun (row col g cap : Nat) (P : List Int) (x : World) (hx : LinesAt B x s.la s.ln ls) (hr : row < s.rows) (hc : col < s.cols) (ho : Own .u8 5 x (.slice (some ⟨g, 0, none⟩) n cap) P) => rtext_any B s ls W H n g cap row col P x hx hlen hcl hcw hch hW hH hr hc hrs.2 hcs.2 (by omega) (by omega) hn hn2 ho)
  have HIMG := Lib.hid (fun (p : Pz) (P : List Int) (a : Option Addr) (cap : Nat) (x : World) (hp : p.Ok) (hr1 : rightM ⟨W, H, P⟩ = true) (ho : Own .u8 5 x (.slice a n cap) P) (hPb : IsBytes P) (hx : ImsAt B x s.ia s.ik IL) => rimage_any s p W H n B P a cap IL x hcw hch htop hp (by omega) (by omega) hn hn2 hn0 hr1 ho hPb hx hir hik)
  obtain ⟨RES, hRES⟩ : ∃ x, rdrawP s ls L IL W H n = x := ⟨_, rfl⟩
  have HRES := Lib.hid hRES
  rw [hRES]
  clear hRES
  have HNEW := Lib.hid (fun x => show Calls Try.prog 35 #[.int .i64 W, .int .i64 H] x fun e w' => ∃ g, e = .returned (.tuple #[.agg #[.int .i64 W, .int .i64 H, .slice (some ⟨g, 0, none⟩) n n], .int .i64 0]) ∧ x.heap.size ≤ g ∧ Own .u8 5 w' (.slice (some ⟨g, 0, none⟩) n n) (List.replicate n 0) ∧ Kept (fun _ => False) x w' from (rnew_yes W H x hsz).mono fun e w' ⟨g, k, hk, he, h1, h2, h3⟩ => by
    obtain rfl : k = n := by
      rw [Int.mul_assoc, show (W : Int) * (H : Int) = ((W * H : Nat) : Int) by simp] at hk
      omega
    exact ⟨g, he, h1, h2, h3⟩)
  have HBT := fun (v lo hi : Int) (b : Bool) (hb : decide (lo ≤ v ∧ v ≤ hi) = b) (x : World) => show Calls Try.prog 34 #[.int .i64 v, .int .i64 lo, .int .i64 hi] x fun e w' => e = .returned (.bool b) ∧ x = w' from by
    have h := in34_any v lo hi x
    rw [← Bool.decide_and, hb] at h
    exact h.mono fun _ _ h => ⟨h.1, h.2.symm⟩
  have B1 := Lib.hid (HBT s.rows 1 1000 true (decide_eq_true (by omega)))
  have B2 := Lib.hid (HBT s.cols 1 1000 true (decide_eq_true (by omega)))
  have B3 := Lib.hid (HBT s.cw 1 64 true (decide_eq_true (by omega)))
  have B4 := Lib.hid (HBT s.ch 1 64 true (decide_eq_true (by omega)))
  obtain ⟨rows, cols, cw, ch, la, ln, lc, pa, pn, pc, ia, ik, ic, top, cur, srow, scol⟩ := s
  simp only at hl hL hI hlen hpn hik htop hrs hcs hcw hch hW hH HCELL HTXT HIMG HRES B1 B2 B3 B4 ⊢
  unfold RSc.val at HCELL HTXT HIMG ⊢
  unfold Pz.val at HIMG
  unfold Cl.val at HCELL
  simp only at HCELL HTXT HIMG ⊢
  obtain ⟨V, hV⟩ : ∃ V, (w.alloc (.cells #[.int .i64 rows, .int .i64 cols, .int .i64 cw, .int .i64 ch, .slice la ln lc, .slice pa pn pc, .slice ia ik ic, .int .i64 top, .bool cur, .int .i64 srow, .int .i64 scol] 42)).alloc (.cells #[.int .i64 0, .int .i64 0, .slice none 0 0] 35) = V := ⟨_, rfl⟩
  have kV : Kept (fun _ => False) w V := by rw [← hV]; exact ((Kept.refl _ _).alloc _).alloc _
  have b0 : V.heap[w.heap.size]? = some (.cells #[.int .i64 rows, .int .i64 cols, .int .i64 cw, .int .i64 ch, .slice la ln lc, .slice pa pn pc, .slice ia ik ic, .int .i64 top, .bool cur, .int .i64 srow, .int .i64 scol] 42 (0, 0)) := by rw [← hV]; exact blk_alloc (blk_new _ _) _
  have b1 : V.heap[w.heap.size + 1]? = some (.cells #[.int .i64 0, .int .i64 0, .slice none 0 0] 35 (0, 0)) := by rw [← hV]; exact blk_at _ _ (by simp)
  obtain ⟨x0, x1, x2, x3, x4, x5, x6, x7, x8, x9, x10⟩ := blk11 b0
  have HV := Lib.hid (And.intro kV (And.intro b0 b1))
  have HLN := Lib.hid (fun (x : World) (k : Kept (fun _ => False) w x) => And.intro (hl.kept k (fun _ h => h.elim)) (And.intro (hL.kept k (fun _ h => h.elim)) (hI.kept k (fun _ h => h.elim))))
  have HN := Lib.hid (And.intro hrs (And.intro hcs (And.intro hcw (And.intro hch (And.intro hW (And.intro hH (And.intro hn (And.intro hn2 (And.intro hn0 (And.intro hWH (And.intro hW1 (And.intro hH1 (And.intro hWb (And.intro hHb (And.intro hpn (And.intro hL.1 hOk))))))))))))))))
  have HSZ := Lib.hid hsz
  have HIB := Lib.hid (fun (q : Int × ME) (hq : q ∈ IL) => (hI.2.1 q hq).by')
  have HRM := Lib.hid (fun (Q : List Int) (hQ : Q.length = n) => show rightM ⟨W, H, Q⟩ = true from by
    unfold rightM
    simp only
    rw [hsz, Bool.true_and, hQ, hn]
    exact decide_eq_true (by rw [Int.mul_assoc, ← Int.natCast_mul]; omega))
  have v1 : (cols : Int) * (cw : Int) = (W : Int) := by rw [hW]; simp
  have v2 : (rows : Int) * (ch : Int) = (H : Int) := by rw [hH]; simp
  have u1 : IntKind.i64.wrap (W : Int) = (W : Int) := IntWalk.i64_in _ (by omega)
  have u2 : IntKind.i64.wrap (H : Int) = (H : Int) := IntWalk.i64_in _ (by omega)
  -- the ground
  obtain ⟨t, ht⟩ : ∃ t : Spot, (⟨W, 0, 0, 0, 0, W, 0, H⟩ : Spot) = t := ⟨_, rfl⟩
  obtain ⟨K, hK⟩ : ∃ K, groK ls W cw ch = K := ⟨_, rfl⟩
  obtain ⟨z, hz⟩ : ∃ z, List.replicate n (0 : Int) = z := ⟨_, rfl⟩
  have hzl : z.length = n := by rw [← hz]; simp
  obtain ⟨G, hG⟩ : ∃ G, groP ls W H cw ch z = G := ⟨_, rfl⟩
  have HGRO := Lib.hid (show G = tab n (paintF t z K) from by rw [← hG]; unfold groP; rw [← hn, ht, hK])
  have HSTART := Lib.hid (show tab n (paintD t z K 0 0) = z from by have h := paintD_start t z K n hzl; rw [← ht] at h ⊢; exact h)
  have HEND := Lib.hid (show tab n (paintD t z K H 0) = tab n (paintF t z K) from paintD_end t z K n 0 H (by rw [← ht]; exact Nat.le_refl _))
  have HROWS := Lib.hid (fun (Y : Nat) => show tab n (paintD t z K Y W) = tab n (paintD t z K (Y + 1) 0) from by have h := paintD_row t z K n W Y (by rw [← ht]; exact Nat.le_refl _); rw [← ht] at h ⊢; exact h)
  have HSTEP := Lib.hid (fun (X Y : Nat) (c0 c1 c2 : Int) (hXW : X < W) (hY : Y < H) (hc : ∀ k, k < 4 → [c0, c1, c2, 255].getD k 0 = K (Y * W + X) k) (hn : 4 * (Y * W + X) + 4 ≤ n) => show spl (tab n (paintD t z K Y X)) (4 * (Y * W + X)) [c0, c1, c2, 255] = tab n (paintD t z K Y (X + 1)) from by
    have h := paintD_step t z K n X Y (by rw [← ht]; exact hXW) (by rw [← ht]; exact Nat.zero_le _) (by rw [← ht]; exact hXW) (by rw [← ht]; exact Nat.zero_le _) (by rw [← ht]; exact hY) (by rw [← ht]; exact hn) [c0, c1, c2, 255] rfl (by rw [← ht]; exact hc)
    rw [← ht] at h ⊢
    exact h)
  have HKK := Lib.hid (fun (X Y k : Nat) (hX : X < W) => show K (Y * W + X) k = bakB (cellS ls (Y / ch) (X / cw)) k from by
    rw [← hK]
    unfold groK
    obtain ⟨e1, e2⟩ := pos_of (W := W) (x := X) (y := Y) hX
    rw [e1, e2])
  have HG := Lib.hid hG
  have HZ := Lib.hid hz
  rw [hz] at HNEW
  clear HBT hl hL hI hlen hpn hik hcl hOk hir htop hrs hcs hcw hch hW hH hn hn2 hn0 hBw hWH hW1 hH1 hWb hHb hsz kV b0 b1 ht hK hz hzl hG
  go_enter Try.func12, Try.ntmps12
  go_wp2_with (go_at_call 34; first | ((with_reducible refine (B1.out _).mono ?_); rintro e w' ⟨rfl, rfl⟩) | ((with_reducible refine (B2.out _).mono ?_); rintro e w' ⟨rfl, rfl⟩) | ((with_reducible refine (B3.out _).mono ?_); rintro e w' ⟨rfl, rfl⟩) | ((with_reducible refine (B4.out _).mono ?_); rintro e w' ⟨rfl, rfl⟩))
  refine (HNEW.out _).mono ?_
  rintro e w1 ⟨g0, rfl, hg, ho, hk1⟩
  obtain ⟨V1, hV1⟩ : ∃ V, w1.alloc (.cells #[.int .i64 W, .int .i64 H, .slice (some ⟨g0, 0, none⟩) n n] 35) = V := ⟨_, rfl⟩
  have k1 : Kept (fun _ => False) w1 V1 := by rw [← hV1]; exact (Kept.refl _ _).alloc _
  have c0 : V1.heap[w1.heap.size]? = some (.cells #[.int .i64 W, .int .i64 H, .slice (some ⟨g0, 0, none⟩) n n] 35 (0, 0)) := by rw [← hV1]; exact blk_new _ _
  obtain ⟨mb, hmb⟩ : ∃ x, w1.heap.size = x := ⟨_, rfl⟩
  have hVl := lt_of_blk HV.out.2.2
  have hgl := ho.lt g0 rfl
  have kk := hk1.then k1
  have hk1s := hk1.size
  have HI0 := Lib.hid (show RdI w W H n mb #[.int .i64 rows, .int .i64 cols, .int .i64 cw, .int .i64 ch, .slice la ln lc, .slice pa pn pc, .slice ia ik ic, .int .i64 top, .bool cur, .int .i64 srow, .int .i64 scol] g0 n (tab n (paintD t z K 0 0)) V1 from ⟨by rw [HSTART.out]; exact ho.kept k1 (fun _ _ => id), HV.out.1.then kk, kk.blk HV.out.2.1 id, kk.blk HV.out.2.2 id, by rw [← hmb]; exact c0, by omega⟩)
  clear hg ho hk1 k1 c0 hVl hgl kk hk1s x0 x1 x2 x3 x4 x5 x6 x7 x8 x9 x10
  obtain ⟨⟨d0, -⟩, ⟨d1, -⟩, d2, -⟩ := blk3 HI0.out.m
  go_wp2
  clear d0 d1 d2
  go_loopg [6, 7, 8, 9] H (fun gg yv _ _ _ wr => ∃ Y : Nat, H ≤ gg + Y ∧ Y ≤ H ∧ yv = .int .i64 Y ∧ RdI w W H n mb #[.int .i64 rows, .int .i64 cols, .int .i64 cw, .int .i64 ch, .slice la ln lc, .slice pa pn pc, .slice ia ik ic, .int .i64 top, .bool cur, .int .i64 srow, .int .i64 scol] g0 n (tab n (paintD t z K Y 0)) wr)
  case atStart => exact ⟨0, by omega, by omega, rfl, HI0.out⟩
  case round =>
    obtain ⟨Y, hgg, hYH, rfl, hinv⟩ := hrel
    obtain ⟨⟨d0, -⟩, ⟨d1, -⟩, d2, -⟩ := blk3 hinv.m
    by_cases hY1 : Y < H
    · have gy : decide (Y < H) = true := decide_eq_true hY1
      have gy' : decide ((Y : Int) < (H : Int)) = true := decide_eq_true (by omega)
      have wY : IntKind.i64.wrap ((Y : Int) + 1) = (Y : Int) + 1 := IntWalk.i64_in _ (by have := HN.out; omega)
      have HI := Lib.hid hinv
      obtain ⟨gko, hgo⟩ : ∃ x, x = gk := ⟨_, rfl⟩
      subst hgo
      clear hinv
      go_wp2
      clear d0 d1 d2
      go_loopg [7, 8, 9] W (fun gg xv _ _ wr => ∃ X : Nat, W ≤ gg + X ∧ X ≤ W ∧ xv = .int .i64 X ∧ RdI w W H n mb #[.int .i64 rows, .int .i64 cols, .int .i64 cw, .int .i64 ch, .slice la ln lc, .slice pa pn pc, .slice ia ik ic, .int .i64 top, .bool cur, .int .i64 srow, .int .i64 scol] g0 n (tab n (paintD t z K Y X)) wr)
      case atStart => exact ⟨0, by omega, by omega, rfl, HI.out⟩
      case round =>
        obtain ⟨X, hgx, hXW', rfl, hinv⟩ := hrel
        obtain ⟨⟨d0, -⟩, ⟨d1, -⟩, d2, -⟩ := blk3 hinv.m
        by_cases hX1 : X < W
        · have gx : decide (X < W) = true := decide_eq_true hX1
          have gx' : decide ((X : Int) < (W : Int)) = true := decide_eq_true (by omega)
          have hnn := HN.out
          have wX : IntKind.i64.wrap ((X : Int) + 1) = (X : Int) + 1 := IntWalk.i64_in _ (by omega)
          obtain ⟨yq, hyq⟩ : ∃ q, Y / ch = q := ⟨_, rfl⟩
          obtain ⟨xq, hxq⟩ : ∃ q, X / cw = q := ⟨_, rfl⟩
          have byq : yq ≤ 4096 := by rw [← hyq]; exact Nat.le_trans (Nat.div_le_self _ _) (by omega)
          have bxq : xq ≤ 4096 := by rw [← hxq]; exact Nat.le_trans (Nat.div_le_self _ _) (by omega)
          have t1 : (Y : Int).tdiv (ch : Int) = (yq : Int) := by rw [Int.tdiv_eq_ediv_of_nonneg (by omega), ← hyq]; simp
          have t2 : (X : Int).tdiv (cw : Int) = (xq : Int) := by rw [Int.tdiv_eq_ediv_of_nonneg (by omega), ← hxq]; simp
          have t3 : IntKind.i64.wrap (yq : Int) = (yq : Int) := IntWalk.i64_in _ (by omega)
          have t4 : IntKind.i64.wrap (xq : Int) = (xq : Int) := IntWalk.i64_in _ (by omega)
          have z1 : ((ch : Int) == 0) = false := by simp; omega
          have z2 : ¬ ch = 0 := by omega
          have z3 : ¬ (ch : Int) = 0 := by omega
          have z4 : ((cw : Int) == 0) = false := by simp; omega
          have z5 : ¬ cw = 0 := by omega
          have z6 : ¬ (cw : Int) = 0 := by omega
          have HPn := Lib.hid (show 4 * (Y * W + X) + 4 ≤ n from by have h := fit_idx hX1 hY1; omega)
          have hkk := HKK.out X Y
          rw [hyq, hxq] at hkk
          have HCE := Lib.hid (fun (x : World) (hx : LinesAt B x la ln ls) => HCELL.out yq xq x hx (by omega) (by omega))
          obtain ⟨c, hc⟩ : ∃ c, cellS ls yq xq = c := ⟨_, rfl⟩
          rw [hc] at hkk HCE
          obtain ⟨F, hF⟩ : ∃ F, (colors c.a).1 = F := ⟨_, rfl⟩
          obtain ⟨Bk, hB⟩ : ∃ B, (colors c.a).2 = B := ⟨_, rfl⟩
          have HST := Lib.hid (HSTEP.out X Y Bk.r Bk.g Bk.b hX1 hY1 (fun k _ => by rw [hkk k hX1]; unfold bakB; rw [hB]) HPn.out)
          have HC := Lib.hid (show ∀ w, Calls Try.prog 36 #[.agg #[.int .i64 c.a.fg, .int .i64 c.a.bg, .int .i64 c.a.fl]] w fun e w' => e = .returned (.tuple #[.agg #[.int .u8 F.r, .int .u8 F.g, .int .u8 F.b], .agg #[.int .u8 Bk.r, .int .u8 Bk.g, .int .u8 Bk.b]]) ∧ Kept (fun _ => False) w w' from fun w => by have h := rcols_any c.a w; unfold ColsPost lookV at h; rw [hF, hB] at h; exact h)
          have HFB := Lib.hid (show ∀ w, Calls Try.prog 39 #[.agg #[.int .u8 Bk.r, .int .u8 Bk.g, .int .u8 Bk.b]] w fun e w' => e = .returned (.agg #[.int .u8 Bk.r, .int .u8 Bk.g, .int .u8 Bk.b, .int .u8 255]) ∧ Kept (fun _ => False) w w' from fun w => full_any Bk w)
          obtain ⟨WR, hWR⟩ : ∃ WR, WR = wr.drew := ⟨_, rfl⟩
          have kR : Kept (fun _ => False) wr WR := by rw [hWR]; exact (Kept.refl _ _).drew
          have hiR := hinv.kept kR
          obtain ⟨x0, x1, x2, x3, x4, x5, x6, x7, x8, x9, x10⟩ := blk11 hiR.s
          have Q0 := cell_regrown x0
          have Q1 := cell_regrown x1
          have Q2 := cell_regrown x2
          have Q3 := cell_regrown x3
          have Q4 := cell_regrown x4
          have Q5 := cell_regrown x5
          have Q6 := cell_regrown x6
          have Q7 := cell_regrown x7
          have Q8 := cell_regrown x8
          have Q9 := cell_regrown x9
          have Q10 := cell_regrown x10
          obtain ⟨R9, hR9⟩ : ∃ R : Value → World → Prop, R = fun v w' => v = .agg #[.int .i32 c.r, .int .i64 c.k, .int .i64 c.a.fg, .int .i64 c.a.bg, .int .i64 c.a.fl] := ⟨_, rfl⟩
          obtain ⟨R11, hR11⟩ : ∃ R : Value → World → Prop, R = fun v w' => v = .tuple #[.agg #[.int .u8 F.r, .int .u8 F.g, .int .u8 F.b], .agg #[.int .u8 Bk.r, .int .u8 Bk.g, .int .u8 Bk.b]] := ⟨_, rfl⟩
          obtain ⟨RA, hRA⟩ : ∃ R : Value → World → Prop, R = fun v w' => ∃ q, v = .pointer (some ⟨q, 0, none⟩) ∧ WR.heap.size ≤ q ∧ w'.heap.size = q + 1 ∧ w'.heap[q]? = some (.cells #[.int .u8 0, .int .u8 0, .int .u8 0] 96 (0, 0)) := ⟨_, rfl⟩
          have HR9 := Lib.hid hR9
          have HR11 := Lib.hid hR11
          have HRA := Lib.hid hRA
          have HWR := Lib.hid hWR
          have HIR := Lib.hid hiR
          clear hinv hiR kR hnn hyq hxq byq bxq hkk hc hF hB hR9 hR11 hRA hWR x0 x1 x2 x3 x4 x5 x6 x7 x8 x9 x10
          go_wp2
          clear d0 d1 d2
          refine A2.wp_region_grow (fun i => i == 15 || i == 16) #[0, 0, 0, 4, 14, 0, 0, 64, 224, 511, 1023, 2047, 4095, 8191, 8191, 0, 0, 114687, 262143] 17 [14] (fun i => if i = 9 then some R9 else if i = 11 then some R11 else if i = 15 then some RA else if i = 16 then some RA else none) (by kernel_rfl) rfl (by kernel_rfl) (fun i hi => by simp at hi; subst hi; rfl) (fun _ _ _ _ _ h => h) ?_
          rintro _ rfl
          rw [← HWR.out]
          simp only [List.take_succ_cons, List.take_zero, List.drop_succ_cons, List.drop_zero, A2.number, Nat.reduceAdd]
          repeat (refine A2.wpGrow_step (fun K hK => ?_); go_simp; refine hK _ _ ?_; clear hK K)
          refine A2.wpGrow_step (fun K hK => ?_)
          go_simp
          refine ⟨fun w' hg => (HCE.out w' (HLN.out w' (HIR.out.k.then hg.old)).1).mono (fun e9 w'' ⟨he, hk⟩ => ⟨_, he, hk, by rw [HR9.out]⟩), fun v9 w9 hv9 hg9 _ => ?_⟩
          rw [HR9.out] at hv9
          subst hv9
          refine hK _ _ ?_; clear hK K
          refine A2.wpGrow_step (fun K hK => ?_)
          go_simp
          refine ⟨.agg #[.int .i64 c.a.fg, .int .i64 c.a.bg, .int .i64 c.a.fl], fun a => ?_, ?_⟩
          · rw [show Sem.run Try.prog (Instr.field 100 (.agg #[.int .i32 c.r, .int .i64 c.k, .int .i64 c.a.fg, .int .i64 c.a.bg, .int .i64 c.a.fl]) 2) _ = Result.ok (.agg #[.int .i64 c.a.fg, .int .i64 c.a.bg, .int .i64 c.a.fl]) _ from rfl]
            exact ⟨rfl, rfl⟩
          refine hK _ _ ?_; clear hK K
          refine A2.wpGrow_step (fun K hK => ?_)
          go_simp
          refine ⟨fun w' hg => (HC.out w').mono (fun e9 w'' ⟨he, hk⟩ => ⟨_, he, hk, by rw [HR11.out]⟩), fun v11 w11 hv11 hg11 _ => ?_⟩
          rw [HR11.out] at hv11
          subst hv11
          refine hK _ _ ?_; clear hK K
          repeat (refine A2.wpGrow_step (fun K hK => ?_); go_simp; refine hK _ _ ?_; clear hK K)
          refine A2.wpGrow_step (fun K hK => ?_)
          go_simp
          refine ⟨fun w' hg => ⟨(Kept.refl _ _).alloc _, by rw [HRA.out]; exact ⟨_, rfl, hg.old.size, by simp, blk_new _ _⟩⟩, fun v15 w15 hv15 hg15 hap15 => ?_⟩
          rw [HRA.out] at hv15
          obtain ⟨q4, rfl, hq4, hs4, hb4⟩ := hv15
          have HQ4 := Lib.hid (And.intro hq4 (And.intro hs4 hb4))
          clear hq4 hs4 hb4 hap15
          refine hK _ _ ?_; clear hK K
          refine A2.wpGrow_step (fun K hK => ?_)
          go_simp
          refine ⟨fun w' hg => ⟨(Kept.refl _ _).alloc _, by rw [HRA.out]; exact ⟨_, rfl, hg.old.size, by simp, blk_new _ _⟩⟩, fun v16 w16 hv16 hg16 hap => ?_⟩
          rw [HRA.out] at hv16
          obtain ⟨q5, rfl, hq5, hs5, hb5⟩ := hv16
          have hne : q4 ≠ q5 := by
            have h := (hap rfl).2 15 rfl (by decide)
            rw [A2.moment_self, HQ4.out.2.1, hs5] at h
            omega
          have HQ5 := Lib.hid (And.intro hq5 (And.intro hb5 hne))
          clear hq5 hs5 hb5 hne hap
          refine hK _ _ ?_; clear hK K
          refine A2.wpGrow_nil ?_
          intro w6 hk6 hω
          have c4 : w6.heap[q4]? = some (.cells #[.int .u8 0, .int .u8 0, .int .u8 0] 96 (0, 0)) := (show Kept (fun _ => False) w15 w6 from hω 15).blk HQ4.out.2.2 id
          have c5 : w6.heap[q5]? = some (.cells #[.int .u8 0, .int .u8 0, .int .u8 0] 96 (0, 0)) := (show Kept (fun _ => False) w16 w6 from hω 16).blk HQ5.out.2.1 id
          obtain ⟨U1, U2, U3, f1, f2, f3, ⟨a0, a0'⟩, ⟨a1, a1'⟩, ⟨a2, a2'⟩, bU, kU⟩ := store3 c4 (.int .u8 F.r) (.int .u8 F.g) (.int .u8 F.b)
          obtain ⟨T1, T2, T3, r1, r2, r3, ⟨e0, e0'⟩, ⟨e1, e1'⟩, ⟨e2, e2'⟩, bT, kT⟩ := store3 (kU.blk c5 (fun (h : q5 = q4) => HQ5.out.2.2 h.symm)) (.int .u8 Bk.r) (.int .u8 Bk.g) (.int .u8 Bk.b)
          have hi6 := HIR.out.kept hk6
          have hkT : Kept (fun i => WR.heap.size ≤ i) w6 T3 := (kU.mono fun i _ hi => (by have h9 : i = q4 := hi; have := HQ4.out.1; omega : WR.heap.size ≤ i)).then (kT.mono fun i _ hi => (by have h9 : i = q5 := hi; have := HQ5.out.1; omega : WR.heap.size ≤ i))
          have hiT := HIR.out.beyond hk6 hkT
          have HIT := Lib.hid (And.intro hiT bT)
          clear hω hk6 c4 c5 bU kU bT kT hi6 hkT hiT Q0 Q1 Q2 Q3 Q4 Q5 Q6 Q7 Q8 Q9 Q10 t1 t2 t3 t4
          obtain ⟨WQ, hWQ⟩ : ∃ WQ, WQ = T3.drew := ⟨_, rfl⟩
          have kQ : Kept (fun _ => False) T3 WQ := by rw [hWQ]; exact (Kept.refl _ _).drew
          obtain ⟨⟨d0, -⟩, ⟨d1, -⟩, d2, -⟩ := blk3 (HIT.out.1.kept kQ).m
          obtain ⟨⟨h0, -⟩, ⟨h1, -⟩, h2, -⟩ := blk3 (kQ.blk HIT.out.2 id)
          have Q0 := cell_regrown d0
          have Q1 := cell_regrown d1
          have Q2 := cell_regrown d2
          have Q3 := cell_regrown h0
          have Q4 := cell_regrown h1
          have Q5 := cell_regrown h2
          obtain ⟨R4, hR4⟩ : ∃ R : Value → World → Prop, R = fun v w' => v = .agg #[.int .u8 Bk.r, .int .u8 Bk.g, .int .u8 Bk.b, .int .u8 255] := ⟨_, rfl⟩
          have HR4 := Lib.hid hR4
          have HWQ := Lib.hid hWQ
          have HIQ := Lib.hid (HIT.out.1.kept kQ)
          clear kQ hWQ hR4 d0 d1 d2 h0 h1 h2
          go_wp2
          refine A2.wp_region_grow (fun _ => false) #[0, 0, 0, 0, 8, 31] 5 [] (fun i => if i = 4 then some R4 else none) (by kernel_rfl) rfl (by kernel_rfl) (fun i hi => by cases hi) (fun _ _ _ _ _ h => h) ?_
          rintro _ rfl
          rw [← HWQ.out]
          simp only [List.take_succ_cons, List.take_zero, List.drop_succ_cons, List.drop_zero, A2.number, Nat.reduceAdd]
          repeat (refine A2.wpGrow_step (fun K hK => ?_); go_simp; refine hK _ _ ?_; clear hK K)
          refine A2.wpGrow_step (fun K hK => ?_)
          go_simp
          refine ⟨fun w' hg => (HFB.out w').mono (fun e9 w'' ⟨he, hk⟩ => ⟨_, he, hk, by rw [HR4.out]⟩), fun v4 w4 hv4 hg4 _ => ?_⟩
          rw [HR4.out] at hv4
          subst hv4
          refine hK _ _ ?_; clear hK K
          refine A2.wpGrow_nil ?_
          intro w7 hk7 hω
          have HI7 := Lib.hid (HIQ.out.kept hk7)
          have HPUT := Lib.hid (rput_any W H X Y (tab n (paintD t z K Y X)) [] g0 n n w7 hX1 hY1 (by have := HN.out; omega) HN.out.2.2.2.2.2.2.1 HI7.out.o (by have := HN.out; omega) (by have := HN.out; omega) Bk.r Bk.g Bk.b 255)
          rw [HST.out] at HPUT
          clear hω hk7 Q0 Q1 Q2 Q3 Q4 Q5
          go_wp2_with fail
          refine HPUT.out.mono ?_
          rintro e w8 ⟨rfl, ho8, hk8⟩
          have HI8 := Lib.hid (HI7.out.put ho8 hk8)
          clear ho8 hk8
          go_wp2
          go_roundg (gk - 1)
          case rel => exact ⟨X + 1, by omega, by omega, by go_num, HI8.out⟩
          case measure => omega
        · obtain rfl : X = W := by omega
          have gx : decide (X < X) = false := decide_eq_false (by omega)
          have hrow := HROWS.out Y
          rw [hrow] at hinv
          have HI2 := Lib.hid hinv
          clear hinv hrow
          go_wp2
          go_roundg (gko - 1)
          case rel => exact ⟨Y + 1, by omega, by omega, by go_num, HI2.out⟩
          case measure => omega
    · obtain rfl : H = Y := by omega
      have gy : decide (H < H) = false := decide_eq_false (by omega)
      have hend := HEND.out
      rw [hend, ← HGRO.out] at hinv
      have HI1 := Lib.hid hinv
      obtain ⟨-, -, -, -, -, x5, -⟩ := blk11 hinv.s
      clear hinv hend
      have HBY := Lib.hid (fun (above : Bool) (P : List Int) (M : List Pz) (h : IsBytes P) => imgsR_bytes (W := W) (H := H) (n := n) (cw := cw) (ch := ch) (top := top) (above := above) HIB.out M P h)
      have HGB := Lib.hid (show IsBytes G from by rw [← HG.out, ← HZ.out]; exact groP_bytes (fun x hx => by have := List.eq_of_mem_replicate hx; omega))
      go_wp2
      clear x5
      go_loopg [10] pn (fun gg iv wr => ∃ i g c : Nat, pn ≤ gg + i ∧ i ≤ pn ∧ iv = .int .i64 (i : Int) ∧ RdI w W H n mb #[.int .i64 rows, .int .i64 cols, .int .i64 cw, .int .i64 ch, .slice la ln lc, .slice pa pn pc, .slice ia ik ic, .int .i64 top, .bool cur, .int .i64 srow, .int .i64 scol] g c (imgsR W H n cw ch top IL (L.take i) false G) wr)
      case atStart => exact ⟨0, _, _, by omega, by omega, rfl, HI1.out⟩
      case round =>
        obtain ⟨i, g, c, hgg, hik, rfl, hj⟩ := hrel
        by_cases hi1 : i < pn
        · have hnn := HN.out
          have g1 : decide (i < pn) = true := decide_eq_true hi1
          have g1' : decide ((i : Int) < (pn : Int)) = true := decide_eq_true (by omega)
          have wi : IntKind.i64.wrap ((i : Int) + 1) = (i : Int) + 1 := IntWalk.i64_in _ (by omega)
          have i0 : (0 : Int) ≤ (i : Int) := by omega
          have i1 : (i : Int) < (pn : Int) := by omega
          obtain ⟨-, hls, -⟩ := HLN.out _ hj.k
          obtain ⟨p, hp⟩ : ∃ p, L[i]? = some p := ⟨_, List.getElem?_eq_getElem (by have := hls.1; omega)⟩
          have hpo : p.Ok := hnn.2.2.2.2.2.2.2.2.2.2.2.2.2.2.2.2 p (List.mem_of_getElem? hp)
          have HTK := Lib.hid (imgsR_take (W := W) (H := H) (n := n) (cw := cw) (ch := ch) (top := top) (IL := IL) (above := false) (P := G) hp)
          have HQB := Lib.hid (HBY.out false G (L.take i) HGB.out)
          obtain ⟨Q, hQ⟩ : ∃ Q, imgsR W H n cw ch top IL (L.take i) false G = Q := ⟨_, rfl⟩
          rw [hQ] at hj HTK HQB
          have hQl : Q.length = n := by obtain ⟨_, _, hv, -⟩ := hj.o.shape; cases hv; rfl
          obtain ⟨bb, off, hpa, hbB, hcs⟩ := hls.2.resolve_left (by omega)
          subst hpa
          obtain ⟨y0, y1, y2, y3, y4, y5, y6, y7, y8, y9, y10, y11, y12, y13⟩ := (hcs i p hp).cells
          have HR := Lib.hid (fun (x : World) (hx : ImsAt B x ia ik IL) (o : Own .u8 5 x (.slice (some ⟨g, 0, none⟩) n c) Q) => HIMG.out p Q _ _ x hpo (HRM.out Q hQl) o HQB.out hx)
          clear hls hp hQ hpo hQl
          have HJ := Lib.hid hj
          obtain ⟨pim, pid, alt, line, pcol, prows, pcols, px, py, pw, ph, dx, dy, z⟩ := p
          simp only at y0 y1 y2 y3 y4 y5 y6 y7 y8 y9 y10 y11 y12 y13 HR HTK
          obtain ⟨-, -, -, -, -, x5, -⟩ := blk11 hj.s
          by_cases hz : z < 0
          · have gz : decide (z < 0) = true := decide_eq_true hz
            have hz2 : (decide (0 ≤ z) = false) := decide_eq_false (by omega)
            rw [if_pos hz2] at HTK
            clear hz hz2
            obtain ⟨WR, hWR⟩ : ∃ WR, WR = wr.drew := ⟨_, rfl⟩
            have kR : Kept (fun _ => False) wr WR := by rw [hWR]; exact (Kept.refl _ _).drew
            have HIR := Lib.hid (hj.kept kR)
            obtain ⟨q0, q1, q2, q3, q4, q5, q6, q7, q8, q9, q10⟩ := blk11 HIR.out.s
            obtain ⟨⟨d0, -⟩, ⟨d1, -⟩, d2, -⟩ := blk3 HIR.out.m
            have Q0 := cell_regrown q0
            have Q1 := cell_regrown q1
            have Q2 := cell_regrown q2
            have Q3 := cell_regrown q3
            have Q4 := cell_regrown q4
            have Q5 := cell_regrown q5
            have Q6 := cell_regrown q6
            have Q7 := cell_regrown q7
            have Q8 := cell_regrown q8
            have Q9 := cell_regrown q9
            have Q10 := cell_regrown q10
            have D0 := cell_regrown d0
            have D1 := cell_regrown d1
            have D2 := cell_regrown d2
            have P0 := cell_regrown (kR.cell y0 (fun h => h))
            have P1 := cell_regrown (kR.cell y1 (fun h => h))
            have P2 := cell_regrown (kR.cell y2 (fun h => h))
            have P3 := cell_regrown (kR.cell y3 (fun h => h))
            have P4 := cell_regrown (kR.cell y4 (fun h => h))
            have P5 := cell_regrown (kR.cell y5 (fun h => h))
            have P6 := cell_regrown (kR.cell y6 (fun h => h))
            have P7 := cell_regrown (kR.cell y7 (fun h => h))
            have P8 := cell_regrown (kR.cell y8 (fun h => h))
            have P9 := cell_regrown (kR.cell y9 (fun h => h))
            have P10 := cell_regrown (kR.cell y10 (fun h => h))
            have P11 := cell_regrown (kR.cell y11 (fun h => h))
            have P12 := cell_regrown (kR.cell y12 (fun h => h))
            have P13 := cell_regrown (kR.cell y13 (fun h => h))
            have HWR := Lib.hid hWR
            clear hj hWR kR q0 q1 q2 q3 q4 q5 q6 q7 q8 q9 q10 d0 d1 d2 hcs hnn
            go_wp2
            clear x5 y0 y1 y2 y3 y4 y5 y6 y7 y8 y9 y10 y11 y12 y13
            refine A2.wp_region_grow (fun _ => false) #[0, 0, 0, 4, 0, 28, 60, 127, 255] 7 [] (fun _ => none) (by kernel_rfl) rfl (by kernel_rfl) (fun i hi => by cases hi) (fun _ _ _ _ _ h => h) ?_
            rintro _ rfl
            rw [← HWR.out]
            simp only [List.take_succ_cons, List.take_zero, List.drop_succ_cons, List.drop_zero, A2.number, Nat.reduceAdd]
            repeat (refine A2.wpGrow_step (fun K hK => ?_); go_simp; refine hK _ _ ?_; clear hK K)
            refine A2.wpGrow_nil ?_
            intro w7 hk7 hω
            have HI7 := Lib.hid (HIR.out.kept hk7)
            have HR7 := Lib.hid (HR.out w7 (HLN.out _ HI7.out.k).2.2 HI7.out.o)
            clear hω hk7
            obtain ⟨⟨d0, -⟩, ⟨d1, -⟩, d2, -⟩ := blk3 HI7.out.m
            clear Q0 Q1 Q2 Q3 Q4 Q5 Q6 Q7 Q8 Q9 Q10 D0 D1 D2 P0 P1 P2 P3 P4 P5 P6 P7 P8 P9 P10 P11 P12 P13
            go_wp2_with fail
            refine HR7.out.mono ?_
            rintro e w8 ⟨a', c', rfl, ho8, hk8, hor⟩
            obtain ⟨g', rfl, hnext⟩ := HI7.out.img ho8 hk8 hor (by have := HN.out; omega)
            obtain ⟨T1, T2, T3, t1, t2, t3, ⟨s0, s0'⟩, ⟨s1, s1'⟩, ⟨s2, s2'⟩, bT, kT⟩ := store3 (hk8.blk HI7.out.m id) (.int .i64 W) (.int .i64 H) (.slice (some ⟨g', 0, none⟩) n c')
            have HI8 := Lib.hid (hnext T3 kT bT)
            clear ho8 hk8 hor hnext bT kT d0 d1 d2
            go_wp2
            go_roundg (gk - 1)
            case rel => exact ⟨i + 1, g', c', by omega, by omega, by go_num, by rw [HTK.out]; exact HI8.out⟩
            case measure => omega
          · have gz : decide (z < 0) = false := decide_eq_false hz
            have hz2 : ¬ (decide (0 ≤ z) = false) := by rw [decide_eq_true (by omega : 0 ≤ z)]; decide
            rw [if_neg hz2] at HTK
            clear hz hz2 hj hcs hnn
            go_wp2
            clear x5 y0 y1 y2 y3 y4 y5 y6 y7 y8 y9 y10 y11 y12 y13
            go_roundg (gk - 1)
            case rel => exact ⟨i + 1, g, c, by omega, by omega, by go_num, by rw [HTK.out]; exact HJ.out⟩
            case measure => omega
        · obtain rfl : pn = i := by omega
          have g1 : decide (pn < pn) = false := decide_eq_false (by omega)
          have hLl := (HLN.out _ hj.k).2.1.1
          rw [List.take_of_length_le (by omega)] at hj
          obtain ⟨P1, hP1⟩ : ∃ P, imgsR W H n cw ch top IL L false G = P := ⟨_, rfl⟩
          obtain ⟨FS, hFS⟩ : ∃ F, glsF (RSc.sc ⟨rows, cols, cw, ch, la, ln, lc, pa, pn, pc, ia, ik, ic, top, cur, srow, scol⟩) ls W H = F := ⟨_, rfl⟩
          have HP1B := Lib.hid (show IsBytes P1 from by rw [← hP1]; exact HBY.out false G L HGB.out)
          rw [hP1] at hj
          have HP1 := Lib.hid hP1
          have HFS := Lib.hid hFS
          rw [hFS] at HTXT
          have HJ2 := Lib.hid hj
          obtain ⟨x0, x1, -, -, -, x5, -⟩ := blk11 hj.s
          clear hj hP1 hLl hFS
          go_wp2
          clear x0 x1 x5
          go_loopg [11, 12] rows (fun gg rv _ wr => ∃ R : Nat, rows ≤ gg + R ∧ R ≤ rows ∧ rv = .int .i64 R ∧ RdI w W H n mb #[.int .i64 rows, .int .i64 cols, .int .i64 cw, .int .i64 ch, .slice la ln lc, .slice pa pn pc, .slice ia ik ic, .int .i64 top, .bool cur, .int .i64 srow, .int .i64 scol] g c (eachF FS cols R P1) wr)
          case atStart => exact ⟨0, by omega, by omega, rfl, HJ2.out⟩
          case round =>
            obtain ⟨R, hgg, hRr, rfl, hj⟩ := hrel
            obtain ⟨x0, x1, -, -, -, x5, -⟩ := blk11 hj.s
            by_cases hR1 : R < rows
            · have gr : decide (R < rows) = true := decide_eq_true hR1
              have gr' : decide ((R : Int) < (rows : Int)) = true := decide_eq_true (by omega)
              have wR : IntKind.i64.wrap ((R : Int) + 1) = (R : Int) + 1 := IntWalk.i64_in _ (by have := HN.out; omega)
              have HR2 := Lib.hid hj
              obtain ⟨gko, hgo⟩ : ∃ x, x = gk := ⟨_, rfl⟩
              subst hgo
              clear hj
              go_wp2
              clear x0 x1 x5
              go_loopg [12] cols (fun gg cv wr => ∃ C : Nat, cols ≤ gg + C ∧ C ≤ cols ∧ cv = .int .i64 C ∧ RdI w W H n mb #[.int .i64 rows, .int .i64 cols, .int .i64 cw, .int .i64 ch, .slice la ln lc, .slice pa pn pc, .slice ia ik ic, .int .i64 top, .bool cur, .int .i64 srow, .int .i64 scol] g c (rowF FS R C (eachF FS cols R P1)) wr)
              case atStart => exact ⟨0, by omega, by omega, rfl, HR2.out⟩
              case round =>
                obtain ⟨C, hgx, hCc, rfl, hj⟩ := hrel
                obtain ⟨s0, s1, s2, s3, s4, s5, s6, s7, s8, s9, s10⟩ := blk11 hj.s
                by_cases hC1 : C < cols
                · have gc : decide (C < cols) = true := decide_eq_true hC1
                  have gc' : decide ((C : Int) < (cols : Int)) = true := decide_eq_true (by omega)
                  have wC : IntKind.i64.wrap ((C : Int) + 1) = (C : Int) + 1 := IntWalk.i64_in _ (by have := HN.out; omega)
                  have HT := Lib.hid (fun (x : World) (hx : LinesAt B x la ln ls) (o : Own .u8 5 x (.slice (some ⟨g, 0, none⟩) n c) (rowF FS R C (eachF FS cols R P1))) => HTXT.out R C g c _ x hx hR1 hC1 o)
                  have HJ := Lib.hid hj
                  obtain ⟨⟨d0, -⟩, ⟨d1, -⟩, d2, -⟩ := blk3 hj.m
                  clear hj
                  go_wp2_with fail
                  refine (HT.out _ (HLN.out _ HJ.out.k).1 HJ.out.o).mono ?_
                  rintro e w8 ⟨rfl, ho8, hk8⟩
                  have HI8 := Lib.hid (HJ.out.put ho8 hk8)
                  clear ho8 hk8 s0 s1 s2 s3 s4 s5 s6 s7 s8 s9 s10 d0 d1 d2
                  go_wp2
                  go_roundg (gk - 1)
                  case rel => exact ⟨C + 1, by omega, by omega, by go_num, HI8.out⟩
                  case measure => omega
                · obtain rfl : cols = C := by omega
                  have gc : decide (cols < cols) = false := decide_eq_false (by omega)
                  have HI2 := Lib.hid hj
                  clear hj
                  go_wp2
                  go_roundg (gko - 1)
                  case rel => exact ⟨R + 1, by omega, by omega, by go_num, HI2.out⟩
                  case measure => omega
            · obtain rfl : rows = R := by omega
              have gr : decide (rows < rows) = false := decide_eq_false (by omega)
              obtain ⟨T, hT⟩ : ∃ T, eachF FS cols rows P1 = T := ⟨_, rfl⟩
              have HTB := Lib.hid (show IsBytes T from by rw [← hT, ← HFS.out]; exact gls_bytes (RSc.sc ⟨rows, cols, cw, ch, la, ln, lc, pa, pn, pc, ia, ik, ic, top, cur, srow, scol⟩) ls W H HP1B.out)
              rw [hT] at hj
              have HT := Lib.hid hT
              have HI3 := Lib.hid hj
              clear hj hT x1
              go_wp2
              clear x5
              go_loopg [13] pn (fun gg iv wr => ∃ i g c : Nat, pn ≤ gg + i ∧ i ≤ pn ∧ iv = .int .i64 (i : Int) ∧ RdI w W H n mb #[.int .i64 rows, .int .i64 cols, .int .i64 cw, .int .i64 ch, .slice la ln lc, .slice pa pn pc, .slice ia ik ic, .int .i64 top, .bool cur, .int .i64 srow, .int .i64 scol] g c (imgsR W H n cw ch top IL (L.take i) true T) wr)
              case atStart => exact ⟨0, _, _, by omega, by omega, rfl, HI3.out⟩
              case round =>
                obtain ⟨i, g, c, hgg, hik, rfl, hj⟩ := hrel
                by_cases hi1 : i < pn
                · have hnn := HN.out
                  have g1 : decide (i < pn) = true := decide_eq_true hi1
                  have g1' : decide ((i : Int) < (pn : Int)) = true := decide_eq_true (by omega)
                  have wi : IntKind.i64.wrap ((i : Int) + 1) = (i : Int) + 1 := IntWalk.i64_in _ (by omega)
                  have i0 : (0 : Int) ≤ (i : Int) := by omega
                  have i1 : (i : Int) < (pn : Int) := by omega
                  obtain ⟨-, hls, -⟩ := HLN.out _ hj.k
                  obtain ⟨p, hp⟩ : ∃ p, L[i]? = some p := ⟨_, List.getElem?_eq_getElem (by have := hls.1; omega)⟩
                  have hpo : p.Ok := hnn.2.2.2.2.2.2.2.2.2.2.2.2.2.2.2.2 p (List.mem_of_getElem? hp)
                  have HTK := Lib.hid (imgsR_take (W := W) (H := H) (n := n) (cw := cw) (ch := ch) (top := top) (IL := IL) (above := true) (P := T) hp)
                  have HQB := Lib.hid (HBY.out true T (L.take i) HTB.out)
                  obtain ⟨Q, hQ⟩ : ∃ Q, imgsR W H n cw ch top IL (L.take i) true T = Q := ⟨_, rfl⟩
                  rw [hQ] at hj HTK HQB
                  have hQl : Q.length = n := by obtain ⟨_, _, hv, -⟩ := hj.o.shape; cases hv; rfl
                  obtain ⟨bb, off, hpa, hbB, hcs⟩ := hls.2.resolve_left (by omega)
                  subst hpa
                  obtain ⟨y0, y1, y2, y3, y4, y5, y6, y7, y8, y9, y10, y11, y12, y13⟩ := (hcs i p hp).cells
                  have HR := Lib.hid (fun (x : World) (hx : ImsAt B x ia ik IL) (o : Own .u8 5 x (.slice (some ⟨g, 0, none⟩) n c) Q) => HIMG.out p Q _ _ x hpo (HRM.out Q hQl) o HQB.out hx)
                  clear hls hp hQ hpo hQl
                  have HJ := Lib.hid hj
                  obtain ⟨pim, pid, alt, line, pcol, prows, pcols, px, py, pw, ph, dx, dy, z⟩ := p
                  simp only at y0 y1 y2 y3 y4 y5 y6 y7 y8 y9 y10 y11 y12 y13 HR HTK
                  obtain ⟨-, -, -, -, -, x5, -⟩ := blk11 hj.s
                  by_cases hz : 0 ≤ z
                  · have gz : decide (0 ≤ z) = true := decide_eq_true hz
                    have hz2 : (decide (0 ≤ z) = true) := decide_eq_true hz
                    rw [if_pos hz2] at HTK
                    clear hz hz2
                    obtain ⟨WR, hWR⟩ : ∃ WR, WR = wr.drew := ⟨_, rfl⟩
                    have kR : Kept (fun _ => False) wr WR := by rw [hWR]; exact (Kept.refl _ _).drew
                    have HIR := Lib.hid (hj.kept kR)
                    obtain ⟨q0, q1, q2, q3, q4, q5, q6, q7, q8, q9, q10⟩ := blk11 HIR.out.s
                    obtain ⟨⟨d0, -⟩, ⟨d1, -⟩, d2, -⟩ := blk3 HIR.out.m
                    have Q0 := cell_regrown q0
                    have Q1 := cell_regrown q1
                    have Q2 := cell_regrown q2
                    have Q3 := cell_regrown q3
                    have Q4 := cell_regrown q4
                    have Q5 := cell_regrown q5
                    have Q6 := cell_regrown q6
                    have Q7 := cell_regrown q7
                    have Q8 := cell_regrown q8
                    have Q9 := cell_regrown q9
                    have Q10 := cell_regrown q10
                    have D0 := cell_regrown d0
                    have D1 := cell_regrown d1
                    have D2 := cell_regrown d2
                    have P0 := cell_regrown (kR.cell y0 (fun h => h))
                    have P1 := cell_regrown (kR.cell y1 (fun h => h))
                    have P2 := cell_regrown (kR.cell y2 (fun h => h))
                    have P3 := cell_regrown (kR.cell y3 (fun h => h))
                    have P4 := cell_regrown (kR.cell y4 (fun h => h))
                    have P5 := cell_regrown (kR.cell y5 (fun h => h))
                    have P6 := cell_regrown (kR.cell y6 (fun h => h))
                    have P7 := cell_regrown (kR.cell y7 (fun h => h))
                    have P8 := cell_regrown (kR.cell y8 (fun h => h))
                    have P9 := cell_regrown (kR.cell y9 (fun h => h))
                    have P10 := cell_regrown (kR.cell y10 (fun h => h))
                    have P11 := cell_regrown (kR.cell y11 (fun h => h))
                    have P12 := cell_regrown (kR.cell y12 (fun h => h))
                    have P13 := cell_regrown (kR.cell y13 (fun h => h))
                    have HWR := Lib.hid hWR
                    clear hj hWR kR q0 q1 q2 q3 q4 q5 q6 q7 q8 q9 q10 d0 d1 d2 hcs hnn
                    go_wp2
                    clear x5 y0 y1 y2 y3 y4 y5 y6 y7 y8 y9 y10 y11 y12 y13
                    refine A2.wp_region_grow (fun _ => false) #[0, 0, 0, 4, 0, 28, 60, 127, 255] 7 [] (fun _ => none) (by kernel_rfl) rfl (by kernel_rfl) (fun i hi => by cases hi) (fun _ _ _ _ _ h => h) ?_
                    rintro _ rfl
                    rw [← HWR.out]
                    simp only [List.take_succ_cons, List.take_zero, List.drop_succ_cons, List.drop_zero, A2.number, Nat.reduceAdd]
                    repeat (refine A2.wpGrow_step (fun K hK => ?_); go_simp; refine hK _ _ ?_; clear hK K)
                    refine A2.wpGrow_nil ?_
                    intro w7 hk7 hω
                    have HI7 := Lib.hid (HIR.out.kept hk7)
                    have HR7 := Lib.hid (HR.out w7 (HLN.out _ HI7.out.k).2.2 HI7.out.o)
                    clear hω hk7
                    obtain ⟨⟨d0, -⟩, ⟨d1, -⟩, d2, -⟩ := blk3 HI7.out.m
                    clear Q0 Q1 Q2 Q3 Q4 Q5 Q6 Q7 Q8 Q9 Q10 D0 D1 D2 P0 P1 P2 P3 P4 P5 P6 P7 P8 P9 P10 P11 P12 P13
                    go_wp2_with fail
                    refine HR7.out.mono ?_
                    rintro e w8 ⟨a', c', rfl, ho8, hk8, hor⟩
                    obtain ⟨g', rfl, hnext⟩ := HI7.out.img ho8 hk8 hor (by have := HN.out; omega)
                    obtain ⟨T1, T2, T3, t1, t2, t3, ⟨s0, s0'⟩, ⟨s1, s1'⟩, ⟨s2, s2'⟩, bT, kT⟩ := store3 (hk8.blk HI7.out.m id) (.int .i64 W) (.int .i64 H) (.slice (some ⟨g', 0, none⟩) n c')
                    have HI8 := Lib.hid (hnext T3 kT bT)
                    clear ho8 hk8 hor hnext bT kT d0 d1 d2
                    go_wp2
                    go_roundg (gk - 1)
                    case rel => exact ⟨i + 1, g', c', by omega, by omega, by go_num, by rw [HTK.out]; exact HI8.out⟩
                    case measure => omega
                  · have gz : decide (0 ≤ z) = false := decide_eq_false hz
                    have hz2 : ¬ (decide (0 ≤ z) = true) := by rw [decide_eq_false hz]; decide
                    rw [if_neg hz2] at HTK
                    clear hz hz2 hj hcs hnn
                    go_wp2
                    clear x5 y0 y1 y2 y3 y4 y5 y6 y7 y8 y9 y10 y11 y12 y13
                    go_roundg (gk - 1)
                    case rel => exact ⟨i + 1, g, c, by omega, by omega, by go_num, by rw [HTK.out]; exact HJ.out⟩
                    case measure => omega
                · obtain rfl : pn = i := by omega
                  have g1 : decide (pn < pn) = false := decide_eq_false (by omega)
                  have hLl := (HLN.out _ hj.k).2.1.1
                  rw [List.take_of_length_le (by omega)] at hj
                  obtain ⟨P4, hP4⟩ : ∃ P, imgsR W H n cw ch top IL L true T = P := ⟨_, rfl⟩
                  have HRS := Lib.hid (show RES = curP (RSc.sc ⟨rows, cols, cw, ch, la, ln, lc, pa, pn, pc, ia, ik, ic, top, cur, srow, scol⟩) W n P4 from by
                    rw [← HRES.out]
                    unfold rdrawP
                    rw [← hP4, ← HT.out, ← HFS.out, ← HP1.out, ← HG.out, ← HZ.out])
                  have HP4B := Lib.hid (show IsBytes P4 from by rw [← hP4]; exact HBY.out true T L HTB.out)
                  rw [hP4] at hj
                  have hPl : P4.length = n := by obtain ⟨_, _, hv, -⟩ := hj.o.shape; cases hv; rfl
                  have HPL := Lib.hid hPl
                  have HBT := Lib.hid (fun (v lo hi : Int) (b : Bool) (hb : decide (lo ≤ v ∧ v ≤ hi) = b) (x : World) => show Calls Try.prog 34 #[.int .i64 v, .int .i64 lo, .int .i64 hi] x fun e w' => e = .returned (.bool b) ∧ x = w' from by
                    have h := in34_any v lo hi x
                    rw [← Bool.decide_and, hb] at h
                    exact h.mono fun _ _ h => ⟨h.1, h.2.symm⟩)
                  obtain ⟨s0, s1, s2, s3, -, s5, -, -, s8, s9, s10⟩ := blk11 hj.s
                  have w1 : IntKind.i64.wrap ((rows : Int) - 1) = (rows : Int) - 1 := IntWalk.i64_in _ (by have := HN.out; omega)
                  have w2 : IntKind.i64.wrap ((cols : Int) - 1) = (cols : Int) - 1 := IntWalk.i64_in _ (by have := HN.out; omega)
                  have HJ4 := Lib.hid hj
                  clear hj hP4 hLl hPl HTXT HIMG HCELL
                  cases cur with
                  | false =>
                    have hR : RES = P4 := by rw [HRS.out]; unfold curP; rw [if_neg (fun h => by cases h.1)]
                    rw [← hR] at HJ4
                    obtain ⟨⟨d0, -⟩, ⟨d1, -⟩, d2, -⟩ := blk3 HJ4.out.m
                    obtain ⟨U1, U2, U3, f1, f2, f3, ⟨z0, z0'⟩, ⟨z1, z1'⟩, ⟨z2, z2'⟩, bU, kU⟩ := store3 HJ4.out.z (.int .i64 W) (.int .i64 H) (.slice (some ⟨g, 0, none⟩) n c)
                    obtain ⟨⟨m0, -⟩, ⟨m1, -⟩, m2, -⟩ := blk3 bU
                    have HE := Lib.hid (And.intro (HJ4.out.o.kept kU (fun b hb hS => by have h9 : b = w.heap.size + 1 := hS; have h8 : g = b := (by cases hb; rfl); have := HJ4.out.gs; omega)) (HJ4.out.k.trans (kU.mono fun i _ hi => Or.inr (by have h9 : i = w.heap.size + 1 := hi; omega))))
                    clear bU kU
                    clear hR
                    go_wp2
                    exact bodyPost_ret (v := .tuple #[.agg #[.int .i64 W, .int .i64 H, .slice (some ⟨g, 0, none⟩) n c], .int .i64 0]) (by simp [results, Try.results12, go_sem, m0, m1, m2]) rfl ⟨g, c, rfl, HE.out⟩
                  | true =>
                    by_cases c1 : 0 ≤ srow ∧ srow ≤ (rows : Int) - 1
                    rotate_left
                    · have hR : RES = P4 := by rw [HRS.out]; unfold curP; rw [if_neg (fun h => c1 h.2.1)]
                      rw [← hR] at HJ4
                      have B1 := Lib.hid (fun x => HBT.out srow 0 ((rows : Int) - 1) false (decide_eq_false c1) x)
                      obtain ⟨⟨d0, -⟩, ⟨d1, -⟩, d2, -⟩ := blk3 HJ4.out.m
                      obtain ⟨U1, U2, U3, f1, f2, f3, ⟨z0, z0'⟩, ⟨z1, z1'⟩, ⟨z2, z2'⟩, bU, kU⟩ := store3 HJ4.out.z (.int .i64 W) (.int .i64 H) (.slice (some ⟨g, 0, none⟩) n c)
                      obtain ⟨⟨m0, -⟩, ⟨m1, -⟩, m2, -⟩ := blk3 bU
                      have HE := Lib.hid (And.intro (HJ4.out.o.kept kU (fun b hb hS => by have h9 : b = w.heap.size + 1 := hS; have h8 : g = b := (by cases hb; rfl); have := HJ4.out.gs; omega)) (HJ4.out.k.trans (kU.mono fun i _ hi => Or.inr (by have h9 : i = w.heap.size + 1 := hi; omega))))
                      clear bU kU
                      clear hR c1
                      go_wp2_with (go_at_call 34; (with_reducible refine (B1.out _).mono ?_); rintro e w' ⟨rfl, rfl⟩)
                      exact bodyPost_ret (v := .tuple #[.agg #[.int .i64 W, .int .i64 H, .slice (some ⟨g, 0, none⟩) n c], .int .i64 0]) (by simp [results, Try.results12, go_sem, m0, m1, m2]) rfl ⟨g, c, rfl, HE.out⟩
                    have B1 := Lib.hid (fun x => HBT.out srow 0 ((rows : Int) - 1) true (decide_eq_true c1) x)
                    by_cases c2 : 0 ≤ scol ∧ scol ≤ (cols : Int) - 1
                    rotate_left
                    · have hR : RES = P4 := by rw [HRS.out]; unfold curP; rw [if_neg (fun h => c2 h.2.2)]
                      rw [← hR] at HJ4
                      have B2 := Lib.hid (fun x => HBT.out scol 0 ((cols : Int) - 1) false (decide_eq_false c2) x)
                      obtain ⟨⟨d0, -⟩, ⟨d1, -⟩, d2, -⟩ := blk3 HJ4.out.m
                      obtain ⟨U1, U2, U3, f1, f2, f3, ⟨z0, z0'⟩, ⟨z1, z1'⟩, ⟨z2, z2'⟩, bU, kU⟩ := store3 HJ4.out.z (.int .i64 W) (.int .i64 H) (.slice (some ⟨g, 0, none⟩) n c)
                      obtain ⟨⟨m0, -⟩, ⟨m1, -⟩, m2, -⟩ := blk3 bU
                      have HE := Lib.hid (And.intro (HJ4.out.o.kept kU (fun b hb hS => by have h9 : b = w.heap.size + 1 := hS; have h8 : g = b := (by cases hb; rfl); have := HJ4.out.gs; omega)) (HJ4.out.k.trans (kU.mono fun i _ hi => Or.inr (by have h9 : i = w.heap.size + 1 := hi; omega))))
                      clear bU kU
                      clear hR c1 c2
                      go_wp2_with (go_at_call 34; first | ((with_reducible refine (B1.out _).mono ?_); rintro e w' ⟨rfl, rfl⟩) | ((with_reducible refine (B2.out _).mono ?_); rintro e w' ⟨rfl, rfl⟩))
                      exact bodyPost_ret (v := .tuple #[.agg #[.int .i64 W, .int .i64 H, .slice (some ⟨g, 0, none⟩) n c], .int .i64 0]) (by simp [results, Try.results12, go_sem, m0, m1, m2]) rfl ⟨g, c, rfl, HE.out⟩
                    have B2 := Lib.hid (fun x => HBT.out scol 0 ((cols : Int) - 1) true (decide_eq_true c2) x)
                    obtain ⟨R, hRR⟩ : ∃ R : Nat, srow = (R : Int) := ⟨srow.toNat, by omega⟩
                    obtain ⟨C, hCC⟩ : ∃ C : Nat, scol = (C : Int) := ⟨scol.toNat, by omega⟩
                    subst hRR hCC
                    have hnn := HN.out
                    have hR1 : R < rows := by omega
                    have hC1 : C < cols := by omega
                    have HRES2 := Lib.hid (show RES = tab n (curF ⟨W, 0, 0, 0, C * cw, (C + 1) * cw, R * ch, (R + 1) * ch⟩ P4) by rw [HRS.out]; unfold curP; rw [if_pos ⟨rfl, c1, c2⟩]; unfold curSpot RSc.sc; simp only [Int.toNat_natCast])
                    have bx1 : (C + 1) * cw ≤ W := by rw [hnn.2.2.2.2.1]; exact Nat.mul_le_mul (by omega) (Nat.le_refl _)
                    have by1 : (R + 1) * ch ≤ H := by rw [hnn.2.2.2.2.2.1]; exact Nat.mul_le_mul (by omega) (Nat.le_refl _)
                    have ex1 : (C + 1) * cw = C * cw + cw := Nat.succ_mul ..
                    have ey1 : (R + 1) * ch = R * ch + ch := Nat.succ_mul ..
                    rw [ex1] at bx1 HRES2
                    rw [ey1] at by1 HRES2
                    obtain ⟨xa, hxa⟩ : ∃ x, C * cw = x := ⟨_, rfl⟩
                    obtain ⟨ya, hya⟩ : ∃ x, R * ch = x := ⟨_, rfl⟩
                    rw [hxa] at bx1 HRES2
                    rw [hya] at by1 HRES2
                    have q1 : (R : Int) * (ch : Int) = (ya : Int) := by rw [← hya]; simp
                    have q2 : (C : Int) * (cw : Int) = (xa : Int) := by rw [← hxa]; simp
                    have u3 : IntKind.i64.wrap (ya : Int) = (ya : Int) := IntWalk.i64_in _ (by omega)
                    have u4 : IntKind.i64.wrap (xa : Int) = (xa : Int) := IntWalk.i64_in _ (by omega)
                    obtain ⟨t, ht⟩ : ∃ t : Spot, (⟨W, 0, 0, 0, xa, xa + cw, ya, ya + ch⟩ : Spot) = t := ⟨_, rfl⟩
                    rw [ht] at HRES2
                    have HSTA := Lib.hid (show tab n (curD t P4 ya xa 0) = P4 from by have h := curD_start t P4 n HPL.out; rw [← ht] at h ⊢; exact h)
                    have HENC := Lib.hid (show tab n (curD t P4 (ya + ch) xa 0) = tab n (curF t P4) from curD_end t P4 n xa (ya + ch) (by rw [← ht]; exact Nat.le_refl _))
                    have HROC := Lib.hid (fun (Y : Nat) => show tab n (curD t P4 Y (xa + cw) 0) = tab n (curD t P4 (Y + 1) xa 0) from by have h := curD_row t P4 n (xa + cw) Y (by rw [← ht]; exact Nat.le_refl _); rw [← ht] at h ⊢; exact h)
                    have HPIX := Lib.hid (fun (Y X : Nat) (hX : X < W) => show tab n (curD t P4 Y X 3) = tab n (curD t P4 Y (X + 1) 0) from curD_pix t P4 n X Y (by rw [← ht]; exact hX))
                    have HGET := Lib.hid (fun (Y X k : Nat) (hX : X < W) (hk : k < 3) (hn : 4 * (Y * W + X) + 4 ≤ n) => show (tab n (curD t P4 Y X k)).getD (4 * (Y * W + X) + k) 0 = P4.getD (4 * (Y * W + X) + k) 0 from by have h := curD_get t P4 n X Y k (by rw [← ht]; exact hX) hk (by rw [← ht]; exact hn); rw [← ht] at h ⊢; exact h)
                    have HSTP := Lib.hid (fun (Y X k : Nat) (hX : X < W) (h0 : xa ≤ X) (h1 : X < xa + cw) (h2 : ya ≤ Y) (h3 : Y < ya + ch) (hk : k < 3) (hn : 4 * (Y * W + X) + 4 ≤ n) => show (tab n (curD t P4 Y X k)).set (4 * (Y * W + X) + k) (255 - P4.getD (4 * (Y * W + X) + k) 0) = tab n (curD t P4 Y X (k + 1)) from by
                      have h := curD_step t P4 n X Y k (by rw [← ht]; exact hX) (by rw [← ht]; exact h0) (by rw [← ht]; exact h1) (by rw [← ht]; exact h2) (by rw [← ht]; exact h3) hk (by rw [← ht]; exact hn)
                      rw [← ht] at h ⊢
                      exact h)
                    have HBD := Lib.hid (And.intro bx1 by1)
                    clear ht hxa hya c1 c2 ex1 ey1 hnn bx1 by1 hR1 hC1
                    go_wp2_with (go_at_call 34; first | ((with_reducible refine (B1.out _).mono ?_); rintro e w' ⟨rfl, rfl⟩) | ((with_reducible refine (B2.out _).mono ?_); rintro e w' ⟨rfl, rfl⟩))
                    clear s0 s1 s2 s3 s5 s8 s9 s10
                    go_loopg [14, 15, 16, 17] ch (fun gg yv _ _ _ wr => ∃ Y : Nat, ch ≤ gg + Y ∧ Y ≤ ch ∧ yv = .int .i64 Y ∧ RdI w W H n mb #[.int .i64 rows, .int .i64 cols, .int .i64 cw, .int .i64 ch, .slice la ln lc, .slice pa pn pc, .slice ia ik ic, .int .i64 top, .bool true, .int .i64 R, .int .i64 C] g c (tab n (curD t P4 (ya + Y) xa 0)) wr)
                    case atStart => exact ⟨0, by omega, by omega, rfl, by rw [show ya + 0 = ya from rfl, HSTA.out]; exact HJ4.out⟩
                    case round =>
                      obtain ⟨Y, hgg, hYb, rfl, hj⟩ := hrel
                      obtain ⟨s0, s1, s2, s3, -, -, -, -, -, s9, s10⟩ := blk11 hj.s
                      by_cases hY1 : Y < ch
                      · have gy : decide (Y < ch) = true := decide_eq_true hY1
                        have gy' : decide ((Y : Int) < (ch : Int)) = true := decide_eq_true (by omega)
                        have wY : IntKind.i64.wrap ((Y : Int) + 1) = (Y : Int) + 1 := IntWalk.i64_in _ (by have := HN.out; omega)
                        have HI := Lib.hid hj
                        obtain ⟨gko, hgo⟩ : ∃ x, x = gk := ⟨_, rfl⟩
                        subst hgo
                        clear hj
                        go_wp2
                        clear s0 s1 s2 s3 s9 s10
                        go_loopg [15, 16, 17] cw (fun gg xv _ _ wr => ∃ X : Nat, cw ≤ gg + X ∧ X ≤ cw ∧ xv = .int .i64 X ∧ RdI w W H n mb #[.int .i64 rows, .int .i64 cols, .int .i64 cw, .int .i64 ch, .slice la ln lc, .slice pa pn pc, .slice ia ik ic, .int .i64 top, .bool true, .int .i64 R, .int .i64 C] g c (tab n (curD t P4 (ya + Y) (xa + X) 0)) wr)
                        case atStart => exact ⟨0, by omega, by omega, rfl, HI.out⟩
                        case round =>
                          obtain ⟨X, hgx, hXb, rfl, hj⟩ := hrel
                          obtain ⟨s0, s1, s2, s3, -, -, -, -, -, s9, s10⟩ := blk11 hj.s
                          by_cases hX1 : X < cw
                          · have gx : decide (X < cw) = true := decide_eq_true hX1
                            have gx' : decide ((X : Int) < (cw : Int)) = true := decide_eq_true (by omega)
                            have hnn := HN.out
                            have hbd := HBD.out
                            have wX : IntKind.i64.wrap ((X : Int) + 1) = (X : Int) + 1 := IntWalk.i64_in _ (by omega)
                            have hXW : xa + X < W := by omega
                            have hYH : ya + Y < H := by omega
                            have hPn := fit_idx hXW hYH
                            have hn4 : 4 * ((ya + Y) * W + (xa + X)) + 4 ≤ n := by omega
                            have hrow : ya + Y < ya + ch := by omega
                            have hcol : xa + X < xa + cw := by omega
                            have HPX := Lib.hid (HPIX.out (ya + Y) (xa + X) hXW)
                            obtain ⟨yW, hyW⟩ : ∃ q, (ya + Y) * W = q := ⟨_, rfl⟩
                            obtain ⟨m1, hm1⟩ : ∃ q, yW + xa = q := ⟨_, rfl⟩
                            obtain ⟨m2, hm2⟩ : ∃ q, m1 + X = q := ⟨_, rfl⟩
                            obtain ⟨ix, hix⟩ : ∃ q, 4 * m2 = q := ⟨_, rfl⟩
                            have hidx : 4 * ((ya + Y) * W + (xa + X)) = ix := by rw [hyW]; omega
                            have HGET2 := Lib.hid (fun (k : Nat) (hk : k < 3) => show (tab n (curD t P4 (ya + Y) (xa + X) k)).getD (ix + k) 0 = P4.getD (ix + k) 0 from by have h := HGET.out (ya + Y) (xa + X) k hXW hk hn4; rw [hidx] at h; exact h)
                            have HSTEP2 := Lib.hid (fun (k : Nat) (hk : k < 3) => show (tab n (curD t P4 (ya + Y) (xa + X) k)).set (ix + k) (255 - P4.getD (ix + k) 0) = tab n (curD t P4 (ya + Y) (xa + X) (k + 1)) from by have h := HSTP.out (ya + Y) (xa + X) k hXW (by omega) hcol (by omega) hrow hk hn4; rw [hidx] at h; exact h)
                            have HIX := Lib.hid (show ix + 4 ≤ n ∧ n ≤ 16384 from by rw [hidx] at hn4; exact ⟨hn4, by omega⟩)
                            have hix4 := HIX.out
                            obtain ⟨yy, hyy⟩ : ∃ q, ya + Y = q := ⟨_, rfl⟩
                            have hb1 : yW ≤ 16384 ∧ m1 ≤ 16384 ∧ m2 ≤ 16384 ∧ yy ≤ 16384 := by omega
                            have a1 : (ya : Int) + (Y : Int) = (yy : Int) := by omega
                            have a2 : (yy : Int) * (W : Int) = (yW : Int) := by rw [← hyW, hyy]; simp
                            have a3 : (yW : Int) + (xa : Int) = (m1 : Int) := by omega
                            have a4 : (m1 : Int) + (X : Int) = (m2 : Int) := by omega
                            have a5 : 4 * (m2 : Int) = (ix : Int) := by omega
                            have e1 : IntKind.i64.wrap (yy : Int) = (yy : Int) := IntWalk.i64_in _ (by omega)
                            have e2 : IntKind.i64.wrap (yW : Int) = (yW : Int) := IntWalk.i64_in _ (by omega)
                            have e3 : IntKind.i64.wrap (m1 : Int) = (m1 : Int) := IntWalk.i64_in _ (by omega)
                            have e4 : IntKind.i64.wrap (m2 : Int) = (m2 : Int) := IntWalk.i64_in _ (by omega)
                            have e5 : IntKind.i64.wrap (ix : Int) = (ix : Int) := IntWalk.i64_in _ (by omega)
                            obtain ⟨⟨d0, -⟩, -, -⟩ := blk3 hj.m
                            have HI2 := Lib.hid hj
                            obtain ⟨gkx, hgo⟩ : ∃ x, x = gk := ⟨_, rfl⟩
                            subst hgo
                            clear hj hnn hbd hPn hn4 hidx hix4 hyW hm1 hm2 hix hyy hb1 hXW hYH hrow hcol
                            go_wp2
                            clear s0 s1 s2 s3 s9 s10 d0 a1 a2 a3 a4 a5 e1 e2 e3 e4 e5
                            go_loopg [17] 3 (fun gg kv wr => ∃ k : Nat, k ≤ 3 ∧ 3 ≤ gg + k ∧ kv = .int .i64 k ∧ RdI w W H n mb #[.int .i64 rows, .int .i64 cols, .int .i64 cw, .int .i64 ch, .slice la ln lc, .slice pa pn pc, .slice ia ik ic, .int .i64 top, .bool true, .int .i64 R, .int .i64 C] g c (tab n (curD t P4 (ya + Y) (xa + X) k)) wr)
                            case atStart => exact ⟨0, by omega, by omega, rfl, HI2.out⟩
                            case round =>
                              obtain ⟨k, hk, hgk, rfl, hj⟩ := hrel
                              by_cases hk3 : k < 3
                              · have gk' : decide ((k : Int) < 3) = true := decide_eq_true (by omega)
                                have wK : IntKind.i64.wrap ((k : Int) + 1) = (k : Int) + 1 := IntWalk.i64_in _ (by omega)
                                obtain ⟨⟨a0, -⟩, ⟨a1, -⟩, a2, -⟩ := blk3 hj.m
                                have hix4 := HIX.out
                                have hog := hj.o
                                obtain ⟨z9, hz9⟩ : ∃ z, P4.getD (ix + k) 0 = z := ⟨_, rfl⟩
                                have bz : 0 ≤ z9 ∧ z9 < 256 := by rw [← hz9]; exact getD_byte HP4B.out _
                                have d3 := hog.at.2.2.2.1 (ix + k) (by omega)
                                have e3 := hog.at.2.2.2.2 (ix + k)
                                rw [HGET2.out k hk3, hz9] at d3
                                obtain ⟨V2, hV2⟩ : ∃ V2, wr.setCell ⟨g, ix + k, none⟩ (.int .u8 (255 - z9)) = V2 := ⟨_, rfl⟩
                                have ho1 : Own .u8 5 V2 (.slice (some ⟨g, 0, none⟩) n c) (tab n (curD t P4 (ya + Y) (xa + X) (k + 1))) := by
                                  have h := hog.set (show ix + k < n by omega) (255 - z9)
                                  rw [hV2] at h
                                  have hs := HSTEP2.out k hk3
                                  rw [hz9] at hs
                                  rw [hs] at h
                                  exact h
                                have kV2 : Kept (fun i => i = g) wr V2 := by rw [← hV2]; exact (Kept.refl (fun i => i = g) _).setCell (p := ⟨g, ix + k, none⟩) (.inl rfl) _
                                have HI3 := Lib.hid (hj.put ho1 kV2)
                                have p1 : IntKind.i64.wrap ((ix : Int) + (k : Int)) = (ix : Int) + (k : Int) := IntWalk.i64_in _ (by omega)
                                have p5 : IntKind.u8.wrap (255 - z9) = 255 - z9 := IntWalk.u8_in _ (by omega)
                                have t1 : ((ix : Int) + (k : Int)).toNat = ix + k := by omega
                                have l1 : 0 ≤ (ix : Int) + (k : Int) := by omega
                                have l2 : (ix : Int) + (k : Int) < (n : Int) := by omega
                                clear hj hog ho1 kV2 hz9 hix4
                                go_wp2
                                go_still_tail 14, (by kernel_rfl)
                                clear p1 p5 t1 l1 l2
                                change wpList _ _ _ _ _ wr.drew
                                go_wp2
                                go_roundg (gk - 1)
                                case rel => exact ⟨k + 1, by omega, by omega, by go_num, HI3.out.kept ((Kept.refl (fun _ => False) _).drew)⟩
                                case measure => omega
                              · obtain rfl : k = 3 := by omega
                                have gk' : decide (((3 : Nat) : Int) < 3) = false := by decide
                                rw [HPX.out] at hj
                                have HI4 := Lib.hid hj
                                clear hj
                                go_wp2
                                go_roundg (gkx - 1)
                                case rel => exact ⟨X + 1, by omega, by omega, by go_num, HI4.out⟩
                                case measure => omega
                          · obtain rfl : cw = X := by omega
                            have gx : decide (cw < cw) = false := decide_eq_false (by omega)
                            rw [HROC.out (ya + Y)] at hj
                            have HI2 := Lib.hid hj
                            clear hj
                            go_wp2
                            go_roundg (gko - 1)
                            case rel => exact ⟨Y + 1, by omega, by omega, by go_num, HI2.out⟩
                            case measure => omega
                      · obtain rfl : ch = Y := by omega
                        have gy : decide (ch < ch) = false := decide_eq_false (by omega)
                        rw [HENC.out, ← HRES2.out] at hj
                        have HJ9 := Lib.hid hj
                        clear hj
                        obtain ⟨⟨d0, -⟩, ⟨d1, -⟩, d2, -⟩ := blk3 HJ9.out.m
                        obtain ⟨U1, U2, U3, f1, f2, f3, ⟨z0, z0'⟩, ⟨z1, z1'⟩, ⟨z2, z2'⟩, bU, kU⟩ := store3 HJ9.out.z (.int .i64 W) (.int .i64 H) (.slice (some ⟨g, 0, none⟩) n c)
                        obtain ⟨⟨m0, -⟩, ⟨m1, -⟩, m2, -⟩ := blk3 bU
                        have HE := Lib.hid (And.intro (HJ9.out.o.kept kU (fun b hb hS => by have h9 : b = w.heap.size + 1 := hS; have h8 : g = b := (by cases hb; rfl); have := HJ9.out.gs; omega)) (HJ9.out.k.trans (kU.mono fun i _ hi => Or.inr (by have h9 : i = w.heap.size + 1 := hi; omega))))
                        clear bU kU
                        go_wp2
                        exact bodyPost_ret (v := .tuple #[.agg #[.int .i64 W, .int .i64 H, .slice (some ⟨g, 0, none⟩) n c], .int .i64 0]) (by simp [results, Try.results12, go_sem, m0, m1, m2]) rfl ⟨g, c, rfl, HE.out⟩
end Go.Proofs.Ytdjgmhbfohbenaa
