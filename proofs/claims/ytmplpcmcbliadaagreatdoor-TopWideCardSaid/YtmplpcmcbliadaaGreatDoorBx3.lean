/- Several texts in one: Lay, CutP, In; Several texts in one: FillD, SolD, Grow2, BoxP, RPut; The parts of a glyph laid: the program's box, by one of its closures; What a pixel of a glyph is, by the document; Several texts in one: GlyD, RGlyD, GlyP, ScD; Several texts in one: EachD, GroD. -/
import Derived.Test.YtmplpcmcbliadaaGreatDoorBx2
import Derived.Deep.DeepCutAuto
import Derived.Test.YtmplpcmcbliadaaGreatDoorBx8
import Derived.Test.YtmplpcmcbliadaaGreatDoorBx0
import Derived.StillTail
import Derived.Lib.QuietBelow
set_option linter.unusedVariables false
set_option linter.unusedSimpArgs false
namespace Go.Proofs.YtmplpcmcbliadaaGreatDoor
open Go.RowKit Go.Sort
def LayInv (w : World) (W H SW SH : Nat) (sa : Option Addr) (sn scap : Nat) (av : Option Addr) (n cv : Nat) (s L : List Int) (wr : World) : Prop :=
 Own .u8 5 wr (.slice av n cv) L /\ Kept (fun i => (Value.slice av n cv).ownBlock = some i) w wr /\ wr.heap[w.heap.size]? = some (.cells #[.int .i64 W, .int .i64 H, .slice av n cv] 38 (0, 0)) /\ wr.heap[w.heap.size + 1]? = some (.cells #[.int .i64 SW, .int .i64 SH, .slice sa sn scap] 38 (0, 0)) /\ SlAt .u8 wr sa sn s
theorem LayInv.kept {w : World} {W H SW SH : Nat} {sa : Option Addr} {sn scap : Nat} {av : Option Addr} {n cv : Nat} {s L : List Int} {wr w2 : World} (h : LayInv w W H SW SH sa sn scap av n cv s L wr) (hk : Kept (fun _ => False) wr w2) : LayInv w W H SW SH sa sn scap av n cv s L w2 :=
 ⟨h.1.kept hk (fun _ _ => id), h.2.1.then (hk.mono fun _ _ h => h.elim), hk.blk h.2.2.1 id, hk.blk h.2.2.2.1 id, h.2.2.2.2.up hk⟩
theorem LayInv.put {w : World} {W H SW SH : Nat} {sa : Option Addr} {sn scap : Nat} {av : Option Addr} {n cv : Nat} {s L L' : List Int} {wr w2 : World} {g : Nat} (h : LayInv w W H SW SH sa sn scap av n cv s L wr) (ho : Own .u8 5 w2 (.slice av n cv) L') (hk : Kept (fun i => i = g) wr w2) (hg : (Value.slice av n cv).ownBlock = some g) (hgw : g < w.heap.size)
  (hsep : ∀ b off, 0 < sn -> sa = some ⟨b, off, none⟩ -> b ≠ g) : LayInv w W H SW SH sa sn scap av n cv s L' w2 :=
 ⟨ho, h.2.1.then (hk.mono fun i _ hi => by rw [show i = g from hi]; exact hg), hk.blk h.2.2.1 (fun (h : w.heap.size = g) => by omega), hk.blk h.2.2.2.1 (fun (h : w.heap.size + 1 = g) => by omega), h.2.2.2.2.kept hk (fun b off h0 he => hsep b off h0 he)⟩
def paintD (t : Spot) (p : List Int) (K : Nat -> Nat -> Int) (Y X q : Nat) : Int := if t.inside (q / 4) /\ t.done Y X (q / 4) then K (q / 4) (q % 4) else p.getD q 0
def paintF (t : Spot) (p : List Int) (K : Nat -> Nat -> Int) (q : Nat) : Int := if t.inside (q / 4) then K (q / 4) (q % 4) else p.getD q 0
theorem paintD_start (t : Spot) (p : List Int) (K : Nat -> Nat -> Int) (n : Nat) (hp : p.length = n) : tab n (paintD t p K t.y0 t.x0) = p := by
 refine list_ext (by rw [tab_length, hp]) (fun j hj => ?_)
 rw [tab_length] at hj
 rw [tab_get hj]
 unfold paintD
 rw [if_neg]
 rintro ⟨h1, h2⟩
 unfold Spot.inside at h1
 unfold Spot.done at h2
 omega
theorem paintD_end (t : Spot) (p : List Int) (K : Nat -> Nat -> Int) (n X Y : Nat) (hY : t.y1 <= Y) : tab n (paintD t p K Y X) = tab n (paintF t p K) := by
 refine tab_ext fun j hj => ?_
 unfold paintD paintF
 by_cases h : t.inside (j / 4)
 ·have h2 : t.done Y X (j / 4) := by unfold Spot.inside at h; unfold Spot.done; omega
  rw [if_pos ⟨h, h2⟩, if_pos h]
 ·rw [if_neg (fun h2 => h h2.1), if_neg h]
theorem paintD_row (t : Spot) (p : List Int) (K : Nat -> Nat -> Int) (n X Y : Nat) (hX : t.x1 <= X) : tab n (paintD t p K Y X) = tab n (paintD t p K (Y + 1) t.x0) := by
 refine tab_ext fun j hj => ?_
 unfold paintD
 by_cases h : t.inside (j / 4)
 ·by_cases h2 : t.done Y X (j / 4)
  ·have h3 : t.done (Y + 1) t.x0 (j / 4) := by unfold Spot.inside at h; unfold Spot.done at *; omega
   rw [if_pos ⟨h, h2⟩, if_pos ⟨h, h3⟩]
  ·have h3 : ¬ t.done (Y + 1) t.x0 (j / 4) := by unfold Spot.inside at h; unfold Spot.done at *; omega
   rw [if_neg (fun h4 => h2 h4.2), if_neg (fun h4 => h3 h4.2)]
 ·rw [if_neg (fun h2 => h h2.1), if_neg (fun h2 => h h2.1)]
theorem paintD_step (t : Spot) (p : List Int) (K : Nat -> Nat -> Int) (n X Y : Nat) (hX : X < t.W) (h0 : t.x0 <= X) (h1 : X < t.x1) (h2 : t.y0 <= Y) (h3 : Y < t.y1) (hn : 4 * (Y * t.W + X) + 4 <= n) (ys : List Int) (hl : ys.length = 4)
  (hy : ∀ k, k < 4 -> ys.getD k 0 = K (Y * t.W + X) k) :
  spl (tab n (paintD t p K Y X)) (4 * (Y * t.W + X)) ys = tab n (paintD t p K Y (X + 1)) := by
 rw [spl_tab (by omega)]
 obtain ⟨e1, e2⟩ := pos_of (y := Y) hX
 refine tab_ext fun j hj => ?_
 by_cases hj4 : j / 4 = Y * t.W + X
 ·rw [if_pos (by omega), hy _ (by omega)]
  unfold paintD
  rw [hj4, if_pos]
  ·congr 1; omega
  ·unfold Spot.inside Spot.done; rw [e1, e2]; omega
 ·rw [if_neg (by omega)]
  unfold paintD
  by_cases hi : t.inside (j / 4)
  ·by_cases hd : t.done Y X (j / 4)
   ·have hd2 : t.done Y (X + 1) (j / 4) := by unfold Spot.done at *; omega
    rw [if_pos ⟨hi, hd⟩, if_pos ⟨hi, hd2⟩]
   ·have hd2 : ¬ t.done Y (X + 1) (j / 4) := by
     intro h
     apply hj4
     unfold Spot.done at h hd
     exact unpos (by omega) (by omega)
    rw [if_neg (fun h => hd h.2), if_neg (fun h => hd2 h.2)]
  ·rw [if_neg (fun h => hi h.1), if_neg (fun h => hi h.1)]
def fspot (W H : Nat) (x y cw ch : Int) : Spot := ⟨W, 0, 0, 0, (max x 0).toNat, (min (x + cw) W).toNat, (max y 0).toNat, (min (y + ch) H).toNat⟩
def fillP (W H : Nat) (x y cw ch : Int) (c0 c1 c2 c3 : Int) (n : Nat) (p : List Int) : List Int :=
 tab n (paintF (fspot W H x y cw ch) p (fun _ k => [c0, c1, c2, c3].getD k 0))
theorem fillP_length (W H : Nat) (x y cw ch : Int) (c0 c1 c2 c3 : Int) (n : Nat) (p : List Int) : (fillP W H x y cw ch c0 c1 c2 c3 n p).length = n := tab_length _ _
def FilInv (w : World) (W H : Nat) (av : Option Addr) (n cv : Nat) (c0 c1 c2 c3 : Int) (L : List Int) (wr : World) : Prop :=
 Own .u8 5 wr (.slice av n cv) L /\ Kept (fun i => (Value.slice av n cv).ownBlock = some i) w wr /\ wr.heap[w.heap.size]? = some (.cells #[.int .i64 W, .int .i64 H, .slice av n cv] 38 (0, 0)) /\ wr.heap[w.heap.size + 1]? = some (.cells #[.int .u8 c0, .int .u8 c1, .int .u8 c2, .int .u8 c3] 43 (0, 0))
theorem FilInv.kept {w : World} {W H : Nat} {av : Option Addr} {n cv : Nat} {c0 c1 c2 c3 : Int} {L : List Int} {wr w2 : World} (h : FilInv w W H av n cv c0 c1 c2 c3 L wr) (hk : Kept (fun _ => False) wr w2) : FilInv w W H av n cv c0 c1 c2 c3 L w2 :=
 ⟨h.1.kept hk (fun _ _ => id), h.2.1.then (hk.mono fun _ _ h => h.elim), hk.blk h.2.2.1 id, hk.blk h.2.2.2 id⟩
theorem FilInv.put {w : World} {W H : Nat} {av : Option Addr} {n cv : Nat} {c0 c1 c2 c3 : Int} {L L' : List Int} {wr w2 : World} {g : Nat} (h : FilInv w W H av n cv c0 c1 c2 c3 L wr) (ho : Own .u8 5 w2 (.slice av n cv) L') (hk : Kept (fun i => i = g) wr w2) (hg : (Value.slice av n cv).ownBlock = some g) (hgw : g < w.heap.size) : FilInv w W H av n cv c0 c1 c2 c3 L' w2 :=
 ⟨ho, h.2.1.then (hk.mono fun i _ hi => by rw [show i = g from hi]; exact hg), hk.blk h.2.2.1 (fun (h : w.heap.size = g) => by omega), hk.blk h.2.2.2 (fun (h : w.heap.size + 1 = g) => by omega)⟩
def Mid (x : Int) : Prop := -1099511627776 <= x /\ x <= 1099511627776
set_option maxRecDepth 100000 in
set_option maxHeartbeats 8000000 in
theorem filD_any (W H : Nat) (x y cw ch : Int) (p : List Int) (av : Option Addr) (n cv : Nat) (c0 c1 c2 c3 : Int) (w : World) (hxx : Mid x) (hyy : Mid y) (hcw : Mid cw) (hch : Mid ch)
  (hW : W <= 16384) (hH : H <= 16384) (hN : n = 4 * (W * H)) (hn2 : n <= 67108864) (ho : Own .u8 5 w (.slice av n cv) p) :
  Calls Tryz.prog 539 #[.agg #[.int .i64 W, .int .i64 H, .slice av n cv], .int .i64 x, .int .i64 y, .int .i64 cw, .int .i64 ch, .agg #[.int .u8 c0, .int .u8 c1, .int .u8 c2, .int .u8 c3]] w fun e w' => e = .returned (.tuple #[]) /\ Own .u8 5 w' (.slice av n cv) (fillP W H x y cw ch c0 c1 c2 c3 n p) /\ Kept (fun i => (Value.slice av n cv).ownBlock = some i) w w' := by
 have hpl : p.length = n := by obtain ⟨_, _, hv, -⟩ := ho.shape; cases hv; rfl
 have hF := ho.lt
 unfold Mid at hxx hyy hcw hch
 obtain ⟨x0, hx0⟩ : ∃ k : Nat, max x 0 = (k : Int) := ⟨(max x 0).toNat, by omega⟩
 obtain ⟨y0, hy0⟩ : ∃ k : Nat, max y 0 = (k : Int) := ⟨(max y 0).toNat, by omega⟩
 obtain ⟨x1, hx1⟩ : ∃ k : Int, min (x + cw) W = k := ⟨_, rfl⟩
 obtain ⟨y1, hy1⟩ : ∃ k : Int, min (y + ch) H = k := ⟨_, rfl⟩
 have wxc : IntKind.i64.wrap (x + cw) = x + cw := IntWalk.i64_in _ (by omega)
 have wyc : IntKind.i64.wrap (y + ch) = y + ch := IntWalk.i64_in _ (by omega)
 obtain ⟨t, ht⟩ : ∃ t : Spot, (⟨W, 0, 0, 0, x0, x1.toNat, y0, y1.toNat⟩ : Spot) = t := ⟨_, rfl⟩
 obtain ⟨K, hK⟩ : ∃ K : Nat -> Nat -> Int, (fun _ k => [c0, c1, c2, c3].getD k 0) = K := ⟨_, rfl⟩
 have hE : fillP W H x y cw ch c0 c1 c2 c3 n p = tab n (paintF t p K) := by unfold fillP fspot; rw [hx0, hx1, hy0, hy1]; simp only [Int.toNat_natCast]; rw [ht, hK]
 rw [hE]
 have HSTART := Lib.hid (show tab n (paintD t p K y0 x0) = p from by have h := paintD_start t p K n hpl; rw [<- ht] at h ⊢; exact h)
 have HEND := Lib.hid (fun (X Y : Nat) (h : y1 <= (Y : Int)) => show tab n (paintD t p K Y X) = tab n (paintF t p K) from paintD_end t p K n X Y (by rw [<- ht]; simp only; omega))
 have HROWS := Lib.hid (fun (X Y : Nat) (h : x1 <= (X : Int)) => show tab n (paintD t p K Y X) = tab n (paintD t p K (Y + 1) x0) from by have h := paintD_row t p K n X Y (by rw [<- ht]; simp only; omega); rw [<- ht] at h ⊢; exact h)
 have HSTEP := Lib.hid (fun (X Y : Nat) (hXW : X < W) (hX0 : x0 <= X) (hX : (X : Int) < x1) (hY0 : y0 <= Y) (hY : (Y : Int) < y1) (hn : 4 * (Y * W + X) + 4 <= n) => show spl (tab n (paintD t p K Y X)) (4 * (Y * W + X)) [c0, c1, c2, c3] = tab n (paintD t p K Y (X + 1)) from by
  have h := paintD_step t p K n X Y (by rw [<- ht]; exact hXW) (by rw [<- ht]; exact hX0) (by rw [<- ht]; simp only; omega) (by rw [<- ht]; exact hY0) (by rw [<- ht]; simp only; omega) (by rw [<- ht]; exact hn) [c0, c1, c2, c3] rfl (fun k _ => by rw [<- hK])
  rw [<- ht] at h ⊢
  exact h)
 have hx1W : x1 <= W := by omega
 have hy1H : y1 <= H := by omega
 have HPL := Lib.hid hpl
 have HN := Lib.hid hN
 have HF := Lib.hid hF
 obtain ⟨V, hV⟩ : ∃ V, (w.alloc (.cells #[.int .i64 W, .int .i64 H, .slice av n cv] 38)).alloc (.cells #[.int .u8 c0, .int .u8 c1, .int .u8 c2, .int .u8 c3] 43) = V := ⟨_, rfl⟩
 have kV : Kept (fun _ => False) w V := by rw [<- hV]; exact ((Kept.refl _ w).alloc _).alloc _
 have b0 : V.heap[w.heap.size]? = some (.cells #[.int .i64 W, .int .i64 H, .slice av n cv] 38 (0, 0)) := by rw [<- hV]; exact blk_alloc (blk_new _ _) _
 have b1 : V.heap[w.heap.size + 1]? = some (.cells #[.int .u8 c0, .int .u8 c1, .int .u8 c2, .int .u8 c3] 43 (0, 0)) := by rw [<- hV]; exact blk_at _ _ (by simp)
 have HINV := Lib.hid (show FilInv w W H av n cv c0 c1 c2 c3 (tab n (paintD t p K y0 x0)) V from ⟨by rw [HSTART.out]; exact ho.kept kV (fun _ _ => id), kV.mono (fun _ _ h => h.elim), b0, b1⟩)
 have HX0 := Lib.hid (And.intro hx0 (And.intro hy0 (And.intro hx1 hy1)))
 have mx := @Lib.hid _ hx0
 have hmx : (if x < 0 then (0 : Int) else x) = (x0 : Int) := by split <;> omega
 have hmy : (if y < 0 then (0 : Int) else y) = (y0 : Int) := by split <;> omega
 have hmx1 : (if (W : Int) < x + cw then (W : Int) else x + cw) = x1 := by split <;> omega
 have hmy1 : (if (H : Int) < y + ch then (H : Int) else y + ch) = y1 := by split <;> omega
 clear b0 b1 kV hE ht hK hpl hN ho hF hx0 hy0 hx1 hy1
 go_enter Tryz.func539, Tryz.ntmps539
 go_wp2
 go_loopg [12, 13] y1.toNat (fun gg yv _ wr => ∃ Y : Nat, y0 <= Y /\ y1.toNat <= gg + Y /\ yv = .int .i64 Y /\ FilInv w W H av n cv c0 c1 c2 c3 (tab n (paintD t p K Y x0)) wr)
 case atStart => exact ⟨y0, by omega, by omega, rfl, HINV.out⟩
 case round =>
  obtain ⟨Y, hY0, hgg, rfl, hinv⟩ := hrel
  obtain ⟨⟨a0, -⟩, ⟨a1, -⟩, a2, -⟩ := blk3 hinv.2.2.1
  by_cases hY1 : (Y : Int) < y1
  ·have gy : decide ((Y : Int) < y1) = true := decide_eq_true hY1
   have HI := Lib.hid hinv
   obtain ⟨gko, hgo⟩ : ∃ x, x = gk := ⟨_, rfl⟩
   subst hgo
   have wY : IntKind.i64.wrap ((Y : Int) + 1) = (Y : Int) + 1 := IntWalk.i64_in _ (by omega)
   clear hinv
   go_wp2
   go_loopg [13] x1.toNat (fun gg xv wr => ∃ X : Nat, x0 <= X /\ x1.toNat <= gg + X /\ xv = .int .i64 X /\ FilInv w W H av n cv c0 c1 c2 c3 (tab n (paintD t p K Y X)) wr)
   case atStart => exact ⟨x0, by omega, by omega, rfl, HI.out⟩
   case round =>
    clear a0 a1 a2
    obtain ⟨X, hX0, hgx, rfl, hinv⟩ := hrel
    obtain ⟨⟨a0, -⟩, ⟨a1, -⟩, a2, -⟩ := blk3 hinv.2.2.1
    by_cases hX1 : (X : Int) < x1
    ·have gx : decide ((X : Int) < x1) = true := decide_eq_true hX1
     have hXW : X < W := by omega
     have hYH : Y < H := by omega
     have hPn := fit_idx hXW hYH
     have hn4 : 4 * (Y * W + X) + 4 <= n := by have := HN.out; omega
     have hWH : W * H <= 67108864 := by have := HN.out; omega
     obtain ⟨g, rfl⟩ := hinv.1.form (by omega)
     have hgF := HF.out g rfl
     have HST := Lib.hid (HSTEP.out X Y hXW hX0 hX1 hY0 hY1 hn4)
     have wX : IntKind.i64.wrap ((X : Int) + 1) = (X : Int) + 1 := IntWalk.i64_in _ (by omega)
     have hcv : n <= cv /\ cv <= 9223372036854775807 := by obtain ⟨_, _, hv, -, h1, h2, -⟩ := hinv.1.shape; rw [tab_length] at hv h1; cases hv; exact ⟨h1, by simpa [maxLen] using h2⟩
     have HI := Lib.hid hinv
     obtain ⟨yW, hyW⟩ : ∃ q, Y * W = q := ⟨_, rfl⟩
     rw [hyW] at hPn hn4 HST
     have v5 : (Y : Int) * (W : Int) = (yW : Int) := by rw [<- hyW]; simp
     clear hinv hPn hyW hWH
     go_wp2
     have HI2 := HI
     have HS18 := Lib.hid (show SlAt .u8 wr (some ⟨w.heap.size + 1, 0, none⟩) 4 [c0, c1, c2, c3] from slAt_blk HI2.out.2.2.2 rfl rfl)
     have l2 : 4 * ((yW : Int) + (X : Int)) <= (n : Int) := by omega
     have l3 : 4 * ((yW : Int) + (X : Int)) <= (cv : Int) := by omega
     have t1 : (4 * ((yW : Int) + (X : Int))).toNat = 4 * (yW + X) := by omega
     have w1' : IntKind.i64.wrap (yW : Int) = (yW : Int) := IntWalk.i64_in _ (by omega)
     have w2' : IntKind.i64.wrap ((yW : Int) + (X : Int)) = (yW : Int) + (X : Int) := IntWalk.i64_in _ (by omega)
     have w3' : IntKind.i64.wrap (4 * ((yW : Int) + (X : Int))) = 4 * ((yW : Int) + (X : Int)) := IntWalk.i64_in _ (by omega)
     have l1 : 0 <= 4 * ((yW : Int) + (X : Int)) := by omega
     have hcap : ¬ (cv = 4 * (yW + X)) := by omega
     have hmin := Lib.hid (show 4 = Nat.min 4 (n - 4 * (yW + X)) from (Nat.min_eq_left (show 4 <= n - 4 * (yW + X) by omega)).symm)
     go_still_tail 11, (by kernel_rfl)
     clear l1 l2 l3 t1 w1' w2' w3'
     change wpList _ _ _ _ _ wr.drew
     refine wpList_cp rfl (.tmp 47) (.tmp 48) 22 22 rfl 5 .u8 Tryz.underlying22 Tryz.size5 g n cv (4 * (yW + X)) _ _ _ rfl (HI2.out.1.kept ((Kept.refl (fun _ => False) wr).drew) (fun _ _ => id)) (some ⟨w.heap.size + 1, 0, none⟩) 4 _ _ rfl (HS18.out.up ((Kept.refl (fun _ => False) wr).drew)) 4 hmin.out (by omega) ?_
     intro w4 ho4 hk4
     rw [show ([c0, c1, c2, c3] : List Int).take 4 = [c0, c1, c2, c3] from rfl, HST.out] at ho4
     have HI4 := Lib.hid ((HI2.out.kept (Kept.refl (fun _ => False) wr).drew).put ho4 hk4 rfl hgF)
     clear ho4 hk4
     go_wp2
     go_roundg (gk - 1)
     case rel => exact ⟨X + 1, by omega, by omega, by go_num, HI4.out⟩
     case measure => omega
    ·have gx : decide ((X : Int) < x1) = false := decide_eq_false hX1
     have hrow := HROWS.out X Y (by omega)
     rw [hrow] at hinv
     have HI := Lib.hid hinv
     clear hinv hrow
     go_wp2
     go_roundg (gko - 1)
     case rel => exact ⟨Y + 1, by omega, by omega, by go_num, HI.out⟩
     case measure => omega
  ·have gy : decide ((Y : Int) < y1) = false := decide_eq_false hY1
   have hend := HEND.out x0 Y (by omega)
   rw [hend] at hinv
   have HI := Lib.hid hinv
   clear hinv hend
   go_wp2
   go_end0
   exact ⟨rfl, HI.out.1, HI.out.2.1⟩
end Go.Proofs.YtmplpcmcbliadaaGreatDoor
namespace Go.Proofs.YtmplpcmcbliadaaGreatDoor
open Go.RowKit Go.Sort Pl
def rgbaV (c : Rgb) : Value := .agg #[.int .u8 c.r, .int .u8 c.g, .int .u8 c.b, .int .u8 255]
set_option maxRecDepth 100000 in
set_option maxHeartbeats 8000000 in
theorem solid_any (c : Rgb) (w : World) : Calls Tryz.prog 540 #[rgbV c] w fun e w' => e = .returned (rgbaV c) /\ Kept (fun _ => False) w w' := by
 obtain ⟨r, g, b⟩ := c
 unfold rgbV rgbaV
 go_enter Tryz.func540, Tryz.ntmps540
 go_wp2
 refine bodyPost_ret (v := .agg #[.int .u8 r, .int .u8 g, .int .u8 b, .int .u8 255]) (by simp [results, Tryz.results540, go_sem]) rfl ⟨rfl, ?_⟩
 first
  | (repeat (first | apply Kept.alloc | apply Kept.drew)); exact Kept.refl _ _
  | skip
set_option maxRecDepth 100000 in
set_option maxHeartbeats 8000000 in
theorem betw_any (v lo hi : Int) (w : World) : Calls Tryz.prog 87 #[.int .i64 v, .int .i64 lo, .int .i64 hi] w fun e w' => e = .returned (.bool (decide (lo <= v) && decide (v <= hi))) /\ w' = w := by
 by_cases h1 : lo <= v
 ·have g1 : decide (lo <= v) = true := decide_eq_true h1
  by_cases h2 : v <= hi
  ·have g2 : decide (v <= hi) = true := decide_eq_true h2
   rw [g1, g2]
   go_enter Tryz.func87, Tryz.ntmps87
   go_wp2
   go_ret
   exact ⟨rfl, rfl⟩
  ·have g2 : decide (v <= hi) = false := decide_eq_false h2
   rw [g1, g2]
   go_enter Tryz.func87, Tryz.ntmps87
   go_wp2
   go_ret
   exact ⟨rfl, rfl⟩
 ·have g1 : decide (lo <= v) = false := decide_eq_false h1
  rw [g1]
  go_enter Tryz.func87, Tryz.ntmps87
  go_wp2
  go_ret
  exact ⟨rfl, rfl⟩
end Go.Proofs.YtmplpcmcbliadaaGreatDoor
namespace Go.Proofs.YtmplpcmcbliadaaGreatDoor.A2
open Go.RowKit Go.Sort
section
variable {P : Program} {A : Nat -> Bool} {ops : Array Oper} {md : Region.Mode}
def moment (ω : Nat -> World) (i : Nat) (w : World) : Nat -> World := fun k => if k = i then w else ω k
theorem moment_self (ω : Nat -> World) (i : Nat) (w : World) : moment ω i w i = w := if_pos rfl
theorem moment_ne (ω : Nat -> World) {i k : Nat} (w : World) (h : k ≠ i) : moment ω i w k = ω k := if_neg h
structure GrowAt (X : Nat -> Nat -> Bool) (W : World) (ω : Nat -> World) (j : Nat) (w : World) : Prop where
 old : Kept (fun _ => False) W w
 seen : ∀ k, X j k = true -> Kept (fun _ => False) (ω k) w
theorem GrowAt.moment {X : Nat -> Nat -> Bool} {W : World} {ω : Nat -> World} {j : Nat} {w : World} (h : GrowAt X W ω j w) {i : Nat} (hx : X j i = false) (w' : World) : GrowAt X W (moment ω i w') j w :=
 ⟨h.old, fun k hk => by rw [moment_ne _ _ (fun e => by rw [e, hx] at hk; cases hk)]; exact h.seen k hk⟩
theorem GrowAt.unmoment {X : Nat -> Nat -> Bool} {W : World} {ω : Nat -> World} {j : Nat} {w : World} {i : Nat} {w' : World} (h : GrowAt X W (Go.Proofs.YtmplpcmcbliadaaGreatDoor.A2.moment ω i w') j w) (hx : X j i = false) : GrowAt X W ω j w :=
 ⟨h.old, fun k hk => by have := h.seen k hk; rwa [moment_ne _ _ (fun e => by rw [e, hx] at hk; cases hk)] at this⟩
theorem GrowAt.kept {X : Nat -> Nat -> Bool} {W : World} {ω : Nat -> World} {j : Nat} {w w' : World} (h : GrowAt X W ω j w) (hk : Kept (fun _ => False) w w') : GrowAt X W ω j w' :=
 ⟨h.old.then hk, fun k hx => (h.seen k hx).then hk⟩
def Apart (A : Nat -> Bool) (W : World) (ω : Nat -> World) (i : Nat) (w' : World) : Prop := A i = true -> W.heap.size < w'.heap.size /\ ∀ k, A k = true -> k ≠ i -> (ω k).heap.size ≠ w'.heap.size
def growUpon (P : Program) (R : Value -> World -> Prop) (w : World) : Result Next -> Prop
 | .ok (.value u) w' => Kept (fun _ => False) w w' /\ R u w'
 | .ok .skip w' => Kept (fun _ => False) w w' /\ R undef w'
 | .ok (.enter f args) w' => w' = w /\ Calls P f args w (fun e w'' => ∃ v, e = .returned v /\ Kept (fun _ => False) w w'' /\ R v w'')
 | _ => False
def sameUpon (w : World) (v : Value) : Result Next -> Prop
 | .ok (.value u) w' => w' = w /\ u = v
 | .ok .skip w' => w' = w /\ v = undef
 | _ => False
theorem sameUpon_one {w : World} {v v' : Value} {r : Result Next} (h : sameUpon w v r) (h' : sameUpon w v' r) : v = v' := by
 cases r with
 | ok n w' =>
  cases n <;> simp only [sameUpon] at h h'
  case value u => exact h.2.symm.trans h'.2
  case skip => exact h.2.trans h'.2.symm
 | halt x w' => cases h
theorem growUpon_wit {R : Value -> World -> Prop} {w : World} {r : Result Next} (h : growUpon P R w r) : ∃ v w', Kept (fun _ => False) w w' /\ R v w' := by
 cases r with
 | ok n w' =>
  cases n <;> simp only [growUpon] at h
  case value u => exact ⟨u, w', h⟩
  case skip => exact ⟨undef, w', h⟩
  case enter f args =>
   obtain ⟨e, w'', fr, ⟨v, -, hk, hr⟩, -⟩ := h.2 []
   exact ⟨v, w'', hk, hr⟩
 | halt x w' => cases h
def growOp (P : Program) (A : Nat -> Bool) (ops : Array Oper) (X : Nat -> Nat -> Bool) (W : World) (S : Nat -> Option (Value -> World -> Prop)) (i : Nat) (o : Oper) (K : Act -> (Nat -> World) -> Prop) (a : Act) (ω : Nat -> World) : Prop :=
 if Region.wanted o (yielded ops a.tmps) = true then
  match S i with
  | none => ∃ v, (∀ w, (∃ p : Regrown, w = grow (redrawn W p.d) p.os) -> sameUpon w v ((execOp a.eval o).run P w)) /\ K (a.put o.dst v) ω
  | some R => (∀ w, GrowAt X W ω i w -> growUpon P (fun v w' => R v w' /\ (A i = true -> w.heap.size < w'.heap.size)) w ((execOp a.eval o).run P w)) /\ ∀ v w', R v w' -> GrowAt X W ω i w' -> Apart A W ω i w' -> K (a.put o.dst v) (moment ω i w')
 else K (a.put o.dst undef) ω
def wpGrow (P : Program) (A : Nat -> Bool) (ops : Array Oper) (X : Nat -> Nat -> Bool) (W : World) (S : Nat -> Option (Value -> World -> Prop)) (Q : Act -> (Nat -> World) -> Prop) : List (Nat × Oper) -> Act -> (Nat -> World) -> Prop
 | [], a, ω => Q a ω
 | p :: rest, a, ω => growOp P A ops X W S p.1 p.2 (wpGrow P A ops X W S Q rest) a ω
variable {X : Nat -> Nat -> Bool} {W : World} {S : Nat -> Option (Value -> World -> Prop)} {Q : Act -> (Nat -> World) -> Prop}
theorem wpGrow_nil {a : Act} {ω : Nat -> World} (h : Q a ω) : wpGrow P A ops X W S Q [] a ω := h
theorem wpGrow_step {i : Nat} {o : Oper} {rest : List (Nat × Oper)} {a : Act} {ω : Nat -> World}
  (h : ∀ K : Act -> (Nat -> World) -> Prop, (∀ a ω, wpGrow P A ops X W S Q rest a ω -> K a ω) -> growOp P A ops X W S i o K a ω) : wpGrow P A ops X W S Q ((i, o) :: rest) a ω :=
 h _ (fun _ _ h => h)
theorem grown_of {w : World} (h : Kept (fun _ => False) W w) : ∃ p : Regrown, w = grow (redrawn W p.d) p.os := regrown_of_below h.below
theorem grow_now {j : Nat} {oj : Oper} {w : World} {post : List (Nat × Oper)} (hsj : ∀ cs b, oj.op ≠ .select cs b) (hj0 : Kept (fun _ => False) W w) :
  ∀ (pre : List (Nat × Oper)) (a : Act) (ω : Nat -> World) (w0 : World), (∀ p ∈ pre, p.2.apart ops oj = true /\ X j p.1 = false) -> GrowAt X W ω j w ->
   Kept (fun _ => False) W w0 -> (∀ k, Kept (fun _ => False) (ω k) w0) -> wpGrow P A ops X W S Q (pre ++ (j, oj) :: post) a ω -> Region.wanted oj (yielded ops a.tmps) = true ->
   match S j with
   | none => ∃ v, sameUpon w v ((execOp a.eval oj).run P w)
   | some R => growUpon P (fun v w' => R v w' /\ (A j = true -> w.heap.size < w'.heap.size)) w ((execOp a.eval oj).run P w)
 | [], a, ω, w0, _, hj, _, _, h, hw => by
  simp only [List.nil_append, wpGrow, growOp, hw, if_true] at h
  cases hS : S j with
  | none =>
   simp only [hS] at h
   obtain ⟨v, h1, -⟩ := h
   exact ⟨v, h1 w (grown_of hj0)⟩
  | some R =>
   simp only [hS] at h
   exact h.1 w hj
 | p :: pre, a, ω, w0, hp, hj, h0, h1, h, hw => by
  obtain ⟨hap, hx⟩ := hp p List.mem_cons_self
  obtain ⟨a1, a2, a3⟩ := Oper.apart_spec hap
  have hp' : ∀ q ∈ pre, q.2.apart ops oj = true /\ X j q.1 = false := fun q hq => hp q (List.mem_cons_of_mem _ hq)
  have back : ∀ v, execOp (a.put p.2.dst v).eval oj = execOp a.eval oj := fun v => execOp_put oj hsj a p.2.dst v a1
  have wback : ∀ v, Region.wanted oj (yielded ops (a.put p.2.dst v).tmps) = Region.wanted oj (yielded ops a.tmps) := fun v => wanted_put oj a p.2.dst v a1
  simp only [List.cons_append, wpGrow, growOp] at h
  by_cases hwp : Region.wanted p.2 (yielded ops a.tmps) = true
  ·simp only [hwp, if_true] at h
   cases hS : S p.1 with
   | none =>
    simp only [hS] at h
    obtain ⟨v, -, h2⟩ := h
    have := grow_now hsj hj0 pre (a.put p.2.dst v) ω w0 hp' hj h0 h1 h2 (by rw [wback]; exact hw)
    rwa [back] at this
   | some R =>
    simp only [hS] at h
    obtain ⟨v, w', hk, hr, hsz⟩ := growUpon_wit (h.1 w0 ⟨h0, fun k _ => h1 k⟩)
    have := grow_now hsj hj0 pre (a.put p.2.dst v) (moment ω p.1 w') w' hp' (hj.moment hx w') (h0.then hk) (fun k => by
     by_cases hkp : k = p.1
     ·rw [hkp, moment_self]; exact Kept.refl _ _
     ·rw [moment_ne _ _ hkp]; exact (h1 k).then hk) (h.2 v w' hr (GrowAt.kept ⟨h0, fun k _ => h1 k⟩ hk) (fun hA => ⟨Nat.lt_of_le_of_lt h0.size (hsz hA), fun k _ _ => Nat.ne_of_lt (Nat.lt_of_le_of_lt (h1 k).size (hsz hA))⟩)) (by rw [wback]; exact hw)
    rwa [back] at this
  ·simp only [hwp, if_false] at h
   have := grow_now hsj hj0 pre (a.put p.2.dst undef) ω w0 hp' hj h0 h1 h (by rw [wback]; exact hw)
   rwa [back] at this
def Left (P : Program) (A : Nat -> Bool) (ops : Array Oper) (X : Nat -> Nat -> Bool) (W : World) (S : Nat -> Option (Value -> World -> Prop)) (j : Nat) (oj : Oper) (w : World) (a : Act) (ω : Nat -> World) (v : Value) (u : Option World) : Prop :=
 (Region.wanted oj (yielded ops a.tmps) = false /\ v = undef /\ u = none) \/
 (Region.wanted oj (yielded ops a.tmps) = true /\ S j = none /\ sameUpon w v ((execOp a.eval oj).run P w) /\ u = none) \/
 (Region.wanted oj (yielded ops a.tmps) = true /\ ∃ R w', S j = some R /\ R v w' /\ GrowAt X W ω j w' /\ Apart A W ω j w' /\ u = some w')
def after (ω : Nat -> World) (j : Nat) : Option World -> (Nat -> World)
 | none => ω
 | some w => moment ω j w
theorem moment_comm (ω : Nat -> World) {i j : Nat} (h : i ≠ j) (w w' : World) : moment (moment ω i w) j w' = moment (moment ω j w') i w := by
 funext k
 unfold moment
 by_cases h1 : k = i
 ·rw [if_pos h1, if_pos h1, if_neg (fun e => h (h1.symm.trans e))]
 ·rw [if_neg h1, if_neg h1]
theorem grow_take {j : Nat} {oj : Oper} {w : World} {post : List (Nat × Oper)} (hsj : ∀ cs b, oj.op ≠ .select cs b) (hj0 : Kept (fun _ => False) W w) {v : Value} {u : Option World} :
  ∀ (pre : List (Nat × Oper)) (a : Act) (ω : Nat -> World), (∀ p ∈ pre, p.2.apart ops oj = true /\ X j p.1 = false /\ X p.1 j = false /\ p.1 ≠ j /\ ∀ cs b, p.2.op ≠ .select cs b) -> ω j = W ->
   Left P A ops X W S j oj w a ω v u -> wpGrow P A ops X W S Q (pre ++ (j, oj) :: post) a ω -> wpGrow P A ops X W S Q (pre ++ post) (a.put oj.dst v) (after ω j u)
 | [], a, ω, _, hjW, hl, h => by
  simp only [List.nil_append, wpGrow, growOp] at h ⊢
  rcases hl with ⟨hw, rfl, rfl⟩ | ⟨hw, hS, hv, rfl⟩ | ⟨hw, R, w', hS, hr, hg, hq, rfl⟩
  ·simp only [hw, Bool.false_eq_true, if_false] at h; exact h
  ·simp only [hw, if_true, hS] at h
   obtain ⟨v', h1, h2⟩ := h
   have e := sameUpon_one hv (h1 w (grown_of hj0))
   subst e
   exact h2
  ·simp only [hw, if_true, hS] at h
   exact h.2 v w' hr hg hq
 | p :: pre, a, ω, hp, hjW, hl, h => by
  obtain ⟨hap, hx, hx2, hne, hsp⟩ := hp p List.mem_cons_self
  obtain ⟨a1, a2, a3⟩ := Oper.apart_spec hap
  have hp' : ∀ q ∈ pre, q.2.apart ops oj = true /\ X j q.1 = false /\ X q.1 j = false /\ q.1 ≠ j /\ ∀ cs b, q.2.op ≠ .select cs b := fun q hq => hp q (List.mem_cons_of_mem _ hq)
  have keep : ∀ (vp : Value) (ω' : Nat -> World), (∀ w', GrowAt X W ω j w' -> GrowAt X W ω' j w') -> (∀ wj, u = some wj -> Apart A W ω j wj -> Apart A W ω' j wj) -> Left P A ops X W S j oj w (a.put p.2.dst vp) ω' v u := by
   intro vp ω' hω hωA
   unfold Left
   rw [wanted_put oj a p.2.dst vp a1, execOp_put oj hsj a p.2.dst vp a1]
   rcases hl with h | h | ⟨hw, R, w', hS, hr, hg, hq, hu⟩
   ·exact .inl h
   ·exact .inr (.inl h)
   ·exact .inr (.inr ⟨hw, R, w', hS, hr, hω w' hg, hωA w' hu hq, hu⟩)
  have e1 : execOp (a.put oj.dst v).eval p.2 = execOp a.eval p.2 := execOp_put p.2 hsp a oj.dst v a3
  have e2 : Region.wanted p.2 (yielded ops (a.put oj.dst v).tmps) = Region.wanted p.2 (yielded ops a.tmps) := wanted_put p.2 a oj.dst v a3
  have e3 : ∀ vp, (a.put p.2.dst vp).put oj.dst v = (a.put oj.dst v).put p.2.dst vp := fun vp => Act.put_comm a vp v a2
  simp only [List.cons_append, wpGrow, growOp] at h ⊢
  rw [e1, e2]
  by_cases hwp : Region.wanted p.2 (yielded ops a.tmps) = true
  ·simp only [hwp, if_true] at h ⊢
   cases hS : S p.1 with
   | none =>
    simp only [hS] at h ⊢
    obtain ⟨vp, h1, h2⟩ := h
    refine ⟨vp, h1, ?_⟩
    have := grow_take hsj hj0 pre (a.put p.2.dst vp) ω hp' hjW (keep vp ω (fun _ h => h) (fun _ _ h => h)) h2
    rwa [e3] at this
   | some R =>
    simp only [hS] at h ⊢
    have gback : ∀ w', GrowAt X W (after ω j u) p.1 w' -> GrowAt X W ω p.1 w' := by
     intro w' hg
     cases u with
     | none => exact hg
     | some wu => exact hg.unmoment hx2
    have aback : ∀ w', Apart A W (after ω j u) p.1 w' -> Apart A W ω p.1 w' := by
     intro w' hq
     cases u with
     | none => exact hq
     | some wu =>
      intro hA
      obtain ⟨q1, q2⟩ := hq hA
      refine ⟨q1, fun k hk hkp => ?_⟩
      by_cases hkj : k = j
      ·rw [hkj, hjW]; exact Nat.ne_of_lt q1
      ·have := q2 k hk hkp
       simp only [after] at this
       rwa [moment_ne _ _ hkj] at this
    refine ⟨fun w' hg => h.1 w' (gback w' hg), fun vp wp hr hg hq => ?_⟩
    have akeep : ∀ wj, u = some wj -> Apart A W ω j wj -> Apart A W (moment ω p.1 wp) j wj := by
     intro wj hu hqj hA
     obtain ⟨q1, q2⟩ := hqj hA
     refine ⟨q1, fun k hk hkj => ?_⟩
     by_cases hkp : k = p.1
     ·subst hkp
      rw [moment_self]
      have h9 := (hq hk).2 j hA (Ne.symm hkj)
      rw [hu] at h9
      simp only [after, moment_self] at h9
      exact fun e => h9 e.symm
     ·rw [moment_ne _ _ hkp]; exact q2 k hk hkj
    have := grow_take hsj hj0 pre (a.put p.2.dst vp) (moment ω p.1 wp) hp' (by rw [moment_ne _ _ (Ne.symm hne)]; exact hjW) (keep vp _ (fun w' h => h.moment hx wp) akeep) (h.2 vp wp hr (gback wp hg) (aback wp hq))
    rw [e3] at this
    cases u with
    | none => exact this
    | some wu => simp only [after] at this ⊢; rwa [moment_comm _ hne] at this
  ·simp only [hwp, if_false] at h ⊢
   have := grow_take hsj hj0 pre (a.put p.2.dst undef) ω hp' hjW (keep undef ω (fun _ h => h) (fun _ _ h => h)) h
   rwa [e3] at this
/-! ### what is asked of the region -/
def waits (md : Region.Mode) (ops : Array Oper) (X : Nat -> Nat -> Bool) (j k : Nat) : Bool :=
 match ops[j]? with
 | some oj => oj.after.any fun e => Region.binds md e && (e.on == k || X e.on k)
 | none => false
def pureOp (o : Oper) : Bool := match o.op with | .move _ => true | .extract _ _ => true | _ => false
def apartB (ops : Array Oper) (i j : Nat) : Bool :=
 match ops[i]?, ops[j]? with
 | some oi, some oj => oi.apart ops oj
 | _, _ => true
def maskX (ms : Array Nat) (j k : Nat) : Bool := decide (k < j) && decide (j < ms.size) && (ms.getD j 0).testBit k
def growB (md : Region.Mode) (ops : Array Oper) (X : Nat -> Nat -> Bool) (n : Nat) (late : List Nat) : Bool :=
 Region.noSelect ops && decide (n <= ops.size) &&
 (List.range ops.size).all (fun j => match ops[j]? with | some oj => oj.after.all fun e => !Region.binds md e || decide (e.on < j) | none => true) &&
 (List.range ops.size).all (fun j => (List.range j).all fun k => !X j k || waits md ops X j k) &&
 (List.range n).all (fun j => (List.range j).all fun i => X j i || apartB ops i j) &&
 (List.range ops.size).all (fun t => decide (t < n) || (List.range n).all fun i => late.contains i || X t i) &&
 late.all (fun i => decide (i < n) && (match ops[i]? with | some oi => pureOp oi | none => false) && (List.range ops.size).all fun j => j == i || X i j || Region.waitsFor md ops j i || apartB ops i j) &&
 Region.seqB md ops (ops.size - n) n ((Array.range ops.size).map fun t => decide (t < n))
structure GrowChk (md : Region.Mode) (ops : Array Oper) (X : Nat -> Nat -> Bool) (n : Nat) (late : List Nat) : Prop where
 sel : ∀ (j : Nat) (o : Oper) cs b, ops[j]? = some o -> o.op ≠ .select cs b
 fits : n <= ops.size
 back : ∀ j oj, ops[j]? = some oj -> ∀ e ∈ oj.after, Region.binds md e = true -> e.on < j
 why : ∀ j k, X j k = true -> ∃ oj, ops[j]? = some oj /\ ∃ e ∈ oj.after, Region.binds md e = true /\ (e.on = k \/ X e.on k = true)
 lt : ∀ j k, X j k = true -> k < j
 apart : ∀ i j oi oj, i < j -> j < n -> ops[i]? = some oi -> ops[j]? = some oj -> X j i = false -> oi.apart ops oj = true
 tail : ∀ t i, n <= t -> t < ops.size -> i < n -> i ∉ late -> X t i = true
 latePure : ∀ i ∈ late, ∃ oi, ops[i]? = some oi /\ pureOp oi = true /\ ∀ j oj, j ≠ i -> X i j = false -> ops[j]? = some oj -> (∀ e ∈ oj.after, Region.binds md e = true -> e.on ≠ i) -> oi.apart ops oj = true
 seq : Region.seqB md ops (ops.size - n) n ((Array.range ops.size).map fun t => decide (t < n)) = true
theorem growChk {ms : Array Nat} {n : Nat} {late : List Nat} (hms : ms.size = ops.size) (h : growB md ops (maskX ms) n late = true) : GrowChk md ops (maskX ms) n late := by
 simp only [growB, Bool.and_eq_true, List.all_eq_true, List.mem_range, decide_eq_true_eq, Bool.or_eq_true, beq_iff_eq] at h
 obtain ⟨⟨⟨⟨⟨⟨⟨h1, h2⟩, h3⟩, h4⟩, h5⟩, h6⟩, h7⟩, h8⟩ := h
 have hlt : ∀ j k, maskX ms j k = true -> k < j /\ j < ops.size := fun j k hx => by
  simp only [maskX, Bool.and_eq_true, decide_eq_true_eq] at hx
  exact ⟨hx.1.1, by rw [<- hms]; exact hx.1.2⟩
 have size : ∀ {j : Nat} {oj : Oper}, ops[j]? = some oj -> j < ops.size := fun hj => (Array.getElem?_eq_some_iff.1 hj).1
 refine ⟨Region.noSelect_spec h1, h2, ?_, ?_, fun j k hx => (hlt j k hx).1, ?_, ?_, ?_, h8⟩
 ·intro j oj hj e he hb
  have := h3 j (size hj)
  simp only [hj, Array.all_eq_true_iff_forall_mem, Bool.or_eq_true, decide_eq_true_eq, Bool.not_eq_true'] at this
  rcases this e he with h | h
  ·rw [hb] at h; cases h
  ·exact h
 ·intro j k hx
  obtain ⟨l1, l2⟩ := hlt j k hx
  have := h4 j l2 k l1
  rw [hx] at this
  simp only [Bool.not_true, Bool.false_eq_true, false_or] at this
  unfold waits at this
  split at this
  ·rename_i oj hj
   obtain ⟨e, he, hb⟩ := Array.any_eq_true'.1 this
   simp only [Bool.and_eq_true, Bool.or_eq_true, beq_iff_eq] at hb
   exact ⟨oj, hj, e, he, hb.1, hb.2⟩
  ·cases this
 ·intro i j oi oj hij hjn hi hj hx
  have := h5 j hjn i hij
  rw [hx] at this
  simpa [apartB, hi, hj] using this
 ·intro t i ht1 ht2 hi hl
  rcases h6 t ht2 with h | h
  ·omega
  ·rcases h i hi with h | h
   ·exact absurd (by simpa using h) hl
   ·exact h
 ·intro i hi
  obtain ⟨⟨l1, l2⟩, l3⟩ := h7 i hi
  cases ho : ops[i]? with
  | none => rw [ho] at l2; cases l2
  | some oi =>
   rw [ho] at l2
   refine ⟨oi, rfl, l2, fun j oj hne hx hj hno => ?_⟩
   rcases l3 j (size hj) with ((h | h) | h) | h
   ·exact absurd h hne
   ·rw [hx] at h; cases h
   ·obtain ⟨oj', hj', e, he, hb, hon⟩ := Region.waitsFor_spec h
    cases hj.symm.trans hj'
    exact absurd hon (hno e he hb)
   ·simpa [apartB, ho, hj] using h
theorem pure_run {o : Oper} (hp : pureOp o = true) {ρ : Operand -> Value} {w : World} {v : Value} (h : sameUpon w v ((execOp ρ o).run P w)) (w' : World) : (execOp ρ o).run P w' = .ok (.value v) w' := by
 unfold pureOp at hp
 split at hp
 ·rename_i x hx
  have e : ∀ w, (execOp ρ o).run P w = .ok (.value (ρ x)) w := fun w => by unfold execOp; rw [hx]; rfl
  rw [e] at h ⊢
  rw [h.2]
 ·rename_i t ix hx
  cases ht : ρ t with
  | tuple vs =>
   cases hu : vs[ix]? with
   | some u =>
    have e : ∀ w, (execOp ρ o).run P w = .ok (.value u) w := fun w => by simp [execOp, hx, Instr.extract, ht, hu, go_sem]
    rw [e] at h ⊢
    rw [h.2]
   | none => exfalso; simp [execOp, hx, Instr.extract, ht, hu, go_sem, sameUpon] at h
  | _ => exfalso; simp [execOp, hx, Instr.extract, ht, go_sem, sameUpon] at h
 ·cases hp
/-! ### every order -/
theorem listed_of_X {X : Nat -> Nat -> Bool} {n : Nat} {late : List Nat} (c : GrowChk md ops X n late) {listed : Array Bool} (hcl : ∀ j oj, ops[j]? = some oj -> listed.getD j false = true -> ∀ e ∈ oj.after, Region.binds md e = true -> listed.getD e.on false = true) :
  ∀ (j : Nat), (∀ oj, ops[j]? = some oj -> ∀ e ∈ oj.after, Region.binds md e = true -> listed.getD e.on false = true) -> ∀ k, X j k = true -> listed.getD k false = true := by
 intro j
 induction j using Nat.strongRecOn with
 | _ j ih =>
  intro hj k hx
  obtain ⟨oj, hoj, e, he, hb, hon⟩ := c.why j k hx
  have h1 := hj oj hoj e he hb
  rcases hon with rfl | hon
  ·exact h1
  ·exact ih e.on (c.back j oj hoj e he hb) (fun o ho => hcl e.on o ho h1) k hon
theorem wpOp_of_left {j : Nat} {oj : Oper} {w : World} {a : Act} {ω : Nat -> World} {K : Act -> World -> Prop} {Q' : Exit -> Act -> World -> Prop} {X : Nat -> Nat -> Bool} {W : World} {S : Nat -> Option (Value -> World -> Prop)} (hoj : ops[j]? = some oj) (hg : GrowAt X W ω j w) (hωw : ∀ k, Kept (fun _ => False) (ω k) w)
  (hnow : Region.wanted oj (yielded ops a.tmps) = true -> match S j with | none => ∃ v, sameUpon w v ((execOp a.eval oj).run P w) | some R => growUpon P (fun v w' => R v w' /\ (A j = true -> w.heap.size < w'.heap.size)) w ((execOp a.eval oj).run P w))
  (hK : ∀ v u w', Left P A ops X W S j oj w a ω v u -> Kept (fun _ => False) w w' -> (∀ x, u = some x -> x = w') -> K (a.put oj.dst v) w') : wpOp P ops Q' j K a w := by
 unfold wpOp
 simp only [hoj]
 split
 ·rename_i hw
  have h := hnow hw
  refine .inl ?_
  unfold Oper.wp
  cases hS : S j with
  | none =>
   simp only [hS] at h
   obtain ⟨v, hv⟩ := h
   have hk := hK v none w (.inr (.inl ⟨hw, hS, hv, rfl⟩)) (Kept.refl _ _) (fun x h => by cases h)
   generalize (execOp a.eval oj).run P w = r at hv hk
   cases r with
   | ok m w' =>
    cases m <;> simp only [sameUpon] at hv <;> simp only [Oper.upon]
    case value u => obtain ⟨rfl, rfl⟩ := hv; exact hk
    case skip => obtain ⟨rfl, rfl⟩ := hv; exact hk
   | halt x w' => cases hv
  | some R =>
   simp only [hS] at h
   have hk : ∀ v w', (R v w' /\ (A j = true -> w.heap.size < w'.heap.size)) -> Kept (fun _ => False) w w' -> K (a.put oj.dst v) w' := fun v w' hr hkk => hK v (some w') w' (.inr (.inr ⟨hw, R, w', hS, hr.1, hg.kept hkk, fun hA => ⟨Nat.lt_of_le_of_lt hg.old.size (hr.2 hA), fun k _ _ => Nat.ne_of_lt (Nat.lt_of_le_of_lt (hωw k).size (hr.2 hA))⟩, rfl⟩)) hkk (fun x h => by cases h; rfl)
   generalize (execOp a.eval oj).run P w = r at h
   cases r with
   | ok m w' =>
    cases m <;> simp only [growUpon] at h <;> simp only [Oper.upon]
    case value u => exact hk _ _ h.2 h.1
    case skip => exact hk _ _ h.2 h.1
    case enter g args =>
     obtain ⟨rfl, hc⟩ := h
     exact hc.mono fun e w'' ⟨v, he, hkk, hr⟩ => by subst he; exact hk _ _ hr hkk
   | halt x w' => cases h
 ·rename_i hw
  exact hK undef none w (.inl ⟨by simpa using hw, rfl, rfl⟩) (Kept.refl _ _) (fun x h => by cases h)
theorem grow_any {X : Nat -> Nat -> Bool} {W : World} {S : Nat -> Option (Value -> World -> Prop)} {Q : Act -> (Nat -> World) -> Prop} {Q' : Exit -> Act -> World -> Prop} {n : Nat} {late : List Nat} (c : GrowChk md ops X n late) (hlate : ∀ i ∈ late, S i = none) (hQ : ∀ d v c a w, Q' (.panic c) (Act.put a d v) w -> Q' (.panic c) a w)
  (hT : ∀ a ω w, Kept (fun _ => False) W w -> (∀ k, Kept (fun _ => False) (ω k) w) -> Q a ω -> wpList P ops Q' (ops.toList.drop n) a w) :
  ∀ (m : Nat) (res : List (Nat × Oper)) (listed : Array Bool) (a : Act) (ω : Nat -> World) (w : World), res.length = m -> listed.size = ops.size ->
   (∀ j oj, ops[j]? = some oj -> listed.getD j false = true -> ∀ e ∈ oj.after, Region.binds md e = true -> listed.getD e.on false = true) ->
   (∀ p ∈ res, ops[p.1]? = some p.2 /\ p.1 < n /\ listed.getD p.1 true = false) -> (∀ i o, ops[i]? = some o -> i < n -> listed.getD i true = false -> (i, o) ∈ res) ->
   (∀ t, n <= t -> t < ops.size -> listed.getD t true = false) -> res.Pairwise (fun p q => p.1 < q.1) ->
   Kept (fun _ => False) W w -> (∀ k, Kept (fun _ => False) (ω k) w) -> (∀ p ∈ res, ω p.1 = W) -> wpGrow P A ops X W S Q res a ω -> wpAny P md ops Q' (m + (ops.size - n)) listed a w := by
 intro m
 induction m with
 | zero =>
  intro res listed a ω w hm hsz hcl hin hun htl hord hW hω hst h
  have hr : res = [] := List.eq_nil_of_length_eq_zero hm
  subst hr
  have hl : listed = (Array.range ops.size).map fun t => decide (t < n) := by
   refine Array.ext (by simp [hsz]) (fun i h1 h2 => ?_)
   have hi : i < ops.size := by rw [<- hsz]; exact h1
   simp only [Array.getElem_map, Array.getElem_range]
   by_cases hin' : i < n
   ·have : listed.getD i true ≠ false := fun hf => by have := hun i _ (Array.getElem?_eq_getElem hi) hin' hf; cases this
    simp [h1] at this
    simp [hin', this]
   ·have := htl i (by omega) hi
    simp [h1] at this
    simp [hin', this]
  have h1 := wpAny_of_seq (md := md) (Q' := Q') (P := P) (ops.toList.drop n) n listed a w (fun j => by simp [List.getElem?_drop]) (by rw [List.length_drop, Array.length_toList, hl]; exact c.seq) (hT a ω w hW hω h)
  rw [List.length_drop, Array.length_toList] at h1
  rwa [Nat.zero_add]
 | succ m ih =>
  intro res listed a ω w hm hsz hcl hin hun htl hord hW hω hst h
  obtain ⟨p0, rest, rfl⟩ : ∃ p r, res = p :: r := by cases res with | nil => cases hm | cons p r => exact ⟨p, r, rfl⟩
  have hp0 := hin p0 List.mem_cons_self
  have un : ∀ {i : Nat}, i < ops.size -> listed.getD i true ≠ false -> listed.getD i false = true := by
   intro i hi hne
   have : i < listed.size := by rw [hsz]; exact hi
   simp [this] at hne ⊢; exact hne
  have hready0 : p0.1 ∈ Region.ready md ops listed := by
   refine mem_ready.2 ⟨hp0.2.2, p0.2, hp0.1, fun e he hb => ?_⟩
   have hlt := c.back _ _ hp0.1 e he hb
   have hes : e.on < ops.size := Nat.lt_trans hlt (Array.getElem?_eq_some_iff.1 hp0.1).1
   refine un hes (fun hf => ?_)
   have hmem := hun e.on _ (Array.getElem?_eq_getElem hes) (by omega) hf
   rcases List.mem_cons.1 hmem with h1 | h1
   ·rw [<- h1] at hlt; exact Nat.lt_irrefl _ hlt
   ·have := (List.pairwise_cons.1 hord).1 _ h1; simp only at this; omega
  rw [show m + 1 + (ops.size - n) = (m + (ops.size - n)) + 1 by omega]
  -- the next state
  have next : ∀ (pre post : List (Nat × Oper)) (j : Nat) (oj : Oper), p0 :: rest = pre ++ (j, oj) :: post -> j ∈ Region.ready md ops listed ->
    (pre ++ post).length = m /\ (listed.setIfInBounds j true).size = ops.size /\
    (∀ i oi, ops[i]? = some oi -> (listed.setIfInBounds j true).getD i false = true -> ∀ e ∈ oi.after, Region.binds md e = true -> (listed.setIfInBounds j true).getD e.on false = true) /\
    (∀ p ∈ pre ++ post, ops[p.1]? = some p.2 /\ p.1 < n /\ (listed.setIfInBounds j true).getD p.1 true = false) /\ (∀ i o, ops[i]? = some o -> i < n -> (listed.setIfInBounds j true).getD i true = false -> (i, o) ∈ pre ++ post) /\
    (∀ t, n <= t -> t < ops.size -> (listed.setIfInBounds j true).getD t true = false) /\ (pre ++ post).Pairwise (fun p q => p.1 < q.1) := by
   intro pre post j oj hsp hj
   rw [hsp] at hm hin hun hord
   have hjin := hin (j, oj) (List.mem_append_right _ List.mem_cons_self)
   obtain ⟨q1, q2, q3⟩ := List.pairwise_append.1 hord
   obtain ⟨q4, q5⟩ := List.pairwise_cons.1 q2
   have hne : ∀ p ∈ pre ++ post, p.1 ≠ j := by
    intro p hp
    rcases List.mem_append.1 hp with h1 | h1
    ·exact Nat.ne_of_lt (q3 p h1 (j, oj) List.mem_cons_self)
    ·exact Nat.ne_of_gt (q4 p h1)
   refine ⟨by simp only [List.length_append, List.length_cons] at hm ⊢; omega, by simpa using hsz, ?_, ?_, ?_, ?_, ?_⟩
   ·intro i oi hi hl e he hb
    by_cases hij : j = i
    ·subst hij
     obtain ⟨_, o', ho', hall⟩ := mem_ready.1 hj
     cases hi.symm.trans ho'
     exact getD_set_true (hall e he hb)
    ·rw [getD_set_ne false hij] at hl
     exact getD_set_true (hcl i oi hi hl e he hb)
   ·intro p hp
    have h1 := hin p (by rcases List.mem_append.1 hp with h | h; exact List.mem_append_left _ h; exact List.mem_append_right _ (List.mem_cons_of_mem _ h))
    exact ⟨h1.1, h1.2.1, by rw [getD_set_ne true (Ne.symm (hne p hp))]; exact h1.2.2⟩
   ·intro i o hi hin' hf
    have hij : j ≠ i := by
     rintro rfl
     have : j < listed.size := by rw [hsz]; exact (Array.getElem?_eq_some_iff.1 hi).1
     simp [this] at hf
    rw [getD_set_ne true hij] at hf
    rcases List.mem_append.1 (hun i o hi hin' hf) with h1 | h1
    ·exact List.mem_append_left _ h1
    ·rcases List.mem_cons.1 h1 with h2 | h2
     ·exact absurd (Prod.ext_iff.1 h2).1.symm hij
     ·exact List.mem_append_right _ h2
   ·intro t ht1 ht2
    rw [getD_set_ne true (by have := hjin.2.1; simp only at this; omega)]
    exact htl t ht1 ht2
   ·exact List.pairwise_append.2 ⟨q1, q5, fun x hx y hy => q3 x hx y (List.mem_cons_of_mem _ hy)⟩
  by_cases hall : ∀ p ∈ p0 :: rest, p.1 ∈ late
  ·-- only late ones are left
   obtain ⟨oi, hoi, hpure, hfree⟩ := c.latePure p0.1 (hall p0 List.mem_cons_self)
   cases hp0.1.symm.trans hoi
   obtain ⟨n1, n2, n3, n4, n5, n6, n7⟩ := next [] rest p0.1 p0.2 rfl hready0
   have hS := hlate p0.1 (hall p0 List.mem_cons_self)
   have notX : ∀ j, listed.getD j true = false -> X p0.1 j = false := by
    intro j hju
    cases hx : X p0.1 j with
    | false => rfl
    | true =>
     obtain ⟨_, o', ho', hall'⟩ := mem_ready.1 hready0
     have h1 := listed_of_X c hcl p0.1 (fun o ho e he hb => by cases ho'.symm.trans ho; exact hall' e he hb) j hx
     rw [getD_both hju] at h1; cases h1
   simp only [wpGrow, growOp] at h
   by_cases hw : Region.wanted p0.2 (yielded ops a.tmps) = true
   ·simp only [hw, if_true, hS] at h
    obtain ⟨v, h1, h2⟩ := h
    have hy : Yields P ops p0.2 v a := .inl ⟨hw, fun w' => pure_run hpure (h1 w (grown_of hW)) w'⟩
    exact wpAny_first hp0.1 c.sel (fun c a w => hQ _ _ c a w) _ listed a w (fun j oj hj hne hju hno => hfree j oj hne (notX j hju) hj hno) hready0 hy (ih rest _ _ ω w n1 n2 n3 n4 n5 n6 n7 hW hω (fun p hp => hst p (List.mem_cons_of_mem _ hp)) h2)
   ·simp only [hw, if_false] at h
    have hy : Yields P ops p0.2 undef a := .inr ⟨by simpa using hw, rfl⟩
    exact wpAny_first hp0.1 c.sel (fun c a w => hQ _ _ c a w) _ listed a w (fun j oj hj hne hju hno => hfree j oj hne (notX j hju) hj hno) hready0 hy (ih rest _ _ ω w n1 n2 n3 n4 n5 n6 n7 hW hω (fun p hp => hst p (List.mem_cons_of_mem _ hp)) h)
  ·refine ⟨fun h0 => (by rw [h0] at hready0; cases hready0), fun j hj => ?_⟩
   obtain ⟨hjun, oj, hoj, hjall⟩ := mem_ready.1 hj
   have hjs : j < ops.size := (Array.getElem?_eq_some_iff.1 hoj).1
   have seen : ∀ k, X j k = true -> listed.getD k false = true := listed_of_X c hcl j (fun o ho e he hb => by cases hoj.symm.trans ho; exact hjall e he hb)
   have unl : ∀ p ∈ p0 :: rest, X j p.1 = false := by
    intro p hp
    cases hx : X j p.1 with
    | false => rfl
    | true =>
     have h1 := seen _ hx
     have h2 := (hin p hp).2.2
     rw [getD_both h2] at h1; cases h1
   have hjn : j < n := by
    rcases Nat.lt_or_ge j n with h1 | h1
    ·exact h1
    ·exfalso
     apply hall
     intro p hp
     refine Decidable.byContradiction fun hnl => ?_
     have := c.tail j p.1 h1 hjs (hin p hp).2.1 hnl
     rw [unl p hp] at this; cases this
   obtain ⟨pre, post, hsp⟩ := List.append_of_mem (hun j oj hoj hjn hjun)
   obtain ⟨n1, n2, n3, n4, n5, n6, n7⟩ := next pre post j oj hsp hj
   rw [hsp] at h hord unl hin hst
   have hprelt : ∀ p ∈ pre, p.1 < j := fun p hp => (List.pairwise_append.1 hord).2.2 p hp (j, oj) List.mem_cons_self
   have hpre : ∀ p ∈ pre, p.2.apart ops oj = true /\ X j p.1 = false /\ X p.1 j = false /\ p.1 ≠ j /\ ∀ cs b, p.2.op ≠ .select cs b := by
    intro p hp
    have hpi := hin p (List.mem_append_left _ hp)
    have hx := unl p (List.mem_append_left _ hp)
    have hlt := hprelt p hp
    refine ⟨c.apart p.1 j p.2 oj hlt hjn hpi.1 hoj hx, hx, ?_, Nat.ne_of_lt hlt, fun cs b => c.sel p.1 p.2 cs b hpi.1⟩
    cases hx2 : X p.1 j with
    | false => rfl
    | true => have := c.lt _ _ hx2; omega
   have hg : GrowAt X W ω j w := ⟨hW, fun k _ => hω k⟩
   refine wpOp_of_left (A := A) (X := X) (S := S) hoj hg hω (grow_now (fun cs b => c.sel j oj cs b hoj) hW pre a ω w (fun p hp => ⟨(hpre p hp).1, (hpre p hp).2.1⟩) hg hW hω h) fun v u w' hl hk hu => ?_
   refine ih (pre ++ post) _ _ (after ω j u) w' n1 n2 n3 n4 n5 n6 n7 (hW.then hk) (fun k => ?_) (fun p hp => ?_) (grow_take (fun cs b => c.sel j oj cs b hoj) hW pre a ω hpre (hst (j, oj) (List.mem_append_right _ List.mem_cons_self)) hl h)
   ·cases u with
    | none => exact (hω k).then hk
    | some x =>
     simp only [after]
     by_cases hkj : k = j
     ·rw [hkj, moment_self, hu x rfl]; exact Kept.refl _ _
     ·rw [moment_ne _ _ hkj]; exact (hω k).then hk
   ·obtain ⟨q1, q2, q3⟩ := List.pairwise_append.1 hord
    obtain ⟨q4, q5⟩ := List.pairwise_cons.1 q2
    have hpj : p.1 ≠ j := by
     rcases List.mem_append.1 hp with h1 | h1
     ·exact Nat.ne_of_lt (q3 p h1 (j, oj) List.mem_cons_self)
     ·exact Nat.ne_of_gt (q4 p h1)
    have hpW := hst p (by rcases List.mem_append.1 hp with h1 | h1; exact List.mem_append_left _ h1; exact List.mem_append_right _ (List.mem_cons_of_mem _ h1))
    cases u with
    | none => exact hpW
    | some x => simp only [after]; rw [moment_ne _ _ hpj]; exact hpW
def number : Nat -> List Oper -> List (Nat × Oper)
 | _, [] => []
 | k, o :: l => (k, o) :: number (k + 1) l
theorem number_length : ∀ (k : Nat) (l : List Oper), (number k l).length = l.length
 | _, [] => rfl
 | k, o :: l => by simp [number, number_length (k + 1) l]
theorem mem_number : ∀ {k : Nat} {l : List Oper} {p : Nat × Oper}, p ∈ number k l ↔ k <= p.1 /\ l[p.1 - k]? = some p.2
 | k, [], p => by simp [number]
 | k, o :: l, p => by
  rw [number, List.mem_cons, mem_number]
  obtain ⟨i, q⟩ := p
  simp only [Prod.mk.injEq]
  constructor
  ·rintro (⟨rfl, rfl⟩ | ⟨h1, h2⟩)
   ·simp
   ·refine ⟨by omega, ?_⟩
    rw [show i - k = (i - (k + 1)) + 1 by omega, List.getElem?_cons_succ]; exact h2
  ·rintro ⟨h1, h2⟩
   by_cases hik : i = k
   ·subst hik; simp at h2; exact .inl ⟨rfl, h2.symm⟩
   ·refine .inr ⟨by omega, ?_⟩
    rw [show i - k = (i - (k + 1)) + 1 by omega, List.getElem?_cons_succ] at h2; exact h2
theorem number_sorted : ∀ (k : Nat) (l : List Oper), (number k l).Pairwise (fun p q => p.1 < q.1)
 | _, [] => List.Pairwise.nil
 | k, o :: l => by
  rw [number]
  refine List.pairwise_cons.2 ⟨fun p hp => ?_, number_sorted (k + 1) l⟩
  have := (mem_number.1 hp).1
  simp only; omega
theorem wp_region_grow (A : Nat -> Bool) {id : Nat} {Q' : Exit -> Act -> World -> Prop} {a : Act} {w : World} {l : List Oper} (ms : Array Nat) (n : Nat) (late : List Nat) (S : Nat -> Option (Value -> World -> Prop))
  (hm : P.follows .mixedOrders = true) (hms : ms.size = l.toArray.size) (hB : growB .any l.toArray (maskX ms) n late = true) (hlate : ∀ i ∈ late, S i = none) (hQ : ∀ t v c a w, Q' (.panic c) (Act.put a (some t) v) w -> Q' (.panic c) a w)
  (h : ∀ W, W = w.drew -> wpGrow P A l.toArray (maskX ms) W S (fun a' ω => ∀ w', Kept (fun _ => False) W w' -> (∀ k, Kept (fun _ => False) (ω k) w') -> wpList P l.toArray Q' (l.drop n) a' w') (number 0 (l.take n)) a (fun _ => W)) : (Code.region id l.toArray true).wp P Q' a w := by
 have c := growChk (md := .any) hms hB
 refine wp_region_any hm ?_
 have hn : n <= l.length := by simpa using c.fits
 have := grow_any (md := .any) (Q' := Q') c hlate (fun d v c a w h => by cases d with | none => exact h | some t => exact hQ t v c a w h) (W := w.drew) (fun a' ω w' h1 h2 h3 => h3 w' h1 h2) n (number 0 (l.take n)) (Array.replicate l.toArray.size false) a (fun _ => w.drew) w.drew (by rw [number_length]; simp; omega) (by simp)
  (fun j oj _ hl => by rw [getD_replicate_false] at hl; cases hl)
  (fun p hp => by
   obtain ⟨-, h2⟩ := mem_number.1 hp
   rw [Nat.sub_zero, List.getElem?_take] at h2
   split at h2
   ·rename_i hlt
    refine ⟨by simpa using h2, hlt, getD_in (by simp; omega) (getD_replicate_false _ _)⟩
   ·cases h2)
  (fun i o ho hi _ => mem_number.2 ⟨Nat.zero_le _, by rw [Nat.sub_zero, List.getElem?_take, if_pos hi]; simpa using ho⟩)
  (fun t _ ht => getD_in (by simpa using ht) (getD_replicate_false _ _)) (number_sorted _ _) (Kept.refl _ _) (fun _ => Kept.refl _ _) (fun _ _ => rfl) (h _ rfl)
 rw [show n + (l.toArray.size - n) = l.toArray.size by simp; omega] at this
 exact this
end
end Go.Proofs.YtmplpcmcbliadaaGreatDoor.A2
namespace Go.Proofs.YtmplpcmcbliadaaGreatDoor
open Go.RowKit Go.Sort Pl
def boxS (L : Int -> Int -> Int -> Int -> Rgb -> List Int -> List Int) (r w h : Int) (a : Look) (P : List Int) : List Int :=
 let F := (colors a).1
 let B := (colors a).2
 let P1 := if 32 < r then (let P0 := L (w / 4) (h / 4) ((w + 1) / 2) ((h + 1) / 2) F P; if 2 < (w + 1) / 2 /\ 2 < (h + 1) / 2 then L (w / 4 + r % ((w + 1) / 2)) (h / 4 + r / 256 % ((h + 1) / 2)) 1 1 B P0 else P0) else P
 let P2 := if hasB a.fl 8 = true then L 0 (h - 1) w 1 F P1 else P1
 if hasB a.fl 128 = true then L 0 (h / 2) w 1 F P2 else P2
def Sml (x : Int) : Prop := -65536 <= x /\ x <= 65536
def Lays (N : Nat) (caps : Array Value) (S : Nat -> Prop) (I : List Int -> World -> Prop) (L : Int -> Int -> Int -> Int -> Rgb -> List Int -> List Int) : Prop :=
 ∀ (x y bw bh : Int) (c : Rgb) (P : List Int) (w : World), Sml x -> Sml y -> Sml bw -> Sml bh -> I P w ->
  Calls Tryz.prog N (#[.int .i64 x, .int .i64 y, .int .i64 bw, .int .i64 bh, rgbaV c] ++ caps) w fun e w' => e = .returned (.tuple #[]) /\ I (L x y bw bh c P) w' /\ Kept S w w'
structure BoxI (S : Nat -> Prop) (I : List Int -> World -> Prop) (wd : World) (fg bg fl : Int) (q4 q5 : Nat) (F B : Rgb) (P : List Int) (wr : World) : Prop where
 i : I P wr
 k : Kept S wd wr
 a : wr.heap[wd.heap.size]? = some (.cells #[.int .i64 fg, .int .i64 bg, .int .i64 fl] 53 (0, 0))
 f : wr.heap[q4]? = some (.cells #[.int .u8 F.r, .int .u8 F.g, .int .u8 F.b, .int .u8 255] 43 (0, 0))
 b : wr.heap[q5]? = some (.cells #[.int .u8 B.r, .int .u8 B.g, .int .u8 B.b, .int .u8 255] 43 (0, 0))
 z : wd.heap.size <= q4 /\ wd.heap.size <= q5
theorem BoxI.lay {S : Nat -> Prop} {I : List Int -> World -> Prop} {wd : World} {fg bg fl : Int} {q4 q5 : Nat} {F B : Rgb} {P P' : List Int} {wr w2 : World} (h : BoxI S I wd fg bg fl q4 q5 F B P wr) (hS : ∀ i, S i -> i < wd.heap.size) (hi : I P' w2) (hk : Kept S wr w2) : BoxI S I wd fg bg fl q4 q5 F B P' w2 :=
 ⟨hi, h.k.then hk, hk.blk h.a (fun hs => Nat.lt_irrefl _ (hS _ hs)), hk.blk h.f (fun hs => absurd (hS _ hs) (Nat.not_lt.2 h.z.1)), hk.blk h.b (fun hs => absurd (hS _ hs) (Nat.not_lt.2 h.z.2)), h.z⟩
theorem BoxI.kept {S : Nat -> Prop} {I : List Int -> World -> Prop} {wd : World} {fg bg fl : Int} {q4 q5 : Nat} {F B : Rgb} {P : List Int} {wr w2 : World} (h : BoxI S I wd fg bg fl q4 q5 F B P wr) (hIk : ∀ P w w', I P w -> Kept (fun _ => False) w w' -> I P w') (hk : Kept (fun _ => False) wr w2) : BoxI S I wd fg bg fl q4 q5 F B P w2 :=
 ⟨hIk _ _ _ h.i hk, h.k.then (hk.mono fun _ _ h => h.elim), hk.blk h.a id, hk.blk h.f id, hk.blk h.b id, h.z⟩
end Go.Proofs.YtmplpcmcbliadaaGreatDoor
namespace Go.Proofs.YtmplpcmcbliadaaGreatDoor
open Go.RowKit Go.Sort
end Go.Proofs.YtmplpcmcbliadaaGreatDoor
namespace Go.Proofs.YtmplpcmcbliadaaGreatDoor
open Go.RowKit Go.Sort Pl
attribute [local go_sem] A2.growOp A2.growUpon A2.sameUpon
end Go.Proofs.YtmplpcmcbliadaaGreatDoor
namespace Go.Proofs.YtmplpcmcbliadaaGreatDoor
open Go.RowKit Go.Sort Pl
attribute [local go_sem] A2.growOp A2.growUpon A2.sameUpon
def layL (W H : Nat) (x y bw bh : Int) (c : Rgb) (P : List Int) : List Int := fillP W H x y bw bh c.r c.g c.b 255 (4 * (W * H)) P
def MatI (W H n m g : Nat) (P : List Int) (w : World) : Prop :=
 Own .u8 5 w (.slice (some ⟨g, 0, none⟩) n n) P /\ w.heap[m]? = some (.cells #[.int .i64 W, .int .i64 H, .slice (some ⟨g, 0, none⟩) n n] 38 (0, 0))
theorem MatI.kept {W H n m g : Nat} {P : List Int} {w w' : World} (h : MatI W H n m g P w) (hk : Kept (fun _ => False) w w') : MatI W H n m g P w' := ⟨h.1.kept hk (fun _ _ => id), hk.blk h.2 id⟩
end Go.Proofs.YtmplpcmcbliadaaGreatDoor
namespace Go.Proofs.YtmplpcmcbliadaaGreatDoor
open Go.RowKit Go.Sort Pl
def InR (W : Nat) (x y bw bh : Int) (j : Nat) : Prop := x <= ((j / 4 % W : Nat) : Int) /\ ((j / 4 % W : Nat) : Int) < x + bw /\ y <= ((j / 4 / W : Nat) : Int) /\ ((j / 4 / W : Nat) : Int) < y + bh
instance (W : Nat) (x y bw bh : Int) (j : Nat) : Decidable (InR W x y bw bh j) := inferInstanceAs (Decidable (_ /\ _))
theorem px_lt {W H j : Nat} (hj : j < 4 * (W * H)) : j / 4 % W < W /\ j / 4 / W < H := by
 have hW : 0 < W := Nat.pos_of_ne_zero (by rintro rfl; simp at hj)
 exact ⟨Nat.mod_lt _ hW, Nat.div_lt_of_lt_mul (by omega)⟩
theorem fillP_get {W H : Nat} {x y bw bh c0 c1 c2 c3 : Int} {n : Nat} {P : List Int} {j : Nat} (hn : n = 4 * (W * H)) (hj : j < n) : (fillP W H x y bw bh c0 c1 c2 c3 n P).getD j 0 = if InR W x y bw bh j then [c0, c1, c2, c3].getD (j % 4) 0 else P.getD j 0 := by
 subst hn
 obtain ⟨h1, h2⟩ := px_lt hj
 unfold fillP
 rw [tab_get hj]
 unfold paintF
 have hiff : Spot.inside (fspot W H x y bw bh) (j / 4) ↔ InR W x y bw bh j := by
  unfold InR Spot.inside fspot
  simp only
  obtain ⟨X, hX⟩ : ∃ X, j / 4 % W = X := ⟨_, rfl⟩
  obtain ⟨Y, hY⟩ : ∃ Y, j / 4 / W = Y := ⟨_, rfl⟩
  rw [hX] at h1
  rw [hY] at h2
  rw [hX, hY]
  omega
 by_cases h : InR W x y bw bh j
 ·rw [if_pos h, if_pos (hiff.2 h)]
 ·rw [if_neg h, if_neg (fun h2 => h (hiff.1 h2))]
theorem layL_get {W H : Nat} {x y bw bh : Int} {c : Rgb} {P : List Int} {j : Nat} (hj : j < 4 * (W * H)) : (layL W H x y bw bh c P).getD j 0 = if InR W x y bw bh j then [c.r, c.g, c.b, 255].getD (j % 4) 0 else P.getD j 0 := fillP_get rfl hj
theorem layL_len (W H : Nat) (x y bw bh : Int) (c : Rgb) (P : List Int) : (layL W H x y bw bh c P).length = 4 * (W * H) := fillP_length ..
structure Cl where
 r : Int
 k : Int
 a : Look
def Cl.val (c : Cl) : Value := .agg #[.int .i32 c.r, .int .i64 c.k, .int .i64 c.a.fg, .int .i64 c.a.bg, .int .i64 c.a.fl]
def Cl.vs (c : Cl) : List Value := [.int .i32 c.r, .int .i64 c.k, .int .i64 c.a.fg, .int .i64 c.a.bg, .int .i64 c.a.fl]
def Cl.cs (c : Cl) : Array Value := #[.int .i32 c.r, .int .i64 c.k, .int .i64 c.a.fg, .int .i64 c.a.bg, .int .i64 c.a.fl]
def cl0 : Cl := ⟨0, 0, ⟨0, 0, 0⟩⟩
def LineAt (B : Nat) (w : World) (a : Option Addr) (n : Nat) (l : List Cl) : Prop := l.length = n /\ (n = 0 \/ ∃ b off, a = some ⟨b, off, none⟩ /\ b < B /\ ∀ j c, l[j]? = some c -> ∀ f, f < 5 -> w.cell? ⟨b, off + j * 5 + f, none⟩ = c.vs[f]?)
def LinesAt (B : Nat) (w : World) (a : Option Addr) (n : Nat) (ls : List (List Cl)) : Prop := ls.length = n /\ (n = 0 \/ ∃ b off, a = some ⟨b, off, none⟩ /\ b < B /\ ∀ j l, ls[j]? = some l -> ∃ a' n' c', w.cell? ⟨b, off + j, none⟩ = some (.slice a' n' c') /\ LineAt B w a' n' l)
theorem LineAt.kept {B : Nat} {S : Nat -> Prop} {w w' : World} {a : Option Addr} {n : Nat} {l : List Cl} (h : LineAt B w a n l) (hk : Kept S w w') (hS : ∀ i, S i -> B <= i) : LineAt B w' a n l := by
 obtain ⟨h1, h2⟩ := h
 refine ⟨h1, h2.imp (fun h => h) fun ⟨b, off, ha, hb, hc⟩ => ⟨b, off, ha, hb, fun j c hj f hf => ?_⟩⟩
 have hv : c.vs[f]? = some (c.vs[f]'(by show f < 5; exact hf)) := List.getElem?_eq_getElem _
 rw [hv]
 exact hk.cell ((hc j c hj f hf).trans hv) (fun hs => absurd (hS b hs) (Nat.not_le.2 hb))
theorem LinesAt.kept {B : Nat} {S : Nat -> Prop} {w w' : World} {a : Option Addr} {n : Nat} {ls : List (List Cl)} (h : LinesAt B w a n ls) (hk : Kept S w w') (hS : ∀ i, S i -> B <= i) : LinesAt B w' a n ls := by
 obtain ⟨h1, h2⟩ := h
 refine ⟨h1, h2.imp (fun h => h) fun ⟨b, off, ha, hb, hc⟩ => ⟨b, off, ha, hb, fun j l hj => ?_⟩⟩
 obtain ⟨a', n', c', hcell, hl⟩ := hc j l hj
 exact ⟨a', n', c', hk.cell hcell (fun hs => absurd (hS b hs) (Nat.not_le.2 hb)), hl.kept hk hS⟩
theorem LinesAt.nil (B : Nat) (w : World) (a : Option Addr) : LinesAt B w a 0 [] := ⟨rfl, .inl rfl⟩
structure Sc where
 rows : Nat
 cols : Nat
 cw : Nat
 ch : Nat
 la : Option Addr
 ln : Nat
 lc : Nat
 pa : Option Addr
 pn : Nat
 pc : Nat
 im : Option Nat
 top : Int
 cur : Bool
 row : Int
 col : Int
def Sc.val (s : Sc) : Value := .agg #[.int .i64 s.rows, .int .i64 s.cols, .int .i64 s.cw, .int .i64 s.ch, .slice s.la s.ln s.lc, .slice s.pa s.pn s.pc, .map s.im, .int .i64 s.top, .bool s.cur, .int .i64 s.row, .int .i64 s.col]
def Sc.cs (s : Sc) : Array Value := #[.int .i64 s.rows, .int .i64 s.cols, .int .i64 s.cw, .int .i64 s.ch, .slice s.la s.ln s.lc, .slice s.pa s.pn s.pc, .map s.im, .int .i64 s.top, .bool s.cur, .int .i64 s.row, .int .i64 s.col]
theorem blk11 {w : World} {b : Nat} {x0 x1 x2 x3 x4 x5 x6 x7 x8 x9 x10 : Value} {t : TypeId} (h : w.heap[b]? = some (.cells #[x0, x1, x2, x3, x4, x5, x6, x7, x8, x9, x10] t (0, 0))) :
  w.cell? ⟨b, 0, none⟩ = some x0 /\ w.cell? ⟨b, 1, none⟩ = some x1 /\ w.cell? ⟨b, 2, none⟩ = some x2 /\ w.cell? ⟨b, 3, none⟩ = some x3 /\ w.cell? ⟨b, 4, none⟩ = some x4 /\ w.cell? ⟨b, 5, none⟩ = some x5 /\ w.cell? ⟨b, 6, none⟩ = some x6 /\ w.cell? ⟨b, 7, none⟩ = some x7 /\ w.cell? ⟨b, 8, none⟩ = some x8 /\ w.cell? ⟨b, 9, none⟩ = some x9 /\ w.cell? ⟨b, 10, none⟩ = some x10 :=
 ⟨blk_cell h 0, blk_cell h 1, blk_cell h 2, blk_cell h 3, blk_cell h 4, blk_cell h 5, blk_cell h 6, blk_cell h 7, blk_cell h 8, blk_cell h 9, blk_cell h 10⟩
theorem blk5 {w : World} {b : Nat} {x y z u v : Value} {t : TypeId} (h : w.heap[b]? = some (.cells #[x, y, z, u, v] t (0, 0))) :
  w.cell? ⟨b, 0, none⟩ = some x /\ w.cell? ⟨b, 1, none⟩ = some y /\ w.cell? ⟨b, 2, none⟩ = some z /\ w.cell? ⟨b, 3, none⟩ = some u /\ w.cell? ⟨b, 4, none⟩ = some v :=
 ⟨blk_cell h 0, blk_cell h 1, blk_cell h 2, blk_cell h 3, blk_cell h 4⟩
theorem store5 {w : World} {p : Nat} {x' y' z' u' v' : Value} {T : TypeId} (h : w.heap[p]? = some (.cells #[x', y', z', u', v'] T (0, 0))) (x y z u v : Value) :
  ∃ V1 V2 V3 V4 V5, w.setCell ⟨p, 0, none⟩ x = V1 /\ V1.setCell ⟨p, 1, none⟩ y = V2 /\ V2.setCell ⟨p, 2, none⟩ z = V3 /\ V3.setCell ⟨p, 3, none⟩ u = V4 /\ V4.setCell ⟨p, 4, none⟩ v = V5 /\ (w.cell? ⟨p, 0, none⟩ = some x' /\ w.frozen? ⟨p, 0, none⟩ = false) /\ (V1.cell? ⟨p, 1, none⟩ = some y' /\ V1.frozen? ⟨p, 1, none⟩ = false) /\
   (V2.cell? ⟨p, 2, none⟩ = some z' /\ V2.frozen? ⟨p, 2, none⟩ = false) /\ (V3.cell? ⟨p, 3, none⟩ = some u' /\ V3.frozen? ⟨p, 3, none⟩ = false) /\ (V4.cell? ⟨p, 4, none⟩ = some v' /\ V4.frozen? ⟨p, 4, none⟩ = false) /\ V5.heap[p]? = some (.cells #[x, y, z, u, v] T (0, 0)) /\ Kept (· = p) w V5 := by
 have h1 := blk_set h 0 x
 have h2 := blk_set h1 1 y
 have h3 := blk_set h2 2 z
 have h4 := blk_set h3 3 u
 have h5 := blk_set h4 4 v
 exact ⟨_, _, _, _, _, rfl, rfl, rfl, rfl, rfl, ⟨blk_cell h 0, blk_free h 0⟩, ⟨blk_cell h1 1, blk_free h1 1⟩, ⟨blk_cell h2 2, blk_free h2 2⟩, ⟨blk_cell h3 3, blk_free h3 3⟩, ⟨blk_cell h4 4, blk_free h4 4⟩, h5, (((((Kept.refl (fun i => i = p) w).setCell (p := ⟨p, 0, none⟩) (.inl rfl) x).setCell (p := ⟨p, 1, none⟩) (.inl rfl) y).setCell (p := ⟨p, 2, none⟩) (.inl rfl) z).setCell (p := ⟨p, 3, none⟩) (.inl rfl) u).setCell (p := ⟨p, 4, none⟩) (.inl rfl) v⟩
def cellS (ls : List (List Cl)) (row col : Nat) : Cl := ((ls[row]?.getD [])[col]?).getD cl0
set_option maxRecDepth 100000 in
set_option maxHeartbeats 8000000 in
theorem cell_any (B : Nat) (s : Sc) (ls : List (List Cl)) (row col : Nat) (w : World) (hl : LinesAt B w s.la s.ln ls) (hlen : s.ln <= 9223372036854775807) (hr : row <= 1000000) (hc : col <= 1000000) :
  Calls Tryz.prog 541 #[s.val, .int .i64 row, .int .i64 col] w fun e w' => e = .returned (cellS ls row col).val /\ Kept (fun _ => False) w w' := by
 obtain ⟨rows, cols, cw, ch, la, ln, lc, pa, pn, pc, im, top, cur, srow, scol⟩ := s
 unfold Sc.val
 simp only at hl hlen ⊢
 obtain ⟨V, hV⟩ : ∃ V, (w.alloc (.cells #[.int .i64 rows, .int .i64 cols, .int .i64 cw, .int .i64 ch, .slice la ln lc, .slice pa pn pc, .map im, .int .i64 top, .bool cur, .int .i64 srow, .int .i64 scol] 107)).alloc (.cells #[.int .i32 0, .int .i64 0, .int .i64 0, .int .i64 0, .int .i64 0] 70) = V := ⟨_, rfl⟩
 have kV : Kept (fun _ => False) w V := by rw [<- hV]; exact ((Kept.refl _ _).alloc _).alloc _
 have b0 : V.heap[w.heap.size]? = some (.cells #[.int .i64 rows, .int .i64 cols, .int .i64 cw, .int .i64 ch, .slice la ln lc, .slice pa pn pc, .map im, .int .i64 top, .bool cur, .int .i64 srow, .int .i64 scol] 107 (0, 0)) := by rw [<- hV]; exact blk_alloc (blk_new _ _) _
 have b1 : V.heap[w.heap.size + 1]? = some (.cells #[.int .i32 0, .int .i64 0, .int .i64 0, .int .i64 0, .int .i64 0] 70 (0, 0)) := by rw [<- hV]; exact blk_at _ _ (by simp)
 obtain ⟨-, -, -, -, x4, -⟩ := blk11 b0
 have hlV := hl.kept kV (fun _ h => h.elim)
 have HK := Lib.hid kV
 have hll := hl.1
 by_cases h1 : row < ln
 ·have g1 : decide (ln <= row) = false := decide_eq_false (by omega)
  have g1' : decide ((ln : Int) <= (row : Int)) = false := decide_eq_false (by omega)
  have r0 : (0 : Int) <= (row : Int) := by omega
  have r1 : (row : Int) < (ln : Int) := by omega
  obtain ⟨l, hlr⟩ : ∃ l, ls[row]? = some l := ⟨_, List.getElem?_eq_getElem (by omega)⟩
  obtain ⟨b, off, rfl, hb, hc'⟩ := hlV.2.resolve_left (by omega)
  obtain ⟨a', n', c', hcell, hline⟩ := hc' row l hlr
  have hn' := hline.1
  by_cases h2 : col < n'
  ·have g2 : decide (n' <= col) = false := decide_eq_false (by omega)
   have g2' : decide ((n' : Int) <= (col : Int)) = false := decide_eq_false (by omega)
   obtain ⟨c, hcc⟩ : ∃ c, l[col]? = some c := ⟨_, List.getElem?_eq_getElem (by omega)⟩
   obtain ⟨b2, off2, rfl, hb2, hcells⟩ := hline.2.resolve_left (by omega)
   have y0 := hcells col c hcc 0 (by omega)
   have y1 := hcells col c hcc 1 (by omega)
   have y2 := hcells col c hcc 2 (by omega)
   have y3 := hcells col c hcc 3 (by omega)
   have y4 := hcells col c hcc 4 (by omega)
   rw [Nat.add_zero] at y0
   have hS : cellS ls row col = c := by unfold cellS; rw [hlr]; simp [hcc]
   rw [hS]
   obtain ⟨cr, ck, cfg, cbg, cfl⟩ := c
   unfold Cl.val
   unfold Cl.vs at y0 y1 y2 y3 y4
   simp only [List.getElem?_cons_zero, List.getElem?_cons_succ] at y0 y1 y2 y3 y4 ⊢
   obtain ⟨V1, V2, V3, V4, V5, f1, f2, f3, f4, f5, ⟨z0, z0'⟩, ⟨z1, z1'⟩, ⟨z2, z2'⟩, ⟨z3, z3'⟩, ⟨z4, z4'⟩, bU, kU⟩ := store5 b1 (.int .i32 cr) (.int .i64 ck) (.int .i64 cfg) (.int .i64 cbg) (.int .i64 cfl)
   obtain ⟨m0, m1, m2, m3, m4⟩ := blk5 bU
   have HE := Lib.hid (kV.trans (kU.mono fun i _ hi => Or.inr (by have h9 : i = w.heap.size + 1 := hi; omega)))
   clear hS hcells hc' hlV hl hline hcc hlr kV hll b0 b1 hb hb2 hn' hlen hr hc bU kU
   go_enter Tryz.func541, Tryz.ntmps541
   go_wp2
   exact bodyPost_ret (v := .agg #[.int .i32 cr, .int .i64 ck, .int .i64 cfg, .int .i64 cbg, .int .i64 cfl]) (by simp [results, Tryz.results541, go_sem, m0, m1, m2, m3, m4]) rfl ⟨rfl, HE.out⟩
  ·have g2 : decide (n' <= col) = true := decide_eq_true (by omega)
   have g2' : decide ((n' : Int) <= (col : Int)) = true := decide_eq_true (by omega)
   have hS : cellS ls row col = cl0 := by unfold cellS; rw [hlr]; simp [List.getElem?_eq_none (show l.length <= col by omega)]
   rw [hS]
   obtain ⟨V1, V2, V3, V4, V5, f1, f2, f3, f4, f5, ⟨z0, z0'⟩, ⟨z1, z1'⟩, ⟨z2, z2'⟩, ⟨z3, z3'⟩, ⟨z4, z4'⟩, bU, kU⟩ := store5 b1 (.int .i32 0) (.int .i64 0) (.int .i64 0) (.int .i64 0) (.int .i64 0)
   obtain ⟨m0, m1, m2, m3, m4⟩ := blk5 bU
   have HE := Lib.hid (kV.trans (kU.mono fun i _ hi => Or.inr (by have h9 : i = w.heap.size + 1 := hi; omega)))
   clear hS hc' hlV hl hline hlr h2 kV hll b0 b1 hb hn' hlen hr hc bU kU
   go_enter Tryz.func541, Tryz.ntmps541
   go_wp2
   exact bodyPost_ret (v := .agg #[.int .i32 0, .int .i64 0, .int .i64 0, .int .i64 0, .int .i64 0]) (by simp [results, Tryz.results541, go_sem, m0, m1, m2, m3, m4]) rfl ⟨rfl, HE.out⟩
 ·have g1 : decide (ln <= row) = true := decide_eq_true (by omega)
  have g1' : decide ((ln : Int) <= (row : Int)) = true := decide_eq_true (by omega)
  have hS : cellS ls row col = cl0 := by unfold cellS; rw [List.getElem?_eq_none (show ls.length <= row by omega)]; rfl
  rw [hS]
  obtain ⟨V1, V2, V3, V4, V5, f1, f2, f3, f4, f5, ⟨z0, z0'⟩, ⟨z1, z1'⟩, ⟨z2, z2'⟩, ⟨z3, z3'⟩, ⟨z4, z4'⟩, bU, kU⟩ := store5 b1 (.int .i32 0) (.int .i64 0) (.int .i64 0) (.int .i64 0) (.int .i64 0)
  obtain ⟨m0, m1, m2, m3, m4⟩ := blk5 bU
  have HE := Lib.hid (kV.trans (kU.mono fun i _ hi => Or.inr (by have h9 : i = w.heap.size + 1 := hi; omega)))
  clear hS hlV hl h1 kV hll b0 b1 hlen hr hc bU kU
  go_enter Tryz.func541, Tryz.ntmps541
  go_wp2
  exact bodyPost_ret (v := .agg #[.int .i32 0, .int .i64 0, .int .i64 0, .int .i64 0, .int .i64 0]) (by simp [results, Tryz.results541, go_sem, m0, m1, m2, m3, m4]) rfl ⟨rfl, HE.out⟩
def rowF (step : Nat -> Nat -> List Int -> List Int) (row : Nat) : Nat -> List Int -> List Int
 | 0, P => P
 | k + 1, P => step row k (rowF step row k P)
def eachF (step : Nat -> Nat -> List Int -> List Int) (cols : Nat) : Nat -> List Int -> List Int
 | 0, P => P
 | k + 1, P => rowF step k cols (eachF step cols k P)
def Does (N : Nat) (c0 c1 : Value) (S : Nat -> Prop) (I : List Int -> World -> Prop) (ls : List (List Cl)) (rows cols : Nat) (step : Nat -> Nat -> List Int -> List Int) : Prop :=
 ∀ (row col : Nat) (P : List Int) (w : World), row < rows -> col < cols -> I P w ->
  Calls Tryz.prog N #[.int .i64 row, .int .i64 col, (cellS ls row col).val, c0, c1] w fun e w' => e = .returned (.tuple #[]) /\ I (step row col P) w' /\ Kept S w w'
set_option maxRecDepth 100000 in
set_option maxHeartbeats 8000000 in
theorem each107_any (B : Nat) (s : Sc) (ls : List (List Cl)) (c0 c1 : Value) (S : Nat -> Prop) (I : List Int -> World -> Prop) (step : Nat -> Nat -> List Int -> List Int) (P : List Int) (wd : World)
  (hl : LinesAt B wd s.la s.ln ls) (hlen : s.ln <= 9223372036854775807) (hr : s.rows <= 1000000) (hc : s.cols <= 1000000) (hI : I P wd) (hIk : ∀ P w w', I P w -> Kept (fun _ => False) w w' -> I P w') (hS : ∀ i, S i -> B <= i /\ i < wd.heap.size)
  (hdo : Does 537 c0 c1 S I ls s.rows s.cols step) :
  Calls Tryz.prog 533 #[s.val, .func (.func 537) #[] #[c0, c1]] wd fun e w' => e = .returned (.tuple #[]) /\ I (eachF step s.cols s.rows P) w' /\ Kept S wd w' := by
 have HCELL := Lib.hid (fun (row col : Nat) (w : World) (hL : LinesAt B w s.la s.ln ls) (hr : row <= 1000000) (hc : col <= 1000000) => show Calls Tryz.prog 541 #[.agg s.cs, .int .i64 row, .int .i64 col] w fun e w' => e = .returned (cellS ls row col).val /\ Kept (fun _ => False) w w' from cell_any B s ls row col w hL hlen hr hc)
 obtain ⟨rows, cols, cw, ch, la, ln, lc, pa, pn, pc, im, top, cur, srow, scol⟩ := s
 unfold Sc.val
 unfold Sc.cs at HCELL
 simp only at hl hlen hr hc hdo ⊢
 obtain ⟨V, hV⟩ : ∃ V, wd.alloc (.cells #[.int .i64 rows, .int .i64 cols, .int .i64 cw, .int .i64 ch, .slice la ln lc, .slice pa pn pc, .map im, .int .i64 top, .bool cur, .int .i64 srow, .int .i64 scol] 107) = V := ⟨_, rfl⟩
 have kV : Kept (fun _ => False) wd V := by rw [<- hV]; exact (Kept.refl _ _).alloc _
 have b0 : V.heap[wd.heap.size]? = some (.cells #[.int .i64 rows, .int .i64 cols, .int .i64 cw, .int .i64 ch, .slice la ln lc, .slice pa pn pc, .map im, .int .i64 top, .bool cur, .int .i64 srow, .int .i64 scol] 107 (0, 0)) := by rw [<- hV]; exact blk_new _ _
 obtain ⟨J, hJ⟩ : ∃ J : List Int -> World -> Prop, J = fun P w => I P w /\ Kept S wd w /\ w.heap[wd.heap.size]? = some (.cells #[.int .i64 rows, .int .i64 cols, .int .i64 cw, .int .i64 ch, .slice la ln lc, .slice pa pn pc, .map im, .int .i64 top, .bool cur, .int .i64 srow, .int .i64 scol] 107 (0, 0)) /\ LinesAt B w la ln ls := ⟨_, rfl⟩
 have HJ0 := Lib.hid (show J P V by rw [hJ]; exact ⟨hIk _ _ _ hI kV, kV.mono (fun _ _ h => h.elim), b0, hl.kept kV (fun _ h => h.elim)⟩)
 have HJK := Lib.hid (show ∀ P w w', J P w -> Kept (fun _ => False) w w' -> J P w' by
  rw [hJ]
  intro P w w' ⟨h1, h2, h3, h4⟩ hk
  exact ⟨hIk _ _ _ h1 hk, h2.then (hk.mono fun _ _ h => h.elim), hk.blk h3 id, h4.kept hk (fun _ h => h.elim)⟩)
 have HJS := Lib.hid (show ∀ P P' w w', J P w -> I P' w' -> Kept S w w' -> J P' w' by
  rw [hJ]
  intro P P' w w' ⟨h1, h2, h3, h4⟩ hi hk
  exact ⟨hi, h2.then hk, hk.blk h3 (fun hs => Nat.lt_irrefl _ (hS _ hs).2), h4.kept hk (fun i h => (hS i h).1)⟩)
 have HJB := Lib.hid (show ∀ P w, J P w -> w.heap[wd.heap.size]? = some (.cells #[.int .i64 rows, .int .i64 cols, .int .i64 cw, .int .i64 ch, .slice la ln lc, .slice pa pn pc, .map im, .int .i64 top, .bool cur, .int .i64 srow, .int .i64 scol] 107 (0, 0)) by rw [hJ]; intro P w h; exact h.2.2.1)
 have HJL := Lib.hid (show ∀ P w, J P w -> LinesAt B w la ln ls by rw [hJ]; intro P w h; exact h.2.2.2)
 have HJE := Lib.hid (show ∀ P w, J P w -> I P w /\ Kept S wd w by rw [hJ]; intro P w h; exact ⟨h.1, h.2.1⟩)
 have HDO := Lib.hid (show ∀ (row col : Nat) (P : List Int) (w : World), row < rows -> col < cols -> I P w ->
  Calls Tryz.prog 537 #[.int .i64 row, .int .i64 col, (cellS ls row col).val, c0, c1] w fun e w' => e = .returned (.tuple #[]) /\ I (step row col P) w' /\ Kept S w w' from hdo)
 obtain ⟨x0, x1, -⟩ := blk11 b0
 clear hl hlen hI hIk hS hdo hJ kV b0
 go_enter Tryz.func533, Tryz.ntmps533
 go_wp2
 clear x0 x1
 go_loopg [4, 5, 8, 13] rows (fun gg _ _ iv _ wr => ∃ k : Nat, rows <= gg + k /\ k <= rows /\ iv = .int .i64 (k : Int) /\ J (eachF step cols k P) wr)
 case atStart => exact ⟨0, by omega, by omega, rfl, HJ0.out⟩
 case round =>
  obtain ⟨k, hgg, hk, rfl, hj⟩ := hrel
  by_cases hk1 : k < rows
  ·have g1 : decide (k < rows) = true := decide_eq_true hk1
   have g1' : decide ((k : Int) < (rows : Int)) = true := decide_eq_true (by omega)
   have wk : IntKind.i64.wrap ((k : Int) + 1) = (k : Int) + 1 := IntWalk.i64_in _ (by omega)
   have HJ := Lib.hid hj
   obtain ⟨x0, x1, -⟩ := blk11 (HJB.out _ _ hj)
   obtain ⟨gko, hgo⟩ : ∃ x, x = gk := ⟨_, rfl⟩
   subst hgo
   clear hj
   go_wp2
   clear x0 x1
   go_loopg [5, 13] cols (fun gg _ iv wr => ∃ c : Nat, cols <= gg + c /\ c <= cols /\ iv = .int .i64 (c : Int) /\ J (rowF step k c (eachF step cols k P)) wr)
   case atStart => exact ⟨0, by omega, by omega, rfl, HJ.out⟩
   case round =>
    obtain ⟨c, hgc, hc', rfl, hj⟩ := hrel
    by_cases hc1 : c < cols
    ·have g2 : decide (c < cols) = true := decide_eq_true hc1
     have g2' : decide ((c : Int) < (cols : Int)) = true := decide_eq_true (by omega)
     have wc : IntKind.i64.wrap ((c : Int) + 1) = (c : Int) + 1 := IntWalk.i64_in _ (by omega)
     obtain ⟨x0, x1, x2, x3, x4, x5, x6, x7, x8, x9, x10⟩ := blk11 (HJB.out _ _ hj)
     have HCALL := Lib.hid (HCELL.out k c wr (HJL.out _ _ hj) (by omega) (by omega))
     have HJ2 := Lib.hid hj
     clear hj
     go_wp2_with fail
     refine HCALL.out.mono ?_
     rintro e w2 ⟨rfl, hk2⟩
     have hj2 := HJK.out _ _ _ HJ2.out hk2
     have HD := Lib.hid (HDO.out k c _ w2 hk1 hc1 (HJE.out _ _ hj2).1)
     have HJ3 := Lib.hid hj2
     obtain ⟨CL, hCL⟩ : ∃ v, (cellS ls k c).val = v := ⟨_, rfl⟩
     rw [hCL] at HD
     rw [hCL]
     clear hk2 hj2 hCL x0 x1 x2 x3 x4 x5 x6 x7 x8 x9 x10
     go_wp2_with fail
     refine HD.out.mono ?_
     rintro e w3 ⟨rfl, hi3, hk3⟩
     have HJ4 := Lib.hid (HJS.out _ _ _ _ HJ3.out hi3 hk3)
     clear hi3 hk3
     go_wp2
     go_roundg (gk - 1)
     case rel => exact ⟨c + 1, by omega, by omega, by go_num, HJ4.out⟩
     case measure => omega
    ·obtain rfl : c = cols := by omega
     have g2 : decide (c < c) = false := decide_eq_false (by omega)
     have HJ4 := Lib.hid hj
     clear hj
     go_wp2
     go_roundg (gko - 1)
     case rel => exact ⟨k + 1, by omega, by omega, by go_num, HJ4.out⟩
     case measure => omega
  ·obtain rfl : k = rows := by omega
   have g1 : decide (k < k) = false := decide_eq_false (by omega)
   have HE := Lib.hid (HJE.out _ _ hj)
   clear hj
   go_wp2
   go_end0
   exact ⟨rfl, HE.out⟩
set_option maxRecDepth 100000 in
set_option maxHeartbeats 8000000 in
theorem each112_any (B : Nat) (s : Sc) (ls : List (List Cl)) (c0 c1 : Value) (S : Nat -> Prop) (I : List Int -> World -> Prop) (step : Nat -> Nat -> List Int -> List Int) (P : List Int) (wd : World)
  (hl : LinesAt B wd s.la s.ln ls) (hlen : s.ln <= 9223372036854775807) (hr : s.rows <= 1000000) (hc : s.cols <= 1000000) (hI : I P wd) (hIk : ∀ P w w', I P w -> Kept (fun _ => False) w w' -> I P w') (hS : ∀ i, S i -> B <= i /\ i < wd.heap.size)
  (hdo : Does 552 c0 c1 S I ls s.rows s.cols step) :
  Calls Tryz.prog 533 #[s.val, .func (.func 552) #[] #[c0, c1]] wd fun e w' => e = .returned (.tuple #[]) /\ I (eachF step s.cols s.rows P) w' /\ Kept S wd w' := by
 have HCELL := Lib.hid (fun (row col : Nat) (w : World) (hL : LinesAt B w s.la s.ln ls) (hr : row <= 1000000) (hc : col <= 1000000) => show Calls Tryz.prog 541 #[.agg s.cs, .int .i64 row, .int .i64 col] w fun e w' => e = .returned (cellS ls row col).val /\ Kept (fun _ => False) w w' from cell_any B s ls row col w hL hlen hr hc)
 obtain ⟨rows, cols, cw, ch, la, ln, lc, pa, pn, pc, im, top, cur, srow, scol⟩ := s
 unfold Sc.val
 unfold Sc.cs at HCELL
 simp only at hl hlen hr hc hdo ⊢
 obtain ⟨V, hV⟩ : ∃ V, wd.alloc (.cells #[.int .i64 rows, .int .i64 cols, .int .i64 cw, .int .i64 ch, .slice la ln lc, .slice pa pn pc, .map im, .int .i64 top, .bool cur, .int .i64 srow, .int .i64 scol] 107) = V := ⟨_, rfl⟩
 have kV : Kept (fun _ => False) wd V := by rw [<- hV]; exact (Kept.refl _ _).alloc _
 have b0 : V.heap[wd.heap.size]? = some (.cells #[.int .i64 rows, .int .i64 cols, .int .i64 cw, .int .i64 ch, .slice la ln lc, .slice pa pn pc, .map im, .int .i64 top, .bool cur, .int .i64 srow, .int .i64 scol] 107 (0, 0)) := by rw [<- hV]; exact blk_new _ _
 obtain ⟨J, hJ⟩ : ∃ J : List Int -> World -> Prop, J = fun P w => I P w /\ Kept S wd w /\ w.heap[wd.heap.size]? = some (.cells #[.int .i64 rows, .int .i64 cols, .int .i64 cw, .int .i64 ch, .slice la ln lc, .slice pa pn pc, .map im, .int .i64 top, .bool cur, .int .i64 srow, .int .i64 scol] 107 (0, 0)) /\ LinesAt B w la ln ls := ⟨_, rfl⟩
 have HJ0 := Lib.hid (show J P V by rw [hJ]; exact ⟨hIk _ _ _ hI kV, kV.mono (fun _ _ h => h.elim), b0, hl.kept kV (fun _ h => h.elim)⟩)
 have HJK := Lib.hid (show ∀ P w w', J P w -> Kept (fun _ => False) w w' -> J P w' by
  rw [hJ]
  intro P w w' ⟨h1, h2, h3, h4⟩ hk
  exact ⟨hIk _ _ _ h1 hk, h2.then (hk.mono fun _ _ h => h.elim), hk.blk h3 id, h4.kept hk (fun _ h => h.elim)⟩)
 have HJS := Lib.hid (show ∀ P P' w w', J P w -> I P' w' -> Kept S w w' -> J P' w' by
  rw [hJ]
  intro P P' w w' ⟨h1, h2, h3, h4⟩ hi hk
  exact ⟨hi, h2.then hk, hk.blk h3 (fun hs => Nat.lt_irrefl _ (hS _ hs).2), h4.kept hk (fun i h => (hS i h).1)⟩)
 have HJB := Lib.hid (show ∀ P w, J P w -> w.heap[wd.heap.size]? = some (.cells #[.int .i64 rows, .int .i64 cols, .int .i64 cw, .int .i64 ch, .slice la ln lc, .slice pa pn pc, .map im, .int .i64 top, .bool cur, .int .i64 srow, .int .i64 scol] 107 (0, 0)) by rw [hJ]; intro P w h; exact h.2.2.1)
 have HJL := Lib.hid (show ∀ P w, J P w -> LinesAt B w la ln ls by rw [hJ]; intro P w h; exact h.2.2.2)
 have HJE := Lib.hid (show ∀ P w, J P w -> I P w /\ Kept S wd w by rw [hJ]; intro P w h; exact ⟨h.1, h.2.1⟩)
 have HDO := Lib.hid (show ∀ (row col : Nat) (P : List Int) (w : World), row < rows -> col < cols -> I P w ->
  Calls Tryz.prog 552 #[.int .i64 row, .int .i64 col, (cellS ls row col).val, c0, c1] w fun e w' => e = .returned (.tuple #[]) /\ I (step row col P) w' /\ Kept S w w' from hdo)
 obtain ⟨x0, x1, -⟩ := blk11 b0
 clear hl hlen hI hIk hS hdo hJ kV b0
 go_enter Tryz.func533, Tryz.ntmps533
 go_wp2
 clear x0 x1
 go_loopg [4, 5, 8, 13] rows (fun gg _ _ iv _ wr => ∃ k : Nat, rows <= gg + k /\ k <= rows /\ iv = .int .i64 (k : Int) /\ J (eachF step cols k P) wr)
 case atStart => exact ⟨0, by omega, by omega, rfl, HJ0.out⟩
 case round =>
  obtain ⟨k, hgg, hk, rfl, hj⟩ := hrel
  by_cases hk1 : k < rows
  ·have g1 : decide (k < rows) = true := decide_eq_true hk1
   have g1' : decide ((k : Int) < (rows : Int)) = true := decide_eq_true (by omega)
   have wk : IntKind.i64.wrap ((k : Int) + 1) = (k : Int) + 1 := IntWalk.i64_in _ (by omega)
   have HJ := Lib.hid hj
   obtain ⟨x0, x1, -⟩ := blk11 (HJB.out _ _ hj)
   obtain ⟨gko, hgo⟩ : ∃ x, x = gk := ⟨_, rfl⟩
   subst hgo
   clear hj
   go_wp2
   clear x0 x1
   go_loopg [5, 13] cols (fun gg _ iv wr => ∃ c : Nat, cols <= gg + c /\ c <= cols /\ iv = .int .i64 (c : Int) /\ J (rowF step k c (eachF step cols k P)) wr)
   case atStart => exact ⟨0, by omega, by omega, rfl, HJ.out⟩
   case round =>
    obtain ⟨c, hgc, hc', rfl, hj⟩ := hrel
    by_cases hc1 : c < cols
    ·have g2 : decide (c < cols) = true := decide_eq_true hc1
     have g2' : decide ((c : Int) < (cols : Int)) = true := decide_eq_true (by omega)
     have wc : IntKind.i64.wrap ((c : Int) + 1) = (c : Int) + 1 := IntWalk.i64_in _ (by omega)
     obtain ⟨x0, x1, x2, x3, x4, x5, x6, x7, x8, x9, x10⟩ := blk11 (HJB.out _ _ hj)
     have HCALL := Lib.hid (HCELL.out k c wr (HJL.out _ _ hj) (by omega) (by omega))
     have HJ2 := Lib.hid hj
     clear hj
     go_wp2_with fail
     refine HCALL.out.mono ?_
     rintro e w2 ⟨rfl, hk2⟩
     have hj2 := HJK.out _ _ _ HJ2.out hk2
     have HD := Lib.hid (HDO.out k c _ w2 hk1 hc1 (HJE.out _ _ hj2).1)
     have HJ3 := Lib.hid hj2
     obtain ⟨CL, hCL⟩ : ∃ v, (cellS ls k c).val = v := ⟨_, rfl⟩
     rw [hCL] at HD
     rw [hCL]
     clear hk2 hj2 hCL x0 x1 x2 x3 x4 x5 x6 x7 x8 x9 x10
     go_wp2_with fail
     refine HD.out.mono ?_
     rintro e w3 ⟨rfl, hi3, hk3⟩
     have HJ4 := Lib.hid (HJS.out _ _ _ _ HJ3.out hi3 hk3)
     clear hi3 hk3
     go_wp2
     go_roundg (gk - 1)
     case rel => exact ⟨c + 1, by omega, by omega, by go_num, HJ4.out⟩
     case measure => omega
    ·obtain rfl : c = cols := by omega
     have g2 : decide (c < c) = false := decide_eq_false (by omega)
     have HJ4 := Lib.hid hj
     clear hj
     go_wp2
     go_roundg (gko - 1)
     case rel => exact ⟨k + 1, by omega, by omega, by go_num, HJ4.out⟩
     case measure => omega
  ·obtain rfl : k = rows := by omega
   have g1 : decide (k < k) = false := decide_eq_false (by omega)
   have HE := Lib.hid (HJE.out _ _ hj)
   clear hj
   go_wp2
   go_end0
   exact ⟨rfl, HE.out⟩
attribute [local go_sem] A2.growOp A2.growUpon A2.sameUpon
def SI (s : Sc) (W H n m g lb : Nat) (T : TypeId) (P : List Int) (w : World) : Prop := MatI W H n m g P w /\ w.heap[lb]? = some (.cells s.cs T (0, 0))
theorem SI.kept {s : Sc} {W H n m g lb : Nat} {T : TypeId} {P : List Int} {w w' : World} (h : SI s W H n m g lb T P w) (hk : Kept (fun _ => False) w w') : SI s W H n m g lb T P w' := ⟨h.1.kept hk, hk.blk h.2 id⟩
def groF (s : Sc) (ls : List (List Cl)) (W H : Nat) (row col : Nat) (P : List Int) : List Int := layL W H ((col * s.cw : Nat) : Int) ((row * s.ch : Nat) : Int) s.cw s.ch (colors (cellS ls row col).a).2 P
structure Dim (s : Sc) (W H n : Nat) : Prop where
 rows : s.rows <= 1000
 cols : s.cols <= 1000
 cw : 1 <= s.cw /\ s.cw <= 64
 ch : 1 <= s.ch /\ s.ch <= 64
 bW : W <= 16384
 bH : H <= 16384
 bn : n = 4 * (W * H)
 bn2 : n <= 67108864
set_option maxRecDepth 100000 in
set_option maxHeartbeats 8000000 in
theorem do107 (s : Sc) (ls : List (List Cl)) (W H n m g lb : Nat) (hd : Dim s W H n) (hm : m ≠ g) (hb : lb ≠ g) :
  Does 537 (.pointer (some ⟨m, 0, none⟩)) (.pointer (some ⟨lb, 0, none⟩)) (fun i => i = g) (SI s W H n m g lb 158) ls s.rows s.cols (groF s ls W H) := by
 intro row col P w hrow hcol hI
 obtain ⟨rows, cols, cw, ch, la, ln, lc, pa, pn, pc, im, top, cur, srow, scol⟩ := s
 obtain ⟨CL, hcc⟩ : ∃ c, cellS ls row col = c := ⟨_, rfl⟩
 obtain ⟨cr, ck, fg, bg, fl⟩ := CL
 have hgro : groF ⟨rows, cols, cw, ch, la, ln, lc, pa, pn, pc, im, top, cur, srow, scol⟩ ls W H row col P = layL W H ((col * cw : Nat) : Int) ((row * ch : Nat) : Int) cw ch (colors ⟨fg, bg, fl⟩).2 P := by unfold groF; rw [hcc]
 rw [hcc]
 unfold Cl.val
 simp only at hrow hcol ⊢
 rw [hgro]
 obtain ⟨F, hF⟩ : ∃ F, (colors ⟨fg, bg, fl⟩).1 = F := ⟨_, rfl⟩
 obtain ⟨B, hB⟩ : ∃ B, (colors ⟨fg, bg, fl⟩).2 = B := ⟨_, rfl⟩
 rw [hB]
 have HC := Lib.hid (show ∀ w, Calls Tryz.prog 538 #[.agg #[.int .i64 fg, .int .i64 bg, .int .i64 fl]] w fun e w' => e = .returned (.tuple #[.agg #[.int .u8 F.r, .int .u8 F.g, .int .u8 F.b], .agg #[.int .u8 B.r, .int .u8 B.g, .int .u8 B.b]]) /\ Kept (fun _ => False) w w' from fun w => by have h := cols_any ⟨fg, bg, fl⟩ w; unfold ColsPost at h; rw [hF, hB] at h; exact h)
 have HSB := Lib.hid (show ∀ w, Calls Tryz.prog 540 #[.agg #[.int .u8 B.r, .int .u8 B.g, .int .u8 B.b]] w fun e w' => e = .returned (.agg #[.int .u8 B.r, .int .u8 B.g, .int .u8 B.b, .int .u8 255]) /\ Kept (fun _ => False) w w' from fun w => solid_any B w)
 have d1 := hd.rows
 have d2 := hd.cols
 have d3 := hd.cw
 have d4 := hd.ch
 simp only at d1 d2 d3 d4
 have bx : col * cw <= 1000 * 64 := Nat.mul_le_mul (by omega) d3.2
 have by' : row * ch <= 1000 * 64 := Nat.mul_le_mul (by omega) d4.2
 obtain ⟨X, hX⟩ : ∃ x, col * cw = x := ⟨_, rfl⟩
 obtain ⟨Y, hY⟩ : ∃ x, row * ch = x := ⟨_, rfl⟩
 rw [hX] at bx ⊢
 rw [hY] at by' ⊢
 have v1 : (col : Int) * (cw : Int) = (X : Int) := by rw [<- hX]; simp
 have v2 : (row : Int) * (ch : Int) = (Y : Int) := by rw [<- hY]; simp
 have u1 : IntKind.i64.wrap (X : Int) = (X : Int) := IntWalk.i64_in _ (by omega)
 have u2 : IntKind.i64.wrap (Y : Int) = (Y : Int) := IntWalk.i64_in _ (by omega)
 have HD := Lib.hid (And.intro hd (And.intro hm hb))
 have HXY := Lib.hid (And.intro bx (And.intro by' (And.intro d3 d4)))
 obtain ⟨V0, hV0⟩ : ∃ V, w.alloc (.cells #[.int .i32 cr, .int .i64 ck, .int .i64 fg, .int .i64 bg, .int .i64 fl] 70) = V := ⟨_, rfl⟩
 have k0 : Kept (fun _ => False) w V0 := by rw [<- hV0]; exact (Kept.refl _ _).alloc _
 have b0 : V0.heap[w.heap.size]? = some (.cells #[.int .i32 cr, .int .i64 ck, .int .i64 fg, .int .i64 bg, .int .i64 fl] 70 (0, 0)) := by rw [<- hV0]; exact blk_new _ _
 obtain ⟨x0, x1, x2, x3, x4⟩ := blk5 b0
 have H0 := Lib.hid (And.intro k0 (hI.kept k0))
 clear hcc hgro hF hB hd hm hb bx by' hX hY d1 d2 d3 d4 hrow hcol k0 b0 hI
 go_enter Tryz.func537, Tryz.ntmps537
 go_wp2_with fail
 refine (HC.out _).mono ?_
 rintro e w1 ⟨rfl, hk1⟩
 obtain ⟨V, hV⟩ : ∃ V, (w1.alloc (.cells #[.int .u8 F.r, .int .u8 F.g, .int .u8 F.b] 210)).alloc (.cells #[.int .u8 B.r, .int .u8 B.g, .int .u8 B.b] 210) = V := ⟨_, rfl⟩
 have kV : Kept (fun _ => False) w1 V := by rw [<- hV]; exact ((Kept.refl _ _).alloc _).alloc _
 have v1' : V.heap[w1.heap.size + 1]? = some (.cells #[.int .u8 B.r, .int .u8 B.g, .int .u8 B.b] 210 (0, 0)) := by rw [<- hV]; exact blk_at _ _ (by simp)
 obtain ⟨WR, hWR⟩ : ∃ WR, WR = V.drew := ⟨_, rfl⟩
 have kR : Kept (fun _ => False) V WR := by rw [hWR]; exact (Kept.refl _ _).drew
 have hIR := H0.out.2.kept ((hk1.then kV).then kR)
 obtain ⟨⟨d0, -⟩, ⟨d1, -⟩, d2, -⟩ := blk3 hIR.1.2
 obtain ⟨⟨e0, -⟩, ⟨e1, -⟩, e2, -⟩ := blk3 (kR.blk v1' id)
 obtain ⟨-, -, s2, s3, -⟩ := blk11 hIR.2
 have X0 := cell_regrown d0
 have X1 := cell_regrown d1
 have X2 := cell_regrown d2
 have Y0 := cell_regrown e0
 have Y1 := cell_regrown e1
 have Y2 := cell_regrown e2
 have Z2 := cell_regrown s2
 have Z3 := cell_regrown s3
 obtain ⟨RB, hRB⟩ : ∃ R : Value -> World -> Prop, R = fun v _ => v = .agg #[.int .u8 B.r, .int .u8 B.g, .int .u8 B.b, .int .u8 255] := ⟨_, rfl⟩
 have HRB := Lib.hid hRB
 have HWR := Lib.hid hWR
 have H1 := Lib.hid (And.intro (H0.out.1.then ((hk1.then kV).then kR)) hIR)
 clear hk1 kV v1' kR hIR d0 d1 d2 e0 e1 e2 s2 s3 hRB hWR x0 x1 x2 x3 x4
 go_wp2
 refine A2.wp_region_grow (fun _ => false) #[0, 0, 0, 4, 12, 30, 0, 0, 128, 384, 960, 0, 2048, 6144, 0, 16384, 49152, 0, 131072, 524287] 19 [] (fun i => if i = 18 then some RB else none) (by kernel_rfl) rfl (by kernel_rfl) (fun i hi => by cases hi) (fun _ _ _ _ _ h => h) ?_
 rintro _ rfl
 rw [<- HWR.out]
 simp only [List.take_succ_cons, List.take_zero, List.drop_succ_cons, List.drop_zero, A2.number, Nat.reduceAdd]
 repeat (refine A2.wpGrow_step (fun K hK => ?_); go_simp; refine hK _ _ ?_; clear hK K)
 refine A2.wpGrow_step (fun K hK => ?_)
 go_simp
 refine ⟨fun w' hg => (HSB.out w').mono (fun e9 w'' ⟨he, hk⟩ => ⟨_, he, hk, by rw [HRB.out]⟩), fun v4 w4 hv4 hg4 _ => ?_⟩
 rw [HRB.out] at hv4
 subst hv4
 refine hK _ _ ?_; clear hK K
 refine A2.wpGrow_nil ?_
 intro w5 hk5 hω
 have hI5 := H1.out.2.kept hk5
 have HF := Lib.hid (filD_any W H X Y cw ch P (some ⟨g, 0, none⟩) n n B.r B.g B.b 255 w5 (by have := HXY.out; unfold Mid; omega) (by have := HXY.out; unfold Mid; omega) (by have := HXY.out; unfold Mid; omega) (by have := HXY.out; unfold Mid; omega) HD.out.1.bW HD.out.1.bH HD.out.1.bn HD.out.1.bn2 hI5.1.1)
 have H5 := Lib.hid (And.intro (H1.out.1.then hk5) hI5)
 clear hω hg4 hI5 hk5 X0 X1 X2 Y0 Y1 Y2 Z2 Z3
 go_wp2_with fail
 refine HF.out.mono ?_
 rintro e w6 ⟨rfl, ho6, hk6⟩
 have hk6' : Kept (fun i => i = g) w5 w6 := hk6.mono fun i _ hi => by cases hi; rfl
 have HE := Lib.hid (And.intro (show SI ⟨rows, cols, cw, ch, la, ln, lc, pa, pn, pc, im, top, cur, srow, scol⟩ W H n m g lb 158 (layL W H X Y cw ch B P) w6 from ⟨⟨by unfold layL; rw [<- HD.out.1.bn]; exact ho6, hk6'.blk H5.out.2.1.2 HD.out.2.1⟩, hk6'.blk H5.out.2.2 HD.out.2.2⟩) ((H5.out.1.mono fun _ _ h => h.elim).then hk6'))
 clear ho6 hk6 hk6'
 go_wp2
 go_end0
 exact ⟨rfl, HE.out⟩
set_option maxRecDepth 100000 in
set_option maxHeartbeats 8000000 in
theorem grounds_any (B : Nat) (s : Sc) (ls : List (List Cl)) (W H n g : Nat) (P : List Int) (wd : World) (hd : Dim s W H n) (hl : LinesAt B wd s.la s.ln ls) (hlen : s.ln <= 9223372036854775807) (hB : B <= g)
  (ho : Own .u8 5 wd (.slice (some ⟨g, 0, none⟩) n n) P) :
  Calls Tryz.prog 536 #[s.val, .agg #[.int .i64 W, .int .i64 H, .slice (some ⟨g, 0, none⟩) n n]] wd fun e w' => e = .returned (.agg #[.int .i64 W, .int .i64 H, .slice (some ⟨g, 0, none⟩) n n]) /\ Own .u8 5 w' (.slice (some ⟨g, 0, none⟩) n n) (eachF (groF s ls W H) s.cols s.rows P) /\ Kept (fun i => i = g) wd w' := by
 have hgw := ho.lt g rfl
 obtain ⟨V, hV⟩ : ∃ V, ((wd.alloc (.cells s.cs 158)).alloc (.cells #[.int .i64 W, .int .i64 H, .slice (some ⟨g, 0, none⟩) n n] 38)).alloc (.cells #[.int .i64 0, .int .i64 0, .slice none 0 0] 38) = V := ⟨_, rfl⟩
 have kV : Kept (fun _ => False) wd V := by rw [<- hV]; exact (((Kept.refl _ _).alloc _).alloc _).alloc _
 have b0 : V.heap[wd.heap.size]? = some (.cells s.cs 158 (0, 0)) := by rw [<- hV]; exact blk_alloc (blk_alloc (blk_new _ _) _) _
 have b1 : V.heap[wd.heap.size + 1]? = some (.cells #[.int .i64 W, .int .i64 H, .slice (some ⟨g, 0, none⟩) n n] 38 (0, 0)) := by rw [<- hV]; exact blk_alloc (blk_at _ _ (by simp)) _
 have b2 : V.heap[wd.heap.size + 1 + 1]? = some (.cells #[.int .i64 0, .int .i64 0, .slice none 0 0] 38 (0, 0)) := by rw [<- hV]; exact blk_at _ _ (by simp)
 have hgV : g < V.heap.size := (ho.kept kV (fun _ _ => id)).lt g rfl
 have HEACH := Lib.hid (each107_any B s ls (.pointer (some ⟨wd.heap.size + 1, 0, none⟩)) (.pointer (some ⟨wd.heap.size, 0, none⟩)) (fun i => i = g) (SI s W H n (wd.heap.size + 1) g wd.heap.size 158) (groF s ls W H) P V
  (hl.kept kV (fun _ h => h.elim)) hlen (by have := hd.rows; omega) (by have := hd.cols; omega) ⟨⟨ho.kept kV (fun _ _ => id), b1⟩, b0⟩ (fun P w w' h hk => h.kept hk) (fun i hi => by have h9 : i = g := hi; rw [h9]; exact ⟨hB, hgV⟩) (do107 s ls W H n (wd.heap.size + 1) g wd.heap.size hd (by omega) (by omega)))
 have HK := Lib.hid (And.intro kV (And.intro b2 hgw))
 obtain ⟨R, hR⟩ : ∃ R, eachF (groF s ls W H) s.cols s.rows P = R := ⟨_, rfl⟩
 rw [hR] at HEACH
 rw [hR]
 obtain ⟨x0, x1, x2, x3, x4, x5, x6, x7, x8, x9, x10⟩ := blk11 b0
 obtain ⟨rows, cols, cw, ch, la, ln, lc, pa, pn, pc, im, top, cur, srow, scol⟩ := s
 unfold Sc.cs at hV
 unfold Sc.val at HEACH ⊢
 simp only at x0 x1 x2 x3 x4 x5 x6 x7 x8 x9 x10 hV HEACH ⊢
 clear hR hd hl hlen hB ho hgw kV b0 b1 b2 hgV
 go_enter Tryz.func536, Tryz.ntmps536
 go_wp2_with fail
 refine HEACH.out.mono ?_
 rintro e w2 ⟨rfl, hi2, hk2⟩
 obtain ⟨⟨d0, -⟩, ⟨d1, -⟩, d2, -⟩ := blk3 hi2.1.2
 obtain ⟨U1, U2, U3, f1, f2, f3, ⟨z0, z0'⟩, ⟨z1, z1'⟩, ⟨z2, z2'⟩, bU, kU⟩ := store3 (hk2.blk HK.out.2.1 (fun (h : wd.heap.size + 1 + 1 = g) => by have := HK.out.2.2; omega)) (.int .i64 W) (.int .i64 H) (.slice (some ⟨g, 0, none⟩) n n)
 obtain ⟨⟨m0, -⟩, ⟨m1, -⟩, m2, -⟩ := blk3 bU
 have HE := Lib.hid (And.intro (hi2.1.1.kept kU (fun b hb hS => by have h9 : b = wd.heap.size + 1 + 1 := hS; have h8 : g = b := (by cases hb; rfl); have := HK.out.2.2; omega)) (((HK.out.1.mono (fun _ _ h => h.elim)).then hk2).trans (kU.mono fun i _ hi => Or.inr (by have h9 : i = wd.heap.size + 1 + 1 := hi; omega))))
 clear hi2 hk2 bU kU x0 x1 x2 x3 x4 x5 x6 x7 x8 x9 x10
 go_wp2
 exact bodyPost_ret (v := .agg #[.int .i64 W, .int .i64 H, .slice (some ⟨g, 0, none⟩) n n]) (by simp [results, Tryz.results536, go_sem, m0, m1, m2]) rfl ⟨rfl, HE.out⟩
end Go.Proofs.YtmplpcmcbliadaaGreatDoor
