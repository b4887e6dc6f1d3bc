/- The screen's small functions; The screen's first lines, its mode of the cursor; Lines with wide characters: mended, put, sized, told to be right. -/
import Derived.Test.YtmplpcmcbliadaaGreatDoorBx5
import Derived.Deep.LoopGhost
set_option linter.unusedVariables false
set_option linter.unusedSimpArgs false
namespace Go.Proofs.YtmplpcmcbliadaaGreatDoor
open Go.RowKit Go.Sort Pl
def Sn.lo (s : Sn) : List Value := [.pointer (some ⟨s.g0, 0, none⟩), .pointer (some ⟨s.g1, 0, none⟩), .int .i64 0, .int .i64 s.c.row, .int .i64 s.c.col, .bool s.c.wrap, .int .i64 s.c.a.fg, .int .i64 s.c.a.bg, .int .i64 s.c.a.fl, .bool s.c.org, .int .u8 s.c.s0, .int .u8 s.c.s1, .int .i64 s.c.sh]
def Sn.hi (s : Sn) : List Value := [.map (some s.md), .map (some s.pv), .int .i64 s.top, .int .i64 s.past, .pointer (some ⟨s.st, 0, none⟩), .int .i32 s.ch, s.ar]
theorem Sn.cs_eq (s : Sn) : s.cs = (s.lo ++ (s.v ++ s.hi)).toArray := rfl
theorem SnB.putLo {w : World} {p : Nat} {s s' : Sn} (h : SnB w p s) (i : Nat) (hi : i < 13) (u : Value) (hl : s.lo.set i u = s'.lo) (hv : s.v = s'.v) (hh : s.hi = s'.hi) : SnB (w.setCell ⟨p, i, none⟩ u) p s' := by
 refine ⟨hv ▸ h.1, ?_⟩
 have h9 := blk_set h.2 i u
 rw [h9, Sn.cs_eq, Sn.cs_eq, List.setIfInBounds_toArray, List.set_append_left _ _ (show i < s.lo.length from hi), hl, hv, hh]
theorem SnB.putHi {w : World} {p : Nat} {s s' : Sn} (h : SnB w p s) (i : Nat) (hi : i < 7) (u : Value) (hl : s.lo = s'.lo) (hv : s.v = s'.v) (hh : s.hi.set i u = s'.hi) : SnB (w.setCell ⟨p, 35 + i, none⟩ u) p s' := by
 refine ⟨hv ▸ h.1, ?_⟩
 have h1 : s.lo.length = 13 := rfl
 have h9 := blk_set h.2 (35 + i) u
 rw [h9, Sn.cs_eq, Sn.cs_eq, List.setIfInBounds_toArray, List.set_append_right _ _ (by omega), List.set_append_right _ _ (by rw [h.1]; omega), h1, h.1, show 35 + i - 13 - 22 = i by omega, hh, hl, hv]
theorem blk10 {w : World} {b : Nat} {x0 x1 x2 x3 x4 x5 x6 x7 x8 x9 : Value} {t : TypeId} (h : w.heap[b]? = some (.cells #[x0, x1, x2, x3, x4, x5, x6, x7, x8, x9] t (0, 0))) : w.cell? ⟨b, 0, none⟩ = some x0 /\ w.cell? ⟨b, 1, none⟩ = some x1 /\ w.cell? ⟨b, 2, none⟩ = some x2 /\ w.cell? ⟨b, 3, none⟩ = some x3 /\ w.cell? ⟨b, 4, none⟩ = some x4 /\ w.cell? ⟨b, 5, none⟩ = some x5 /\ w.cell? ⟨b, 6, none⟩ = some x6 /\ w.cell? ⟨b, 7, none⟩ = some x7 /\ w.cell? ⟨b, 8, none⟩ = some x8 /\ w.cell? ⟨b, 9, none⟩ = some x9 :=
 ⟨blk_cell h 0, blk_cell h 1, blk_cell h 2, blk_cell h 3, blk_cell h 4, blk_cell h 5, blk_cell h 6, blk_cell h 7, blk_cell h 8, blk_cell h 9⟩
set_option maxRecDepth 100000 in
theorem between_any (v lo hi : Int) (b : Bool) (hb : (decide (lo <= v) && decide (v <= hi)) = b) (w : World) : Calls Tryz.prog 151 #[.int .i64 v, .int .i64 lo, .int .i64 hi] w fun e w' => e = .returned (.bool b) /\ w = w' := by
 subst hb
 by_cases h1 : lo <= v
 all_goals by_cases h2 : v <= hi
 all_goals
  go_enter Tryz.func151, Tryz.ntmps151
  go_wp2
  go_ret
  simp [h1, h2]
set_option maxRecDepth 100000 in
theorem scut_any (v lo hi : Int) (w : World) : Calls Tryz.prog 254 #[.int .i64 v, .int .i64 lo, .int .i64 hi] w fun e w' => e = .returned (.int .i64 (min (max v lo) hi)) /\ w = w' := by
 go_enter Tryz.func254, Tryz.ntmps254
 go_wp2
 all_goals
  go_ret
  refine ⟨?_, rfl⟩
  show Ending.returned (Value.int .i64 _) = _
  congr 2
  omega
def Cu.val (c : Cu) : Value := .agg #[.int .i64 c.row, .int .i64 c.col, .bool c.wrap, .int .i64 c.a.fg, .int .i64 c.a.bg, .int .i64 c.a.fl, .bool c.org, .int .u8 c.s0, .int .u8 c.s1, .int .i64 c.sh]
def cu0 : Cu := ⟨0, 0, false, ⟨0, 0, 0⟩, false, 66, 66, 0⟩
set_option maxRecDepth 100000 in
theorem first_any (w : World) : Calls Tryz.prog 157 #[] w fun e w' => e = .returned cu0.val /\ Kept (fun _ => False) w w' := by
 go_enter Tryz.func157, Tryz.ntmps157
 go_wp2
 obtain ⟨V, hV⟩ : ∃ X, w.alloc (.cells #[.int .i64 0, .int .i64 0, .bool false, .int .i64 0, .int .i64 0, .int .i64 0, .bool false, .int .u8 66, .int .u8 66, .int .i64 0] 56) = X := ⟨_, rfl⟩
 have kV : Kept (fun _ => False) w V := by rw [<- hV]; exact (Kept.refl _ _).alloc _
 have bV : V.heap[w.heap.size]? = some (.cells #[.int .i64 0, .int .i64 0, .bool false, .int .i64 0, .int .i64 0, .int .i64 0, .bool false, .int .u8 66, .int .u8 66, .int .i64 0] 56 (0, 0)) := by rw [<- hV]; exact blk_new _ _
 obtain ⟨l0, l1, l2, l3, l4, l5, l6, l7, l8, l9⟩ := blk10 bV
 rw [hV]
 refine bodyPost_ret (v := cu0.val) (w := V) ?_ rfl ⟨rfl, kV⟩
 simp [results, Tryz.results157, go_sem, l0, l1, l2, l3, l4, l5, l6, l7, l8, l9, cu0, Cu.val]
set_option maxRecDepth 100000 in
theorem scur_any (p : Nat) (s : Sn) (w : World) (h : SnB w p s) : Calls Tryz.prog 53 #[.pointer (some ⟨p, 0, none⟩)] w fun e w' => e = .returned s.c.val /\ Kept (fun _ => False) w w' := by
 have y := (h.kept (show Kept (fun _ => False) w (w.alloc (.cells #[.int .i64 0, .int .i64 0, .bool false, .int .i64 0, .int .i64 0, .int .i64 0, .bool false, .int .u8 0, .int .u8 0, .int .i64 0] 56)) from (Kept.refl _ _).alloc _) id).cells
 obtain ⟨-, -, -, y3, y4, y5, y6, y7, y8, y9, y10, y11, y12⟩ := y
 clear h
 go_enter Tryz.func53, Tryz.ntmps53
 go_wp2
 obtain ⟨V, hV⟩ : ∃ X, w.alloc (.cells #[.int .i64 s.c.row, .int .i64 s.c.col, .bool s.c.wrap, .int .i64 s.c.a.fg, .int .i64 s.c.a.bg, .int .i64 s.c.a.fl, .bool s.c.org, .int .u8 s.c.s0, .int .u8 s.c.s1, .int .i64 s.c.sh] 56) = X := ⟨_, rfl⟩
 have kV : Kept (fun _ => False) w V := by rw [<- hV]; exact (Kept.refl _ _).alloc _
 have bV : V.heap[w.heap.size]? = some (.cells #[.int .i64 s.c.row, .int .i64 s.c.col, .bool s.c.wrap, .int .i64 s.c.a.fg, .int .i64 s.c.a.bg, .int .i64 s.c.a.fl, .bool s.c.org, .int .u8 s.c.s0, .int .u8 s.c.s1, .int .i64 s.c.sh] 56 (0, 0)) := by rw [<- hV]; exact blk_new _ _
 obtain ⟨l0, l1, l2, l3, l4, l5, l6, l7, l8, l9⟩ := blk10 bV
 rw [hV]
 refine bodyPost_ret (v := s.c.val) (w := V) ?_ rfl ⟨rfl, kV⟩
 simp [results, Tryz.results53, go_sem, l0, l1, l2, l3, l4, l5, l6, l7, l8, l9, Cu.val]
set_option maxRecDepth 100000 in
theorem erased_any (p : Nat) (s : Sn) (w : World) (h : SnB w p s) (ha : s.ar = .slice none 0 0) : Calls Tryz.prog 136 #[.pointer (some ⟨p, 0, none⟩)] w fun e w' => e = .returned (.slice none 0 0) /\ SnB w' p s /\ Kept (fun i => i = p) w w' := by
 obtain ⟨-, -, -, -, -, -, x41⟩ := h.cells2
 rw [ha] at x41
 have f41 := h.free 41
 have hS : SnB (w.setCell ⟨p, 41, none⟩ (.slice none 0 0)) p s := h.putHi 6 (by omega) _ rfl rfl (by rw [<- ha]; rfl)
 have hK : Kept (fun i => i = p) w (w.setCell ⟨p, 41, none⟩ (.slice none 0 0)) := (Kept.refl (fun i => i = p) w).setCell (p := ⟨p, 41, none⟩) (.inl rfl) _
 obtain ⟨V, hV⟩ : ∃ X, w.setCell ⟨p, 41, none⟩ (.slice none 0 0) = X := ⟨_, rfl⟩
 rw [hV] at hS hK
 go_enter Tryz.func136, Tryz.ntmps136
 go_wp2
 go_ret
 exact ⟨rfl, hS, hK⟩
set_option maxRecDepth 100000 in
theorem gfirst_any {at' : Nat} (p rp rows cols : Nat) (lv : Value) (top : Int) (most n : Nat) (a : Option Addr) (c : Nat) (gone : Int) (w : World) (h : GrB w p rp rows cols lv top) (hr : RnA w rp most (.slice a n c) at' gone) (ht : 0 <= top /\ top <= 100000) (hn : n <= 100000) : Calls Tryz.prog 206 #[.pointer (some ⟨p, 0, none⟩)] w fun e w' => e = .returned (.int .i64 (top - n)) /\ Kept (fun _ => False) w w' := by
 have HB := Lib.hid (fun (x : World) (k : Kept (fun _ => False) w x) => gback_any p rp rows cols lv top most n a c gone x (k.blk h id) (k.blk hr id))
 obtain ⟨WR, hWR⟩ : ∃ WR, WR = w.drew := ⟨_, rfl⟩
 have kR : Kept (fun _ => False) w WR := by rw [hWR]; exact (Kept.refl _ _).drew
 obtain ⟨x0, x1, x2, x3, x4⟩ := blk5c h
 have e1 : IntKind.i64.wrap (top - n) = top - n := IntWalk.i64_in _ (by omega)
 clear hWR h hr
 go_enter Tryz.func206, Tryz.ntmps206
 go_wp2
 refine wp_region_still_lit (by kernel_rfl) (by kernel_rfl) ?_
 refine wpStill_step (fun K hK => ?_)
 go_simp
 repeat ((try (refine ⟨_, (HB.out _ (Kept.refl _ _).drew).mono (fun e w2 h2 => ⟨h2.1, h2.2.symm⟩), ?_⟩)); generalize hfr : Act.mk _ _ = fr; refine hK _ ?_; clear hK K; refine wpStill_step (fun K hK => ?_); subst hfr; go_simp)
 (try (refine ⟨_, (HB.out _ (Kept.refl _ _).drew).mono (fun e w2 h2 => ⟨h2.1, h2.2.symm⟩), ?_⟩)); generalize hfr : Act.mk _ _ = fr
 refine hK _ ?_
 clear hK K
 refine wpStill_nil ?_
 subst hfr
 go_wp2
 go_ret
 exact ⟨rfl, (Kept.refl _ _).drew⟩
set_option maxRecDepth 100000 in
theorem check_any (rows cols cw ch back quota : Nat) (hr : 1 <= rows /\ rows <= 1000) (hc : 1 <= cols /\ cols <= 1000) (hw : 1 <= cw /\ cw <= 64) (hh : 1 <= ch /\ ch <= 64) (hb : back <= 16384) (hq : quota <= 1073741824) (w : World) : Calls Tryz.prog 93 #[.agg #[.int .i64 rows, .int .i64 cols, .int .i64 cw, .int .i64 ch, .int .i64 back, .int .i64 quota]] w fun e w' => e = .returned (.int .i64 0) /\ Kept (fun _ => False) w w' := by
 have HB := Lib.hid (fun (v lo hi : Int) (h : lo <= v /\ v <= hi) (x : World) => between_any v lo hi true (by simp [h.1, h.2]) x)
 go_enter Tryz.func93, Tryz.ntmps93
 go_wp2_with (go_at_call 151; refine (HB.out _ _ _ (by omega) _).mono ?_; rintro e w' ⟨rfl, rfl⟩)
 go_ret
 exact ⟨rfl, (Kept.refl _ _).alloc _⟩
attribute [local go_sem] growOp growUpon sameUpon
set_option maxRecDepth 100000 in
set_option maxHeartbeats 8000000 in
theorem firsts_any {at' : Nat} (p : Nat) (s : Sn) (w : World) (h : SnB w p s) (rp0 rows0 cols0 : Nat) (lv0 : Value) (top0 : Int) (most0 n0 : Nat) (a0 : Option Addr) (c0 : Nat) (gone0 : Int) (h0 : GrB w s.g0 rp0 rows0 cols0 lv0 top0) (hr0 : RnA w rp0 most0 (.slice a0 n0 c0) at' gone0) (ht : 0 <= top0 /\ top0 <= 100000) (hn : n0 <= 100000) (rp1 rows1 cols1 : Nat) (lv1 : Value) (top1 : Int) (h1 : GrB w s.g1 rp1 rows1 cols1 lv1 top1) : Calls Tryz.prog 138 #[.pointer (some ⟨p, 0, none⟩)] w fun e w' => e = .returned (.tuple #[.int .i64 (top0 - n0), .int .i64 top1]) /\ Kept (fun _ => False) w w' := by
 obtain ⟨WR, hWR⟩ : ∃ WR, WR = w.drew := ⟨_, rfl⟩
 have kR : Kept (fun _ => False) w WR := by rw [hWR]; exact (Kept.refl _ _).drew
 obtain ⟨x0, x1, -⟩ := (h.kept kR id).cells
 have X0 := cell_regrown x0
 have X1 := cell_regrown x1
 have H6 := Lib.hid (fun (x : World) (k : Kept (fun _ => False) WR x) => gfirst_any s.g0 rp0 rows0 cols0 lv0 top0 most0 n0 a0 c0 gone0 x (k.blk (kR.blk h0 id) id) (k.blk (kR.blk hr0 id) id) ht hn)
 have H7 := Lib.hid (fun (x : World) (k : Kept (fun _ => False) WR x) => gtop_any s.g1 rp1 rows1 cols1 lv1 top1 x (k.blk (kR.blk h1 id) id))
 obtain ⟨R5, hR5⟩ : ∃ R : Value -> World -> Prop, R = fun v w' => v = .int .i64 (top0 - n0) := ⟨_, rfl⟩
 have HR5 := Lib.hid hR5
 have HWR := Lib.hid hWR
 have HK := Lib.hid kR
 clear h h0 hr0 h1 x0 x1 hR5 hWR kR
 go_enter Tryz.func138, Tryz.ntmps138
 go_wp2
 refine wp_region_grow #[0, 1, 3, 7, 15, 31, 0, 64, 192, 448, 960, 2047, 4095, 8191] 11 [] (fun i => if i = 5 then some R5 else none) (by kernel_rfl) rfl (by kernel_rfl) (fun i hi => by cases hi) (fun _ _ _ _ _ h => h) ?_
 rintro _ rfl
 rw [<- HWR.out]
 simp only [List.take_succ_cons, List.take_zero, List.drop_succ_cons, List.drop_zero, number, Nat.reduceAdd]
 iterate 5 (refine wpGrow_step (fun K hK => ?_); go_simp; refine hK _ _ ?_; clear hK K)
 refine wpGrow_step (fun K hK => ?_)
 go_simp
 refine ⟨fun w' hg => (H6.out w' hg.old).mono (fun e w'' ⟨he, hk⟩ => ⟨_, he, hk, by rw [HR5.out]⟩), fun v5 w5 hv5 _ => ?_⟩
 rw [HR5.out] at hv5
 subst hv5
 refine hK _ _ ?_; clear hK K
 iterate 5 (refine wpGrow_step (fun K hK => ?_); go_simp; refine hK _ _ ?_; clear hK K)
 refine wpGrow_nil ?_
 intro w10 hk10 hω
 have H10 := Lib.hid hk10
 clear hk10 hω X0 X1
 go_wp2_with fail
 refine (H7.out _ H10.out).mono ?_
 rintro e w11 ⟨rfl, rfl⟩
 go_wp2
 exact bodyPost_ret (v := .tuple #[.int .i64 (top0 - n0), .int .i64 top1]) (by simp [results, Tryz.results138, go_sem]) rfl ⟨rfl, HK.out.then H10.out⟩
set_option maxRecDepth 100000 in
theorem mode25_any (p : Nat) (s : Sn) (w : World) (h : SnB w p s) (hp : MpB w s.pv prv0) : Calls Tryz.prog 150 #[.pointer (some ⟨p, 0, none⟩), .int .i64 25, .bool true] w fun e w' => e = .returned (.tuple #[.bool true, .bool true]) /\ w = w' := by
 obtain ⟨-, x36, -⟩ := h.cells2
 have hl := mapLook w s.pv 25 true prv0 1 hp rfl
 clear h hp
 go_enter Tryz.func150, Tryz.ntmps150
 go_wp2
 exact bodyPost_ret (v := .tuple #[.bool true, .bool true]) (by simp [results, Tryz.results150, go_sem]) rfl ⟨rfl, rfl⟩
set_option maxRecDepth 100000 in
theorem sgrid_any {at' : Nat} (p rp rows cols most : Nat) (lv rv : Value) (top gone : Int) (ls rs : List Value) (s : Sn) (w : World) (hs : SnB w p s) (h : GrB w s.g0 rp rows cols lv top) (hr : RnA w rp most rv at' gone) (hl : OwnV 68 w lv ls) (ho : OwnV 68 w rv rs) (hn : ls.length <= 100000) (hm : rs.length <= 100000) (h1 : ∀ u ∈ ls, u.oneCell' = true) (h2 : ∀ u ∈ rs, u.oneCell' = true) :
  Calls Tryz.prog 59 #[.pointer (some ⟨p, 0, none⟩)] w fun e w' => ∃ q rq lv' rv', e = .returned (.pointer (some ⟨q, 0, none⟩)) /\ GrB w' q rq rows cols lv' top /\ RnA w' rq most rv' at' gone /\ OwnV 68 w' lv' ls /\ OwnV 68 w' rv' rs /\ Kept (fun _ => False) w w' := by
 have HG := Lib.hid (sg_any p s w hs)
 have HS := Lib.hid (fun (x : World) (k : Kept (fun _ => False) w x) => gtwin_any s.g0 rp rows cols most lv rv top gone ls rs x (k.blk h id) (k.blk hr id) (hl.kept k (fun _ _ => id)) (ho.kept k (fun _ _ => id)) hn hm h1 h2)
 clear hs h hr hl ho hn hm h1 h2
 go_enter Tryz.func59, Tryz.ntmps59
 go_wp2_with fail
 refine HG.out.mono ?_
 rintro e w1 ⟨rfl, hk1⟩
 have H1 := Lib.hid hk1
 clear hk1
 go_wp2_with fail
 refine (HS.out _ H1.out).mono ?_
 rintro e w2 ⟨q, rq, lv', rv', rfl, hq⟩
 have H2 := Lib.hid hq
 clear hq
 go_wp2
 go_ret
 exact ⟨q, rq, lv', rv', rfl, H2.out.1, H2.out.2.1, H2.out.2.2.1, H2.out.2.2.2.1, H1.out.then H2.out.2.2.2.2⟩
end Go.Proofs.YtmplpcmcbliadaaGreatDoor
namespace Go.Proofs.YtmplpcmcbliadaaGreatDoor
open Go.RowKit Go.Sort Pl
def FitC (L : List Cl) (i : Nat) (c : Cl) : Prop := c.k = 0 \/ (c.k = 1 /\ ∃ d, L[i + 1]? = some d /\ d.k = 2) \/ (c.k = 2 /\ c.r = 0 /\ 1 <= i /\ ∃ d, L[i - 1]? = some d /\ d.k = 1)
def Fit (L : List Cl) : Prop := ∀ i c, L[i]? = some c -> FitC L i c
theorem flat_set1 (L : List Cl) (j f : Nat) (c c' : Cl) (v : Value) (hc : L[j]? = some c) (hf : f < 5) (hv : c'.vs = c.vs.set f v) : (flat L).set (j * 5 + f) v = flat (L.set j c') := by
 have hj : j < L.length := (List.getElem?_eq_some_iff.1 hc).1
 have hl := flat_length L
 refine List.ext_getElem? fun q => ?_
 by_cases hq : q < L.length * 5
 ·have hq5 : q / 5 < L.length := by omega
  by_cases h : q / 5 = j
  ·have h2 := flat_get (L.set j c') j (q % 5) c' (by simp [hj]) (by omega)
   have h1 := flat_get L j (q % 5) c hc (by omega)
   rw [show j * 5 + q % 5 = q by omega] at h1 h2
   rw [h2, hv]
   by_cases e : q % 5 = f
   ·have hl5 : c.vs.length = 5 := rfl
    rw [show j * 5 + f = q by omega, List.getElem?_set_self (by omega), e, List.getElem?_set_self (by omega)]
   ·rw [List.getElem?_set_ne (by omega), List.getElem?_set_ne (by omega), h1]
  ·have h1 := flat_get L (q / 5) (q % 5) _ (List.getElem?_eq_getElem hq5) (by omega)
   have h2 := flat_get (L.set j c') (q / 5) (q % 5) L[q / 5] (by rw [List.getElem?_set_ne (by omega)]; exact List.getElem?_eq_getElem hq5) (by omega)
   rw [show q / 5 * 5 + q % 5 = q by omega] at h1 h2
   rw [List.getElem?_set_ne (by omega), h1, h2]
 ·rw [List.getElem?_eq_none (by simp; omega), List.getElem?_eq_none (by rw [flat_length]; simp; omega)]
theorem OwnC.store1 {w : World} {g n cap : Nat} {L : List Cl} (h : OwnC w (.slice (some ⟨g, 0, none⟩) n cap) L) {j : Nat} {c : Cl} (hc : L[j]? = some c) (f : Nat) (hf : f < 5) (v : Value) (c' : Cl) (hv : c'.vs = c.vs.set f v) :
  ∃ V, w.setCell ⟨g, j * 5 + f, none⟩ v = V /\ (∃ x, w.cell? ⟨g, j * 5 + f, none⟩ = some x) /\ w.frozen? ⟨g, j * 5 + f, none⟩ = false /\ OwnC V (.slice (some ⟨g, 0, none⟩) n cap) (L.set j c') /\ Kept (fun i => i = g) w V := by
 have hj : j < L.length := (List.getElem?_eq_some_iff.1 hc).1
 obtain ⟨h1, h2⟩ := h
 rcases h2 with ⟨h3, -⟩ | ⟨g', cap', cur, h3, hb0, hg, hn, hcm, hcs, ht⟩
 ·cases h3
 ·cases h3
  have hsz : L.length * 5 <= cur.size := by rw [hcs]; exact Nat.mul_le_mul_right 5 hn
  refine ⟨_, rfl, ⟨cur[j * 5 + f]'(by omega), by rw [blk_cell hg]; simp [show j * 5 + f < cur.size by omega]⟩, blk_free hg _, ?_, (Kept.refl (fun i => i = g) w).setCell (p := ⟨g, j * 5 + f, none⟩) (.inl rfl) _⟩
  refine ⟨by rw [flat_length], .inr ⟨g, cap, _, by rw [List.length_set], Nat.zero_le _, blk_set hg (j * 5 + f) v, by rw [List.length_set]; exact hn, hcm, by simpa using hcs, ?_⟩⟩
  simp only [Array.toList_setIfInBounds, List.take_set, ht]
  rw [List.length_set, ht]
  exact flat_set1 L j f c c' v hc hf hv
set_option maxRecDepth 100000 in
set_option maxHeartbeats 8000000 in
theorem is_yes (b off n cap i : Nat) (K : Int) (L : List Cl) (d : Cl) (w : World) (hs : SlC w (some ⟨b, off, none⟩) n L) (hi : i < n) (hn : n <= 1000) (hd : L[i]? = some d) (hK : d.k = K) : Calls Tryz.prog 104 #[.slice (some ⟨b, off, none⟩) n cap, .int .i64 i, .int .i64 K] w fun e w' => e = .returned (.bool true) /\ w = w' := by
 obtain ⟨b', off', he, hc⟩ := hs.2.resolve_left (by omega)
 cases he
 have x1 := hc i d hd 1 (by omega)
 unfold Cl.vs at x1
 simp only [List.getElem?_cons_zero, List.getElem?_cons_succ, hK] at x1
 have i0 : (0 : Int) <= (i : Int) := by omega
 have i1 : (i : Int) < (n : Int) := by omega
 have g0 : decide ((0 : Int) <= (i : Int)) = true := decide_eq_true i0
 have g1 : decide ((i : Int) < (n : Int)) = true := decide_eq_true i1
 have g1' : decide (i < n) = true := decide_eq_true hi
 have g2 : (K == K) = true := by simp
 clear hc hd hK hs
 go_enter Tryz.func104, Tryz.ntmps104
 go_wp2
 go_ret
 exact ⟨rfl, rfl⟩
set_option maxRecDepth 100000 in
set_option maxHeartbeats 8000000 in
theorem fitsF_any (b off n cap i : Nat) (L : List Cl) (w : World) (hs : SlC w (some ⟨b, off, none⟩) n L) (hn : n <= 1000) (hi : i < n) (hL : Fit L) : Calls Tryz.prog 61 #[.slice (some ⟨b, off, none⟩) n cap, .int .i64 i] w fun e w' => e = .returned (.bool true) /\ w = w' := by
 have h1 := hs.1
 obtain ⟨b', off', he, hc⟩ := hs.2.resolve_left (by omega)
 cases he
 obtain ⟨c, hcc⟩ : ∃ c, L[i]? = some c := ⟨_, List.getElem?_eq_getElem (by omega)⟩
 have hk := hL i c hcc
 have x1 := hc i c hcc 1 (by omega)
 unfold Cl.vs at x1
 simp only [List.getElem?_cons_zero, List.getElem?_cons_succ] at x1
 have i0 : (0 : Int) <= (i : Int) := by omega
 have i1 : (i : Int) < (n : Int) := by omega
 rcases hk with hk | ⟨hk, d, hd, hdk⟩ | ⟨hk, hr, h1i, d, hd, hdk⟩
 ·rw [hk] at x1
  clear hc hcc hk h1 hL hs
  go_enter Tryz.func61, Tryz.ntmps61
  go_wp2
  go_ret
  exact ⟨rfl, rfl⟩
 ·rw [hk] at x1
  have hdl : i + 1 < n := by rw [<- h1]; exact (List.getElem?_eq_some_iff.1 hd).1
  have wk : IntKind.i64.wrap ((i : Int) + 1) = ((i + 1 : Nat) : Int) := by rw [show (i : Int) + 1 = ((i + 1 : Nat) : Int) by omega]; exact IntWalk.i64_in _ (by omega)
  have HI := Lib.hid (is_yes b off n cap (i + 1) 2 L d w hs hdl hn hd hdk)
  obtain ⟨i2, hi2⟩ : ∃ k, i + 1 = k := ⟨_, rfl⟩
  rw [hi2] at wk HI
  clear hc hcc hk h1 hL hs hd hdl hi2
  go_enter Tryz.func61, Tryz.ntmps61
  go_wp2_with fail
  refine HI.out.mono ?_
  rintro e w1 ⟨rfl, rfl⟩
  go_wp2
  go_ret
  exact ⟨rfl, rfl⟩
 ·rw [hk] at x1
  obtain ⟨j, rfl⟩ : ∃ j, i = j + 1 := ⟨i - 1, by omega⟩
  rw [Nat.add_sub_cancel] at hd
  have wk : IntKind.i64.wrap (((j + 1 : Nat) : Int) - 1) = (j : Int) := by rw [show ((j + 1 : Nat) : Int) - 1 = (j : Int) by omega]; exact IntWalk.i64_in _ (by omega)
  have HI := Lib.hid (is_yes b off n cap j 1 L d w hs (by omega) hn hd hdk)
  obtain ⟨i2, hi2⟩ : ∃ k, j + 1 = k := ⟨_, rfl⟩
  rw [hi2] at wk x1 i0 i1 ⊢
  clear hc hcc hk h1 hL hs hd hi2 h1i
  go_enter Tryz.func61, Tryz.ntmps61
  go_wp2_with fail
  refine HI.out.mono ?_
  rintro e w1 ⟨rfl, rfl⟩
  go_wp2
  go_ret
  exact ⟨rfl, rfl⟩
set_option maxRecDepth 100000 in
set_option maxHeartbeats 8000000 in
theorem mendF_any (b off n cap : Nat) (L : List Cl) (w : World) (hs : SlC w (some ⟨b, off, none⟩) n L) (h1 : 1 <= n) (hn : n <= 1000) (hbw : b < w.heap.size) (hL : Fit L) : Calls Tryz.prog 63 #[.slice (some ⟨b, off, none⟩) n cap] w fun e w' => ∃ v, e = .returned v /\ MadeC w L v w' := by
 have hLl := hs.1
 have HC := Lib.hid (clonec_any ⟨b, off, none⟩ n cap L w hs hn)
 have HF := Lib.hid (fun (i : Nat) (hi : i < n) (w' : World) (hk : SlC w' (some ⟨b, off, none⟩) n L) => fitsF_any b off n cap i L w' hk hn hi hL)
 have HS := Lib.hid (And.intro hs (And.intro hL (And.intro hLl hbw)))
 clear hs hL hLl hbw
 go_enter Tryz.func63, Tryz.ntmps63
 go_wp2_with fail
 refine HC.out.mono ?_
 rintro e w1 ⟨v, rfl, ho, hk1, hb1⟩
 obtain ⟨g, cv, cur, rfl, -⟩ := ho.blk (by have := HS.out.2.2.1; omega)
 rw [HS.out.2.2.1] at ho hb1
 have hgn : w.heap.size <= g := hb1 g rfl
 have H1 := Lib.hid (And.intro ho (And.intro hk1 hgn))
 have hLl := HS.out.2.2.1
 rw [hLl]
 clear ho hk1 hb1 hgn hLl
 go_wp2
 go_loopg [4, 5, 10, 15, 33, 44] n (fun gg _ _ iv _ _ _ wr => ∃ k : Nat, n <= gg + k /\ k <= n /\ iv = .int .i64 (k : Int) /\ OwnC wr (.slice (some ⟨g, 0, none⟩) n cv) L /\ Kept (fun i => i = g) w1 wr)
 case atStart => exact ⟨0, by omega, by omega, rfl, H1.out.1, Kept.refl _ _⟩
 case round =>
  obtain ⟨k, hgg, hk, rfl, hov, hkr⟩ := hrel
  by_cases hk1 : k < n
  ·have g1 : decide (k < n) = true := decide_eq_true hk1
   have g1' : decide ((k : Int) < (n : Int)) = true := decide_eq_true (by omega)
   have wk : IntKind.i64.wrap ((k : Int) + 1) = (k : Int) + 1 := IntWalk.i64_in _ (by omega)
   have i0 : (0 : Int) <= (k : Int) := by omega
   have i1 : (k : Int) < (n : Int) := by omega
   have hsr : SlC wr (some ⟨b, off, none⟩) n L := (HS.out.1.kept H1.out.2.1 (fun _ _ _ _ => id)).kept hkr (fun b' off' _ ha e => by
    cases ha
    have e1 : b = g := e
    have := H1.out.2.2
    have := HS.out.2.2.2
    omega)
   obtain ⟨b', off', he, hc⟩ := hsr.2.resolve_left (by omega)
   cases he
   obtain ⟨c, hcc⟩ : ∃ c, L[k]? = some c := ⟨_, List.getElem?_eq_getElem (by have := HS.out.2.2.1; omega)⟩
   have hkk := HS.out.2.1 k c hcc
   have y0 := hc k c hcc 0 (by omega)
   have y1 := hc k c hcc 1 (by omega)
   have y2 := hc k c hcc 2 (by omega)
   have y3 := hc k c hcc 3 (by omega)
   have y4 := hc k c hcc 4 (by omega)
   rw [Nat.add_zero] at y0
   obtain ⟨cr, ck, fg, bg, fl⟩ := c
   unfold Cl.vs at y0 y1 y2 y3 y4
   simp only [List.getElem?_cons_zero, List.getElem?_cons_succ] at y0 y1 y2 y3 y4 hkk
   obtain ⟨W2, hW2⟩ : ∃ W2, wr.alloc (.cells #[.int .i32 cr, .int .i64 ck, .int .i64 fg, .int .i64 bg, .int .i64 fl] 70) = W2 := ⟨_, rfl⟩
   have k2 : Kept (fun _ => False) wr W2 := by rw [<- hW2]; exact (Kept.refl _ _).alloc _
   have b2 : W2.heap[wr.heap.size]? = some (.cells #[.int .i32 cr, .int .i64 ck, .int .i64 fg, .int .i64 bg, .int .i64 fl] 70 (0, 0)) := by rw [<- hW2]; exact blk_new _ _
   obtain ⟨z0, z1, z2, z3, z4⟩ := blk5 b2
   have HFI := Lib.hid (HF.out k hk1 W2 (hsr.kept k2 (fun _ _ _ _ => id)))
   have ho2 := hov.kept k2 (fun _ _ => id)
   have HK2 := Lib.hid (And.intro ho2 (hkr.then (k2.mono fun _ _ h => h.elim)))
   rcases hkk with hkk | ⟨hkk, -⟩ | ⟨hkk, hr0, -⟩
   ·simp only at hkk
    subst hkk
    clear hc hcc hkr hov k2 b2 hsr ho2
    go_wp2_with fail
    refine HFI.out.mono ?_
    rintro e w' ⟨rfl, rfl⟩
    go_wp2
    go_roundg (gk - 1)
    case rel => exact ⟨k + 1, by omega, by omega, by go_num, HK2.out⟩
    case measure => omega
   ·simp only at hkk
    subst hkk
    clear hc hcc hkr hov k2 b2 hsr ho2
    go_wp2_with fail
    refine HFI.out.mono ?_
    rintro e w' ⟨rfl, rfl⟩
    go_wp2
    go_roundg (gk - 1)
    case rel => exact ⟨k + 1, by omega, by omega, by go_num, HK2.out⟩
    case measure => omega
   ·simp only at hkk hr0
    subst hkk
    subst hr0
    obtain ⟨V, hV, ⟨x0, c0⟩, f0, oV, kV⟩ := ho2.store1 hcc 0 (by omega) (.int .i32 0) ⟨0, 2, ⟨fg, bg, fl⟩⟩ rfl
    have hsame : L.set k ⟨0, 2, ⟨fg, bg, fl⟩⟩ = L := by
     refine List.ext_getElem? fun q => ?_
     by_cases e : k = q
     ·subst e; rw [List.getElem?_set_self (by have := HS.out.2.2.1; omega), hcc]
     ·rw [List.getElem?_set_ne e]
    rw [hsame] at oV
    rw [Nat.add_zero] at hV c0 f0
    have HV := Lib.hid (And.intro oV (HK2.out.2.then kV))
    clear hc hcc hkr hov k2 b2 hsr ho2 oV kV hsame HK2
    go_wp2_with fail
    refine HFI.out.mono ?_
    rintro e w' ⟨rfl, rfl⟩
    go_wp2
    go_roundg (gk - 1)
    case rel => exact ⟨k + 1, by omega, by omega, by go_num, HV.out⟩
    case measure => omega
  ·obtain rfl : k = n := by omega
   have g1 : decide (k < k) = false := decide_eq_false (by omega)
   have HE := Lib.hid (show MadeC w L (.slice (some ⟨g, 0, none⟩) k cv) wr from ⟨hov, H1.out.2.1.trans (hkr.mono fun i _ hi => .inr (by rw [show i = g from hi]; exact H1.out.2.2)), fun b' hb => by cases hb; exact H1.out.2.2⟩)
   clear hkr hov
   go_wp2
   go_ret
   exact ⟨_, rfl, HE.out⟩
set_option maxRecDepth 100000 in
set_option maxHeartbeats 8000000 in
theorem halvesF_any (b off n cap : Nat) (f t lo : Int) (L : List Cl) (w : World) (hs : SlC w (some ⟨b, off, none⟩) n L) (hn : n <= 1000) (hf : f - 1 = lo) (hlo : -1 <= lo /\ lo < n) (ht : 0 <= t /\ t <= n) (hL : Fit L) : Calls Tryz.prog 354 #[.slice (some ⟨b, off, none⟩) n cap, .int .i64 f, .int .i64 t] w fun e w' => e = .returned (.slice (some ⟨b, off, none⟩) n cap) /\ Kept (fun _ => False) w w' := by
 have HF := Lib.hid (fun (i : Nat) (hi : i < n) (w' : World) (hk : Kept (fun _ => False) w w') => fitsF_any b off n cap i L w' (hs.kept hk (fun _ _ _ _ => id)) hn hi hL)
 have w1 : IntKind.i64.wrap lo = lo := IntWalk.i64_in _ (by omega)
 obtain ⟨V, hV⟩ : ∃ V, w.alloc (.cells #[.int .i64 lo, .int .i64 t] 3) = V := ⟨_, rfl⟩
 have kV : Kept (fun _ => False) w V := by rw [<- hV]; exact (Kept.refl _ _).alloc _
 have b0 : V.heap[w.heap.size]? = some (.cells #[.int .i64 lo, .int .i64 t] 3 (0, 0)) := by rw [<- hV]; exact blk_new _ _
 have HK := Lib.hid kV
 obtain ⟨⟨x0, -⟩, x1, -⟩ := blk2 b0
 clear hs hL kV b0
 by_cases c1 : 0 <= lo
 ·obtain ⟨j, rfl⟩ : ∃ j : Nat, lo = (j : Int) := ⟨lo.toNat, by omega⟩
  have g1 : decide ((0 : Int) <= (j : Int)) = true := decide_eq_true (by omega)
  have g2 : decide ((j : Int) < (n : Int)) = true := decide_eq_true (by omega)
  have g2' : decide (j < n) = true := decide_eq_true (by omega)
  by_cases c2 : t < n
  ·obtain ⟨m, rfl⟩ : ∃ m : Nat, t = (m : Int) := ⟨t.toNat, by omega⟩
   have g3 : decide ((0 : Int) <= (m : Int)) = true := decide_eq_true (by omega)
   have g4 : decide ((m : Int) < (n : Int)) = true := decide_eq_true (by omega)
   have g4' : decide (m < n) = true := decide_eq_true (by omega)
   go_enter Tryz.func354, Tryz.ntmps354
   go_wp2
   refine wp_loop_rounds 3 ?_
   rw [rounds_succ]
   go_wp2_with fail
   refine (HF.out j (by omega) _ HK.out).mono ?_
   rintro e w' ⟨rfl, rfl⟩
   go_wp2
   rw [rounds_succ]
   go_wp2_with fail
   refine (HF.out m (by omega) _ HK.out).mono ?_
   rintro e w' ⟨rfl, rfl⟩
   go_wp2
   rw [rounds_succ]
   go_wp2
   go_ret
   exact ⟨rfl, HK.out⟩
  ·have g3 : decide (0 <= t) = true := decide_eq_true (by omega)
   have g4 : decide (t < (n : Int)) = false := decide_eq_false (by omega)
   go_enter Tryz.func354, Tryz.ntmps354
   go_wp2
   refine wp_loop_rounds 3 ?_
   rw [rounds_succ]
   go_wp2_with fail
   refine (HF.out j (by omega) _ HK.out).mono ?_
   rintro e w' ⟨rfl, rfl⟩
   go_wp2
   rw [rounds_succ]
   go_wp2
   rw [rounds_succ]
   go_wp2
   go_ret
   exact ⟨rfl, HK.out⟩
 ·have g1 : decide (0 <= lo) = false := decide_eq_false (by omega)
  by_cases c2 : t < n
  ·obtain ⟨m, rfl⟩ : ∃ m : Nat, t = (m : Int) := ⟨t.toNat, by omega⟩
   have g3 : decide ((0 : Int) <= (m : Int)) = true := decide_eq_true (by omega)
   have g4 : decide ((m : Int) < (n : Int)) = true := decide_eq_true (by omega)
   have g4' : decide (m < n) = true := decide_eq_true (by omega)
   go_enter Tryz.func354, Tryz.ntmps354
   go_wp2
   refine wp_loop_rounds 3 ?_
   rw [rounds_succ]
   go_wp2
   rw [rounds_succ]
   go_wp2_with fail
   refine (HF.out m (by omega) _ HK.out).mono ?_
   rintro e w' ⟨rfl, rfl⟩
   go_wp2
   rw [rounds_succ]
   go_wp2
   go_ret
   exact ⟨rfl, HK.out⟩
  ·have g3 : decide (0 <= t) = true := decide_eq_true (by omega)
   have g4 : decide (t < (n : Int)) = false := decide_eq_false (by omega)
   go_enter Tryz.func354, Tryz.ntmps354
   go_wp2
   refine wp_loop_rounds 3 ?_
   rw [rounds_succ]
   go_wp2
   rw [rounds_succ]
   go_wp2
   rw [rounds_succ]
   go_wp2
   go_ret
   exact ⟨rfl, HK.out⟩
set_option maxRecDepth 100000 in
set_option maxHeartbeats 8000000 in
theorem resizeF_any (b off n cap : Nat) (L : List Cl) (w : World) (hs : SlC w (some ⟨b, off, none⟩) n L) (h1 : 1 <= n) (hn : n <= 1000) (hbw : b < w.heap.size) (hL : Fit L) :
  Calls Tryz.prog 350 #[.slice (some ⟨b, off, none⟩) n cap, .int .i64 n] w fun e w' => ∃ v, e = .returned v /\ MadeC w L v w' := by
 have hlen := hs.1
 have HM := Lib.hid (mendF_any b off n cap L w hs h1 hn hbw hL)
 have HL := Lib.hid (And.intro hL hlen)
 have m1 : decide ((n : Int) < 0) = false := decide_eq_false (by omega)
 have m2 : decide (1000 < (n : Int)) = false := decide_eq_false (by omega)
 have m3 : max (n : Int) 0 = (n : Int) := by omega
 have m4 : min (n : Int) 1000 = (n : Int) := by omega
 clear hs hL hlen
 go_enter Tryz.func350, Tryz.ntmps350
 go_wp2_with fail
 refine HM.out.mono ?_
 rintro e w1 ⟨v, rfl, ho, hk, hb⟩
 have hb0 := ho.blk (by rw [HL.out.2]; omega)
 obtain ⟨g, c1, cur, rfl, hg, hc1, hc2, -⟩ := hb0
 obtain ⟨a', c', he, hsl, -⟩ := ho.shape
 rw [HL.out.2] at he hsl hc1
 cases he
 have hgl := lt_of_blk hg
 have HM2 := Lib.hid (mendF_any g 0 n c1 L w1 hsl h1 hn hgl HL.out.1)
 have H1 := Lib.hid (And.intro ho (And.intro hk hb))
 have hll := HL.out.2
 have g1 : decide (n <= n) = true := decide_eq_true (by omega)
 have n0 : (0 : Int) <= (n : Int) := by omega
 have n1 : n <= c1 := hc1
 clear ho hk hb hg hsl hgl hc1
 rw [hll]
 clear hll
 go_wp2_with fail
 refine HM2.out.mono ?_
 rintro e w2 ⟨v2, rfl, ho2, hk2, hb2⟩
 have H2 := Lib.hid (show MadeC w L v2 w2 from ⟨ho2, H1.out.2.1.then hk2, fun b h => Nat.le_trans H1.out.2.1.size (hb2 b h)⟩)
 clear ho2 hk2 hb2
 go_wp2
 go_ret
 exact ⟨v2, rfl, H2.out⟩
theorem fit_put {L : List Cl} (h : Fit L) {k : Nat} (hk : k + 1 < L.length) (h0 : ∀ c, L[k]? = some c -> c.k = 0) (h1 : ∀ c, L[k + 1]? = some c -> c.k = 0) (r : Int) (a : Look) : Fit ((L.set k ⟨r, 1, a⟩).set (k + 1) ⟨0, 2, a⟩) := by
 intro i c hc
 have g0 : ((L.set k ⟨r, 1, a⟩).set (k + 1) ⟨0, 2, a⟩)[k]? = some ⟨r, 1, a⟩ := by rw [List.getElem?_set_ne (by omega), List.getElem?_set_self (by omega)]
 have g1 : ((L.set k ⟨r, 1, a⟩).set (k + 1) ⟨0, 2, a⟩)[k + 1]? = some ⟨0, 2, a⟩ := by rw [List.getElem?_set_self (by simp; omega)]
 by_cases e1 : i = k + 1
 ·subst e1
  rw [g1] at hc
  cases hc
  exact .inr (.inr ⟨rfl, rfl, by omega, _, g0, rfl⟩)
 ·by_cases e0 : i = k
  ·subst e0
   rw [g0] at hc
   cases hc
   exact .inr (.inl ⟨rfl, _, g1, rfl⟩)
  ·have ho : ∀ j, j ≠ k -> j ≠ k + 1 -> ((L.set k ⟨r, 1, a⟩).set (k + 1) ⟨0, 2, a⟩)[j]? = L[j]? := fun j a1 a2 => by rw [List.getElem?_set_ne (by omega), List.getElem?_set_ne (by omega)]
   rw [ho i e0 e1] at hc
   rcases h i c hc with hf | ⟨hf, d, hd, hdk⟩ | ⟨hf, hr, hi, d, hd, hdk⟩
   ·exact .inl hf
   ·refine .inr (.inl ⟨hf, d, ?_, hdk⟩)
    rw [ho (i + 1) (fun e => ?_) (by omega)]
    ·exact hd
    ·rw [e] at hd; have := h0 d hd; omega
   ·refine .inr (.inr ⟨hf, hr, hi, d, ?_, hdk⟩)
    rw [ho (i - 1) (by omega) (fun e => ?_)]
    ·exact hd
    ·rw [e] at hd; have := h1 d hd; omega
set_option maxRecDepth 100000 in
set_option maxHeartbeats 8000000 in
theorem putw_any (b off n cap k : Nat) (r : Int) (a : Look) (L : List Cl) (w : World) (hs : SlC w (some ⟨b, off, none⟩) n L) (hn : n <= 1000) (hk : k + 1 < n) (hbw : b < w.heap.size) (hL : Fit L) (h0 : ∀ c, L[k]? = some c -> c.k = 0) (h1 : ∀ c, L[k + 1]? = some c -> c.k = 0) :
  Calls Tryz.prog 274 #[.slice (some ⟨b, off, none⟩) n cap, .int .i64 k, .int .i32 r, .int .i64 2, lookV a] w fun e w' => ∃ v, e = .returned (.tuple #[v, .bool true]) /\ MadeC w ((L.set k ⟨r, 1, a⟩).set (k + 1) ⟨0, 2, a⟩) v w' := by
 have hLl := hs.1
 have hfit := fit_put hL (by omega) h0 h1 r a
 obtain ⟨fg, bg, fl⟩ := a
 unfold lookV
 obtain ⟨V, hV⟩ : ∃ V, w.alloc (.cells #[.int .i64 fg, .int .i64 bg, .int .i64 fl] 53) = V := ⟨_, rfl⟩
 have kV : Kept (fun _ => False) w V := by rw [<- hV]; exact (Kept.refl _ _).alloc _
 have b0 : V.heap[w.heap.size]? = some (.cells #[.int .i64 fg, .int .i64 bg, .int .i64 fl] 53 (0, 0)) := by rw [<- hV]; exact blk_new _ _
 have HM := Lib.hid (mendF_any b off n cap L V (hs.kept kV (fun _ _ _ _ => id)) (by omega) hn (Nat.lt_of_lt_of_le hbw kV.size) hL)
 have H0 := Lib.hid (And.intro kV b0)
 have HL := Lib.hid (And.intro hfit hLl)
 have g1 : decide ((k : Int) < 0) = false := decide_eq_false (by omega)
 have u1 : IntKind.i64.wrap ((n : Int) - 2) = (n : Int) - 2 := IntWalk.i64_in _ (by omega)
 have g2 : decide ((n : Int) - 2 < (k : Int)) = false := decide_eq_false (by omega)
 have k0 : (0 : Int) <= (k : Int) := by omega
 have k1 : (k : Int) < (n : Int) := by omega
 obtain ⟨m, hm⟩ : ∃ m, k + 1 = m := ⟨_, rfl⟩
 have u2 : IntKind.i64.wrap ((k : Int) + 1) = (m : Int) := by rw [<- hm, show (k : Int) + 1 = ((k + 1 : Nat) : Int) by omega]; exact IntWalk.i64_in _ (by omega)
 have u3 : IntKind.i64.wrap ((k : Int) + 2) = (k : Int) + 2 := IntWalk.i64_in _ (by omega)
 have m0 : (0 : Int) <= (m : Int) := by omega
 have m1 : (m : Int) < (n : Int) := by omega
 have HMM := Lib.hid hm
 rw [hm] at hk ⊢
 clear kV b0 hs hL hLl hbw h0 h1 hfit hm
 go_enter Tryz.func274, Tryz.ntmps274
 go_wp2_with fail
 refine HM.out.mono ?_
 rintro e w1 ⟨v, rfl, ho, hk1, hb1⟩
 obtain ⟨g, cv, cur, hge, -⟩ := ho.blk (by have := HL.out.2; omega)
 rw [HL.out.2] at hge
 subst hge
 obtain ⟨V1, V2, V3, V4, V5, e1, e2, e3, e4, e5, ⟨x0, y0⟩, ⟨x1, y1⟩, ⟨x2, y2⟩, ⟨x3, y3⟩, ⟨x4, y4⟩, f0, f1, f2, f3, f4, ho5, hk5⟩ := ho.store (j := k) (by omega) ⟨r, 0, ⟨fg, bg, fl⟩⟩
 simp only at e1 e2 e3 e4 e5
 obtain ⟨V6, e6, ⟨x6, y6⟩, f6, ho6, hk6⟩ := ho5.store1 (j := k) (c := ⟨r, 0, ⟨fg, bg, fl⟩⟩) (by rw [List.getElem?_set_self (by have := HL.out.2; omega)]) 1 (by omega) (.int .i64 1) ⟨r, 1, ⟨fg, bg, fl⟩⟩ rfl
 have hss : (L.set k ⟨r, 0, ⟨fg, bg, fl⟩⟩).set k ⟨r, 1, ⟨fg, bg, fl⟩⟩ = L.set k ⟨r, 1, ⟨fg, bg, fl⟩⟩ := by rw [List.set_set]
 rw [hss] at ho6
 obtain ⟨V7, V8, V9, V10, V11, e7, e8, e9, e10, e11, ⟨x7, y7⟩, ⟨x8, y8⟩, ⟨x9, y9⟩, ⟨x10, y10⟩, ⟨x11, y11⟩, f7, f8, f9, f10, f11, ho11, hk11⟩ := ho6.store (j := m) hk ⟨0, 2, ⟨fg, bg, fl⟩⟩
 simp only at e7 e8 e9 e10 e11
 have hgw : w.heap.size + 1 <= g := by have h1 := hb1 g rfl; have h2 := lt_of_blk H0.out.2; omega
 have hB1 := hk1.blk H0.out.2 id
 have hB6 := hk6.blk (hk5.blk hB1 (fun e => by have e1 : w.heap.size = g := e; omega)) (fun e => by have e1 : w.heap.size = g := e; omega)
 obtain ⟨⟨d0, -⟩, ⟨d1, -⟩, d2, -⟩ := blk3 hB1
 obtain ⟨⟨d3, -⟩, ⟨d4, -⟩, d5, -⟩ := blk3 hB6
 have HH := Lib.hid (fun (f t lo : Int) (hf : f - 1 = lo) (hlo : -1 <= lo /\ lo < n) (ht : 0 <= t /\ t <= n) => halvesF_any g 0 n cv f t lo ((L.set k ⟨r, 1, ⟨fg, bg, fl⟩⟩).set m ⟨0, 2, ⟨fg, bg, fl⟩⟩) V11 (by
  obtain ⟨a9, c9, hv9, hs9, -⟩ := ho11.shape
  rw [List.length_set, List.length_set, HL.out.2] at hv9 hs9
  cases hv9
  exact hs9) hn hf hlo ht (by rw [<- HMM.out]; exact HL.out.1))
 have HE := Lib.hid (show MadeC w ((L.set k ⟨r, 1, ⟨fg, bg, fl⟩⟩).set m ⟨0, 2, ⟨fg, bg, fl⟩⟩) (.slice (some ⟨g, 0, none⟩) n cv) V11 from ⟨ho11, (H0.out.1.then hk1).trans (((hk5.then hk6).then hk11).mono fun i _ hi => Or.inr (by have h9 : i = g := hi; omega)), fun b hb => by have h8 : g = b := (by cases hb; rfl); omega⟩)
 have hmn := HMM.out
 have hti : ((k : Int) + 2 <= n) := by omega
 clear ho hb1 hk1 ho5 hk5 ho6 hk6 ho11 hk11 hgw hB1 hB6 hss hmn
 go_wp2_with fail
 refine (HH.out k ((k : Int) + 2) ((k : Int) - 1) rfl (by omega) (by omega)).mono ?_
 rintro e w6 ⟨rfl, hk6⟩
 have HE6 := Lib.hid (show MadeC w ((L.set k ⟨r, 1, ⟨fg, bg, fl⟩⟩).set m ⟨0, 2, ⟨fg, bg, fl⟩⟩) (.slice (some ⟨g, 0, none⟩) n cv) w6 from ⟨HE.out.1.kept hk6 (fun _ _ => id), HE.out.2.1.then hk6, HE.out.2.2⟩)
 clear hk6
 go_wp2
 exact bodyPost_ret (v := .tuple #[.slice (some ⟨g, 0, none⟩) n cv, .bool true]) (by simp [results, Tryz.results274, go_sem]) rfl ⟨_, rfl, HE6.out⟩
set_option maxRecDepth 100000 in
set_option maxHeartbeats 8000000 in
theorem rightL_any (b off n cap : Nat) (L : List Cl) (w : World) (hs : SlC w (some ⟨b, off, none⟩) n L) (h1 : 1 <= n) (hn : n <= 1000) (hL : Fit L) : Calls Tryz.prog 33 #[.slice (some ⟨b, off, none⟩) n cap] w fun e w' => e = .returned (.bool true) /\ Kept (fun _ => False) w w' := by
 have HF := Lib.hid (fun (i : Nat) (hi : i < n) (w' : World) (hk : Kept (fun _ => False) w w') => fitsF_any b off n cap i L w' (hs.kept hk (fun _ _ _ _ => id)) hn hi hL)
 have HS := Lib.hid (And.intro hs (And.intro hL hs.1))
 clear hs hL
 go_enter Tryz.func33, Tryz.ntmps33
 go_wp2
 go_loopg [3, 4, 7] n (fun gg _ _ iv wr => ∃ k : Nat, n <= gg + k /\ k <= n /\ iv = .int .i64 (k : Int) /\ Kept (fun _ => False) w wr)
 case atStart => exact ⟨0, by omega, by omega, rfl, Kept.refl _ _⟩
 case round =>
  obtain ⟨k, hgg, hk, rfl, hkr⟩ := hrel
  by_cases hk1 : k < n
  ·have g1 : decide (k < n) = true := decide_eq_true hk1
   have g1' : decide ((k : Int) < (n : Int)) = true := decide_eq_true (by omega)
   have wk : IntKind.i64.wrap ((k : Int) + 1) = (k : Int) + 1 := IntWalk.i64_in _ (by omega)
   have i0 : (0 : Int) <= (k : Int) := by omega
   have i1 : (k : Int) < (n : Int) := by omega
   obtain ⟨b', off', he, hc⟩ := (HS.out.1.kept hkr (fun _ _ _ _ => id)).2.resolve_left (by omega)
   cases he
   obtain ⟨c, hcc⟩ : ∃ c, L[k]? = some c := ⟨_, List.getElem?_eq_getElem (by have := HS.out.2.2; omega)⟩
   have hkk := HS.out.2.1 k c hcc
   have y0 := hc k c hcc 0 (by omega)
   have y1 := hc k c hcc 1 (by omega)
   have y2 := hc k c hcc 2 (by omega)
   have y3 := hc k c hcc 3 (by omega)
   have y4 := hc k c hcc 4 (by omega)
   rw [Nat.add_zero] at y0
   obtain ⟨cr, ck, fg, bg, fl⟩ := c
   unfold Cl.vs at y0 y1 y2 y3 y4
   simp only [List.getElem?_cons_zero, List.getElem?_cons_succ] at y0 y1 y2 y3 y4 hkk
   have hkk' : ck = 0 \/ ck = 1 \/ (ck = 2 /\ cr = 0) := by
    rcases hkk with h | ⟨h, -⟩ | ⟨h, h2, -⟩
    ·exact .inl h
    ·exact .inr (.inl h)
    ·exact .inr (.inr ⟨h, h2⟩)
   obtain ⟨W2, hW2⟩ : ∃ W2, wr.alloc (.cells #[.int .i32 cr, .int .i64 ck, .int .i64 fg, .int .i64 bg, .int .i64 fl] 70) = W2 := ⟨_, rfl⟩
   have k2 : Kept (fun _ => False) wr W2 := by rw [<- hW2]; exact (Kept.refl _ _).alloc _
   have b2 : W2.heap[wr.heap.size]? = some (.cells #[.int .i32 cr, .int .i64 ck, .int .i64 fg, .int .i64 bg, .int .i64 fl] 70 (0, 0)) := by rw [<- hW2]; exact blk_new _ _
   obtain ⟨z0, z1, z2, z3, z4⟩ := blk5 b2
   have HFI := Lib.hid (HF.out k hk1 W2 (hkr.then k2))
   have HK2 := Lib.hid (hkr.then k2)
   clear hc hcc hkr k2 b2 hkk
   rcases hkk' with rfl | rfl | ⟨rfl, rfl⟩
   all_goals
    go_wp2_with fail
    refine HFI.out.mono ?_
    rintro e w' ⟨rfl, rfl⟩
    go_wp2
    go_roundg (gk - 1)
    case rel => exact ⟨k + 1, by omega, by omega, by go_num, HK2.out⟩
    case measure => omega
  ·obtain rfl : k = n := by omega
   have g1 : decide (k < k) = false := decide_eq_false (by omega)
   have HE := Lib.hid hkr
   clear hkr
   go_wp2
   go_ret
   exact ⟨rfl, HE.out⟩
end Go.Proofs.YtmplpcmcbliadaaGreatDoor
