/- TopText's walk: what is said is true. -/
import Derived.Test.YtmplpcmcbliadaaGreatDoorBx23
import Derived.Deep.LoopGhost
set_option linter.unusedVariables false
set_option linter.unusedSimpArgs false
namespace Go.Proofs.YtmplpcmcbliadaaGreatDoor
open Go.RowKit Go.Sort Pl
def tb (x : Int) : Int := 33 + x.tmod 94
theorem tb_in {x : Int} (h : 0 <= x /\ x < 256) : 33 <= tb x /\ tb x <= 126 := by
 unfold tb
 rw [Int.tmod_eq_emod_of_nonneg h.1]
 omega
def LinesIn (w : World) (vs : List Value) (LS : List (List Cl)) : Prop := vs.length = LS.length /\ ∀ (j : Nat) (u : Value) (l : List Cl), vs[j]? = some u -> LS[j]? = some l -> OwnC w u l
theorem LinesIn.up {w w' : World} {vs : List Value} {LS : List (List Cl)} (h : LinesIn w vs LS) (hk : Kept (fun _ => False) w w') : LinesIn w' vs LS := ⟨h.1, fun j u l hu hl => (h.2 j u l hu hl).kept hk (fun _ _ => id)⟩
theorem LinesIn.app {w w' : World} {vs us : List Value} {LS MS : List (List Cl)} (h : LinesIn w vs LS) (g : LinesIn w us MS) {v : Value} {vv : List Value} (hv : OwnV 68 w v vv) (hk : Kept (fun k => v.ownBlock = some k) w w') : LinesIn w' (vs ++ us) (LS ++ MS) := by
 have up : ∀ x m, OwnC w x m -> OwnC w' x m := fun x m hx => hx.kept hk (fun b hb hS => by
  obtain ⟨c1, h1⟩ := ownC_blk hx hb
  obtain ⟨c2, h2⟩ := ownV_blk hv hS
  exact blk_ty2 h1 h2 (by decide))
 refine ⟨by simp [h.1, g.1], fun j u l hu hl => ?_⟩
 by_cases hj : j < vs.length
 ·rw [List.getElem?_append_left hj] at hu
  rw [List.getElem?_append_left (by rw [<- h.1]; exact hj)] at hl
  exact up _ _ (h.2 j u l hu hl)
 ·rw [List.getElem?_append_right (by omega)] at hu
  rw [List.getElem?_append_right (by rw [<- h.1]; omega), <- h.1] at hl
  exact up _ _ (g.2 _ u l hu hl)
set_option maxRecDepth 100000 in
set_option maxHeartbeats 8000000 in
theorem text_go (rows cols : Int) (a : Option Addr) (len cap : Nat) (xs : List Int) (w : World) (hn0 : Pl.In rows) (hn1 : Pl.In cols) (hs : SlAt .u8 w a len xs) (hby : ∀ x ∈ xs, 0 <= x /\ x < 256) :
  Calls Tryz.prog 8 #[.int .i64 rows, .int .i64 cols, .slice a len cap] w fun e w' => e = .returned (.bool true) /\ Kept (fun _ => False) w w' := by
 have hxl := hs.1
 go_enter Tryz.func8, Tryz.ntmps8
 go_wp2_with fail
 refine (known_any w).mono ?_
 rintro e w1 ⟨rfl, hk1⟩
 have HK1 := Lib.hid hk1
 have HS := Lib.hid (And.intro hs (And.intro hby hxl))
 have HN := Lib.hid (And.intro hn0 hn1)
 clear hk1 hs hby hxl hn0 hn1
 by_cases c1 : 200 < len
 ·have g1 : decide ((200 : Int) < (len : Int)) = true := decide_eq_true (by omega)
  have g1' : decide (200 < len) = true := decide_eq_true c1
  go_wp2
  exact bodyPost_ret (v := .bool true) (by simp [results, Tryz.results8, go_sem]) rfl ⟨rfl, HK1.out⟩
 have g1 : decide ((200 : Int) < (len : Int)) = false := decide_eq_false (by omega)
 have g1' : decide (200 < len) = false := decide_eq_false c1
 have HP6 := Lib.hid (place_any rows 6 (by omega) HN.out.1 w1)
 have HP12 := Lib.hid (place_any cols 12 (by omega) HN.out.2 w1)
 clear HN
 go_wp2_with fail
 refine HP6.out.mono ?_
 rintro e w2 ⟨⟨r, hr, rfl⟩, rfl⟩
 have wr1 : IntKind.i64.wrap (1 + (r : Int)) = ((r + 1 : Nat) : Int) := by rw [show (1 : Int) + (r : Int) = ((r + 1 : Nat) : Int) by omega]; exact IntWalk.i64_in _ (by omega)
 obtain ⟨R, hR⟩ : ∃ R, r + 1 = R := ⟨_, rfl⟩
 rw [hR] at wr1
 go_wp2_with fail
 refine HP12.out.mono ?_
 rintro e w3 ⟨⟨c, hc, rfl⟩, rfl⟩
 have wc1 : IntKind.i64.wrap (1 + (c : Int)) = ((c + 1 : Nat) : Int) := by rw [show (1 : Int) + (c : Int) = ((c + 1 : Nat) : Int) by omega]; exact IntWalk.i64_in _ (by omega)
 obtain ⟨C, hC⟩ : ∃ C, c + 1 = C := ⟨_, rfl⟩
 rw [hC] at wc1
 have HT := Lib.hid (tmnew_any ⟨R, C, 1, 1, 300, 0⟩ (by show 1 <= R /\ R <= 1000; omega) (by show 1 <= C /\ C <= 16; omega) (by show 1 <= 1 /\ 1 <= 64; omega) (by show 1 <= 1 /\ 1 <= 64; omega) (by show 300 <= 16384; omega) (by show 0 <= 1073741824; omega) w1)
 unfold Cf.val at HT
 simp only at HT
 have HRC := Lib.hid (And.intro (show 1 <= R /\ R <= 6 by omega) (show 1 <= C /\ C <= 12 by omega))
 clear hr hc hR hC
 go_wp2_with fail
 refine HT.out.mono ?_
 rintro e w4 ⟨q, s, en, p, G, Gs, Ge, GP, rfl, h⟩
 obtain ⟨s, en, p, hlv⟩ := live_new (w := w1) (w1 := w4) (c := ⟨R, C, 1, 1, 300, 0⟩) (q := q) ⟨s, en, p, G, Gs, Ge, GP, h⟩ (by have := HRC.out; show 1 <= R /\ R <= 1000; omega) (by have := HRC.out; show 1 <= C /\ C <= 1000; omega)
 have HL := Lib.hid hlv
 have HK4 := Lib.hid (show Kept (fun _ => False) w1 w4 from h.2.2.2.2)
 clear h hlv HT HP6 HP12
 obtain ⟨i0, hi, hz0, hs0, hb0⟩ := info_parts Tryz.infoByte
 have HI := Lib.hid (And.intro hi (And.intro hz0 (And.intro hs0 hb0)))
 clear hi hz0 hs0 hb0
 go_wp2
 go_loopg [9, 10] (len + 1) (fun gg bv iv wr => ∃ (k : Nat) (v : Value), len + 1 <= gg + k /\ k <= len /\ bv = v /\ iv = .int .i64 (k : Int) /\ Own .u8 5 wr v ((xs.take k).map tb) /\ (∀ b, v.ownBlock = some b -> w4.heap.size <= b) /\ Kept (fun _ => False) w4 wr)
 case atStart => exact ⟨0, _, by omega, by omega, rfl, rfl, Own.nil _ _ _, (fun _ h => by cases h), Kept.refl _ _⟩
 case round =>
  obtain ⟨k, v, hgg, hkl, rfl, rfl, hO, hnew, hkr⟩ := hrel
  by_cases hk : k < len
  ·obtain ⟨x, hx⟩ : ∃ x, xs[k]? = some x := ⟨_, List.getElem?_eq_getElem (by have := HS.out.2.2; omega)⟩
   have hxb := HS.out.2.1 x (List.mem_of_getElem? hx)
   obtain ⟨b, off, rfl, hcell⟩ := HS.out.1.2.resolve_left (by omega)
   have hc0 := hkr.cell (HK4.out.cell (HK1.out.cell (hcell k hk) id) id) id
   have hgx : xs.getD k 0 = x := by rw [List.getD_eq_getElem?_getD, hx]; rfl
   rw [hgx] at hc0
   have i0' : (0 : Int) <= (k : Int) := by omega
   have g2 : decide (k < len) = true := decide_eq_true hk
   have g2' : decide ((k : Int) < (len : Int)) = true := decide_eq_true (by omega)
   have wk : IntKind.i64.wrap ((k : Int) + 1) = (k : Int) + 1 := IntWalk.i64_in _ (by omega)
   have hxr := tb_in hxb
   have hxm : x.tmod 94 = x % 94 := Int.tmod_eq_emod_of_nonneg hxb.1
   have w94 : IntKind.u8.wrap (x.tmod 94) = x.tmod 94 := by rw [IntKind.wrap_u8]; omega
   have w33 : IntKind.u8.wrap (33 + x.tmod 94) = tb x := by unfold tb at *; rw [IntKind.wrap_u8]; omega
   obtain ⟨t, ht⟩ : ∃ t, tb x = t := ⟨_, rfl⟩
   rw [ht] at w33
   have htk : (xs.take (k + 1)).map tb = (xs.take k).map tb ++ [t] := by rw [List.take_add_one, hx, Option.toList_some, List.map_append, List.map_cons, List.map_nil, ht]
   obtain ⟨ga, gc, hge, -⟩ := hO.shape
   have hll : ((xs.take k).map tb).length = k := by rw [List.length_map, List.length_take]; have := HS.out.2.2; omega
   rw [hll] at hge
   subst hge
   obtain ⟨W5, hW5⟩ : ∃ W5, wr.alloc (.cells #[.int .u8 t] 5) = W5 := ⟨_, rfl⟩
   have k5 : Kept (fun _ => False) wr W5 := by rw [<- hW5]; exact (Kept.refl _ _).alloc _
   have b5 : W5.heap[wr.heap.size]? = some (.cells #[.int .u8 t] 5 (0, 0)) := by rw [<- hW5]; exact blk_new _ _
   have HO := Lib.hid (And.intro (hO.kept k5 (fun _ _ => id)) (And.intro hnew (And.intro (hkr.then k5) (And.intro hll htk))))
   have HB := Lib.hid (slAt_blk (k := .u8) (n := 1) (xs := [t]) b5 rfl rfl)
   clear hO hnew hkr hll htk k5 b5 hcell hxb hxr hxm hx hgx ht
   go_wp2_with (at_builtin; refine wpList_appInts rfl (.tmp 45) (.tmp 52) 22 rfl 5 .u8 i0 (.int .u8 0) 1 Tryz.underlying22 HI.out.1 HI.out.2.1 HI.out.2.2.1 HI.out.2.2.2 rfl (.slice ga k gc) ((xs.take k).map tb) rfl HO.out.1 (some ⟨wr.heap.size, 0, none⟩) 1 1 [t] rfl (fun h => by cases h) HB.out (by have := HO.out.2.2.2.1; omega) (by have := HO.out.2.2.2.1; simp only [maxLen]; omega) ?_; intro v6 w6 ho6 hk6 hpr6; have H6 := Lib.hid (And.intro ho6 (And.intro hk6 hpr6)); clear ho6 hk6 hpr6)
   go_roundg (gk - 1)
   case rel =>
    refine ⟨k + 1, _, by omega, by omega, rfl, by go_num, by rw [HO.out.2.2.2.2]; exact H6.out.1, fun b hb => ?_, HO.out.2.2.1.trans (H6.out.2.1.mono fun i _ hi => .inr (HO.out.2.1 i hi))⟩
    rcases H6.out.2.2 with e | e
    ·exact HO.out.2.1 b (by rw [<- e]; exact hb)
    ·rw [hb] at e
     have := HO.out.2.2.1.size
     cases e
     omega
   case measure => omega
  ·obtain rfl : k = len := by omega
   have g2 : decide (k < k) = false := decide_eq_false (by omega)
   rw [List.take_of_length_le (by have := HS.out.2.2; omega)] at hO
   obtain ⟨ys, hys⟩ : ∃ ys, xs.map tb = ys := ⟨_, rfl⟩
   rw [hys] at hO
   have hyl : ys.length = k := by rw [<- hys, List.length_map]; exact HS.out.2.2
   have hyr : ∀ y ∈ ys, 33 <= y /\ y <= 126 := by
    intro y hy
    rw [<- hys] at hy
    obtain ⟨x, hx, rfl⟩ := List.mem_map.1 hy
    exact tb_in (HS.out.2.1 x hx)
   obtain ⟨ga, gc, hge, hsl, hlc, -, hnl, hob⟩ := hO.shape
   rw [hyl] at hge hsl hlc hnl
   subst hge
   have hfe : (feedF k ps0 ys).2 = ys.map (fun c => evX 1 c 0) := by rw [<- hyl]; exact feed_print ys rfl rfl rfl (fun c hc => by have := hyr c hc; omega)
   have HF := Lib.hid (live_feed HL.out hkr ga k gc ys hsl (fun x hx => by have := hyr x hx; omega) hnl hlc (by omega) (fun b off _ ha => .inl (hnew b (hob b off ha))) (by
    rw [hfe]
    intro e he
    obtain ⟨c, hc, rfl⟩ := List.mem_map.1 he
    exact .inl ⟨rfl, hyr c hc⟩) (by rw [hfe, List.length_map, hyl]; show 0 + k <= 300 /\ 0 + k <= 60000; omega))
   rw [hfe] at HF
   obtain ⟨P', hP', htx, hiv, hcols, hrows⟩ := tx_typed_all ys (P := sp0 R C 300) (n := 0) (ys := []) [] (tx_0 R C 300 (by have := HRC.out; omega) (by have := HRC.out; omega)) (invX_0 R C 300 _ rfl rfl rfl rfl rfl rfl rfl rfl) (by rw [hyl]; show 0 + k <= 300; omega) (by omega)
   have hfo : List.foldl evT (sp0 (Cf.rows ⟨R, C, 1, 1, 300, 0⟩) (Cf.cols ⟨R, C, 1, 1, 300, 0⟩) (Cf.back ⟨R, C, 1, 1, 300, 0⟩), []) (ys.map (fun c => evX 1 c 0)) = (P', []) := hP'
   rw [hfo] at HF
   rw [List.nil_append] at hiv
   have hcC : P'.cols = C := hcols
   have hrR : P'.rows = R := hrows
   have HY := Lib.hid (And.intro hyl (And.intro hyr (And.intro hiv (And.intro hcC (And.intro hrR hsl)))))
   have HOB := Lib.hid (And.intro hnew (And.intro hob (And.intro hkr (show ∀ b, (Value.slice ga k gc).ownBlock = some b -> b < wr.heap.size from fun b hb => by obtain ⟨cc, hcc⟩ := own_blk hO hb; exact lt_of_blk hcc))))
   clear hO hnew hkr hsl hlc hnl hob hfe hP' htx hiv hcols hrows hfo hcC hrR hyl hyr hys
   go_wp2_with fail
   refine HF.out.mono ?_
   rintro e w6 ⟨⟨x6, rfl⟩, hl6, hk6⟩
   have hsl6 : SlAt .u8 w6 ga k ys := HY.out.2.2.2.2.2.kept hk6 (fun b off h0 ha hS => by have := HOB.out.1 b (HOB.out.2.1 b off ha); omega)
   have hgl : ∀ b off, 0 < k -> ga = some ⟨b, off, none⟩ -> b < w6.heap.size := fun b off _ ha => Nat.lt_of_lt_of_le (HOB.out.2.2.2 b (HOB.out.2.1 b off ha)) hk6.size
   have hk06 : Kept (fun _ => False) w w6 := by
    obtain ⟨G, GP, -, -, -, -, h5⟩ := hl6
    exact HK1.out.then h5
   obtain ⟨G, rv, Gs, Ge, hT, htx⟩ := hl6.tm
   have HO := Lib.hid (toldl_any G Gs Ge q _ _ P' [] w6 hT)
   have H6 := Lib.hid (And.intro hl6 (And.intro hsl6 (And.intro hk06 hgl)))
   clear hl6 hk6 hsl6 hk06 hgl hT htx HF
   go_wp2_with fail
   refine HO.out.mono ?_
   rintro e w7 ⟨v7, vs, rfl, hm7⟩
   obtain ⟨G, rv, Gs, Ge, hT, htx⟩ := (H6.out.1.up hm7.k).tm
   have HLn := Lib.hid (tlin_any G Gs Ge q _ _ P' [] w7 hT)
   have hbt : P'.B.length = P'.top := htx.bt
   have hnl : P'.L.length = P'.rows := htx.ok.nl
   have htn : P'.top <= 0 + (List.map (fun c => evX 1 c 0) ys).length := htx.tn
   rw [List.length_map, HY.out.1] at htn
   have H7 := Lib.hid hm7
   clear hm7 hT htx
   go_wp2_with fail
   refine HLn.out.mono ?_
   rintro e w8 ⟨v8, us, rfl, hm8⟩
   have hm7 := H7.out.up hm8.k
   have hv7 := hm7.len
   have hu8 := hm8.len
   have hpR := HY.out.2.2.2.2.1
   obtain ⟨m, hm⟩ : ∃ m, us.length = m := ⟨_, rfl⟩
   obtain ⟨la, lc, hve, hlc8, -, hnil8, hg8, -⟩ := hm8.own.shape
   rw [hm] at hve hg8 hlc8
   have hRC := HRC.out
   obtain ⟨g8, rfl⟩ := hg8 (by omega)
   subst hve
   have hat := hm8.own.at
   have hone : ∀ u ∈ us, u.oneCell' = true := fun u hu => by
    obtain ⟨j, hj⟩ := List.getElem?_of_mem hu
    have hjl : j < us.length := (List.getElem?_eq_some_iff.1 hj).1
    obtain ⟨l, hl⟩ : ∃ l, P'.L[j]? = some l := ⟨_, List.getElem?_eq_getElem (by omega)⟩
    exact ownC_one (hm8.all j u l hj hl).1
   have hcl8 : ∀ y, (some (⟨g8, 0, none⟩ : Addr)) = some y -> ∀ j u, us[j]? = some u -> w8.cell? (y.add j) = some u := fun y hy j u hu => by
    cases hy
    have hjl : j < us.length := (List.getElem?_eq_some_iff.1 hu).1
    have h9 := hat.2.2.2.1 j (by omega)
    rw [hu] at h9
    rw [show (⟨g8, 0, none⟩ : Addr).add j = ⟨g8, j, none⟩ by unfold Addr.add; split <;> simp_all]
    exact h9
   obtain ⟨i1, hi, hz0, hs0, hb0⟩ := info_parts info68
   have HI1 := Lib.hid (And.intro hi (And.intro hz0 (And.intro hs0 hb0)))
   obtain ⟨vl, hvl⟩ : ∃ n, vs.length = n := ⟨_, rfl⟩
   have hbd : vl <= 1000 /\ m <= 1000 := by omega
   have hall : LinesIn w8 vs P'.B /\ LinesIn w8 us P'.L := ⟨⟨hm7.len, fun j u l hu hl => (hm7.all j u l hu hl).1⟩, ⟨hm8.len, fun j u l hu hl => (hm8.all j u l hu hl).1⟩⟩
   obtain ⟨va, vc, hve7, -⟩ := hm7.own.shape
   rw [hvl] at hve7
   subst hve7
   have H8 := Lib.hid (And.intro hm7.own (And.intro hone (And.intro hcl8 (And.intro hall (And.intro hm (And.intro hvl hbd))))))
   have hk78 : Kept (fun _ => False) w6 w8 := H7.out.k.then hm8.k
   have H9 := Lib.hid (And.intro hk78 (fun b hb => Nat.le_trans (Nat.le_refl _) (hm7.new b hb)))
   have HB := Lib.hid (show vl = P'.top /\ m = P'.rows /\ vs.length = vl /\ us.length = m by omega)
   clear hm7 hm8 hat hone hcl8 hall hi hz0 hs0 hb0 hv7 hu8 hpR hlc8 hnil8 hg8 hvl hm hbd hbt hnl htn hk78 hRC
   go_wp2_with (at_builtin; refine wpList_appV rfl (.tmp 58) (.tmp 60) 65 rfl 68 i1 _ 24 Tryz.underlying65 HI1.out.1 HI1.out.2.1 HI1.out.2.2.1 HI1.out.2.2.2 rfl (.slice va vl vc) vs rfl H8.out.1 (some ⟨g8, 0, none⟩) m lc us rfl (fun h => by cases h) H8.out.2.2.2.2.1 H8.out.2.1 H8.out.2.2.1 (by have := H8.out.2.2.2.2.2; omega) (by have := H8.out.2.2.2.2.2; simp only [maxLen]; omega) ?_; intro v10 w10 ho10 hk10 hpr10; have H10 := Lib.hid (And.intro ho10 (And.intro hk10 hpr10)); clear ho10 hk10 hpr10)
   obtain ⟨hyl, hyr, hiv, hcC, hrR, -⟩ := HY.out
   obtain ⟨hb1, hb2, hb3, hb4⟩ := HB.out
   obtain ⟨n, hn⟩ : ∃ n, vl + m = n := ⟨_, rfl⟩
   have hbd := H8.out.2.2.2.2.2.2
   have hall : LinesIn w10 (vs ++ us) (linesX C ys n) := by
    have h9 := H8.out.2.2.2.1.1.app H8.out.2.2.2.1.2 H8.out.1 H10.out.2.1
    rw [hiv.all, hcC, <- hb1, <- hb2, hn] at h9
    exact h9
   have hcap : ys.length <= n * C := by
    obtain ⟨row, col, p1, p2, p3, p4⟩ := hiv.pos
    obtain ⟨G, rv, Gs, Ge, hT, htx⟩ := H6.out.1.tm
    have q1 : 0 <= P'.c.row /\ P'.c.row < P'.rows := htx.ok.row
    have q2 : 0 <= P'.c.col /\ P'.c.col < P'.cols := htx.ok.col
    have q3 : (P'.top + row + 1) * P'.cols <= n * P'.cols := Nat.mul_le_mul_right _ (by omega)
    rw [Nat.succ_mul] at q3
    rw [hcC] at q3 p3
    have q4 : P'.c.wrap = true -> col + 1 = C := fun h => by rw [<- hcC]; exact p4 h
    by_cases hw : P'.c.wrap = true
    ·rw [if_pos hw] at p3
     have := q4 hw
     omega
    ·rw [if_neg hw] at p3
     omega
   have hsl10 : SlAt .u8 w10 ga k ys := (H6.out.2.1.kept H9.out.1 (fun _ _ _ _ => id)).kept H10.out.2.1 (fun b off h0 ha hS => by
    have e1 := H6.out.2.2.2 b off h0 ha
    have e2 := H9.out.2 b hS
    have e3 := H7.out.k.size
    omega)
   have hk10 : Kept (fun _ => False) w w10 := (H6.out.2.2.1.then H9.out.1).trans (H10.out.2.1.mono fun i _ hi => .inr (Nat.le_trans (Nat.le_trans H6.out.2.2.1.size (Nat.le_refl _)) (H9.out.2 i hi)))
   obtain ⟨na, nc, hnv, -, -, -, hng, -⟩ := H10.out.1.shape
   have hnl : (vs ++ us).length = n := by rw [List.length_append, hb3, hb4]; exact hn
   rw [hnl] at hnv hng
   have hRC := HRC.out
   obtain ⟨g10, rfl⟩ := hng (by omega)
   subst hnv
   have hat := H10.out.1.at
   have HA := Lib.hid (And.intro hat (And.intro hall (And.intro hcap (And.intro hsl10 (And.intro hk10 (And.intro hnl (And.intro hyl (And.intro hyr (And.intro hn (And.intro hbd hRC))))))))))
   clear hat hall hcap hsl10 hk10 hnl hyl hyr hn hbd hRC hiv hcC hrR hb1 hb2 hb3 hb4 H10 H8 HB HLn HO
   go_wp2
   go_loopg [12, 13] (n + 1) (fun gg gv iv wr => ∃ j : Nat, n + 1 <= gg + j /\ j <= n /\ gv = .string (strOfNums (ys.take (j * C))) /\ iv = .int .i64 (j : Int) /\ Kept (fun _ => False) w10 wr)
   case atStart => exact ⟨0, by omega, by omega, by rw [Nat.zero_mul]; rfl, rfl, Kept.refl _ _⟩
   case round =>
    obtain ⟨j, hgg, hjn, rfl, rfl, hkr⟩ := hrel
    obtain ⟨hat, hall, hcap, hsl10, hk10, hnl, hyl, hyr, hn, hbd, hRC⟩ := HA.out
    by_cases hj : j < n
    ·obtain ⟨u, hu⟩ : ∃ u, (vs ++ us)[j]? = some u := ⟨_, List.getElem?_eq_getElem (by omega)⟩
     have huo := (hall.up hkr).2 j u _ hu (linesX_at hj)
     obtain ⟨ug, uc, hue, hus, hul, -⟩ := huo.sl (by rw [lineX_len]; omega)
     rw [lineX_len] at hue hus
     subst hue
     have hc0 : wr.cell? ⟨g10, j, none⟩ = some (.slice (some ⟨ug, 0, none⟩) C uc) := by
      have h9 := hat.2.2.2.1 j (by omega)
      rw [hu] at h9
      exact hkr.cell h9 id
     obtain ⟨A, hA⟩ : ∃ A, j * C = A := ⟨_, rfl⟩
     have hA2 : (j + 1) * C = A + C := by rw [Nat.succ_mul, hA]
     have hAle : A <= 2000 * 12 := by rw [<- hA]; exact Nat.mul_le_mul (by omega) (by omega)
     have hAi : (j : Int) * (C : Int) = (A : Int) := by rw [<- hA]; exact (Int.natCast_mul j C).symm
     have htxt : textI (lineX C ys j) = (ys.drop A).take C := by rw [textX C ys j hyr, hA]
     obtain ⟨zs, hzs⟩ : ∃ zs, (ys.drop A).take C = zs := ⟨_, rfl⟩
     have hzl : zs.length = min C (ys.length - A) := by rw [<- hzs, List.length_take, List.length_drop]
     obtain ⟨z, hz⟩ : ∃ z, zs.length = z := ⟨_, rfl⟩
     rw [hz] at hzl
     have HTX := Lib.hid (show Calls Tryz.prog 35 #[.slice (some ⟨ug, 0, none⟩) C uc] wr fun e w' => e = .returned (.string (strOfNums zs)) /\ Kept (fun _ => False) wr w' from by
      rw [<- hzs, <- htxt]
      refine ltext_any ug 0 C uc _ wr hus (by omega) (by omega) hul (fun c hc => ?_) (fun c hc => ?_)
      ·obtain ⟨i, -, rfl⟩ := List.mem_map.1 hc
       unfold cellX
       split <;> rfl
      ·obtain ⟨i, -, rfl⟩ := List.mem_map.1 hc
       unfold cellX
       split
       ·rename_i r hr
        have := hyr r (List.mem_of_getElem? hr)
        show -2147483648 <= r /\ r <= 2147483647
        omega
       ·show -2147483648 <= (0 : Int) /\ (0 : Int) <= 2147483647
        omega)
     have hnext : ys.take ((j + 1) * C) = ys.take A ++ zs := by rw [hA2, <- hzs, List.take_add]
     have hsz : (strOfNums zs).size = z := by rw [strOf_size, hz]
     have hcat : strOfNums (ys.take A) ++ strOfNums zs = strOfNums (ys.take ((j + 1) * C)) := by rw [strOf_append, hnext]
     have hs1 : (strOfNums (ys.take A)).size <= 2000 * 12 := by rw [strOf_size, List.length_take]; omega
     rw [hA]
     obtain ⟨S1, hS1⟩ : ∃ S, strOfNums (ys.take A) = S := ⟨_, rfl⟩
     obtain ⟨S2, hS2⟩ : ∃ S, strOfNums zs = S := ⟨_, rfl⟩
     obtain ⟨S3, hS3⟩ : ∃ S, strOfNums (ys.take ((j + 1) * C)) = S := ⟨_, rfl⟩
     rw [hS1] at hs1 hcat ⊢
     rw [hS2] at hsz hcat HTX
     rw [hS3] at hcat
     have hbig : ¬ 9223372036854775807 < S1.size + S2.size := by omega
     have g2 : decide (j < n) = true := decide_eq_true hj
     have i0' : (0 : Int) <= (j : Int) := by omega
     have wk : IntKind.i64.wrap ((j : Int) + 1) = (j : Int) + 1 := IntWalk.i64_in _ (by omega)
     have wA : IntKind.i64.wrap ((j : Int) * (C : Int)) = (A : Int) := by rw [hAi]; exact IntWalk.i64_in _ (by omega)
     have HNX := Lib.hid (And.intro hS3 hkr)
     have hylk : ys.length = k := hyl
     clear hat hall hcap hsl10 hk10 hnl hyl hyr hn huo hus hul hu hA hA2 hAi htxt hzs hz hnext hS1 hS2 hS3 hkr
     have HZ := Lib.hid (And.intro hzl hylk)
     by_cases c1 : z = C
     ·subst c1
      have g3 : ((z : Int) != (z : Int)) = false := by simp
      clear hzl hylk
      go_wp2_with fail
      refine HTX.out.mono ?_
      rintro e w11 ⟨rfl, hk11⟩
      have H11 := Lib.hid (HNX.out.2.then hk11)
      clear hk11
      go_wp2
      go_roundg (gk - 1)
      case rel => exact ⟨j + 1, by omega, by omega, by rw [HNX.out.1], by go_num, H11.out⟩
      case measure => omega
     ·have g3 : ((z : Int) != (C : Int)) = true := by simp; omega
      have wB : IntKind.i64.wrap ((A : Int) + (z : Int)) = (A : Int) + (z : Int) := IntWalk.i64_in _ (by omega)
      by_cases c2 : z = 0
      ·have g5 : ((z : Int) != 0) = false := by simp; omega
       clear hzl hylk c2
       by_cases c3 : (A : Int) + (z : Int) = (k : Int)
       ·have g4 : ((A : Int) + (z : Int) != (k : Int)) = false := by rw [c3]; simp
        clear c3
        go_wp2_with fail
        refine HTX.out.mono ?_
        rintro e w11 ⟨rfl, hk11⟩
        have H11 := Lib.hid (HNX.out.2.then hk11)
        clear hk11
        go_wp2
        go_roundg (gk - 1)
        case rel => exact ⟨j + 1, by omega, by omega, by rw [HNX.out.1], by go_num, H11.out⟩
        case measure => omega
       ·have g4 : ((A : Int) + (z : Int) != (k : Int)) = true := by simp only [bne_iff_ne, ne_eq]; exact c3
        clear c3
        go_wp2_with fail
        refine HTX.out.mono ?_
        rintro e w11 ⟨rfl, hk11⟩
        have H11 := Lib.hid (HNX.out.2.then hk11)
        clear hk11
        go_wp2
        go_roundg (gk - 1)
        case rel => exact ⟨j + 1, by omega, by omega, by rw [HNX.out.1], by go_num, H11.out⟩
        case measure => omega
      ·have e9 : A + z = k := by omega
       have g4 : ((A : Int) + (z : Int) != (k : Int)) = false := by simp only [bne_eq_false_iff_eq]; omega
       clear hzl hylk e9
       go_wp2_with fail
       refine HTX.out.mono ?_
       rintro e w11 ⟨rfl, hk11⟩
       have H11 := Lib.hid (HNX.out.2.then hk11)
       clear hk11
       go_wp2
       go_roundg (gk - 1)
       case rel => exact ⟨j + 1, by omega, by omega, by rw [HNX.out.1], by go_num, H11.out⟩
       case measure => omega
    ·obtain rfl : j = n := by omega
     have g2 : decide (j < j) = false := decide_eq_false (by omega)
     rw [List.take_of_length_le hcap]
     have cv := run_str (P := Tryz.prog) Tryz.underlying22 Tryz.underlying5 Tryz.underlying9 (cap := gc) (hsl10.kept hkr (fun _ _ _ _ => id))
     obtain ⟨S, hS⟩ : ∃ S, strOfNums ys = S := ⟨_, rfl⟩
     rw [hS] at cv ⊢
     have hss : (S.toList == S.toList) = true := by simp
     have HE := Lib.hid (hk10.then hkr)
     clear hat hall hcap hsl10 hk10 hnl hyl hyr hn hkr hS
     go_wp2
     go_ret
     exact ⟨rfl, HE.out⟩
theorem wf_i64 {n : Int} (h : (Lit.int .i64 n).wf = true) : Pl.In n := by simp [Lit.wf, IntKind.min, IntKind.max, IntKind.signed, IntKind.bits] at h; unfold Pl.In; omega
theorem wf_u8 {n : Int} (h : (Lit.int .u8 n).wf = true) : 0 <= n /\ n < 256 := by simp [Lit.wf, IntKind.min, IntKind.max, IntKind.signed, IntKind.bits] at h; omega
theorem law_text {r c : Int} {a : Option Addr} {len cap : Nat} {zs : List Int} {W : World} (f0 : (Lit.int .i64 r).wf = true) (f1 : (Lit.int .i64 c).wf = true) (f2 : IsRow .u8 W a len cap zs) :
  Calls Tryz.prog 8 #[.int .i64 r, .int .i64 c, .slice a len cap] W fun e w' => e = .returned (.bool true) /\ Below W.heap.size W w' := by
 have h := f2.slAt
 refine (text_go r c a len cap _ W (wf_i64 f0) (wf_i64 f1) h.1 (fun x hx => wf_u8 (h.2.2.2.1 x hx))).mono ?_
 rintro e w' ⟨he, hk⟩
 exact ⟨he, hk.below⟩
end Go.Proofs.YtmplpcmcbliadaaGreatDoor
