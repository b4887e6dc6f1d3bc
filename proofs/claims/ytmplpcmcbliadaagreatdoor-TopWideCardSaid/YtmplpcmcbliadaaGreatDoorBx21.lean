/- Feed; Replies; Old lines; the screen's lines; what a terminal tells of them; A line's text. -/
import Derived.Test.YtmplpcmcbliadaaGreatDoorBx19
import Derived.Test.YtmplpcmcbliadaaGreatDoorBx20
import Derived.Deep.LoopGhost
import Derived.Test.YtmplpcmcbliadaaGreatDoorBx22
set_option linter.unusedVariables false
set_option linter.unusedSimpArgs false
namespace Go.Proofs.YtmplpcmcbliadaaGreatDoor
open Go.RowKit Go.Sort Pl
set_option maxRecDepth 100000 in
set_option maxHeartbeats 4000000 in
theorem feed_any (G GT : Nat -> Prop) (W : World) (p : Nat) (q : Lis) (s : PS) (a : Option Addr) (len cap : Nat) (xs : List Int) (x8 : W.cell? ⟨q.p, 8, none⟩ = some (.pointer (some ⟨p, 0, none⟩))) (hP : PQ G W p s) (hT : q.TI GT W []) (hdj : ∀ i, GT i -> ¬ G i) (hs : SlAt .u8 W a len xs) (hby : ∀ x ∈ xs, 0 <= x /\ x < 256) (hnil : a = none -> len = 0 /\ cap = 0) (hlc : len <= cap) (hl : len <= 20000)
  (hloc : ∀ b off, 0 < len -> a = some ⟨b, off, none⟩ -> ¬ G b /\ ¬ GT b) (hal : AL q [] (feedF len s xs).2) :
  Calls Tryz.prog 17 #[.pointer (some ⟨q.p, 0, none⟩), .slice a len cap] W fun r w' => (∃ x, r = .returned x) /\ ∃ GT' G', q.TI GT' w' (feedF len s xs).2 /\ PQ G' w' p (feedF len s xs).1 /\ (∀ i, GT' i -> ¬ G' i) /\ (∀ i, G' i \/ GT' i -> (G i \/ GT i) \/ W.heap.size <= i) /\ Kept (fun i => G i \/ GT i) W w' := by
 have HE := Lib.hid (each_any G GT W p q s a len cap xs hP hT hdj hs hby hnil hlc hl hloc hal)
 clear hP hT hdj hs hby hnil hlc hl hloc hal
 go_enter Tryz.func17, Tryz.ntmps17
 go_wp2_with fail
 refine HE.out.mono ?_
 rintro e w1 ⟨⟨x, rfl⟩, h⟩
 have H1 := Lib.hid h
 clear h
 go_wp2
 go_end0
 exact ⟨⟨_, rfl⟩, H1.out⟩
set_option maxRecDepth 100000 in
theorem clip_any (a : Option Addr) (n cap : Nat) (w : World) (hn : n <= cap) (hc : cap <= maxLen) (hnil : a = none -> n = 0 /\ cap = 0) : Calls Tryz.prog 42 #[.slice a n cap] w fun e w' => e = .returned (.slice a n n) /\ w = w' := by
 unfold maxLen at hc
 have i0 : (0 : Int) <= (n : Int) := by omega
 have i1 : (n : Int) <= (cap : Int) := by omega
 have i2 : ¬ (cap : Int) < (n : Int) := by omega
 cases a with
 | none =>
  obtain ⟨rfl, rfl⟩ := hnil rfl
  go_enter Tryz.func42, Tryz.ntmps42
  go_wp2
  go_ret
  exact ⟨rfl, rfl⟩
 | some x =>
  go_enter Tryz.func42, Tryz.ntmps42
  go_wp2
  go_ret
  exact ⟨rfl, rfl⟩
theorem TmK.taken {G Gs Ge : Nat -> Prop} {w : World} {q : Nat} {c : Cf} {t : Tc} {P : SP} {R : List Int} (h : TmK G w q c t P R Gs Ge) : TmK G (w.setCell ⟨q, 12, none⟩ (.slice none 0 0)) q c { t with rep := .slice none 0 0 } P [] Gs Ge := by
 have hk : Kept (fun i => i = q) w (w.setCell ⟨q, 12, none⟩ (.slice none 0 0)) := (Kept.refl (fun i => i = q) w).setCell (p := ⟨q, 12, none⟩) (.inl rfl) _
 have hnil : ∀ b, (Value.slice none 0 0).ownBlock = some b -> False := fun b h => by cases h
 obtain ⟨g0, g1, md, pv, st, tb, G0, G1, hs⟩ := h.sc
 refine ⟨blk_set h.tb 12 _, ⟨g0, g1, md, pv, st, tb, G0, G1, hs.kept hk (fun i hi e => h.nq.1 (by rw [<- show i = q from e]; exact hi))⟩, h.en.kept hk (fun i hi e => h.nq.2 (by rw [<- show i = q from e]; exact hi)), Own.nil _ _ _, fun i hi => ?_, h.nse, h.nq, fun b hb => (hnil b hb).elim, fun i hi => Nat.lt_of_lt_of_le (h.lt i hi) hk.size⟩
 rcases hi with hi | hi | hi | hi
 ·exact h.sub i (.inl hi)
 ·exact h.sub i (.inr (.inl hi))
 ·exact h.sub i (.inr (.inr (.inl hi)))
 ·exact (hnil i hi).elim
set_option maxRecDepth 100000 in
set_option maxHeartbeats 4000000 in
theorem treplies_any (G Gs Ge : Nat -> Prop) (q : Nat) (c : Cf) (t : Tc) (P : SP) (R : List Int) (w : World) (h : TmK G w q c t P R Gs Ge) (hR : R.length <= 1000000) : Calls Tryz.prog 19 #[.pointer (some ⟨q, 0, none⟩)] w fun e w' => ∃ a, e = .returned (.slice a R.length R.length) /\ SlAt .u8 w' a R.length R /\ (a = none -> R.length = 0) /\ TmK G w' q c { t with rep := .slice none 0 0 } P [] Gs Ge /\ Kept (fun i => i = q) w w' := by
 obtain ⟨a, cap, hrv, hs, hlc, hcm, hnil, hob⟩ := h.ro.shape
 obtain ⟨n, hn⟩ : ∃ n, R.length = n := ⟨_, rfl⟩
 rw [hn] at hrv hs hlc hnil
 obtain ⟨-, -, -, -, -, -, -, -, -, -, -, -, x12, -, -⟩ := h.tb.cells
 rw [hrv] at x12
 have f12 := blk_free h.tb 12
 have HC := Lib.hid (clip_any a n cap w hlc hcm hnil)
 have HH := Lib.hid (And.intro h (And.intro hs (And.intro hnil (And.intro hrv hn))))
 clear h hs hlc hcm hnil hob hn hrv
 go_enter Tryz.func19, Tryz.ntmps19
 go_wp2_with fail
 refine HC.out.mono ?_
 rintro e w1 ⟨rfl, rfl⟩
 go_wp2
 go_ret
 have hk : Kept (fun i => i = q) w (w.setCell ⟨q, 12, none⟩ (.slice none 0 0)) := (Kept.refl (fun i => i = q) w).setCell (p := ⟨q, 12, none⟩) (.inl rfl) _
 obtain ⟨h, hs, hnil, hrv, hn⟩ := HH.out
 rw [hn]
 refine ⟨a, rfl, hs.kept hk (fun b off h0 ha e => ?_), fun e => (hnil e).1, h.taken, hk⟩
 obtain ⟨a', cap', hv', -, -, -, -, ho'⟩ := h.ro.shape
 rw [hrv] at hv'
 cases hv'
 exact h.nrq b (ho' b off ha) e
theorem rot_get {α : Type} (l : List α) (a i : Nat) (ha : a < l.length) (hi : i < l.length) : (l.drop a ++ l.take a)[i]? = l[(a + i) % l.length]? := by
 by_cases h : a + i < l.length
 ·rw [List.getElem?_append_left (by simp; omega), List.getElem?_drop, Nat.mod_eq_of_lt h]
 ·rw [List.getElem?_append_right (by simp; omega), Nat.mod_eq_sub_mod (by omega), Nat.mod_eq_of_lt (by omega), List.length_drop, List.getElem?_take_of_lt (by omega)]
  congr 1
  omega
set_option maxRecDepth 100000 in
theorem clonec_nil (w : World) : Calls Tryz.prog 103 #[.slice none 0 0] w fun e w' => e = .returned (.slice none 0 0) /\ w = w' := by
 have qn := fun w => Lib.run_eql_slice_nil (P := Tryz.prog) w 68 70 none 0 0 0 0 Tryz.underlying68
 go_enter Tryz.func103, Tryz.ntmps103
 go_wp2
 go_ret
 exact ⟨rfl, rfl⟩
set_option maxRecDepth 100000 in
set_option maxHeartbeats 4000000 in
theorem gold_no (p rp rows cols most at' gone i : Nat) (lv : Value) (top : Int) (rs : List Value) (o : Option Nat) (w : World) (h : GrB w p rp rows cols lv top) (hr : RAt 256 68 w rp most at' gone rs o) (hi : rs.length <= i) : Calls Tryz.prog 62 #[.pointer (some ⟨p, 0, none⟩), .int .i64 i] w fun e w' => e = .returned (.tuple #[.slice none 0 0, .bool false]) /\ w = w' := by
 obtain ⟨x0, x1, x2, x3, x4⟩ := blk5c h
 have HL := Lib.hid (lat_no rp most at' gone rs o (i : Int) w hr (.inr (by omega)))
 have HC := Lib.hid (clonec_nil w)
 clear h hr
 go_enter Tryz.func62, Tryz.ntmps62
 go_wp2_with fail
 refine HL.out.mono ?_
 rintro e w1 ⟨rfl, rfl⟩
 go_wp2_with fail
 refine HC.out.mono ?_
 rintro e w2 ⟨rfl, rfl⟩
 go_wp2
 exact bodyPost_ret (v := .tuple #[.slice none 0 0, .bool false]) (by simp [results, Tryz.results62, go_sem]) rfl ⟨rfl, rfl⟩
set_option maxRecDepth 100000 in
set_option maxHeartbeats 4000000 in
theorem gold_yes (p rp rows cols most at' gone i : Nat) (lv : Value) (top : Int) (rs : List Value) (u : Value) (l : List Cl) (o : Option Nat) (w : World) (h : GrB w p rp rows cols lv top) (hr : RAt 256 68 w rp most at' gone rs o) (hi : i < rs.length) (ha : at' < rs.length) (hl : rs.length <= 65536) (hx : rs[(at' + i) % rs.length]? = some u) (hu : OwnC w u l) (h0 : 0 < l.length /\ l.length <= 1000) :
  Calls Tryz.prog 62 #[.pointer (some ⟨p, 0, none⟩), .int .i64 i] w fun e w' => ∃ v, e = .returned (.tuple #[v, .bool true]) /\ MadeC w l v w' := by
 obtain ⟨x0, x1, x2, x3, x4⟩ := blk5c h
 have HL := Lib.hid (lat_yes rp most at' gone rs o i u w hr hi ha hl hx)
 obtain ⟨lg, lc, rfl, hs, -, -⟩ := hu.sl h0.1
 obtain ⟨n, hnn⟩ : ∃ n, l.length = n := ⟨_, rfl⟩
 rw [hnn] at hs h0 HL
 have HC := Lib.hid (fun (x : World) (k : Kept (fun _ => False) w x) => clonec_any ⟨lg, 0, none⟩ n lc l x (hs.kept k (fun _ _ _ _ => id)) h0.2)
 clear h hr hu hs hx hnn hl
 go_enter Tryz.func62, Tryz.ntmps62
 go_wp2_with fail
 refine HL.out.mono ?_
 rintro e w1 ⟨rfl, hk1⟩
 have H1 := Lib.hid hk1
 clear hk1
 go_wp2_with fail
 refine (HC.out _ H1.out).mono ?_
 rintro e w2 ⟨v, rfl, hm⟩
 have HM := Lib.hid hm
 clear hm
 go_wp2
 exact bodyPost_ret (v := .tuple #[v, .bool true]) (by simp [results, Tryz.results62, go_sem]) rfl ⟨v, rfl, HM.out.1, H1.out.then HM.out.2.1, fun b hb => Nat.le_trans H1.out.size (HM.out.2.2 b hb)⟩
set_option maxRecDepth 100000 in
set_option maxHeartbeats 8000000 in
theorem olines_any (p rp R0 cols most at' gone rows : Nat) (lv : Value) (top : Int) (ls : List Value) (LS : List (List Cl)) (o : Option Nat) (w : World) (h : GrB w p rp R0 cols lv top) (ho : RAt 256 68 w rp most at' gone ls o) (hn : ls.length = rows) (hr : rows <= 65536) (hL : LS.length = rows) (ha : (at' = 0 /\ rows = 0) \/ at' < rows)
  (hall : ∀ (j : Nat) (u : Value) (l : List Cl), (ls.drop at' ++ ls.take at')[j]? = some u -> LS[j]? = some l -> OwnC w u l) (hlen : ∀ l ∈ LS, 0 < l.length /\ l.length <= 1000) :
  Calls Tryz.prog 58 #[.func (.func 62) #[.pointer (some ⟨p, 0, none⟩)] #[]] w fun e w' => ∃ v vs, e = .returned v /\ RowM w LS v vs w' := by
 have HG := Lib.hid (fun (x : World) (k : Kept (fun _ => False) w x) => show GrB x p rp R0 cols lv top /\ RAt 256 68 x rp most at' gone ls o /\ ∀ (j : Nat) (u : Value) (l : List Cl), (ls.drop at' ++ ls.take at')[j]? = some u -> LS[j]? = some l -> OwnC x u l from ⟨k.blk h id, ho.up k, fun j u l hu hl => (hall j u l hu hl).kept k (fun _ _ => id)⟩)
 have HN := Lib.hid (And.intro hn (And.intro hr (And.intro hL (And.intro hlen ha))))
 have h63 : (9223372036854775807 : Nat) = maxLen := rfl
 clear h ho hall hlen hL hn ha
 go_enter Tryz.func58, Tryz.ntmps58
 go_wp2
 go_loopg [3, 4, 5, 6] (rows + 1) (fun gg rv iv _ _ wr => ∃ (i : Nat) (v : Value) (vs : List Value), rows + 1 <= gg + i /\ i <= rows /\ rv = v /\ iv = .int .i64 (i : Int) /\ RowM w (LS.take i) v vs wr)
 case atStart => exact ⟨0, _, [], by omega, by omega, rfl, rfl, ⟨OwnV.nil _ _, rfl, (fun _ h => by cases h), (fun j u l h => by simp at h), Kept.refl _ _⟩⟩
 case round =>
  obtain ⟨i, v, vs, hgg, hii, rfl, rfl, hrm⟩ := hrel
  have hvl := hrm.len
  rw [List.length_take] at hvl
  have hvi : vs.length = i := by have := HN.out.2.2.1; omega
  by_cases hi1 : i < rows
  ·have wk : IntKind.i64.wrap ((i : Int) + 1) = (i : Int) + 1 := IntWalk.i64_in _ (by omega)
   obtain ⟨u, hu⟩ : ∃ u, (ls.drop at' ++ ls.take at')[i]? = some u := ⟨_, List.getElem?_eq_getElem (by have := HN.out.1; simp; omega)⟩
   obtain ⟨l, hl⟩ : ∃ l, LS[i]? = some l := ⟨_, List.getElem?_eq_getElem (by have := HN.out.2.2.1; omega)⟩
   have hll := HN.out.2.2.2.1 l (List.mem_of_getElem? hl)
   obtain ⟨g1, g2, g3⟩ := HG.out wr hrm.k
   have HC := Lib.hid (gold_yes p rp R0 cols most at' gone i lv top ls u l o wr g1 g2 (by have := HN.out.1; omega) (by have := HN.out.1; have := HN.out.2.2.2.2; omega) (by have := HN.out.1; omega) (by rw [<- rot_get ls at' i (by have := HN.out.1; have := HN.out.2.2.2.2; omega) (by have := HN.out.1; omega)]; exact hu) (g3 i u l hu hl) hll)
   obtain ⟨ga, gc, hge, -⟩ := hrm.own.shape
   rw [hvi] at hge
   subst hge
   have HR := Lib.hid (And.intro hrm (And.intro hl (And.intro hll hvi)))
   clear g1 g2 g3 hu hl hll hrm hvl hvi
   go_wp2_with fail
   refine HC.out.mono ?_
   rintro e w2 ⟨u2, rfl, ho2, hk2, hb2⟩
   obtain ⟨lg, lc, hue, -, -, -⟩ := ho2.sl HR.out.2.2.1.1
   obtain ⟨ll, hlen'⟩ : ∃ n, l.length = n := ⟨_, rfl⟩
   rw [hlen'] at hue
   subst hue
   obtain ⟨i0, hi0, hz0, hs0, hb0⟩ := info_parts info68
   have HI0 := Lib.hid (And.intro hi0 (And.intro hz0 (And.intro hs0 hb0)))
   have HA := Lib.hid (And.intro (HR.out.1.own.kept (hk2.then ((Kept.refl (fun _ => False) w2).alloc (.cells #[.slice (some ⟨lg, 0, none⟩) ll lc] 68))) (fun _ _ => id)) (one_lit (blk_new w2 (.cells #[.slice (some ⟨lg, 0, none⟩) ll lc] 68))))
   have H2 := Lib.hid (And.intro ho2 (And.intro hk2 hb2))
   clear ho2 hk2 hb2 hi0 hz0 hs0 hb0 hlen'
   go_wp2_with (at_builtin; refine wpList_appV rfl (.tmp 18) (.tmp 20) 65 rfl 68 i0 _ 24 Tryz.underlying65 HI0.out.1 HI0.out.2.1 HI0.out.2.2.1 HI0.out.2.2.2 rfl (.slice ga i gc) vs rfl HA.out.1 (some ⟨w2.heap.size, 0, none⟩) 1 1 [.slice (some ⟨lg, 0, none⟩) ll lc] rfl (fun h => by cases h) rfl (by intro u hu; cases hu with | head => rfl | tail _ h => cases h) HA.out.2 (by have := HR.out.2.2.2; omega) (by have := HR.out.2.2.2; omega) ?_; intro v8 w8 ho8 hk8 hpr8; have H8 := Lib.hid (And.intro ho8 (And.intro hk8 hpr8)); clear ho8 hk8 hpr8)
   have HNX := Lib.hid (show RowM w (LS.take (i + 1)) v8 (vs ++ [.slice (some ⟨lg, 0, none⟩) ll lc]) w8 from by
    rw [List.take_add_one, HR.out.2.1, Option.toList_some]
    exact HR.out.1.next (H2.out.2.1.then ((Kept.refl _ _).alloc _)) H8.out.1 H8.out.2.1 H8.out.2.2 (H2.out.1.kept ((Kept.refl (fun _ => False) _).alloc _) (fun _ _ => id)) (fun b hb => Nat.le_trans HR.out.1.k.size (H2.out.2.2 b hb)))
   go_roundg (gk - 1)
   case rel => exact ⟨i + 1, v8, _, by omega, by omega, rfl, by go_num, HNX.out⟩
   case measure => omega
  ·obtain rfl : i = rows := by omega
   obtain ⟨g1, g2, g3⟩ := HG.out wr hrm.k
   have HC := Lib.hid (gold_no p rp R0 cols most at' gone i lv top ls o wr g1 g2 (by have := HN.out.1; omega))
   rw [List.take_of_length_le (by have := HN.out.2.2.1; omega)] at hrm
   have HR := Lib.hid hrm
   clear g1 g2 g3 hrm hvl hvi
   go_wp2_with fail
   refine HC.out.mono ?_
   rintro e w2 ⟨rfl, rfl⟩
   go_wp2
   go_ret
   exact ⟨_, vs, rfl, HR.out⟩
set_option maxRecDepth 100000 in
set_option maxHeartbeats 4000000 in
theorem tlin_any (G Gs Ge : Nat -> Prop) (q : Nat) (c : Cf) (t : Tc) (P : SP) (R : List Int) (w : World) (h : TmK G w q c t P R Gs Ge) :
  Calls Tryz.prog 32 #[.pointer (some ⟨q, 0, none⟩)] w fun e w' => ∃ v vs, e = .returned v /\ RowM w P.L v vs w' := by
 obtain ⟨g0, g1, md, pv, st, tb, G0, G1, hs⟩ := h.sc
 obtain ⟨gone, rp, lv, rv, vs, rs, at', hg⟩ := hs.k0
 obtain ⟨-, -, -, -, -, -, x6, -⟩ := h.tb.cells
 have hvl := hg.ll.1
 have hrl := hg.rl.1
 have hbl : rs.length <= 100000 := by have := hg.mx; have := hg.ra; omega
 have HG := Lib.hid (sgrid_any t.s rp P.rows P.cols P.most lv rv P.top gone vs rs (P.sn g0 g1 md pv st) w hs.sn hg.gb hg.rb hg.lo hg.ro (by have := hg.nr; have := hg.hr; omega) hbl hg.ll.one (fun u hu => hg.rl.one u (by
  rw [List.mem_append]
  have h9 := hu
  rw [<- List.take_append_drop at' rs, List.mem_append] at h9
  exact h9.symm)))
 have HL := Lib.hid (fun (x : World) (k : Kept (fun _ => False) w x) (q2 rq : Nat) (lv2 : Value) (hb : GrB x q2 rq P.rows P.cols lv2 P.top) (hl : OwnV 68 x lv2 vs) => tlines_any q2 rq P.rows P.cols lv2 P.top vs P.L x hb hl (by have := hg.nr; omega) hg.hr.2 hg.nr (fun j u l hu hl => (hg.ll.2 j u l hu hl).1.kept k (fun _ _ => id)) (fun l hl => by have := hg.nc l hl; have := hg.hc; omega))
 clear h hs hg hvl hrl hbl
 go_enter Tryz.func32, Tryz.ntmps32
 go_wp2_with fail
 refine HG.out.mono ?_
 rintro e w1 ⟨q2, rq, lv2, rv2, rfl, hb, -, hl, -, hk⟩
 have HLL := Lib.hid (HL.out w1 hk q2 rq lv2 hb hl)
 have H1 := Lib.hid hk
 clear hb hl hk
 go_wp2_with fail
 refine HLL.out.mono ?_
 rintro e w2 ⟨v, vs2, rfl, hm⟩
 have H2 := Lib.hid hm
 clear hm
 go_wp2
 go_ret
 have hz := H1.out.size
 exact ⟨v, vs2, rfl, H2.out.own, H2.out.len, (fun b hb => Nat.le_trans hz (H2.out.new b hb)), (fun j u l hu hl => ⟨(H2.out.all j u l hu hl).1, fun b hb => Nat.le_trans hz ((H2.out.all j u l hu hl).2 b hb)⟩), H1.out.then H2.out.k⟩
set_option maxRecDepth 100000 in
set_option maxHeartbeats 4000000 in
theorem toldl_any (G Gs Ge : Nat -> Prop) (q : Nat) (c : Cf) (t : Tc) (P : SP) (R : List Int) (w : World) (h : TmK G w q c t P R Gs Ge) :
  Calls Tryz.prog 34 #[.pointer (some ⟨q, 0, none⟩)] w fun e w' => ∃ v vs, e = .returned v /\ RowM w P.B v vs w' := by
 obtain ⟨g0, g1, md, pv, st, tb, G0, G1, hs⟩ := h.sc
 obtain ⟨gone, rp, lv, rv, vs, rs, at', hg⟩ := hs.k0
 obtain ⟨-, -, -, -, -, -, x6, -⟩ := h.tb.cells
 have hvl := hg.ll.1
 have hrl := hg.rl.1
 have hbl : rs.length <= 65536 := by have := hg.mx; have := hg.ra; omega
 have hB : rs.length = P.B.length := by rw [<- hrl]; have := hg.ra; simp; omega
 have HG := Lib.hid (sgrid_any t.s rp P.rows P.cols P.most lv rv P.top gone vs rs (P.sn g0 g1 md pv st) w hs.sn hg.gb hg.rb hg.lo hg.ro (by have := hg.nr; have := hg.hr; omega) (by omega) hg.ll.one (fun u hu => hg.rl.one u (by
  rw [List.mem_append]
  have h9 := hu
  rw [<- List.take_append_drop at' rs, List.mem_append] at h9
  exact h9.symm)))
 have HL := Lib.hid (fun (x : World) (k : Kept (fun _ => False) w x) (q2 rq : Nat) (lv2 rv2 : Value) (hb : GrB x q2 rq P.rows P.cols lv2 P.top) (hr : RnA x rq P.most rv2 at' gone) (hl : OwnV 68 x rv2 rs) => olines_any q2 rq P.rows P.cols P.most at' gone rs.length lv2 P.top rs P.B rv2.ownBlock x hb ⟨rv2, hr, hl, rfl, fun e => by obtain ⟨cc, hcc⟩ := ownV_blk hl e; exact blk_ty2 hcc hr (by decide)⟩ rfl hbl hB.symm (by have := hg.ra; omega) (fun j u l hu hl => (hg.rl.2 j u l hu hl).1.kept k (fun _ _ => id)) (fun l hl => by have := hg.bc l hl; have := hg.hc; omega))
 clear h hs hg hvl hrl hbl hB
 go_enter Tryz.func34, Tryz.ntmps34
 go_wp2_with fail
 refine HG.out.mono ?_
 rintro e w1 ⟨q2, rq, lv2, rv2, rfl, hb, hr, -, hl, hk⟩
 have HLL := Lib.hid (HL.out w1 hk q2 rq lv2 rv2 hb hr hl)
 have H1 := Lib.hid hk
 clear hb hl hr hk
 go_wp2_with fail
 refine HLL.out.mono ?_
 rintro e w2 ⟨v, vs2, rfl, hm⟩
 have H2 := Lib.hid hm
 clear hm
 go_wp2
 go_ret
 have hz := H1.out.size
 exact ⟨v, vs2, rfl, H2.out.own, H2.out.len, (fun b hb => Nat.le_trans hz (H2.out.new b hb)), (fun j u l hu hl => ⟨(H2.out.all j u l hu hl).1, fun b hb => Nat.le_trans hz ((H2.out.all j u l hu hl).2 b hb)⟩), H1.out.then H2.out.k⟩
def cellT (c : Cl) : List Int := if c.r = 0 then [32] else ints (enc c.r)
def lineT (L : List Cl) : List Int := L.flatMap cellT
def textI (L : List Cl) : List Int := trimI (lineT L)
theorem cellT_len (c : Cl) : 1 <= (cellT c).length /\ (cellT c).length <= 4 := by
 unfold cellT
 split
 ·simp
 ·rw [ints, List.length_map]; exact enc_len _
theorem cellT_by (c : Cl) : ∀ x ∈ cellT c, 0 <= x /\ x < 256 := by
 unfold cellT
 split
 ·intro x hx; simp at hx; omega
 ·intro x hx
  obtain ⟨b, hb, rfl⟩ := List.mem_map.1 hx
  have := enc_lt _ b hb
  omega
theorem lineT_len : ∀ (L : List Cl), L.length <= (lineT L).length /\ (lineT L).length <= 4 * L.length
 | [] => ⟨Nat.le_refl _, Nat.le_refl _⟩
 | c :: L => by
  have h1 := cellT_len c
  have h2 := lineT_len L
  unfold lineT at *
  rw [List.flatMap_cons, List.length_append, List.length_cons]
  omega
theorem lineT_by (L : List Cl) : ∀ x ∈ lineT L, 0 <= x /\ x < 256 := fun x hx => by
 obtain ⟨c, -, h⟩ := List.mem_flatMap.1 hx
 exact cellT_by c x h
theorem lineT_next (L : List Cl) (i : Nat) {c : Cl} (h : L[i]? = some c) : lineT (L.take (i + 1)) = lineT (L.take i) ++ cellT c := by
 rw [List.take_add_one, h]
 simp [lineT]
def TeR (w : World) (b g gc : Nat) (L : List Cl) (T : List Int) (wr : World) : Prop := ∃ us v, BdB wr b us v /\ Own .u8 5 wr v T /\ OwnC wr (.slice (some ⟨g, 0, none⟩) L.length gc) L /\ Kept (fun _ => False) w wr /\ w.heap.size <= b /\ (∀ x, v.ownBlock = some x -> w.heap.size <= x)
theorem TeR.up {w : World} {b g gc : Nat} {L : List Cl} {T : List Int} {wr w' : World} (h : TeR w b g gc L T wr) (hk : Kept (fun _ => False) wr w') : TeR w b g gc L T w' := by
 obtain ⟨us, v, h1, h2, h3, h4, h5, h6⟩ := h
 exact ⟨us, v, hk.blk h1 id, h2.kept hk (fun _ _ => id), h3.kept hk (fun _ _ => id), h4.then hk, h5, h6⟩
theorem TeR.put {w : World} {b g gc : Nat} {L : List Cl} {T : List Int} {wr w' : World} {us : Bool} {v : Value} {xs : List Int} (h1 : BdB wr b us v) (h2 : Own .u8 5 wr v T) (h3 : OwnC wr (.slice (some ⟨g, 0, none⟩) L.length gc) L) (h4 : Kept (fun _ => False) w wr) (h5 : w.heap.size <= b) (h6 : ∀ x, v.ownBlock = some x -> w.heap.size <= x) (hp : Put b v xs wr w') : TeR w b g gc L xs w' := by
 obtain ⟨v', p1, p2, p3, p4⟩ := hp
 refine ⟨true, v', p1, p2, h3.kept p3 (fun x hx hS => ?_), h4.trans (p3.mono fun i _ hS => .inr ?_), h5, fun x hx => ?_⟩
 ·obtain ⟨c, hc⟩ := ownC_blk h3 hx
  rcases hS with rfl | hS
  ·exact blk_ty2 hc h1 (by decide)
  ·obtain ⟨c2, hc2⟩ := own_blk h2 hS
   exact blk_ty2 hc hc2 (by decide)
 ·rcases hS with rfl | hS
  ·exact h5
  ·exact h6 i hS
 ·rcases p4 with p4 | ⟨y, p4, hy⟩
  ·exact h6 x (by rw [<- p4]; exact hx)
  ·rw [p4] at hx
   cases hx
   exact Nat.le_trans h4.size hy
set_option maxRecDepth 100000 in
set_option maxHeartbeats 8000000 in
theorem ltext_any (b off n cap : Nat) (L : List Cl) (w : World) (hs : SlC w (some ⟨b, off, none⟩) n L) (h1 : 1 <= n) (hn : n <= 1000) (hbw : b < w.heap.size) (hL : Nar L) (hr : ∀ c ∈ L, -2147483648 <= c.r /\ c.r <= 2147483647) :
  Calls Tryz.prog 35 #[.slice (some ⟨b, off, none⟩) n cap] w fun e w' => e = .returned (.string (strOfNums (textI L))) /\ Kept (fun _ => False) w w' := by
 have hLl := hs.1
 obtain ⟨V, hV⟩ : ∃ V, w.alloc (.cells #[.pointer none, .slice none 0 0] 125) = V := ⟨_, rfl⟩
 have kV : Kept (fun _ => False) w V := by rw [<- hV]; exact (Kept.refl _ _).alloc _
 have bV : BdB V w.heap.size false (.slice none 0 0) := by rw [<- hV]; exact blk_new _ _
 have HM := Lib.hid (mend_any b off n cap L V (hs.kept kV (fun _ _ _ _ => id)) hn (Nat.lt_of_lt_of_le hbw kV.size) hL)
 have HS := Lib.hid (And.intro kV (And.intro bV (And.intro hL (And.intro hr hLl))))
 clear hs hbw hL hr kV bV
 go_enter Tryz.func35, Tryz.ntmps35
 go_wp2_with fail
 refine HM.out.mono ?_
 rintro e w1 ⟨v1, rfl, ho1, hk1, hb1⟩
 obtain ⟨g, gc, rfl, -, -, -⟩ := ho1.sl (by omega)
 rw [hLl] at ho1
 have HT := Lib.hid (show TeR w w.heap.size g gc L (lineT (L.take 0)) w1 from ⟨false, .slice none 0 0, hk1.blk HS.out.2.1 id, Own.nil _ _ _, by rw [hLl]; exact ho1, HS.out.1.then hk1, Nat.le_refl _, fun _ h => by cases h⟩)
 clear ho1 hk1 hb1
 rw [hLl]
 go_wp2
 go_loopg [5, 9, 18, 22] n (fun gg _ iv _ _ wr => ∃ k : Nat, n <= gg + k /\ k <= n /\ iv = .int .i64 (k : Int) /\ TeR w w.heap.size g gc L (lineT (L.take k)) wr)
 case atStart => exact ⟨0, by omega, by omega, rfl, HT.out⟩
 case round =>
  obtain ⟨k, hgg, hk, rfl, hkr⟩ := hrel
  by_cases hk1 : k < n
  ·have g1 : decide (k < n) = true := decide_eq_true hk1
   have g1' : decide ((k : Int) < (n : Int)) = true := decide_eq_true (by omega)
   have wk : IntKind.i64.wrap ((k : Int) + 1) = (k : Int) + 1 := IntWalk.i64_in _ (by omega)
   have i0 : (0 : Int) <= (k : Int) := by omega
   have i1 : (k : Int) < (n : Int) := by omega
   obtain ⟨us, v, q1, q2, q3, q4, q5, q6⟩ := hkr
   obtain ⟨g', c', he, hsl, -, -⟩ := q3.sl (by omega)
   cases he
   obtain ⟨b', off', he, hc⟩ := hsl.2.resolve_left (by omega)
   cases he
   obtain ⟨c, hcc⟩ : ∃ c, L[k]? = some c := ⟨_, List.getElem?_eq_getElem (by omega)⟩
   have hkk := HS.out.2.2.1 c (List.mem_of_getElem? hcc)
   have hrr := HS.out.2.2.2.1 c (List.mem_of_getElem? hcc)
   have y0 := hc k c hcc 0 (by omega)
   have y1 := hc k c hcc 1 (by omega)
   have y2 := hc k c hcc 2 (by omega)
   have y3 := hc k c hcc 3 (by omega)
   have y4 := hc k c hcc 4 (by omega)
   simp only [Nat.zero_add, Nat.add_zero] at y0 y1 y2 y3 y4
   have hnx := lineT_next L k hcc
   have hTl : (lineT (L.take k)).length <= 4000 := by have := (lineT_len (L.take k)).2; rw [List.length_take] at this; omega
   obtain ⟨cr, ck, fg, bg, fl⟩ := c
   unfold Cl.vs at y0 y1 y2 y3 y4
   simp only [List.getElem?_cons_zero, List.getElem?_cons_succ] at y0 y1 y2 y3 y4 hkk hrr
   subst hkk
   obtain ⟨W2, hW2⟩ : ∃ W2, wr.alloc (.cells #[.int .i32 cr, .int .i64 0, .int .i64 fg, .int .i64 bg, .int .i64 fl] 70) = W2 := ⟨_, rfl⟩
   have k2 : Kept (fun _ => False) wr W2 := by rw [<- hW2]; exact (Kept.refl _ _).alloc _
   have b2 : W2.heap[wr.heap.size]? = some (.cells #[.int .i32 cr, .int .i64 0, .int .i64 fg, .int .i64 bg, .int .i64 fl] 70 (0, 0)) := by rw [<- hW2]; exact blk_new _ _
   obtain ⟨z0, z1, z2, z3, z4⟩ := blk5 b2
   have p1 : BdB W2 w.heap.size us v := k2.blk q1 id
   have p2 := q2.kept k2 (fun _ _ => id)
   have p3 := q3.kept k2 (fun _ _ => id)
   by_cases h0 : cr = 0
   ·subst h0
    have HB := Lib.hid (bbyte_any w.heap.size us v (lineT (L.take k)) 32 W2 p1 p2 (by omega))
    have HN := Lib.hid (fun (w' : World) (h : Put w.heap.size v (lineT (L.take k) ++ [32]) W2 w') => show TeR w w.heap.size g gc L (lineT (L.take (k + 1))) w' from by
     rw [hnx]
     exact TeR.put p1 p2 p3 (q4.then k2) q5 q6 h)
    clear hc hcc k2 b2 q1 q2 q3 q4 q5 q6 p1 p2 p3 hsl hnx hTl hrr
    go_wp2_with fail
    refine HB.out.mono ?_
    rintro e w' ⟨rfl, hp⟩
    have HP := Lib.hid (HN.out w' hp)
    clear hp
    go_wp2
    go_roundg (gk - 1)
    case rel => exact ⟨k + 1, by omega, by omega, by go_num, HP.out⟩
    case measure => omega
   ·have g3 : (cr == 0) = false := by simp [h0]
    obtain ⟨W3, hW3⟩ : ∃ W3, W2.alloc (.cells #[.int .i32 cr] 21) = W3 := ⟨_, rfl⟩
    have k3 : Kept (fun _ => False) W2 W3 := by rw [<- hW3]; exact (Kept.refl _ _).alloc _
    have b3 : W3.heap[W2.heap.size]? = some (.cells #[.int .i32 cr] 21 (0, 0)) := by rw [<- hW3]; exact blk_new _ _
    have HEn := Lib.hid (enc_any (some ⟨W2.heap.size, 0, none⟩) 1 1 [cr] W3 (slAt_blk (k := .i32) (xs := [cr]) b3 rfl rfl) (by omega) (by simpa using hrr))
    have hnx' : lineT (L.take (k + 1)) = lineT (L.take k) ++ ints (encs [cr]) := by rw [hnx]; simp [cellT, h0, encs]
    have HP3 := Lib.hid (And.intro (k3.blk p1 id) (And.intro (p2.kept k3 (fun _ _ => id)) (And.intro (p3.kept k3 (fun _ _ => id)) (And.intro (q4.then (k2.then k3)) (And.intro q5 (And.intro q6 (And.intro hnx' hTl)))))))
    have hel : (ints (encs [cr])).length <= 4 /\ 1 <= (ints (encs [cr])).length := by
     have := enc_len cr
     simp [ints, encs]
     omega
    have HEL := Lib.hid hel
    clear hc hcc k2 b2 q1 q2 q3 q4 q5 q6 p1 p2 p3 hsl hnx hTl hrr k3 b3 hnx' hel
    go_wp2_with fail
    refine HEn.out.mono ?_
    rintro e w4 ⟨ve, rfl, hoe, hke, hbe⟩
    obtain ⟨p1, p2, p3, p4, p5, p6, hnx', hTl⟩ := HP3.out
    obtain ⟨ae, ce, hve, hse, -, -, hne, hobe⟩ := hoe.shape
    obtain ⟨ne, hnel⟩ : ∃ ne, (ints (encs [cr])).length = ne := ⟨_, rfl⟩
    rw [hnel] at hve hse hne
    subst hve
    have q1 : BdB w4 w.heap.size us v := hke.blk p1 id
    have q2 := p2.kept hke (fun _ _ => id)
    have q3 := p3.kept hke (fun _ _ => id)
    have HB := Lib.hid (bwrite_any w.heap.size us v (lineT (L.take k)) (ints (encs [cr])) ae ne ce w4 q1 q2 (by omega) hse (by have := HEL.out; omega) hne (fun x off' h0 ha e => by
     have h9 := own_ne q1 hoe
     exact h9 (by rw [hobe x off' ha, e])))
    have HN := Lib.hid (fun (w' : World) (h : Put w.heap.size v (lineT (L.take k) ++ ints (encs [cr])) w4 w') => show TeR w w.heap.size g gc L (lineT (L.take (k + 1))) w' from by
     rw [hnx']
     exact TeR.put q1 q2 q3 (p4.then hke) p5 p6 h)
    clear hoe hke hbe hse hne hobe p1 p2 p3 p4 p5 p6 q1 q2 q3 hnx' hTl hnel
    go_wp2_with fail
    refine HB.out.mono ?_
    rintro e w' ⟨rfl, hp⟩
    have HP := Lib.hid (HN.out w' hp)
    clear hp
    go_wp2
    go_roundg (gk - 1)
    case rel => exact ⟨k + 1, by omega, by omega, by go_num, HP.out⟩
    case measure => omega
  ·obtain rfl : k = n := by omega
   have g1 : decide (k < k) = false := decide_eq_false (by omega)
   obtain ⟨us, v, q1, q2, q3, q4, q5, q6⟩ := hkr
   rw [List.take_of_length_le (by omega)] at q2
   have hll := lineT_len L
   have HB := Lib.hid (bstr_any w.heap.size us v (lineT L) wr q1 q2 (by omega) (by omega) (lineT_by L))
   have HTR := Lib.hid (fun (x : World) => trim_any (lineT L) x (lineT_by L) (by omega) (by omega))
   have HE := Lib.hid (And.intro q4 q6)
   clear q1 q2 q3 q4 q5 q6 hll
   go_wp2_with fail
   refine HB.out.mono ?_
   rintro e w2 ⟨rfl, hk2⟩
   have H2 := Lib.hid hk2
   clear hk2
   go_wp2_with fail
   refine (HTR.out w2).mono ?_
   rintro e w3 ⟨rfl, rfl⟩
   go_wp2
   go_ret
   exact ⟨rfl, HE.out.1.trans (H2.out.mono fun i _ h => .inr (HE.out.2 i h))⟩
end Go.Proofs.YtmplpcmcbliadaaGreatDoor
