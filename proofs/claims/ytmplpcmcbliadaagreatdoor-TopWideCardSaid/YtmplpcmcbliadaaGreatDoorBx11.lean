/- The parser: events told, lists kept, begin; The parser: data told, lists kept, begin; The parser: the next parameter, begin; The parser: in ground, in a text; The parser: behind an escape; The parser: a byte behind an escape; Width of a character; line characters. -/
import Derived.Test.YtmplpcmcbliadaaGreatDoorBx1
import Derived.Deep.LoopGhost
import Derived.Deep.RegionLaw
import Derived.StillTailTactics
import Derived.Test.YtmplpcmcbliadaaGreatDoorBx0
set_option linter.unusedVariables false
set_option linter.unusedSimpArgs false
namespace Go.Proofs.YtmplpcmcbliadaaGreatDoor
open Go.RowKit Pl
theorem EvAt.eq {w : World} {M M' : Nat -> Prop} {v : EvV} {e : Ev} (h : EvAt w M v e) (hM : ∀ i, M' i -> M i) : EvAt w M' v e := h.kept (Kept.refl (fun _ => False) w) (fun _ _ h => h.elim) (fun i hi => .inl (hM i hi))
def evXV (k r b : Int) : EvV := ⟨k, r, b, 0, ByteArray.empty, none, 0, 0, none, 0, 0⟩
theorem evX_at (w : World) (M : Nat -> Prop) (k r b : Int) : EvAt w M (evXV k r b) (evX k r b) := ⟨rfl, rfl, rfl, rfl, rfl, ⟨rfl, .inl rfl⟩, ⟨rfl, .inl rfl⟩, (fun _ => ⟨rfl, rfl⟩), (fun _ => ⟨rfl, rfl⟩), (fun _ _ h => by cases h), (fun _ _ h => by cases h)⟩
theorem tp_of {G : Nat -> Prop} {W w' : World} {p : Nat} {q : Lis} {d : Nat} {vi vp vd vi' vp' vd' : Value} {vo vo' : Nat -> Prop} {s' : PS} {L' : List Ev} (hg : ∀ i, G i ↔ Mset p q d vi vp vd vo i) (hc : RC w' p q d vi' vp' vd' vo' s' L') (hM : ∀ i, Mset p q d vi' vp' vd' vo' i -> Mset p q d vi vp vd vo i \/ W.heap.size <= i) (hk : Kept (Mset p q d vi vp vd vo) W w') : TP G W p q s' L' w' :=
 ⟨Mset p q d vi' vp' vd' vo', ⟨d, vi', vp', vd', vo', hc, fun _ => Iff.rfl⟩, fun i hi => (hM i hi).imp (hg i).2 id, hk.mono fun i _ h => (hg i).2 h⟩
theorem tp_upd {G : Nat -> Prop} {W w' : World} {p : Nat} {q : Lis} {d : Nat} {vi vp vd : Value} {vo : Nat -> Prop} {s s' : PS} {L : List Ev} (h : RC W p q d vi vp vd vo s L) (hg : ∀ i, G i ↔ Mset p q d vi vp vd vo i) (hk : Kept (fun i => i = p) W w') (pb : w'.heap[p]? = some (.cells (PC s' d vi vp vd (sayV q)) 139 (0, 0))) (h1 : s'.ch = s.ch) (h2 : s'.it = s.it) (h3 : s'.ps = s.ps) (h4 : s'.ds = s.ds) (ok : SOk s') : TP G W p q s' L w' :=
 tp_of hg (h.upd hk pb h1 h2 h3 h4 ok) (fun i hi => .inl hi) (hk.mono fun i _ h => .inl h)
theorem sayR (G : Nat -> Prop) (W : World) (p : Nat) (q : Lis) (s : PS) (L : List Ev) (hR : RR G W p q s L) (v : EvV) (e : Ev) (hn : AL q L [e]) (hv : EvAt W G v e) :
  Calls Tryz.prog 41 #[.pointer (some ⟨q.p, 0, none⟩), v.val] W fun r w' => (∃ x, r = .returned x) /\ TP G W p q s (L ++ [e]) w' := by
 obtain ⟨d, vi, vp, vd, vo, hc, hg⟩ := hR
 have hvo : ∀ i, vo i -> G i := fun i hi => (hg i).2 (.inr (.inr (.inr (.inr (.inr (.inr hi))))))
 refine (q.say hc.ti (hv.eq hvo) hn.one).mono ?_
 rintro r w' ⟨hr, vo', ti, hnw, hk⟩
 refine ⟨hr, tp_of hg (hc.told hk ti hnw) (fun i hi => ?_) (hk.mono fun i _ h => .inr (.inr (.inr (.inr (.inr (.inr h))))))⟩
 rcases hi with hi | hi | hi | hi | hi | hi | hi
 ·exact .inl (.inl hi)
 ·exact .inl (.inr (.inl hi))
 ·exact hi.elim
 ·exact .inl (.inr (.inr (.inr (.inl hi))))
 ·exact .inl (.inr (.inr (.inr (.inr (.inl hi)))))
 ·exact .inl (.inr (.inr (.inr (.inr (.inr (.inl hi))))))
 ·rcases hnw i hi with h | h
  ·exact .inl (.inr (.inr (.inr (.inr (.inr (.inr h))))))
  ·exact .inr h
theorem sayX (G : Nat -> Prop) (W : World) (p : Nat) (q : Lis) (s : PS) (L : List Ev) (hR : RR G W p q s L) (k r b : Int) (hn : AL q L [evX k r b]) :
  Calls Tryz.prog 41 #[.pointer (some ⟨q.p, 0, none⟩), .agg #[.int .i64 k, .int .i32 r, .int .u8 b, .int .u8 0, .string ByteArray.empty, .slice none 0 0, .slice none 0 0]] W fun x w' => (∃ y, x = .returned y) /\ TP G W p q s (L ++ [evX k r b]) w' :=
 sayR G W p q s L hR (evXV k r b) (evX k r b) hn (evX_at _ _ _ _ _)
theorem rr_cells {G : Nat -> Prop} {w : World} {p : Nat} {q : Lis} {s : PS} {L : List Ev} (h : RR G w p q s L) : w.cell? ⟨p, 0, none⟩ = some (.int .i64 s.st) /\ w.cell? ⟨p, 11, none⟩ = some (sayV q) := by
 obtain ⟨d, vi, vp, vd, vo, hc, hg⟩ := h
 exact ⟨blk_cell hc.pb 0, blk_cell hc.pb 11⟩
set_option maxRecDepth 100000 in
set_option maxHeartbeats 8000000 in
theorem ctl_any (c : Int) (w : World) : Calls Tryz.prog 230 #[.int .u8 c] w fun e w' => e = .returned (.bool (ctlB c)) /\ w' = w := by
 obtain ⟨B, hB⟩ : ∃ B, ctlB c = B := ⟨_, rfl⟩
 have hB' := hB
 unfold ctlB at hB'
 rw [hB]
 clear hB
 cases c0 : decide (c < 32) with
 | false =>
  obtain rfl : false = B := by rw [<- hB', c0]; rfl
  clear hB'
  go_enter Tryz.func230, Tryz.ntmps230
  go_wp2
  go_ret
  exact ⟨rfl, rfl⟩
 | true =>
  cases c1 : (c != 24) with
  | false =>
   obtain rfl : false = B := by rw [<- hB', c0, c1]; rfl
   clear hB'
   go_enter Tryz.func230, Tryz.ntmps230
   go_wp2
   go_ret
   exact ⟨rfl, rfl⟩
  | true =>
   cases c2 : (c != 26) with
   | false =>
    obtain rfl : false = B := by rw [<- hB', c0, c1, c2]; rfl
    clear hB'
    go_enter Tryz.func230, Tryz.ntmps230
    go_wp2
    go_ret
    exact ⟨rfl, rfl⟩
   | true =>
    cases c3 : (c != 27) with
    | false =>
     obtain rfl : false = B := by rw [<- hB', c0, c1, c2, c3]; rfl
     clear hB'
     go_enter Tryz.func230, Tryz.ntmps230
     go_wp2
     go_ret
     exact ⟨rfl, rfl⟩
    | true =>
     obtain rfl : true = B := by rw [<- hB', c0, c1, c2, c3]; rfl
     clear hB'
     go_enter Tryz.func230, Tryz.ntmps230
     go_wp2
     go_ret
     exact ⟨rfl, rfl⟩
set_option maxRecDepth 100000 in
set_option maxHeartbeats 8000000 in
theorem close_any (G : Nat -> Prop) (W : World) (p : Nat) (q : Lis) (s : PS) (L : List Ev) (b : Int) (hR : RR G W p q s L) (hn : AL q L (closeE s.st b)) :
  Calls Tryz.prog 121 #[.pointer (some ⟨p, 0, none⟩), .int .u8 b] W fun r w' => (∃ x, r = .returned x) /\ TP G W p q s (L ++ closeE s.st b) w' := by
 obtain ⟨c0, c11⟩ := rr_cells hR
 have HR := Lib.hid hR
 clear hR
 unfold sayV at c11
 by_cases h5 : s.st = 5
 ·have e : closeE s.st b = [evX 8 0 b] := by unfold closeE; rw [if_pos h5]
  have g5 : (s.st == 5) = true := by simp [h5]
  rw [e] at hn ⊢
  clear e h5
  go_enter Tryz.func121, Tryz.ntmps121
  go_wp2_with fail
  refine (sayX G W p q s L HR.out 8 0 b hn).mono ?_
  rintro r w' ⟨⟨x, rfl⟩, ht⟩
  have HT := Lib.hid ht
  clear ht
  go_wp2
  go_end0
  exact ⟨⟨_, rfl⟩, HT.out⟩
 ·have g5 : (s.st == 5) = false := by simp [h5]
  by_cases h6 : s.st = 6
  ·have e : closeE s.st b = [evX 11 0 b] := by unfold closeE; rw [if_neg h5, if_pos h6]
   have g6 : (s.st == 6) = true := by simp [h6]
   rw [e] at hn ⊢
   clear e h5 h6
   go_enter Tryz.func121, Tryz.ntmps121
   go_wp2_with fail
   refine (sayX G W p q s L HR.out 11 0 b hn).mono ?_
   rintro r w' ⟨⟨x, rfl⟩, ht⟩
   have HT := Lib.hid ht
   clear ht
   go_wp2
   go_end0
   exact ⟨⟨_, rfl⟩, HT.out⟩
  ·have e : closeE s.st b = [] := by unfold closeE; rw [if_neg h5, if_neg h6]
   have g6 : (s.st == 6) = false := by simp [h6]
   rw [e] at hn ⊢
   clear e h5 h6
   go_enter Tryz.func121, Tryz.ntmps121
   go_wp2
   go_end0
   exact ⟨⟨_, rfl⟩, by simpa only [List.append_nil] using TP.refl HR.out⟩
set_option maxRecDepth 100000 in
set_option maxHeartbeats 8000000 in
theorem print_any (G : Nat -> Prop) (W : World) (p : Nat) (q : Lis) (s : PS) (L : List Ev) (a : Option Addr) (len cap : Nat) (xs : List Int) (hR : RR G W p q s L) (hs : SlAt .i32 W a len xs) (hb : ∀ b off, 0 < len -> a = some ⟨b, off, none⟩ -> b < W.heap.size /\ ¬ G b) (hl : len <= 1000) (hn : AL q L (printE xs)) :
  Calls Tryz.prog 119 #[.pointer (some ⟨p, 0, none⟩), .slice a len cap] W fun r w' => (∃ x, r = .returned x) /\ TP G W p q s (L ++ printE xs) w' := by
 have hxl := hs.1
 have HS := Lib.hid (And.intro hs (And.intro hb (And.intro hxl hn)))
 have HR := Lib.hid hR
 clear hs hb hR hxl hn
 go_enter Tryz.func119, Tryz.ntmps119
 go_wp2
 go_loopg [5, 8] len (fun gg _ kv wr => ∃ k : Nat, len <= gg + k /\ k <= len /\ kv = .int .i64 (k : Int) /\ TP G W p q s (L ++ printE (xs.take k)) wr)
 case atStart => exact ⟨0, by omega, by omega, rfl, by simpa [printE] using TP.refl HR.out⟩
 case round =>
  obtain ⟨k, hgg, hkl, rfl, hT⟩ := hrel
  obtain ⟨G1, hR1, hs1, hk1⟩ := hT
  have HT := Lib.hid (And.intro hR1 (And.intro hs1 hk1))
  by_cases hk2 : k < len
  ·have g1 : decide (k < len) = true := decide_eq_true hk2
   have g1' : decide ((k : Int) < (len : Int)) = true := decide_eq_true (by omega)
   have wk : IntKind.i64.wrap ((k : Int) + 1) = (k : Int) + 1 := IntWalk.i64_in _ (by omega)
   obtain ⟨b, off, rfl, hc9⟩ := HS.out.1.2.resolve_left (by omega)
   have hcx := hk1.cell (hc9 k hk2) (HS.out.2.1 b off (by omega) rfl).2
   obtain ⟨x, hx⟩ : ∃ x, xs.getD k 0 = x := ⟨_, rfl⟩
   rw [hx] at hcx
   obtain ⟨c0, c11⟩ := rr_cells hR1
   unfold sayV at c11
   have hxk : k < xs.length := by rw [HS.out.2.2.1]; exact hk2
   have htk : xs.take (k + 1) = xs.take k ++ [x] := by rw [List.take_add_one, List.getElem?_eq_getElem hxk]; rw [<- hx, List.getD_eq_getElem?_getD, List.getElem?_eq_getElem hxk]; rfl
   have HX := Lib.hid htk
   have HX3 := Lib.hid (show xs.take k ++ [x] ++ xs.drop (k + 1) = xs by rw [<- htk, List.take_append_drop])
   have HX2 := Lib.hid (show x ∈ xs by rw [<- hx, List.getD_eq_getElem?_getD, List.getElem?_eq_getElem hxk]; exact List.getElem_mem hxk)
   have HN := Lib.hid (show AL q (L ++ printE (xs.take k)) [evX 1 x 0] from by
    have h1 : printE xs = (printE (xs.take k) ++ [evX 1 x 0]) ++ printE (xs.drop (k + 1)) := by
     have h0 := congrArg printE HX3.out
     unfold printE at *
     rw [List.map_append, List.map_append] at h0
     exact h0.symm
    have h2 := HS.out.2.2.2
    rw [h1] at h2
    exact AL.right (AL.left h2))
   clear hc9 hx hR1 hs1 hk1 hxk htk
   go_wp2_with fail
   refine (sayX G1 wr p q s _ HT.out.1 1 x 0 HN.out).mono ?_
   rintro r w' ⟨⟨y, rfl⟩, ht⟩
   have HT2 := Lib.hid (TP.then HT.out.2.1 HT.out.2.2 ht)
   clear ht
   go_wp2
   go_roundg (gk - 1)
   case rel => exact ⟨k + 1, by omega, by omega, by simp, by rw [HX.out]; have h := HT2.out; rw [List.append_assoc] at h; simpa [printE] using h⟩
   case measure => omega
  ·obtain rfl : k = len := by omega
   have g1 : decide (k < k) = false := decide_eq_false hk2
   have hall : xs.take k = xs := List.take_of_length_le (Nat.le_of_eq HS.out.2.2.1)
   rw [hall] at HT
   clear hR1 hs1 hk1 hall
   go_wp2
   go_end0
   exact ⟨⟨_, rfl⟩, G1, HT.out⟩
def evDV (k : Int) (ad : Option Addr) (nd cd : Nat) : EvV := ⟨k, 0, 0, 0, ByteArray.empty, none, 0, 0, ad, nd, cd⟩
theorem evD_at {w : World} {M : Nat -> Prop} (k : Int) {ad : Option Addr} {nd cd : Nat} {xs : List Int} (h : SlAt .u8 w ad nd xs) (hn : ad = none -> nd = 0 /\ cd = 0) (hM : ∀ b off, ad = some ⟨b, off, none⟩ -> ¬ M b /\ b < w.heap.size) : EvAt w M (evDV k ad nd cd) ⟨k, 0, 0, 0, ByteArray.empty, [], xs⟩ :=
 ⟨rfl, rfl, rfl, rfl, rfl, ⟨rfl, .inl rfl⟩, h, (fun _ => ⟨rfl, rfl⟩), hn, (fun _ _ h => by cases h), hM⟩
theorem sayD (G : Nat -> Prop) (W0 W : World) (p : Nat) (q : Lis) (s : PS) (L : List Ev) (hR : RR G W0 p q s L) (hk : Kept (fun _ => False) W0 W) (k : Int) (v : Value) (xs : List Int) (hn : AL q L [⟨k, 0, 0, 0, ByteArray.empty, [], xs⟩]) (ho : Own .u8 5 W v xs) (hb : ∀ b, v.ownBlock = some b -> W0.heap.size <= b) :
  Calls Tryz.prog 41 #[.pointer (some ⟨q.p, 0, none⟩), .agg #[.int .i64 k, .int .i32 0, .int .u8 0, .int .u8 0, .string ByteArray.empty, .slice none 0 0, v]] W fun x w' => (∃ y, x = .returned y) /\ TP G W0 p q s (L ++ [⟨k, 0, 0, 0, ByteArray.empty, [], xs⟩]) w' := by
 have hlt := ho.lt
 obtain ⟨a, c, rfl, hs, -, -, hnil, hob⟩ := ho.shape
 refine (sayR G W p q s L (hR.up hk) (evDV k a xs.length c) _ hn (evD_at k hs hnil (fun b off h => ⟨fun hg => ?_, hlt b (hob b off h)⟩))).mono ?_
 ·have h1 := hb b (hob b off h)
  have h2 := hR.lt b hg
  omega
 ·rintro r w' ⟨hr, ht⟩
  exact ⟨hr, TP.then (fun _ h => .inl h) (hk.mono fun _ _ h => h.elim) ht⟩
set_option maxRecDepth 100000 in
set_option maxHeartbeats 8000000 in
theorem told_any (G : Nat -> Prop) (W : World) (p : Nat) (q : Lis) (s : PS) (L : List Ev) (hR : RR G W p q s L) (hn : AL q L ([toldE s])) :
  Calls Tryz.prog 166 #[.pointer (some ⟨p, 0, none⟩)] W fun r w' => (∃ x, r = .returned x) /\ TP G W p q s (L ++ [toldE s]) w' := by
 have HR := Lib.hid hR
 obtain ⟨d, vi, vp, vd, vo, hc, hg⟩ := hR
 obtain ⟨da, dc, hde, hsd, -, -, hdn, -⟩ := hc.hd.shape
 have hdl := hc.ok.ds
 obtain ⟨dn, hdn0⟩ : ∃ n, s.ds.length = n := ⟨_, rfl⟩
 rw [hdn0] at hde hsd hdn hdl
 subst hde
 have hkd : Kept (fun _ => False) W W.drew := (Kept.refl _ _).drew
 obtain ⟨-, -, -, -, -, -, -, -, -, -, ⟨c10, c10f⟩, ⟨c11, c11f⟩⟩ := pcells hc.pb
 obtain ⟨-, -, -, -, -, -, -, -, -, -, ⟨e10, e10f⟩, ⟨e11, e11f⟩⟩ := pcells (hkd.blk hc.pb id)
 have HC := Lib.hid (pclone_any da dn dc s.ds W.drew (hsd.kept hkd (fun _ _ _ _ => id)) hdn (by omega))
 have HN := Lib.hid (And.intro hn hkd)
 have HB := Lib.hid hc.pb
 unfold sayV at c11 e11
 clear hc hg hsd hdn hdl hdn0 hn hkd
 go_enter Tryz.func166, Tryz.ntmps166
 go_wp2
 go_region_with (first
  | (go_at_call 47; refine HC.out.mono ?_; rintro r w5 ⟨v, rfl, ho, hk, hb⟩; obtain ⟨av, cv, hve, -⟩ := ho.shape; subst hve; have hk2 := HN.out.2.then hk; obtain ⟨-, -, -, -, -, -, -, -, -, -, -, ⟨f11, f11f⟩⟩ := pcells (hk2.blk HB.out id); unfold sayV at f11; have H5 := Lib.hid (And.intro ho (And.intro hk2 hb)); clear ho hk hk2 hb)
  | (go_at_call 41; refine (sayD G W _ p q s L HR.out H5.out.2.1 5 _ s.ds HN.out.1 H5.out.1 (fun b hb => H5.out.2.2 b hb)).mono ?_; rintro r w6 ⟨⟨y, rfl⟩, ht⟩; have H6 := Lib.hid ht; clear ht))
 all_goals go_wp2
 all_goals go_end0
 all_goals exact ⟨⟨_, rfl⟩, H6.out⟩
set_option maxRecDepth 100000 in
set_option maxHeartbeats 8000000 in
theorem data_any (G : Nat -> Prop) (W : World) (p : Nat) (q : Lis) (s : PS) (L : List Ev) (a : Option Addr) (len cap : Nat) (xs : List Int) (hR : RR G W p q s L) (hs : SlAt .u8 W a len xs) (hnil : a = none -> len = 0 /\ cap = 0) (hl : len <= 1000000) (hn : AL q L ([dataE s xs])) :
  Calls Tryz.prog 116 #[.pointer (some ⟨p, 0, none⟩), .slice a len cap] W fun r w' => (∃ x, r = .returned x) /\ TP G W p q s (L ++ [dataE s xs]) w' := by
 have HR := Lib.hid hR
 obtain ⟨d, vi, vp, vd, vo, hc, hg⟩ := hR
 have hkd : Kept (fun _ => False) W W.drew := (Kept.refl _ _).drew
 obtain ⟨⟨c0, c0f⟩, -, -, -, -, -, -, -, -, -, -, ⟨c11, c11f⟩⟩ := pcells hc.pb
 obtain ⟨-, -, -, -, -, -, -, -, -, -, -, ⟨e11, e11f⟩⟩ := pcells (hkd.blk hc.pb id)
 have HC := Lib.hid (pclone_any a len cap xs W.drew (hs.kept hkd (fun _ _ _ _ => id)) hnil (by omega))
 have HB := Lib.hid hc.pb
 unfold sayV at c11 e11
 clear hc hg hs hnil hl
 by_cases h6 : s.st = 6
 ·have g6 : (s.st == 6) = true := by simp [h6]
  have e : dataE s xs = ⟨10, 0, 0, 0, ByteArray.empty, [], xs⟩ := by unfold dataE; rw [if_pos h6]
  rw [e] at hn ⊢
  clear e h6
  have HN := Lib.hid (And.intro hn hkd)
  clear hn hkd
  go_enter Tryz.func116, Tryz.ntmps116
  go_wp2
  go_region_with (first
   | (go_at_call 47; refine HC.out.mono ?_; rintro r w5 ⟨v, rfl, ho, hk, hb⟩; obtain ⟨av, cv, hve, -⟩ := ho.shape; subst hve; have hk2 := HN.out.2.then hk; obtain ⟨-, -, -, -, -, -, -, -, -, -, -, ⟨f11, f11f⟩⟩ := pcells (hk2.blk HB.out id); unfold sayV at f11; have H5 := Lib.hid (And.intro ho (And.intro hk2 hb)); clear ho hk hk2 hb)
   | (go_at_call 41; refine (sayD G W _ p q s L HR.out H5.out.2.1 10 _ xs HN.out.1 H5.out.1 (fun b hb => H5.out.2.2 b hb)).mono ?_; rintro r w6 ⟨⟨y, rfl⟩, ht⟩; have H6 := Lib.hid ht; clear ht))
  all_goals go_wp2
  all_goals go_end0
  all_goals exact ⟨⟨_, rfl⟩, H6.out⟩
 ·have g6 : (s.st == 6) = false := by simp [h6]
  have e : dataE s xs = ⟨7, 0, 0, 0, ByteArray.empty, [], xs⟩ := by unfold dataE; rw [if_neg h6]
  rw [e] at hn ⊢
  clear e h6
  have HN := Lib.hid (And.intro hn hkd)
  clear hn hkd
  go_enter Tryz.func116, Tryz.ntmps116
  go_wp2
  go_region_with (first
   | (go_at_call 47; refine HC.out.mono ?_; rintro r w5 ⟨v, rfl, ho, hk, hb⟩; obtain ⟨av, cv, hve, -⟩ := ho.shape; subst hve; have hk2 := HN.out.2.then hk; obtain ⟨-, -, -, -, -, -, -, -, -, -, -, ⟨f11, f11f⟩⟩ := pcells (hk2.blk HB.out id); unfold sayV at f11; have H5 := Lib.hid (And.intro ho (And.intro hk2 hb)); clear ho hk hk2 hb)
   | (go_at_call 41; refine (sayD G W _ p q s L HR.out H5.out.2.1 7 _ xs HN.out.1 H5.out.1 (fun b hb => H5.out.2.2 b hb)).mono ?_; rintro r w6 ⟨⟨y, rfl⟩, ht⟩; have H6 := Lib.hid ht; clear ht))
  all_goals go_wp2
  all_goals go_end0
  all_goals exact ⟨⟨_, rfl⟩, H6.out⟩
set_option maxRecDepth 100000 in
set_option maxHeartbeats 8000000 in
theorem keep_any (G : Nat -> Prop) (W : World) (p : Nat) (q : Lis) (s : PS) (L : List Ev) (c : Int) (hR : RR G W p q s L) :
  Calls Tryz.prog 232 #[.pointer (some ⟨p, 0, none⟩), .int .u8 c] W fun r w' => (∃ x, r = .returned x) /\ TP G W p q (keepS s c) L w' := by
 obtain ⟨d, vi, vp, vd, vo, hc, hg⟩ := hR
 obtain ⟨ia, ic, hie, hsi, -⟩ := hc.hi.shape
 obtain ⟨iN, hin⟩ : ∃ n, s.it.length = n := ⟨_, rfl⟩
 rw [hin] at hie
 subst hie
 have hil := hc.ok.it
 rw [hin] at hil
 obtain ⟨-, -, -, -, ⟨c4, c4f⟩, ⟨c5, c5f⟩, -, -, -, -, -, -⟩ := pcells hc.pb
 by_cases h2 : iN = 2
 ·have e : keepS s c = { s with wr := true } := by unfold keepS; rw [if_pos (by omega)]
  rw [e]
  have g2 : ((iN : Int) == 2) = true := by simp [h2]
  obtain ⟨V, hV⟩ : ∃ V, W.setCell ⟨p, 5, none⟩ (.bool true) = V := ⟨_, rfl⟩
  have hkV : Kept (fun i => i = p) W V := by rw [<- hV]; exact (Kept.refl (fun i => i = p) W).setCell (p := ⟨p, 5, none⟩) (.inl rfl) _
  have hbV : V.heap[p]? = some (.cells (PC { s with wr := true } d (.slice ia iN ic) vp vd (sayV q)) 139 (0, 0)) := by rw [<- hV]; exact blk_set hc.pb 5 _
  have HT := Lib.hid (tp_upd hc hg hkV hbV rfl rfl rfl rfl ⟨hc.ok.st, hc.ok.it, hc.ok.ps, hc.ok.la, hc.ok.ds⟩)
  clear hkV hbV hc hg e h2 hsi
  go_enter Tryz.func232, Tryz.ntmps232
  go_wp2
  exact bodyPost_ret (results_none rfl _ _ _) rfl ⟨⟨_, rfl⟩, HT.out⟩
 ·have e : keepS s c = { s with it := s.it ++ [c] } := by unfold keepS; rw [if_neg (by omega)]
  rw [e]
  have g2 : ((iN : Int) == 2) = false := by simp; omega
  obtain ⟨i0, hi, hz, hsz, hby⟩ := info_parts Tryz.infoByte
  have HI := Lib.hid (And.intro hi (And.intro hz (And.intro hsz hby)))
  have hil1 : iN <= 1 := by omega
  have HC := Lib.hid (And.intro hc (And.intro hg (And.intro hin hil1)))
  obtain ⟨W2, hW2⟩ : ∃ W2, W.alloc (.cells #[.int .u8 c] 5) = W2 := ⟨_, rfl⟩
  have hk2 : Kept (fun _ => False) W W2 := by rw [<- hW2]; exact (Kept.refl _ _).alloc _
  have hs2 : SlAt .u8 W2 (some ⟨W.heap.size, 0, none⟩) 1 [c] := by rw [<- hW2]; exact slAt_one W c 5
  have H2 := Lib.hid (And.intro hk2 (And.intro hs2 (And.intro (hc.hi.kept hk2 (fun _ _ => id)) (And.intro (hk2.blk hc.pb id) hk2.size))))
  have h63 : (9223372036854775807 : Nat) = maxLen := rfl
  clear hi hz hsz hby hc hg hin hsi hk2 hs2 e h2 hil hil1
  go_enter Tryz.func232, Tryz.ntmps232
  go_wp2_with (first
   | (at_builtin; refine wpList_appInts rfl (.tmp 17) (.tmp 19) 22 rfl 5 .u8 i0 (.int .u8 0) 1 Tryz.underlying22 HI.out.1 HI.out.2.1 HI.out.2.2.1 HI.out.2.2.2 rfl (.slice ia iN ic) s.it rfl H2.out.2.2.1 (some ⟨W.heap.size, 0, none⟩) 1 1 [c] rfl (fun h => by cases h) H2.out.2.1 (by have h8 := HC.out.2.2.1; have h9 := HC.out.2.2.2; omega) (by have h8 := HC.out.2.2.1; have h9 := HC.out.2.2.2; omega) ?_; intro v5 w5 ho5 hk5 hpr5; obtain ⟨a5, c5, hv5e, -⟩ := ho5.shape; obtain ⟨n5, hn5⟩ : ∃ n, (s.it ++ [c]).length = n := ⟨_, rfl⟩; rw [hn5] at hv5e; subst hv5e; clear hn5; have hbp5 := hk5.blk H2.out.2.2.2.1 (fun h => by have h2 := own_blk H2.out.2.2.1 h; obtain ⟨cc, hcc⟩ := h2; exact blk_ne hcc H2.out.2.2.2.1 (by decide) rfl); obtain ⟨-, -, -, -, ⟨g4, g4f⟩, -, -, -, -, -, -, -⟩ := pcells hbp5; have H5 := Lib.hid (And.intro ho5 (And.intro hk5 (And.intro hpr5 hbp5))); clear ho5 hk5 hpr5 hbp5))
  go_end0
  obtain ⟨hc, hg, hin, hil⟩ := HC.out
  obtain ⟨ho5, hk5, hpr5, hbp5⟩ := H5.out
  have hz2 := H2.out.2.2.2.2
  have hv : (Value.slice a5 n5 c5).ownBlock = (Value.slice ia iN ic).ownBlock \/ ∀ b, (Value.slice a5 n5 c5).ownBlock = some b -> W.heap.size <= b := by
   rcases hpr5 with h | h
   ·exact .inl h
   ·exact .inr (fun b hb => by rw [h] at hb; cases hb; exact hz2)
  have hkF : Kept (fun i => i = p \/ (Value.slice ia iN ic).ownBlock = some i) W (w5.setCell ⟨p, 4, none⟩ (.slice a5 n5 c5)) := Kept.setCell (S := fun i => i = p \/ (Value.slice ia iN ic).ownBlock = some i) ((H2.out.1.mono (fun _ _ h => h.elim)).then (hk5.mono fun _ _ h => Or.inr h)) (p := ⟨p, 4, none⟩) (.inl (.inl rfl)) _
  have hbF : (w5.setCell ⟨p, 4, none⟩ (.slice a5 n5 c5)).heap[p]? = some (.cells (PC { s with it := s.it ++ [c] } d (.slice a5 n5 c5) vp vd (sayV q)) 139 (0, 0)) := blk_set hbp5 4 _
  have hoF : Own .u8 5 (w5.setCell ⟨p, 4, none⟩ (.slice a5 n5 c5)) (.slice a5 n5 c5) (s.it ++ [c]) := ho5.kept (S := fun i => i = p) ((Kept.refl (fun i => i = p) w5).setCell (p := ⟨p, 4, none⟩) (.inl rfl) _) (fun b hb hh => by
   obtain ⟨cc, hcc⟩ := own_blk ho5 hb
   exact blk_ne hcc hbp5 (by decide) hh)
  refine ⟨⟨_, rfl⟩, tp_of hg (hc.updI (s' := { s with it := s.it ++ [c] }) hkF hbF hoF hv rfl rfl rfl ⟨hc.ok.st, by simp; omega, hc.ok.ps, hc.ok.la, hc.ok.ds⟩) (fun i hi => ?_) (hkF.mono fun i _ h => ?_)⟩
  ·rcases hi with hi | hi | hi | hi | hi
   ·exact .inl (.inl hi)
   ·exact .inl (.inr (.inl hi))
   ·exact .inl (.inr (.inr (.inl hi)))
   ·rcases hv with h1 | h1
    ·exact .inl (.inr (.inr (.inr (.inl (by rw [<- h1]; exact hi)))))
    ·exact .inr (h1 i hi)
   ·exact .inl (.inr (.inr (.inr (.inr hi))))
  ·rcases h with h | h
   ·exact .inl h
   ·exact .inr (.inr (.inr (.inl h)))
theorem nextS_lt {s : PS} (h : s.ps.length < 16) : nextS s = { s with ps := s.ps ++ [s.la], la := 0 } := by unfold nextS; rw [if_pos h]
theorem nextS_ge {s : PS} (h : ¬ s.ps.length < 16) : nextS s = { s with la := 0 } := by unfold nextS; rw [if_neg h]
theorem mP {p : Nat} {q : Lis} {d : Nat} {vi vp vd v' : Value} {vo : Nat -> Prop} {B : Nat} (hv : v'.ownBlock = vp.ownBlock \/ ∀ b, v'.ownBlock = some b -> B <= b) (i : Nat) (hi : Mset p q d vi v' vd vo i) : Mset p q d vi vp vd vo i \/ B <= i := by
 rcases hi with hi | hi | hi | hi | hi | hi
 ·exact .inl (.inl hi)
 ·exact .inl (.inr (.inl hi))
 ·exact .inl (.inr (.inr (.inl hi)))
 ·exact .inl (.inr (.inr (.inr (.inl hi))))
 ·rcases hv with h1 | h1
  ·exact .inl (.inr (.inr (.inr (.inr (.inl (by rw [<- h1]; exact hi))))))
  ·exact .inr (h1 i hi)
 ·exact .inl (.inr (.inr (.inr (.inr (.inr hi)))))
theorem mS {p : Nat} {q : Lis} {d : Nat} {vi vp vd v' : Value} {vo : Nat -> Prop} {B : Nat} (hv : v'.ownBlock = vd.ownBlock \/ ∀ b, v'.ownBlock = some b -> B <= b) (i : Nat) (hi : Mset p q d vi vp v' vo i) : Mset p q d vi vp vd vo i \/ B <= i := by
 rcases hi with hi | hi | hi | hi | hi | hi | hi
 ·exact .inl (.inl hi)
 ·exact .inl (.inr (.inl hi))
 ·exact .inl (.inr (.inr (.inl hi)))
 ·exact .inl (.inr (.inr (.inr (.inl hi))))
 ·exact .inl (.inr (.inr (.inr (.inr (.inl hi)))))
 ·rcases hv with h1 | h1
  ·exact .inl (.inr (.inr (.inr (.inr (.inr (.inl (by rw [<- h1]; exact hi)))))))
  ·exact .inr (h1 i hi)
 ·exact .inl (.inr (.inr (.inr (.inr (.inr (.inr hi))))))
set_option maxRecDepth 100000 in
set_option maxHeartbeats 8000000 in
theorem next_any (G : Nat -> Prop) (W : World) (p : Nat) (q : Lis) (s : PS) (L : List Ev) (hR : RR G W p q s L) :
  Calls Tryz.prog 235 #[.pointer (some ⟨p, 0, none⟩)] W fun r w' => (∃ x, r = .returned x) /\ TP G W p q (nextS s) L w' := by
 obtain ⟨d, vi, vp, vd, vo, hc, hg⟩ := hR
 obtain ⟨pa, pc, hpe, hsp, -⟩ := hc.hp.shape
 obtain ⟨pn, hpn⟩ : ∃ n, s.ps.length = n := ⟨_, rfl⟩
 rw [hpn] at hpe
 subst hpe
 obtain ⟨-, -, -, -, -, -, -, ⟨c7, c7f⟩, -, ⟨c9, c9f⟩, -, -⟩ := pcells hc.pb
 by_cases h16 : pn < 16
 ·rw [nextS_lt (by omega)]
  have g16 : decide (pn < 16) = true := decide_eq_true h16
  have g16' : decide ((pn : Int) < 16) = true := decide_eq_true (by omega)
  obtain ⟨i0, hi, hz, hsz, hby⟩ := info_parts Tryz.infoInt8
  have HI := Lib.hid (And.intro hi (And.intro hz (And.intro hsz hby)))
  have HC := Lib.hid (And.intro hc (And.intro hg (And.intro hpn h16)))
  obtain ⟨W2, hW2⟩ : ∃ W2, (W.alloc (.cells #[.int .i64 s.la] 3)).drew = W2 := ⟨_, rfl⟩
  have hk2 : Kept (fun _ => False) W W2 := by rw [<- hW2]; exact ((Kept.refl _ _).alloc _).drew
  have hs2 : SlAt .i64 W2 (some ⟨W.heap.size, 0, none⟩) 1 [s.la] := by rw [<- hW2]; exact (slAt_one W s.la 3).kept ((Kept.refl (fun _ => False) _).drew) (fun _ _ _ _ => id)
  obtain ⟨-, -, -, -, -, -, -, ⟨d7, d7f⟩, -, ⟨d9, d9f⟩, -, -⟩ := pcells (hk2.blk hc.pb id)
  have H2 := Lib.hid (And.intro hk2 (And.intro hs2 (And.intro (hc.hp.kept hk2 (fun _ _ => id)) (And.intro (hk2.blk hc.pb id) hk2.size))))
  have h63 : (9223372036854775807 : Nat) = maxLen := rfl
  clear hi hz hsz hby hc hg hpn hsp hk2 hs2
  go_enter Tryz.func235, Tryz.ntmps235
  go_wp2
  go_region_law (refine step_appInts rfl (.tmp 12) (.tmp 17) 31 rfl 3 .i64 i0 (.int .i64 0) 8 Tryz.underlying31 HI.out.1 HI.out.2.1 HI.out.2.2.1 HI.out.2.2.2 rfl (.slice pa pn pc) s.ps rfl (by exact H2.out.2.2.1) (some ⟨W.heap.size, 0, none⟩) 1 1 [s.la] rfl (fun h => by cases h) (by exact H2.out.2.1) (by have h8 := HC.out.2.2.1; omega) (by have h8 := HC.out.2.2.1; omega) ?_; intro v5 w5 ho5 hk5 hpr5; obtain ⟨a5, c5, hv5e, -⟩ := ho5.shape; obtain ⟨n5, hn5⟩ : ∃ n, (s.ps ++ [s.la]).length = n := ⟨_, rfl⟩; rw [hn5] at hv5e; subst hv5e; clear hn5; have hbp5 := hk5.blk H2.out.2.2.2.1 (fun h => by have h2 := own_blk H2.out.2.2.1 h; obtain ⟨cc, hcc⟩ := h2; exact blk_ne hcc H2.out.2.2.2.1 (by decide) rfl); obtain ⟨-, -, -, -, -, -, -, ⟨g7, g7f⟩, -, -, -, -⟩ := pcells hbp5; obtain ⟨V, hV⟩ : ∃ V, w5.setCell ⟨p, 7, none⟩ (.slice a5 n5 c5) = V := ⟨_, rfl⟩; have hbV : V.heap[p]? = some (.cells (PC { s with ps := s.ps ++ [s.la] } d vi (.slice a5 n5 c5) vd (sayV q)) 139 (0, 0)) := (by rw [<- hV]; exact blk_set hbp5 7 _); obtain ⟨-, -, -, -, -, -, -, -, -, ⟨k9, k9f⟩, -, -⟩ := pcells hbV; have H5 := Lib.hid (And.intro ho5 (And.intro hk5 (And.intro hpr5 (And.intro hbV (And.intro hV hbp5))))); clear ho5 hk5 hpr5 hbp5 hbV)
  all_goals go_wp2
  all_goals go_end0
  all_goals
   obtain ⟨hc, hg, hpn, h16⟩ := HC.out
   obtain ⟨ho5, hk5, hpr5, hbV, hV, hbp5⟩ := H5.out
   have hz2 := H2.out.2.2.2.2
   have hv : (Value.slice a5 n5 c5).ownBlock = (Value.slice pa pn pc).ownBlock \/ ∀ b, (Value.slice a5 n5 c5).ownBlock = some b -> W.heap.size <= b := by
    rcases hpr5 with h | h
    ·exact .inl h
    ·exact .inr (fun b hb => by rw [h] at hb; cases hb; exact hz2)
   have hkV : Kept (fun i => i = p \/ (Value.slice pa pn pc).ownBlock = some i) W V := by rw [<- hV]; exact Kept.setCell (S := fun i => i = p \/ (Value.slice pa pn pc).ownBlock = some i) ((H2.out.1.mono (fun _ _ h => h.elim)).then (hk5.mono fun _ _ h => Or.inr h)) (p := ⟨p, 7, none⟩) (.inl (.inl rfl)) _
   have hkF : Kept (fun i => i = p \/ (Value.slice pa pn pc).ownBlock = some i) W (V.setCell ⟨p, 9, none⟩ (.int .i64 0)) := Kept.setCell (S := fun i => i = p \/ (Value.slice pa pn pc).ownBlock = some i) hkV (p := ⟨p, 9, none⟩) (.inl (.inl rfl)) _
   have hkVp : Kept (fun i => i = p) w5 (V.setCell ⟨p, 9, none⟩ (.int .i64 0)) := by rw [<- hV]; exact ((Kept.refl (fun i => i = p) w5).setCell (p := ⟨p, 7, none⟩) (.inl rfl) _).setCell (p := ⟨p, 9, none⟩) (.inl rfl) _
   have hoF : Own .i64 3 (V.setCell ⟨p, 9, none⟩ (.int .i64 0)) (.slice a5 n5 c5) (s.ps ++ [s.la]) := ho5.kept hkVp (fun b hb hh => by
    obtain ⟨cc, hcc⟩ := own_blk ho5 hb
    exact blk_ne hcc hbp5 (by decide) hh)
   refine ⟨⟨_, rfl⟩, tp_of hg (hc.updP (s' := { s with ps := s.ps ++ [s.la], la := 0 }) hkF (blk_set hbV 9 _) hoF hv rfl rfl rfl ⟨hc.ok.st, hc.ok.it, by simp; omega, by simp, hc.ok.ds⟩) (fun i hi => mP hv i hi) (hkF.mono fun i _ h => ?_)⟩
   rcases h with h | h
   ·exact .inl h
   ·exact .inr (.inr (.inr (.inr (.inl h))))
 ·rw [nextS_ge (by omega)]
  have g16 : decide (pn < 16) = false := decide_eq_false h16
  have g16' : decide ((pn : Int) < 16) = false := decide_eq_false (by omega)
  obtain ⟨V, hV⟩ : ∃ V, W.setCell ⟨p, 9, none⟩ (.int .i64 0) = V := ⟨_, rfl⟩
  have hkV : Kept (fun i => i = p) W V := by rw [<- hV]; exact (Kept.refl (fun i => i = p) W).setCell (p := ⟨p, 9, none⟩) (.inl rfl) _
  have hbV : V.heap[p]? = some (.cells (PC { s with la := 0 } d vi (.slice pa pn pc) vd (sayV q)) 139 (0, 0)) := by rw [<- hV]; exact blk_set hc.pb 9 _
  have HT := Lib.hid (tp_upd (s' := { s with la := 0 }) hc hg hkV hbV rfl rfl rfl rfl ⟨hc.ok.st, hc.ok.it, hc.ok.ps, by simp, hc.ok.ds⟩)
  clear hkV hbV hc hg h16 hsp
  go_enter Tryz.func235, Tryz.ntmps235
  go_wp2
  go_end0
  exact ⟨⟨_, rfl⟩, HT.out⟩
set_option maxRecDepth 100000 in
set_option maxHeartbeats 8000000 in
theorem begin_any' (G : Nat -> Prop) (W : World) (p : Nat) (q : Lis) (s : PS) (L : List Ev) (k : Int) (hkk : 0 <= k /\ k <= 7) (hR : RR G W p q s L) :
  Calls Tryz.prog 122 #[.pointer (some ⟨p, 0, none⟩), .int .i64 k] W fun r w' => (∃ x, r = .returned x) /\ TP G W p q (s.beg k) L w' := by
 obtain ⟨d, vi, vp, vd, vo, hc, hg⟩ := hR
 have hI := hc.hi
 have hP := hc.hp
 have hI0 := hI
 have hP0 := hP
 obtain ⟨-, hI2⟩ := hI0
 obtain ⟨-, hP2⟩ := hP0
 rcases hI2 with ⟨rfl, -⟩ | ⟨ig, ic, icur, hie, -, -, -, icm, -, -⟩
 ·rcases hP2 with ⟨rfl, -⟩ | ⟨pg, pc, pcur, hpe, -, -, -, pcm, -, -⟩
  ·clear hI hP
   obtain ⟨⟨c1_0, c1_0f⟩, -, -, -, -, -, -, -, -, -, -, -⟩ := pcells hc.pb
   obtain ⟨V1, hV1⟩ : ∃ V, W.setCell ⟨p, 0, none⟩ (.int .i64 k) = V := ⟨_, rfl⟩
   have hb1 : V1.heap[p]? = some (.cells (PC { s with st := k } d (.slice none 0 0) (.slice none 0 0) vd (sayV q)) 139 (0, 0)) := by rw [<- hV1]; exact blk_set hc.pb 0 _
   obtain ⟨-, -, -, ⟨c2_3, c2_3f⟩, -, -, -, -, -, -, -, -⟩ := pcells hb1
   obtain ⟨V2, hV2⟩ : ∃ V, V1.setCell ⟨p, 3, none⟩ (.int .u8 0) = V := ⟨_, rfl⟩
   have hb2 : V2.heap[p]? = some (.cells (PC { s with st := k, pv := 0 } d (.slice none 0 0) (.slice none 0 0) vd (sayV q)) 139 (0, 0)) := by rw [<- hV2]; exact blk_set hb1 3 _
   obtain ⟨-, -, -, -, -, ⟨c3_5, c3_5f⟩, -, -, -, -, -, -⟩ := pcells hb2
   obtain ⟨V3, hV3⟩ : ∃ V, V2.setCell ⟨p, 5, none⟩ (.bool false) = V := ⟨_, rfl⟩
   have hb3 : V3.heap[p]? = some (.cells (PC { s with st := k, pv := 0, wr := false } d (.slice none 0 0) (.slice none 0 0) vd (sayV q)) 139 (0, 0)) := by rw [<- hV3]; exact blk_set hb2 5 _
   obtain ⟨-, -, -, -, -, -, ⟨c4_6, c4_6f⟩, -, -, -, -, -⟩ := pcells hb3
   obtain ⟨V4, hV4⟩ : ∃ V, V3.setCell ⟨p, 6, none⟩ (.bool true) = V := ⟨_, rfl⟩
   have hb4 : V4.heap[p]? = some (.cells (PC { s with st := k, pv := 0, wr := false, fi := true } d (.slice none 0 0) (.slice none 0 0) vd (sayV q)) 139 (0, 0)) := by rw [<- hV4]; exact blk_set hb3 6 _
   obtain ⟨-, -, -, -, -, -, -, -, ⟨c5_8, c5_8f⟩, -, -, -⟩ := pcells hb4
   obtain ⟨V5, hV5⟩ : ∃ V, V4.setCell ⟨p, 8, none⟩ (.bool false) = V := ⟨_, rfl⟩
   have hb5 : V5.heap[p]? = some (.cells (PC { s with st := k, pv := 0, wr := false, fi := true, so := false } d (.slice none 0 0) (.slice none 0 0) vd (sayV q)) 139 (0, 0)) := by rw [<- hV5]; exact blk_set hb4 8 _
   obtain ⟨-, -, -, -, -, -, -, -, -, ⟨c6_9, c6_9f⟩, -, -⟩ := pcells hb5
   obtain ⟨V6, hV6⟩ : ∃ V, V5.setCell ⟨p, 9, none⟩ (.int .i64 0) = V := ⟨_, rfl⟩
   have hb6 : V6.heap[p]? = some (.cells (PC { s with st := k, pv := 0, wr := false, fi := true, so := false, la := 0 } d (.slice none 0 0) (.slice none 0 0) vd (sayV q)) 139 (0, 0)) := by rw [<- hV6]; exact blk_set hb5 9 _
   obtain ⟨-, -, -, -, ⟨x4, x4f⟩, -, -, ⟨x7, x7f⟩, -, -, -, -⟩ := pcells hb6
   obtain ⟨E, hE⟩ : ∃ E, V6.drew = E := ⟨_, rfl⟩
   have hbE : E.heap[p]? = some (.cells (PC { s with st := k, pv := 0, wr := false, fi := true, so := false, la := 0 } d (.slice none 0 0) (.slice none 0 0) vd (sayV q)) 139 (0, 0)) := by rw [<- hE]; exact ((Kept.refl (fun _ => False) V6).drew).blk hb6 id
   obtain ⟨-, -, -, -, ⟨y4, y4f⟩, -, -, ⟨y7, y7f⟩, -, -, -, -⟩ := pcells hbE
   obtain ⟨V7, hV7⟩ : ∃ V, E.setCell ⟨p, 4, none⟩ (.slice none 0 0) = V := ⟨_, rfl⟩
   have hb7 : V7.heap[p]? = some (.cells (PC { s with st := k, pv := 0, wr := false, fi := true, so := false, la := 0 } d (.slice none 0 0) (.slice none 0 0) vd (sayV q)) 139 (0, 0)) := by rw [<- hV7]; exact blk_set hbE 4 _
   obtain ⟨-, -, -, -, -, -, -, ⟨z7, z7f⟩, -, -, -, -⟩ := pcells hb7
   obtain ⟨V8, hV8⟩ : ∃ V, V7.setCell ⟨p, 7, none⟩ (.slice none 0 0) = V := ⟨_, rfl⟩
   have hb8 : V8.heap[p]? = some (.cells (PC { s with st := k, pv := 0, wr := false, fi := true, so := false, la := 0 } d (.slice none 0 0) (.slice none 0 0) vd (sayV q)) 139 (0, 0)) := by rw [<- hV8]; exact blk_set hb7 7 _
   have hk8 : Kept (fun i => i = p) W V8 := by
    rw [<- hV8, <- hV7, <- hE, <- hV6, <- hV5, <- hV4, <- hV3, <- hV2, <- hV1]
    exact ((((((((Kept.refl (fun i => i = p) W).setCell (p := ⟨p, 0, none⟩) (.inl rfl) _).setCell (p := ⟨p, 3, none⟩) (.inl rfl) _).setCell (p := ⟨p, 5, none⟩) (.inl rfl) _).setCell (p := ⟨p, 6, none⟩) (.inl rfl) _).setCell (p := ⟨p, 8, none⟩) (.inl rfl) _).setCell (p := ⟨p, 9, none⟩) (.inl rfl) _).drew.setCell (p := ⟨p, 4, none⟩) (.inl rfl) _).setCell (p := ⟨p, 7, none⟩) (.inl rfl) _
   obtain ⟨bi, bp, bd⟩ := hc.blocks
   have hd8 : Own .u8 5 V8 vd s.ds := hc.hd.kept hk8 (fun b hb hh => (bd b hb).1 hh)
   have HT := Lib.hid (show TP G W p q (s.beg k) L V8 from tp_of hg (hc.re (s' := s.beg k) (vi' := .slice none 0 0) (vp' := .slice none 0 0) (vd' := vd) (hk8.mono fun i _ h => .inl h) hb8 (by show Own .u8 5 V8 (.slice none 0 0) []; exact Own.nil _ _ _) (by show Own .i64 3 V8 (.slice none 0 0) []; exact Own.nil _ _ _) hd8 (fun b hb => hc.ne b hb) (.inl rfl) (.inl rfl) (.inl rfl) rfl ⟨hkk, by simp [PS.beg], by simp [PS.beg], by simp [PS.beg], hc.ok.ds⟩) (fun i hi => .inl hi) (hk8.mono fun i _ h => .inl h))
   clear hb1 hb2 hb3 hb4 hb5 hb6 hb7 hb8 hbE hk8 hd8 bi bp bd hc hg
   go_enter Tryz.func122, Tryz.ntmps122
   go_wp2
   go_region
   all_goals go_wp2
   all_goals go_end0
   all_goals exact ⟨⟨_, rfl⟩, HT.out⟩
  ·obtain ⟨pn, hpn⟩ : ∃ n, s.ps.length = n := ⟨_, rfl⟩
   rw [hpn] at hpe
   subst hpe
   clear hpn
   obtain ⟨⟨c1_0, c1_0f⟩, -, -, -, -, -, -, -, -, -, -, -⟩ := pcells hc.pb
   obtain ⟨V1, hV1⟩ : ∃ V, W.setCell ⟨p, 0, none⟩ (.int .i64 k) = V := ⟨_, rfl⟩
   have hb1 : V1.heap[p]? = some (.cells (PC { s with st := k } d (.slice none 0 0) (.slice (some ⟨pg, 0, none⟩) pn pc) vd (sayV q)) 139 (0, 0)) := by rw [<- hV1]; exact blk_set hc.pb 0 _
   obtain ⟨-, -, -, ⟨c2_3, c2_3f⟩, -, -, -, -, -, -, -, -⟩ := pcells hb1
   obtain ⟨V2, hV2⟩ : ∃ V, V1.setCell ⟨p, 3, none⟩ (.int .u8 0) = V := ⟨_, rfl⟩
   have hb2 : V2.heap[p]? = some (.cells (PC { s with st := k, pv := 0 } d (.slice none 0 0) (.slice (some ⟨pg, 0, none⟩) pn pc) vd (sayV q)) 139 (0, 0)) := by rw [<- hV2]; exact blk_set hb1 3 _
   obtain ⟨-, -, -, -, -, ⟨c3_5, c3_5f⟩, -, -, -, -, -, -⟩ := pcells hb2
   obtain ⟨V3, hV3⟩ : ∃ V, V2.setCell ⟨p, 5, none⟩ (.bool false) = V := ⟨_, rfl⟩
   have hb3 : V3.heap[p]? = some (.cells (PC { s with st := k, pv := 0, wr := false } d (.slice none 0 0) (.slice (some ⟨pg, 0, none⟩) pn pc) vd (sayV q)) 139 (0, 0)) := by rw [<- hV3]; exact blk_set hb2 5 _
   obtain ⟨-, -, -, -, -, -, ⟨c4_6, c4_6f⟩, -, -, -, -, -⟩ := pcells hb3
   obtain ⟨V4, hV4⟩ : ∃ V, V3.setCell ⟨p, 6, none⟩ (.bool true) = V := ⟨_, rfl⟩
   have hb4 : V4.heap[p]? = some (.cells (PC { s with st := k, pv := 0, wr := false, fi := true } d (.slice none 0 0) (.slice (some ⟨pg, 0, none⟩) pn pc) vd (sayV q)) 139 (0, 0)) := by rw [<- hV4]; exact blk_set hb3 6 _
   obtain ⟨-, -, -, -, -, -, -, -, ⟨c5_8, c5_8f⟩, -, -, -⟩ := pcells hb4
   obtain ⟨V5, hV5⟩ : ∃ V, V4.setCell ⟨p, 8, none⟩ (.bool false) = V := ⟨_, rfl⟩
   have hb5 : V5.heap[p]? = some (.cells (PC { s with st := k, pv := 0, wr := false, fi := true, so := false } d (.slice none 0 0) (.slice (some ⟨pg, 0, none⟩) pn pc) vd (sayV q)) 139 (0, 0)) := by rw [<- hV5]; exact blk_set hb4 8 _
   obtain ⟨-, -, -, -, -, -, -, -, -, ⟨c6_9, c6_9f⟩, -, -⟩ := pcells hb5
   obtain ⟨V6, hV6⟩ : ∃ V, V5.setCell ⟨p, 9, none⟩ (.int .i64 0) = V := ⟨_, rfl⟩
   have hb6 : V6.heap[p]? = some (.cells (PC { s with st := k, pv := 0, wr := false, fi := true, so := false, la := 0 } d (.slice none 0 0) (.slice (some ⟨pg, 0, none⟩) pn pc) vd (sayV q)) 139 (0, 0)) := by rw [<- hV6]; exact blk_set hb5 9 _
   obtain ⟨-, -, -, -, ⟨x4, x4f⟩, -, -, ⟨x7, x7f⟩, -, -, -, -⟩ := pcells hb6
   obtain ⟨E, hE⟩ : ∃ E, V6.drew = E := ⟨_, rfl⟩
   have hbE : E.heap[p]? = some (.cells (PC { s with st := k, pv := 0, wr := false, fi := true, so := false, la := 0 } d (.slice none 0 0) (.slice (some ⟨pg, 0, none⟩) pn pc) vd (sayV q)) 139 (0, 0)) := by rw [<- hE]; exact ((Kept.refl (fun _ => False) V6).drew).blk hb6 id
   obtain ⟨-, -, -, -, ⟨y4, y4f⟩, -, -, ⟨y7, y7f⟩, -, -, -, -⟩ := pcells hbE
   obtain ⟨V7, hV7⟩ : ∃ V, E.setCell ⟨p, 4, none⟩ (.slice none 0 0) = V := ⟨_, rfl⟩
   have hb7 : V7.heap[p]? = some (.cells (PC { s with st := k, pv := 0, wr := false, fi := true, so := false, la := 0 } d (.slice none 0 0) (.slice (some ⟨pg, 0, none⟩) pn pc) vd (sayV q)) 139 (0, 0)) := by rw [<- hV7]; exact blk_set hbE 4 _
   obtain ⟨-, -, -, -, -, -, -, ⟨z7, z7f⟩, -, -, -, -⟩ := pcells hb7
   obtain ⟨V8, hV8⟩ : ∃ V, V7.setCell ⟨p, 7, none⟩ (.slice (some ⟨pg, 0, none⟩) 0 pc) = V := ⟨_, rfl⟩
   have hb8 : V8.heap[p]? = some (.cells (PC { s with st := k, pv := 0, wr := false, fi := true, so := false, la := 0 } d (.slice none 0 0) (.slice (some ⟨pg, 0, none⟩) 0 pc) vd (sayV q)) 139 (0, 0)) := by rw [<- hV8]; exact blk_set hb7 7 _
   have hk8 : Kept (fun i => i = p) W V8 := by
    rw [<- hV8, <- hV7, <- hE, <- hV6, <- hV5, <- hV4, <- hV3, <- hV2, <- hV1]
    exact ((((((((Kept.refl (fun i => i = p) W).setCell (p := ⟨p, 0, none⟩) (.inl rfl) _).setCell (p := ⟨p, 3, none⟩) (.inl rfl) _).setCell (p := ⟨p, 5, none⟩) (.inl rfl) _).setCell (p := ⟨p, 6, none⟩) (.inl rfl) _).setCell (p := ⟨p, 8, none⟩) (.inl rfl) _).setCell (p := ⟨p, 9, none⟩) (.inl rfl) _).drew.setCell (p := ⟨p, 4, none⟩) (.inl rfl) _).setCell (p := ⟨p, 7, none⟩) (.inl rfl) _
   obtain ⟨bi, bp, bd⟩ := hc.blocks
   have hd8 : Own .u8 5 V8 vd s.ds := hc.hd.kept hk8 (fun b hb hh => (bd b hb).1 hh)
   have HT := Lib.hid (show TP G W p q (s.beg k) L V8 from tp_of hg (hc.re (s' := s.beg k) (vi' := .slice none 0 0) (vp' := .slice (some ⟨pg, 0, none⟩) 0 pc) (vd' := vd) (hk8.mono fun i _ h => .inl h) hb8 (by show Own .u8 5 V8 (.slice none 0 0) []; exact Own.nil _ _ _) (by show Own .i64 3 V8 (.slice (some ⟨pg, 0, none⟩) 0 pc) []; obtain ⟨-, h2⟩ := hP; rcases h2 with ⟨h2, -⟩ | ⟨g9, cap9, cur9, h2, -, hg9, hn9, hc9, hs9, -⟩; cases h2; cases h2; exact ⟨rfl, .inr ⟨_, _, cur9, rfl, Nat.zero_le _, hk8.blk hg9 (fun hh => blk_ne hg9 hc.pb (by decide) hh), Nat.zero_le _, hc9, hs9, by simp⟩⟩) hd8 (fun b hb => hc.ne b hb) (.inl rfl) (.inl rfl) (.inl rfl) rfl ⟨hkk, by simp [PS.beg], by simp [PS.beg], by simp [PS.beg], hc.ok.ds⟩) (fun i hi => .inl hi) (hk8.mono fun i _ h => .inl h))
   clear hb1 hb2 hb3 hb4 hb5 hb6 hb7 hb8 hbE hk8 hd8 bi bp bd hc hg
   go_enter Tryz.func122, Tryz.ntmps122
   go_wp2
   go_region
   all_goals go_wp2
   all_goals go_end0
   all_goals exact ⟨⟨_, rfl⟩, HT.out⟩
 ·obtain ⟨iN, hin⟩ : ∃ n, s.it.length = n := ⟨_, rfl⟩
  rw [hin] at hie
  subst hie
  clear hin
  rcases hP2 with ⟨rfl, -⟩ | ⟨pg, pc, pcur, hpe, -, -, -, pcm, -, -⟩
  ·clear hP
   obtain ⟨⟨c1_0, c1_0f⟩, -, -, -, -, -, -, -, -, -, -, -⟩ := pcells hc.pb
   obtain ⟨V1, hV1⟩ : ∃ V, W.setCell ⟨p, 0, none⟩ (.int .i64 k) = V := ⟨_, rfl⟩
   have hb1 : V1.heap[p]? = some (.cells (PC { s with st := k } d (.slice (some ⟨ig, 0, none⟩) iN ic) (.slice none 0 0) vd (sayV q)) 139 (0, 0)) := by rw [<- hV1]; exact blk_set hc.pb 0 _
   obtain ⟨-, -, -, ⟨c2_3, c2_3f⟩, -, -, -, -, -, -, -, -⟩ := pcells hb1
   obtain ⟨V2, hV2⟩ : ∃ V, V1.setCell ⟨p, 3, none⟩ (.int .u8 0) = V := ⟨_, rfl⟩
   have hb2 : V2.heap[p]? = some (.cells (PC { s with st := k, pv := 0 } d (.slice (some ⟨ig, 0, none⟩) iN ic) (.slice none 0 0) vd (sayV q)) 139 (0, 0)) := by rw [<- hV2]; exact blk_set hb1 3 _
   obtain ⟨-, -, -, -, -, ⟨c3_5, c3_5f⟩, -, -, -, -, -, -⟩ := pcells hb2
   obtain ⟨V3, hV3⟩ : ∃ V, V2.setCell ⟨p, 5, none⟩ (.bool false) = V := ⟨_, rfl⟩
   have hb3 : V3.heap[p]? = some (.cells (PC { s with st := k, pv := 0, wr := false } d (.slice (some ⟨ig, 0, none⟩) iN ic) (.slice none 0 0) vd (sayV q)) 139 (0, 0)) := by rw [<- hV3]; exact blk_set hb2 5 _
   obtain ⟨-, -, -, -, -, -, ⟨c4_6, c4_6f⟩, -, -, -, -, -⟩ := pcells hb3
   obtain ⟨V4, hV4⟩ : ∃ V, V3.setCell ⟨p, 6, none⟩ (.bool true) = V := ⟨_, rfl⟩
   have hb4 : V4.heap[p]? = some (.cells (PC { s with st := k, pv := 0, wr := false, fi := true } d (.slice (some ⟨ig, 0, none⟩) iN ic) (.slice none 0 0) vd (sayV q)) 139 (0, 0)) := by rw [<- hV4]; exact blk_set hb3 6 _
   obtain ⟨-, -, -, -, -, -, -, -, ⟨c5_8, c5_8f⟩, -, -, -⟩ := pcells hb4
   obtain ⟨V5, hV5⟩ : ∃ V, V4.setCell ⟨p, 8, none⟩ (.bool false) = V := ⟨_, rfl⟩
   have hb5 : V5.heap[p]? = some (.cells (PC { s with st := k, pv := 0, wr := false, fi := true, so := false } d (.slice (some ⟨ig, 0, none⟩) iN ic) (.slice none 0 0) vd (sayV q)) 139 (0, 0)) := by rw [<- hV5]; exact blk_set hb4 8 _
   obtain ⟨-, -, -, -, -, -, -, -, -, ⟨c6_9, c6_9f⟩, -, -⟩ := pcells hb5
   obtain ⟨V6, hV6⟩ : ∃ V, V5.setCell ⟨p, 9, none⟩ (.int .i64 0) = V := ⟨_, rfl⟩
   have hb6 : V6.heap[p]? = some (.cells (PC { s with st := k, pv := 0, wr := false, fi := true, so := false, la := 0 } d (.slice (some ⟨ig, 0, none⟩) iN ic) (.slice none 0 0) vd (sayV q)) 139 (0, 0)) := by rw [<- hV6]; exact blk_set hb5 9 _
   obtain ⟨-, -, -, -, ⟨x4, x4f⟩, -, -, ⟨x7, x7f⟩, -, -, -, -⟩ := pcells hb6
   obtain ⟨E, hE⟩ : ∃ E, V6.drew = E := ⟨_, rfl⟩
   have hbE : E.heap[p]? = some (.cells (PC { s with st := k, pv := 0, wr := false, fi := true, so := false, la := 0 } d (.slice (some ⟨ig, 0, none⟩) iN ic) (.slice none 0 0) vd (sayV q)) 139 (0, 0)) := by rw [<- hE]; exact ((Kept.refl (fun _ => False) V6).drew).blk hb6 id
   obtain ⟨-, -, -, -, ⟨y4, y4f⟩, -, -, ⟨y7, y7f⟩, -, -, -, -⟩ := pcells hbE
   obtain ⟨V7, hV7⟩ : ∃ V, E.setCell ⟨p, 4, none⟩ (.slice (some ⟨ig, 0, none⟩) 0 ic) = V := ⟨_, rfl⟩
   have hb7 : V7.heap[p]? = some (.cells (PC { s with st := k, pv := 0, wr := false, fi := true, so := false, la := 0 } d (.slice (some ⟨ig, 0, none⟩) 0 ic) (.slice none 0 0) vd (sayV q)) 139 (0, 0)) := by rw [<- hV7]; exact blk_set hbE 4 _
   obtain ⟨-, -, -, -, -, -, -, ⟨z7, z7f⟩, -, -, -, -⟩ := pcells hb7
   obtain ⟨V8, hV8⟩ : ∃ V, V7.setCell ⟨p, 7, none⟩ (.slice none 0 0) = V := ⟨_, rfl⟩
   have hb8 : V8.heap[p]? = some (.cells (PC { s with st := k, pv := 0, wr := false, fi := true, so := false, la := 0 } d (.slice (some ⟨ig, 0, none⟩) 0 ic) (.slice none 0 0) vd (sayV q)) 139 (0, 0)) := by rw [<- hV8]; exact blk_set hb7 7 _
   have hk8 : Kept (fun i => i = p) W V8 := by
    rw [<- hV8, <- hV7, <- hE, <- hV6, <- hV5, <- hV4, <- hV3, <- hV2, <- hV1]
    exact ((((((((Kept.refl (fun i => i = p) W).setCell (p := ⟨p, 0, none⟩) (.inl rfl) _).setCell (p := ⟨p, 3, none⟩) (.inl rfl) _).setCell (p := ⟨p, 5, none⟩) (.inl rfl) _).setCell (p := ⟨p, 6, none⟩) (.inl rfl) _).setCell (p := ⟨p, 8, none⟩) (.inl rfl) _).setCell (p := ⟨p, 9, none⟩) (.inl rfl) _).drew.setCell (p := ⟨p, 4, none⟩) (.inl rfl) _).setCell (p := ⟨p, 7, none⟩) (.inl rfl) _
   obtain ⟨bi, bp, bd⟩ := hc.blocks
   have hd8 : Own .u8 5 V8 vd s.ds := hc.hd.kept hk8 (fun b hb hh => (bd b hb).1 hh)
   have HT := Lib.hid (show TP G W p q (s.beg k) L V8 from tp_of hg (hc.re (s' := s.beg k) (vi' := .slice (some ⟨ig, 0, none⟩) 0 ic) (vp' := .slice none 0 0) (vd' := vd) (hk8.mono fun i _ h => .inl h) hb8 (by show Own .u8 5 V8 (.slice (some ⟨ig, 0, none⟩) 0 ic) []; obtain ⟨-, h2⟩ := hI; rcases h2 with ⟨h2, -⟩ | ⟨g9, cap9, cur9, h2, -, hg9, hn9, hc9, hs9, -⟩; cases h2; cases h2; exact ⟨rfl, .inr ⟨_, _, cur9, rfl, Nat.zero_le _, hk8.blk hg9 (fun hh => blk_ne hg9 hc.pb (by decide) hh), Nat.zero_le _, hc9, hs9, by simp⟩⟩) (by show Own .i64 3 V8 (.slice none 0 0) []; exact Own.nil _ _ _) hd8 (fun b hb => hc.ne b hb) (.inl rfl) (.inl rfl) (.inl rfl) rfl ⟨hkk, by simp [PS.beg], by simp [PS.beg], by simp [PS.beg], hc.ok.ds⟩) (fun i hi => .inl hi) (hk8.mono fun i _ h => .inl h))
   clear hb1 hb2 hb3 hb4 hb5 hb6 hb7 hb8 hbE hk8 hd8 bi bp bd hc hg
   go_enter Tryz.func122, Tryz.ntmps122
   go_wp2
   go_region
   all_goals go_wp2
   all_goals go_end0
   all_goals exact ⟨⟨_, rfl⟩, HT.out⟩
  ·obtain ⟨pn, hpn⟩ : ∃ n, s.ps.length = n := ⟨_, rfl⟩
   rw [hpn] at hpe
   subst hpe
   clear hpn
   obtain ⟨⟨c1_0, c1_0f⟩, -, -, -, -, -, -, -, -, -, -, -⟩ := pcells hc.pb
   obtain ⟨V1, hV1⟩ : ∃ V, W.setCell ⟨p, 0, none⟩ (.int .i64 k) = V := ⟨_, rfl⟩
   have hb1 : V1.heap[p]? = some (.cells (PC { s with st := k } d (.slice (some ⟨ig, 0, none⟩) iN ic) (.slice (some ⟨pg, 0, none⟩) pn pc) vd (sayV q)) 139 (0, 0)) := by rw [<- hV1]; exact blk_set hc.pb 0 _
   obtain ⟨-, -, -, ⟨c2_3, c2_3f⟩, -, -, -, -, -, -, -, -⟩ := pcells hb1
   obtain ⟨V2, hV2⟩ : ∃ V, V1.setCell ⟨p, 3, none⟩ (.int .u8 0) = V := ⟨_, rfl⟩
   have hb2 : V2.heap[p]? = some (.cells (PC { s with st := k, pv := 0 } d (.slice (some ⟨ig, 0, none⟩) iN ic) (.slice (some ⟨pg, 0, none⟩) pn pc) vd (sayV q)) 139 (0, 0)) := by rw [<- hV2]; exact blk_set hb1 3 _
   obtain ⟨-, -, -, -, -, ⟨c3_5, c3_5f⟩, -, -, -, -, -, -⟩ := pcells hb2
   obtain ⟨V3, hV3⟩ : ∃ V, V2.setCell ⟨p, 5, none⟩ (.bool false) = V := ⟨_, rfl⟩
   have hb3 : V3.heap[p]? = some (.cells (PC { s with st := k, pv := 0, wr := false } d (.slice (some ⟨ig, 0, none⟩) iN ic) (.slice (some ⟨pg, 0, none⟩) pn pc) vd (sayV q)) 139 (0, 0)) := by rw [<- hV3]; exact blk_set hb2 5 _
   obtain ⟨-, -, -, -, -, -, ⟨c4_6, c4_6f⟩, -, -, -, -, -⟩ := pcells hb3
   obtain ⟨V4, hV4⟩ : ∃ V, V3.setCell ⟨p, 6, none⟩ (.bool true) = V := ⟨_, rfl⟩
   have hb4 : V4.heap[p]? = some (.cells (PC { s with st := k, pv := 0, wr := false, fi := true } d (.slice (some ⟨ig, 0, none⟩) iN ic) (.slice (some ⟨pg, 0, none⟩) pn pc) vd (sayV q)) 139 (0, 0)) := by rw [<- hV4]; exact blk_set hb3 6 _
   obtain ⟨-, -, -, -, -, -, -, -, ⟨c5_8, c5_8f⟩, -, -, -⟩ := pcells hb4
   obtain ⟨V5, hV5⟩ : ∃ V, V4.setCell ⟨p, 8, none⟩ (.bool false) = V := ⟨_, rfl⟩
   have hb5 : V5.heap[p]? = some (.cells (PC { s with st := k, pv := 0, wr := false, fi := true, so := false } d (.slice (some ⟨ig, 0, none⟩) iN ic) (.slice (some ⟨pg, 0, none⟩) pn pc) vd (sayV q)) 139 (0, 0)) := by rw [<- hV5]; exact blk_set hb4 8 _
   obtain ⟨-, -, -, -, -, -, -, -, -, ⟨c6_9, c6_9f⟩, -, -⟩ := pcells hb5
   obtain ⟨V6, hV6⟩ : ∃ V, V5.setCell ⟨p, 9, none⟩ (.int .i64 0) = V := ⟨_, rfl⟩
   have hb6 : V6.heap[p]? = some (.cells (PC { s with st := k, pv := 0, wr := false, fi := true, so := false, la := 0 } d (.slice (some ⟨ig, 0, none⟩) iN ic) (.slice (some ⟨pg, 0, none⟩) pn pc) vd (sayV q)) 139 (0, 0)) := by rw [<- hV6]; exact blk_set hb5 9 _
   obtain ⟨-, -, -, -, ⟨x4, x4f⟩, -, -, ⟨x7, x7f⟩, -, -, -, -⟩ := pcells hb6
   obtain ⟨E, hE⟩ : ∃ E, V6.drew = E := ⟨_, rfl⟩
   have hbE : E.heap[p]? = some (.cells (PC { s with st := k, pv := 0, wr := false, fi := true, so := false, la := 0 } d (.slice (some ⟨ig, 0, none⟩) iN ic) (.slice (some ⟨pg, 0, none⟩) pn pc) vd (sayV q)) 139 (0, 0)) := by rw [<- hE]; exact ((Kept.refl (fun _ => False) V6).drew).blk hb6 id
   obtain ⟨-, -, -, -, ⟨y4, y4f⟩, -, -, ⟨y7, y7f⟩, -, -, -, -⟩ := pcells hbE
   obtain ⟨V7, hV7⟩ : ∃ V, E.setCell ⟨p, 4, none⟩ (.slice (some ⟨ig, 0, none⟩) 0 ic) = V := ⟨_, rfl⟩
   have hb7 : V7.heap[p]? = some (.cells (PC { s with st := k, pv := 0, wr := false, fi := true, so := false, la := 0 } d (.slice (some ⟨ig, 0, none⟩) 0 ic) (.slice (some ⟨pg, 0, none⟩) pn pc) vd (sayV q)) 139 (0, 0)) := by rw [<- hV7]; exact blk_set hbE 4 _
   obtain ⟨-, -, -, -, -, -, -, ⟨z7, z7f⟩, -, -, -, -⟩ := pcells hb7
   obtain ⟨V8, hV8⟩ : ∃ V, V7.setCell ⟨p, 7, none⟩ (.slice (some ⟨pg, 0, none⟩) 0 pc) = V := ⟨_, rfl⟩
   have hb8 : V8.heap[p]? = some (.cells (PC { s with st := k, pv := 0, wr := false, fi := true, so := false, la := 0 } d (.slice (some ⟨ig, 0, none⟩) 0 ic) (.slice (some ⟨pg, 0, none⟩) 0 pc) vd (sayV q)) 139 (0, 0)) := by rw [<- hV8]; exact blk_set hb7 7 _
   have hk8 : Kept (fun i => i = p) W V8 := by
    rw [<- hV8, <- hV7, <- hE, <- hV6, <- hV5, <- hV4, <- hV3, <- hV2, <- hV1]
    exact ((((((((Kept.refl (fun i => i = p) W).setCell (p := ⟨p, 0, none⟩) (.inl rfl) _).setCell (p := ⟨p, 3, none⟩) (.inl rfl) _).setCell (p := ⟨p, 5, none⟩) (.inl rfl) _).setCell (p := ⟨p, 6, none⟩) (.inl rfl) _).setCell (p := ⟨p, 8, none⟩) (.inl rfl) _).setCell (p := ⟨p, 9, none⟩) (.inl rfl) _).drew.setCell (p := ⟨p, 4, none⟩) (.inl rfl) _).setCell (p := ⟨p, 7, none⟩) (.inl rfl) _
   obtain ⟨bi, bp, bd⟩ := hc.blocks
   have hd8 : Own .u8 5 V8 vd s.ds := hc.hd.kept hk8 (fun b hb hh => (bd b hb).1 hh)
   have HT := Lib.hid (show TP G W p q (s.beg k) L V8 from tp_of hg (hc.re (s' := s.beg k) (vi' := .slice (some ⟨ig, 0, none⟩) 0 ic) (vp' := .slice (some ⟨pg, 0, none⟩) 0 pc) (vd' := vd) (hk8.mono fun i _ h => .inl h) hb8 (by show Own .u8 5 V8 (.slice (some ⟨ig, 0, none⟩) 0 ic) []; obtain ⟨-, h2⟩ := hI; rcases h2 with ⟨h2, -⟩ | ⟨g9, cap9, cur9, h2, -, hg9, hn9, hc9, hs9, -⟩; cases h2; cases h2; exact ⟨rfl, .inr ⟨_, _, cur9, rfl, Nat.zero_le _, hk8.blk hg9 (fun hh => blk_ne hg9 hc.pb (by decide) hh), Nat.zero_le _, hc9, hs9, by simp⟩⟩) (by show Own .i64 3 V8 (.slice (some ⟨pg, 0, none⟩) 0 pc) []; obtain ⟨-, h2⟩ := hP; rcases h2 with ⟨h2, -⟩ | ⟨g9, cap9, cur9, h2, -, hg9, hn9, hc9, hs9, -⟩; cases h2; cases h2; exact ⟨rfl, .inr ⟨_, _, cur9, rfl, Nat.zero_le _, hk8.blk hg9 (fun hh => blk_ne hg9 hc.pb (by decide) hh), Nat.zero_le _, hc9, hs9, by simp⟩⟩) hd8 (fun b hb => hc.ne b hb) (.inl rfl) (.inl rfl) (.inl rfl) rfl ⟨hkk, by simp [PS.beg], by simp [PS.beg], by simp [PS.beg], hc.ok.ds⟩) (fun i hi => .inl hi) (hk8.mono fun i _ h => .inl h))
   clear hb1 hb2 hb3 hb4 hb5 hb6 hb7 hb8 hbE hk8 hd8 bi bp bd hc hg
   go_enter Tryz.func122, Tryz.ntmps122
   go_wp2
   go_region
   all_goals go_wp2
   all_goals go_end0
   all_goals exact ⟨⟨_, rfl⟩, HT.out⟩
theorem tp_rr {G G1 : Nat -> Prop} {W w1 : World} {p : Nat} {q : Lis} {s : PS} {L : List Ev} (h : RR G1 w1 p q s L) (hs : ∀ i, G1 i -> G i \/ W.heap.size <= i) (hk : Kept G W w1) : TP G W p q s L w1 := ⟨G1, h, hs, hk⟩
theorem fin_rr (G : Nat -> Prop) (W : World) (p : Nat) (q : Lis) (s : PS) (L : List Ev) (hR : RR G W p q s L) : ∃ d, W.cell? ⟨p, 2, none⟩ = some (.pointer (some ⟨d, 0, none⟩)) /\
  Calls Tryz.prog 120 #[.pointer (some ⟨d, 0, none⟩)] W fun r w' => ∃ a n cap, r = .returned (.slice a n cap) /\ RR G w' p q { s with ch := s0 } L /\ SlAt .i32 w' a n (fin s.ch) /\ n <= 10 /\ (∀ b off, 0 < n -> a = some ⟨b, off, none⟩ -> b < w'.heap.size /\ ¬ G b) /\ Kept G W w' := by
 obtain ⟨d, vi, vp, vd, vo, hc, hg⟩ := hR
 refine ⟨d, blk_cell hc.pb 2, (fin_any d s.ch W hc.dc).mono ?_⟩
 rintro r w' ⟨v, hr, hd, ho, hk, hb⟩
 have hlt := ho.lt
 obtain ⟨a, cap, rfl, hs, -, -, -, hob⟩ := ho.shape
 have hc' := hc.updD hk hd
 refine ⟨a, _, cap, hr, ⟨d, vi, vp, vd, vo, hc', hg⟩, hs, ?_, fun b off _ h => ⟨hlt b (hob b off h), fun h2 => ?_⟩, hk.mono fun i _ h => (hg i).2 (.inr (.inl h))⟩
 ·show (fin s.ch).length <= 10
  unfold fin
  split <;> simp
 ·have h3 := hb b (hob b off h)
  have h4 := hc.lt b ((hg b).1 h2)
  omega
theorem put_rr (G : Nat -> Prop) (W : World) (p : Nat) (q : Lis) (s : PS) (L : List Ev) (c : Int) (hc0 : 0 <= c) (hc1 : c < 256) (hR : RR G W p q s L) : ∃ d, W.cell? ⟨p, 2, none⟩ = some (.pointer (some ⟨d, 0, none⟩)) /\
  Calls Tryz.prog 234 #[.pointer (some ⟨d, 0, none⟩), .int .u8 c] W fun r w' => ∃ a n cap, r = .returned (.slice a n cap) /\ RR G w' p q { s with ch := (put s.ch c.toNat).1 } L /\ SlAt .i32 w' a n (put s.ch c.toNat).2 /\ n <= 10 /\ (∀ b off, 0 < n -> a = some ⟨b, off, none⟩ -> b < w'.heap.size /\ ¬ G b) /\ Kept G W w' := by
 obtain ⟨d, vi, vp, vd, vo, hc, hg⟩ := hR
 have hcn : ((c.toNat : Nat) : Int) = c := by omega
 have hp := put_any d c.toNat s.ch W hc.dc (by omega)
 rw [hcn] at hp
 refine ⟨d, blk_cell hc.pb 2, hp.mono ?_⟩
 rintro r w' ⟨v, hr, hd, ho, hk, hb⟩
 have hlt := ho.lt
 obtain ⟨a, cap, rfl, hs, -, -, -, hob⟩ := ho.shape
 have hc' := hc.updD hk hd
 refine ⟨a, _, cap, hr, ⟨d, vi, vp, vd, vo, hc', hg⟩, hs, ?_, fun b off _ h => ⟨hlt b (hob b off h), fun h2 => ?_⟩, hk.mono fun i _ h => (hg i).2 (.inr (.inl h))⟩
 ·show (put s.ch c.toNat).2.length <= 10
  have h1 := first_len c.toNat
  unfold put
  repeat' split
  all_goals (simp; try omega)
 ·have h3 := hb b (hob b off h)
  have h4 := hc.lt b ((hg b).1 h2)
  omega
set_option maxRecDepth 100000 in
set_option maxHeartbeats 8000000 in
theorem ground_any (G : Nat -> Prop) (W : World) (p : Nat) (q : Lis) (s : PS) (L : List Ev) (c : Int) (hc0 : 0 <= c) (hc1 : c < 256) (hR : RR G W p q s L) (hn : AL q L ((groundS s c).2)) :
  Calls Tryz.prog 168 #[.pointer (some ⟨p, 0, none⟩), .int .u8 c] W fun r w' => (∃ x, r = .returned x) /\ TP G W p q (groundS s c).1 (L ++ (groundS s c).2) w' := by
 have HR := Lib.hid hR
 clear hR
 cases hct : ctlB c with
 | true =>
  have e : groundS s c = ({ s with ch := s0 }, printE (fin s.ch) ++ [evX 2 0 c]) := by unfold groundS; rw [if_pos hct]
  rw [e] at hn ⊢
  clear e
  show Calls Tryz.prog 168 _ W fun r w' => (∃ x, r = .returned x) /\ TP G W p q { s with ch := s0 } (L ++ (printE (fin s.ch) ++ [evX 2 0 c])) w'
  obtain ⟨d, c2, hcall⟩ := fin_rr G W p q s L HR.out
  have HC := Lib.hid hcall
  clear hcall
  go_enter Tryz.func168, Tryz.ntmps168
  go_wp2_with fail
  refine (ctl_any c W).mono ?_
  rintro r w1 ⟨rfl, rfl⟩
  rw [hct]
  go_wp2_with fail
  refine HC.out.mono ?_
  rintro r w2 ⟨a, n, cap, rfl, hR2, hs2, hn2, hb2, hk2⟩
  have HP := Lib.hid (print_any G w2 p q { s with ch := s0 } L a n cap (fin s.ch) hR2 hs2 hb2 (by omega) hn.left)
  have HK2 := Lib.hid (And.intro hk2 hR2)
  have hxl := hs2.1
  have HXL := Lib.hid (show (fin s.ch).length <= 10 by omega)
  clear hR2 hs2 hn2 hb2 hk2 hxl
  go_wp2_with fail
  refine HP.out.mono ?_
  rintro r w3 ⟨⟨x, rfl⟩, ht3⟩
  obtain ⟨G3, hR3, hs3, hk3⟩ := ht3
  obtain ⟨-, c11⟩ := rr_cells hR3
  unfold sayV at c11
  have HN3 := Lib.hid (show AL q (L ++ printE (fin s.ch)) [evX 2 0 c] from AL.right hn)
  have H3 := Lib.hid (And.intro hR3 (And.intro hs3 hk3))
  clear hR3 hs3 hk3
  go_wp2_with fail
  refine (sayX G3 w3 p q _ _ H3.out.1 2 0 c HN3.out).mono ?_
  rintro r w4 ⟨⟨y, rfl⟩, ht4⟩
  have H4 := Lib.hid (TP.then (fun _ h => .inl h) HK2.out.1 (TP.then H3.out.2.1 H3.out.2.2 ht4))
  clear ht4
  go_wp2
  go_end0
  exact ⟨⟨_, rfl⟩, by rw [<- List.append_assoc]; exact H4.out⟩
 | false =>
  by_cases hd : c = 127
  ·have e : groundS s c = ({ s with ch := s0 }, printE (fin s.ch)) := by unfold groundS; rw [if_neg (by rw [hct]; simp), if_pos hd]
   have g : (c == 127) = true := by simp [hd]
   rw [e] at hn ⊢
   clear e hd
   show Calls Tryz.prog 168 _ W fun r w' => (∃ x, r = .returned x) /\ TP G W p q { s with ch := s0 } (L ++ printE (fin s.ch)) w'
   obtain ⟨d, c2, hcall⟩ := fin_rr G W p q s L HR.out
   have HC := Lib.hid hcall
   clear hcall
   go_enter Tryz.func168, Tryz.ntmps168
   go_wp2_with fail
   refine (ctl_any c W).mono ?_
   rintro r w1 ⟨rfl, rfl⟩
   rw [hct]
   go_wp2_with fail
   refine HC.out.mono ?_
   rintro r w2 ⟨a, n, cap, rfl, hR2, hs2, hn2, hb2, hk2⟩
   have HP := Lib.hid (print_any G w2 p q { s with ch := s0 } L a n cap (fin s.ch) hR2 hs2 hb2 (by omega) hn)
   have HK2 := Lib.hid (And.intro hk2 hR2)
   have hxl := hs2.1
   have HXL := Lib.hid (show (fin s.ch).length <= 10 by omega)
   clear hR2 hs2 hn2 hb2 hk2 hxl
   go_wp2_with fail
   refine HP.out.mono ?_
   rintro r w3 ⟨⟨x, rfl⟩, ht3⟩
   have H4 := Lib.hid (TP.then (fun _ h => .inl h) HK2.out.1 ht3)
   clear ht3
   go_wp2
   go_end0
   exact ⟨⟨_, rfl⟩, H4.out⟩
  ·have e : groundS s c = ({ s with ch := (put s.ch c.toNat).1 }, printE (put s.ch c.toNat).2) := by unfold groundS; rw [if_neg (by rw [hct]; simp), if_neg hd]
   have g : (c == 127) = false := by simp [hd]
   rw [e] at hn ⊢
   clear e hd
   show Calls Tryz.prog 168 _ W fun r w' => (∃ x, r = .returned x) /\ TP G W p q { s with ch := (put s.ch c.toNat).1 } (L ++ printE (put s.ch c.toNat).2) w'
   obtain ⟨d, c2, hcall⟩ := put_rr G W p q s L c hc0 hc1 HR.out
   have HC := Lib.hid hcall
   clear hcall
   go_enter Tryz.func168, Tryz.ntmps168
   go_wp2_with fail
   refine (ctl_any c W).mono ?_
   rintro r w1 ⟨rfl, rfl⟩
   rw [hct]
   go_wp2_with fail
   refine HC.out.mono ?_
   rintro r w2 ⟨a, n, cap, rfl, hR2, hs2, hn2, hb2, hk2⟩
   have HP := Lib.hid (print_any G w2 p q { s with ch := (put s.ch c.toNat).1 } L a n cap ((put s.ch c.toNat).2) hR2 hs2 hb2 (by omega) hn)
   have HK2 := Lib.hid (And.intro hk2 hR2)
   have hxl := hs2.1
   have HXL := Lib.hid (show ((put s.ch c.toNat).2).length <= 10 by omega)
   clear hR2 hs2 hn2 hb2 hk2 hxl
   go_wp2_with fail
   refine HP.out.mono ?_
   rintro r w3 ⟨⟨x, rfl⟩, ht3⟩
   have H4 := Lib.hid (TP.then (fun _ h => .inl h) HK2.out.1 ht3)
   clear ht3
   go_wp2
   go_end0
   exact ⟨⟨_, rfl⟩, H4.out⟩
theorem rr_st {G : Nat -> Prop} {W : World} {p : Nat} {q : Lis} {s : PS} {L : List Ev} (hR : RR G W p q s L) (k : Int) (hk : 0 <= k /\ k <= 7) : (W.cell? ⟨p, 0, none⟩ = some (.int .i64 s.st) /\ W.frozen? ⟨p, 0, none⟩ = false) /\ RR G (W.setCell ⟨p, 0, none⟩ (.int .i64 k)) p q { s with st := k } L /\ Kept G W (W.setCell ⟨p, 0, none⟩ (.int .i64 k)) := by
 obtain ⟨d, vi, vp, vd, vo, hc, hg⟩ := hR
 have hkV : Kept (fun i => i = p) W (W.setCell ⟨p, 0, none⟩ (.int .i64 k)) := (Kept.refl (fun i => i = p) W).setCell (p := ⟨p, 0, none⟩) (.inl rfl) _
 exact ⟨⟨blk_cell hc.pb 0, blk_free hc.pb 0⟩, ⟨d, vi, vp, vd, vo, hc.upd (s' := { s with st := k }) hkV (blk_set hc.pb 0 _) rfl rfl rfl rfl ⟨hk, hc.ok.it, hc.ok.ps, hc.ok.la, hc.ok.ds⟩, hg⟩, hkV.mono fun i _ h => (hg i).2 (.inl h)⟩
set_option maxRecDepth 100000 in
set_option maxHeartbeats 8000000 in
theorem back_any (G : Nat -> Prop) (W : World) (p : Nat) (q : Lis) (s : PS) (L : List Ev) (c : Int) (hc0 : 0 <= c) (hc1 : c < 256) (hR : RR G W p q s L) (hn : AL q L ((backS s c).2)) :
  Calls Tryz.prog 231 #[.pointer (some ⟨p, 0, none⟩), .int .u8 c] W fun r w' => (∃ x, r = .returned x) /\ TP G W p q (backS s c).1 (L ++ (backS s c).2) w' := by
 obtain ⟨⟨c0, f0⟩, hR1, hk1⟩ := rr_st hR 0 (by omega)
 obtain ⟨V, hV⟩ : ∃ V, W.setCell ⟨p, 0, none⟩ (.int .i64 0) = V := ⟨_, rfl⟩
 rw [hV] at hR1 hk1
 have HG := Lib.hid (ground_any G V p q _ L c hc0 hc1 hR1 hn)
 have HK := Lib.hid hk1
 clear hR hR1 hk1
 unfold backS
 go_enter Tryz.func231, Tryz.ntmps231
 go_wp2_with fail
 refine HG.out.mono ?_
 rintro r w2 ⟨⟨x, rfl⟩, ht⟩
 have HT := Lib.hid (TP.then (fun _ h => .inl h) HK.out ht)
 clear ht
 go_wp2
 go_end0
 exact ⟨⟨_, rfl⟩, HT.out⟩
set_option maxRecDepth 100000 in
set_option maxHeartbeats 8000000 in
theorem text_any (G : Nat -> Prop) (W : World) (p : Nat) (q : Lis) (s : PS) (L : List Ev) (c : Int) (hR : RR G W p q s L) (hn : AL q L ((textS s c).2)) :
  Calls Tryz.prog 170 #[.pointer (some ⟨p, 0, none⟩), .int .u8 c] W fun r w' => (∃ x, r = .returned x) /\ TP G W p q (textS s c).1 (L ++ (textS s c).2) w' := by
 have HR := Lib.hid hR
 by_cases h7 : c = 7
 ·have e : textS s c = ({ s with st := 0 }, [toldE s]) := by unfold textS; rw [if_pos h7]
  have g : (c == 7) = true := by simp [h7]
  rw [e] at hn ⊢
  clear e h7 hR
  show Calls Tryz.prog 170 _ W fun r w' => (∃ x, r = .returned x) /\ TP G W p q { s with st := 0 } (L ++ [toldE s]) w'
  go_enter Tryz.func170, Tryz.ntmps170
  go_wp2_with fail
  refine (told_any G W p q s L HR.out hn).mono ?_
  rintro r w2 ⟨⟨x, rfl⟩, ht⟩
  obtain ⟨G2, hR2, hs2, hk2⟩ := ht
  obtain ⟨⟨c0, f0⟩, hR3, hk3⟩ := rr_st hR2 0 (by omega)
  have HT := Lib.hid (TP.then hs2 hk2 (tp_rr hR3 (fun _ h => .inl h) hk3))
  clear hR2 hs2 hk2 hR3 hk3
  go_wp2
  go_end0
  exact ⟨⟨_, rfl⟩, HT.out⟩
 ·have g : (c == 7) = false := by simp [h7]
  by_cases h32 : 32 <= c
  ·have g32 : decide (32 <= c) = true := decide_eq_true h32
   by_cases h127 : c = 127
   ·have g127 : (c != 127) = false := by simp [h127]
    have e : textS s c = (s, []) := by unfold textS; rw [if_neg h7, if_neg (fun h => h.2.1 h127)]
    rw [e] at hn ⊢
    clear e h7 h127 h32 hR
    show Calls Tryz.prog 170 _ W fun r w' => (∃ x, r = .returned x) /\ TP G W p q s (L ++ []) w'
    go_enter Tryz.func170, Tryz.ntmps170
    go_wp2
    go_end0
    exact ⟨⟨_, rfl⟩, by simpa only [List.append_nil] using TP.refl HR.out⟩
   ·have g127 : (c != 127) = true := by simp [h127]
    obtain ⟨d, vi, vp, vd, vo, hc, hg⟩ := hR
    obtain ⟨ia, ic, hie, hsi, -⟩ := hc.hd.shape
    obtain ⟨iN, hin⟩ : ∃ n, s.ds.length = n := ⟨_, rfl⟩
    rw [hin] at hie
    subst hie
    obtain ⟨-, -, -, -, -, -, -, -, -, -, ⟨c10, c10f⟩, -⟩ := pcells hc.pb
    by_cases hl : iN < 1024
    ·have gl : decide (iN < 1024) = true := decide_eq_true hl
     have gl' : decide ((iN : Int) < 1024) = true := decide_eq_true (by omega)
     have e : textS s c = ({ s with ds := s.ds ++ [c] }, []) := by unfold textS; rw [if_neg h7, if_pos ⟨h32, h127, by omega⟩]
     rw [e] at hn ⊢
     show Calls Tryz.prog 170 _ W fun r w' => (∃ x, r = .returned x) /\ TP G W p q { s with ds := s.ds ++ [c] } (L ++ []) w'
     obtain ⟨i0, hi, hz, hsz, hby⟩ := info_parts Tryz.infoByte
     have HI := Lib.hid (And.intro hi (And.intro hz (And.intro hsz hby)))
     have HC := Lib.hid (And.intro hc (And.intro hg (And.intro hin hl)))
     obtain ⟨W2, hW2⟩ : ∃ W2, W.alloc (.cells #[.int .u8 c] 5) = W2 := ⟨_, rfl⟩
     have hk2 : Kept (fun _ => False) W W2 := by rw [<- hW2]; exact (Kept.refl _ _).alloc _
     have hs2 : SlAt .u8 W2 (some ⟨W.heap.size, 0, none⟩) 1 [c] := by rw [<- hW2]; exact slAt_one W c 5
     have H2 := Lib.hid (And.intro hk2 (And.intro hs2 (And.intro (hc.hd.kept hk2 (fun _ _ => id)) (And.intro (hk2.blk hc.pb id) hk2.size))))
     have h63 : (9223372036854775807 : Nat) = maxLen := rfl
     clear hi hz hsz hby hc hg hin hsi hk2 hs2 e h7 h32 h127
     go_enter Tryz.func170, Tryz.ntmps170
     go_wp2_with (first
      | (at_builtin; refine wpList_appInts rfl (.tmp 31) (.tmp 33) 22 rfl 5 .u8 i0 (.int .u8 0) 1 Tryz.underlying22 HI.out.1 HI.out.2.1 HI.out.2.2.1 HI.out.2.2.2 rfl (.slice ia iN ic) s.ds rfl H2.out.2.2.1 (some ⟨W.heap.size, 0, none⟩) 1 1 [c] rfl (fun h => by cases h) H2.out.2.1 (by have h8 := HC.out.2.2.1; have h9 := HC.out.2.2.2; omega) (by have h8 := HC.out.2.2.1; have h9 := HC.out.2.2.2; omega) ?_; intro v5 w5 ho5 hk5 hpr5; obtain ⟨a5, c5, hv5e, -⟩ := ho5.shape; obtain ⟨n5, hn5⟩ : ∃ n, (s.ds ++ [c]).length = n := ⟨_, rfl⟩; rw [hn5] at hv5e; subst hv5e; clear hn5; have hbp5 := hk5.blk H2.out.2.2.2.1 (fun h => by have h2 := own_blk H2.out.2.2.1 h; obtain ⟨cc, hcc⟩ := h2; exact blk_ne hcc H2.out.2.2.2.1 (by decide) rfl); obtain ⟨-, -, -, -, -, -, -, -, -, -, ⟨g10, g10f⟩, -⟩ := pcells hbp5; have H5 := Lib.hid (And.intro ho5 (And.intro hk5 (And.intro hpr5 hbp5))); clear ho5 hk5 hpr5 hbp5))
     go_end0
     obtain ⟨hc, hg, hin, hil⟩ := HC.out
     obtain ⟨ho5, hk5, hpr5, hbp5⟩ := H5.out
     have hz2 := H2.out.2.2.2.2
     have hv : (Value.slice a5 n5 c5).ownBlock = (Value.slice ia iN ic).ownBlock \/ ∀ b, (Value.slice a5 n5 c5).ownBlock = some b -> W.heap.size <= b := by
      rcases hpr5 with h | h
      ·exact .inl h
      ·exact .inr (fun b hb => by rw [h] at hb; cases hb; exact hz2)
     have hkF : Kept (fun i => i = p \/ (Value.slice ia iN ic).ownBlock = some i) W (w5.setCell ⟨p, 10, none⟩ (.slice a5 n5 c5)) := Kept.setCell (S := fun i => i = p \/ (Value.slice ia iN ic).ownBlock = some i) ((H2.out.1.mono (fun _ _ h => h.elim)).then (hk5.mono fun _ _ h => Or.inr h)) (p := ⟨p, 10, none⟩) (.inl (.inl rfl)) _
     have hbF : (w5.setCell ⟨p, 10, none⟩ (.slice a5 n5 c5)).heap[p]? = some (.cells (PC { s with ds := s.ds ++ [c] } d vi vp (.slice a5 n5 c5) (sayV q)) 139 (0, 0)) := blk_set hbp5 10 _
     have hoF : Own .u8 5 (w5.setCell ⟨p, 10, none⟩ (.slice a5 n5 c5)) (.slice a5 n5 c5) (s.ds ++ [c]) := ho5.kept (S := fun i => i = p) ((Kept.refl (fun i => i = p) w5).setCell (p := ⟨p, 10, none⟩) (.inl rfl) _) (fun b hb hh => by
      obtain ⟨cc, hcc⟩ := own_blk ho5 hb
      exact blk_ne hcc hbp5 (by decide) hh)
     refine ⟨⟨_, rfl⟩, by simpa only [List.append_nil] using tp_of hg (hc.updS (s' := { s with ds := s.ds ++ [c] }) hkF hbF hoF hv rfl rfl rfl ⟨hc.ok.st, hc.ok.it, hc.ok.ps, hc.ok.la, by simp; omega⟩) (fun i hi => mS hv i hi) (hkF.mono fun i _ h => by
      rcases h with h | h
      ·exact .inl h
      ·exact .inr (.inr (.inr (.inr (.inr (.inl h))))))⟩
    ·have gl : decide (iN < 1024) = false := decide_eq_false hl
     have gl' : decide ((iN : Int) < 1024) = false := decide_eq_false (by omega)
     have e : textS s c = (s, []) := by unfold textS; rw [if_neg h7, if_neg (fun h => by have := h.2.2; omega)]
     rw [e] at hn ⊢
     clear e h7 h127 h32 hc hg hin hl hsi
     show Calls Tryz.prog 170 _ W fun r w' => (∃ x, r = .returned x) /\ TP G W p q s (L ++ []) w'
     go_enter Tryz.func170, Tryz.ntmps170
     go_wp2
     go_end0
     exact ⟨⟨_, rfl⟩, by simpa only [List.append_nil] using TP.refl HR.out⟩
  ·have g32 : decide (32 <= c) = false := decide_eq_false h32
   have e : textS s c = (s, []) := by unfold textS; rw [if_neg h7, if_neg (fun h => h32 h.1)]
   rw [e] at hn ⊢
   clear e h7 h32 hR
   show Calls Tryz.prog 170 _ W fun r w' => (∃ x, r = .returned x) /\ TP G W p q s (L ++ []) w'
   go_enter Tryz.func170, Tryz.ntmps170
   go_wp2
   go_end0
   exact ⟨⟨_, rfl⟩, by simpa only [List.append_nil] using TP.refl HR.out⟩
set_option maxRecDepth 100000 in
set_option maxHeartbeats 8000000 in
theorem opens_any (G : Nat -> Prop) (W : World) (p : Nat) (q : Lis) (s : PS) (L : List Ev) (c : Int) (hR : RR G W p q s L) (hn : AL q L ((openS s c).getD (s, [])).2) :
  Calls Tryz.prog 233 #[.pointer (some ⟨p, 0, none⟩), .int .u8 c] W fun r w' => r = .returned (.bool (openS s c).isSome) /\ TP G W p q ((openS s c).getD (s, [])).1 (L ++ ((openS s c).getD (s, [])).2) w' := by
 have HR := Lib.hid hR
 by_cases h91 : c = 91
 ·have e : openS s c = some (s.beg 2, []) := by unfold openS; rw [if_pos h91]
  have g91 : (c == 91) = true := by simp [h91]
  rw [e] at hn ⊢
  clear e hR h91
  show Calls Tryz.prog 233 _ W fun r w' => r = .returned (.bool true) /\ TP G W p q (s.beg 2) (L ++ []) w'
  go_enter Tryz.func233, Tryz.ntmps233
  go_wp2_with fail
  refine (begin_any' G W p q s L 2 (by omega) HR.out).mono ?_
  rintro r w2 ⟨⟨x, rfl⟩, ht⟩
  have HT := Lib.hid ht
  clear ht
  go_wp2
  go_ret
  exact ⟨rfl, by simpa only [List.append_nil] using HT.out⟩
 ·skip
  by_cases h80 : c = 80
  ·have e : openS s c = some (s.beg 3, []) := by unfold openS; rw [if_neg h91, if_pos h80]
   have g91 : (c == 91) = false := by simp [h91]
   have g80 : (c == 80) = true := by simp [h80]
   rw [e] at hn ⊢
   clear e hR h91 h80
   show Calls Tryz.prog 233 _ W fun r w' => r = .returned (.bool true) /\ TP G W p q (s.beg 3) (L ++ []) w'
   go_enter Tryz.func233, Tryz.ntmps233
   go_wp2_with fail
   refine (begin_any' G W p q s L 3 (by omega) HR.out).mono ?_
   rintro r w2 ⟨⟨x, rfl⟩, ht⟩
   have HT := Lib.hid ht
   clear ht
   go_wp2
   go_ret
   exact ⟨rfl, by simpa only [List.append_nil] using HT.out⟩
  ·skip
   by_cases h93 : c = 93
   ·have e : openS s c = some ({ s with st := 4, ds := [] }, []) := by unfold openS; rw [if_neg h91, if_neg h80, if_pos h93]
    have g91 : (c == 91) = false := by simp [h91]
    have g80 : (c == 80) = false := by simp [h80]
    have g93 : (c == 93) = true := by simp [h93]
    rw [e] at hn ⊢
    clear e h91 h80 h93
    show Calls Tryz.prog 233 _ W fun r w' => r = .returned (.bool true) /\ TP G W p q { s with st := 4, ds := [] } (L ++ []) w'
    obtain ⟨d, vi, vp, vd, vo, hc, hg⟩ := hR
    have hD := hc.hd
    have hD0 := hD
    obtain ⟨-, hD2⟩ := hD0
    rcases hD2 with ⟨rfl, -⟩ | ⟨ig, ic, icur, hie, -, hig, -, icm, ics, -⟩
    ·skip
     obtain ⟨⟨x0, x0f⟩, -, -, -, -, -, -, -, -, -, ⟨x10, x10f⟩, -⟩ := pcells hc.pb
     obtain ⟨E, hE⟩ : ∃ E, W.drew = E := ⟨_, rfl⟩
     have hbE : E.heap[p]? = some (.cells (PC s d vi vp (.slice none 0 0) (sayV q)) 139 (0, 0)) := by rw [<- hE]; exact ((Kept.refl (fun _ => False) W).drew).blk hc.pb id
     obtain ⟨⟨y0, y0f⟩, -, -, -, -, -, -, -, -, -, ⟨y10, y10f⟩, -⟩ := pcells hbE
     obtain ⟨V1, hV1⟩ : ∃ V, E.setCell ⟨p, 0, none⟩ (.int .i64 4) = V := ⟨_, rfl⟩
     have hb1 : V1.heap[p]? = some (.cells (PC { s with st := 4 } d vi vp (.slice none 0 0) (sayV q)) 139 (0, 0)) := by rw [<- hV1]; exact blk_set hbE 0 _
     obtain ⟨⟨z0, z0f⟩, -, -, -, -, -, -, -, -, -, ⟨z10, z10f⟩, -⟩ := pcells hb1
     obtain ⟨V2, hV2⟩ : ∃ V, V1.setCell ⟨p, 10, none⟩ (.slice none 0 0) = V := ⟨_, rfl⟩
     have hb2 : V2.heap[p]? = some (.cells (PC { s with st := 4 } d vi vp (.slice none 0 0) (sayV q)) 139 (0, 0)) := by rw [<- hV2]; exact blk_set hb1 10 _
     have hk2 : Kept (fun i => i = p) W V2 := by rw [<- hV2, <- hV1, <- hE]; exact (((Kept.refl (fun i => i = p) W).drew).setCell (p := ⟨p, 0, none⟩) (.inl rfl) _).setCell (p := ⟨p, 10, none⟩) (.inl rfl) _
     have HT := Lib.hid (show TP G W p q { s with st := 4, ds := [] } L V2 from tp_of hg (hc.updS (s' := { s with st := 4, ds := [] }) (v' := .slice none 0 0) (hk2.mono fun i _ h => .inl h) hb2 (by show Own .u8 5 V2 (.slice none 0 0) []; exact Own.nil _ _ _) (.inl rfl) rfl rfl rfl ⟨by simp, hc.ok.it, hc.ok.ps, hc.ok.la, by simp⟩) (fun i hi => .inl hi) (hk2.mono fun i _ h => .inl h))
     clear hbE hb1 hb2 hk2 hc hg hD
     go_enter Tryz.func233, Tryz.ntmps233
     go_wp2
     go_region
     all_goals go_wp2
     all_goals go_ret
     all_goals exact ⟨rfl, by simpa only [List.append_nil] using HT.out⟩
    ·obtain ⟨iN, hin⟩ : ∃ n, s.ds.length = n := ⟨_, rfl⟩
     rw [hin] at hie
     subst hie
     clear hin
     obtain ⟨⟨x0, x0f⟩, -, -, -, -, -, -, -, -, -, ⟨x10, x10f⟩, -⟩ := pcells hc.pb
     obtain ⟨E, hE⟩ : ∃ E, W.drew = E := ⟨_, rfl⟩
     have hbE : E.heap[p]? = some (.cells (PC s d vi vp (.slice (some ⟨ig, 0, none⟩) iN ic) (sayV q)) 139 (0, 0)) := by rw [<- hE]; exact ((Kept.refl (fun _ => False) W).drew).blk hc.pb id
     obtain ⟨⟨y0, y0f⟩, -, -, -, -, -, -, -, -, -, ⟨y10, y10f⟩, -⟩ := pcells hbE
     obtain ⟨V1, hV1⟩ : ∃ V, E.setCell ⟨p, 0, none⟩ (.int .i64 4) = V := ⟨_, rfl⟩
     have hb1 : V1.heap[p]? = some (.cells (PC { s with st := 4 } d vi vp (.slice (some ⟨ig, 0, none⟩) iN ic) (sayV q)) 139 (0, 0)) := by rw [<- hV1]; exact blk_set hbE 0 _
     obtain ⟨⟨z0, z0f⟩, -, -, -, -, -, -, -, -, -, ⟨z10, z10f⟩, -⟩ := pcells hb1
     obtain ⟨V2, hV2⟩ : ∃ V, V1.setCell ⟨p, 10, none⟩ (.slice (some ⟨ig, 0, none⟩) 0 ic) = V := ⟨_, rfl⟩
     have hb2 : V2.heap[p]? = some (.cells (PC { s with st := 4 } d vi vp (.slice (some ⟨ig, 0, none⟩) 0 ic) (sayV q)) 139 (0, 0)) := by rw [<- hV2]; exact blk_set hb1 10 _
     have hk2 : Kept (fun i => i = p) W V2 := by rw [<- hV2, <- hV1, <- hE]; exact (((Kept.refl (fun i => i = p) W).drew).setCell (p := ⟨p, 0, none⟩) (.inl rfl) _).setCell (p := ⟨p, 10, none⟩) (.inl rfl) _
     have HT := Lib.hid (show TP G W p q { s with st := 4, ds := [] } L V2 from tp_of hg (hc.updS (s' := { s with st := 4, ds := [] }) (v' := .slice (some ⟨ig, 0, none⟩) 0 ic) (hk2.mono fun i _ h => .inl h) hb2 (by show Own .u8 5 V2 (.slice (some ⟨ig, 0, none⟩) 0 ic) []; exact ⟨rfl, .inr ⟨_, _, icur, rfl, Nat.zero_le _, hk2.blk hig (fun hh => blk_ne hig hc.pb (by decide) hh), Nat.zero_le _, icm, ics, by simp⟩⟩) (.inl rfl) rfl rfl rfl ⟨by simp, hc.ok.it, hc.ok.ps, hc.ok.la, by simp⟩) (fun i hi => .inl hi) (hk2.mono fun i _ h => .inl h))
     clear hbE hb1 hb2 hk2 hc hg hD hig icm ics
     go_enter Tryz.func233, Tryz.ntmps233
     go_wp2
     go_region
     all_goals go_wp2
     all_goals go_ret
     all_goals exact ⟨rfl, by simpa only [List.append_nil] using HT.out⟩
   ·skip
    by_cases h95 : c = 95
    ·have e : openS s c = some ({ s with st := 6 }, [evX 9 0 0]) := by unfold openS; rw [if_neg h91, if_neg h80, if_neg h93, if_pos h95]
     have g91 : (c == 91) = false := by simp [h91]
     have g80 : (c == 80) = false := by simp [h80]
     have g93 : (c == 93) = false := by simp [h93]
     have g95 : (c == 95) = true := by simp [h95]
     rw [e] at hn ⊢
     clear e h91 h80 h93 h95
     show Calls Tryz.prog 233 _ W fun r w' => r = .returned (.bool true) /\ TP G W p q { s with st := 6 } (L ++ [evX 9 0 0]) w'
     obtain ⟨⟨c0, f0⟩, hR1, hk1⟩ := rr_st hR 6 (by omega)
     obtain ⟨V, hV⟩ : ∃ V, W.setCell ⟨p, 0, none⟩ (.int .i64 6) = V := ⟨_, rfl⟩
     rw [hV] at hR1 hk1
     obtain ⟨-, c11⟩ := rr_cells hR1
     unfold sayV at c11
     have H1 := Lib.hid (And.intro hR1 (And.intro hk1 hn))
     clear hR1 hk1 hR
     go_enter Tryz.func233, Tryz.ntmps233
     go_wp2_with fail
     refine (sayX G V p q _ L H1.out.1 9 0 0 H1.out.2.2).mono ?_
     rintro r w2 ⟨⟨x, rfl⟩, ht⟩
     have HT := Lib.hid (TP.then (fun _ h => .inl h) H1.out.2.1 ht)
     clear ht
     go_wp2
     go_ret
     exact ⟨rfl, HT.out⟩
    ·skip
     by_cases h88 : c = 88
     ·have e : openS s c = some ({ s with st := 7 }, []) := by unfold openS; rw [if_neg h91, if_neg h80, if_neg h93, if_neg h95, if_pos (.inl h88)]
      have g91 : (c == 91) = false := by simp [h91]
      have g80 : (c == 80) = false := by simp [h80]
      have g93 : (c == 93) = false := by simp [h93]
      have g95 : (c == 95) = false := by simp [h95]
      have g88 : (c == 88) = true := by simp [h88]
      rw [e] at hn ⊢
      clear e h91 h80 h93 h95 h88
      show Calls Tryz.prog 233 _ W fun r w' => r = .returned (.bool true) /\ TP G W p q { s with st := 7 } (L ++ []) w'
      obtain ⟨⟨c0, f0⟩, hR1, hk1⟩ := rr_st hR 7 (by omega)
      have HT := Lib.hid (tp_rr hR1 (fun _ h => .inl h) hk1)
      clear hR1 hk1 hR
      go_enter Tryz.func233, Tryz.ntmps233
      go_wp2
      go_ret
      exact ⟨rfl, by simpa only [List.append_nil] using HT.out⟩
     ·skip
      by_cases h94 : c = 94
      ·have e : openS s c = some ({ s with st := 7 }, []) := by unfold openS; rw [if_neg h91, if_neg h80, if_neg h93, if_neg h95, if_pos (.inr h94)]
       have g91 : (c == 91) = false := by simp [h91]
       have g80 : (c == 80) = false := by simp [h80]
       have g93 : (c == 93) = false := by simp [h93]
       have g95 : (c == 95) = false := by simp [h95]
       have g88 : (c == 88) = false := by simp [h88]
       have g94 : (c == 94) = true := by simp [h94]
       rw [e] at hn ⊢
       clear e h91 h80 h93 h95 h88 h94
       show Calls Tryz.prog 233 _ W fun r w' => r = .returned (.bool true) /\ TP G W p q { s with st := 7 } (L ++ []) w'
       obtain ⟨⟨c0, f0⟩, hR1, hk1⟩ := rr_st hR 7 (by omega)
       have HT := Lib.hid (tp_rr hR1 (fun _ h => .inl h) hk1)
       clear hR1 hk1 hR
       go_enter Tryz.func233, Tryz.ntmps233
       go_wp2
       go_ret
       exact ⟨rfl, by simpa only [List.append_nil] using HT.out⟩
      ·skip
       have e : openS s c = none := by unfold openS; rw [if_neg h91, if_neg h80, if_neg h93, if_neg h95, if_neg (fun h => by rcases h with h | h; exact h88 h; exact h94 h)]
       have g91 : (c == 91) = false := by simp [h91]
       have g80 : (c == 80) = false := by simp [h80]
       have g93 : (c == 93) = false := by simp [h93]
       have g95 : (c == 95) = false := by simp [h95]
       have g88 : (c == 88) = false := by simp [h88]
       have g94 : (c == 94) = false := by simp [h94]
       rw [e] at hn ⊢
       clear e hR h91 h80 h93 h95 h88 h94
       show Calls Tryz.prog 233 _ W fun r w' => r = .returned (.bool false) /\ TP G W p q s (L ++ []) w'
       go_enter Tryz.func233, Tryz.ntmps233
       go_wp2
       go_ret
       exact ⟨rfl, by simpa only [List.append_nil] using TP.refl HR.out⟩
theorem sayS (G : Nat -> Prop) (W : World) (p : Nat) (q : Lis) (s : PS) (L : List Ev) (hR : RR G W p q s L) (k b pv : Int) (S : ByteArray) (hn : AL q L [⟨k, 0, b, pv, S, [], []⟩]) :
  Calls Tryz.prog 41 #[.pointer (some ⟨q.p, 0, none⟩), .agg #[.int .i64 k, .int .i32 0, .int .u8 b, .int .u8 pv, .string S, .slice none 0 0, .slice none 0 0]] W fun x w' => (∃ y, x = .returned y) /\ TP G W p q s (L ++ [⟨k, 0, b, pv, S, [], []⟩]) w' :=
 sayR G W p q s L hR ⟨k, 0, b, pv, S, none, 0, 0, none, 0, 0⟩ ⟨k, 0, b, pv, S, [], []⟩ hn ⟨rfl, rfl, rfl, rfl, rfl, ⟨rfl, .inl rfl⟩, ⟨rfl, .inl rfl⟩, (fun _ => ⟨rfl, rfl⟩), (fun _ => ⟨rfl, rfl⟩), (fun _ _ h => by cases h), (fun _ _ h => by cases h)⟩
set_option maxRecDepth 100000 in
set_option maxHeartbeats 8000000 in
theorem esc_any (G : Nat -> Prop) (W : World) (p : Nat) (q : Lis) (s : PS) (L : List Ev) (c : Int) (hc0 : 0 <= c) (hc1 : c < 256) (hR : RR G W p q s L) (hn : AL q L ((escS s c).2)) :
  Calls Tryz.prog 167 #[.pointer (some ⟨p, 0, none⟩), .int .u8 c] W fun r w' => (∃ x, r = .returned x) /\ TP G W p q (escS s c).1 (L ++ (escS s c).2) w' := by
 have HR := Lib.hid hR
 obtain ⟨-, c11⟩ := rr_cells hR
 unfold sayV at c11
 clear hR
 cases hct : ctlB c with
 | true =>
  have e : escS s c = (s, [evX 2 0 c]) := by unfold escS; rw [if_pos hct]
  rw [e] at hn ⊢
  clear e
  show Calls Tryz.prog 167 _ W fun r w' => (∃ x, r = .returned x) /\ TP G W p q s (L ++ [evX 2 0 c]) w'
  go_enter Tryz.func167, Tryz.ntmps167
  go_wp2_with fail
  refine (ctl_any c W).mono ?_
  rintro r w1 ⟨rfl, rfl⟩
  rw [hct]
  go_wp2_with fail
  refine (sayX G w1 p q s L HR.out 2 0 c hn).mono ?_
  rintro r w2 ⟨⟨x, rfl⟩, ht⟩
  have HT := Lib.hid ht
  clear ht
  go_wp2
  go_end0
  exact ⟨⟨_, rfl⟩, HT.out⟩
 | false =>
  have hcf : ¬ ctlB c = true := by rw [hct]; simp
  by_cases h80 : 128 <= c
  ·have g80 : decide (128 <= c) = true := decide_eq_true h80
   have e : escS s c = backS s c := by unfold escS; rw [if_neg hcf, if_pos h80]
   rw [e] at hn ⊢
   clear e h80 hcf
   go_enter Tryz.func167, Tryz.ntmps167
   go_wp2_with fail
   refine (ctl_any c W).mono ?_
   rintro r w1 ⟨rfl, rfl⟩
   rw [hct]
   go_wp2_with fail
   refine (back_any G w1 p q s L c hc0 hc1 HR.out hn).mono ?_
   rintro r w2 ⟨⟨x, rfl⟩, ht⟩
   have HT := Lib.hid ht
   clear ht
   go_wp2
   go_end0
   exact ⟨⟨_, rfl⟩, HT.out⟩
  ·have g80 : decide (128 <= c) = false := decide_eq_false h80
   by_cases h2f : c <= 47
   ·have g2f : decide (c <= 47) = true := decide_eq_true h2f
    have e : escS s c = (keepS s c, []) := by unfold escS; rw [if_neg hcf, if_neg h80, if_pos h2f]
    rw [e] at hn ⊢
    clear e h80 h2f hcf
    show Calls Tryz.prog 167 _ W fun r w' => (∃ x, r = .returned x) /\ TP G W p q (keepS s c) (L ++ []) w'
    go_enter Tryz.func167, Tryz.ntmps167
    go_wp2_with fail
    refine (ctl_any c W).mono ?_
    rintro r w1 ⟨rfl, rfl⟩
    rw [hct]
    go_wp2_with fail
    refine (keep_any G w1 p q s L c HR.out).mono ?_
    rintro r w2 ⟨⟨x, rfl⟩, ht⟩
    have HT := Lib.hid ht
    clear ht
    go_wp2
    go_end0
    exact ⟨⟨_, rfl⟩, by simpa only [List.append_nil] using HT.out⟩
   ·have g2f : decide (c <= 47) = false := decide_eq_false h2f
    by_cases h7f : c = 127
    ·have g7f : (c == 127) = true := by simp [h7f]
     have e : escS s c = (s, []) := by unfold escS; rw [if_neg hcf, if_neg h80, if_neg h2f, if_pos h7f]
     rw [e] at hn ⊢
     clear e h80 h2f h7f hcf
     show Calls Tryz.prog 167 _ W fun r w' => (∃ x, r = .returned x) /\ TP G W p q s (L ++ []) w'
     go_enter Tryz.func167, Tryz.ntmps167
     go_wp2_with fail
     refine (ctl_any c W).mono ?_
     rintro r w1 ⟨rfl, rfl⟩
     rw [hct]
     go_wp2
     go_end0
     exact ⟨⟨_, rfl⟩, by simpa only [List.append_nil] using TP.refl HR.out⟩
    ·have g7f : (c == 127) = false := by simp [h7f]
     have hRa := HR.out
     obtain ⟨d0, vi0, vp0, vd0, vo0, hca, hga⟩ := hRa
     obtain ⟨ja, jc, hje, -, -⟩ := hca.hi.shape
     obtain ⟨jN, hjn⟩ : ∃ n, s.it.length = n := ⟨_, rfl⟩
     rw [hjn] at hje
     subst hje
     obtain ⟨-, -, -, -, ⟨a4, a4f⟩, -, -, -, -, -, -, -⟩ := pcells hca.pb
     clear hca hga
     by_cases hj : 0 < jN
     ·have gj : decide (0 < jN) = true := decide_eq_true hj
      have gj' : decide ((0 : Int) < (jN : Int)) = true := decide_eq_true (by omega)
      have e0 : escS s c = doneS s c := by unfold escS; rw [if_neg hcf, if_neg h80, if_neg h2f, if_neg h7f, if_pos (by omega)]
      rw [e0] at hn ⊢
      clear e0 h80 h2f h7f hcf hjn hj
      obtain ⟨⟨c0, f0⟩, hR1, hk1⟩ := rr_st HR.out 0 (by omega)
      obtain ⟨V, hV⟩ : ∃ V, W.setCell ⟨p, 0, none⟩ (.int .i64 0) = V := ⟨_, rfl⟩
      rw [hV] at hR1 hk1
      have H1 := Lib.hid (And.intro hR1 hk1)
      obtain ⟨d, vi, vp, vd, vo, hc, hg⟩ := hR1
      obtain ⟨ia, ic, hie, hsi, -⟩ := hc.hi.shape
      obtain ⟨iN, hin⟩ : ∃ n, s.it.length = n := ⟨_, rfl⟩
      have hin2 : ({ s with st := 0 } : PS).it.length = iN := hin
      rw [hin2] at hie
      rw [hin2] at hsi
      subst hie
      obtain ⟨-, -, -, -, ⟨x4, x4f⟩, ⟨x5, x5f⟩, -, -, -, -, -, ⟨x11, x11f⟩⟩ := pcells hc.pb
      obtain ⟨E, hE⟩ : ∃ E, V.drew = E := ⟨_, rfl⟩
      have hkE : Kept (fun _ => False) V E := by rw [<- hE]; exact (Kept.refl _ _).drew
      obtain ⟨-, -, -, -, ⟨y4, y4f⟩, ⟨y5, y5f⟩, -, -, -, -, -, ⟨y11, y11f⟩⟩ := pcells (hkE.blk hc.pb id)
      obtain ⟨SX, hSX⟩ : ∃ S, strOfNums s.it = S := ⟨_, rfl⟩
      have cv := run_str (P := Tryz.prog) Tryz.underlying22 Tryz.underlying5 Tryz.underlying9 (hsi.kept hkE (fun _ _ _ _ => id)) (len := iN) (cap := ic)
      have cv0 : (convert 22 9 (.slice ia iN ic)).run Tryz.prog E = .ok (.string SX) E := by rw [<- hSX]; exact cv
      have HS := Lib.hid (fun (hn : AL q L [⟨3, 0, c, 0, SX, [], []⟩]) => sayS G E p q { s with st := 0 } L (H1.out.1.up hkE) 3 c 0 SX hn)
      have HKE := Lib.hid hkE
      unfold sayV at x11 y11
      clear hc hg hsi hin hin2 hkE cv hk1
      simp only at x5 y5
      cases hwr : s.wr with
      | true =>
       rw [hwr] at x5 y5
       have e : doneS s c = ({ s with st := 0 }, []) := by unfold doneS; rw [if_pos hwr]
       rw [e] at hn ⊢
       clear e hwr hSX cv0
       show Calls Tryz.prog 167 _ W fun r w' => (∃ x, r = .returned x) /\ TP G W p q { s with st := 0 } (L ++ []) w'
       go_enter Tryz.func167, Tryz.ntmps167
       go_wp2_with fail
       refine (ctl_any c W).mono ?_
       rintro r w1 ⟨rfl, rfl⟩
       rw [hct]
       go_wp2
       go_end0
       exact ⟨⟨_, rfl⟩, by simpa only [List.append_nil] using (tp_rr H1.out.1 (fun _ h => .inl h) H1.out.2)⟩
      | false =>
       rw [hwr] at x5 y5
       have e : doneS s c = ({ s with st := 0 }, [⟨3, 0, c, 0, SX, [], []⟩]) := by unfold doneS; rw [if_neg (by rw [hwr]; simp), hSX]
       rw [e] at hn ⊢
       clear e hwr hSX
       show Calls Tryz.prog 167 _ W fun r w' => (∃ x, r = .returned x) /\ TP G W p q { s with st := 0 } (L ++ [⟨3, 0, c, 0, SX, [], []⟩]) w'
       go_enter Tryz.func167, Tryz.ntmps167
       go_wp2_with fail
       refine (ctl_any c W).mono ?_
       rintro r w1 ⟨rfl, rfl⟩
       rw [hct]
       go_wp2
       go_region_with (first
        | (go_at_call 41; refine (HS.out hn).mono ?_; rintro r w6 ⟨⟨y, rfl⟩, ht⟩; have H6 := Lib.hid (TP.then (fun _ h => .inl h) H1.out.2 (TP.then (fun _ h => .inl h) (HKE.out.mono fun _ _ h => h.elim) ht)); clear ht))
       all_goals go_wp2
       all_goals go_end0
       all_goals exact ⟨⟨_, rfl⟩, H6.out⟩
     ·have gj : decide (0 < jN) = false := decide_eq_false hj
      have gj' : decide ((0 : Int) < (jN : Int)) = false := decide_eq_false (by omega)
      have e0 : escS s c = (match openS s c with | some r => r | none => doneS s c) := by unfold escS; rw [if_neg hcf, if_neg h80, if_neg h2f, if_neg h7f, if_neg (by omega)]; cases openS s c <;> rfl
      rw [e0] at hn ⊢
      clear e0 h80 h2f h7f hcf hjn hj
      have HO := opens_any G W p q s L c HR.out (by cases ho : openS s c with | some r => rw [ho] at hn; exact hn | none => exact AL.stop hn)
      cases ho : openS s c with
      | some r0 =>
       rw [ho] at HO hn
       have HOx := Lib.hid (show Calls Tryz.prog 233 #[.pointer (some ⟨p, 0, none⟩), .int .u8 c] W fun r w' => r = .returned (.bool true) /\ TP G W p q r0.1 (L ++ r0.2) w' from HO)
       clear HO ho
       show Calls Tryz.prog 167 _ W fun r w' => (∃ x, r = .returned x) /\ TP G W p q r0.1 (L ++ r0.2) w'
       go_enter Tryz.func167, Tryz.ntmps167
       go_wp2_with fail
       refine (ctl_any c W).mono ?_
       rintro r w1 ⟨rfl, rfl⟩
       rw [hct]
       go_wp2_with fail
       refine HOx.out.mono ?_
       rintro r w2 ⟨rfl, ht⟩
       have HT := Lib.hid ht
       clear ht
       go_wp2
       go_end0
       exact ⟨⟨_, rfl⟩, HT.out⟩
      | none =>
       rw [ho] at HO hn
       have HOx := Lib.hid (show Calls Tryz.prog 233 #[.pointer (some ⟨p, 0, none⟩), .int .u8 c] W fun r w' => r = .returned (.bool false) /\ TP G W p q s (L ++ []) w' from HO)
       clear HO ho
       replace hn : AL q L (doneS s c).2 := hn
       show Calls Tryz.prog 167 _ W fun r w' => (∃ x, r = .returned x) /\ TP G W p q (doneS s c).1 (L ++ (doneS s c).2) w'
       have hwd : doneS s c = doneS s c := rfl
       clear hwd
       cases hwr : s.wr with
       | true =>
        have e : doneS s c = ({ s with st := 0 }, []) := by unfold doneS; rw [if_pos hwr]
        rw [e] at hn ⊢
        clear e
        show Calls Tryz.prog 167 _ W fun r w' => (∃ x, r = .returned x) /\ TP G W p q { s with st := 0 } (L ++ []) w'
        go_enter Tryz.func167, Tryz.ntmps167
        go_wp2_with fail
        refine (ctl_any c W).mono ?_
        rintro r w1 ⟨rfl, rfl⟩
        rw [hct]
        go_wp2_with fail
        refine HOx.out.mono ?_
        rintro r w2 ⟨rfl, ht⟩
        rw [List.append_nil] at ht
        obtain ⟨G1, hR2, hs2, hk2⟩ := ht
        have H2 := Lib.hid (And.intro hR2 (And.intro hs2 hk2))
        obtain ⟨⟨c0, f0⟩, hR1, hk1⟩ := rr_st hR2 0 (by omega)
        obtain ⟨V, hV⟩ : ∃ V, w2.setCell ⟨p, 0, none⟩ (.int .i64 0) = V := ⟨_, rfl⟩
        rw [hV] at hR1 hk1
        have H1 := Lib.hid (TP.then H2.out.2.1 H2.out.2.2 (tp_rr hR1 (fun _ h => .inl h) hk1))
        obtain ⟨d, vi, vp, vd, vo, hc, hg⟩ := hR1
        obtain ⟨-, -, -, -, -, ⟨x5, x5f⟩, -, -, -, -, -, -⟩ := pcells hc.pb
        simp only at x5
        rw [hwr] at x5
        clear hc hg hk1 hR2 hs2 hk2 hwr
        go_wp2
        go_end0
        exact ⟨⟨_, rfl⟩, by simpa only [List.append_nil] using H1.out⟩
       | false =>
        obtain ⟨SX, hSX⟩ : ∃ S, strOfNums s.it = S := ⟨_, rfl⟩
        have e : doneS s c = ({ s with st := 0 }, [⟨3, 0, c, 0, SX, [], []⟩]) := by unfold doneS; rw [if_neg (by rw [hwr]; simp), hSX]
        rw [e] at hn ⊢
        clear e
        show Calls Tryz.prog 167 _ W fun r w' => (∃ x, r = .returned x) /\ TP G W p q { s with st := 0 } (L ++ [⟨3, 0, c, 0, SX, [], []⟩]) w'
        go_enter Tryz.func167, Tryz.ntmps167
        go_wp2_with fail
        refine (ctl_any c W).mono ?_
        rintro r w1 ⟨rfl, rfl⟩
        rw [hct]
        go_wp2_with fail
        refine HOx.out.mono ?_
        rintro r w2 ⟨rfl, ht⟩
        rw [List.append_nil] at ht
        obtain ⟨G1, hR2, hs2, hk2⟩ := ht
        have H2 := Lib.hid (And.intro hR2 (And.intro hs2 hk2))
        obtain ⟨⟨c0, f0⟩, hR1, hk1⟩ := rr_st hR2 0 (by omega)
        obtain ⟨V, hV⟩ : ∃ V, w2.setCell ⟨p, 0, none⟩ (.int .i64 0) = V := ⟨_, rfl⟩
        rw [hV] at hR1 hk1
        have H1 := Lib.hid (And.intro hR1 hk1)
        obtain ⟨d, vi, vp, vd, vo, hc, hg⟩ := hR1
        obtain ⟨ia, ic, hie, hsi, -⟩ := hc.hi.shape
        obtain ⟨iN, hin⟩ : ∃ n, ({ s with st := 0 } : PS).it.length = n := ⟨_, rfl⟩
        rw [hin] at hie hsi
        subst hie
        obtain ⟨-, -, -, -, ⟨x4, x4f⟩, ⟨x5, x5f⟩, -, -, -, -, -, ⟨x11, x11f⟩⟩ := pcells hc.pb
        obtain ⟨E, hE⟩ : ∃ E, V.drew = E := ⟨_, rfl⟩
        have hkE : Kept (fun _ => False) V E := by rw [<- hE]; exact (Kept.refl _ _).drew
        obtain ⟨-, -, -, -, ⟨y4, y4f⟩, ⟨y5, y5f⟩, -, -, -, -, -, ⟨y11, y11f⟩⟩ := pcells (hkE.blk hc.pb id)
        have cv := run_str (P := Tryz.prog) Tryz.underlying22 Tryz.underlying5 Tryz.underlying9 (hsi.kept hkE (fun _ _ _ _ => id)) (len := iN) (cap := ic)
        have cv0 : (convert 22 9 (.slice ia iN ic)).run Tryz.prog E = .ok (.string SX) E := by rw [<- hSX]; exact cv
        have HS := Lib.hid (fun (hn : AL q L [⟨3, 0, c, 0, SX, [], []⟩]) => sayS G1 E p q { s with st := 0 } L (H1.out.1.up hkE) 3 c 0 SX hn)
        have HKE := Lib.hid hkE
        unfold sayV at x11 y11
        simp only at x5 y5
        rw [hwr] at x5 y5
        clear hc hg hsi hin hkE cv hk1 hR2 hs2 hk2 hwr hSX
        go_wp2
        go_region_with (first
         | (go_at_call 41; refine (HS.out hn).mono ?_; rintro r w6 ⟨⟨y, rfl⟩, ht⟩; have H6 := Lib.hid (TP.then H2.out.2.1 H2.out.2.2 (TP.then (fun _ h => .inl h) H1.out.2 (TP.then (fun _ h => .inl h) (HKE.out.mono fun _ _ h => h.elim) ht))); clear ht))
        all_goals go_wp2
        all_goals go_end0
        all_goals exact ⟨⟨_, rfl⟩, H6.out⟩
def spanC : List (Int × Int) -> List Value
 | [] => []
 | s :: l => .int .i32 s.1 :: .int .i32 s.2 :: spanC l
theorem spanC_at : ∀ (l : List (Int × Int)) (i : Nat) (h : i < l.length), (spanC l)[i * 2]? = some (.int .i32 l[i].1) /\ (spanC l)[i * 2 + 1]? = some (.int .i32 l[i].2)
 | s :: l, 0, _ => ⟨rfl, rfl⟩
 | s :: l, i + 1, h => by
  have := spanC_at l i (by simpa using h)
  rw [show (i + 1) * 2 = i * 2 + 1 + 1 by omega]
  exact this
theorem inL_drop (r : Int) (l : List (Int × Int)) (i : Nat) (h : i < l.length) : inL r (l.drop i) = ((decide (l[i].1 <= r) && decide (r <= l[i].2)) || inL r (l.drop (i + 1))) := by
 rw [List.drop_eq_getElem_cons h]; rfl
theorem wret_i {k : IntKind} {a b : Int} (h : a = b) : Ending.returned (.int k a) = .returned (.int k b) := by rw [h]
set_option maxRecDepth 100000 in
set_option maxHeartbeats 4000000 in
theorem uin_any (r : Int) (l : List (Int × Int)) (g : Nat) (n : Nat) (w : World) (hb : w.heap[g]? = some (.cells (spanC l).toArray 423 (0, 0))) (hn : l.length = n) (hn2 : n <= 100) :
  Calls Tryz.prog 347 #[.int .i32 r, .slice (some ⟨g, 0, none⟩) n n] w fun e w' => e = .returned (.bool (inL r l)) /\ Kept (fun _ => False) w w' := by
 have HB := Lib.hid hb
 subst hn
 clear hb
 go_enter Tryz.func347, Tryz.ntmps347
 go_wp2
 go_loopw [9] (fun i wr => ∃ k : Nat, k <= l.length /\ i = .int .i64 k /\ inL r l = inL r (l.drop k) /\ Kept (fun _ => False) w wr) (fun i _ => l.length - (intOf i).toNat)
 case atStart => exact ⟨0, by omega, rfl, rfl, Kept.refl _ _⟩
 case round =>
  obtain ⟨k, hk, rfl, hin, hkr⟩ := hrel
  have HIN := Lib.hid hin
  clear hin
  by_cases hkl : k < l.length
  ·obtain ⟨p0, p1⟩ := spanC_at l k hkl
   have b1 := hkr.blk HB.out id
   have x0 : wr.cell? ⟨g, k * 2, none⟩ = some (.int .i32 l[k].1) := (blk_cell b1 _).trans (by simpa using p0)
   have x1 : wr.cell? ⟨g, k * 2 + 1, none⟩ = some (.int .i32 l[k].2) := (blk_cell b1 _).trans (by simpa using p1)
   have hd := inL_drop r l k hkl
   obtain ⟨lo, hlo⟩ : ∃ z, l[k].1 = z := ⟨_, rfl⟩
   obtain ⟨hi, hhi⟩ : ∃ z, l[k].2 = z := ⟨_, rfl⟩
   rw [hlo] at x0 hd
   rw [hhi] at x1 hd
   by_cases h1 : lo <= r
   ·have g1 : decide (lo <= r) = true := decide_eq_true h1
    by_cases h2 : r <= hi
    ·have g2 : decide (r <= hi) = true := decide_eq_true h2
     rw [g1, g2] at hd
     have HD := Lib.hid hd
     clear hd p0 p1 b1 hlo hhi
     go_wp2
     go_ret
     exact ⟨ret_bool (by rw [HIN.out, HD.out]; rfl), (hkr.alloc _)⟩
    ·have g2 : decide (r <= hi) = false := decide_eq_false h2
     rw [g1, g2] at hd
     have HD := Lib.hid hd
     clear hd p0 p1 b1 hlo hhi
     go_wp2
     go_roundw
     case rel => exact ⟨k + 1, by omega, by go_num, by rw [HIN.out, HD.out]; rfl, (hkr.alloc _)⟩
     case measure => simp [intOf]; omega
   ·have g1 : decide (lo <= r) = false := decide_eq_false h1
    rw [g1] at hd
    have HD := Lib.hid hd
    clear hd p0 p1 b1 hlo hhi
    go_wp2
    go_roundw
    case rel => exact ⟨k + 1, by omega, by go_num, by rw [HIN.out, HD.out]; rfl, (hkr.alloc _)⟩
    case measure => simp [intOf]; omega
  ·obtain rfl : k = l.length := by omega
   go_wp2
   go_ret
   exact ⟨ret_bool (by rw [HIN.out]; simp [inL]), hkr⟩
set_option maxRecDepth 100000 in
set_option maxHeartbeats 2000000 in
theorem thin_any (w : World) : Calls Tryz.prog 348 #[] w fun e w' => e = .returned (.slice (some ⟨w.heap.size, 0, none⟩) 5 5) /\ w' = w.alloc (.cells (spanC thinL).toArray 423) := by
 go_enter Tryz.func348, Tryz.ntmps348
 go_wp2
 go_ret
 exact ⟨rfl, rfl⟩
set_option maxRecDepth 100000 in
set_option maxHeartbeats 2000000 in
theorem wide_any (w : World) : Calls Tryz.prog 349 #[] w fun e w' => e = .returned (.slice (some ⟨w.heap.size, 0, none⟩) 9 9) /\ w' = w.alloc (.cells (spanC wideL).toArray 423) := by
 go_enter Tryz.func349, Tryz.ntmps349
 go_wp2
 go_ret
 exact ⟨rfl, rfl⟩
set_option maxRecDepth 100000 in
set_option maxHeartbeats 2000000 in
theorem is_any (r : Int) (w : World) : Calls Tryz.prog 107 #[.int .i32 r] w fun e w' => e = .returned (.bool (!noneB r)) /\ w = w' := by
 have h : (!noneB r) = (decide (0 <= r) && decide (r <= 1114111) && (decide (r < 55296) || decide (57343 < r))) := by
  unfold noneB
  rw [Bool.eq_iff_iff]
  simp
  omega
 have H := Lib.hid h
 clear h
 by_cases h1 : 0 <= r
 ·have g1 : decide (0 <= r) = true := decide_eq_true h1
  by_cases h2 : r <= 1114111
  ·have g2 : decide (r <= 1114111) = true := decide_eq_true h2
   go_enter Tryz.func107, Tryz.ntmps107
   go_wp2
   all_goals
    go_ret
    exact ⟨ret_bool (by rw [H.out]; first | (rw [Bool.eq_iff_iff]; simp; omega) | (simp; omega)), rfl⟩
  ·have g2 : decide (r <= 1114111) = false := decide_eq_false h2
   go_enter Tryz.func107, Tryz.ntmps107
   go_wp2
   go_ret
   exact ⟨ret_bool (by rw [H.out, g1, g2]; simp), rfl⟩
 ·have g1 : decide (0 <= r) = false := decide_eq_false h1
  go_enter Tryz.func107, Tryz.ntmps107
  go_wp2
  go_ret
  exact ⟨ret_bool (by rw [H.out, g1]; simp), rfl⟩
set_option maxRecDepth 100000 in
set_option maxHeartbeats 4000000 in
theorem width_any (r : Int) (w : World) : Calls Tryz.prog 270 #[.int .i32 r] w fun e w' => e = .returned (.int .i64 (widthI r)) /\ Kept (fun _ => False) w w' := by
 cases hn : noneB r with
 | true =>
  have e0 : widthI r = 0 := by unfold widthI; rw [if_pos hn]
  have HE := Lib.hid e0
  clear e0
  go_enter Tryz.func270, Tryz.ntmps270
  go_wp2_with (go_at_call 107; refine (is_any r _).mono ?_; rintro e w' ⟨rfl, rfl⟩)
  go_ret
  exact ⟨wret_i HE.out.symm, Kept.refl _ _⟩
 | false =>
  cases ht : inL r thinL with
  | true =>
   have e0 : widthI r = 0 := by unfold widthI; rw [if_neg (by rw [hn]; simp), if_pos ht]
   have HE := Lib.hid e0
   clear e0
   go_enter Tryz.func270, Tryz.ntmps270
   go_wp2_with (first
    | (go_at_call 107; refine (is_any r _).mono ?_; rintro e w' ⟨rfl, rfl⟩)
    | (go_at_call 348; refine (thin_any _).mono ?_; rintro e w' ⟨rfl, rfl⟩)
    | (go_at_call 347; refine (uin_any r thinL _ 5 _ (blk_new _ _) rfl (by omega)).mono ?_; rintro e w2 ⟨rfl, hk2⟩))
   go_ret
   exact ⟨wret_i HE.out.symm, ((Kept.refl _ _).alloc _).then hk2⟩
  | false =>
   cases hw : inL r wideL with
   | true =>
    have e0 : widthI r = 2 := by unfold widthI; rw [if_neg (by rw [hn]; simp), if_neg (by rw [ht]; simp), if_pos hw]
    have HE := Lib.hid e0
    clear e0
    go_enter Tryz.func270, Tryz.ntmps270
    go_wp2_with fail
    refine (is_any r _).mono ?_; rintro e w' ⟨rfl, rfl⟩
    go_wp2_with fail
    refine (thin_any _).mono ?_; rintro e w' ⟨rfl, rfl⟩
    go_wp2_with fail
    refine (uin_any r thinL _ 5 _ (blk_new _ _) rfl (by omega)).mono ?_; rintro e w2 ⟨rfl, hk2⟩
    go_wp2_with fail
    refine (wide_any _).mono ?_; rintro e w' ⟨rfl, rfl⟩
    go_wp2_with fail
    refine (uin_any r wideL _ 9 _ (blk_new _ _) rfl (by omega)).mono ?_; rintro e w3 ⟨rfl, hk3⟩
    go_wp2
    go_ret
    exact ⟨wret_i HE.out.symm, ((((Kept.refl _ _).alloc _).then hk2).alloc _).then hk3⟩
   | false =>
    have e0 : widthI r = 1 := by unfold widthI; rw [if_neg (by rw [hn]; simp), if_neg (by rw [ht]; simp), if_neg (by rw [hw]; simp)]
    have HE := Lib.hid e0
    clear e0
    go_enter Tryz.func270, Tryz.ntmps270
    go_wp2_with fail
    refine (is_any r _).mono ?_; rintro e w' ⟨rfl, rfl⟩
    go_wp2_with fail
    refine (thin_any _).mono ?_; rintro e w' ⟨rfl, rfl⟩
    go_wp2_with fail
    refine (uin_any r thinL _ 5 _ (blk_new _ _) rfl (by omega)).mono ?_; rintro e w2 ⟨rfl, hk2⟩
    go_wp2_with fail
    refine (wide_any _).mono ?_; rintro e w' ⟨rfl, rfl⟩
    go_wp2_with fail
    refine (uin_any r wideL _ 9 _ (blk_new _ _) rfl (by omega)).mono ?_; rintro e w3 ⟨rfl, hk3⟩
    go_wp2
    go_ret
    exact ⟨wret_i HE.out.symm, ((((Kept.refl _ _).alloc _).then hk2).alloc _).then hk3⟩
set_option maxRecDepth 100000 in
set_option maxHeartbeats 1000000 in
theorem lines_any (w : World) : Calls Tryz.prog 269 #[] w fun en w' => en = .returned (.slice (some ⟨w.heap.size, 0, none⟩) 32 32) /\ w' = w.alloc (.cells (linesL.map (Value.int .i32)).toArray 21) := by
 go_enter Tryz.func269, Tryz.ntmps269
 go_wp2
 go_ret
 exact ⟨rfl, rfl⟩
set_option maxRecDepth 100000 in
set_option maxHeartbeats 2000000 in
theorem graphic_any (s b : Nat) (w : World) (hs : s < 256) (hb : b < 256) : Calls Tryz.prog 191 #[.int .u8 s, .int .u8 b] w fun en w' => en = .returned (.int .i32 (graphicI s b)) /\ Kept (fun _ => False) w w' := by
 by_cases h1 : s = 48
 ·by_cases h2 : 95 <= b
  ·by_cases h3 : b <= 126
   ·have e1 : graphicI s b = linesL.getD (b - 95) 0 := if_pos ⟨h1, h2, h3⟩
    obtain ⟨j, hj⟩ : ∃ j, b - 95 = j := ⟨_, rfl⟩
    have hji : (b : Int) - 95 = (j : Int) := by omega
    have hj32 : j < 32 := by omega
    obtain ⟨z, hz⟩ : ∃ z, linesL.getD j 0 = z := ⟨_, rfl⟩
    rw [hj, hz] at e1
    rw [e1]
    have x0 : (w.alloc (.cells (linesL.map (Value.int .i32)).toArray 21)).cell? ⟨w.heap.size, j, none⟩ = some (.int .i32 z) := (blk_cell (blk_new _ _) j).trans (by
     have hl : linesL.length = 32 := rfl
     rw [<- hz]; simp [List.getD_eq_getElem?_getD, hl, hj32])
    have hzz : ∀ h : j < (linesL.map (Value.int .i32)).length, (linesL.map (Value.int .i32))[j]'h = .int .i32 z := fun h => by
     have hl : j < linesL.length := by simpa using h
     rw [<- hz]; simp [List.getD_eq_getElem?_getD, hl]
    have HZ := Lib.hid hzz
    clear hzz
    subst h1
    have g2 : decide ((95 : Int) <= (b : Int)) = true := decide_eq_true (by omega)
    have g3 : decide ((b : Int) <= 126) = true := decide_eq_true (by omega)
    have g4 : decide ((b : Int) < 95) = false := decide_eq_false (by omega)
    have g5 : decide ((126 : Int) < (b : Int)) = false := decide_eq_false (by omega)
    clear e1 hj hz
    go_enter Tryz.func191, Tryz.ntmps191
    go_wp2_with (go_at_call 269; refine (lines_any _).mono ?_; rintro e w' ⟨rfl, rfl⟩)
    go_ret
    exact ⟨rfl, (Kept.refl _ _).alloc _⟩
   ·have e1 : graphicI s b = b := if_neg (by omega)
    rw [e1]
    subst h1
    have g2 : decide ((95 : Int) <= (b : Int)) = true := decide_eq_true (by omega)
    have g3 : decide ((b : Int) <= 126) = false := decide_eq_false (by omega)
    have g4 : decide ((b : Int) < 95) = false := decide_eq_false (by omega)
    have g5 : decide ((126 : Int) < (b : Int)) = true := decide_eq_true (by omega)
    clear e1
    go_enter Tryz.func191, Tryz.ntmps191
    go_wp2
    go_ret
    exact ⟨rfl, Kept.refl _ _⟩
  ·have e1 : graphicI s b = b := if_neg (by omega)
   rw [e1]
   subst h1
   have g2 : decide ((95 : Int) <= (b : Int)) = false := decide_eq_false (by omega)
   have g4 : decide ((b : Int) < 95) = true := decide_eq_true (by omega)
   clear e1
   go_enter Tryz.func191, Tryz.ntmps191
   go_wp2
   go_ret
   exact ⟨rfl, Kept.refl _ _⟩
 ·have e1 : graphicI s b = b := if_neg (by omega)
  rw [e1]
  have g1 : ¬ (s : Int) = 48 := by omega
  clear e1
  go_enter Tryz.func191, Tryz.ntmps191
  go_wp2
  go_ret
  exact ⟨rfl, Kept.refl _ _⟩
end Go.Proofs.YtmplpcmcbliadaaGreatDoor
