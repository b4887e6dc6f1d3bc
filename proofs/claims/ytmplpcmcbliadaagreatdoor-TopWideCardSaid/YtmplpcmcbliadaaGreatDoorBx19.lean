/- Events done by the screen: a character; the report that all is well; The report that all is well; A terminal's parts changed; what is done behind an event; An event that the screen does; Who listens: a terminal that takes narrow characters and the report that all is well. -/
import Derived.Test.YtmplpcmcbliadaaGreatDoorBx17
import Derived.Test.YtmplpcmcbliadaaGreatDoorBx1
import Derived.Lib.SlBytesConst
import Derived.Test.YtmplpcmcbliadaaGreatDoorBx18
import Derived.Deep.RegionHeld3
set_option linter.unusedVariables false
set_option linter.unusedSimpArgs false
namespace Go.Proofs.YtmplpcmcbliadaaGreatDoor
open Go.RowKit Go.Sort Pl
attribute [local go_sem] growOp growUpon sameUpon
theorem blk7c {w : World} {b : Nat} {x0 x1 x2 x3 x4 x5 x6 : Value} {t : TypeId} (h : w.heap[b]? = some (.cells #[x0, x1, x2, x3, x4, x5, x6] t (0, 0))) : w.cell? ⟨b, 0, none⟩ = some x0 /\ w.cell? ⟨b, 1, none⟩ = some x1 /\ w.cell? ⟨b, 2, none⟩ = some x2 /\ w.cell? ⟨b, 3, none⟩ = some x3 /\ w.cell? ⟨b, 4, none⟩ = some x4 /\ w.cell? ⟨b, 5, none⟩ = some x5 /\ w.cell? ⟨b, 6, none⟩ = some x6 :=
 ⟨blk_cell h 0, blk_cell h 1, blk_cell h 2, blk_cell h 3, blk_cell h 4, blk_cell h 5, blk_cell h 6⟩
set_option maxRecDepth 100000 in
set_option maxHeartbeats 8000000 in
theorem sdo_print (G : Nat -> Prop) (p : Nat) (P' : SP) (w : World) (v : EvV) (hk : v.k = 1)
  (hpr : ∀ x, Kept (fun _ => False) w x -> Calls Tryz.prog 132 #[.pointer (some ⟨p, 0, none⟩), .int .i32 v.r] x fun e w' => (∃ x, e = .returned x) /\ ScrR G x p P' w') :
  Calls Tryz.prog 81 #[.pointer (some ⟨p, 0, none⟩), v.val] w fun e w' => e = .returned (.slice none 0 0) /\ ScrR G w p P' w' := by
 obtain ⟨k, r, b, pv, s, ap, np, cp, ad, nd, cd⟩ := v
 simp only at hk hpr
 subst hk
 unfold EvV.val
 simp only
 obtain ⟨A1, hA1⟩ : ∃ X, w.alloc (.cells #[.int .i64 1, .int .i32 r, .int .u8 b, .int .u8 pv, .string s, .slice ap np cp, .slice ad nd cd] 143) = X := ⟨_, rfl⟩
 have kA1 : Kept (fun _ => False) w A1 := by rw [<- hA1]; exact (Kept.refl _ _).alloc _
 have bA1 : A1.heap[w.heap.size]? = some (.cells #[.int .i64 1, .int .i32 r, .int .u8 b, .int .u8 pv, .string s, .slice ap np cp, .slice ad nd cd] 143 (0, 0)) := by rw [<- hA1]; exact blk_new _ _
 obtain ⟨x0, x1, x2, x3, x4, x5, x6⟩ := blk7c bA1
 have HP := Lib.hid (hpr A1 kA1)
 have HK := Lib.hid kA1
 clear hpr kA1 bA1
 go_enter Tryz.func81, Tryz.ntmps81
 go_wp2_with fail
 refine HP.out.mono ?_
 rintro e w1 ⟨⟨x, rfl⟩, hr⟩
 have HR := Lib.hid (ScrR.pre HK.out hr)
 clear hr
 go_wp2
 go_ret
 exact ⟨rfl, HR.out⟩
set_option maxRecDepth 100000 in
set_option maxHeartbeats 8000000 in
theorem reply_any (x : List Nat) (hx : ∀ c ∈ x, c < 256) (hl : x.length <= 1000) (w : World) : Calls Tryz.prog 199 #[.string (nstr x)] w fun e w' => ∃ v, e = .returned v /\ OwnX 5 w' v (bvals ([27, 91] ++ x)) /\ Kept (fun _ => False) w w' /\ ∀ b, v.ownBlock = some b -> w.heap.size <= b := by
 have hs : (nstr x).size = x.length := nstr_size x
 obtain ⟨w2, cap, h1, h2, h3, h4⟩ := bytes_convX w ([27, 91] ++ x) (fun c hc => by
  rcases List.mem_append.1 hc with h | h
  ·simp at h; omega
  ·exact hx c h) _ rfl (by simp; omega)
 have e1 : nstr ([27, 91] ++ x) = (⟨#[27, 91]⟩ : ByteArray) ++ nstr x := by rw [<- nstr_append]; rfl
 rw [e1] at h1
 have hsz : ¬ (9223372036854775807 : Nat) < (⟨#[27, 91]⟩ : ByteArray).size + (nstr x).size := by rw [hs]; show ¬ 9223372036854775807 < 2 + x.length; omega
 have H2 := Lib.hid (And.intro h2 h3)
 obtain ⟨S, hS⟩ : ∃ S, nstr x = S := ⟨_, rfl⟩
 rw [hS] at h1 hsz ⊢
 clear h2 h3 h4 hs e1 hS
 go_enter Tryz.func199, Tryz.ntmps199
 go_wp2
 go_ret
 exact ⟨_, rfl, H2.out.1, H2.out.2, fun b hb => by cases hb; exact Nat.le_refl _⟩
set_option maxRecDepth 100000 in
set_option maxHeartbeats 8000000 in
theorem param_some (b off c d : Nat) (n : Int) (w : World) (hc : w.cell? ⟨b, off, none⟩ = some (.int .i64 n)) (hn : n ≠ 0) (len : Nat) (h0 : 0 < len) (dv : Int) : Calls Tryz.prog 196 #[.slice (some ⟨b, off, none⟩) len c, .int .i64 0, .int .i64 dv] w fun e w' => e = .returned (.int .i64 n) /\ w = w' := by
 have g1 : decide ((len : Int) <= 0) = false := decide_eq_false (by omega)
 have g2 : (n == 0) = false := by simp [hn]
 have g3 : decide (len <= 0) = false := decide_eq_false (by omega)
 have g4 : ¬ len = 0 := by omega
 have i1 : (0 : Int) < (len : Int) := by omega
 clear hn
 go_enter Tryz.func196, Tryz.ntmps196
 go_wp2
 go_ret
 exact ⟨rfl, rfl⟩
set_option maxRecDepth 100000 in
set_option maxHeartbeats 8000000 in
theorem bare_5n (p b off c : Nat) (w : World) (hc : w.cell? ⟨b, off, none⟩ = some (.int .i64 5)) : Calls Tryz.prog 203 #[.pointer (some ⟨p, 0, none⟩), .slice (some ⟨b, off, none⟩) 1 c, .int .u8 110] w fun e w' => ∃ v, e = .returned v /\ OwnX 5 w' v (bvals [27, 91, 48, 110]) /\ Kept (fun _ => False) w w' /\ ∀ b, v.ownBlock = some b -> w.heap.size <= b := by
 have HP := Lib.hid (fun (dv : Int) => param_some b off c 0 5 w hc (by omega) 1 (by omega) dv)
 have HRP := Lib.hid (show Calls Tryz.prog 199 #[.string ⟨#[48, 110]⟩] w fun e w' => ∃ v, e = .returned v /\ OwnX 5 w' v (bvals [27, 91, 48, 110]) /\ Kept (fun _ => False) w w' /\ ∀ b, v.ownBlock = some b -> w.heap.size <= b from reply_any [48, 110] (by decide) (by decide) w)
 clear hc
 go_enter Tryz.func203, Tryz.ntmps203
 go_wp2_with fail
 refine (HP.out 1).mono ?_
 rintro e w1 ⟨rfl, rfl⟩
 go_wp2_with fail
 refine (HP.out 0).mono ?_
 rintro e w1 ⟨rfl, rfl⟩
 go_wp2_with fail
 refine HRP.out.mono ?_
 rintro e w1 ⟨v, rfl, hr⟩
 have HR := Lib.hid hr
 clear hr
 go_wp2
 go_ret
 exact ⟨v, rfl, HR.out⟩
end Go.Proofs.YtmplpcmcbliadaaGreatDoor
namespace Go.Proofs.YtmplpcmcbliadaaGreatDoor
open Go.RowKit Go.Sort Pl
attribute [local go_sem] growOp growUpon sameUpon
set_option maxRecDepth 100000 in
set_option maxHeartbeats 8000000 in
theorem seq_5n (p b off c : Nat) (ad : Option Addr) (nd cd : Nat) (w : World) (hb : b < w.heap.size) (hc : w.cell? ⟨b, off, none⟩ = some (.int .i64 5)) : Calls Tryz.prog 135 #[.pointer (some ⟨p, 0, none⟩), .agg #[.int .i64 4, .int .i32 0, .int .u8 110, .int .u8 0, .string ByteArray.empty, .slice (some ⟨b, off, none⟩) 1 c, .slice ad nd cd]] w fun e w' => ∃ v, e = .returned v /\ OwnX 5 w' v (bvals [27, 91, 48, 110]) /\ Kept (fun _ => False) w w' /\ ∀ b, v.ownBlock = some b -> w.heap.size <= b := by
 obtain ⟨A1, hA1⟩ : ∃ X, w.alloc (.cells #[.int .i64 4, .int .i32 0, .int .u8 110, .int .u8 0, .string ByteArray.empty, .slice (some ⟨b, off, none⟩) 1 c, .slice ad nd cd] 143) = X := ⟨_, rfl⟩
 have kA1 : Kept (fun _ => False) w A1 := by rw [<- hA1]; exact (Kept.refl _ _).alloc _
 have bA1 : A1.heap[w.heap.size]? = some (.cells #[.int .i64 4, .int .i32 0, .int .u8 110, .int .u8 0, .string ByteArray.empty, .slice (some ⟨b, off, none⟩) 1 c, .slice ad nd cd] 143 (0, 0)) := by rw [<- hA1]; exact blk_new _ _
 obtain ⟨WR, hWR⟩ : ∃ WR, WR = A1.drew := ⟨_, rfl⟩
 have kR : Kept (fun _ => False) A1 WR := by rw [hWR]; exact (Kept.refl _ _).drew
 obtain ⟨x0, x1, x2, x3, x4, x5, x6⟩ := blk7c bA1
 have X5 := cell_regrown (show WR.cell? ⟨w.heap.size, 5, none⟩ = _ from kR.cell x5 id)
 have HC := Lib.hid (fun (x : World) (k : Kept (fun _ => False) WR x) => param_some b off c 0 5 x (((kA1.then kR).then k).cell hc id) (by omega) 1 (by omega) 0)
 have HB := Lib.hid (fun (x : World) (k : Kept (fun _ => False) WR x) => bare_5n p b off c x (((kA1.then kR).then k).cell hc id))
 have HE := Lib.hid (fun (x : World) (k : Kept (fun _ => False) WR x) => blk7c (k.blk (kR.blk bA1 id) id))
 have HWR := Lib.hid (And.intro hWR (kA1.then kR))
 obtain ⟨R, hR⟩ : ∃ R : Value -> World -> Prop, R = fun v w' => v = .int .i64 5 := ⟨_, rfl⟩
 have HRR := Lib.hid hR
 have q0 : ((Utf8.encode 0 ++ Utf8.encode 110).toList == [0, 33, 112]) = false := by kernel_rfl
 have q1 : ((Utf8.encode 0 ++ Utf8.encode 110).toList == [63, 104]) = false := by kernel_rfl
 have q2 : ((Utf8.encode 0 ++ Utf8.encode 110).toList == [63, 108]) = false := by kernel_rfl
 have q3 : ((Utf8.encode 0 ++ Utf8.encode 110).toList == [63, 110]) = false := by kernel_rfl
 have q4 : ((Utf8.encode 0 ++ Utf8.encode 110).toList == [62, 99]) = false := by kernel_rfl
 have q5 : ((Utf8.encode 0 ++ Utf8.encode 110).toList == [63, 36, 112]) = false := by kernel_rfl
 have qs0 : (Utf8.encode 0).size = 1 := by kernel_rfl
 have qs1 : (Utf8.encode 110).size = 1 := by kernel_rfl
 clear kA1 bA1 kR hWR hR hc x0 x1 x2 x3 x4 x5 x6 hb
 go_enter Tryz.func135, Tryz.ntmps135
 go_wp2
 refine wp_region_grow #[0, 1, 0, 4, 12, 31, 63] 5 [] (fun i => if i = 4 then some R else none) (by kernel_rfl) rfl (by kernel_rfl) (fun i hi => by cases hi) (fun _ _ _ _ _ h => h) ?_
 rintro _ rfl
 rw [<- HWR.out.1]
 simp only [List.take_succ_cons, List.take_zero, List.drop_succ_cons, List.drop_zero, number, Nat.reduceAdd]
 iterate 4 (refine wpGrow_step (fun K hK => ?_); go_simp; refine hK _ _ ?_; clear hK K)
 refine wpGrow_step (fun K hK => ?_)
 go_simp
 refine ⟨fun w' hg => (HC.out w' hg.old).mono (fun e w'' ⟨he, hk⟩ => ⟨_, he, hk ▸ Kept.refl _ _, by rw [HRR.out]⟩), fun v1 u1 hv1 _ => ?_⟩
 rw [HRR.out] at hv1
 subst hv1
 refine hK _ _ ?_; clear hK K
 refine wpGrow_nil ?_
 intro w20 hk20 hω
 have HB2 := Lib.hid (HB.out w20 hk20)
 obtain ⟨z0, z1, z2, z3, z4, z5, z6⟩ := HE.out w20 hk20
 have HK20 := Lib.hid (HWR.out.2.then hk20)
 clear hk20 hω X5 HC HB HE
 go_wp2_with fail
 refine HB2.out.mono ?_
 rintro e w30 ⟨v, rfl, ho, hk, hf⟩
 have HX := Lib.hid (And.intro ho (And.intro (HK20.out.then hk) (fun b hb => Nat.le_trans HK20.out.size (hf b hb))))
 clear ho hk hf
 go_wp2
 go_ret
 exact ⟨v, rfl, HX.out⟩
set_option maxRecDepth 100000 in
set_option maxHeartbeats 8000000 in
theorem sdo_5n (p b off c : Nat) (ad : Option Addr) (nd cd : Nat) (w : World) (hc : w.cell? ⟨b, off, none⟩ = some (.int .i64 5)) : Calls Tryz.prog 81 #[.pointer (some ⟨p, 0, none⟩), .agg #[.int .i64 4, .int .i32 0, .int .u8 110, .int .u8 0, .string ByteArray.empty, .slice (some ⟨b, off, none⟩) 1 c, .slice ad nd cd]] w fun e w' => ∃ v, e = .returned v /\ OwnX 5 w' v (bvals [27, 91, 48, 110]) /\ Kept (fun _ => False) w w' /\ ∀ b, v.ownBlock = some b -> w.heap.size <= b := by
 obtain ⟨A1, hA1⟩ : ∃ X, w.alloc (.cells #[.int .i64 4, .int .i32 0, .int .u8 110, .int .u8 0, .string ByteArray.empty, .slice (some ⟨b, off, none⟩) 1 c, .slice ad nd cd] 143) = X := ⟨_, rfl⟩
 have kA1 : Kept (fun _ => False) w A1 := by rw [<- hA1]; exact (Kept.refl _ _).alloc _
 have bA1 : A1.heap[w.heap.size]? = some (.cells #[.int .i64 4, .int .i32 0, .int .u8 110, .int .u8 0, .string ByteArray.empty, .slice (some ⟨b, off, none⟩) 1 c, .slice ad nd cd] 143 (0, 0)) := by rw [<- hA1]; exact blk_new _ _
 obtain ⟨x0, x1, x2, x3, x4, x5, x6⟩ := blk7c bA1
 have hb : b < w.heap.size := lt_of_cell hc
 have HB := Lib.hid (seq_5n p b off c ad nd cd A1 (Nat.lt_of_lt_of_le hb kA1.size) (kA1.cell hc id))
 have HK := Lib.hid kA1
 clear kA1 bA1 hc hb
 go_enter Tryz.func81, Tryz.ntmps81
 go_wp2_with fail
 refine HB.out.mono ?_
 rintro e w30 ⟨v, rfl, ho, hk, hf⟩
 have HX := Lib.hid (And.intro ho (And.intro (HK.out.then hk) (fun b hb => Nat.le_trans HK.out.size (hf b hb))))
 clear ho hk hf
 go_wp2
 go_ret
 exact ⟨v, rfl, HX.out⟩
end Go.Proofs.YtmplpcmcbliadaaGreatDoor
namespace Go.Proofs.YtmplpcmcbliadaaGreatDoor
open Go.RowKit Go.Sort Pl
attribute [local go_sem] growOp growUpon sameUpon
section
variable {G Gs Ge : Nat -> Prop} {w w' : World} {q : Nat} {c : Cf} {t : Tc} {P P' : SP} {R : List Int}
theorem TmK.sx (h : TmK G w q c t P R Gs Ge) : ScrX Gs w t.s P := h.sc
theorem ScrX.self {G : Nat -> Prop} {w : World} {p : Nat} {P : SP} (h : ScrX G w p P) : G p := by
 obtain ⟨g0, g1, md, pv, st, tb, G0, G1, h⟩ := h
 exact h.sub p (.inr (.inr (.inl rfl)))
theorem TmK.scr0 (h : TmK G w q c t P R Gs Ge) (hk : Kept Gs w w') (hs : ScrX Gs w' t.s P') : TmK G w' q c t P' R Gs Ge :=
 ⟨hk.blk h.tb h.nq.1, hs, h.en.kept hk (fun i hi hS => h.nse i hS hi), h.ro.kept hk (fun b hb hS => (h.nr b hb).1 hS), h.sub, h.nse, h.nq, h.nr, fun i hi => Nat.lt_of_lt_of_le (h.lt i hi) hk.size⟩
theorem TmK.scr (h : TmK G w q c t P R Gs Ge) (hr : ScrR Gs w t.s P' w') : TmK (Gn G w w') w' q c t P' R (Gn Gs w w') Ge := by
 obtain ⟨hs, hk⟩ := hr
 have hz := hk.size
 have hq := h.lt q (h.sub q (.inr (.inr (.inl rfl))))
 refine ⟨hk.blk h.tb h.nq.1, hs, h.en.kept hk (fun i hi hS => h.nse i hS hi), h.ro.kept hk (fun b hb hS => (h.nr b hb).1 hS), fun i hi => ?_, fun i hi he => ?_, ⟨fun hi => ?_, h.nq.2⟩, fun b hb => ⟨fun hi => ?_, (h.nr b hb).2⟩, Gn.lt hz h.lt⟩
 ·rcases hi with (hi | hi) | hi | hi
  ·exact .inl (h.sub i (.inl hi))
  ·exact .inr hi
  ·exact .inl (h.sub i (.inr (.inl hi)))
  ·exact .inl (h.sub i (.inr (.inr hi)))
 ·rcases hi with hi | hi
  ·exact h.nse i hi he
  ·have := h.en.lt i he; omega
 ·rcases hi with hi | hi
  ·exact h.nq.1 hi
  ·omega
 ·rcases hi with hi | hi
  ·exact (h.nr b hb).1 hi
  ·have := h.ro.lt b hb; omega
theorem TmK.wide {G' : Nat -> Prop} (h : TmK G w q c t P R Gs Ge) (hg : ∀ i, G i -> G' i) (hl : ∀ i, G' i -> i < w.heap.size) : TmK G' w q c t P R Gs Ge :=
 ⟨h.tb, h.sc, h.en, h.ro, fun i hi => hg i (h.sub i hi), h.nse, h.nq, h.nr, hl⟩
end
theorem un89 : Tryz.prog.underlying 89 = some (.array 2 2) := by kernel_rfl
theorem un2 : Tryz.prog.underlying 2 = some (.int .i64) := by kernel_rfl
theorem part2a (i : Nat) (x0 x1 : Value) (w : World) (hi : i < 2) : (part 2 #[x0, x1] i).run Tryz.prog w = .ok (#[x0, x1].getD i undef) w := by
 rcases i with _ | _ | i <;> first | omega | kernel_rfl
theorem eqTwo (a0 a1 : Int) (w : World) : (Op.equalIn 10000 89 (.agg #[.int .i64 a0, .int .i64 a1]) (.agg #[.int .i64 a0, .int .i64 a1])).run Tryz.prog w = .ok true w := by
 have h5 : ∀ (n : Nat) (a b : Int) (w : World), (Op.equalIn (n + 1) 2 (.int .i64 a) (.int .i64 b)).run Tryz.prog w = .ok (a == b) w := fun n a b w => run_equalIn_int w n 2 .i64 .i64 a b un2
 rw [show (10000 : Nat) = 9997 + 3 from rfl]
 unfold Op.equalIn
 have hp := part2a
 simp [run_underlying un89, List.range', hp, h5]
set_option maxRecDepth 100000 in
set_option maxHeartbeats 8000000 in
theorem tafter_any (G Gs Ge : Nat -> Prop) (q : Nat) (c : Cf) (t : Tc) (P : SP) (R : List Int) (w : World) (h : TmK G w q c t P R Gs Ge) (hf0 : t.f0 = (P.top : Int) - P.B.length) (hf1 : t.f1 = 0) (ht : P.top <= 90000) (hB : P.B.length <= 70000) :
  Calls Tryz.prog 82 #[.pointer (some ⟨q, 0, none⟩)] w fun e w' => (∃ x, e = .returned x) /\ TmK G w' q c t P R Gs Ge /\ Kept Gs w w' := by
 obtain ⟨g0, g1, md, pv, st, tb, G0, G1, hs⟩ := h.sc
 have HH := Lib.hid (And.intro h hs)
 obtain ⟨-, -, -, -, -, -, x6, -⟩ := h.tb.cells
 have HER := Lib.hid (erased_any t.s (P.sn g0 g1 md pv st) w hs.sn rfl)
 obtain ⟨F0, hF0⟩ : ∃ F, t.f0 = F := ⟨_, rfl⟩
 have HF := Lib.hid (And.intro hf0 (And.intro hf1 (And.intro ht (And.intro hB hF0))))
 clear h hs hf0 hf1
 go_enter Tryz.func82, Tryz.ntmps82
 go_wp2_with fail
 refine HER.out.mono ?_
 rintro e w1 ⟨rfl, hs1, hk1⟩
 have hK1 := HH.out.2.own (c := P.c) (ch := P.ch) hk1 hs1
 have hT1 := HH.out.1.scr0 (hk1.mono fun i _ e => HH.out.2.sub i (.inr (.inr (.inl e)))) ⟨_, _, _, _, _, _, _, _, hK1⟩
 obtain ⟨-, -, -, -, -, -, y6, -⟩ := hT1.tb.cells
 obtain ⟨a1, a2, a3, a4, a5, a6, a7, hg⟩ := hK1.k0
 obtain ⟨b1, b2, b3, b4, b5, b6, hg1⟩ := hK1.k1
 obtain ⟨ra, rc, hrv, -⟩ := hg.ro.shape
 have hrl : a6.length = P.B.length := by have h9 := hg.rl.1; simp at h9; have h8 := hg.ra; omega
 rw [hrl] at hrv
 subst hrv
 have hfi := firsts_any t.s (P.sn g0 g1 md pv st) w1 hK1.sn a2 P.rows P.cols a3 P.top P.most P.B.length ra rc a1 hg.gb hg.rb (by omega) (by omega) b2 P.rows P.cols b3 0 hg1.gb
 rw [<- HF.out.1] at hfi
 have HFI := Lib.hid hfi
 have H1 := Lib.hid (And.intro hK1 (And.intro hT1 hk1))
 clear hs1 hk1 hK1 hT1 hg hg1 hfi hrl x6
 go_wp2
 refine wp_loop_rounds 1 ?_
 rw [rounds_succ]
 go_wp2_with fail
 refine HFI.out.mono ?_
 rintro e w2 ⟨rfl, hk2⟩
 rw [hF0]
 have kA3 : Kept (fun _ => False) w2 (w2.alloc (.cells #[.int .i64 F0, .int .i64 0] 89)) := (Kept.refl _ _).alloc _
 have bA3 : (w2.alloc (.cells #[.int .i64 F0, .int .i64 0] 89)).heap[w2.heap.size]? = some (.cells #[.int .i64 F0, .int .i64 0] 89 (0, 0)) := blk_new _ _
 obtain ⟨D, hD⟩ : ∃ X, X = (w2.alloc (.cells #[.int .i64 F0, .int .i64 0] 89)).drew := ⟨_, rfl⟩
 have kD : Kept (fun _ => False) (w2.alloc (.cells #[.int .i64 F0, .int .i64 0] 89)) D := by rw [hD]; exact (Kept.refl _ _).drew
 have hT2 := H1.out.2.1.kept (hk2.then (kA3.then kD)) (fun _ _ => id)
 obtain ⟨-, -, -, -, -, -, -, -, -, -, -, -, -, z13, z14⟩ := hT2.tb.cells
 rw [hF0] at z13
 rw [HF.out.2.1] at z14
 have Z13 := cell_regrown z13
 have Z14 := cell_regrown z14
 have D0 := cell_regrown (show D.cell? ⟨w2.heap.size, 0, none⟩ = some (.int .i64 F0) from blk_cell (kD.blk bA3 id) 0)
 have D1 := cell_regrown (show D.cell? ⟨w2.heap.size, 1, none⟩ = some (.int .i64 0) from blk_cell (kD.blk bA3 id) 1)
 have H2 := Lib.hid (And.intro hT2 (hk2.then (kA3.then kD)))
 have HWR := Lib.hid hD
 have hE := fun (x : World) => eqTwo F0 0 x
 clear hk2 kA3 bA3 kD hT2 y6 z13 z14 hD
 go_wp2
 refine wp_region_grow #[0, 0, 2, 6, 14, 31] 6 [] (fun i => none) (by kernel_rfl) rfl (by kernel_rfl) (fun i hi => by cases hi) (fun _ _ _ _ _ h => h) ?_
 rintro _ rfl
 rw [<- HWR.out]
 simp only [List.take_succ_cons, List.take_zero, List.drop_succ_cons, List.drop_zero, number, Nat.reduceAdd]
 iterate 6 (refine wpGrow_step (fun K hK => ?_); go_simp; refine hK _ _ ?_; clear hK K)
 refine wpGrow_nil ?_
 intro w20 hk20 hω
 have HX := Lib.hid (And.intro (H2.out.1.kept hk20 (fun _ _ => id)) ((H1.out.2.2.mono fun i _ e => show Gs i by rw [show i = t.s from e]; exact HH.out.1.sx.self).then ((H2.out.2.then hk20).mono fun _ _ h => h.elim)))
 clear hk20 hω Z13 Z14 D0 D1
 go_wp2
 go_end0
 exact ⟨⟨_, rfl⟩, HX.out⟩
end Go.Proofs.YtmplpcmcbliadaaGreatDoor
namespace Go.Proofs.YtmplpcmcbliadaaGreatDoor
open Go.RowKit Go.Sort Pl
def DoR (Gs : Nat -> Prop) (x : World) (s : Nat) (P' : SP) (ys : List Int) (v : Value) (w' : World) : Prop := ∃ a n c, v = .slice a n c /\ (a = none -> n = 0 /\ c = 0) /\ SlAt .u8 w' a n ys /\ ScrR Gs x s P' w'
theorem TmK.reply {G Gs Ge : Nat -> Prop} {w w6 w' : World} {q : Nat} {c : Cf} {t : Tc} {P : SP} {R R' : List Int} (h : TmK G w q c t P R Gs Ge) {rv : Value} (hk : Kept (fun i => t.rep.ownBlock = some i) w w6) (ho : Own .u8 5 w6 rv R') (hpr : rv.ownBlock = t.rep.ownBlock \/ rv.ownBlock = some w.heap.size)
  (hw : w6.setCell ⟨q, 12, none⟩ rv = w') : TmK (Gn G w w') w' q c { t with rep := rv } P R' Gs Ge /\ Kept G w w' := by
 have hk2 : Kept (fun i => i = q) w6 w' := by rw [<- hw]; exact (Kept.refl (fun i => i = q) w6).setCell (p := ⟨q, 12, none⟩) (.inl rfl) _
 have hkk : Kept (fun i => i = q \/ t.rep.ownBlock = some i) w w' := (hk.mono fun i _ h => Or.inr h).then (hk2.mono fun i _ h => Or.inl h)
 have hqw := h.lt q (h.sub q (.inr (.inr (.inl rfl))))
 have z := hkk.size
 have ns : ∀ i, Gs i -> ¬ (i = q \/ t.rep.ownBlock = some i) := fun i hi e => by
  rcases e with e | e
  ·exact h.nq.1 (by rw [<- e]; exact hi)
  ·exact (h.nr i e).1 hi
 have ne : ∀ i, Ge i -> ¬ (i = q \/ t.rep.ownBlock = some i) := fun i hi e => by
  rcases e with e | e
  ·exact h.nq.2 (by rw [<- e]; exact hi)
  ·exact (h.nr i e).2 hi
 have htb : w6.heap[q]? = some (.cells (tmC c t) 91 (0, 0)) := hk.blk h.tb (fun e => h.nrq q e rfl)
 have nrv : ∀ b, rv.ownBlock = some b -> b ≠ q := fun b hb e => by
  obtain ⟨cc, hcc⟩ := own_blk ho hb
  subst e
  exact blk_ty2 hcc htb (by decide)
 refine ⟨⟨by rw [<- hw]; exact blk_set htb 12 rv, ScrX.kept h.sx hkk ns, h.en.kept hkk ne, ho.kept hk2 nrv, fun i hi => ?_, h.nse, h.nq, fun b hb => ?_, Gn.lt z h.lt⟩, hkk.mono fun i _ e => ?_⟩
 ·rcases hi with hi | hi | hi | hi
  ·exact .inl (h.sub i (.inl hi))
  ·exact .inl (h.sub i (.inr (.inl hi)))
  ·exact .inl (h.sub i (.inr (.inr (.inl hi))))
  ·rcases hpr with h2 | h2
   ·exact .inl (h.sub i (.inr (.inr (.inr (by rw [<- h2]; exact hi)))))
   ·have h3 : some i = some w.heap.size := hi.symm.trans h2
    cases h3
    have := ho.lt _ h2
    exact .inr ⟨Nat.le_refl _, Nat.lt_of_lt_of_le this hk2.size⟩
 ·rcases hpr with h2 | h2
  ·exact h.nr b (by rw [<- h2]; exact hb)
  ·have h3 : some b = some w.heap.size := hb.symm.trans h2
   cases h3
   exact ⟨fun hi => by have := h.sub _ (.inl hi); have := h.lt _ this; omega, fun hi => by have := h.en.lt _ hi; omega⟩
 ·rcases e with e | e
  ·rw [e]; exact h.sub q (.inr (.inr (.inl rfl)))
  ·exact h.sub i (.inr (.inr (.inr e)))
set_option maxRecDepth 100000 in
set_option maxHeartbeats 8000000 in
theorem tevent_do (G Gs Ge : Nat -> Prop) (q : Nat) (c : Cf) (t : Tc) (P P' : SP) (R ys : List Int) (w : World) (v : EvV) (h : TmK G w q c t P R Gs Ge) (hkind : v.k = 1 \/ v.k = 4)
  (hdo : ∀ x, Kept (fun _ => False) w x -> Calls Tryz.prog 81 #[.pointer (some ⟨t.s, 0, none⟩), v.val] x fun e w' => ∃ u, e = .returned u /\ DoR Gs x t.s P' ys u w')
  (hl : R.length + ys.length <= 1000000) (hf0 : t.f0 = (P'.top : Int) - P'.B.length) (hf1 : t.f1 = 0) (ht : P'.top <= 90000) (hB : P'.B.length <= 70000) :
  Calls Tryz.prog 41 #[.pointer (some ⟨q, 0, none⟩), v.val] w fun e w' => (∃ x, e = .returned x) /\ (∃ rv Gs', TmK (Gn G w w') w' q c { t with rep := rv } P' (R ++ ys) Gs' Ge) /\ Kept G w w' := by
 obtain ⟨k, r, b, pv, s, ap, np, cp, ad, nd, cd⟩ := v
 simp only at hkind
 unfold EvV.val at hdo ⊢
 simp only at hdo ⊢
 obtain ⟨A1, hA1⟩ : ∃ X, w.alloc (.cells #[.int .i64 k, .int .i32 r, .int .u8 b, .int .u8 pv, .string s, .slice ap np cp, .slice ad nd cd] 143) = X := ⟨_, rfl⟩
 have kA1 : Kept (fun _ => False) w A1 := by rw [<- hA1]; exact (Kept.refl _ _).alloc _
 have bA1 : A1.heap[w.heap.size]? = some (.cells #[.int .i64 k, .int .i32 r, .int .u8 b, .int .u8 pv, .string s, .slice ap np cp, .slice ad nd cd] 143 (0, 0)) := by rw [<- hA1]; exact blk_new _ _
 obtain ⟨x0, -⟩ := blk7c bA1
 obtain ⟨D, hD⟩ : ∃ X, A1.drew = X := ⟨_, rfl⟩
 have kD : Kept (fun _ => False) A1 D := by rw [<- hD]; exact (Kept.refl _ _).drew
 have kwD := kA1.then kD
 obtain ⟨d0, d1, d2, d3, d4, d5, d6⟩ := blk7c (kD.blk bA1 id)
 have hTD := h.kept kwD (fun _ _ => id)
 obtain ⟨ra, rc, hrv, -⟩ := h.ro.shape
 obtain ⟨rn, hrn⟩ : ∃ n, R.length = n := ⟨_, rfl⟩
 rw [hrn] at hrv
 obtain ⟨-, -, -, -, -, -, t6, -, -, -, -, -, t12, -, -⟩ := hTD.tb.cells
 rw [hrv] at t12
 have HD := Lib.hid (hdo D kwD)
 have HE := Lib.hid (kD.blk bA1 id)
 have HT := Lib.hid (And.intro h (And.intro kwD (And.intro hTD (And.intro hrv hrn))))
 have HF := Lib.hid (And.intro hf0 (And.intro hf1 (And.intro ht (And.intro hB hl))))
 obtain ⟨i0, hi, hz0, hz1, hz2⟩ := info_parts Tryz.infoByte
 have HI := Lib.hid (And.intro hi (And.intro hz0 (And.intro hz1 hz2)))
 have k6 : (k == 6) = false := by rcases hkind with e | e <;> (rw [e]; rfl)
 have k7 : (k == 7) = false := by rcases hkind with e | e <;> (rw [e]; rfl)
 have k8 : (k == 8) = false := by rcases hkind with e | e <;> (rw [e]; rfl)
 have k9 : (k == 9) = false := by rcases hkind with e | e <;> (rw [e]; rfl)
 have k10 : (k == 10) = false := by rcases hkind with e | e <;> (rw [e]; rfl)
 have k11 : (k == 11) = false := by rcases hkind with e | e <;> (rw [e]; rfl)
 have k3 : (k == 3) = false := by rcases hkind with e | e <;> (rw [e]; rfl)
 clear h hdo kA1 bA1 kD kwD hTD hf0 hf1 hl hi hz0 hz1 hz2 hkind
 go_enter Tryz.func41, Tryz.ntmps41
 go_wp2
 refine wp_region_held_drew (S := (fun w' => w'.cell? ⟨q, 6, none⟩ = some (.pointer (some ⟨t.s, 0, none⟩)) /\ w'.cell? ⟨w.heap.size, 0, none⟩ = some (.int .i64 k) /\ w'.cell? ⟨w.heap.size, 1, none⟩ = some (.int .i32 r) /\ w'.cell? ⟨w.heap.size, 2, none⟩ = some (.int .u8 b) /\ w'.cell? ⟨w.heap.size, 3, none⟩ = some (.int .u8 pv) /\ w'.cell? ⟨w.heap.size, 4, none⟩ = some (.string s) /\ w'.cell? ⟨w.heap.size, 5, none⟩ = some (.slice ap np cp) /\ w'.cell? ⟨w.heap.size, 6, none⟩ = some (.slice ad nd cd))) (by kernel_rfl) ?_ (fun hHeld => ?_)
 ·(first | (dsimp only; done) | ((try dsimp only); (first | ((go_keep; done)) | (go_split_ands; all_goals go_keep))))
 refine wpAnyH_take (i := 0) (v := ?_) rfl (by kernel_rfl) (by kernel_rfl) (by kernel_rfl) (fun _ _ _ h => h) (Or.inl ⟨by rfl, ?_⟩) (by assumption) ?_
 rotate_left
 ·(intro w hSw; (try dsimp only at hSw); go_simp; (try with_reducible rfl))
 (try simp only [Act.put, List.setIfInBounds_toArray, List.set_cons_zero, List.set_cons_succ, List.getElem_toArray, List.getElem_cons_zero, List.getElem_cons_succ])
 refine wpAnyH_take (i := 1) (v := ?_) rfl (by kernel_rfl) (by kernel_rfl) (by kernel_rfl) (fun _ _ _ h => h) (Or.inl ⟨by rfl, ?_⟩) (by assumption) ?_
 rotate_left
 ·(intro w hSw; (try dsimp only at hSw); go_simp; (try with_reducible rfl))
 (try simp only [Act.put, List.setIfInBounds_toArray, List.set_cons_zero, List.set_cons_succ, List.getElem_toArray, List.getElem_cons_zero, List.getElem_cons_succ])
 refine wpAnyH_take (i := 2) (v := ?_) rfl (by kernel_rfl) (by kernel_rfl) (by kernel_rfl) (fun _ _ _ h => h) (Or.inl ⟨by rfl, ?_⟩) (by assumption) ?_
 rotate_left
 ·(intro w hSw; (try dsimp only at hSw); go_simp; (try with_reducible rfl))
 (try simp only [Act.put, List.setIfInBounds_toArray, List.set_cons_zero, List.set_cons_succ, List.getElem_toArray, List.getElem_cons_zero, List.getElem_cons_succ])
 refine wpAnyH_take (i := 3) (v := ?_) rfl (by kernel_rfl) (by kernel_rfl) (by kernel_rfl) (fun _ _ _ h => h) (Or.inl ⟨by rfl, ?_⟩) (by assumption) ?_
 rotate_left
 ·(intro w hSw; (try dsimp only at hSw); go_simp; (try with_reducible rfl))
 (try simp only [Act.put, List.setIfInBounds_toArray, List.set_cons_zero, List.set_cons_succ, List.getElem_toArray, List.getElem_cons_zero, List.getElem_cons_succ])
 refine wpAnyH_take (i := 5) (v := ?_) rfl (by kernel_rfl) (by kernel_rfl) (by kernel_rfl) (fun _ _ _ h => h) (Or.inl ⟨by rfl, ?_⟩) (by assumption) ?_
 rotate_left
 ·(intro w hSw; (try dsimp only at hSw); go_simp; (try with_reducible rfl))
 (try simp only [Act.put, List.setIfInBounds_toArray, List.set_cons_zero, List.set_cons_succ, List.getElem_toArray, List.getElem_cons_zero, List.getElem_cons_succ])
 refine wpAnyH_take (i := 6) (v := ?_) rfl (by kernel_rfl) (by kernel_rfl) (by kernel_rfl) (fun _ _ _ h => h) (Or.inl ⟨by rfl, ?_⟩) (by assumption) ?_
 rotate_left
 ·(intro w hSw; (try dsimp only at hSw); go_simp; (try with_reducible rfl))
 (try simp only [Act.put, List.setIfInBounds_toArray, List.set_cons_zero, List.set_cons_succ, List.getElem_toArray, List.getElem_cons_zero, List.getElem_cons_succ])
 refine wpAnyH_take (i := 7) (v := ?_) rfl (by kernel_rfl) (by kernel_rfl) (by kernel_rfl) (fun _ _ _ h => h) (Or.inl ⟨by rfl, ?_⟩) (by assumption) ?_
 rotate_left
 ·(intro w hSw; (try dsimp only at hSw); go_simp; (try with_reducible rfl))
 (try simp only [Act.put, List.setIfInBounds_toArray, List.set_cons_zero, List.set_cons_succ, List.getElem_toArray, List.getElem_cons_zero, List.getElem_cons_succ])
 refine wpAnyH_take (i := 8) (v := ?_) rfl (by kernel_rfl) (by kernel_rfl) (by kernel_rfl) (fun _ _ _ h => h) (Or.inl ⟨by rfl, ?_⟩) (by assumption) ?_
 rotate_left
 ·(intro w hSw; (try dsimp only at hSw); go_simp; (try with_reducible rfl))
 (try simp only [Act.put, List.setIfInBounds_toArray, List.set_cons_zero, List.set_cons_succ, List.getElem_toArray, List.getElem_cons_zero, List.getElem_cons_succ])
 refine wpAnyH_take (i := 9) (v := ?_) rfl (by kernel_rfl) (by kernel_rfl) (by kernel_rfl) (fun _ _ _ h => h) (Or.inl ⟨by rfl, ?_⟩) (by assumption) ?_
 rotate_left
 ·(intro w hSw; (try dsimp only at hSw); go_simp; (try with_reducible rfl))
 (try simp only [Act.put, List.setIfInBounds_toArray, List.set_cons_zero, List.set_cons_succ, List.getElem_toArray, List.getElem_cons_zero, List.getElem_cons_succ])
 refine wpAnyH_ready (rs := [4, 10]) (by kernel_rfl) (by simp) ?_
 refine AllReadyH.cons rfl (fun K hK => ?_) (AllReadyH.cons rfl (fun K hK => ?_) AllReadyH.nil)
 ·go_simp
  refine hK.out _ _ ?_ (fun hHeld => ?_)
  ·(first | (dsimp only; done) | ((try dsimp only); (first | ((go_keep; done)) | (go_split_ands; all_goals go_keep))))
  clear hK K
  (try simp only [Act.put, List.setIfInBounds_toArray, List.set_cons_zero, List.set_cons_succ, List.getElem_toArray, List.getElem_cons_zero, List.getElem_cons_succ])
  refine wpAnyH_ready (rs := [10]) (by kernel_rfl) (by simp) ?_
  refine AllReadyH.cons rfl (fun K hK => ?_) AllReadyH.nil
  go_simp
  (go_at_call 81; refine HD.out.mono ?_; rintro e w5 ⟨u, rfl, hdr⟩; obtain ⟨ya, yn, yc, rfl, hyn, hys, hsr⟩ := hdr; have hT5 := HT.out.2.2.1.scr hsr; obtain ⟨-, -, -, -, -, -, s6, -, -, -, -, -, s12, -, -⟩ := hT5.tb.cells; rw [HT.out.2.2.2.1] at s12; obtain ⟨v0, v1, v2, v3, v4, v5, v6'⟩ := blk7c (hsr.2.blk HE.out (fun hi => by have h7 := HT.out.1.lt _ (HT.out.1.sub _ (.inl hi)); omega)); have HE5 := Lib.hid (hsr.2.blk HE.out (fun hi => by have h7 := HT.out.1.lt _ (HT.out.1.sub _ (.inl hi)); omega)); have H5 := Lib.hid (And.intro hyn (And.intro hys (And.intro hsr hT5))); clear hyn hys hsr hT5)
  refine hK.out _ _ ?_ (fun hHeld => ?_)
  ·(first | (dsimp only; done) | ((try dsimp only); (first | ((go_keep; done)) | (go_split_ands; all_goals go_keep))))
  clear hK K
  (try simp only [Act.put, List.setIfInBounds_toArray, List.set_cons_zero, List.set_cons_succ, List.getElem_toArray, List.getElem_cons_zero, List.getElem_cons_succ])
  refine wpAnyH_ready (rs := [11]) (by kernel_rfl) (by simp) ?_
  refine AllReadyH.cons rfl (fun K hK => ?_) AllReadyH.nil
  (refine step_appInts rfl (.tmp 97) (.tmp 103) 22 rfl 5 .u8 i0 (.int .u8 0) 1 Tryz.underlying22 HI.out.1 HI.out.2.1 HI.out.2.2.1 HI.out.2.2.2 rfl (.slice ra rn rc) R rfl (by have h9 := H5.out.2.2.2.ro; rw [HT.out.2.2.2.1] at h9; exact h9) ya yn yc ys rfl H5.out.1 H5.out.2.1 (by have h8 := H5.out.2.1.1; have h9 := HF.out.2.2.2.2; omega) (by have h8 := H5.out.2.1.1; have h9 := HF.out.2.2.2.2; simp only [maxLen]; omega) ?_; intro v6 w6 ho6 hk6 hpr6; obtain ⟨V, hV⟩ : ∃ V, w6.setCell ⟨q, 12, none⟩ v6 = V := ⟨_, rfl⟩; obtain ⟨a6, c6, hv6, -⟩ := ho6.shape; have htr := H5.out.2.2.2.reply (rv := v6) (by rw [HT.out.2.2.2.1]; exact hk6) ho6 (by rw [HT.out.2.2.2.1]; exact hpr6) hV; have htb6 : w6.heap[q]? = some (.cells (tmC c t) 91 (0, 0)) := hk6.blk H5.out.2.2.2.tb (fun e => H5.out.2.2.2.nrq q (by rw [HT.out.2.2.2.1]; exact e) rfl); have u6 : w6.cell? ⟨q, 6, none⟩ = some (.pointer (some ⟨t.s, 0, none⟩)) := blk_cell htb6 6; have e12 := blk_cell htb6 12; have f12 := blk_free htb6 12; obtain ⟨o0, o1, o2, o3, o4, o5, o6⟩ := blk7c (hk6.blk HE5.out (fun hi => by obtain ⟨cc, hcc⟩ := own_blk H5.out.2.2.2.ro (by rw [HT.out.2.2.2.1]; exact hi); exact blk_ty2 hcc HE5.out (by decide))); have hEV : V.heap[w.heap.size]? = some (.cells #[.int .i64 k, .int .i32 r, .int .u8 b, .int .u8 pv, .string s, .slice ap np cp, .slice ad nd cd] 143 (0, 0)) := (by rw [<- hV]; exact blk_set_other (hk6.blk HE5.out (fun hi => by obtain ⟨cc, hcc⟩ := own_blk H5.out.2.2.2.ro (by rw [HT.out.2.2.2.1]; exact hi); exact blk_ty2 hcc HE5.out (by decide))) (fun e => by have e2 : w.heap.size = q := e; have h7 := HT.out.1.lt q (HT.out.1.sub q (.inr (.inr (.inl rfl)))); omega) _); obtain ⟨p0, p1, p2, p3, p4, p5, p6⟩ := blk7c hEV; have pq6 : V.cell? ⟨q, 6, none⟩ = some (.pointer (some ⟨t.s, 0, none⟩)) := blk_cell htr.1.tb 6; have H6 := Lib.hid (And.intro htr hv6); clear hEV ho6 hk6 hpr6 htr htb6; obtain ⟨n6, hn6⟩ : ∃ n, (R ++ ys).length = n := ⟨_, rfl⟩; rw [hn6] at hv6; subst hv6)
  refine hK.out _ _ ?_ (fun hHeld => ?_)
  ·(first | (dsimp only; done) | ((try dsimp only); (first | ((go_keep; done)) | (go_split_ands; all_goals go_keep))))
  clear hK K
  (try simp only [Act.put, List.setIfInBounds_toArray, List.set_cons_zero, List.set_cons_succ, List.getElem_toArray, List.getElem_cons_zero, List.getElem_cons_succ])
  refine wpAnyH_take (i := 12) (v := ?_) rfl (by kernel_rfl) (by kernel_rfl) (by kernel_rfl) (fun _ _ _ h => h) (Or.inl ⟨by rfl, ?_⟩) (by assumption) ?_
  rotate_left
  ·(intro w hSw; (try dsimp only at hSw); go_simp; (try with_reducible rfl))
  (try simp only [Act.put, List.setIfInBounds_toArray, List.set_cons_zero, List.set_cons_succ, List.getElem_toArray, List.getElem_cons_zero, List.getElem_cons_succ])
  refine wpAnyH_take (i := 13) (v := ?_) rfl (by kernel_rfl) (by kernel_rfl) (by kernel_rfl) (fun _ _ _ h => h) (Or.inl ⟨by rfl, ?_⟩) (by assumption) ?_
  rotate_left
  ·(intro w hSw; (try dsimp only at hSw); go_simp; (try with_reducible rfl))
  (try simp only [Act.put, List.setIfInBounds_toArray, List.set_cons_zero, List.set_cons_succ, List.getElem_toArray, List.getElem_cons_zero, List.getElem_cons_succ])
  refine wpAnyH_ready (rs := [14]) (by kernel_rfl) (by simp) ?_
  refine AllReadyH.cons rfl (fun K hK => ?_) AllReadyH.nil
  go_simp
  refine hK.out _ _ ?_ (fun hHeld => ?_)
  ·(first | (dsimp only; done) | ((try dsimp only); (first | ((go_keep; done)) | (go_split_ands; all_goals go_keep))))
  clear hK K
  (try simp only [Act.put, List.setIfInBounds_toArray, List.set_cons_zero, List.set_cons_succ, List.getElem_toArray, List.getElem_cons_zero, List.getElem_cons_succ])
  refine wpAnyH_done (by kernel_rfl) ?_ _
  have HA := Lib.hid (tafter_any _ _ _ q c _ P' (R ++ ys) V H6.out.1.1 HF.out.1 HF.out.2.1 HF.out.2.2.1 HF.out.2.2.2.1)
  go_wp2_with fail
  refine HA.out.mono ?_
  rintro e w30 ⟨⟨x30, rfl⟩, hT30, hk30⟩
  have H30 := Lib.hid (And.intro hT30 hk30)
  clear hT30 hk30
  go_wp2
  go_end0
  obtain ⟨hT30, hk30⟩ := H30.out
  obtain ⟨-, -, hsr, -⟩ := H5.out
  obtain ⟨⟨-, hk56⟩, -⟩ := H6.out
  have z1 := HT.out.2.1.size
  have z2 := hsr.2.size
  have z3 := hk56.size
  have z4 := hk30.size
  refine ⟨⟨_, rfl⟩, ⟨_, _, hT30.wide (fun i hi => ?_) (fun i hi => ?_)⟩, ?_⟩
  ·rcases hi with (hi | hi) | hi
   ·exact .inl hi
   ·exact .inr ⟨by omega, by omega⟩
   ·exact .inr ⟨by omega, by omega⟩
  ·rcases hi with hi | hi
   ·exact Nat.lt_of_lt_of_le (HT.out.1.lt i hi) (by omega)
   ·exact hi.2
  ·have hG : ∀ i, Gs i -> G i := fun i hi => HT.out.1.sub i (.inl hi)
   refine (((HT.out.2.1.mono fun _ _ h => h.elim).then (hsr.2.mono fun i _ h => hG i h)).trans (hk56.mono fun i _ h => ?_)).trans (hk30.mono fun i _ h => ?_)
   ·rcases h with h | h
    ·exact .inl h
    ·exact .inr (by omega)
   ·rcases h with h | h
    ·exact .inl (hG i h)
    ·exact .inr (by omega)
 ·go_simp
  (go_at_call 81; refine HD.out.mono ?_; rintro e w5 ⟨u, rfl, hdr⟩; obtain ⟨ya, yn, yc, rfl, hyn, hys, hsr⟩ := hdr; have hT5 := HT.out.2.2.1.scr hsr; obtain ⟨-, -, -, -, -, -, s6, -, -, -, -, -, s12, -, -⟩ := hT5.tb.cells; rw [HT.out.2.2.2.1] at s12; obtain ⟨v0, v1, v2, v3, v4, v5, v6'⟩ := blk7c (hsr.2.blk HE.out (fun hi => by have h7 := HT.out.1.lt _ (HT.out.1.sub _ (.inl hi)); omega)); have HE5 := Lib.hid (hsr.2.blk HE.out (fun hi => by have h7 := HT.out.1.lt _ (HT.out.1.sub _ (.inl hi)); omega)); have H5 := Lib.hid (And.intro hyn (And.intro hys (And.intro hsr hT5))); clear hyn hys hsr hT5)
  refine hK.out _ _ ?_ (fun hHeld => ?_)
  ·(first | (dsimp only; done) | ((try dsimp only); (first | ((go_keep; done)) | (go_split_ands; all_goals go_keep))))
  clear hK K
  (try simp only [Act.put, List.setIfInBounds_toArray, List.set_cons_zero, List.set_cons_succ, List.getElem_toArray, List.getElem_cons_zero, List.getElem_cons_succ])
  refine wpAnyH_ready (rs := [4]) (by kernel_rfl) (by simp) ?_
  refine AllReadyH.cons rfl (fun K hK => ?_) AllReadyH.nil
  go_simp
  refine hK.out _ _ ?_ (fun hHeld => ?_)
  ·(first | (dsimp only; done) | ((try dsimp only); (first | ((go_keep; done)) | (go_split_ands; all_goals go_keep))))
  clear hK K
  (try simp only [Act.put, List.setIfInBounds_toArray, List.set_cons_zero, List.set_cons_succ, List.getElem_toArray, List.getElem_cons_zero, List.getElem_cons_succ])
  refine wpAnyH_ready (rs := [11]) (by kernel_rfl) (by simp) ?_
  refine AllReadyH.cons rfl (fun K hK => ?_) AllReadyH.nil
  (refine step_appInts rfl (.tmp 97) (.tmp 103) 22 rfl 5 .u8 i0 (.int .u8 0) 1 Tryz.underlying22 HI.out.1 HI.out.2.1 HI.out.2.2.1 HI.out.2.2.2 rfl (.slice ra rn rc) R rfl (by have h9 := H5.out.2.2.2.ro; rw [HT.out.2.2.2.1] at h9; exact h9) ya yn yc ys rfl H5.out.1 H5.out.2.1 (by have h8 := H5.out.2.1.1; have h9 := HF.out.2.2.2.2; omega) (by have h8 := H5.out.2.1.1; have h9 := HF.out.2.2.2.2; simp only [maxLen]; omega) ?_; intro v6 w6 ho6 hk6 hpr6; obtain ⟨V, hV⟩ : ∃ V, w6.setCell ⟨q, 12, none⟩ v6 = V := ⟨_, rfl⟩; obtain ⟨a6, c6, hv6, -⟩ := ho6.shape; have htr := H5.out.2.2.2.reply (rv := v6) (by rw [HT.out.2.2.2.1]; exact hk6) ho6 (by rw [HT.out.2.2.2.1]; exact hpr6) hV; have htb6 : w6.heap[q]? = some (.cells (tmC c t) 91 (0, 0)) := hk6.blk H5.out.2.2.2.tb (fun e => H5.out.2.2.2.nrq q (by rw [HT.out.2.2.2.1]; exact e) rfl); have u6 : w6.cell? ⟨q, 6, none⟩ = some (.pointer (some ⟨t.s, 0, none⟩)) := blk_cell htb6 6; have e12 := blk_cell htb6 12; have f12 := blk_free htb6 12; obtain ⟨o0, o1, o2, o3, o4, o5, o6⟩ := blk7c (hk6.blk HE5.out (fun hi => by obtain ⟨cc, hcc⟩ := own_blk H5.out.2.2.2.ro (by rw [HT.out.2.2.2.1]; exact hi); exact blk_ty2 hcc HE5.out (by decide))); have hEV : V.heap[w.heap.size]? = some (.cells #[.int .i64 k, .int .i32 r, .int .u8 b, .int .u8 pv, .string s, .slice ap np cp, .slice ad nd cd] 143 (0, 0)) := (by rw [<- hV]; exact blk_set_other (hk6.blk HE5.out (fun hi => by obtain ⟨cc, hcc⟩ := own_blk H5.out.2.2.2.ro (by rw [HT.out.2.2.2.1]; exact hi); exact blk_ty2 hcc HE5.out (by decide))) (fun e => by have e2 : w.heap.size = q := e; have h7 := HT.out.1.lt q (HT.out.1.sub q (.inr (.inr (.inl rfl)))); omega) _); obtain ⟨p0, p1, p2, p3, p4, p5, p6⟩ := blk7c hEV; have pq6 : V.cell? ⟨q, 6, none⟩ = some (.pointer (some ⟨t.s, 0, none⟩)) := blk_cell htr.1.tb 6; have H6 := Lib.hid (And.intro htr hv6); clear hEV ho6 hk6 hpr6 htr htb6; obtain ⟨n6, hn6⟩ : ∃ n, (R ++ ys).length = n := ⟨_, rfl⟩; rw [hn6] at hv6; subst hv6)
  refine hK.out _ _ ?_ (fun hHeld => ?_)
  ·(first | (dsimp only; done) | ((try dsimp only); (first | ((go_keep; done)) | (go_split_ands; all_goals go_keep))))
  clear hK K
  (try simp only [Act.put, List.setIfInBounds_toArray, List.set_cons_zero, List.set_cons_succ, List.getElem_toArray, List.getElem_cons_zero, List.getElem_cons_succ])
  refine wpAnyH_take (i := 12) (v := ?_) rfl (by kernel_rfl) (by kernel_rfl) (by kernel_rfl) (fun _ _ _ h => h) (Or.inl ⟨by rfl, ?_⟩) (by assumption) ?_
  rotate_left
  ·(intro w hSw; (try dsimp only at hSw); go_simp; (try with_reducible rfl))
  (try simp only [Act.put, List.setIfInBounds_toArray, List.set_cons_zero, List.set_cons_succ, List.getElem_toArray, List.getElem_cons_zero, List.getElem_cons_succ])
  refine wpAnyH_take (i := 13) (v := ?_) rfl (by kernel_rfl) (by kernel_rfl) (by kernel_rfl) (fun _ _ _ h => h) (Or.inl ⟨by rfl, ?_⟩) (by assumption) ?_
  rotate_left
  ·(intro w hSw; (try dsimp only at hSw); go_simp; (try with_reducible rfl))
  (try simp only [Act.put, List.setIfInBounds_toArray, List.set_cons_zero, List.set_cons_succ, List.getElem_toArray, List.getElem_cons_zero, List.getElem_cons_succ])
  refine wpAnyH_ready (rs := [14]) (by kernel_rfl) (by simp) ?_
  refine AllReadyH.cons rfl (fun K hK => ?_) AllReadyH.nil
  go_simp
  refine hK.out _ _ ?_ (fun hHeld => ?_)
  ·(first | (dsimp only; done) | ((try dsimp only); (first | ((go_keep; done)) | (go_split_ands; all_goals go_keep))))
  clear hK K
  (try simp only [Act.put, List.setIfInBounds_toArray, List.set_cons_zero, List.set_cons_succ, List.getElem_toArray, List.getElem_cons_zero, List.getElem_cons_succ])
  refine wpAnyH_done (by kernel_rfl) ?_ _
  have HA := Lib.hid (tafter_any _ _ _ q c _ P' (R ++ ys) V H6.out.1.1 HF.out.1 HF.out.2.1 HF.out.2.2.1 HF.out.2.2.2.1)
  go_wp2_with fail
  refine HA.out.mono ?_
  rintro e w30 ⟨⟨x30, rfl⟩, hT30, hk30⟩
  have H30 := Lib.hid (And.intro hT30 hk30)
  clear hT30 hk30
  go_wp2
  go_end0
  obtain ⟨hT30, hk30⟩ := H30.out
  obtain ⟨-, -, hsr, -⟩ := H5.out
  obtain ⟨⟨-, hk56⟩, -⟩ := H6.out
  have z1 := HT.out.2.1.size
  have z2 := hsr.2.size
  have z3 := hk56.size
  have z4 := hk30.size
  refine ⟨⟨_, rfl⟩, ⟨_, _, hT30.wide (fun i hi => ?_) (fun i hi => ?_)⟩, ?_⟩
  ·rcases hi with (hi | hi) | hi
   ·exact .inl hi
   ·exact .inr ⟨by omega, by omega⟩
   ·exact .inr ⟨by omega, by omega⟩
  ·rcases hi with hi | hi
   ·exact Nat.lt_of_lt_of_le (HT.out.1.lt i hi) (by omega)
   ·exact hi.2
  ·have hG : ∀ i, Gs i -> G i := fun i hi => HT.out.1.sub i (.inl hi)
   refine (((HT.out.2.1.mono fun _ _ h => h.elim).then (hsr.2.mono fun i _ h => hG i h)).trans (hk56.mono fun i _ h => ?_)).trans (hk30.mono fun i _ h => ?_)
   ·rcases h with h | h
    ·exact .inl h
    ·exact .inr (by omega)
   ·rcases h with h | h
    ·exact .inl (hG i h)
    ·exact .inr (by omega)
theorem width_narrow {r : Int} (h : 33 <= r /\ r <= 126) : widthI r = 1 := by
 have h1 : noneB r = false := by unfold noneB; simp; omega
 have h2 : inL r thinL = false := by unfold inL thinL; simp; omega
 have h3 : inL r wideL = false := by unfold inL wideL; simp; omega
 unfold widthI
 simp [h1, h2, h3]
def pfN (r : Int) (l : List Cl) (col : Nat) : List Cl := l.set col ⟨r, 0, ⟨0, 0, 0⟩⟩
theorem putOk_narrow (cols : Nat) (hc : 1 <= cols /\ cols <= 1000) (r : Int) : PutOk cols ⟨0, 0, 0⟩ r 1 (fun l => Nar l /\ l.length = cols) (fun _ _ => True) (pfN r) := by
 refine ⟨fun x bg c col l ho hl _ hov => ?_, fun x bg c l ho hl => ?_, fun l col hl _ hlen hov => ?_, ?_⟩
 ·obtain ⟨g, cc, hv, hs, hlt, -⟩ := ho.sl (by rw [hl.2]; omega)
  rw [hl.2] at hv hs
  cases hv
  exact putl_any bg 0 cols c col r ⟨0, 0, 0⟩ l x hs hc.2 (by omega) hlt hl.1
 ·obtain ⟨g, cc, hv, hs, hlt, -⟩ := ho.sl (by rw [hl.2]; omega)
  rw [hl.2] at hv hs
  cases hv
  exact resize_any bg 0 cols c l x hs hc.1 hc.2 hlt hl.1
 ·exact ⟨⟨nar_set hl.1 _ rfl, by unfold pfN; rw [List.length_set]; exact hl.2⟩, by unfold pfN; rw [List.length_set]; exact hl.2⟩
 ·exact ⟨fun y hy => by rw [(List.mem_replicate.1 hy).2], by simp⟩
def SP.typed (P : SP) (r : Int) : SP := (P.wrapped r).stand 1 (pfN r)
structure Tx (P : SP) (n : Nat) : Prop where
 ok : SPok P
 s0 : P.c.s0 = 66
 sh : P.c.sh = 0
 a0 : P.c.a = ⟨0, 0, 0⟩
 es : ∃ i, Instr.findNow (.int .i64) (.int .i64 7) P.es 0 = some (some (i, .bool true))
 nar : ∀ l ∈ P.L, Nar l /\ l.length = P.cols
 bt : P.B.length = P.top
 tn : P.top <= n
theorem tx_index {P : SP} {n : Nat} (h : Tx P n) (hn : n < P.most) (hn2 : n <= 60000) : Tx P.index (n + 1) /\ P.index.cols = P.cols /\ P.index.rows = P.rows /\ P.index.most = P.most := by
 have hi := index_ok h.ok (by have := h.tn; omega)
 obtain ⟨o1, o2, o3, o4, o5, o6, o7, o8, o9⟩ := hi
 have hm : P.index.most = P.most := by unfold SP.index; split <;> rfl
 refine ⟨⟨o1, ?_, ?_, by rw [o4]; exact h.a0, by rw [o7]; exact h.es, ?_, ?_, by have := h.tn; omega⟩, o5, o6, hm⟩
 ·unfold SP.index; split <;> exact h.s0
 ·unfold SP.index; split <;> exact h.sh
 ·rw [o5]
  exact index_cls (Cls := fun l => Nar l /\ l.length = P.cols) h.nar ⟨fun y hy => by rw [(List.mem_replicate.1 hy).2], by simp⟩
 ·unfold SP.index
  split
  ·show (pushP P.most P.B _).length = P.top + 1
   unfold pushP
   have h1 := h.bt
   have h2 := h.tn
   rw [if_neg (by omega), if_pos (by omega)]
   simp [h1]
  ·exact h.bt
theorem Tx.le {P : SP} {n m : Nat} (h : Tx P n) (hm : n <= m) : Tx P m := ⟨h.ok, h.s0, h.sh, h.a0, h.es, h.nar, h.bt, Nat.le_trans h.tn hm⟩
theorem tx_wrapped {P : SP} {n : Nat} (h : Tx P n) (r : Int) (hn : n < P.most) (hn2 : n <= 60000) : Tx (P.wrapped r) (n + 1) /\ (P.wrapped r).cols = P.cols /\ (P.wrapped r).rows = P.rows /\ (P.wrapped r).most = P.most := by
 unfold SP.wrapped
 split
 ·have h2 : Tx { P with ch := r, c := { P.c with col := 0, wrap := false } } n := ⟨⟨h.ok.row, by have := h.ok.hc; simp; omega, h.ok.nl, h.ok.top, h.ok.hr, h.ok.hc⟩, h.s0, h.sh, h.a0, h.es, h.nar, h.bt, h.tn⟩
  exact tx_index h2 hn hn2
 ·exact ⟨(show Tx { P with ch := r } n from ⟨⟨h.ok.row, h.ok.col, h.ok.nl, h.ok.top, h.ok.hr, h.ok.hc⟩, h.s0, h.sh, h.a0, h.es, h.nar, h.bt, h.tn⟩).le (by omega), rfl, rfl, rfl⟩
theorem tx_typed {P : SP} {n : Nat} (h : Tx P n) (r : Int) (hn : n < P.most) (hn2 : n <= 60000) : Tx (P.typed r) (n + 1) /\ (P.typed r).cols = P.cols /\ (P.typed r).rows = P.rows /\ (P.typed r).most = P.most := by
 obtain ⟨h1, h2, h3, h4⟩ := tx_wrapped h r hn hn2
 have hrow := h1.ok.row
 have hcol := h1.ok.col
 have hcc := h1.ok.hc
 have hl : ∃ l, (P.wrapped r).L[(P.wrapped r).c.row.toNat]? = some l := ⟨_, List.getElem?_eq_getElem (by rw [h1.ok.nl]; omega)⟩
 obtain ⟨l, hl⟩ := hl
 have hgl : (P.wrapped r).L.getD (P.wrapped r).c.row.toNat [] = l := by rw [List.getD_eq_getElem?_getD, hl]; rfl
 have hnl := h1.nar l (List.mem_of_getElem? hl)
 refine ⟨?_, h2, h3, h4⟩
 unfold SP.typed SP.stand
 rw [hgl]
 have hset : ∀ y ∈ (P.wrapped r).L.set (P.wrapped r).c.row.toNat (pfN r l (P.wrapped r).c.col.toNat), Nar y /\ y.length = (P.wrapped r).cols := list_set_mem h1.nar ⟨nar_set hnl.1 _ rfl, by unfold pfN; rw [List.length_set]; exact hnl.2⟩
 split
 ·exact ⟨⟨hrow, by simp; omega, by simp [h1.ok.nl], h1.ok.top, h1.ok.hr, hcc⟩, h1.s0, h1.sh, h1.a0, h1.es, hset, h1.bt, h1.tn⟩
 ·exact ⟨⟨hrow, by simp; omega, by simp [h1.ok.nl], h1.ok.top, h1.ok.hr, hcc⟩, h1.s0, h1.sh, h1.a0, h1.es, hset, h1.bt, h1.tn⟩
def ev5n : Ev := ⟨4, 0, 110, 0, ByteArray.empty, [5], []⟩
def evT (S : SP × List Int) (e : Ev) : SP × List Int := if e.k = 1 then (S.1.typed e.r, S.2) else (S.1, S.2 ++ [27, 91, 48, 110])
def okE (e : Ev) : Prop := (e.k = 1 /\ 33 <= e.r /\ e.r <= 126) \/ e = ev5n
structure TNow (q s en pp : Nat) (c : Cf) (most N : Nat) (G : Nat -> Prop) (w : World) (S : SP × List Int) (n : Nat) : Prop where
 tm : ∃ rv Gs Ge, TmK G w q c ⟨s, en, pp, .pointer none, .slice none 0 0, false, rv, 0, 0⟩ S.1 S.2 Gs Ge
 tx : Tx S.1 n
 ms : S.1.most = most
 rl : S.2.length <= 4 * n
theorem TNow.kept {q s en pp : Nat} {c : Cf} {most N : Nat} {G K : Nat -> Prop} {w w' : World} {S : SP × List Int} {n : Nat} (h : TNow q s en pp c most N G w S n) (hk : Kept K w w') (hn : ∀ i, G i -> ¬ K i) : TNow q s en pp c most N G w' S n := by
 obtain ⟨rv, Gs, Ge, h1⟩ := h.tm
 exact ⟨⟨rv, Gs, Ge, h1.kept hk hn⟩, h.tx, h.ms, h.rl⟩
set_option maxHeartbeats 4000000 in
theorem tnow_say (q s en pp : Nat) (c : Cf) (most N : Nat) (hN : N <= most /\ N <= 60000) {G : Nat -> Prop} {w : World} {S : SP × List Int} {n : Nat} {v : EvV} {e : Ev} (h : TNow q s en pp c most N G w S n) (hv : EvAt w G v e) (he : okE e) (hn : n < N) :
  Calls Tryz.prog 41 #[.pointer (some ⟨q, 0, none⟩), v.val] w fun r w' => (∃ x, r = .returned x) /\ ∃ G', TNow q s en pp c most N G' w' (evT S e) (n + 1) /\ (∀ i, G' i -> G i \/ w.heap.size <= i) /\ Kept G w w' := by
 obtain ⟨P, R⟩ := S
 obtain ⟨⟨rv, Gs, Ge, hT⟩, htx, hms, hrl⟩ := h
 simp only at hT htx hms hrl
 rcases he with ⟨hk, hr1, hr2⟩ | rfl
 ·have hP' := tx_typed htx e.r (by omega) (by omega)
  have hvr : v.r = e.r := hv.2.1
  have ev : evT (P, R) e = (P.typed e.r, R) := by unfold evT; rw [if_pos hk]
  rw [ev]
  have hwr := tx_wrapped htx e.r (by omega) (by omega)
  refine (tevent_do G Gs Ge q c _ P (P.typed e.r) R [] w v hT (.inl (hv.1.trans hk)) (fun x hkx => ?_) (by simp; omega) (by show (0 : Int) = _; rw [hP'.1.bt]; omega) rfl (by have := hP'.1.tn; omega) (by rw [hP'.1.bt]; have := hP'.1.tn; omega)).mono ?_
  ·refine (sdo_print Gs s (P.typed e.r) x v (hv.1.trans hk) (fun y hky => ?_)).mono ?_
   ·rw [hvr]
    refine sprint_any Gs s P (P.typed e.r) y ((hT.sx.up hkx).up hky) htx.s0 htx.sh e.r ⟨by omega, by omega⟩ (fun z hkz => ?_)
    refine slay_any Gs s P z (((hT.sx.up hkx).up hky).up hkz) htx.ok (by have := htx.tn; omega) e.r 1 (fun l => Nar l /\ l.length = P.cols) (fun _ _ => True) (pfN e.r) ⟨Nat.le_refl _, by omega⟩ (fun a => ?_) htx.es htx.nar (by rw [htx.a0]; exact putOk_narrow P.cols htx.ok.hc e.r) (fun _ _ => trivial) ?_
    ·have h9 := width_any e.r a
     rw [width_narrow ⟨hr1, hr2⟩] at h9
     exact h9
    ·have h9 := hwr.1.ok.col
     rw [hwr.2.1] at h9
     omega
   ·rintro r w' ⟨rfl, hs⟩
    exact ⟨_, rfl, none, 0, 0, rfl, (fun _ => ⟨rfl, rfl⟩), ⟨rfl, .inl rfl⟩, hs⟩
  ·rintro r w' ⟨hr, ⟨rv', Gs', hT'⟩, hkk⟩
   rw [List.append_nil] at hT'
   exact ⟨hr, Gn G w w', ⟨⟨rv', Gs', Ge, hT'⟩, hP'.1, hP'.2.2.2.trans hms, by simp; omega⟩, Gn.new, hkk⟩
 ·have ev : evT (P, R) ev5n = (P, R ++ [27, 91, 48, 110]) := by unfold evT; rw [if_neg (by decide)]
  rw [ev]
  obtain ⟨e1, e2, e3, e4, e5, e6, e7, e8, e9, -, -⟩ := hv
  obtain ⟨vk, vr, vb, vpv, vs, ap, np, cp, ad, nd, cd⟩ := v
  simp only [ev5n] at e1 e2 e3 e4 e5 e6 e7 e8 e9
  subst e1 e2 e3 e4 e5
  obtain ⟨hl6, h6⟩ := e6
  simp at hl6
  subst hl6
  obtain ⟨b, off, rfl, hc⟩ := h6.resolve_left (by omega)
  have hc0 : w.cell? ⟨b, off, none⟩ = some (.int .i64 5) := hc 0 (by omega)
  refine (tevent_do G Gs Ge q c _ P P R [27, 91, 48, 110] w _ hT (.inr rfl) (fun x hkx => ?_) (by simp; omega) (by show (0 : Int) = _; rw [htx.bt]; omega) rfl (by have := htx.tn; omega) (by rw [htx.bt]; have := htx.tn; omega)).mono ?_
  ·refine (sdo_5n s b off cp ad nd cd x (hkx.cell hc0 id)).mono ?_
   rintro r w' ⟨u, rfl, ho, hk, hf⟩
   obtain ⟨a, cap, rfl, hs, -, -, hnil, -⟩ := ho.slAt
   exact ⟨_, rfl, a, _, cap, rfl, hnil, hs, ScrR.pre hk (ScrR.refl ((hT.sx.up hkx).up hk))⟩
  ·rintro r w' ⟨hr, ⟨rv', Gs', hT'⟩, hkk⟩
   exact ⟨hr, Gn G w w', ⟨⟨rv', Gs', Ge, hT'⟩, htx.le (by omega), hms, by simp; omega⟩, Gn.new, hkk⟩
def lisN (q s en pp : Nat) (c : Cf) (most N : Nat) (hN : N <= most /\ N <= 60000) (S0 : SP × List Int) (n0 : Nat) : Lis where
 p := q
 TI := fun G w L => TNow q s en pp c most N G w (L.foldl evT S0) (n0 + L.length)
 A := fun L => (∀ e ∈ L, okE e) /\ n0 + L.length <= N
 ax := fun {L M} h => ⟨fun e he => h.1 e (List.mem_append_left _ he), by have := h.2; rw [List.length_append] at this; omega⟩
 lt := fun {G w L} h => by obtain ⟨rv, Gs, Ge, h1⟩ := h.tm; exact h1.lt
 up := fun {G S w w' L} h hk hn => h.kept hk hn
 say := fun {G w L v e} h hv hA => by
  have h9 := tnow_say q s en pp c most N hN h hv (hA.1 e (by simp)) (by have := hA.2; rw [List.length_append] at this; simp at this; omega)
  rw [List.foldl_append, List.length_append]
  exact h9
end Go.Proofs.YtmplpcmcbliadaaGreatDoor
