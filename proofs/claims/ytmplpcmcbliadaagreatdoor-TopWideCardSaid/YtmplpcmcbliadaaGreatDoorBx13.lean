/- The parser: the last byte of a sequence. -/
import Derived.Test.YtmplpcmcbliadaaGreatDoorBx11
import Derived.Test.YtmplpcmcbliadaaGreatDoorBx9
set_option linter.unusedVariables false
set_option linter.unusedSimpArgs false
namespace Go.Proofs.YtmplpcmcbliadaaGreatDoor
open Go.RowKit Go.Sort Pl
attribute [local go_sem] growOp growUpon sameUpon
theorem sayP (G : Nat -> Prop) (W0 W : World) (p : Nat) (q : Lis) (s : PS) (L : List Ev) (hR : RR G W0 p q s L) (hk : Kept (fun _ => False) W0 W) (k b pv : Int) (S : ByteArray) (a : Option Addr) (n c : Nat) (xs : List Int) (hn : AL q L [⟨k, 0, b, pv, S, xs, []⟩]) (ho : Own .i64 3 W (.slice a n c) xs) (hb : ∀ b, (Value.slice a n c).ownBlock = some b -> W0.heap.size <= b) :
  Calls Tryz.prog 41 #[.pointer (some ⟨q.p, 0, none⟩), .agg #[.int .i64 k, .int .i32 0, .int .u8 b, .int .u8 pv, .string S, .slice a n c, .slice none 0 0]] W fun x w' => (∃ y, x = .returned y) /\ TP G W0 p q s (L ++ [⟨k, 0, b, pv, S, xs, []⟩]) w' := by
 have hlt := ho.lt
 obtain ⟨a', c', he, hs, -, -, hnil, hob⟩ := ho.shape
 cases he
 have hln : xs.length = xs.length := rfl
 refine (sayR G W p q s L (hR.up hk) ⟨k, 0, b, pv, S, a, _, c, none, 0, 0⟩ ⟨k, 0, b, pv, S, xs, []⟩ hn ⟨rfl, rfl, rfl, rfl, rfl, hs, ⟨rfl, .inl rfl⟩, hnil, (fun _ => ⟨rfl, rfl⟩), (fun b off h => ⟨fun hg => ?_, hlt b (hob b off h)⟩), (fun _ _ h => by cases h)⟩).mono ?_
 ·have h1 := hb b (hob b off h)
  have h2 := hR.lt b hg
  omega
 ·rintro r w' ⟨hr, ht⟩
  exact ⟨hr, TP.then (fun _ h => .inl h) (hk.mono fun _ _ h => h.elim) ht⟩
set_option maxRecDepth 100000 in
set_option maxHeartbeats 8000000 in
theorem final_any (G : Nat -> Prop) (W : World) (p : Nat) (q : Lis) (s : PS) (L : List Ev) (c : Int) (hR : RR G W p q s L) (hn : AL q L ((finalS s c).2)) :
  Calls Tryz.prog 236 #[.pointer (some ⟨p, 0, none⟩), .int .u8 c] W fun r w' => (∃ x, r = .returned x) /\ TP G W p q (finalS s c).1 (L ++ (finalS s c).2) w' := by
 have HR := Lib.hid hR
 have hRb := hR
 obtain ⟨d0, vi0, vp0, vd0, vo0, hcb, hgb⟩ := hRb
 obtain ⟨-, -, -, -, -, ⟨c5, c5f⟩, -, -, -, -, -, -⟩ := pcells hcb.pb
 clear hcb hgb
 by_cases h3 : s.st = 3
 ·have g3 : (s.st == 3) = true := by simp [h3]
  cases hwr : s.wr with
  | true =>
   have e : finalS s c = ({ s with st := 7 }, []) := by unfold finalS; simp only [if_pos h3, if_pos hwr]
   rw [e] at hn ⊢
   clear e
   show Calls Tryz.prog 236 _ W fun r w' => (∃ x, r = .returned x) /\ TP G W p q { s with st := 7 } (L ++ []) w'
   obtain ⟨⟨c0, f0⟩, hR1, hk1⟩ := rr_st hR 7 (by omega)
   obtain ⟨V, hV⟩ : ∃ V, W.setCell ⟨p, 0, none⟩ (.int .i64 7) = V := ⟨_, rfl⟩
   rw [hV] at hR1 hk1
   have H1 := Lib.hid (And.intro hR1 hk1)
   have HR1 := Lib.hid hR1
   obtain ⟨d1, vi1, vp1, vd1, vo1, hc1, hg1⟩ := hR1
   obtain ⟨-, -, -, -, -, ⟨w5, w5f⟩, -, -, ⟨w8, w8f⟩, -, -, -⟩ := pcells hc1.pb
   simp only at w5 w8
   clear hc1 hg1 hk1
   rw [hwr] at w5 c5
   clear hR hwr h3
   go_enter Tryz.func236, Tryz.ntmps236
   go_wp2
   exact bodyPost_ret (results_none rfl _ _ _) rfl ⟨⟨_, rfl⟩, by simpa only [List.append_nil] using tp_rr H1.out.1 (fun _ h => .inl h) H1.out.2⟩
  | false =>
   have hwf : ¬ s.wr = true := by rw [hwr]; simp
   obtain ⟨⟨c0, f0⟩, hR1, hk1⟩ := rr_st hR 5 (by omega)
   obtain ⟨V, hV⟩ : ∃ V, W.setCell ⟨p, 0, none⟩ (.int .i64 5) = V := ⟨_, rfl⟩
   rw [hV] at hR1 hk1
   have H1 := Lib.hid (And.intro hR1 hk1)
   have HR1 := Lib.hid hR1
   obtain ⟨d1, vi1, vp1, vd1, vo1, hc1, hg1⟩ := hR1
   obtain ⟨-, -, -, -, -, ⟨w5, w5f⟩, -, -, ⟨w8, w8f⟩, -, -, -⟩ := pcells hc1.pb
   simp only at w5 w8
   clear hc1 hg1 hk1
   rw [hwr] at w5 c5
   cases hso : s.so with
   | true =>
    have e : finalS s c = (nextS { s with st := 5 }, [⟨6, 0, c, s.pv, strOfNums s.it, (nextS { s with st := 5 }).ps, []⟩]) := by unfold finalS; simp only [if_pos h3, if_neg hwf, if_pos hso]
    rw [e] at hn ⊢
    show Calls Tryz.prog 236 _ W fun r w' => (∃ x, r = .returned x) /\ TP G W p q (nextS { s with st := 5 }) (L ++ [⟨6, 0, c, s.pv, strOfNums s.it, (nextS { s with st := 5 }).ps, []⟩]) w'
    rw [hso] at w8
    clear e hR hwr hwf h3 hso
    go_enter Tryz.func236, Tryz.ntmps236
    go_wp2_with fail
    refine (next_any G V p q _ L HR1.out).mono ?_
    rintro r w2 ⟨⟨x, rfl⟩, ht⟩
    obtain ⟨G2, hR2, hs2, hk2⟩ := ht
    have HRc := Lib.hid hR2
    have HG2 := Lib.hid (And.intro hs2 hk2)
    clear hR2 hs2 hk2
    have hRa := HRc.out
    obtain ⟨d, vi, vp, vd, vo, hc, hg⟩ := hRa
    obtain ⟨ia, ic, hie, hsi, -⟩ := hc.hi.shape
    obtain ⟨iN, hin⟩ : ∃ n, s.it.length = n := ⟨_, rfl⟩
    have hie0 : vi = .slice ia iN ic := by rw [hie]; exact congrArg (fun n => Value.slice ia n ic) hin
    have hsi0 : SlAt .u8 w2 ia iN s.it := by rw [<- hin]; exact hsi
    subst hie0
    obtain ⟨pa, pc, hpe, hsp, -, -, hpn, -⟩ := hc.hp.shape
    obtain ⟨PSX, hPSX⟩ : ∃ l, (nextS { s with st := 5 } : PS).ps = l := ⟨_, rfl⟩
    rw [hPSX] at hpe hsp hpn
    obtain ⟨pn, hpn0⟩ : ∃ n, PSX.length = n := ⟨_, rfl⟩
    have hp16 : pn <= 16 := by rw [<- hpn0, <- hPSX]; exact hc.ok.ps
    rw [hpn0] at hpe hsp hpn
    subst hpe
    obtain ⟨WR, hWR⟩ : ∃ E, E = w2.drew := ⟨_, rfl⟩
    have hkR : Kept (fun _ => False) w2 WR := by rw [hWR]; exact (Kept.refl _ _).drew
    obtain ⟨-, -, -, ⟨y3, y3f⟩, ⟨y4, y4f⟩, -, -, ⟨y7, y7f⟩, -, -, -, ⟨y11, y11f⟩⟩ := pcells (hkR.blk hc.pb id)
    obtain ⟨SX, hSX⟩ : ∃ S, strOfNums s.it = S := ⟨_, rfl⟩
    have HCV := Lib.hid (fun (w' : World) (hk : Kept (fun _ => False) WR w') => (show (convert 22 9 (.slice ia iN ic)).run Tryz.prog w' = .ok (.string SX) w' by rw [<- hSX]; exact run_str (P := Tryz.prog) Tryz.underlying22 Tryz.underlying5 Tryz.underlying9 (hsi0.kept (hkR.then hk) (fun _ _ _ _ => id)) (len := iN) (cap := ic)))
    have HCL := Lib.hid (fun (w' : World) (hk : Kept (fun _ => False) WR w') => clonei_any pa pn pc PSX w' (hsp.kept (hkR.then hk) (fun _ _ _ _ => id)) hpn (by omega))
    obtain ⟨RC1, hRC⟩ : ∃ R : Value -> World -> Prop, R = fun v w' => ∃ va vc, v = .slice va pn vc /\ Own .i64 3 w' (.slice va pn vc) PSX /\ ∀ b, (Value.slice va pn vc).ownBlock = some b -> WR.heap.size <= b := ⟨_, rfl⟩
    obtain ⟨RS1, hRS⟩ : ∃ R : Value -> World -> Prop, R = fun v w' => v = .string SX := ⟨_, rfl⟩
    have HRC := Lib.hid hRC
    have HRS := Lib.hid hRS
    have HWR := Lib.hid hWR
    have HXX := Lib.hid (And.intro hkR (And.intro hpn0 (And.intro hPSX (And.intro hSX hkR.size))))
    have X3 := cell_regrown (show WR.cell? ⟨p, 3, none⟩ = some (.int .u8 s.pv) from y3)
    have X4 := cell_regrown y4
    have X7 := cell_regrown y7
    have X11 := cell_regrown y11
    unfold sayV at X11
    clear hRC hRS hWR hkR hc hg hsi hsi0 hie hin hsp hpn hpn0 hPSX hSX hp16
    clear y3 y4 y7 y11 y3f y4f y7f y11f
    go_wp2
    refine wp_region_grow #[0, 1, 3, 7, 0, 0, 32, 96, 224, 0, 512, 1536, 3584, 7680, 0, 16384, 49152, 114688, 245760, 0, 1048560, 2097151] 21 [] (fun i => if i = 13 then some RC1 else if i = 18 then some RS1 else none) (by kernel_rfl) rfl (by kernel_rfl) (fun i hi => by cases hi) (fun _ _ _ _ _ h => h) ?_
    rintro _ rfl
    rw [<- HWR.out]
    simp only [List.take_succ_cons, List.take_zero, List.drop_succ_cons, List.drop_zero, number, Nat.reduceAdd]
    repeat (refine wpGrow_step (fun K hK => ?_); go_simp; refine hK _ _ ?_; clear hK K)
    refine wpGrow_step (fun K hK => ?_)
    go_simp
    refine ⟨fun w' hg => (HCL.out w' hg.old).mono (fun e w'' ⟨v, he, ho, hk, hb⟩ => ⟨_, he, hk, by rw [HRC.out]; obtain ⟨va, vc, rfl, -⟩ := ho.shape; rw [HXX.out.2.1] at ho hb ⊢; exact ⟨va, vc, rfl, ho, fun b h => Nat.le_trans hg.old.size (hb b h)⟩⟩), fun v13 w13 hv13 hg13 => ?_⟩
    rw [HRC.out] at hv13
    obtain ⟨va, vc, rfl, hv13⟩ := hv13
    have HV13 := Lib.hid hv13
    clear hv13
    refine hK _ _ ?_; clear hK K
    repeat (refine wpGrow_step (fun K hK => ?_); go_simp; refine hK _ _ ?_; clear hK K)
    refine wpGrow_step (fun K hK => ?_)
    go_simp
    refine ⟨fun w' hg => (by rw [HCV.out w' hg.old]; exact ⟨Kept.refl _ _, by rw [HRS.out]⟩), fun v18 w18 hv18 _ => ?_⟩
    rw [HRS.out] at hv18
    subst hv18
    refine hK _ _ ?_; clear hK K
    repeat (refine wpGrow_step (fun K hK => ?_); go_simp; refine hK _ _ ?_; clear hK K)
    refine wpGrow_nil ?_
    intro w4 hk4 hω
    have hv4 : Own .i64 3 w4 (.slice va pn vc) PSX := HV13.out.1.kept (show Kept (fun _ => False) w13 w4 from hω 13) (fun _ _ => id)
    have HS := Lib.hid (sayP G2 w2 w4 p q (nextS { s with st := 5 }) L HRc.out (HXX.out.1.then hk4) 6 c s.pv SX va pn vc PSX (by have h : AL q L [⟨6, 0, c, s.pv, strOfNums s.it, (nextS { s with st := 5 }).ps, []⟩] := hn; rw [HXX.out.2.2.1, HXX.out.2.2.2.1] at h; exact h) hv4 (fun b hb => Nat.le_trans HXX.out.2.2.2.2 (HV13.out.2 b hb)))
    clear hω hk4 hv4 X3 X4 X7 X11
    go_wp2_with fail
    refine HS.out.mono ?_
    rintro r w5 ⟨⟨y, rfl⟩, ht5⟩
    have H5 := Lib.hid (TP.then (fun _ h => .inl h) H1.out.2 (TP.then HG2.out.1 HG2.out.2 ht5))
    clear ht5
    go_wp2
    go_end0
    exact ⟨⟨_, rfl⟩, by have h := H5.out; rw [<- HXX.out.2.2.1, <- HXX.out.2.2.2.1] at h; exact h⟩
   | false =>
    have hsf : ¬ s.so = true := by rw [hso]; simp
    have e : finalS s c = ({ s with st := 5 }, [⟨6, 0, c, s.pv, strOfNums s.it, s.ps, []⟩]) := by unfold finalS; simp only [if_pos h3, if_neg hwf, if_neg hsf]
    rw [e] at hn ⊢
    show Calls Tryz.prog 236 _ W fun r w' => (∃ x, r = .returned x) /\ TP G W p q { s with st := 5 } (L ++ [⟨6, 0, c, s.pv, strOfNums s.it, ({ s with st := 5 } : PS).ps, []⟩]) w'
    rw [hso] at w8
    clear e hR hwr hwf h3 hso hsf
    have HRc := HR1
    have hRa := HRc.out
    obtain ⟨d, vi, vp, vd, vo, hc, hg⟩ := hRa
    obtain ⟨ia, ic, hie, hsi, -⟩ := hc.hi.shape
    obtain ⟨iN, hin⟩ : ∃ n, s.it.length = n := ⟨_, rfl⟩
    have hie0 : vi = .slice ia iN ic := by rw [hie]; exact congrArg (fun n => Value.slice ia n ic) hin
    have hsi0 : SlAt .u8 V ia iN s.it := by rw [<- hin]; exact hsi
    subst hie0
    obtain ⟨pa, pc, hpe, hsp, -, -, hpn, -⟩ := hc.hp.shape
    obtain ⟨PSX, hPSX⟩ : ∃ l, ({ s with st := 5 } : PS).ps = l := ⟨_, rfl⟩
    rw [hPSX] at hpe hsp hpn
    obtain ⟨pn, hpn0⟩ : ∃ n, PSX.length = n := ⟨_, rfl⟩
    have hp16 : pn <= 16 := by rw [<- hpn0, <- hPSX]; exact hc.ok.ps
    rw [hpn0] at hpe hsp hpn
    subst hpe
    obtain ⟨WR, hWR⟩ : ∃ E, E = V.drew := ⟨_, rfl⟩
    have hkR : Kept (fun _ => False) V WR := by rw [hWR]; exact (Kept.refl _ _).drew
    obtain ⟨-, -, -, ⟨y3, y3f⟩, ⟨y4, y4f⟩, -, -, ⟨y7, y7f⟩, -, -, -, ⟨y11, y11f⟩⟩ := pcells (hkR.blk hc.pb id)
    obtain ⟨SX, hSX⟩ : ∃ S, strOfNums s.it = S := ⟨_, rfl⟩
    have HCV := Lib.hid (fun (w' : World) (hk : Kept (fun _ => False) WR w') => (show (convert 22 9 (.slice ia iN ic)).run Tryz.prog w' = .ok (.string SX) w' by rw [<- hSX]; exact run_str (P := Tryz.prog) Tryz.underlying22 Tryz.underlying5 Tryz.underlying9 (hsi0.kept (hkR.then hk) (fun _ _ _ _ => id)) (len := iN) (cap := ic)))
    have HCL := Lib.hid (fun (w' : World) (hk : Kept (fun _ => False) WR w') => clonei_any pa pn pc PSX w' (hsp.kept (hkR.then hk) (fun _ _ _ _ => id)) hpn (by omega))
    obtain ⟨RC1, hRC⟩ : ∃ R : Value -> World -> Prop, R = fun v w' => ∃ va vc, v = .slice va pn vc /\ Own .i64 3 w' (.slice va pn vc) PSX /\ ∀ b, (Value.slice va pn vc).ownBlock = some b -> WR.heap.size <= b := ⟨_, rfl⟩
    obtain ⟨RS1, hRS⟩ : ∃ R : Value -> World -> Prop, R = fun v w' => v = .string SX := ⟨_, rfl⟩
    have HRC := Lib.hid hRC
    have HRS := Lib.hid hRS
    have HWR := Lib.hid hWR
    have HXX := Lib.hid (And.intro hkR (And.intro hpn0 (And.intro hPSX (And.intro hSX hkR.size))))
    have X3 := cell_regrown (show WR.cell? ⟨p, 3, none⟩ = some (.int .u8 s.pv) from y3)
    have X4 := cell_regrown y4
    have X7 := cell_regrown y7
    have X11 := cell_regrown y11
    unfold sayV at X11
    clear hRC hRS hWR hkR hc hg hsi hsi0 hie hin hsp hpn hpn0 hPSX hSX hp16
    clear y3 y4 y7 y11 y3f y4f y7f y11f
    go_enter Tryz.func236, Tryz.ntmps236
    go_wp2
    refine wp_region_grow #[0, 1, 3, 7, 0, 0, 32, 96, 224, 0, 512, 1536, 3584, 7680, 0, 16384, 49152, 114688, 245760, 0, 1048560, 2097151] 21 [] (fun i => if i = 13 then some RC1 else if i = 18 then some RS1 else none) (by kernel_rfl) rfl (by kernel_rfl) (fun i hi => by cases hi) (fun _ _ _ _ _ h => h) ?_
    rintro _ rfl
    rw [<- HWR.out]
    simp only [List.take_succ_cons, List.take_zero, List.drop_succ_cons, List.drop_zero, number, Nat.reduceAdd]
    repeat (refine wpGrow_step (fun K hK => ?_); go_simp; refine hK _ _ ?_; clear hK K)
    refine wpGrow_step (fun K hK => ?_)
    go_simp
    refine ⟨fun w' hg => (HCL.out w' hg.old).mono (fun e w'' ⟨v, he, ho, hk, hb⟩ => ⟨_, he, hk, by rw [HRC.out]; obtain ⟨va, vc, rfl, -⟩ := ho.shape; rw [HXX.out.2.1] at ho hb ⊢; exact ⟨va, vc, rfl, ho, fun b h => Nat.le_trans hg.old.size (hb b h)⟩⟩), fun v13 w13 hv13 hg13 => ?_⟩
    rw [HRC.out] at hv13
    obtain ⟨va, vc, rfl, hv13⟩ := hv13
    have HV13 := Lib.hid hv13
    clear hv13
    refine hK _ _ ?_; clear hK K
    repeat (refine wpGrow_step (fun K hK => ?_); go_simp; refine hK _ _ ?_; clear hK K)
    refine wpGrow_step (fun K hK => ?_)
    go_simp
    refine ⟨fun w' hg => (by rw [HCV.out w' hg.old]; exact ⟨Kept.refl _ _, by rw [HRS.out]⟩), fun v18 w18 hv18 _ => ?_⟩
    rw [HRS.out] at hv18
    subst hv18
    refine hK _ _ ?_; clear hK K
    repeat (refine wpGrow_step (fun K hK => ?_); go_simp; refine hK _ _ ?_; clear hK K)
    refine wpGrow_nil ?_
    intro w4 hk4 hω
    have hv4 : Own .i64 3 w4 (.slice va pn vc) PSX := HV13.out.1.kept (show Kept (fun _ => False) w13 w4 from hω 13) (fun _ _ => id)
    have HS := Lib.hid (sayP G V w4 p q ({ s with st := 5 }) L HRc.out (HXX.out.1.then hk4) 6 c s.pv SX va pn vc PSX (by have h : AL q L [⟨6, 0, c, s.pv, strOfNums s.it, ({ s with st := 5 } : PS).ps, []⟩] := hn; rw [HXX.out.2.2.1, HXX.out.2.2.2.1] at h; exact h) hv4 (fun b hb => Nat.le_trans HXX.out.2.2.2.2 (HV13.out.2 b hb)))
    clear hω hk4 hv4 X3 X4 X7 X11
    go_wp2_with fail
    refine HS.out.mono ?_
    rintro r w5 ⟨⟨y, rfl⟩, ht5⟩
    have H5 := Lib.hid (TP.then (fun _ h => .inl h) H1.out.2 ht5)
    clear ht5
    go_wp2
    go_end0
    exact ⟨⟨_, rfl⟩, by have h := H5.out; rw [<- HXX.out.2.2.1, <- HXX.out.2.2.2.1] at h; exact h⟩
 ·have g3 : (s.st == 3) = false := by simp [h3]
  cases hwr : s.wr with
  | true =>
   have e : finalS s c = ({ s with st := 0 }, []) := by unfold finalS; simp only [if_neg h3, if_pos hwr]
   rw [e] at hn ⊢
   clear e
   show Calls Tryz.prog 236 _ W fun r w' => (∃ x, r = .returned x) /\ TP G W p q { s with st := 0 } (L ++ []) w'
   obtain ⟨⟨c0, f0⟩, hR1, hk1⟩ := rr_st hR 0 (by omega)
   obtain ⟨V, hV⟩ : ∃ V, W.setCell ⟨p, 0, none⟩ (.int .i64 0) = V := ⟨_, rfl⟩
   rw [hV] at hR1 hk1
   have H1 := Lib.hid (And.intro hR1 hk1)
   have HR1 := Lib.hid hR1
   obtain ⟨d1, vi1, vp1, vd1, vo1, hc1, hg1⟩ := hR1
   obtain ⟨-, -, -, -, -, ⟨w5, w5f⟩, -, -, ⟨w8, w8f⟩, -, -, -⟩ := pcells hc1.pb
   simp only at w5 w8
   clear hc1 hg1 hk1
   rw [hwr] at w5 c5
   clear hR hwr h3
   go_enter Tryz.func236, Tryz.ntmps236
   go_wp2
   exact bodyPost_ret (results_none rfl _ _ _) rfl ⟨⟨_, rfl⟩, by simpa only [List.append_nil] using tp_rr H1.out.1 (fun _ h => .inl h) H1.out.2⟩
  | false =>
   have hwf : ¬ s.wr = true := by rw [hwr]; simp
   obtain ⟨⟨c0, f0⟩, hR1, hk1⟩ := rr_st hR 0 (by omega)
   obtain ⟨V, hV⟩ : ∃ V, W.setCell ⟨p, 0, none⟩ (.int .i64 0) = V := ⟨_, rfl⟩
   rw [hV] at hR1 hk1
   have H1 := Lib.hid (And.intro hR1 hk1)
   have HR1 := Lib.hid hR1
   obtain ⟨d1, vi1, vp1, vd1, vo1, hc1, hg1⟩ := hR1
   obtain ⟨-, -, -, -, -, ⟨w5, w5f⟩, -, -, ⟨w8, w8f⟩, -, -, -⟩ := pcells hc1.pb
   simp only at w5 w8
   clear hc1 hg1 hk1
   rw [hwr] at w5 c5
   cases hso : s.so with
   | true =>
    have e : finalS s c = (nextS { s with st := 0 }, [⟨4, 0, c, s.pv, strOfNums s.it, (nextS { s with st := 0 }).ps, []⟩]) := by unfold finalS; simp only [if_neg h3, if_neg hwf, if_pos hso]
    rw [e] at hn ⊢
    show Calls Tryz.prog 236 _ W fun r w' => (∃ x, r = .returned x) /\ TP G W p q (nextS { s with st := 0 }) (L ++ [⟨4, 0, c, s.pv, strOfNums s.it, (nextS { s with st := 0 }).ps, []⟩]) w'
    rw [hso] at w8
    clear e hR hwr hwf h3 hso
    go_enter Tryz.func236, Tryz.ntmps236
    go_wp2_with fail
    refine (next_any G V p q _ L HR1.out).mono ?_
    rintro r w2 ⟨⟨x, rfl⟩, ht⟩
    obtain ⟨G2, hR2, hs2, hk2⟩ := ht
    have HRc := Lib.hid hR2
    have HG2 := Lib.hid (And.intro hs2 hk2)
    clear hR2 hs2 hk2
    have hRa := HRc.out
    obtain ⟨d, vi, vp, vd, vo, hc, hg⟩ := hRa
    obtain ⟨ia, ic, hie, hsi, -⟩ := hc.hi.shape
    obtain ⟨iN, hin⟩ : ∃ n, s.it.length = n := ⟨_, rfl⟩
    have hie0 : vi = .slice ia iN ic := by rw [hie]; exact congrArg (fun n => Value.slice ia n ic) hin
    have hsi0 : SlAt .u8 w2 ia iN s.it := by rw [<- hin]; exact hsi
    subst hie0
    obtain ⟨pa, pc, hpe, hsp, -, -, hpn, -⟩ := hc.hp.shape
    obtain ⟨PSX, hPSX⟩ : ∃ l, (nextS { s with st := 0 } : PS).ps = l := ⟨_, rfl⟩
    rw [hPSX] at hpe hsp hpn
    obtain ⟨pn, hpn0⟩ : ∃ n, PSX.length = n := ⟨_, rfl⟩
    have hp16 : pn <= 16 := by rw [<- hpn0, <- hPSX]; exact hc.ok.ps
    rw [hpn0] at hpe hsp hpn
    subst hpe
    obtain ⟨WR, hWR⟩ : ∃ E, E = w2.drew := ⟨_, rfl⟩
    have hkR : Kept (fun _ => False) w2 WR := by rw [hWR]; exact (Kept.refl _ _).drew
    obtain ⟨-, -, -, ⟨y3, y3f⟩, ⟨y4, y4f⟩, -, -, ⟨y7, y7f⟩, -, -, -, ⟨y11, y11f⟩⟩ := pcells (hkR.blk hc.pb id)
    obtain ⟨SX, hSX⟩ : ∃ S, strOfNums s.it = S := ⟨_, rfl⟩
    have HCV := Lib.hid (fun (w' : World) (hk : Kept (fun _ => False) WR w') => (show (convert 22 9 (.slice ia iN ic)).run Tryz.prog w' = .ok (.string SX) w' by rw [<- hSX]; exact run_str (P := Tryz.prog) Tryz.underlying22 Tryz.underlying5 Tryz.underlying9 (hsi0.kept (hkR.then hk) (fun _ _ _ _ => id)) (len := iN) (cap := ic)))
    have HCL := Lib.hid (fun (w' : World) (hk : Kept (fun _ => False) WR w') => clonei_any pa pn pc PSX w' (hsp.kept (hkR.then hk) (fun _ _ _ _ => id)) hpn (by omega))
    obtain ⟨RC1, hRC⟩ : ∃ R : Value -> World -> Prop, R = fun v w' => ∃ va vc, v = .slice va pn vc /\ Own .i64 3 w' (.slice va pn vc) PSX /\ ∀ b, (Value.slice va pn vc).ownBlock = some b -> WR.heap.size <= b := ⟨_, rfl⟩
    obtain ⟨RS1, hRS⟩ : ∃ R : Value -> World -> Prop, R = fun v w' => v = .string SX := ⟨_, rfl⟩
    have HRC := Lib.hid hRC
    have HRS := Lib.hid hRS
    have HWR := Lib.hid hWR
    have HXX := Lib.hid (And.intro hkR (And.intro hpn0 (And.intro hPSX (And.intro hSX hkR.size))))
    have X3 := cell_regrown (show WR.cell? ⟨p, 3, none⟩ = some (.int .u8 s.pv) from y3)
    have X4 := cell_regrown y4
    have X7 := cell_regrown y7
    have X11 := cell_regrown y11
    unfold sayV at X11
    clear hRC hRS hWR hkR hc hg hsi hsi0 hie hin hsp hpn hpn0 hPSX hSX hp16
    clear y3 y4 y7 y11 y3f y4f y7f y11f
    go_wp2
    refine wp_region_grow #[0, 1, 3, 7, 0, 0, 32, 96, 224, 0, 512, 1536, 3584, 7680, 0, 16384, 49152, 114688, 245760, 0, 1048560, 2097151] 21 [] (fun i => if i = 13 then some RC1 else if i = 18 then some RS1 else none) (by kernel_rfl) rfl (by kernel_rfl) (fun i hi => by cases hi) (fun _ _ _ _ _ h => h) ?_
    rintro _ rfl
    rw [<- HWR.out]
    simp only [List.take_succ_cons, List.take_zero, List.drop_succ_cons, List.drop_zero, number, Nat.reduceAdd]
    repeat (refine wpGrow_step (fun K hK => ?_); go_simp; refine hK _ _ ?_; clear hK K)
    refine wpGrow_step (fun K hK => ?_)
    go_simp
    refine ⟨fun w' hg => (HCL.out w' hg.old).mono (fun e w'' ⟨v, he, ho, hk, hb⟩ => ⟨_, he, hk, by rw [HRC.out]; obtain ⟨va, vc, rfl, -⟩ := ho.shape; rw [HXX.out.2.1] at ho hb ⊢; exact ⟨va, vc, rfl, ho, fun b h => Nat.le_trans hg.old.size (hb b h)⟩⟩), fun v13 w13 hv13 hg13 => ?_⟩
    rw [HRC.out] at hv13
    obtain ⟨va, vc, rfl, hv13⟩ := hv13
    have HV13 := Lib.hid hv13
    clear hv13
    refine hK _ _ ?_; clear hK K
    repeat (refine wpGrow_step (fun K hK => ?_); go_simp; refine hK _ _ ?_; clear hK K)
    refine wpGrow_step (fun K hK => ?_)
    go_simp
    refine ⟨fun w' hg => (by rw [HCV.out w' hg.old]; exact ⟨Kept.refl _ _, by rw [HRS.out]⟩), fun v18 w18 hv18 _ => ?_⟩
    rw [HRS.out] at hv18
    subst hv18
    refine hK _ _ ?_; clear hK K
    repeat (refine wpGrow_step (fun K hK => ?_); go_simp; refine hK _ _ ?_; clear hK K)
    refine wpGrow_nil ?_
    intro w4 hk4 hω
    have hv4 : Own .i64 3 w4 (.slice va pn vc) PSX := HV13.out.1.kept (show Kept (fun _ => False) w13 w4 from hω 13) (fun _ _ => id)
    have HS := Lib.hid (sayP G2 w2 w4 p q (nextS { s with st := 0 }) L HRc.out (HXX.out.1.then hk4) 4 c s.pv SX va pn vc PSX (by have h : AL q L [⟨4, 0, c, s.pv, strOfNums s.it, (nextS { s with st := 0 }).ps, []⟩] := hn; rw [HXX.out.2.2.1, HXX.out.2.2.2.1] at h; exact h) hv4 (fun b hb => Nat.le_trans HXX.out.2.2.2.2 (HV13.out.2 b hb)))
    clear hω hk4 hv4 X3 X4 X7 X11
    go_wp2_with fail
    refine HS.out.mono ?_
    rintro r w5 ⟨⟨y, rfl⟩, ht5⟩
    have H5 := Lib.hid (TP.then (fun _ h => .inl h) H1.out.2 (TP.then HG2.out.1 HG2.out.2 ht5))
    clear ht5
    go_wp2
    go_end0
    exact ⟨⟨_, rfl⟩, by have h := H5.out; rw [<- HXX.out.2.2.1, <- HXX.out.2.2.2.1] at h; exact h⟩
   | false =>
    have hsf : ¬ s.so = true := by rw [hso]; simp
    have e : finalS s c = ({ s with st := 0 }, [⟨4, 0, c, s.pv, strOfNums s.it, s.ps, []⟩]) := by unfold finalS; simp only [if_neg h3, if_neg hwf, if_neg hsf]
    rw [e] at hn ⊢
    show Calls Tryz.prog 236 _ W fun r w' => (∃ x, r = .returned x) /\ TP G W p q { s with st := 0 } (L ++ [⟨4, 0, c, s.pv, strOfNums s.it, ({ s with st := 0 } : PS).ps, []⟩]) w'
    rw [hso] at w8
    clear e hR hwr hwf h3 hso hsf
    have HRc := HR1
    have hRa := HRc.out
    obtain ⟨d, vi, vp, vd, vo, hc, hg⟩ := hRa
    obtain ⟨ia, ic, hie, hsi, -⟩ := hc.hi.shape
    obtain ⟨iN, hin⟩ : ∃ n, s.it.length = n := ⟨_, rfl⟩
    have hie0 : vi = .slice ia iN ic := by rw [hie]; exact congrArg (fun n => Value.slice ia n ic) hin
    have hsi0 : SlAt .u8 V ia iN s.it := by rw [<- hin]; exact hsi
    subst hie0
    obtain ⟨pa, pc, hpe, hsp, -, -, hpn, -⟩ := hc.hp.shape
    obtain ⟨PSX, hPSX⟩ : ∃ l, ({ s with st := 0 } : PS).ps = l := ⟨_, rfl⟩
    rw [hPSX] at hpe hsp hpn
    obtain ⟨pn, hpn0⟩ : ∃ n, PSX.length = n := ⟨_, rfl⟩
    have hp16 : pn <= 16 := by rw [<- hpn0, <- hPSX]; exact hc.ok.ps
    rw [hpn0] at hpe hsp hpn
    subst hpe
    obtain ⟨WR, hWR⟩ : ∃ E, E = V.drew := ⟨_, rfl⟩
    have hkR : Kept (fun _ => False) V WR := by rw [hWR]; exact (Kept.refl _ _).drew
    obtain ⟨-, -, -, ⟨y3, y3f⟩, ⟨y4, y4f⟩, -, -, ⟨y7, y7f⟩, -, -, -, ⟨y11, y11f⟩⟩ := pcells (hkR.blk hc.pb id)
    obtain ⟨SX, hSX⟩ : ∃ S, strOfNums s.it = S := ⟨_, rfl⟩
    have HCV := Lib.hid (fun (w' : World) (hk : Kept (fun _ => False) WR w') => (show (convert 22 9 (.slice ia iN ic)).run Tryz.prog w' = .ok (.string SX) w' by rw [<- hSX]; exact run_str (P := Tryz.prog) Tryz.underlying22 Tryz.underlying5 Tryz.underlying9 (hsi0.kept (hkR.then hk) (fun _ _ _ _ => id)) (len := iN) (cap := ic)))
    have HCL := Lib.hid (fun (w' : World) (hk : Kept (fun _ => False) WR w') => clonei_any pa pn pc PSX w' (hsp.kept (hkR.then hk) (fun _ _ _ _ => id)) hpn (by omega))
    obtain ⟨RC1, hRC⟩ : ∃ R : Value -> World -> Prop, R = fun v w' => ∃ va vc, v = .slice va pn vc /\ Own .i64 3 w' (.slice va pn vc) PSX /\ ∀ b, (Value.slice va pn vc).ownBlock = some b -> WR.heap.size <= b := ⟨_, rfl⟩
    obtain ⟨RS1, hRS⟩ : ∃ R : Value -> World -> Prop, R = fun v w' => v = .string SX := ⟨_, rfl⟩
    have HRC := Lib.hid hRC
    have HRS := Lib.hid hRS
    have HWR := Lib.hid hWR
    have HXX := Lib.hid (And.intro hkR (And.intro hpn0 (And.intro hPSX (And.intro hSX hkR.size))))
    have X3 := cell_regrown (show WR.cell? ⟨p, 3, none⟩ = some (.int .u8 s.pv) from y3)
    have X4 := cell_regrown y4
    have X7 := cell_regrown y7
    have X11 := cell_regrown y11
    unfold sayV at X11
    clear hRC hRS hWR hkR hc hg hsi hsi0 hie hin hsp hpn hpn0 hPSX hSX hp16
    clear y3 y4 y7 y11 y3f y4f y7f y11f
    go_enter Tryz.func236, Tryz.ntmps236
    go_wp2
    refine wp_region_grow #[0, 1, 3, 7, 0, 0, 32, 96, 224, 0, 512, 1536, 3584, 7680, 0, 16384, 49152, 114688, 245760, 0, 1048560, 2097151] 21 [] (fun i => if i = 13 then some RC1 else if i = 18 then some RS1 else none) (by kernel_rfl) rfl (by kernel_rfl) (fun i hi => by cases hi) (fun _ _ _ _ _ h => h) ?_
    rintro _ rfl
    rw [<- HWR.out]
    simp only [List.take_succ_cons, List.take_zero, List.drop_succ_cons, List.drop_zero, number, Nat.reduceAdd]
    repeat (refine wpGrow_step (fun K hK => ?_); go_simp; refine hK _ _ ?_; clear hK K)
    refine wpGrow_step (fun K hK => ?_)
    go_simp
    refine ⟨fun w' hg => (HCL.out w' hg.old).mono (fun e w'' ⟨v, he, ho, hk, hb⟩ => ⟨_, he, hk, by rw [HRC.out]; obtain ⟨va, vc, rfl, -⟩ := ho.shape; rw [HXX.out.2.1] at ho hb ⊢; exact ⟨va, vc, rfl, ho, fun b h => Nat.le_trans hg.old.size (hb b h)⟩⟩), fun v13 w13 hv13 hg13 => ?_⟩
    rw [HRC.out] at hv13
    obtain ⟨va, vc, rfl, hv13⟩ := hv13
    have HV13 := Lib.hid hv13
    clear hv13
    refine hK _ _ ?_; clear hK K
    repeat (refine wpGrow_step (fun K hK => ?_); go_simp; refine hK _ _ ?_; clear hK K)
    refine wpGrow_step (fun K hK => ?_)
    go_simp
    refine ⟨fun w' hg => (by rw [HCV.out w' hg.old]; exact ⟨Kept.refl _ _, by rw [HRS.out]⟩), fun v18 w18 hv18 _ => ?_⟩
    rw [HRS.out] at hv18
    subst hv18
    refine hK _ _ ?_; clear hK K
    repeat (refine wpGrow_step (fun K hK => ?_); go_simp; refine hK _ _ ?_; clear hK K)
    refine wpGrow_nil ?_
    intro w4 hk4 hω
    have hv4 : Own .i64 3 w4 (.slice va pn vc) PSX := HV13.out.1.kept (show Kept (fun _ => False) w13 w4 from hω 13) (fun _ _ => id)
    have HS := Lib.hid (sayP G V w4 p q ({ s with st := 0 }) L HRc.out (HXX.out.1.then hk4) 4 c s.pv SX va pn vc PSX (by have h : AL q L [⟨4, 0, c, s.pv, strOfNums s.it, ({ s with st := 0 } : PS).ps, []⟩] := hn; rw [HXX.out.2.2.1, HXX.out.2.2.2.1] at h; exact h) hv4 (fun b hb => Nat.le_trans HXX.out.2.2.2.2 (HV13.out.2 b hb)))
    clear hω hk4 hv4 X3 X4 X7 X11
    go_wp2_with fail
    refine HS.out.mono ?_
    rintro r w5 ⟨⟨y, rfl⟩, ht5⟩
    have H5 := Lib.hid (TP.then (fun _ h => .inl h) H1.out.2 ht5)
    clear ht5
    go_wp2
    go_end0
    exact ⟨⟨_, rfl⟩, by have h := H5.out; rw [<- HXX.out.2.2.1, <- HXX.out.2.2.2.1] at h; exact h⟩
end Go.Proofs.YtmplpcmcbliadaaGreatDoor
