/- The parser: a byte of a sequence. -/
import Derived.Test.YtmplpcmcbliadaaGreatDoorBx13
set_option linter.unusedVariables false
set_option linter.unusedSimpArgs false
namespace Go.Proofs.YtmplpcmcbliadaaGreatDoor
open Go.RowKit Pl
theorem pstep {V : World} {p d : Nat} {vi vp vd f : Value} {s s' : PS} (hb : V.heap[p]? = some (.cells (PC s d vi vp vd f) 139 (0, 0))) (i : Nat) (x : Value) (he : (PC s d vi vp vd f).setIfInBounds i x = PC s' d vi vp vd f) : ∃ V', V.setCell ⟨p, i, none⟩ x = V' /\ V'.heap[p]? = some (.cells (PC s' d vi vp vd f) 139 (0, 0)) /\
  (V'.cell? ⟨p, 0, none⟩ = some (.int .i64 s'.st) /\ V'.frozen? ⟨p, 0, none⟩ = false) /\ (V'.cell? ⟨p, 1, none⟩ = some (.bool s'.ends) /\ V'.frozen? ⟨p, 1, none⟩ = false) /\ V'.cell? ⟨p, 2, none⟩ = some (.pointer (some ⟨d, 0, none⟩)) /\
  (V'.cell? ⟨p, 3, none⟩ = some (.int .u8 s'.pv) /\ V'.frozen? ⟨p, 3, none⟩ = false) /\ (V'.cell? ⟨p, 4, none⟩ = some vi /\ V'.frozen? ⟨p, 4, none⟩ = false) /\ (V'.cell? ⟨p, 5, none⟩ = some (.bool s'.wr) /\ V'.frozen? ⟨p, 5, none⟩ = false) /\
  (V'.cell? ⟨p, 6, none⟩ = some (.bool s'.fi) /\ V'.frozen? ⟨p, 6, none⟩ = false) /\ (V'.cell? ⟨p, 7, none⟩ = some vp /\ V'.frozen? ⟨p, 7, none⟩ = false) /\ (V'.cell? ⟨p, 8, none⟩ = some (.bool s'.so) /\ V'.frozen? ⟨p, 8, none⟩ = false) /\
  (V'.cell? ⟨p, 9, none⟩ = some (.int .i64 s'.la) /\ V'.frozen? ⟨p, 9, none⟩ = false) /\ (V'.cell? ⟨p, 10, none⟩ = some vd /\ V'.frozen? ⟨p, 10, none⟩ = false) /\ (V'.cell? ⟨p, 11, none⟩ = some f /\ V'.frozen? ⟨p, 11, none⟩ = false) :=
 ⟨_, rfl, he ▸ blk_set hb i x, pcells (he ▸ blk_set hb i x)⟩
set_option maxRecDepth 100000 in
set_option maxHeartbeats 8000000 in
theorem head_any (G : Nat -> Prop) (W : World) (p : Nat) (q : Lis) (s : PS) (L : List Ev) (c : Int) (hc0 : 0 <= c) (hc1 : c < 256) (hR : RR G W p q s L) (hn : AL q L ((headS s c).2)) :
  Calls Tryz.prog 169 #[.pointer (some ⟨p, 0, none⟩), .int .u8 c] W fun r w' => (∃ x, r = .returned x) /\ TP G W p q (headS s c).1 (L ++ (headS s c).2) w' := by
 obtain ⟨d, vi, vp, vd, vo, hc, hg⟩ := hR
 obtain ⟨ia, ic, hie, -⟩ := hc.hi.shape
 obtain ⟨iN, hin⟩ : ∃ n, s.it.length = n := ⟨_, rfl⟩
 rw [hin] at hie
 subst hie
 obtain ⟨-, -, -, -, -, -, ⟨c6, c6f⟩, -, -, -, -, -⟩ := pcells hc.pb
 have hla := hc.ok.la
 cases hfi : s.fi with
 | true =>
  rw [hfi] at c6
  cases hct : ctlB c with
  | true =>
   obtain ⟨⟨k1_0, k1_0f⟩, -, -, -, ⟨k1_4, k1_4f⟩, ⟨k1_5, k1_5f⟩, ⟨k1_6, k1_6f⟩, -, ⟨k1_8, k1_8f⟩, ⟨k1_9, k1_9f⟩, -, ⟨k1_11, k1_11f⟩⟩ := pcells hc.pb
   obtain ⟨V1, hV1, hb1, ⟨k2_0, k2_0f⟩, -, -, -, ⟨k2_4, k2_4f⟩, ⟨k2_5, k2_5f⟩, -, -, ⟨k2_8, k2_8f⟩, ⟨k2_9, k2_9f⟩, -, ⟨k2_11, k2_11f⟩⟩ := pstep (s' := { s with fi := true }) hc.pb 6 (.bool true) rfl
   have hkk : Kept (fun i => i = p) W V1 := by rw [<- hV1]; exact (Kept.refl (fun i => i = p) W).setCell (p := ⟨p, 6, none⟩) (.inl rfl) _
   have hcV := hc.upd (s' := { s with fi := true }) hkk hb1 rfl rfl rfl rfl ⟨hc.ok.st, hc.ok.it, hc.ok.ps, hc.ok.la, hc.ok.ds⟩
   have HRV := Lib.hid (show RR G V1 p q { s with fi := true } L from ⟨d, _, vp, vd, vo, hcV, hg⟩)
   have HKV := Lib.hid (show Kept G W V1 from hkk.mono fun i _ h => (hg i).2 (.inl h))
   try simp only at k2_0 k2_4 k2_5 k2_8 k2_9 k2_11
   clear hb1 hkk hcV
   by_cases h2 : s.st = 2
   ·have e : headS s c = ({ s with fi := true }, [evX 2 0 c]) := by unfold headS; simp only [hfi, hct, if_true, if_pos h2]; rfl
    have g2 : (s.st == 2) = true := by simp [h2]
    have HS := Lib.hid (fun (hn : AL q L [evX 2 0 c]) => sayX G V1 p q _ L HRV.out 2 0 c hn)
    unfold sayV at k2_11
    rw [e] at hn ⊢
    clear e h2 hc hg hfi
    show Calls Tryz.prog 169 _ W fun r w' => (∃ x, r = .returned x) /\ TP G W p q ({ s with fi := true }) (L ++ [evX 2 0 c]) w'
    go_enter Tryz.func169, Tryz.ntmps169
    go_wp2_with fail
    refine (ctl_any c W).mono ?_
    rintro r w1 ⟨rfl, rfl⟩
    rw [hct]
    go_wp2_with fail
    refine (ctl_any c _).mono ?_
    rintro r w2 ⟨rfl, rfl⟩
    rw [hct]
    go_wp2_with fail
    refine (HS.out hn).mono ?_
    rintro r w3 ⟨⟨x, rfl⟩, ht⟩
    have HT := Lib.hid (TP.then (fun _ h => .inl h) HKV.out ht)
    clear ht
    go_wp2
    go_end0
    exact ⟨⟨_, rfl⟩, HT.out⟩
   ·have e : headS s c = ({ s with fi := true }, []) := by unfold headS; simp only [hfi, hct, if_true, if_neg h2]; rfl
    have g2 : (s.st == 2) = false := by simp [h2]
    rw [e] at hn ⊢
    clear e h2 hc hg hfi
    show Calls Tryz.prog 169 _ W fun r w' => (∃ x, r = .returned x) /\ TP G W p q ({ s with fi := true }) (L ++ []) w'
    go_enter Tryz.func169, Tryz.ntmps169
    go_wp2_with fail
    refine (ctl_any c W).mono ?_
    rintro r w1 ⟨rfl, rfl⟩
    rw [hct]
    go_wp2_with fail
    refine (ctl_any c _).mono ?_
    rintro r w2 ⟨rfl, rfl⟩
    rw [hct]
    go_wp2
    go_end0
    exact ⟨⟨_, rfl⟩, by simpa only [List.append_nil] using tp_rr HRV.out (fun _ h => .inl h) HKV.out⟩
  | false =>
   by_cases h80 : 128 <= c
   ·have g127 : (c == 127) = false := by simp; omega
    have g80 : decide (128 <= c) = true := decide_eq_true h80
    have e : headS s c = ((backS { s with fi := false } c).1, (backS { s with fi := false } c).2) := by unfold headS; rw [hfi, hct]; simp only [Bool.false_or, Bool.true_and, Bool.false_and, Bool.false_eq_true, if_false, g127, if_pos h80]
    obtain ⟨⟨k1_0, k1_0f⟩, -, -, -, ⟨k1_4, k1_4f⟩, ⟨k1_5, k1_5f⟩, ⟨k1_6, k1_6f⟩, -, ⟨k1_8, k1_8f⟩, ⟨k1_9, k1_9f⟩, -, ⟨k1_11, k1_11f⟩⟩ := pcells hc.pb
    obtain ⟨V1, hV1, hb1, ⟨k2_0, k2_0f⟩, -, -, -, ⟨k2_4, k2_4f⟩, ⟨k2_5, k2_5f⟩, -, -, ⟨k2_8, k2_8f⟩, ⟨k2_9, k2_9f⟩, -, ⟨k2_11, k2_11f⟩⟩ := pstep (s' := { s with fi := false }) hc.pb 6 (.bool false) rfl
    have hkk : Kept (fun i => i = p) W V1 := by rw [<- hV1]; exact (Kept.refl (fun i => i = p) W).setCell (p := ⟨p, 6, none⟩) (.inl rfl) _
    have hcV := hc.upd (s' := { s with fi := false }) hkk hb1 rfl rfl rfl rfl ⟨hc.ok.st, hc.ok.it, hc.ok.ps, hc.ok.la, hc.ok.ds⟩
    have HRV := Lib.hid (show RR G V1 p q { s with fi := false } L from ⟨d, _, vp, vd, vo, hcV, hg⟩)
    have HKV := Lib.hid (show Kept G W V1 from hkk.mono fun i _ h => (hg i).2 (.inl h))
    try simp only at k2_0 k2_4 k2_5 k2_8 k2_9 k2_11
    clear hb1 hkk hcV
    have HB := Lib.hid (fun hn => back_any G V1 p q _ L c hc0 hc1 HRV.out hn)
    rw [e] at hn ⊢
    clear e h80 hc hg hfi
    go_enter Tryz.func169, Tryz.ntmps169
    go_wp2_with fail
    refine (ctl_any c W).mono ?_
    rintro r w1 ⟨rfl, rfl⟩
    rw [hct]
    go_wp2_with fail
    refine (ctl_any c _).mono ?_
    rintro r w2 ⟨rfl, rfl⟩
    rw [hct]
    go_wp2_with fail
    refine (HB.out hn).mono ?_
    rintro r w3 ⟨⟨x, rfl⟩, ht⟩
    have HT := Lib.hid (TP.then (fun _ h => .inl h) HKV.out ht)
    clear ht
    go_wp2
    go_end0
    exact ⟨⟨_, rfl⟩, HT.out⟩
   have g80 : decide (128 <= c) = false := decide_eq_false h80
   by_cases h2f : c <= 47
   ·have g127 : (c == 127) = false := by simp; omega
    have g2f : decide (c <= 47) = true := decide_eq_true h2f
    have e : headS s c = (keepS { s with fi := false } c, []) := by unfold headS; rw [hfi, hct]; simp only [Bool.false_or, Bool.true_and, Bool.false_and, Bool.false_eq_true, if_false, g127, if_neg h80, if_pos h2f]
    obtain ⟨⟨k1_0, k1_0f⟩, -, -, -, ⟨k1_4, k1_4f⟩, ⟨k1_5, k1_5f⟩, ⟨k1_6, k1_6f⟩, -, ⟨k1_8, k1_8f⟩, ⟨k1_9, k1_9f⟩, -, ⟨k1_11, k1_11f⟩⟩ := pcells hc.pb
    obtain ⟨V1, hV1, hb1, ⟨k2_0, k2_0f⟩, -, -, -, ⟨k2_4, k2_4f⟩, ⟨k2_5, k2_5f⟩, -, -, ⟨k2_8, k2_8f⟩, ⟨k2_9, k2_9f⟩, -, ⟨k2_11, k2_11f⟩⟩ := pstep (s' := { s with fi := false }) hc.pb 6 (.bool false) rfl
    have hkk : Kept (fun i => i = p) W V1 := by rw [<- hV1]; exact (Kept.refl (fun i => i = p) W).setCell (p := ⟨p, 6, none⟩) (.inl rfl) _
    have hcV := hc.upd (s' := { s with fi := false }) hkk hb1 rfl rfl rfl rfl ⟨hc.ok.st, hc.ok.it, hc.ok.ps, hc.ok.la, hc.ok.ds⟩
    have HRV := Lib.hid (show RR G V1 p q { s with fi := false } L from ⟨d, _, vp, vd, vo, hcV, hg⟩)
    have HKV := Lib.hid (show Kept G W V1 from hkk.mono fun i _ h => (hg i).2 (.inl h))
    try simp only at k2_0 k2_4 k2_5 k2_8 k2_9 k2_11
    clear hb1 hkk hcV
    have HB := Lib.hid (keep_any G V1 p q _ L c HRV.out)
    rw [e] at hn ⊢
    clear e h80 h2f hc hg hfi
    show Calls Tryz.prog 169 _ W fun r w' => (∃ x, r = .returned x) /\ TP G W p q (keepS { s with fi := false } c) (L ++ []) w'
    go_enter Tryz.func169, Tryz.ntmps169
    go_wp2_with fail
    refine (ctl_any c W).mono ?_
    rintro r w1 ⟨rfl, rfl⟩
    rw [hct]
    go_wp2_with fail
    refine (ctl_any c _).mono ?_
    rintro r w2 ⟨rfl, rfl⟩
    rw [hct]
    go_wp2_with fail
    refine (HB.out).mono ?_
    rintro r w3 ⟨⟨x, rfl⟩, ht⟩
    have HT := Lib.hid (TP.then (fun _ h => .inl h) HKV.out ht)
    clear ht
    go_wp2
    go_end0
    exact ⟨⟨_, rfl⟩, by simpa only [List.append_nil] using HT.out⟩
   have g2f : decide (c <= 47) = false := decide_eq_false h2f
   by_cases h7f : c = 127
   ·have g127 : (c == 127) = true := by simp [h7f]
    have e : headS s c = ({ s with fi := true }, []) := by unfold headS; rw [hfi, hct]; simp only [Bool.false_or, Bool.true_and, Bool.false_and, Bool.false_eq_true, if_false, g127, if_neg h80, if_neg h2f, if_pos h7f]
    obtain ⟨⟨k1_0, k1_0f⟩, -, -, -, ⟨k1_4, k1_4f⟩, ⟨k1_5, k1_5f⟩, ⟨k1_6, k1_6f⟩, -, ⟨k1_8, k1_8f⟩, ⟨k1_9, k1_9f⟩, -, ⟨k1_11, k1_11f⟩⟩ := pcells hc.pb
    obtain ⟨V1, hV1, hb1, ⟨k2_0, k2_0f⟩, -, -, -, ⟨k2_4, k2_4f⟩, ⟨k2_5, k2_5f⟩, -, -, ⟨k2_8, k2_8f⟩, ⟨k2_9, k2_9f⟩, -, ⟨k2_11, k2_11f⟩⟩ := pstep (s' := { s with fi := true }) hc.pb 6 (.bool true) rfl
    have hkk : Kept (fun i => i = p) W V1 := by rw [<- hV1]; exact (Kept.refl (fun i => i = p) W).setCell (p := ⟨p, 6, none⟩) (.inl rfl) _
    have hcV := hc.upd (s' := { s with fi := true }) hkk hb1 rfl rfl rfl rfl ⟨hc.ok.st, hc.ok.it, hc.ok.ps, hc.ok.la, hc.ok.ds⟩
    have HRV := Lib.hid (show RR G V1 p q { s with fi := true } L from ⟨d, _, vp, vd, vo, hcV, hg⟩)
    have HKV := Lib.hid (show Kept G W V1 from hkk.mono fun i _ h => (hg i).2 (.inl h))
    try simp only at k2_0 k2_4 k2_5 k2_8 k2_9 k2_11
    clear hb1 hkk hcV
    rw [e] at hn ⊢
    clear e h80 h2f h7f hc hg hfi
    show Calls Tryz.prog 169 _ W fun r w' => (∃ x, r = .returned x) /\ TP G W p q ({ s with fi := true }) (L ++ []) w'
    go_enter Tryz.func169, Tryz.ntmps169
    go_wp2_with fail
    refine (ctl_any c W).mono ?_
    rintro r w1 ⟨rfl, rfl⟩
    rw [hct]
    go_wp2_with fail
    refine (ctl_any c _).mono ?_
    rintro r w2 ⟨rfl, rfl⟩
    rw [hct]
    go_wp2
    go_end0
    exact ⟨⟨_, rfl⟩, by simpa only [List.append_nil] using tp_rr HRV.out (fun _ h => .inl h) HKV.out⟩
   have g127 : (c == 127) = false := by simp [h7f]
   by_cases h39 : c <= 57
   ·have g39 : decide (c <= 57) = true := decide_eq_true h39
    obtain ⟨S, hS⟩ : ∃ S, 10 * s.la + (c - 48) = S := ⟨_, rfl⟩
    have hS0 : 0 <= S := by omega
    have w1 : IntKind.i64.wrap (10 * s.la) = 10 * s.la := IntWalk.i64_in _ (by omega)
    have w2 : IntKind.u8.wrap (c - 48) = c - 48 := by rw [IntKind.wrap_u8]; omega
    have w3 : IntKind.i64.wrap (c - 48) = c - 48 := IntWalk.i64_in _ (by omega)
    have w4 : IntKind.i64.wrap (10 * s.la + (c - 48)) = S := by rw [hS]; exact IntWalk.i64_in _ (by omega)
    obtain ⟨bl, hbl⟩ : ∃ b, decide (0 < iN) = b := ⟨_, rfl⟩
    have hbl' : decide ((0 : Int) < (iN : Int)) = bl := by rw [<- hbl]; congr 1; simp
    cases hwr : s.wr with
    | true =>
     by_cases hm : S < 65535
     ·have hm2 : ¬ 65535 < S := by omega
      have hmin : min S 65535 = S := Int.min_eq_left (by omega)
      have e : headS s c = ({ s with fi := false, wr := true, so := true, la := S }, []) := by unfold headS; rw [hfi, hct]; simp only [Bool.false_or, Bool.true_and, Bool.false_and, Bool.false_eq_true, if_false, g127, if_neg h80, if_neg h2f, if_neg h7f, if_pos h39, hS, hmin, hwr, hin, hbl, Bool.true_or]
      obtain ⟨⟨k1_0, k1_0f⟩, -, -, -, ⟨k1_4, k1_4f⟩, ⟨k1_5, k1_5f⟩, ⟨k1_6, k1_6f⟩, -, ⟨k1_8, k1_8f⟩, ⟨k1_9, k1_9f⟩, -, ⟨k1_11, k1_11f⟩⟩ := pcells hc.pb
      obtain ⟨V1, hV1, hb1, ⟨k2_0, k2_0f⟩, -, -, -, ⟨k2_4, k2_4f⟩, ⟨k2_5, k2_5f⟩, -, -, ⟨k2_8, k2_8f⟩, ⟨k2_9, k2_9f⟩, -, ⟨k2_11, k2_11f⟩⟩ := pstep (s' := { s with fi := false }) hc.pb 6 (.bool false) rfl
      obtain ⟨V2, hV2, hb2, ⟨k3_0, k3_0f⟩, -, -, -, ⟨k3_4, k3_4f⟩, ⟨k3_5, k3_5f⟩, -, -, ⟨k3_8, k3_8f⟩, ⟨k3_9, k3_9f⟩, -, ⟨k3_11, k3_11f⟩⟩ := pstep (s' := { s with fi := false, wr := true }) hb1 5 (.bool true) rfl
      obtain ⟨V3, hV3, hb3, ⟨k4_0, k4_0f⟩, -, -, -, ⟨k4_4, k4_4f⟩, ⟨k4_5, k4_5f⟩, -, -, ⟨k4_8, k4_8f⟩, ⟨k4_9, k4_9f⟩, -, ⟨k4_11, k4_11f⟩⟩ := pstep (s' := { s with fi := false, wr := true, so := true }) hb2 8 (.bool true) rfl
      obtain ⟨V4, hV4, hb4, ⟨k5_0, k5_0f⟩, -, -, -, ⟨k5_4, k5_4f⟩, ⟨k5_5, k5_5f⟩, -, -, ⟨k5_8, k5_8f⟩, ⟨k5_9, k5_9f⟩, -, ⟨k5_11, k5_11f⟩⟩ := pstep (s' := { s with fi := false, wr := true, so := true, la := S }) hb3 9 (.int .i64 S) rfl
      have hkk : Kept (fun i => i = p) W V4 := by rw [<- hV4, <- hV3, <- hV2, <- hV1]; exact ((((Kept.refl (fun i => i = p) W).setCell (p := ⟨p, 6, none⟩) (.inl rfl) _).setCell (p := ⟨p, 5, none⟩) (.inl rfl) _).setCell (p := ⟨p, 8, none⟩) (.inl rfl) _).setCell (p := ⟨p, 9, none⟩) (.inl rfl) _
      have hcV := hc.upd (s' := { s with fi := false, wr := true, so := true, la := S }) hkk hb4 rfl rfl rfl rfl ⟨hc.ok.st, hc.ok.it, hc.ok.ps, by simp; omega, hc.ok.ds⟩
      have HRV := Lib.hid (show RR G V4 p q { s with fi := false, wr := true, so := true, la := S } L from ⟨d, _, vp, vd, vo, hcV, hg⟩)
      have HKV := Lib.hid (show Kept G W V4 from hkk.mono fun i _ h => (hg i).2 (.inl h))
      try simp only at k2_0 k2_4 k2_5 k2_8 k2_9 k2_11 k3_0 k3_4 k3_5 k3_8 k3_9 k3_11 k4_0 k4_4 k4_5 k4_8 k4_9 k4_11 k5_0 k5_4 k5_5 k5_8 k5_9 k5_11
      clear hb1 hb2 hb3 hb4 hkk hcV
      rw [hwr] at k2_5
      rw [e] at hn ⊢
      clear e h80 h2f h7f h39 hc hg hfi hmin hS0 hin hla hwr hS
      show Calls Tryz.prog 169 _ W fun r w' => (∃ x, r = .returned x) /\ TP G W p q ({ s with fi := false, wr := true, so := true, la := S }) (L ++ []) w'
      go_enter Tryz.func169, Tryz.ntmps169
      go_wp2_with fail
      refine (ctl_any c W).mono ?_
      rintro r w1 ⟨rfl, rfl⟩
      rw [hct]
      go_wp2_with fail
      refine (ctl_any c _).mono ?_
      rintro r w2 ⟨rfl, rfl⟩
      rw [hct]
      go_wp2
      go_end0
      exact ⟨⟨_, rfl⟩, by simpa only [List.append_nil] using tp_rr HRV.out (fun _ h => .inl h) HKV.out⟩
     ·by_cases hm2 : 65535 < S
      ·have hmin : min S 65535 = 65535 := Int.min_eq_right (by omega)
       have e : headS s c = ({ s with fi := false, wr := true, so := true, la := 65535 }, []) := by unfold headS; rw [hfi, hct]; simp only [Bool.false_or, Bool.true_and, Bool.false_and, Bool.false_eq_true, if_false, g127, if_neg h80, if_neg h2f, if_neg h7f, if_pos h39, hS, hmin, hwr, hin, hbl, Bool.true_or]
       obtain ⟨⟨k1_0, k1_0f⟩, -, -, -, ⟨k1_4, k1_4f⟩, ⟨k1_5, k1_5f⟩, ⟨k1_6, k1_6f⟩, -, ⟨k1_8, k1_8f⟩, ⟨k1_9, k1_9f⟩, -, ⟨k1_11, k1_11f⟩⟩ := pcells hc.pb
       obtain ⟨V1, hV1, hb1, ⟨k2_0, k2_0f⟩, -, -, -, ⟨k2_4, k2_4f⟩, ⟨k2_5, k2_5f⟩, -, -, ⟨k2_8, k2_8f⟩, ⟨k2_9, k2_9f⟩, -, ⟨k2_11, k2_11f⟩⟩ := pstep (s' := { s with fi := false }) hc.pb 6 (.bool false) rfl
       obtain ⟨V2, hV2, hb2, ⟨k3_0, k3_0f⟩, -, -, -, ⟨k3_4, k3_4f⟩, ⟨k3_5, k3_5f⟩, -, -, ⟨k3_8, k3_8f⟩, ⟨k3_9, k3_9f⟩, -, ⟨k3_11, k3_11f⟩⟩ := pstep (s' := { s with fi := false, wr := true }) hb1 5 (.bool true) rfl
       obtain ⟨V3, hV3, hb3, ⟨k4_0, k4_0f⟩, -, -, -, ⟨k4_4, k4_4f⟩, ⟨k4_5, k4_5f⟩, -, -, ⟨k4_8, k4_8f⟩, ⟨k4_9, k4_9f⟩, -, ⟨k4_11, k4_11f⟩⟩ := pstep (s' := { s with fi := false, wr := true, so := true }) hb2 8 (.bool true) rfl
       obtain ⟨V4, hV4, hb4, ⟨k5_0, k5_0f⟩, -, -, -, ⟨k5_4, k5_4f⟩, ⟨k5_5, k5_5f⟩, -, -, ⟨k5_8, k5_8f⟩, ⟨k5_9, k5_9f⟩, -, ⟨k5_11, k5_11f⟩⟩ := pstep (s' := { s with fi := false, wr := true, so := true, la := 65535 }) hb3 9 (.int .i64 65535) rfl
       have hkk : Kept (fun i => i = p) W V4 := by rw [<- hV4, <- hV3, <- hV2, <- hV1]; exact ((((Kept.refl (fun i => i = p) W).setCell (p := ⟨p, 6, none⟩) (.inl rfl) _).setCell (p := ⟨p, 5, none⟩) (.inl rfl) _).setCell (p := ⟨p, 8, none⟩) (.inl rfl) _).setCell (p := ⟨p, 9, none⟩) (.inl rfl) _
       have hcV := hc.upd (s' := { s with fi := false, wr := true, so := true, la := 65535 }) hkk hb4 rfl rfl rfl rfl ⟨hc.ok.st, hc.ok.it, hc.ok.ps, by simp, hc.ok.ds⟩
       have HRV := Lib.hid (show RR G V4 p q { s with fi := false, wr := true, so := true, la := 65535 } L from ⟨d, _, vp, vd, vo, hcV, hg⟩)
       have HKV := Lib.hid (show Kept G W V4 from hkk.mono fun i _ h => (hg i).2 (.inl h))
       try simp only at k2_0 k2_4 k2_5 k2_8 k2_9 k2_11 k3_0 k3_4 k3_5 k3_8 k3_9 k3_11 k4_0 k4_4 k4_5 k4_8 k4_9 k4_11 k5_0 k5_4 k5_5 k5_8 k5_9 k5_11
       clear hb1 hb2 hb3 hb4 hkk hcV
       rw [hwr] at k2_5
       rw [e] at hn ⊢
       clear e h80 h2f h7f h39 hc hg hfi hmin hS0 hin hla hwr hS
       show Calls Tryz.prog 169 _ W fun r w' => (∃ x, r = .returned x) /\ TP G W p q ({ s with fi := false, wr := true, so := true, la := 65535 }) (L ++ []) w'
       go_enter Tryz.func169, Tryz.ntmps169
       go_wp2_with fail
       refine (ctl_any c W).mono ?_
       rintro r w1 ⟨rfl, rfl⟩
       rw [hct]
       go_wp2_with fail
       refine (ctl_any c _).mono ?_
       rintro r w2 ⟨rfl, rfl⟩
       rw [hct]
       go_wp2
       go_end0
       exact ⟨⟨_, rfl⟩, by simpa only [List.append_nil] using tp_rr HRV.out (fun _ h => .inl h) HKV.out⟩
      ·obtain rfl : S = 65535 := by omega
       have hmin : min (65535 : Int) 65535 = 65535 := by decide
       have e : headS s c = ({ s with fi := false, wr := true, so := true, la := 65535 }, []) := by unfold headS; rw [hfi, hct]; simp only [Bool.false_or, Bool.true_and, Bool.false_and, Bool.false_eq_true, if_false, g127, if_neg h80, if_neg h2f, if_neg h7f, if_pos h39, hS, hmin, hwr, hin, hbl, Bool.true_or]
       obtain ⟨⟨k1_0, k1_0f⟩, -, -, -, ⟨k1_4, k1_4f⟩, ⟨k1_5, k1_5f⟩, ⟨k1_6, k1_6f⟩, -, ⟨k1_8, k1_8f⟩, ⟨k1_9, k1_9f⟩, -, ⟨k1_11, k1_11f⟩⟩ := pcells hc.pb
       obtain ⟨V1, hV1, hb1, ⟨k2_0, k2_0f⟩, -, -, -, ⟨k2_4, k2_4f⟩, ⟨k2_5, k2_5f⟩, -, -, ⟨k2_8, k2_8f⟩, ⟨k2_9, k2_9f⟩, -, ⟨k2_11, k2_11f⟩⟩ := pstep (s' := { s with fi := false }) hc.pb 6 (.bool false) rfl
       obtain ⟨V2, hV2, hb2, ⟨k3_0, k3_0f⟩, -, -, -, ⟨k3_4, k3_4f⟩, ⟨k3_5, k3_5f⟩, -, -, ⟨k3_8, k3_8f⟩, ⟨k3_9, k3_9f⟩, -, ⟨k3_11, k3_11f⟩⟩ := pstep (s' := { s with fi := false, wr := true }) hb1 5 (.bool true) rfl
       obtain ⟨V3, hV3, hb3, ⟨k4_0, k4_0f⟩, -, -, -, ⟨k4_4, k4_4f⟩, ⟨k4_5, k4_5f⟩, -, -, ⟨k4_8, k4_8f⟩, ⟨k4_9, k4_9f⟩, -, ⟨k4_11, k4_11f⟩⟩ := pstep (s' := { s with fi := false, wr := true, so := true }) hb2 8 (.bool true) rfl
       obtain ⟨V4, hV4, hb4, ⟨k5_0, k5_0f⟩, -, -, -, ⟨k5_4, k5_4f⟩, ⟨k5_5, k5_5f⟩, -, -, ⟨k5_8, k5_8f⟩, ⟨k5_9, k5_9f⟩, -, ⟨k5_11, k5_11f⟩⟩ := pstep (s' := { s with fi := false, wr := true, so := true, la := 65535 }) hb3 9 (.int .i64 65535) rfl
       have hkk : Kept (fun i => i = p) W V4 := by rw [<- hV4, <- hV3, <- hV2, <- hV1]; exact ((((Kept.refl (fun i => i = p) W).setCell (p := ⟨p, 6, none⟩) (.inl rfl) _).setCell (p := ⟨p, 5, none⟩) (.inl rfl) _).setCell (p := ⟨p, 8, none⟩) (.inl rfl) _).setCell (p := ⟨p, 9, none⟩) (.inl rfl) _
       have hcV := hc.upd (s' := { s with fi := false, wr := true, so := true, la := 65535 }) hkk hb4 rfl rfl rfl rfl ⟨hc.ok.st, hc.ok.it, hc.ok.ps, by simp, hc.ok.ds⟩
       have HRV := Lib.hid (show RR G V4 p q { s with fi := false, wr := true, so := true, la := 65535 } L from ⟨d, _, vp, vd, vo, hcV, hg⟩)
       have HKV := Lib.hid (show Kept G W V4 from hkk.mono fun i _ h => (hg i).2 (.inl h))
       try simp only at k2_0 k2_4 k2_5 k2_8 k2_9 k2_11 k3_0 k3_4 k3_5 k3_8 k3_9 k3_11 k4_0 k4_4 k4_5 k4_8 k4_9 k4_11 k5_0 k5_4 k5_5 k5_8 k5_9 k5_11
       clear hb1 hb2 hb3 hb4 hkk hcV
       rw [hwr] at k2_5
       rw [e] at hn ⊢
       clear e h80 h2f h7f h39 hc hg hfi hmin hS0 hin hla hwr hS
       show Calls Tryz.prog 169 _ W fun r w' => (∃ x, r = .returned x) /\ TP G W p q ({ s with fi := false, wr := true, so := true, la := 65535 }) (L ++ []) w'
       go_enter Tryz.func169, Tryz.ntmps169
       go_wp2_with fail
       refine (ctl_any c W).mono ?_
       rintro r w1 ⟨rfl, rfl⟩
       rw [hct]
       go_wp2_with fail
       refine (ctl_any c _).mono ?_
       rintro r w2 ⟨rfl, rfl⟩
       rw [hct]
       go_wp2
       go_end0
       exact ⟨⟨_, rfl⟩, by simpa only [List.append_nil] using tp_rr HRV.out (fun _ h => .inl h) HKV.out⟩
    | false =>
     by_cases hm : S < 65535
     ·have hm2 : ¬ 65535 < S := by omega
      have hmin : min S 65535 = S := Int.min_eq_left (by omega)
      have e : headS s c = ({ s with fi := false, wr := bl, so := true, la := S }, []) := by unfold headS; rw [hfi, hct]; simp only [Bool.false_or, Bool.true_and, Bool.false_and, Bool.false_eq_true, if_false, g127, if_neg h80, if_neg h2f, if_neg h7f, if_pos h39, hS, hmin, hwr, hin, hbl, Bool.false_or]
      obtain ⟨⟨k1_0, k1_0f⟩, -, -, -, ⟨k1_4, k1_4f⟩, ⟨k1_5, k1_5f⟩, ⟨k1_6, k1_6f⟩, -, ⟨k1_8, k1_8f⟩, ⟨k1_9, k1_9f⟩, -, ⟨k1_11, k1_11f⟩⟩ := pcells hc.pb
      obtain ⟨V1, hV1, hb1, ⟨k2_0, k2_0f⟩, -, -, -, ⟨k2_4, k2_4f⟩, ⟨k2_5, k2_5f⟩, -, -, ⟨k2_8, k2_8f⟩, ⟨k2_9, k2_9f⟩, -, ⟨k2_11, k2_11f⟩⟩ := pstep (s' := { s with fi := false }) hc.pb 6 (.bool false) rfl
      obtain ⟨V2, hV2, hb2, ⟨k3_0, k3_0f⟩, -, -, -, ⟨k3_4, k3_4f⟩, ⟨k3_5, k3_5f⟩, -, -, ⟨k3_8, k3_8f⟩, ⟨k3_9, k3_9f⟩, -, ⟨k3_11, k3_11f⟩⟩ := pstep (s' := { s with fi := false, wr := bl }) hb1 5 (.bool bl) rfl
      obtain ⟨V3, hV3, hb3, ⟨k4_0, k4_0f⟩, -, -, -, ⟨k4_4, k4_4f⟩, ⟨k4_5, k4_5f⟩, -, -, ⟨k4_8, k4_8f⟩, ⟨k4_9, k4_9f⟩, -, ⟨k4_11, k4_11f⟩⟩ := pstep (s' := { s with fi := false, wr := bl, so := true }) hb2 8 (.bool true) rfl
      obtain ⟨V4, hV4, hb4, ⟨k5_0, k5_0f⟩, -, -, -, ⟨k5_4, k5_4f⟩, ⟨k5_5, k5_5f⟩, -, -, ⟨k5_8, k5_8f⟩, ⟨k5_9, k5_9f⟩, -, ⟨k5_11, k5_11f⟩⟩ := pstep (s' := { s with fi := false, wr := bl, so := true, la := S }) hb3 9 (.int .i64 S) rfl
      have hkk : Kept (fun i => i = p) W V4 := by rw [<- hV4, <- hV3, <- hV2, <- hV1]; exact ((((Kept.refl (fun i => i = p) W).setCell (p := ⟨p, 6, none⟩) (.inl rfl) _).setCell (p := ⟨p, 5, none⟩) (.inl rfl) _).setCell (p := ⟨p, 8, none⟩) (.inl rfl) _).setCell (p := ⟨p, 9, none⟩) (.inl rfl) _
      have hcV := hc.upd (s' := { s with fi := false, wr := bl, so := true, la := S }) hkk hb4 rfl rfl rfl rfl ⟨hc.ok.st, hc.ok.it, hc.ok.ps, by simp; omega, hc.ok.ds⟩
      have HRV := Lib.hid (show RR G V4 p q { s with fi := false, wr := bl, so := true, la := S } L from ⟨d, _, vp, vd, vo, hcV, hg⟩)
      have HKV := Lib.hid (show Kept G W V4 from hkk.mono fun i _ h => (hg i).2 (.inl h))
      try simp only at k2_0 k2_4 k2_5 k2_8 k2_9 k2_11 k3_0 k3_4 k3_5 k3_8 k3_9 k3_11 k4_0 k4_4 k4_5 k4_8 k4_9 k4_11 k5_0 k5_4 k5_5 k5_8 k5_9 k5_11
      clear hb1 hb2 hb3 hb4 hkk hcV
      rw [hwr] at k2_5
      rw [e] at hn ⊢
      clear e h80 h2f h7f h39 hc hg hfi hmin hS0 hin hla hwr hS
      show Calls Tryz.prog 169 _ W fun r w' => (∃ x, r = .returned x) /\ TP G W p q ({ s with fi := false, wr := bl, so := true, la := S }) (L ++ []) w'
      go_enter Tryz.func169, Tryz.ntmps169
      go_wp2_with fail
      refine (ctl_any c W).mono ?_
      rintro r w1 ⟨rfl, rfl⟩
      rw [hct]
      go_wp2_with fail
      refine (ctl_any c _).mono ?_
      rintro r w2 ⟨rfl, rfl⟩
      rw [hct]
      go_wp2
      go_end0
      exact ⟨⟨_, rfl⟩, by simpa only [List.append_nil] using tp_rr HRV.out (fun _ h => .inl h) HKV.out⟩
     ·by_cases hm2 : 65535 < S
      ·have hmin : min S 65535 = 65535 := Int.min_eq_right (by omega)
       have e : headS s c = ({ s with fi := false, wr := bl, so := true, la := 65535 }, []) := by unfold headS; rw [hfi, hct]; simp only [Bool.false_or, Bool.true_and, Bool.false_and, Bool.false_eq_true, if_false, g127, if_neg h80, if_neg h2f, if_neg h7f, if_pos h39, hS, hmin, hwr, hin, hbl, Bool.false_or]
       obtain ⟨⟨k1_0, k1_0f⟩, -, -, -, ⟨k1_4, k1_4f⟩, ⟨k1_5, k1_5f⟩, ⟨k1_6, k1_6f⟩, -, ⟨k1_8, k1_8f⟩, ⟨k1_9, k1_9f⟩, -, ⟨k1_11, k1_11f⟩⟩ := pcells hc.pb
       obtain ⟨V1, hV1, hb1, ⟨k2_0, k2_0f⟩, -, -, -, ⟨k2_4, k2_4f⟩, ⟨k2_5, k2_5f⟩, -, -, ⟨k2_8, k2_8f⟩, ⟨k2_9, k2_9f⟩, -, ⟨k2_11, k2_11f⟩⟩ := pstep (s' := { s with fi := false }) hc.pb 6 (.bool false) rfl
       obtain ⟨V2, hV2, hb2, ⟨k3_0, k3_0f⟩, -, -, -, ⟨k3_4, k3_4f⟩, ⟨k3_5, k3_5f⟩, -, -, ⟨k3_8, k3_8f⟩, ⟨k3_9, k3_9f⟩, -, ⟨k3_11, k3_11f⟩⟩ := pstep (s' := { s with fi := false, wr := bl }) hb1 5 (.bool bl) rfl
       obtain ⟨V3, hV3, hb3, ⟨k4_0, k4_0f⟩, -, -, -, ⟨k4_4, k4_4f⟩, ⟨k4_5, k4_5f⟩, -, -, ⟨k4_8, k4_8f⟩, ⟨k4_9, k4_9f⟩, -, ⟨k4_11, k4_11f⟩⟩ := pstep (s' := { s with fi := false, wr := bl, so := true }) hb2 8 (.bool true) rfl
       obtain ⟨V4, hV4, hb4, ⟨k5_0, k5_0f⟩, -, -, -, ⟨k5_4, k5_4f⟩, ⟨k5_5, k5_5f⟩, -, -, ⟨k5_8, k5_8f⟩, ⟨k5_9, k5_9f⟩, -, ⟨k5_11, k5_11f⟩⟩ := pstep (s' := { s with fi := false, wr := bl, so := true, la := 65535 }) hb3 9 (.int .i64 65535) rfl
       have hkk : Kept (fun i => i = p) W V4 := by rw [<- hV4, <- hV3, <- hV2, <- hV1]; exact ((((Kept.refl (fun i => i = p) W).setCell (p := ⟨p, 6, none⟩) (.inl rfl) _).setCell (p := ⟨p, 5, none⟩) (.inl rfl) _).setCell (p := ⟨p, 8, none⟩) (.inl rfl) _).setCell (p := ⟨p, 9, none⟩) (.inl rfl) _
       have hcV := hc.upd (s' := { s with fi := false, wr := bl, so := true, la := 65535 }) hkk hb4 rfl rfl rfl rfl ⟨hc.ok.st, hc.ok.it, hc.ok.ps, by simp, hc.ok.ds⟩
       have HRV := Lib.hid (show RR G V4 p q { s with fi := false, wr := bl, so := true, la := 65535 } L from ⟨d, _, vp, vd, vo, hcV, hg⟩)
       have HKV := Lib.hid (show Kept G W V4 from hkk.mono fun i _ h => (hg i).2 (.inl h))
       try simp only at k2_0 k2_4 k2_5 k2_8 k2_9 k2_11 k3_0 k3_4 k3_5 k3_8 k3_9 k3_11 k4_0 k4_4 k4_5 k4_8 k4_9 k4_11 k5_0 k5_4 k5_5 k5_8 k5_9 k5_11
       clear hb1 hb2 hb3 hb4 hkk hcV
       rw [hwr] at k2_5
       rw [e] at hn ⊢
       clear e h80 h2f h7f h39 hc hg hfi hmin hS0 hin hla hwr hS
       show Calls Tryz.prog 169 _ W fun r w' => (∃ x, r = .returned x) /\ TP G W p q ({ s with fi := false, wr := bl, so := true, la := 65535 }) (L ++ []) w'
       go_enter Tryz.func169, Tryz.ntmps169
       go_wp2_with fail
       refine (ctl_any c W).mono ?_
       rintro r w1 ⟨rfl, rfl⟩
       rw [hct]
       go_wp2_with fail
       refine (ctl_any c _).mono ?_
       rintro r w2 ⟨rfl, rfl⟩
       rw [hct]
       go_wp2
       go_end0
       exact ⟨⟨_, rfl⟩, by simpa only [List.append_nil] using tp_rr HRV.out (fun _ h => .inl h) HKV.out⟩
      ·obtain rfl : S = 65535 := by omega
       have hmin : min (65535 : Int) 65535 = 65535 := by decide
       have e : headS s c = ({ s with fi := false, wr := bl, so := true, la := 65535 }, []) := by unfold headS; rw [hfi, hct]; simp only [Bool.false_or, Bool.true_and, Bool.false_and, Bool.false_eq_true, if_false, g127, if_neg h80, if_neg h2f, if_neg h7f, if_pos h39, hS, hmin, hwr, hin, hbl, Bool.false_or]
       obtain ⟨⟨k1_0, k1_0f⟩, -, -, -, ⟨k1_4, k1_4f⟩, ⟨k1_5, k1_5f⟩, ⟨k1_6, k1_6f⟩, -, ⟨k1_8, k1_8f⟩, ⟨k1_9, k1_9f⟩, -, ⟨k1_11, k1_11f⟩⟩ := pcells hc.pb
       obtain ⟨V1, hV1, hb1, ⟨k2_0, k2_0f⟩, -, -, -, ⟨k2_4, k2_4f⟩, ⟨k2_5, k2_5f⟩, -, -, ⟨k2_8, k2_8f⟩, ⟨k2_9, k2_9f⟩, -, ⟨k2_11, k2_11f⟩⟩ := pstep (s' := { s with fi := false }) hc.pb 6 (.bool false) rfl
       obtain ⟨V2, hV2, hb2, ⟨k3_0, k3_0f⟩, -, -, -, ⟨k3_4, k3_4f⟩, ⟨k3_5, k3_5f⟩, -, -, ⟨k3_8, k3_8f⟩, ⟨k3_9, k3_9f⟩, -, ⟨k3_11, k3_11f⟩⟩ := pstep (s' := { s with fi := false, wr := bl }) hb1 5 (.bool bl) rfl
       obtain ⟨V3, hV3, hb3, ⟨k4_0, k4_0f⟩, -, -, -, ⟨k4_4, k4_4f⟩, ⟨k4_5, k4_5f⟩, -, -, ⟨k4_8, k4_8f⟩, ⟨k4_9, k4_9f⟩, -, ⟨k4_11, k4_11f⟩⟩ := pstep (s' := { s with fi := false, wr := bl, so := true }) hb2 8 (.bool true) rfl
       obtain ⟨V4, hV4, hb4, ⟨k5_0, k5_0f⟩, -, -, -, ⟨k5_4, k5_4f⟩, ⟨k5_5, k5_5f⟩, -, -, ⟨k5_8, k5_8f⟩, ⟨k5_9, k5_9f⟩, -, ⟨k5_11, k5_11f⟩⟩ := pstep (s' := { s with fi := false, wr := bl, so := true, la := 65535 }) hb3 9 (.int .i64 65535) rfl
       have hkk : Kept (fun i => i = p) W V4 := by rw [<- hV4, <- hV3, <- hV2, <- hV1]; exact ((((Kept.refl (fun i => i = p) W).setCell (p := ⟨p, 6, none⟩) (.inl rfl) _).setCell (p := ⟨p, 5, none⟩) (.inl rfl) _).setCell (p := ⟨p, 8, none⟩) (.inl rfl) _).setCell (p := ⟨p, 9, none⟩) (.inl rfl) _
       have hcV := hc.upd (s' := { s with fi := false, wr := bl, so := true, la := 65535 }) hkk hb4 rfl rfl rfl rfl ⟨hc.ok.st, hc.ok.it, hc.ok.ps, by simp, hc.ok.ds⟩
       have HRV := Lib.hid (show RR G V4 p q { s with fi := false, wr := bl, so := true, la := 65535 } L from ⟨d, _, vp, vd, vo, hcV, hg⟩)
       have HKV := Lib.hid (show Kept G W V4 from hkk.mono fun i _ h => (hg i).2 (.inl h))
       try simp only at k2_0 k2_4 k2_5 k2_8 k2_9 k2_11 k3_0 k3_4 k3_5 k3_8 k3_9 k3_11 k4_0 k4_4 k4_5 k4_8 k4_9 k4_11 k5_0 k5_4 k5_5 k5_8 k5_9 k5_11
       clear hb1 hb2 hb3 hb4 hkk hcV
       rw [hwr] at k2_5
       rw [e] at hn ⊢
       clear e h80 h2f h7f h39 hc hg hfi hmin hS0 hin hla hwr hS
       show Calls Tryz.prog 169 _ W fun r w' => (∃ x, r = .returned x) /\ TP G W p q ({ s with fi := false, wr := bl, so := true, la := 65535 }) (L ++ []) w'
       go_enter Tryz.func169, Tryz.ntmps169
       go_wp2_with fail
       refine (ctl_any c W).mono ?_
       rintro r w1 ⟨rfl, rfl⟩
       rw [hct]
       go_wp2_with fail
       refine (ctl_any c _).mono ?_
       rintro r w2 ⟨rfl, rfl⟩
       rw [hct]
       go_wp2
       go_end0
       exact ⟨⟨_, rfl⟩, by simpa only [List.append_nil] using tp_rr HRV.out (fun _ h => .inl h) HKV.out⟩
   have g39 : decide (c <= 57) = false := decide_eq_false h39
   by_cases h59 : c = 59
   ·have g59 : (c == 59) = true := by simp [h59]
    obtain ⟨bl, hbl⟩ : ∃ b, decide (0 < iN) = b := ⟨_, rfl⟩
    have hbl' : decide ((0 : Int) < (iN : Int)) = bl := by rw [<- hbl]; congr 1; simp
    cases hwr : s.wr with
    | true =>
     have e : headS s c = (nextS { s with fi := false, wr := true, so := true }, []) := by unfold headS; rw [hfi, hct]; simp only [Bool.false_or, Bool.true_and, Bool.false_and, Bool.false_eq_true, if_false, g127, if_neg h80, if_neg h2f, if_neg h7f, if_neg h39, if_pos h59, hwr, hin, hbl, Bool.true_or]
     obtain ⟨⟨k1_0, k1_0f⟩, -, -, -, ⟨k1_4, k1_4f⟩, ⟨k1_5, k1_5f⟩, ⟨k1_6, k1_6f⟩, -, ⟨k1_8, k1_8f⟩, ⟨k1_9, k1_9f⟩, -, ⟨k1_11, k1_11f⟩⟩ := pcells hc.pb
     obtain ⟨V1, hV1, hb1, ⟨k2_0, k2_0f⟩, -, -, -, ⟨k2_4, k2_4f⟩, ⟨k2_5, k2_5f⟩, -, -, ⟨k2_8, k2_8f⟩, ⟨k2_9, k2_9f⟩, -, ⟨k2_11, k2_11f⟩⟩ := pstep (s' := { s with fi := false }) hc.pb 6 (.bool false) rfl
     obtain ⟨V2, hV2, hb2, ⟨k3_0, k3_0f⟩, -, -, -, ⟨k3_4, k3_4f⟩, ⟨k3_5, k3_5f⟩, -, -, ⟨k3_8, k3_8f⟩, ⟨k3_9, k3_9f⟩, -, ⟨k3_11, k3_11f⟩⟩ := pstep (s' := { s with fi := false, wr := true }) hb1 5 (.bool true) rfl
     obtain ⟨V3, hV3, hb3, ⟨k4_0, k4_0f⟩, -, -, -, ⟨k4_4, k4_4f⟩, ⟨k4_5, k4_5f⟩, -, -, ⟨k4_8, k4_8f⟩, ⟨k4_9, k4_9f⟩, -, ⟨k4_11, k4_11f⟩⟩ := pstep (s' := { s with fi := false, wr := true, so := true }) hb2 8 (.bool true) rfl
     have hkk : Kept (fun i => i = p) W V3 := by rw [<- hV3, <- hV2, <- hV1]; exact (((Kept.refl (fun i => i = p) W).setCell (p := ⟨p, 6, none⟩) (.inl rfl) _).setCell (p := ⟨p, 5, none⟩) (.inl rfl) _).setCell (p := ⟨p, 8, none⟩) (.inl rfl) _
     have hcV := hc.upd (s' := { s with fi := false, wr := true, so := true }) hkk hb3 rfl rfl rfl rfl ⟨hc.ok.st, hc.ok.it, hc.ok.ps, hc.ok.la, hc.ok.ds⟩
     have HRV := Lib.hid (show RR G V3 p q { s with fi := false, wr := true, so := true } L from ⟨d, _, vp, vd, vo, hcV, hg⟩)
     have HKV := Lib.hid (show Kept G W V3 from hkk.mono fun i _ h => (hg i).2 (.inl h))
     try simp only at k2_0 k2_4 k2_5 k2_8 k2_9 k2_11 k3_0 k3_4 k3_5 k3_8 k3_9 k3_11 k4_0 k4_4 k4_5 k4_8 k4_9 k4_11
     clear hb1 hb2 hb3 hkk hcV
     rw [hwr] at k2_5
     have HB := Lib.hid (next_any G V3 p q _ L HRV.out)
     rw [e] at hn ⊢
     clear e h80 h2f h7f h39 h59 hc hg hfi hin hla hwr
     show Calls Tryz.prog 169 _ W fun r w' => (∃ x, r = .returned x) /\ TP G W p q (nextS { s with fi := false, wr := true, so := true }) (L ++ []) w'
     go_enter Tryz.func169, Tryz.ntmps169
     go_wp2_with fail
     refine (ctl_any c W).mono ?_
     rintro r w1 ⟨rfl, rfl⟩
     rw [hct]
     go_wp2_with fail
     refine (ctl_any c _).mono ?_
     rintro r w2 ⟨rfl, rfl⟩
     rw [hct]
     go_wp2_with fail
     refine (HB.out).mono ?_
     rintro r w3 ⟨⟨x, rfl⟩, ht⟩
     have HT := Lib.hid (TP.then (fun _ h => .inl h) HKV.out ht)
     clear ht
     go_wp2
     go_end0
     exact ⟨⟨_, rfl⟩, by simpa only [List.append_nil] using HT.out⟩
    | false =>
     have e : headS s c = (nextS { s with fi := false, wr := bl, so := true }, []) := by unfold headS; rw [hfi, hct]; simp only [Bool.false_or, Bool.true_and, Bool.false_and, Bool.false_eq_true, if_false, g127, if_neg h80, if_neg h2f, if_neg h7f, if_neg h39, if_pos h59, hwr, hin, hbl, Bool.false_or]
     obtain ⟨⟨k1_0, k1_0f⟩, -, -, -, ⟨k1_4, k1_4f⟩, ⟨k1_5, k1_5f⟩, ⟨k1_6, k1_6f⟩, -, ⟨k1_8, k1_8f⟩, ⟨k1_9, k1_9f⟩, -, ⟨k1_11, k1_11f⟩⟩ := pcells hc.pb
     obtain ⟨V1, hV1, hb1, ⟨k2_0, k2_0f⟩, -, -, -, ⟨k2_4, k2_4f⟩, ⟨k2_5, k2_5f⟩, -, -, ⟨k2_8, k2_8f⟩, ⟨k2_9, k2_9f⟩, -, ⟨k2_11, k2_11f⟩⟩ := pstep (s' := { s with fi := false }) hc.pb 6 (.bool false) rfl
     obtain ⟨V2, hV2, hb2, ⟨k3_0, k3_0f⟩, -, -, -, ⟨k3_4, k3_4f⟩, ⟨k3_5, k3_5f⟩, -, -, ⟨k3_8, k3_8f⟩, ⟨k3_9, k3_9f⟩, -, ⟨k3_11, k3_11f⟩⟩ := pstep (s' := { s with fi := false, wr := bl }) hb1 5 (.bool bl) rfl
     obtain ⟨V3, hV3, hb3, ⟨k4_0, k4_0f⟩, -, -, -, ⟨k4_4, k4_4f⟩, ⟨k4_5, k4_5f⟩, -, -, ⟨k4_8, k4_8f⟩, ⟨k4_9, k4_9f⟩, -, ⟨k4_11, k4_11f⟩⟩ := pstep (s' := { s with fi := false, wr := bl, so := true }) hb2 8 (.bool true) rfl
     have hkk : Kept (fun i => i = p) W V3 := by rw [<- hV3, <- hV2, <- hV1]; exact (((Kept.refl (fun i => i = p) W).setCell (p := ⟨p, 6, none⟩) (.inl rfl) _).setCell (p := ⟨p, 5, none⟩) (.inl rfl) _).setCell (p := ⟨p, 8, none⟩) (.inl rfl) _
     have hcV := hc.upd (s' := { s with fi := false, wr := bl, so := true }) hkk hb3 rfl rfl rfl rfl ⟨hc.ok.st, hc.ok.it, hc.ok.ps, hc.ok.la, hc.ok.ds⟩
     have HRV := Lib.hid (show RR G V3 p q { s with fi := false, wr := bl, so := true } L from ⟨d, _, vp, vd, vo, hcV, hg⟩)
     have HKV := Lib.hid (show Kept G W V3 from hkk.mono fun i _ h => (hg i).2 (.inl h))
     try simp only at k2_0 k2_4 k2_5 k2_8 k2_9 k2_11 k3_0 k3_4 k3_5 k3_8 k3_9 k3_11 k4_0 k4_4 k4_5 k4_8 k4_9 k4_11
     clear hb1 hb2 hb3 hkk hcV
     rw [hwr] at k2_5
     have HB := Lib.hid (next_any G V3 p q _ L HRV.out)
     rw [e] at hn ⊢
     clear e h80 h2f h7f h39 h59 hc hg hfi hin hla hwr
     show Calls Tryz.prog 169 _ W fun r w' => (∃ x, r = .returned x) /\ TP G W p q (nextS { s with fi := false, wr := bl, so := true }) (L ++ []) w'
     go_enter Tryz.func169, Tryz.ntmps169
     go_wp2_with fail
     refine (ctl_any c W).mono ?_
     rintro r w1 ⟨rfl, rfl⟩
     rw [hct]
     go_wp2_with fail
     refine (ctl_any c _).mono ?_
     rintro r w2 ⟨rfl, rfl⟩
     rw [hct]
     go_wp2_with fail
     refine (HB.out).mono ?_
     rintro r w3 ⟨⟨x, rfl⟩, ht⟩
     have HT := Lib.hid (TP.then (fun _ h => .inl h) HKV.out ht)
     clear ht
     go_wp2
     go_end0
     exact ⟨⟨_, rfl⟩, by simpa only [List.append_nil] using HT.out⟩
   have g59 : (c == 59) = false := by simp [h59]
   by_cases h63 : c <= 63
   ·have g63 : decide (c <= 63) = true := decide_eq_true h63
    by_cases h60 : 60 <= c
    ·have g60 : decide (60 <= c) = true := decide_eq_true h60
     have e : headS s c = ({ s with fi := false, pv := c }, []) := by unfold headS; rw [hfi, hct]; simp only [Bool.false_or, Bool.true_and, Bool.false_and, Bool.false_eq_true, if_false, g127, if_neg h80, if_neg h2f, if_neg h7f, if_neg h39, if_neg h59, if_pos (show 60 <= c /\ c <= 63 /\ True from ⟨h60, h63, trivial⟩)]
     obtain ⟨⟨k1_0, k1_0f⟩, -, -, -, ⟨k1_4, k1_4f⟩, ⟨k1_5, k1_5f⟩, ⟨k1_6, k1_6f⟩, -, ⟨k1_8, k1_8f⟩, ⟨k1_9, k1_9f⟩, -, ⟨k1_11, k1_11f⟩⟩ := pcells hc.pb
     obtain ⟨V1, hV1, hb1, ⟨k2_0, k2_0f⟩, -, -, ⟨k2_3, k2_3f⟩, ⟨k2_4, k2_4f⟩, ⟨k2_5, k2_5f⟩, -, -, ⟨k2_8, k2_8f⟩, ⟨k2_9, k2_9f⟩, -, ⟨k2_11, k2_11f⟩⟩ := pstep (s' := { s with fi := false }) hc.pb 6 (.bool false) rfl
     obtain ⟨V2, hV2, hb2, ⟨k3_0, k3_0f⟩, -, -, -, ⟨k3_4, k3_4f⟩, ⟨k3_5, k3_5f⟩, -, -, ⟨k3_8, k3_8f⟩, ⟨k3_9, k3_9f⟩, -, ⟨k3_11, k3_11f⟩⟩ := pstep (s' := { s with fi := false, pv := c }) hb1 3 (.int .u8 c) rfl
     have hkk : Kept (fun i => i = p) W V2 := by rw [<- hV2, <- hV1]; exact ((Kept.refl (fun i => i = p) W).setCell (p := ⟨p, 6, none⟩) (.inl rfl) _).setCell (p := ⟨p, 3, none⟩) (.inl rfl) _
     have hcV := hc.upd (s' := { s with fi := false, pv := c }) hkk hb2 rfl rfl rfl rfl ⟨hc.ok.st, hc.ok.it, hc.ok.ps, hc.ok.la, hc.ok.ds⟩
     have HRV := Lib.hid (show RR G V2 p q { s with fi := false, pv := c } L from ⟨d, _, vp, vd, vo, hcV, hg⟩)
     have HKV := Lib.hid (show Kept G W V2 from hkk.mono fun i _ h => (hg i).2 (.inl h))
     try simp only at k2_0 k2_4 k2_5 k2_8 k2_9 k2_11 k3_0 k3_4 k3_5 k3_8 k3_9 k3_11
     clear hb1 hb2 hkk hcV
     rw [e] at hn ⊢
     clear e h80 h2f h7f h39 h59 h63 h60 hc hg hfi
     show Calls Tryz.prog 169 _ W fun r w' => (∃ x, r = .returned x) /\ TP G W p q ({ s with fi := false, pv := c }) (L ++ []) w'
     go_enter Tryz.func169, Tryz.ntmps169
     go_wp2_with fail
     refine (ctl_any c W).mono ?_
     rintro r w1 ⟨rfl, rfl⟩
     rw [hct]
     go_wp2_with fail
     refine (ctl_any c _).mono ?_
     rintro r w2 ⟨rfl, rfl⟩
     rw [hct]
     go_wp2
     go_end0
     exact ⟨⟨_, rfl⟩, by simpa only [List.append_nil] using tp_rr HRV.out (fun _ h => .inl h) HKV.out⟩
    ·have g60 : decide (60 <= c) = false := decide_eq_false h60
     have e : headS s c = ({ s with fi := false, wr := true }, []) := by unfold headS; rw [hfi, hct]; simp only [Bool.false_or, Bool.true_and, Bool.false_and, Bool.false_eq_true, if_false, g127, if_neg h80, if_neg h2f, if_neg h7f, if_neg h39, if_neg h59, if_neg (show ¬ (60 <= c /\ c <= 63 /\ True) from fun h => h60 h.1), if_pos h63]
     obtain ⟨⟨k1_0, k1_0f⟩, -, -, -, ⟨k1_4, k1_4f⟩, ⟨k1_5, k1_5f⟩, ⟨k1_6, k1_6f⟩, -, ⟨k1_8, k1_8f⟩, ⟨k1_9, k1_9f⟩, -, ⟨k1_11, k1_11f⟩⟩ := pcells hc.pb
     obtain ⟨V1, hV1, hb1, ⟨k2_0, k2_0f⟩, -, -, -, ⟨k2_4, k2_4f⟩, ⟨k2_5, k2_5f⟩, -, -, ⟨k2_8, k2_8f⟩, ⟨k2_9, k2_9f⟩, -, ⟨k2_11, k2_11f⟩⟩ := pstep (s' := { s with fi := false }) hc.pb 6 (.bool false) rfl
     obtain ⟨V2, hV2, hb2, ⟨k3_0, k3_0f⟩, -, -, -, ⟨k3_4, k3_4f⟩, ⟨k3_5, k3_5f⟩, -, -, ⟨k3_8, k3_8f⟩, ⟨k3_9, k3_9f⟩, -, ⟨k3_11, k3_11f⟩⟩ := pstep (s' := { s with fi := false, wr := true }) hb1 5 (.bool true) rfl
     have hkk : Kept (fun i => i = p) W V2 := by rw [<- hV2, <- hV1]; exact ((Kept.refl (fun i => i = p) W).setCell (p := ⟨p, 6, none⟩) (.inl rfl) _).setCell (p := ⟨p, 5, none⟩) (.inl rfl) _
     have hcV := hc.upd (s' := { s with fi := false, wr := true }) hkk hb2 rfl rfl rfl rfl ⟨hc.ok.st, hc.ok.it, hc.ok.ps, hc.ok.la, hc.ok.ds⟩
     have HRV := Lib.hid (show RR G V2 p q { s with fi := false, wr := true } L from ⟨d, _, vp, vd, vo, hcV, hg⟩)
     have HKV := Lib.hid (show Kept G W V2 from hkk.mono fun i _ h => (hg i).2 (.inl h))
     try simp only at k2_0 k2_4 k2_5 k2_8 k2_9 k2_11 k3_0 k3_4 k3_5 k3_8 k3_9 k3_11
     clear hb1 hb2 hkk hcV
     rw [e] at hn ⊢
     clear e h80 h2f h7f h39 h59 h63 h60 hc hg hfi
     show Calls Tryz.prog 169 _ W fun r w' => (∃ x, r = .returned x) /\ TP G W p q ({ s with fi := false, wr := true }) (L ++ []) w'
     go_enter Tryz.func169, Tryz.ntmps169
     go_wp2_with fail
     refine (ctl_any c W).mono ?_
     rintro r w1 ⟨rfl, rfl⟩
     rw [hct]
     go_wp2_with fail
     refine (ctl_any c _).mono ?_
     rintro r w2 ⟨rfl, rfl⟩
     rw [hct]
     go_wp2
     go_end0
     exact ⟨⟨_, rfl⟩, by simpa only [List.append_nil] using tp_rr HRV.out (fun _ h => .inl h) HKV.out⟩
   have g63 : decide (c <= 63) = false := decide_eq_false h63
   have g60 : decide (60 <= c) = true := decide_eq_true (by omega)
   have e : headS s c = ((finalS { s with fi := false } c).1, (finalS { s with fi := false } c).2) := by unfold headS; rw [hfi, hct]; simp only [Bool.false_or, Bool.true_and, Bool.false_and, Bool.false_eq_true, if_false, g127, if_neg h80, if_neg h2f, if_neg h7f, if_neg h39, if_neg h59, if_neg (show ¬ (60 <= c /\ c <= 63 /\ True) from fun h => h63 h.2.1), if_neg h63]
   obtain ⟨⟨k1_0, k1_0f⟩, -, -, -, ⟨k1_4, k1_4f⟩, ⟨k1_5, k1_5f⟩, ⟨k1_6, k1_6f⟩, -, ⟨k1_8, k1_8f⟩, ⟨k1_9, k1_9f⟩, -, ⟨k1_11, k1_11f⟩⟩ := pcells hc.pb
   obtain ⟨V1, hV1, hb1, ⟨k2_0, k2_0f⟩, -, -, -, ⟨k2_4, k2_4f⟩, ⟨k2_5, k2_5f⟩, -, -, ⟨k2_8, k2_8f⟩, ⟨k2_9, k2_9f⟩, -, ⟨k2_11, k2_11f⟩⟩ := pstep (s' := { s with fi := false }) hc.pb 6 (.bool false) rfl
   have hkk : Kept (fun i => i = p) W V1 := by rw [<- hV1]; exact (Kept.refl (fun i => i = p) W).setCell (p := ⟨p, 6, none⟩) (.inl rfl) _
   have hcV := hc.upd (s' := { s with fi := false }) hkk hb1 rfl rfl rfl rfl ⟨hc.ok.st, hc.ok.it, hc.ok.ps, hc.ok.la, hc.ok.ds⟩
   have HRV := Lib.hid (show RR G V1 p q { s with fi := false } L from ⟨d, _, vp, vd, vo, hcV, hg⟩)
   have HKV := Lib.hid (show Kept G W V1 from hkk.mono fun i _ h => (hg i).2 (.inl h))
   try simp only at k2_0 k2_4 k2_5 k2_8 k2_9 k2_11
   clear hb1 hkk hcV
   have HB := Lib.hid (fun hn => final_any G V1 p q _ L c HRV.out hn)
   rw [e] at hn ⊢
   clear e h80 h2f h7f h39 h59 h63 hc hg hfi
   go_enter Tryz.func169, Tryz.ntmps169
   go_wp2_with fail
   refine (ctl_any c W).mono ?_
   rintro r w1 ⟨rfl, rfl⟩
   rw [hct]
   go_wp2_with fail
   refine (ctl_any c _).mono ?_
   rintro r w2 ⟨rfl, rfl⟩
   rw [hct]
   go_wp2_with fail
   refine (HB.out hn).mono ?_
   rintro r w3 ⟨⟨x, rfl⟩, ht⟩
   have HT := Lib.hid (TP.then (fun _ h => .inl h) HKV.out ht)
   clear ht
   go_wp2
   go_end0
   exact ⟨⟨_, rfl⟩, HT.out⟩
 | false =>
  rw [hfi] at c6
  cases hct : ctlB c with
  | true =>
   obtain ⟨⟨k1_0, k1_0f⟩, -, -, -, ⟨k1_4, k1_4f⟩, ⟨k1_5, k1_5f⟩, ⟨k1_6, k1_6f⟩, -, ⟨k1_8, k1_8f⟩, ⟨k1_9, k1_9f⟩, -, ⟨k1_11, k1_11f⟩⟩ := pcells hc.pb
   obtain ⟨V1, hV1, hb1, ⟨k2_0, k2_0f⟩, -, -, -, ⟨k2_4, k2_4f⟩, ⟨k2_5, k2_5f⟩, -, -, ⟨k2_8, k2_8f⟩, ⟨k2_9, k2_9f⟩, -, ⟨k2_11, k2_11f⟩⟩ := pstep (s' := { s with fi := false }) hc.pb 6 (.bool false) rfl
   have hkk : Kept (fun i => i = p) W V1 := by rw [<- hV1]; exact (Kept.refl (fun i => i = p) W).setCell (p := ⟨p, 6, none⟩) (.inl rfl) _
   have hcV := hc.upd (s' := { s with fi := false }) hkk hb1 rfl rfl rfl rfl ⟨hc.ok.st, hc.ok.it, hc.ok.ps, hc.ok.la, hc.ok.ds⟩
   have HRV := Lib.hid (show RR G V1 p q { s with fi := false } L from ⟨d, _, vp, vd, vo, hcV, hg⟩)
   have HKV := Lib.hid (show Kept G W V1 from hkk.mono fun i _ h => (hg i).2 (.inl h))
   try simp only at k2_0 k2_4 k2_5 k2_8 k2_9 k2_11
   clear hb1 hkk hcV
   by_cases h2 : s.st = 2
   ·have e : headS s c = ({ s with fi := false }, [evX 2 0 c]) := by unfold headS; simp only [hfi, hct, if_true, if_pos h2]; rfl
    have g2 : (s.st == 2) = true := by simp [h2]
    have HS := Lib.hid (fun (hn : AL q L [evX 2 0 c]) => sayX G V1 p q _ L HRV.out 2 0 c hn)
    unfold sayV at k2_11
    rw [e] at hn ⊢
    clear e h2 hc hg hfi
    show Calls Tryz.prog 169 _ W fun r w' => (∃ x, r = .returned x) /\ TP G W p q ({ s with fi := false }) (L ++ [evX 2 0 c]) w'
    go_enter Tryz.func169, Tryz.ntmps169
    go_wp2_with fail
    refine (ctl_any c _).mono ?_
    rintro r w2 ⟨rfl, rfl⟩
    rw [hct]
    go_wp2_with fail
    refine (HS.out hn).mono ?_
    rintro r w3 ⟨⟨x, rfl⟩, ht⟩
    have HT := Lib.hid (TP.then (fun _ h => .inl h) HKV.out ht)
    clear ht
    go_wp2
    go_end0
    exact ⟨⟨_, rfl⟩, HT.out⟩
   ·have e : headS s c = ({ s with fi := false }, []) := by unfold headS; simp only [hfi, hct, if_true, if_neg h2]; rfl
    have g2 : (s.st == 2) = false := by simp [h2]
    rw [e] at hn ⊢
    clear e h2 hc hg hfi
    show Calls Tryz.prog 169 _ W fun r w' => (∃ x, r = .returned x) /\ TP G W p q ({ s with fi := false }) (L ++ []) w'
    go_enter Tryz.func169, Tryz.ntmps169
    go_wp2_with fail
    refine (ctl_any c _).mono ?_
    rintro r w2 ⟨rfl, rfl⟩
    rw [hct]
    go_wp2
    go_end0
    exact ⟨⟨_, rfl⟩, by simpa only [List.append_nil] using tp_rr HRV.out (fun _ h => .inl h) HKV.out⟩
  | false =>
   by_cases h80 : 128 <= c
   ·have g127 : (c == 127) = false := by simp; omega
    have g80 : decide (128 <= c) = true := decide_eq_true h80
    have e : headS s c = ((backS { s with fi := false } c).1, (backS { s with fi := false } c).2) := by unfold headS; rw [hfi, hct]; simp only [Bool.false_or, Bool.true_and, Bool.false_and, Bool.false_eq_true, if_false, g127, if_pos h80]
    obtain ⟨⟨k1_0, k1_0f⟩, -, -, -, ⟨k1_4, k1_4f⟩, ⟨k1_5, k1_5f⟩, ⟨k1_6, k1_6f⟩, -, ⟨k1_8, k1_8f⟩, ⟨k1_9, k1_9f⟩, -, ⟨k1_11, k1_11f⟩⟩ := pcells hc.pb
    obtain ⟨V1, hV1, hb1, ⟨k2_0, k2_0f⟩, -, -, -, ⟨k2_4, k2_4f⟩, ⟨k2_5, k2_5f⟩, -, -, ⟨k2_8, k2_8f⟩, ⟨k2_9, k2_9f⟩, -, ⟨k2_11, k2_11f⟩⟩ := pstep (s' := { s with fi := false }) hc.pb 6 (.bool false) rfl
    have hkk : Kept (fun i => i = p) W V1 := by rw [<- hV1]; exact (Kept.refl (fun i => i = p) W).setCell (p := ⟨p, 6, none⟩) (.inl rfl) _
    have hcV := hc.upd (s' := { s with fi := false }) hkk hb1 rfl rfl rfl rfl ⟨hc.ok.st, hc.ok.it, hc.ok.ps, hc.ok.la, hc.ok.ds⟩
    have HRV := Lib.hid (show RR G V1 p q { s with fi := false } L from ⟨d, _, vp, vd, vo, hcV, hg⟩)
    have HKV := Lib.hid (show Kept G W V1 from hkk.mono fun i _ h => (hg i).2 (.inl h))
    try simp only at k2_0 k2_4 k2_5 k2_8 k2_9 k2_11
    clear hb1 hkk hcV
    have HB := Lib.hid (fun hn => back_any G V1 p q _ L c hc0 hc1 HRV.out hn)
    rw [e] at hn ⊢
    clear e h80 hc hg hfi
    go_enter Tryz.func169, Tryz.ntmps169
    go_wp2_with fail
    refine (ctl_any c _).mono ?_
    rintro r w2 ⟨rfl, rfl⟩
    rw [hct]
    go_wp2_with fail
    refine (HB.out hn).mono ?_
    rintro r w3 ⟨⟨x, rfl⟩, ht⟩
    have HT := Lib.hid (TP.then (fun _ h => .inl h) HKV.out ht)
    clear ht
    go_wp2
    go_end0
    exact ⟨⟨_, rfl⟩, HT.out⟩
   have g80 : decide (128 <= c) = false := decide_eq_false h80
   by_cases h2f : c <= 47
   ·have g127 : (c == 127) = false := by simp; omega
    have g2f : decide (c <= 47) = true := decide_eq_true h2f
    have e : headS s c = (keepS { s with fi := false } c, []) := by unfold headS; rw [hfi, hct]; simp only [Bool.false_or, Bool.true_and, Bool.false_and, Bool.false_eq_true, if_false, g127, if_neg h80, if_pos h2f]
    obtain ⟨⟨k1_0, k1_0f⟩, -, -, -, ⟨k1_4, k1_4f⟩, ⟨k1_5, k1_5f⟩, ⟨k1_6, k1_6f⟩, -, ⟨k1_8, k1_8f⟩, ⟨k1_9, k1_9f⟩, -, ⟨k1_11, k1_11f⟩⟩ := pcells hc.pb
    obtain ⟨V1, hV1, hb1, ⟨k2_0, k2_0f⟩, -, -, -, ⟨k2_4, k2_4f⟩, ⟨k2_5, k2_5f⟩, -, -, ⟨k2_8, k2_8f⟩, ⟨k2_9, k2_9f⟩, -, ⟨k2_11, k2_11f⟩⟩ := pstep (s' := { s with fi := false }) hc.pb 6 (.bool false) rfl
    have hkk : Kept (fun i => i = p) W V1 := by rw [<- hV1]; exact (Kept.refl (fun i => i = p) W).setCell (p := ⟨p, 6, none⟩) (.inl rfl) _
    have hcV := hc.upd (s' := { s with fi := false }) hkk hb1 rfl rfl rfl rfl ⟨hc.ok.st, hc.ok.it, hc.ok.ps, hc.ok.la, hc.ok.ds⟩
    have HRV := Lib.hid (show RR G V1 p q { s with fi := false } L from ⟨d, _, vp, vd, vo, hcV, hg⟩)
    have HKV := Lib.hid (show Kept G W V1 from hkk.mono fun i _ h => (hg i).2 (.inl h))
    try simp only at k2_0 k2_4 k2_5 k2_8 k2_9 k2_11
    clear hb1 hkk hcV
    have HB := Lib.hid (keep_any G V1 p q _ L c HRV.out)
    rw [e] at hn ⊢
    clear e h80 h2f hc hg hfi
    show Calls Tryz.prog 169 _ W fun r w' => (∃ x, r = .returned x) /\ TP G W p q (keepS { s with fi := false } c) (L ++ []) w'
    go_enter Tryz.func169, Tryz.ntmps169
    go_wp2_with fail
    refine (ctl_any c _).mono ?_
    rintro r w2 ⟨rfl, rfl⟩
    rw [hct]
    go_wp2_with fail
    refine (HB.out).mono ?_
    rintro r w3 ⟨⟨x, rfl⟩, ht⟩
    have HT := Lib.hid (TP.then (fun _ h => .inl h) HKV.out ht)
    clear ht
    go_wp2
    go_end0
    exact ⟨⟨_, rfl⟩, by simpa only [List.append_nil] using HT.out⟩
   have g2f : decide (c <= 47) = false := decide_eq_false h2f
   by_cases h7f : c = 127
   ·have g127 : (c == 127) = true := by simp [h7f]
    have e : headS s c = ({ s with fi := false }, []) := by unfold headS; rw [hfi, hct]; simp only [Bool.false_or, Bool.true_and, Bool.false_and, Bool.false_eq_true, if_false, g127, if_neg h80, if_neg h2f, if_pos h7f]
    obtain ⟨⟨k1_0, k1_0f⟩, -, -, -, ⟨k1_4, k1_4f⟩, ⟨k1_5, k1_5f⟩, ⟨k1_6, k1_6f⟩, -, ⟨k1_8, k1_8f⟩, ⟨k1_9, k1_9f⟩, -, ⟨k1_11, k1_11f⟩⟩ := pcells hc.pb
    obtain ⟨V1, hV1, hb1, ⟨k2_0, k2_0f⟩, -, -, -, ⟨k2_4, k2_4f⟩, ⟨k2_5, k2_5f⟩, -, -, ⟨k2_8, k2_8f⟩, ⟨k2_9, k2_9f⟩, -, ⟨k2_11, k2_11f⟩⟩ := pstep (s' := { s with fi := false }) hc.pb 6 (.bool false) rfl
    have hkk : Kept (fun i => i = p) W V1 := by rw [<- hV1]; exact (Kept.refl (fun i => i = p) W).setCell (p := ⟨p, 6, none⟩) (.inl rfl) _
    have hcV := hc.upd (s' := { s with fi := false }) hkk hb1 rfl rfl rfl rfl ⟨hc.ok.st, hc.ok.it, hc.ok.ps, hc.ok.la, hc.ok.ds⟩
    have HRV := Lib.hid (show RR G V1 p q { s with fi := false } L from ⟨d, _, vp, vd, vo, hcV, hg⟩)
    have HKV := Lib.hid (show Kept G W V1 from hkk.mono fun i _ h => (hg i).2 (.inl h))
    try simp only at k2_0 k2_4 k2_5 k2_8 k2_9 k2_11
    clear hb1 hkk hcV
    rw [e] at hn ⊢
    clear e h80 h2f h7f hc hg hfi
    show Calls Tryz.prog 169 _ W fun r w' => (∃ x, r = .returned x) /\ TP G W p q ({ s with fi := false }) (L ++ []) w'
    go_enter Tryz.func169, Tryz.ntmps169
    go_wp2_with fail
    refine (ctl_any c _).mono ?_
    rintro r w2 ⟨rfl, rfl⟩
    rw [hct]
    go_wp2
    go_end0
    exact ⟨⟨_, rfl⟩, by simpa only [List.append_nil] using tp_rr HRV.out (fun _ h => .inl h) HKV.out⟩
   have g127 : (c == 127) = false := by simp [h7f]
   by_cases h39 : c <= 57
   ·have g39 : decide (c <= 57) = true := decide_eq_true h39
    obtain ⟨S, hS⟩ : ∃ S, 10 * s.la + (c - 48) = S := ⟨_, rfl⟩
    have hS0 : 0 <= S := by omega
    have w1 : IntKind.i64.wrap (10 * s.la) = 10 * s.la := IntWalk.i64_in _ (by omega)
    have w2 : IntKind.u8.wrap (c - 48) = c - 48 := by rw [IntKind.wrap_u8]; omega
    have w3 : IntKind.i64.wrap (c - 48) = c - 48 := IntWalk.i64_in _ (by omega)
    have w4 : IntKind.i64.wrap (10 * s.la + (c - 48)) = S := by rw [hS]; exact IntWalk.i64_in _ (by omega)
    obtain ⟨bl, hbl⟩ : ∃ b, decide (0 < iN) = b := ⟨_, rfl⟩
    have hbl' : decide ((0 : Int) < (iN : Int)) = bl := by rw [<- hbl]; congr 1; simp
    cases hwr : s.wr with
    | true =>
     by_cases hm : S < 65535
     ·have hm2 : ¬ 65535 < S := by omega
      have hmin : min S 65535 = S := Int.min_eq_left (by omega)
      have e : headS s c = ({ s with fi := false, wr := true, so := true, la := S }, []) := by unfold headS; rw [hfi, hct]; simp only [Bool.false_or, Bool.true_and, Bool.false_and, Bool.false_eq_true, if_false, g127, if_neg h80, if_neg h2f, if_neg h7f, if_pos h39, hS, hmin, hwr, hin, hbl, Bool.true_or]
      obtain ⟨⟨k1_0, k1_0f⟩, -, -, -, ⟨k1_4, k1_4f⟩, ⟨k1_5, k1_5f⟩, ⟨k1_6, k1_6f⟩, -, ⟨k1_8, k1_8f⟩, ⟨k1_9, k1_9f⟩, -, ⟨k1_11, k1_11f⟩⟩ := pcells hc.pb
      obtain ⟨V1, hV1, hb1, ⟨k2_0, k2_0f⟩, -, -, -, ⟨k2_4, k2_4f⟩, ⟨k2_5, k2_5f⟩, -, -, ⟨k2_8, k2_8f⟩, ⟨k2_9, k2_9f⟩, -, ⟨k2_11, k2_11f⟩⟩ := pstep (s' := { s with fi := false }) hc.pb 6 (.bool false) rfl
      obtain ⟨V2, hV2, hb2, ⟨k3_0, k3_0f⟩, -, -, -, ⟨k3_4, k3_4f⟩, ⟨k3_5, k3_5f⟩, -, -, ⟨k3_8, k3_8f⟩, ⟨k3_9, k3_9f⟩, -, ⟨k3_11, k3_11f⟩⟩ := pstep (s' := { s with fi := false, wr := true }) hb1 5 (.bool true) rfl
      obtain ⟨V3, hV3, hb3, ⟨k4_0, k4_0f⟩, -, -, -, ⟨k4_4, k4_4f⟩, ⟨k4_5, k4_5f⟩, -, -, ⟨k4_8, k4_8f⟩, ⟨k4_9, k4_9f⟩, -, ⟨k4_11, k4_11f⟩⟩ := pstep (s' := { s with fi := false, wr := true, so := true }) hb2 8 (.bool true) rfl
      obtain ⟨V4, hV4, hb4, ⟨k5_0, k5_0f⟩, -, -, -, ⟨k5_4, k5_4f⟩, ⟨k5_5, k5_5f⟩, -, -, ⟨k5_8, k5_8f⟩, ⟨k5_9, k5_9f⟩, -, ⟨k5_11, k5_11f⟩⟩ := pstep (s' := { s with fi := false, wr := true, so := true, la := S }) hb3 9 (.int .i64 S) rfl
      have hkk : Kept (fun i => i = p) W V4 := by rw [<- hV4, <- hV3, <- hV2, <- hV1]; exact ((((Kept.refl (fun i => i = p) W).setCell (p := ⟨p, 6, none⟩) (.inl rfl) _).setCell (p := ⟨p, 5, none⟩) (.inl rfl) _).setCell (p := ⟨p, 8, none⟩) (.inl rfl) _).setCell (p := ⟨p, 9, none⟩) (.inl rfl) _
      have hcV := hc.upd (s' := { s with fi := false, wr := true, so := true, la := S }) hkk hb4 rfl rfl rfl rfl ⟨hc.ok.st, hc.ok.it, hc.ok.ps, by simp; omega, hc.ok.ds⟩
      have HRV := Lib.hid (show RR G V4 p q { s with fi := false, wr := true, so := true, la := S } L from ⟨d, _, vp, vd, vo, hcV, hg⟩)
      have HKV := Lib.hid (show Kept G W V4 from hkk.mono fun i _ h => (hg i).2 (.inl h))
      try simp only at k2_0 k2_4 k2_5 k2_8 k2_9 k2_11 k3_0 k3_4 k3_5 k3_8 k3_9 k3_11 k4_0 k4_4 k4_5 k4_8 k4_9 k4_11 k5_0 k5_4 k5_5 k5_8 k5_9 k5_11
      clear hb1 hb2 hb3 hb4 hkk hcV
      rw [hwr] at k2_5
      rw [e] at hn ⊢
      clear e h80 h2f h7f h39 hc hg hfi hmin hS0 hin hla hwr hS
      show Calls Tryz.prog 169 _ W fun r w' => (∃ x, r = .returned x) /\ TP G W p q ({ s with fi := false, wr := true, so := true, la := S }) (L ++ []) w'
      go_enter Tryz.func169, Tryz.ntmps169
      go_wp2_with fail
      refine (ctl_any c _).mono ?_
      rintro r w2 ⟨rfl, rfl⟩
      rw [hct]
      go_wp2
      go_end0
      exact ⟨⟨_, rfl⟩, by simpa only [List.append_nil] using tp_rr HRV.out (fun _ h => .inl h) HKV.out⟩
     ·by_cases hm2 : 65535 < S
      ·have hmin : min S 65535 = 65535 := Int.min_eq_right (by omega)
       have e : headS s c = ({ s with fi := false, wr := true, so := true, la := 65535 }, []) := by unfold headS; rw [hfi, hct]; simp only [Bool.false_or, Bool.true_and, Bool.false_and, Bool.false_eq_true, if_false, g127, if_neg h80, if_neg h2f, if_neg h7f, if_pos h39, hS, hmin, hwr, hin, hbl, Bool.true_or]
       obtain ⟨⟨k1_0, k1_0f⟩, -, -, -, ⟨k1_4, k1_4f⟩, ⟨k1_5, k1_5f⟩, ⟨k1_6, k1_6f⟩, -, ⟨k1_8, k1_8f⟩, ⟨k1_9, k1_9f⟩, -, ⟨k1_11, k1_11f⟩⟩ := pcells hc.pb
       obtain ⟨V1, hV1, hb1, ⟨k2_0, k2_0f⟩, -, -, -, ⟨k2_4, k2_4f⟩, ⟨k2_5, k2_5f⟩, -, -, ⟨k2_8, k2_8f⟩, ⟨k2_9, k2_9f⟩, -, ⟨k2_11, k2_11f⟩⟩ := pstep (s' := { s with fi := false }) hc.pb 6 (.bool false) rfl
       obtain ⟨V2, hV2, hb2, ⟨k3_0, k3_0f⟩, -, -, -, ⟨k3_4, k3_4f⟩, ⟨k3_5, k3_5f⟩, -, -, ⟨k3_8, k3_8f⟩, ⟨k3_9, k3_9f⟩, -, ⟨k3_11, k3_11f⟩⟩ := pstep (s' := { s with fi := false, wr := true }) hb1 5 (.bool true) rfl
       obtain ⟨V3, hV3, hb3, ⟨k4_0, k4_0f⟩, -, -, -, ⟨k4_4, k4_4f⟩, ⟨k4_5, k4_5f⟩, -, -, ⟨k4_8, k4_8f⟩, ⟨k4_9, k4_9f⟩, -, ⟨k4_11, k4_11f⟩⟩ := pstep (s' := { s with fi := false, wr := true, so := true }) hb2 8 (.bool true) rfl
       obtain ⟨V4, hV4, hb4, ⟨k5_0, k5_0f⟩, -, -, -, ⟨k5_4, k5_4f⟩, ⟨k5_5, k5_5f⟩, -, -, ⟨k5_8, k5_8f⟩, ⟨k5_9, k5_9f⟩, -, ⟨k5_11, k5_11f⟩⟩ := pstep (s' := { s with fi := false, wr := true, so := true, la := 65535 }) hb3 9 (.int .i64 65535) rfl
       have hkk : Kept (fun i => i = p) W V4 := by rw [<- hV4, <- hV3, <- hV2, <- hV1]; exact ((((Kept.refl (fun i => i = p) W).setCell (p := ⟨p, 6, none⟩) (.inl rfl) _).setCell (p := ⟨p, 5, none⟩) (.inl rfl) _).setCell (p := ⟨p, 8, none⟩) (.inl rfl) _).setCell (p := ⟨p, 9, none⟩) (.inl rfl) _
       have hcV := hc.upd (s' := { s with fi := false, wr := true, so := true, la := 65535 }) hkk hb4 rfl rfl rfl rfl ⟨hc.ok.st, hc.ok.it, hc.ok.ps, by simp, hc.ok.ds⟩
       have HRV := Lib.hid (show RR G V4 p q { s with fi := false, wr := true, so := true, la := 65535 } L from ⟨d, _, vp, vd, vo, hcV, hg⟩)
       have HKV := Lib.hid (show Kept G W V4 from hkk.mono fun i _ h => (hg i).2 (.inl h))
       try simp only at k2_0 k2_4 k2_5 k2_8 k2_9 k2_11 k3_0 k3_4 k3_5 k3_8 k3_9 k3_11 k4_0 k4_4 k4_5 k4_8 k4_9 k4_11 k5_0 k5_4 k5_5 k5_8 k5_9 k5_11
       clear hb1 hb2 hb3 hb4 hkk hcV
       rw [hwr] at k2_5
       rw [e] at hn ⊢
       clear e h80 h2f h7f h39 hc hg hfi hmin hS0 hin hla hwr hS
       show Calls Tryz.prog 169 _ W fun r w' => (∃ x, r = .returned x) /\ TP G W p q ({ s with fi := false, wr := true, so := true, la := 65535 }) (L ++ []) w'
       go_enter Tryz.func169, Tryz.ntmps169
       go_wp2_with fail
       refine (ctl_any c _).mono ?_
       rintro r w2 ⟨rfl, rfl⟩
       rw [hct]
       go_wp2
       go_end0
       exact ⟨⟨_, rfl⟩, by simpa only [List.append_nil] using tp_rr HRV.out (fun _ h => .inl h) HKV.out⟩
      ·obtain rfl : S = 65535 := by omega
       have hmin : min (65535 : Int) 65535 = 65535 := by decide
       have e : headS s c = ({ s with fi := false, wr := true, so := true, la := 65535 }, []) := by unfold headS; rw [hfi, hct]; simp only [Bool.false_or, Bool.true_and, Bool.false_and, Bool.false_eq_true, if_false, g127, if_neg h80, if_neg h2f, if_neg h7f, if_pos h39, hS, hmin, hwr, hin, hbl, Bool.true_or]
       obtain ⟨⟨k1_0, k1_0f⟩, -, -, -, ⟨k1_4, k1_4f⟩, ⟨k1_5, k1_5f⟩, ⟨k1_6, k1_6f⟩, -, ⟨k1_8, k1_8f⟩, ⟨k1_9, k1_9f⟩, -, ⟨k1_11, k1_11f⟩⟩ := pcells hc.pb
       obtain ⟨V1, hV1, hb1, ⟨k2_0, k2_0f⟩, -, -, -, ⟨k2_4, k2_4f⟩, ⟨k2_5, k2_5f⟩, -, -, ⟨k2_8, k2_8f⟩, ⟨k2_9, k2_9f⟩, -, ⟨k2_11, k2_11f⟩⟩ := pstep (s' := { s with fi := false }) hc.pb 6 (.bool false) rfl
       obtain ⟨V2, hV2, hb2, ⟨k3_0, k3_0f⟩, -, -, -, ⟨k3_4, k3_4f⟩, ⟨k3_5, k3_5f⟩, -, -, ⟨k3_8, k3_8f⟩, ⟨k3_9, k3_9f⟩, -, ⟨k3_11, k3_11f⟩⟩ := pstep (s' := { s with fi := false, wr := true }) hb1 5 (.bool true) rfl
       obtain ⟨V3, hV3, hb3, ⟨k4_0, k4_0f⟩, -, -, -, ⟨k4_4, k4_4f⟩, ⟨k4_5, k4_5f⟩, -, -, ⟨k4_8, k4_8f⟩, ⟨k4_9, k4_9f⟩, -, ⟨k4_11, k4_11f⟩⟩ := pstep (s' := { s with fi := false, wr := true, so := true }) hb2 8 (.bool true) rfl
       obtain ⟨V4, hV4, hb4, ⟨k5_0, k5_0f⟩, -, -, -, ⟨k5_4, k5_4f⟩, ⟨k5_5, k5_5f⟩, -, -, ⟨k5_8, k5_8f⟩, ⟨k5_9, k5_9f⟩, -, ⟨k5_11, k5_11f⟩⟩ := pstep (s' := { s with fi := false, wr := true, so := true, la := 65535 }) hb3 9 (.int .i64 65535) rfl
       have hkk : Kept (fun i => i = p) W V4 := by rw [<- hV4, <- hV3, <- hV2, <- hV1]; exact ((((Kept.refl (fun i => i = p) W).setCell (p := ⟨p, 6, none⟩) (.inl rfl) _).setCell (p := ⟨p, 5, none⟩) (.inl rfl) _).setCell (p := ⟨p, 8, none⟩) (.inl rfl) _).setCell (p := ⟨p, 9, none⟩) (.inl rfl) _
       have hcV := hc.upd (s' := { s with fi := false, wr := true, so := true, la := 65535 }) hkk hb4 rfl rfl rfl rfl ⟨hc.ok.st, hc.ok.it, hc.ok.ps, by simp, hc.ok.ds⟩
       have HRV := Lib.hid (show RR G V4 p q { s with fi := false, wr := true, so := true, la := 65535 } L from ⟨d, _, vp, vd, vo, hcV, hg⟩)
       have HKV := Lib.hid (show Kept G W V4 from hkk.mono fun i _ h => (hg i).2 (.inl h))
       try simp only at k2_0 k2_4 k2_5 k2_8 k2_9 k2_11 k3_0 k3_4 k3_5 k3_8 k3_9 k3_11 k4_0 k4_4 k4_5 k4_8 k4_9 k4_11 k5_0 k5_4 k5_5 k5_8 k5_9 k5_11
       clear hb1 hb2 hb3 hb4 hkk hcV
       rw [hwr] at k2_5
       rw [e] at hn ⊢
       clear e h80 h2f h7f h39 hc hg hfi hmin hS0 hin hla hwr hS
       show Calls Tryz.prog 169 _ W fun r w' => (∃ x, r = .returned x) /\ TP G W p q ({ s with fi := false, wr := true, so := true, la := 65535 }) (L ++ []) w'
       go_enter Tryz.func169, Tryz.ntmps169
       go_wp2_with fail
       refine (ctl_any c _).mono ?_
       rintro r w2 ⟨rfl, rfl⟩
       rw [hct]
       go_wp2
       go_end0
       exact ⟨⟨_, rfl⟩, by simpa only [List.append_nil] using tp_rr HRV.out (fun _ h => .inl h) HKV.out⟩
    | false =>
     by_cases hm : S < 65535
     ·have hm2 : ¬ 65535 < S := by omega
      have hmin : min S 65535 = S := Int.min_eq_left (by omega)
      have e : headS s c = ({ s with fi := false, wr := bl, so := true, la := S }, []) := by unfold headS; rw [hfi, hct]; simp only [Bool.false_or, Bool.true_and, Bool.false_and, Bool.false_eq_true, if_false, g127, if_neg h80, if_neg h2f, if_neg h7f, if_pos h39, hS, hmin, hwr, hin, hbl, Bool.false_or]
      obtain ⟨⟨k1_0, k1_0f⟩, -, -, -, ⟨k1_4, k1_4f⟩, ⟨k1_5, k1_5f⟩, ⟨k1_6, k1_6f⟩, -, ⟨k1_8, k1_8f⟩, ⟨k1_9, k1_9f⟩, -, ⟨k1_11, k1_11f⟩⟩ := pcells hc.pb
      obtain ⟨V1, hV1, hb1, ⟨k2_0, k2_0f⟩, -, -, -, ⟨k2_4, k2_4f⟩, ⟨k2_5, k2_5f⟩, -, -, ⟨k2_8, k2_8f⟩, ⟨k2_9, k2_9f⟩, -, ⟨k2_11, k2_11f⟩⟩ := pstep (s' := { s with fi := false }) hc.pb 6 (.bool false) rfl
      obtain ⟨V2, hV2, hb2, ⟨k3_0, k3_0f⟩, -, -, -, ⟨k3_4, k3_4f⟩, ⟨k3_5, k3_5f⟩, -, -, ⟨k3_8, k3_8f⟩, ⟨k3_9, k3_9f⟩, -, ⟨k3_11, k3_11f⟩⟩ := pstep (s' := { s with fi := false, wr := bl }) hb1 5 (.bool bl) rfl
      obtain ⟨V3, hV3, hb3, ⟨k4_0, k4_0f⟩, -, -, -, ⟨k4_4, k4_4f⟩, ⟨k4_5, k4_5f⟩, -, -, ⟨k4_8, k4_8f⟩, ⟨k4_9, k4_9f⟩, -, ⟨k4_11, k4_11f⟩⟩ := pstep (s' := { s with fi := false, wr := bl, so := true }) hb2 8 (.bool true) rfl
      obtain ⟨V4, hV4, hb4, ⟨k5_0, k5_0f⟩, -, -, -, ⟨k5_4, k5_4f⟩, ⟨k5_5, k5_5f⟩, -, -, ⟨k5_8, k5_8f⟩, ⟨k5_9, k5_9f⟩, -, ⟨k5_11, k5_11f⟩⟩ := pstep (s' := { s with fi := false, wr := bl, so := true, la := S }) hb3 9 (.int .i64 S) rfl
      have hkk : Kept (fun i => i = p) W V4 := by rw [<- hV4, <- hV3, <- hV2, <- hV1]; exact ((((Kept.refl (fun i => i = p) W).setCell (p := ⟨p, 6, none⟩) (.inl rfl) _).setCell (p := ⟨p, 5, none⟩) (.inl rfl) _).setCell (p := ⟨p, 8, none⟩) (.inl rfl) _).setCell (p := ⟨p, 9, none⟩) (.inl rfl) _
      have hcV := hc.upd (s' := { s with fi := false, wr := bl, so := true, la := S }) hkk hb4 rfl rfl rfl rfl ⟨hc.ok.st, hc.ok.it, hc.ok.ps, by simp; omega, hc.ok.ds⟩
      have HRV := Lib.hid (show RR G V4 p q { s with fi := false, wr := bl, so := true, la := S } L from ⟨d, _, vp, vd, vo, hcV, hg⟩)
      have HKV := Lib.hid (show Kept G W V4 from hkk.mono fun i _ h => (hg i).2 (.inl h))
      try simp only at k2_0 k2_4 k2_5 k2_8 k2_9 k2_11 k3_0 k3_4 k3_5 k3_8 k3_9 k3_11 k4_0 k4_4 k4_5 k4_8 k4_9 k4_11 k5_0 k5_4 k5_5 k5_8 k5_9 k5_11
      clear hb1 hb2 hb3 hb4 hkk hcV
      rw [hwr] at k2_5
      rw [e] at hn ⊢
      clear e h80 h2f h7f h39 hc hg hfi hmin hS0 hin hla hwr hS
      show Calls Tryz.prog 169 _ W fun r w' => (∃ x, r = .returned x) /\ TP G W p q ({ s with fi := false, wr := bl, so := true, la := S }) (L ++ []) w'
      go_enter Tryz.func169, Tryz.ntmps169
      go_wp2_with fail
      refine (ctl_any c _).mono ?_
      rintro r w2 ⟨rfl, rfl⟩
      rw [hct]
      go_wp2
      go_end0
      exact ⟨⟨_, rfl⟩, by simpa only [List.append_nil] using tp_rr HRV.out (fun _ h => .inl h) HKV.out⟩
     ·by_cases hm2 : 65535 < S
      ·have hmin : min S 65535 = 65535 := Int.min_eq_right (by omega)
       have e : headS s c = ({ s with fi := false, wr := bl, so := true, la := 65535 }, []) := by unfold headS; rw [hfi, hct]; simp only [Bool.false_or, Bool.true_and, Bool.false_and, Bool.false_eq_true, if_false, g127, if_neg h80, if_neg h2f, if_neg h7f, if_pos h39, hS, hmin, hwr, hin, hbl, Bool.false_or]
       obtain ⟨⟨k1_0, k1_0f⟩, -, -, -, ⟨k1_4, k1_4f⟩, ⟨k1_5, k1_5f⟩, ⟨k1_6, k1_6f⟩, -, ⟨k1_8, k1_8f⟩, ⟨k1_9, k1_9f⟩, -, ⟨k1_11, k1_11f⟩⟩ := pcells hc.pb
       obtain ⟨V1, hV1, hb1, ⟨k2_0, k2_0f⟩, -, -, -, ⟨k2_4, k2_4f⟩, ⟨k2_5, k2_5f⟩, -, -, ⟨k2_8, k2_8f⟩, ⟨k2_9, k2_9f⟩, -, ⟨k2_11, k2_11f⟩⟩ := pstep (s' := { s with fi := false }) hc.pb 6 (.bool false) rfl
       obtain ⟨V2, hV2, hb2, ⟨k3_0, k3_0f⟩, -, -, -, ⟨k3_4, k3_4f⟩, ⟨k3_5, k3_5f⟩, -, -, ⟨k3_8, k3_8f⟩, ⟨k3_9, k3_9f⟩, -, ⟨k3_11, k3_11f⟩⟩ := pstep (s' := { s with fi := false, wr := bl }) hb1 5 (.bool bl) rfl
       obtain ⟨V3, hV3, hb3, ⟨k4_0, k4_0f⟩, -, -, -, ⟨k4_4, k4_4f⟩, ⟨k4_5, k4_5f⟩, -, -, ⟨k4_8, k4_8f⟩, ⟨k4_9, k4_9f⟩, -, ⟨k4_11, k4_11f⟩⟩ := pstep (s' := { s with fi := false, wr := bl, so := true }) hb2 8 (.bool true) rfl
       obtain ⟨V4, hV4, hb4, ⟨k5_0, k5_0f⟩, -, -, -, ⟨k5_4, k5_4f⟩, ⟨k5_5, k5_5f⟩, -, -, ⟨k5_8, k5_8f⟩, ⟨k5_9, k5_9f⟩, -, ⟨k5_11, k5_11f⟩⟩ := pstep (s' := { s with fi := false, wr := bl, so := true, la := 65535 }) hb3 9 (.int .i64 65535) rfl
       have hkk : Kept (fun i => i = p) W V4 := by rw [<- hV4, <- hV3, <- hV2, <- hV1]; exact ((((Kept.refl (fun i => i = p) W).setCell (p := ⟨p, 6, none⟩) (.inl rfl) _).setCell (p := ⟨p, 5, none⟩) (.inl rfl) _).setCell (p := ⟨p, 8, none⟩) (.inl rfl) _).setCell (p := ⟨p, 9, none⟩) (.inl rfl) _
       have hcV := hc.upd (s' := { s with fi := false, wr := bl, so := true, la := 65535 }) hkk hb4 rfl rfl rfl rfl ⟨hc.ok.st, hc.ok.it, hc.ok.ps, by simp, hc.ok.ds⟩
       have HRV := Lib.hid (show RR G V4 p q { s with fi := false, wr := bl, so := true, la := 65535 } L from ⟨d, _, vp, vd, vo, hcV, hg⟩)
       have HKV := Lib.hid (show Kept G W V4 from hkk.mono fun i _ h => (hg i).2 (.inl h))
       try simp only at k2_0 k2_4 k2_5 k2_8 k2_9 k2_11 k3_0 k3_4 k3_5 k3_8 k3_9 k3_11 k4_0 k4_4 k4_5 k4_8 k4_9 k4_11 k5_0 k5_4 k5_5 k5_8 k5_9 k5_11
       clear hb1 hb2 hb3 hb4 hkk hcV
       rw [hwr] at k2_5
       rw [e] at hn ⊢
       clear e h80 h2f h7f h39 hc hg hfi hmin hS0 hin hla hwr hS
       show Calls Tryz.prog 169 _ W fun r w' => (∃ x, r = .returned x) /\ TP G W p q ({ s with fi := false, wr := bl, so := true, la := 65535 }) (L ++ []) w'
       go_enter Tryz.func169, Tryz.ntmps169
       go_wp2_with fail
       refine (ctl_any c _).mono ?_
       rintro r w2 ⟨rfl, rfl⟩
       rw [hct]
       go_wp2
       go_end0
       exact ⟨⟨_, rfl⟩, by simpa only [List.append_nil] using tp_rr HRV.out (fun _ h => .inl h) HKV.out⟩
      ·obtain rfl : S = 65535 := by omega
       have hmin : min (65535 : Int) 65535 = 65535 := by decide
       have e : headS s c = ({ s with fi := false, wr := bl, so := true, la := 65535 }, []) := by unfold headS; rw [hfi, hct]; simp only [Bool.false_or, Bool.true_and, Bool.false_and, Bool.false_eq_true, if_false, g127, if_neg h80, if_neg h2f, if_neg h7f, if_pos h39, hS, hmin, hwr, hin, hbl, Bool.false_or]
       obtain ⟨⟨k1_0, k1_0f⟩, -, -, -, ⟨k1_4, k1_4f⟩, ⟨k1_5, k1_5f⟩, ⟨k1_6, k1_6f⟩, -, ⟨k1_8, k1_8f⟩, ⟨k1_9, k1_9f⟩, -, ⟨k1_11, k1_11f⟩⟩ := pcells hc.pb
       obtain ⟨V1, hV1, hb1, ⟨k2_0, k2_0f⟩, -, -, -, ⟨k2_4, k2_4f⟩, ⟨k2_5, k2_5f⟩, -, -, ⟨k2_8, k2_8f⟩, ⟨k2_9, k2_9f⟩, -, ⟨k2_11, k2_11f⟩⟩ := pstep (s' := { s with fi := false }) hc.pb 6 (.bool false) rfl
       obtain ⟨V2, hV2, hb2, ⟨k3_0, k3_0f⟩, -, -, -, ⟨k3_4, k3_4f⟩, ⟨k3_5, k3_5f⟩, -, -, ⟨k3_8, k3_8f⟩, ⟨k3_9, k3_9f⟩, -, ⟨k3_11, k3_11f⟩⟩ := pstep (s' := { s with fi := false, wr := bl }) hb1 5 (.bool bl) rfl
       obtain ⟨V3, hV3, hb3, ⟨k4_0, k4_0f⟩, -, -, -, ⟨k4_4, k4_4f⟩, ⟨k4_5, k4_5f⟩, -, -, ⟨k4_8, k4_8f⟩, ⟨k4_9, k4_9f⟩, -, ⟨k4_11, k4_11f⟩⟩ := pstep (s' := { s with fi := false, wr := bl, so := true }) hb2 8 (.bool true) rfl
       obtain ⟨V4, hV4, hb4, ⟨k5_0, k5_0f⟩, -, -, -, ⟨k5_4, k5_4f⟩, ⟨k5_5, k5_5f⟩, -, -, ⟨k5_8, k5_8f⟩, ⟨k5_9, k5_9f⟩, -, ⟨k5_11, k5_11f⟩⟩ := pstep (s' := { s with fi := false, wr := bl, so := true, la := 65535 }) hb3 9 (.int .i64 65535) rfl
       have hkk : Kept (fun i => i = p) W V4 := by rw [<- hV4, <- hV3, <- hV2, <- hV1]; exact ((((Kept.refl (fun i => i = p) W).setCell (p := ⟨p, 6, none⟩) (.inl rfl) _).setCell (p := ⟨p, 5, none⟩) (.inl rfl) _).setCell (p := ⟨p, 8, none⟩) (.inl rfl) _).setCell (p := ⟨p, 9, none⟩) (.inl rfl) _
       have hcV := hc.upd (s' := { s with fi := false, wr := bl, so := true, la := 65535 }) hkk hb4 rfl rfl rfl rfl ⟨hc.ok.st, hc.ok.it, hc.ok.ps, by simp, hc.ok.ds⟩
       have HRV := Lib.hid (show RR G V4 p q { s with fi := false, wr := bl, so := true, la := 65535 } L from ⟨d, _, vp, vd, vo, hcV, hg⟩)
       have HKV := Lib.hid (show Kept G W V4 from hkk.mono fun i _ h => (hg i).2 (.inl h))
       try simp only at k2_0 k2_4 k2_5 k2_8 k2_9 k2_11 k3_0 k3_4 k3_5 k3_8 k3_9 k3_11 k4_0 k4_4 k4_5 k4_8 k4_9 k4_11 k5_0 k5_4 k5_5 k5_8 k5_9 k5_11
       clear hb1 hb2 hb3 hb4 hkk hcV
       rw [hwr] at k2_5
       rw [e] at hn ⊢
       clear e h80 h2f h7f h39 hc hg hfi hmin hS0 hin hla hwr hS
       show Calls Tryz.prog 169 _ W fun r w' => (∃ x, r = .returned x) /\ TP G W p q ({ s with fi := false, wr := bl, so := true, la := 65535 }) (L ++ []) w'
       go_enter Tryz.func169, Tryz.ntmps169
       go_wp2_with fail
       refine (ctl_any c _).mono ?_
       rintro r w2 ⟨rfl, rfl⟩
       rw [hct]
       go_wp2
       go_end0
       exact ⟨⟨_, rfl⟩, by simpa only [List.append_nil] using tp_rr HRV.out (fun _ h => .inl h) HKV.out⟩
   have g39 : decide (c <= 57) = false := decide_eq_false h39
   by_cases h59 : c = 59
   ·have g59 : (c == 59) = true := by simp [h59]
    obtain ⟨bl, hbl⟩ : ∃ b, decide (0 < iN) = b := ⟨_, rfl⟩
    have hbl' : decide ((0 : Int) < (iN : Int)) = bl := by rw [<- hbl]; congr 1; simp
    cases hwr : s.wr with
    | true =>
     have e : headS s c = (nextS { s with fi := false, wr := true, so := true }, []) := by unfold headS; rw [hfi, hct]; simp only [Bool.false_or, Bool.true_and, Bool.false_and, Bool.false_eq_true, if_false, g127, if_neg h80, if_neg h2f, if_neg h7f, if_neg h39, if_pos h59, hwr, hin, hbl, Bool.true_or]
     obtain ⟨⟨k1_0, k1_0f⟩, -, -, -, ⟨k1_4, k1_4f⟩, ⟨k1_5, k1_5f⟩, ⟨k1_6, k1_6f⟩, -, ⟨k1_8, k1_8f⟩, ⟨k1_9, k1_9f⟩, -, ⟨k1_11, k1_11f⟩⟩ := pcells hc.pb
     obtain ⟨V1, hV1, hb1, ⟨k2_0, k2_0f⟩, -, -, -, ⟨k2_4, k2_4f⟩, ⟨k2_5, k2_5f⟩, -, -, ⟨k2_8, k2_8f⟩, ⟨k2_9, k2_9f⟩, -, ⟨k2_11, k2_11f⟩⟩ := pstep (s' := { s with fi := false }) hc.pb 6 (.bool false) rfl
     obtain ⟨V2, hV2, hb2, ⟨k3_0, k3_0f⟩, -, -, -, ⟨k3_4, k3_4f⟩, ⟨k3_5, k3_5f⟩, -, -, ⟨k3_8, k3_8f⟩, ⟨k3_9, k3_9f⟩, -, ⟨k3_11, k3_11f⟩⟩ := pstep (s' := { s with fi := false, wr := true }) hb1 5 (.bool true) rfl
     obtain ⟨V3, hV3, hb3, ⟨k4_0, k4_0f⟩, -, -, -, ⟨k4_4, k4_4f⟩, ⟨k4_5, k4_5f⟩, -, -, ⟨k4_8, k4_8f⟩, ⟨k4_9, k4_9f⟩, -, ⟨k4_11, k4_11f⟩⟩ := pstep (s' := { s with fi := false, wr := true, so := true }) hb2 8 (.bool true) rfl
     have hkk : Kept (fun i => i = p) W V3 := by rw [<- hV3, <- hV2, <- hV1]; exact (((Kept.refl (fun i => i = p) W).setCell (p := ⟨p, 6, none⟩) (.inl rfl) _).setCell (p := ⟨p, 5, none⟩) (.inl rfl) _).setCell (p := ⟨p, 8, none⟩) (.inl rfl) _
     have hcV := hc.upd (s' := { s with fi := false, wr := true, so := true }) hkk hb3 rfl rfl rfl rfl ⟨hc.ok.st, hc.ok.it, hc.ok.ps, hc.ok.la, hc.ok.ds⟩
     have HRV := Lib.hid (show RR G V3 p q { s with fi := false, wr := true, so := true } L from ⟨d, _, vp, vd, vo, hcV, hg⟩)
     have HKV := Lib.hid (show Kept G W V3 from hkk.mono fun i _ h => (hg i).2 (.inl h))
     try simp only at k2_0 k2_4 k2_5 k2_8 k2_9 k2_11 k3_0 k3_4 k3_5 k3_8 k3_9 k3_11 k4_0 k4_4 k4_5 k4_8 k4_9 k4_11
     clear hb1 hb2 hb3 hkk hcV
     rw [hwr] at k2_5
     have HB := Lib.hid (next_any G V3 p q _ L HRV.out)
     rw [e] at hn ⊢
     clear e h80 h2f h7f h39 h59 hc hg hfi hin hla hwr
     show Calls Tryz.prog 169 _ W fun r w' => (∃ x, r = .returned x) /\ TP G W p q (nextS { s with fi := false, wr := true, so := true }) (L ++ []) w'
     go_enter Tryz.func169, Tryz.ntmps169
     go_wp2_with fail
     refine (ctl_any c _).mono ?_
     rintro r w2 ⟨rfl, rfl⟩
     rw [hct]
     go_wp2_with fail
     refine (HB.out).mono ?_
     rintro r w3 ⟨⟨x, rfl⟩, ht⟩
     have HT := Lib.hid (TP.then (fun _ h => .inl h) HKV.out ht)
     clear ht
     go_wp2
     go_end0
     exact ⟨⟨_, rfl⟩, by simpa only [List.append_nil] using HT.out⟩
    | false =>
     have e : headS s c = (nextS { s with fi := false, wr := bl, so := true }, []) := by unfold headS; rw [hfi, hct]; simp only [Bool.false_or, Bool.true_and, Bool.false_and, Bool.false_eq_true, if_false, g127, if_neg h80, if_neg h2f, if_neg h7f, if_neg h39, if_pos h59, hwr, hin, hbl, Bool.false_or]
     obtain ⟨⟨k1_0, k1_0f⟩, -, -, -, ⟨k1_4, k1_4f⟩, ⟨k1_5, k1_5f⟩, ⟨k1_6, k1_6f⟩, -, ⟨k1_8, k1_8f⟩, ⟨k1_9, k1_9f⟩, -, ⟨k1_11, k1_11f⟩⟩ := pcells hc.pb
     obtain ⟨V1, hV1, hb1, ⟨k2_0, k2_0f⟩, -, -, -, ⟨k2_4, k2_4f⟩, ⟨k2_5, k2_5f⟩, -, -, ⟨k2_8, k2_8f⟩, ⟨k2_9, k2_9f⟩, -, ⟨k2_11, k2_11f⟩⟩ := pstep (s' := { s with fi := false }) hc.pb 6 (.bool false) rfl
     obtain ⟨V2, hV2, hb2, ⟨k3_0, k3_0f⟩, -, -, -, ⟨k3_4, k3_4f⟩, ⟨k3_5, k3_5f⟩, -, -, ⟨k3_8, k3_8f⟩, ⟨k3_9, k3_9f⟩, -, ⟨k3_11, k3_11f⟩⟩ := pstep (s' := { s with fi := false, wr := bl }) hb1 5 (.bool bl) rfl
     obtain ⟨V3, hV3, hb3, ⟨k4_0, k4_0f⟩, -, -, -, ⟨k4_4, k4_4f⟩, ⟨k4_5, k4_5f⟩, -, -, ⟨k4_8, k4_8f⟩, ⟨k4_9, k4_9f⟩, -, ⟨k4_11, k4_11f⟩⟩ := pstep (s' := { s with fi := false, wr := bl, so := true }) hb2 8 (.bool true) rfl
     have hkk : Kept (fun i => i = p) W V3 := by rw [<- hV3, <- hV2, <- hV1]; exact (((Kept.refl (fun i => i = p) W).setCell (p := ⟨p, 6, none⟩) (.inl rfl) _).setCell (p := ⟨p, 5, none⟩) (.inl rfl) _).setCell (p := ⟨p, 8, none⟩) (.inl rfl) _
     have hcV := hc.upd (s' := { s with fi := false, wr := bl, so := true }) hkk hb3 rfl rfl rfl rfl ⟨hc.ok.st, hc.ok.it, hc.ok.ps, hc.ok.la, hc.ok.ds⟩
     have HRV := Lib.hid (show RR G V3 p q { s with fi := false, wr := bl, so := true } L from ⟨d, _, vp, vd, vo, hcV, hg⟩)
     have HKV := Lib.hid (show Kept G W V3 from hkk.mono fun i _ h => (hg i).2 (.inl h))
     try simp only at k2_0 k2_4 k2_5 k2_8 k2_9 k2_11 k3_0 k3_4 k3_5 k3_8 k3_9 k3_11 k4_0 k4_4 k4_5 k4_8 k4_9 k4_11
     clear hb1 hb2 hb3 hkk hcV
     rw [hwr] at k2_5
     have HB := Lib.hid (next_any G V3 p q _ L HRV.out)
     rw [e] at hn ⊢
     clear e h80 h2f h7f h39 h59 hc hg hfi hin hla hwr
     show Calls Tryz.prog 169 _ W fun r w' => (∃ x, r = .returned x) /\ TP G W p q (nextS { s with fi := false, wr := bl, so := true }) (L ++ []) w'
     go_enter Tryz.func169, Tryz.ntmps169
     go_wp2_with fail
     refine (ctl_any c _).mono ?_
     rintro r w2 ⟨rfl, rfl⟩
     rw [hct]
     go_wp2_with fail
     refine (HB.out).mono ?_
     rintro r w3 ⟨⟨x, rfl⟩, ht⟩
     have HT := Lib.hid (TP.then (fun _ h => .inl h) HKV.out ht)
     clear ht
     go_wp2
     go_end0
     exact ⟨⟨_, rfl⟩, by simpa only [List.append_nil] using HT.out⟩
   have g59 : (c == 59) = false := by simp [h59]
   by_cases h63 : c <= 63
   ·have g63 : decide (c <= 63) = true := decide_eq_true h63
    by_cases h60 : 60 <= c
    ·have g60 : decide (60 <= c) = true := decide_eq_true h60
     have e : headS s c = ({ s with fi := false, wr := true }, []) := by unfold headS; rw [hfi, hct]; simp only [Bool.false_or, Bool.true_and, Bool.false_and, Bool.false_eq_true, if_false, g127, if_neg h80, if_neg h2f, if_neg h7f, if_neg h39, if_neg h59, if_pos h63, and_false]
     obtain ⟨⟨k1_0, k1_0f⟩, -, -, -, ⟨k1_4, k1_4f⟩, ⟨k1_5, k1_5f⟩, ⟨k1_6, k1_6f⟩, -, ⟨k1_8, k1_8f⟩, ⟨k1_9, k1_9f⟩, -, ⟨k1_11, k1_11f⟩⟩ := pcells hc.pb
     obtain ⟨V1, hV1, hb1, ⟨k2_0, k2_0f⟩, -, -, -, ⟨k2_4, k2_4f⟩, ⟨k2_5, k2_5f⟩, -, -, ⟨k2_8, k2_8f⟩, ⟨k2_9, k2_9f⟩, -, ⟨k2_11, k2_11f⟩⟩ := pstep (s' := { s with fi := false }) hc.pb 6 (.bool false) rfl
     obtain ⟨V2, hV2, hb2, ⟨k3_0, k3_0f⟩, -, -, -, ⟨k3_4, k3_4f⟩, ⟨k3_5, k3_5f⟩, -, -, ⟨k3_8, k3_8f⟩, ⟨k3_9, k3_9f⟩, -, ⟨k3_11, k3_11f⟩⟩ := pstep (s' := { s with fi := false, wr := true }) hb1 5 (.bool true) rfl
     have hkk : Kept (fun i => i = p) W V2 := by rw [<- hV2, <- hV1]; exact ((Kept.refl (fun i => i = p) W).setCell (p := ⟨p, 6, none⟩) (.inl rfl) _).setCell (p := ⟨p, 5, none⟩) (.inl rfl) _
     have hcV := hc.upd (s' := { s with fi := false, wr := true }) hkk hb2 rfl rfl rfl rfl ⟨hc.ok.st, hc.ok.it, hc.ok.ps, hc.ok.la, hc.ok.ds⟩
     have HRV := Lib.hid (show RR G V2 p q { s with fi := false, wr := true } L from ⟨d, _, vp, vd, vo, hcV, hg⟩)
     have HKV := Lib.hid (show Kept G W V2 from hkk.mono fun i _ h => (hg i).2 (.inl h))
     try simp only at k2_0 k2_4 k2_5 k2_8 k2_9 k2_11 k3_0 k3_4 k3_5 k3_8 k3_9 k3_11
     clear hb1 hb2 hkk hcV
     rw [e] at hn ⊢
     clear e h80 h2f h7f h39 h59 h63 h60 hc hg hfi
     show Calls Tryz.prog 169 _ W fun r w' => (∃ x, r = .returned x) /\ TP G W p q ({ s with fi := false, wr := true }) (L ++ []) w'
     go_enter Tryz.func169, Tryz.ntmps169
     go_wp2_with fail
     refine (ctl_any c _).mono ?_
     rintro r w2 ⟨rfl, rfl⟩
     rw [hct]
     go_wp2
     go_end0
     exact ⟨⟨_, rfl⟩, by simpa only [List.append_nil] using tp_rr HRV.out (fun _ h => .inl h) HKV.out⟩
    ·have g60 : decide (60 <= c) = false := decide_eq_false h60
     have e : headS s c = ({ s with fi := false, wr := true }, []) := by unfold headS; rw [hfi, hct]; simp only [Bool.false_or, Bool.true_and, Bool.false_and, Bool.false_eq_true, if_false, g127, if_neg h80, if_neg h2f, if_neg h7f, if_neg h39, if_neg h59, if_pos h63, and_false]
     obtain ⟨⟨k1_0, k1_0f⟩, -, -, -, ⟨k1_4, k1_4f⟩, ⟨k1_5, k1_5f⟩, ⟨k1_6, k1_6f⟩, -, ⟨k1_8, k1_8f⟩, ⟨k1_9, k1_9f⟩, -, ⟨k1_11, k1_11f⟩⟩ := pcells hc.pb
     obtain ⟨V1, hV1, hb1, ⟨k2_0, k2_0f⟩, -, -, -, ⟨k2_4, k2_4f⟩, ⟨k2_5, k2_5f⟩, -, -, ⟨k2_8, k2_8f⟩, ⟨k2_9, k2_9f⟩, -, ⟨k2_11, k2_11f⟩⟩ := pstep (s' := { s with fi := false }) hc.pb 6 (.bool false) rfl
     obtain ⟨V2, hV2, hb2, ⟨k3_0, k3_0f⟩, -, -, -, ⟨k3_4, k3_4f⟩, ⟨k3_5, k3_5f⟩, -, -, ⟨k3_8, k3_8f⟩, ⟨k3_9, k3_9f⟩, -, ⟨k3_11, k3_11f⟩⟩ := pstep (s' := { s with fi := false, wr := true }) hb1 5 (.bool true) rfl
     have hkk : Kept (fun i => i = p) W V2 := by rw [<- hV2, <- hV1]; exact ((Kept.refl (fun i => i = p) W).setCell (p := ⟨p, 6, none⟩) (.inl rfl) _).setCell (p := ⟨p, 5, none⟩) (.inl rfl) _
     have hcV := hc.upd (s' := { s with fi := false, wr := true }) hkk hb2 rfl rfl rfl rfl ⟨hc.ok.st, hc.ok.it, hc.ok.ps, hc.ok.la, hc.ok.ds⟩
     have HRV := Lib.hid (show RR G V2 p q { s with fi := false, wr := true } L from ⟨d, _, vp, vd, vo, hcV, hg⟩)
     have HKV := Lib.hid (show Kept G W V2 from hkk.mono fun i _ h => (hg i).2 (.inl h))
     try simp only at k2_0 k2_4 k2_5 k2_8 k2_9 k2_11 k3_0 k3_4 k3_5 k3_8 k3_9 k3_11
     clear hb1 hb2 hkk hcV
     rw [e] at hn ⊢
     clear e h80 h2f h7f h39 h59 h63 h60 hc hg hfi
     show Calls Tryz.prog 169 _ W fun r w' => (∃ x, r = .returned x) /\ TP G W p q ({ s with fi := false, wr := true }) (L ++ []) w'
     go_enter Tryz.func169, Tryz.ntmps169
     go_wp2_with fail
     refine (ctl_any c _).mono ?_
     rintro r w2 ⟨rfl, rfl⟩
     rw [hct]
     go_wp2
     go_end0
     exact ⟨⟨_, rfl⟩, by simpa only [List.append_nil] using tp_rr HRV.out (fun _ h => .inl h) HKV.out⟩
   have g63 : decide (c <= 63) = false := decide_eq_false h63
   have g60 : decide (60 <= c) = true := decide_eq_true (by omega)
   have e : headS s c = ((finalS { s with fi := false } c).1, (finalS { s with fi := false } c).2) := by unfold headS; rw [hfi, hct]; simp only [Bool.false_or, Bool.true_and, Bool.false_and, Bool.false_eq_true, if_false, g127, if_neg h80, if_neg h2f, if_neg h7f, if_neg h39, if_neg h59, and_false, if_neg h63]
   obtain ⟨⟨k1_0, k1_0f⟩, -, -, -, ⟨k1_4, k1_4f⟩, ⟨k1_5, k1_5f⟩, ⟨k1_6, k1_6f⟩, -, ⟨k1_8, k1_8f⟩, ⟨k1_9, k1_9f⟩, -, ⟨k1_11, k1_11f⟩⟩ := pcells hc.pb
   obtain ⟨V1, hV1, hb1, ⟨k2_0, k2_0f⟩, -, -, -, ⟨k2_4, k2_4f⟩, ⟨k2_5, k2_5f⟩, -, -, ⟨k2_8, k2_8f⟩, ⟨k2_9, k2_9f⟩, -, ⟨k2_11, k2_11f⟩⟩ := pstep (s' := { s with fi := false }) hc.pb 6 (.bool false) rfl
   have hkk : Kept (fun i => i = p) W V1 := by rw [<- hV1]; exact (Kept.refl (fun i => i = p) W).setCell (p := ⟨p, 6, none⟩) (.inl rfl) _
   have hcV := hc.upd (s' := { s with fi := false }) hkk hb1 rfl rfl rfl rfl ⟨hc.ok.st, hc.ok.it, hc.ok.ps, hc.ok.la, hc.ok.ds⟩
   have HRV := Lib.hid (show RR G V1 p q { s with fi := false } L from ⟨d, _, vp, vd, vo, hcV, hg⟩)
   have HKV := Lib.hid (show Kept G W V1 from hkk.mono fun i _ h => (hg i).2 (.inl h))
   try simp only at k2_0 k2_4 k2_5 k2_8 k2_9 k2_11
   clear hb1 hkk hcV
   have HB := Lib.hid (fun hn => final_any G V1 p q _ L c HRV.out hn)
   rw [e] at hn ⊢
   clear e h80 h2f h7f h39 h59 h63 hc hg hfi
   go_enter Tryz.func169, Tryz.ntmps169
   go_wp2_with fail
   refine (ctl_any c _).mono ?_
   rintro r w2 ⟨rfl, rfl⟩
   rw [hct]
   go_wp2_with fail
   refine (HB.out hn).mono ?_
   rintro r w3 ⟨⟨x, rfl⟩, ht⟩
   have HT := Lib.hid (TP.then (fun _ h => .inl h) HKV.out ht)
   clear ht
   go_wp2
   go_end0
   exact ⟨⟨_, rfl⟩, HT.out⟩
end Go.Proofs.YtmplpcmcbliadaaGreatDoor
