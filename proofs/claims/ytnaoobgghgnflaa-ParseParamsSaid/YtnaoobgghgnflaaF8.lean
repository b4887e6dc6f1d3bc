/- The parser: a byte of a sequence. -/
import Derived.Test.YtnaoobgghgnflaaF7
namespace Go.Proofs.Ytnaoobgghgnflaa
open Go.RowKit Pl
set_option linter.unusedVariables false
set_option linter.unusedSimpArgs false
set_option maxRecDepth 100000 in
set_option maxHeartbeats 8000000 in
theorem head_any (G : Nat → Prop) (W : World) (p q : Nat) (s : PS) (L : List Ev) (c : Int) (hc0 : 0 ≤ c) (hc1 : c < 256) (hR : RR G W p q s L) (hn : L.length ≤ 600000) :
    Calls Try.prog 39 #[.pointer (some ⟨p, 0, none⟩), .int .u8 c] W fun r w' => (∃ x, r = .returned x) ∧ TP G W p q (headS s c).1 (L ++ (headS s c).2) w' := by
  obtain ⟨d, vi, vp, vd, vo, Vs, hc, hg⟩ := hR
  obtain ⟨ia, ic, hie, -⟩ := hc.hi.shape
  obtain ⟨iN, hin⟩ : ∃ n, s.it.length = n := ⟨_, rfl⟩
  rw [hin] at hie
  subst hie
  obtain ⟨-, -, -, -, -, -, ⟨c6, c6f⟩, -, -, -, -, -⟩ := pcells hc.pb
  have hla := hc.ok.la
  cases hfi : s.fi with
  | true =>
    rw [hfi] at c6
    cases hct : ctlB c with
    | true =>
      obtain ⟨⟨k1_0, k1_0f⟩, -, -, -, ⟨k1_4, k1_4f⟩, ⟨k1_5, k1_5f⟩, ⟨k1_6, k1_6f⟩, -, ⟨k1_8, k1_8f⟩, ⟨k1_9, k1_9f⟩, -, ⟨k1_11, k1_11f⟩⟩ := pcells hc.pb
      obtain ⟨V1, hV1⟩ : ∃ V, W.setCell ⟨p, 6, none⟩ (.bool true) = V := ⟨_, rfl⟩
      have hb1 : V1.heap[p]? = some (.cells (PC { s with fi := true } d (.slice ia iN ic) vp vd (sayV q)) 43 (0, 0)) := by rw [← hV1]; exact blk_set hc.pb 6 _
      obtain ⟨⟨k2_0, k2_0f⟩, -, -, -, ⟨k2_4, k2_4f⟩, ⟨k2_5, k2_5f⟩, -, -, ⟨k2_8, k2_8f⟩, ⟨k2_9, k2_9f⟩, -, ⟨k2_11, k2_11f⟩⟩ := pcells hb1
      have hkk : Kept (fun i => i = p) W V1 := by rw [← hV1]; exact (Kept.refl (fun i => i = p) W).setCell (p := ⟨p, 6, none⟩) (.inl rfl) _
      have hcV := hc.upd (s' := { s with fi := true }) hkk hb1 rfl rfl rfl rfl ⟨hc.ok.st, hc.ok.it, hc.ok.ps, hc.ok.la, hc.ok.ds⟩
      have HRV := Lib.hid (show RR G V1 p q { s with fi := true } L from ⟨d, _, vp, vd, vo, Vs, hcV, hg⟩)
      have HKV := Lib.hid (show Kept G W V1 from hkk.mono fun i _ h => (hg i).2 (.inl h))
      try simp only at k2_0 k2_4 k2_5 k2_8 k2_9 k2_11
      clear hb1 hkk hcV
      by_cases h2 : s.st = 2
      · have e : headS s c = ({ s with fi := true }, [evX 2 0 c]) := by unfold headS; simp only [hfi, hct, if_true, if_pos h2]; rfl
        have g2 : (s.st == 2) = true := by simp [h2]
        have HS := Lib.hid (sayX G V1 p q _ L HRV.out (by omega) 2 0 c)
        unfold sayV at k2_11
        rw [e]
        clear e h2 hc hg hfi
        show Calls Try.prog 39 _ W fun r w' => (∃ x, r = .returned x) ∧ TP G W p q ({ s with fi := true }) (L ++ [evX 2 0 c]) w'
        go_enter Try.func39, Try.ntmps39
        go_wp2_with fail
        refine (ctl_any c W).mono ?_
        rintro r w1 ⟨rfl, rfl⟩
        rw [hct]
        go_wp2_with fail
        refine (ctl_any c _).mono ?_
        rintro r w2 ⟨rfl, rfl⟩
        rw [hct]
        go_wp2_with fail
        refine (HS.out).mono ?_
        rintro r w3 ⟨⟨x, rfl⟩, ht⟩
        have HT := Lib.hid (TP.then (fun _ h => .inl h) HKV.out ht)
        clear ht
        go_wp2
        go_end0
        exact ⟨⟨_, rfl⟩, HT.out⟩
      · have e : headS s c = ({ s with fi := true }, []) := by unfold headS; simp only [hfi, hct, if_true, if_neg h2]; rfl
        have g2 : (s.st == 2) = false := by simp [h2]
        rw [e]
        clear e h2 hc hg hfi
        show Calls Try.prog 39 _ W fun r w' => (∃ x, r = .returned x) ∧ TP G W p q ({ s with fi := true }) (L ++ []) w'
        go_enter Try.func39, Try.ntmps39
        go_wp2_with fail
        refine (ctl_any c W).mono ?_
        rintro r w1 ⟨rfl, rfl⟩
        rw [hct]
        go_wp2_with fail
        refine (ctl_any c _).mono ?_
        rintro r w2 ⟨rfl, rfl⟩
        rw [hct]
        go_wp2
        go_end0
        exact ⟨⟨_, rfl⟩, by rw [List.append_nil]; exact tp_rr HRV.out (fun _ h => .inl h) HKV.out⟩
    | false =>
      by_cases h80 : 128 ≤ c
      · have g127 : (c == 127) = false := by simp; omega
        have g80 : decide (128 ≤ c) = true := decide_eq_true h80
        have e : headS s c = ((backS { s with fi := false } c).1, (backS { s with fi := false } c).2) := by unfold headS; rw [hfi, hct]; simp only [Bool.false_or, Bool.true_and, Bool.false_and, Bool.false_eq_true, if_false, g127, if_pos h80]
        obtain ⟨⟨k1_0, k1_0f⟩, -, -, -, ⟨k1_4, k1_4f⟩, ⟨k1_5, k1_5f⟩, ⟨k1_6, k1_6f⟩, -, ⟨k1_8, k1_8f⟩, ⟨k1_9, k1_9f⟩, -, ⟨k1_11, k1_11f⟩⟩ := pcells hc.pb
        obtain ⟨V1, hV1⟩ : ∃ V, W.setCell ⟨p, 6, none⟩ (.bool false) = V := ⟨_, rfl⟩
        have hb1 : V1.heap[p]? = some (.cells (PC { s with fi := false } d (.slice ia iN ic) vp vd (sayV q)) 43 (0, 0)) := by rw [← hV1]; exact blk_set hc.pb 6 _
        obtain ⟨⟨k2_0, k2_0f⟩, -, -, -, ⟨k2_4, k2_4f⟩, ⟨k2_5, k2_5f⟩, -, -, ⟨k2_8, k2_8f⟩, ⟨k2_9, k2_9f⟩, -, ⟨k2_11, k2_11f⟩⟩ := pcells hb1
        have hkk : Kept (fun i => i = p) W V1 := by rw [← hV1]; exact (Kept.refl (fun i => i = p) W).setCell (p := ⟨p, 6, none⟩) (.inl rfl) _
        have hcV := hc.upd (s' := { s with fi := false }) hkk hb1 rfl rfl rfl rfl ⟨hc.ok.st, hc.ok.it, hc.ok.ps, hc.ok.la, hc.ok.ds⟩
        have HRV := Lib.hid (show RR G V1 p q { s with fi := false } L from ⟨d, _, vp, vd, vo, Vs, hcV, hg⟩)
        have HKV := Lib.hid (show Kept G W V1 from hkk.mono fun i _ h => (hg i).2 (.inl h))
        try simp only at k2_0 k2_4 k2_5 k2_8 k2_9 k2_11
        clear hb1 hkk hcV
        have HB := Lib.hid (back_any G V1 p q _ L c hc0 hc1 HRV.out (by omega))
        rw [e]
        clear e h80 hc hg hfi
        go_enter Try.func39, Try.ntmps39
        go_wp2_with fail
        refine (ctl_any c W).mono ?_
        rintro r w1 ⟨rfl, rfl⟩
        rw [hct]
        go_wp2_with fail
        refine (ctl_any c _).mono ?_
        rintro r w2 ⟨rfl, rfl⟩
        rw [hct]
        go_wp2_with fail
        refine (HB.out).mono ?_
        rintro r w3 ⟨⟨x, rfl⟩, ht⟩
        have HT := Lib.hid (TP.then (fun _ h => .inl h) HKV.out ht)
        clear ht
        go_wp2
        go_end0
        exact ⟨⟨_, rfl⟩, HT.out⟩
      have g80 : decide (128 ≤ c) = false := decide_eq_false h80
      by_cases h2f : c ≤ 47
      · have g127 : (c == 127) = false := by simp; omega
        have g2f : decide (c ≤ 47) = true := decide_eq_true h2f
        have e : headS s c = (keepS { s with fi := false } c, []) := by unfold headS; rw [hfi, hct]; simp only [Bool.false_or, Bool.true_and, Bool.false_and, Bool.false_eq_true, if_false, g127, if_neg h80, if_pos h2f]
        obtain ⟨⟨k1_0, k1_0f⟩, -, -, -, ⟨k1_4, k1_4f⟩, ⟨k1_5, k1_5f⟩, ⟨k1_6, k1_6f⟩, -, ⟨k1_8, k1_8f⟩, ⟨k1_9, k1_9f⟩, -, ⟨k1_11, k1_11f⟩⟩ := pcells hc.pb
        obtain ⟨V1, hV1⟩ : ∃ V, W.setCell ⟨p, 6, none⟩ (.bool false) = V := ⟨_, rfl⟩
        have hb1 : V1.heap[p]? = some (.cells (PC { s with fi := false } d (.slice ia iN ic) vp vd (sayV q)) 43 (0, 0)) := by rw [← hV1]; exact blk_set hc.pb 6 _
        obtain ⟨⟨k2_0, k2_0f⟩, -, -, -, ⟨k2_4, k2_4f⟩, ⟨k2_5, k2_5f⟩, -, -, ⟨k2_8, k2_8f⟩, ⟨k2_9, k2_9f⟩, -, ⟨k2_11, k2_11f⟩⟩ := pcells hb1
        have hkk : Kept (fun i => i = p) W V1 := by rw [← hV1]; exact (Kept.refl (fun i => i = p) W).setCell (p := ⟨p, 6, none⟩) (.inl rfl) _
        have hcV := hc.upd (s' := { s with fi := false }) hkk hb1 rfl rfl rfl rfl ⟨hc.ok.st, hc.ok.it, hc.ok.ps, hc.ok.la, hc.ok.ds⟩
        have HRV := Lib.hid (show RR G V1 p q { s with fi := false } L from ⟨d, _, vp, vd, vo, Vs, hcV, hg⟩)
        have HKV := Lib.hid (show Kept G W V1 from hkk.mono fun i _ h => (hg i).2 (.inl h))
        try simp only at k2_0 k2_4 k2_5 k2_8 k2_9 k2_11
        clear hb1 hkk hcV
        have HB := Lib.hid (keep_any G V1 p q _ L c HRV.out)
        rw [e]
        clear e h80 h2f hc hg hfi
        show Calls Try.prog 39 _ W fun r w' => (∃ x, r = .returned x) ∧ TP G W p q (keepS { s with fi := false } c) (L ++ []) w'
        go_enter Try.func39, Try.ntmps39
        go_wp2_with fail
        refine (ctl_any c W).mono ?_
        rintro r w1 ⟨rfl, rfl⟩
        rw [hct]
        go_wp2_with fail
        refine (ctl_any c _).mono ?_
        rintro r w2 ⟨rfl, rfl⟩
        rw [hct]
        go_wp2_with fail
        refine (HB.out).mono ?_
        rintro r w3 ⟨⟨x, rfl⟩, ht⟩
        have HT := Lib.hid (TP.then (fun _ h => .inl h) HKV.out ht)
        clear ht
        go_wp2
        go_end0
        exact ⟨⟨_, rfl⟩, by rw [List.append_nil]; exact HT.out⟩
      have g2f : decide (c ≤ 47) = false := decide_eq_false h2f
      by_cases h7f : c = 127
      · have g127 : (c == 127) = true := by simp [h7f]
        have e : headS s c = ({ s with fi := true }, []) := by unfold headS; rw [hfi, hct]; simp only [Bool.false_or, Bool.true_and, Bool.false_and, Bool.false_eq_true, if_false, g127, if_neg h80, if_neg h2f, if_pos h7f]
        obtain ⟨⟨k1_0, k1_0f⟩, -, -, -, ⟨k1_4, k1_4f⟩, ⟨k1_5, k1_5f⟩, ⟨k1_6, k1_6f⟩, -, ⟨k1_8, k1_8f⟩, ⟨k1_9, k1_9f⟩, -, ⟨k1_11, k1_11f⟩⟩ := pcells hc.pb
        obtain ⟨V1, hV1⟩ : ∃ V, W.setCell ⟨p, 6, none⟩ (.bool true) = V := ⟨_, rfl⟩
        have hb1 : V1.heap[p]? = some (.cells (PC { s with fi := true } d (.slice ia iN ic) vp vd (sayV q)) 43 (0, 0)) := by rw [← hV1]; exact blk_set hc.pb 6 _
        obtain ⟨⟨k2_0, k2_0f⟩, -, -, -, ⟨k2_4, k2_4f⟩, ⟨k2_5, k2_5f⟩, -, -, ⟨k2_8, k2_8f⟩, ⟨k2_9, k2_9f⟩, -, ⟨k2_11, k2_11f⟩⟩ := pcells hb1
        have hkk : Kept (fun i => i = p) W V1 := by rw [← hV1]; exact (Kept.refl (fun i => i = p) W).setCell (p := ⟨p, 6, none⟩) (.inl rfl) _
        have hcV := hc.upd (s' := { s with fi := true }) hkk hb1 rfl rfl rfl rfl ⟨hc.ok.st, hc.ok.it, hc.ok.ps, hc.ok.la, hc.ok.ds⟩
        have HRV := Lib.hid (show RR G V1 p q { s with fi := true } L from ⟨d, _, vp, vd, vo, Vs, hcV, hg⟩)
        have HKV := Lib.hid (show Kept G W V1 from hkk.mono fun i _ h => (hg i).2 (.inl h))
        try simp only at k2_0 k2_4 k2_5 k2_8 k2_9 k2_11
        clear hb1 hkk hcV
        rw [e]
        clear e h80 h2f h7f hc hg hfi
        show Calls Try.prog 39 _ W fun r w' => (∃ x, r = .returned x) ∧ TP G W p q ({ s with fi := true }) (L ++ []) w'
        go_enter Try.func39, Try.ntmps39
        go_wp2_with fail
        refine (ctl_any c W).mono ?_
        rintro r w1 ⟨rfl, rfl⟩
        rw [hct]
        go_wp2_with fail
        refine (ctl_any c _).mono ?_
        rintro r w2 ⟨rfl, rfl⟩
        rw [hct]
        go_wp2
        go_end0
        exact ⟨⟨_, rfl⟩, by rw [List.append_nil]; exact tp_rr HRV.out (fun _ h => .inl h) HKV.out⟩
      have g127 : (c == 127) = false := by simp [h7f]
      by_cases h39 : c ≤ 57
      · have g39 : decide (c ≤ 57) = true := decide_eq_true h39
        obtain ⟨S, hS⟩ : ∃ S, 10 * s.la + (c - 48) = S := ⟨_, rfl⟩
        have hS0 : 0 ≤ S := by omega
        have w1 : IntKind.i64.wrap (10 * s.la) = 10 * s.la := IntWalk.i64_in _ (by omega)
        have w2 : IntKind.u8.wrap (c - 48) = c - 48 := by rw [IntKind.wrap_u8]; omega
        have w3 : IntKind.i64.wrap (c - 48) = c - 48 := IntWalk.i64_in _ (by omega)
        have w4 : IntKind.i64.wrap (10 * s.la + (c - 48)) = S := by rw [hS]; exact IntWalk.i64_in _ (by omega)
        obtain ⟨bl, hbl⟩ : ∃ b, decide (0 < iN) = b := ⟨_, rfl⟩
        have hbl' : decide ((0 : Int) < (iN : Int)) = bl := by rw [← hbl]; congr 1; simp
        cases hwr : s.wr with
        | true =>
          by_cases hm : S < 65535
          · have hm2 : ¬ 65535 < S := by omega
            have hmin : min S 65535 = S := Int.min_eq_left (by omega)
            have e : headS s c = ({ s with fi := false, wr := true, so := true, la := S }, []) := by unfold headS; rw [hfi, hct]; simp only [Bool.false_or, Bool.true_and, Bool.false_and, Bool.false_eq_true, if_false, g127, if_neg h80, if_neg h2f, if_neg h7f, if_pos h39, hS, hmin, hwr, hin, hbl, Bool.true_or]
            obtain ⟨⟨k1_0, k1_0f⟩, -, -, -, ⟨k1_4, k1_4f⟩, ⟨k1_5, k1_5f⟩, ⟨k1_6, k1_6f⟩, -, ⟨k1_8, k1_8f⟩, ⟨k1_9, k1_9f⟩, -, ⟨k1_11, k1_11f⟩⟩ := pcells hc.pb
            obtain ⟨V1, hV1⟩ : ∃ V, W.setCell ⟨p, 6, none⟩ (.bool false) = V := ⟨_, rfl⟩
            have hb1 : V1.heap[p]? = some (.cells (PC { s with fi := false } d (.slice ia iN ic) vp vd (sayV q)) 43 (0, 0)) := by rw [← hV1]; exact blk_set hc.pb 6 _
            obtain ⟨⟨k2_0, k2_0f⟩, -, -, -, ⟨k2_4, k2_4f⟩, ⟨k2_5, k2_5f⟩, -, -, ⟨k2_8, k2_8f⟩, ⟨k2_9, k2_9f⟩, -, ⟨k2_11, k2_11f⟩⟩ := pcells hb1
            obtain ⟨V2, hV2⟩ : ∃ V, V1.setCell ⟨p, 5, none⟩ (.bool true) = V := ⟨_, rfl⟩
            have hb2 : V2.heap[p]? = some (.cells (PC { s with fi := false, wr := true } d (.slice ia iN ic) vp vd (sayV q)) 43 (0, 0)) := by rw [← hV2]; exact blk_set hb1 5 _
            obtain ⟨⟨k3_0, k3_0f⟩, -, -, -, ⟨k3_4, k3_4f⟩, ⟨k3_5, k3_5f⟩, -, -, ⟨k3_8, k3_8f⟩, ⟨k3_9, k3_9f⟩, -, ⟨k3_11, k3_11f⟩⟩ := pcells hb2
            obtain ⟨V3, hV3⟩ : ∃ V, V2.setCell ⟨p, 8, none⟩ (.bool true) = V := ⟨_, rfl⟩
            have hb3 : V3.heap[p]? = some (.cells (PC { s with fi := false, wr := true, so := true } d (.slice ia iN ic) vp vd (sayV q)) 43 (0, 0)) := by rw [← hV3]; exact blk_set hb2 8 _
            obtain ⟨⟨k4_0, k4_0f⟩, -, -, -, ⟨k4_4, k4_4f⟩, ⟨k4_5, k4_5f⟩, -, -, ⟨k4_8, k4_8f⟩, ⟨k4_9, k4_9f⟩, -, ⟨k4_11, k4_11f⟩⟩ := pcells hb3
            obtain ⟨V4, hV4⟩ : ∃ V, V3.setCell ⟨p, 9, none⟩ (.int .i64 S) = V := ⟨_, rfl⟩
            have hb4 : V4.heap[p]? = some (.cells (PC { s with fi := false, wr := true, so := true, la := S } d (.slice ia iN ic) vp vd (sayV q)) 43 (0, 0)) := by rw [← hV4]; exact blk_set hb3 9 _
            obtain ⟨⟨k5_0, k5_0f⟩, -, -, -, ⟨k5_4, k5_4f⟩, ⟨k5_5, k5_5f⟩, -, -, ⟨k5_8, k5_8f⟩, ⟨k5_9, k5_9f⟩, -, ⟨k5_11, k5_11f⟩⟩ := pcells hb4
            have hkk : Kept (fun i => i = p) W V4 := by rw [← hV4, ← hV3, ← hV2, ← hV1]; exact ((((Kept.refl (fun i => i = p) W).setCell (p := ⟨p, 6, none⟩) (.inl rfl) _).setCell (p := ⟨p, 5, none⟩) (.inl rfl) _).setCell (p := ⟨p, 8, none⟩) (.inl rfl) _).setCell (p := ⟨p, 9, none⟩) (.inl rfl) _
            have hcV := hc.upd (s' := { s with fi := false, wr := true, so := true, la := S }) hkk hb4 rfl rfl rfl rfl ⟨hc.ok.st, hc.ok.it, hc.ok.ps, by simp; omega, hc.ok.ds⟩
            have HRV := Lib.hid (show RR G V4 p q { s with fi := false, wr := true, so := true, la := S } L from ⟨d, _, vp, vd, vo, Vs, hcV, hg⟩)
            have HKV := Lib.hid (show Kept G W V4 from hkk.mono fun i _ h => (hg i).2 (.inl h))
            try simp only at k2_0 k2_4 k2_5 k2_8 k2_9 k2_11 k3_0 k3_4 k3_5 k3_8 k3_9 k3_11 k4_0 k4_4 k4_5 k4_8 k4_9 k4_11 k5_0 k5_4 k5_5 k5_8 k5_9 k5_11
            clear hb1 hb2 hb3 hb4 hkk hcV
            rw [hwr] at k2_5
            rw [e]
            clear e h80 h2f h7f h39 hc hg hfi hmin hS0 hin hla hwr hS
            show Calls Try.prog 39 _ W fun r w' => (∃ x, r = .returned x) ∧ TP G W p q ({ s with fi := false, wr := true, so := true, la := S }) (L ++ []) w'
            go_enter Try.func39, Try.ntmps39
            go_wp2_with fail
            refine (ctl_any c W).mono ?_
            rintro r w1 ⟨rfl, rfl⟩
            rw [hct]
            go_wp2_with fail
            refine (ctl_any c _).mono ?_
            rintro r w2 ⟨rfl, rfl⟩
            rw [hct]
            go_wp2
            go_end0
            exact ⟨⟨_, rfl⟩, by rw [List.append_nil]; exact tp_rr HRV.out (fun _ h => .inl h) HKV.out⟩
          · by_cases hm2 : 65535 < S
            · have hmin : min S 65535 = 65535 := Int.min_eq_right (by omega)
              have e : headS s c = ({ s with fi := false, wr := true, so := true, la := 65535 }, []) := by unfold headS; rw [hfi, hct]; simp only [Bool.false_or, Bool.true_and, Bool.false_and, Bool.false_eq_true, if_false, g127, if_neg h80, if_neg h2f, if_neg h7f, if_pos h39, hS, hmin, hwr, hin, hbl, Bool.true_or]
              obtain ⟨⟨k1_0, k1_0f⟩, -, -, -, ⟨k1_4, k1_4f⟩, ⟨k1_5, k1_5f⟩, ⟨k1_6, k1_6f⟩, -, ⟨k1_8, k1_8f⟩, ⟨k1_9, k1_9f⟩, -, ⟨k1_11, k1_11f⟩⟩ := pcells hc.pb
              obtain ⟨V1, hV1⟩ : ∃ V, W.setCell ⟨p, 6, none⟩ (.bool false) = V := ⟨_, rfl⟩
              have hb1 : V1.heap[p]? = some (.cells (PC { s with fi := false } d (.slice ia iN ic) vp vd (sayV q)) 43 (0, 0)) := by rw [← hV1]; exact blk_set hc.pb 6 _
              obtain ⟨⟨k2_0, k2_0f⟩, -, -, -, ⟨k2_4, k2_4f⟩, ⟨k2_5, k2_5f⟩, -, -, ⟨k2_8, k2_8f⟩, ⟨k2_9, k2_9f⟩, -, ⟨k2_11, k2_11f⟩⟩ := pcells hb1
              obtain ⟨V2, hV2⟩ : ∃ V, V1.setCell ⟨p, 5, none⟩ (.bool true) = V := ⟨_, rfl⟩
              have hb2 : V2.heap[p]? = some (.cells (PC { s with fi := false, wr := true } d (.slice ia iN ic) vp vd (sayV q)) 43 (0, 0)) := by rw [← hV2]; exact blk_set hb1 5 _
              obtain ⟨⟨k3_0, k3_0f⟩, -, -, -, ⟨k3_4, k3_4f⟩, ⟨k3_5, k3_5f⟩, -, -, ⟨k3_8, k3_8f⟩, ⟨k3_9, k3_9f⟩, -, ⟨k3_11, k3_11f⟩⟩ := pcells hb2
              obtain ⟨V3, hV3⟩ : ∃ V, V2.setCell ⟨p, 8, none⟩ (.bool true) = V := ⟨_, rfl⟩
              have hb3 : V3.heap[p]? = some (.cells (PC { s with fi := false, wr := true, so := true } d (.slice ia iN ic) vp vd (sayV q)) 43 (0, 0)) := by rw [← hV3]; exact blk_set hb2 8 _
              obtain ⟨⟨k4_0, k4_0f⟩, -, -, -, ⟨k4_4, k4_4f⟩, ⟨k4_5, k4_5f⟩, -, -, ⟨k4_8, k4_8f⟩, ⟨k4_9, k4_9f⟩, -, ⟨k4_11, k4_11f⟩⟩ := pcells hb3
              obtain ⟨V4, hV4⟩ : ∃ V, V3.setCell ⟨p, 9, none⟩ (.int .i64 65535) = V := ⟨_, rfl⟩
              have hb4 : V4.heap[p]? = some (.cells (PC { s with fi := false, wr := true, so := true, la := 65535 } d (.slice ia iN ic) vp vd (sayV q)) 43 (0, 0)) := by rw [← hV4]; exact blk_set hb3 9 _
              obtain ⟨⟨k5_0, k5_0f⟩, -, -, -, ⟨k5_4, k5_4f⟩, ⟨k5_5, k5_5f⟩, -, -, ⟨k5_8, k5_8f⟩, ⟨k5_9, k5_9f⟩, -, ⟨k5_11, k5_11f⟩⟩ := pcells hb4
              have hkk : Kept (fun i => i = p) W V4 := by rw [← hV4, ← hV3, ← hV2, ← hV1]; exact ((((Kept.refl (fun i => i = p) W).setCell (p := ⟨p, 6, none⟩) (.inl rfl) _).setCell (p := ⟨p, 5, none⟩) (.inl rfl) _).setCell (p := ⟨p, 8, none⟩) (.inl rfl) _).setCell (p := ⟨p, 9, none⟩) (.inl rfl) _
              have hcV := hc.upd (s' := { s with fi := false, wr := true, so := true, la := 65535 }) hkk hb4 rfl rfl rfl rfl ⟨hc.ok.st, hc.ok.it, hc.ok.ps, by simp, hc.ok.ds⟩
              have HRV := Lib.hid (show RR G V4 p q { s with fi := false, wr := true, so := true, la := 65535 } L from ⟨d, _, vp, vd, vo, Vs, hcV, hg⟩)
              have HKV := Lib.hid (show Kept G W V4 from hkk.mono fun i _ h => (hg i).2 (.inl h))
              try simp only at k2_0 k2_4 k2_5 k2_8 k2_9 k2_11 k3_0 k3_4 k3_5 k3_8 k3_9 k3_11 k4_0 k4_4 k4_5 k4_8 k4_9 k4_11 k5_0 k5_4 k5_5 k5_8 k5_9 k5_11
              clear hb1 hb2 hb3 hb4 hkk hcV
              rw [hwr] at k2_5
              rw [e]
              clear e h80 h2f h7f h39 hc hg hfi hmin hS0 hin hla hwr hS
              show Calls Try.prog 39 _ W fun r w' => (∃ x, r = .returned x) ∧ TP G W p q ({ s with fi := false, wr := true, so := true, la := 65535 }) (L ++ []) w'
              go_enter Try.func39, Try.ntmps39
              go_wp2_with fail
              refine (ctl_any c W).mono ?_
              rintro r w1 ⟨rfl, rfl⟩
              rw [hct]
              go_wp2_with fail
              refine (ctl_any c _).mono ?_
              rintro r w2 ⟨rfl, rfl⟩
              rw [hct]
              go_wp2
              go_end0
              exact ⟨⟨_, rfl⟩, by rw [List.append_nil]; exact tp_rr HRV.out (fun _ h => .inl h) HKV.out⟩
            · obtain rfl : S = 65535 := by omega
              have hmin : min (65535 : Int) 65535 = 65535 := by decide
              have e : headS s c = ({ s with fi := false, wr := true, so := true, la := 65535 }, []) := by unfold headS; rw [hfi, hct]; simp only [Bool.false_or, Bool.true_and, Bool.false_and, Bool.false_eq_true, if_false, g127, if_neg h80, if_neg h2f, if_neg h7f, if_pos h39, hS, hmin, hwr, hin, hbl, Bool.true_or]
              obtain ⟨⟨k1_0, k1_0f⟩, -, -, -, ⟨k1_4, k1_4f⟩, ⟨k1_5, k1_5f⟩, ⟨k1_6, k1_6f⟩, -, ⟨k1_8, k1_8f⟩, ⟨k1_9, k1_9f⟩, -, ⟨k1_11, k1_11f⟩⟩ := pcells hc.pb
              obtain ⟨V1, hV1⟩ : ∃ V, W.setCell ⟨p, 6, none⟩ (.bool false) = V := ⟨_, rfl⟩
              have hb1 : V1.heap[p]? = some (.cells (PC { s with fi := false } d (.slice ia iN ic) vp vd (sayV q)) 43 (0, 0)) := by rw [← hV1]; exact blk_set hc.pb 6 _
              obtain ⟨⟨k2_0, k2_0f⟩, -, -, -, ⟨k2_4, k2_4f⟩, ⟨k2_5, k2_5f⟩, -, -, ⟨k2_8, k2_8f⟩, ⟨k2_9, k2_9f⟩, -, ⟨k2_11, k2_11f⟩⟩ := pcells hb1
              obtain ⟨V2, hV2⟩ : ∃ V, V1.setCell ⟨p, 5, none⟩ (.bool true) = V := ⟨_, rfl⟩
              have hb2 : V2.heap[p]? = some (.cells (PC { s with fi := false, wr := true } d (.slice ia iN ic) vp vd (sayV q)) 43 (0, 0)) := by rw [← hV2]; exact blk_set hb1 5 _
              obtain ⟨⟨k3_0, k3_0f⟩, -, -, -, ⟨k3_4, k3_4f⟩, ⟨k3_5, k3_5f⟩, -, -, ⟨k3_8, k3_8f⟩, ⟨k3_9, k3_9f⟩, -, ⟨k3_11, k3_11f⟩⟩ := pcells hb2
              obtain ⟨V3, hV3⟩ : ∃ V, V2.setCell ⟨p, 8, none⟩ (.bool true) = V := ⟨_, rfl⟩
              have hb3 : V3.heap[p]? = some (.cells (PC { s with fi := false, wr := true, so := true } d (.slice ia iN ic) vp vd (sayV q)) 43 (0, 0)) := by rw [← hV3]; exact blk_set hb2 8 _
              obtain ⟨⟨k4_0, k4_0f⟩, -, -, -, ⟨k4_4, k4_4f⟩, ⟨k4_5, k4_5f⟩, -, -, ⟨k4_8, k4_8f⟩, ⟨k4_9, k4_9f⟩, -, ⟨k4_11, k4_11f⟩⟩ := pcells hb3
              obtain ⟨V4, hV4⟩ : ∃ V, V3.setCell ⟨p, 9, none⟩ (.int .i64 65535) = V := ⟨_, rfl⟩
              have hb4 : V4.heap[p]? = some (.cells (PC { s with fi := false, wr := true, so := true, la := 65535 } d (.slice ia iN ic) vp vd (sayV q)) 43 (0, 0)) := by rw [← hV4]; exact blk_set hb3 9 _
              obtain ⟨⟨k5_0, k5_0f⟩, -, -, -, ⟨k5_4, k5_4f⟩, ⟨k5_5, k5_5f⟩, -, -, ⟨k5_8, k5_8f⟩, ⟨k5_9, k5_9f⟩, -, ⟨k5_11, k5_11f⟩⟩ := pcells hb4
              have hkk : Kept (fun i => i = p) W V4 := by rw [← hV4, ← hV3, ← hV2, ← hV1]; exact ((((Kept.refl (fun i => i = p) W).setCell (p := ⟨p, 6, none⟩) (.inl rfl) _).setCell (p := ⟨p, 5, none⟩) (.inl rfl) _).setCell (p := ⟨p, 8, none⟩) (.inl rfl) _).setCell (p := ⟨p, 9, none⟩) (.inl rfl) _
              have hcV := hc.upd (s' := { s with fi := false, wr := true, so := true, la := 65535 }) hkk hb4 rfl rfl rfl rfl ⟨hc.ok.st, hc.ok.it, hc.ok.ps, by simp, hc.ok.ds⟩
              have HRV := Lib.hid (show RR G V4 p q { s with fi := false, wr := true, so := true, la := 65535 } L from ⟨d, _, vp, vd, vo, Vs, hcV, hg⟩)
              have HKV := Lib.hid (show Kept G W V4 from hkk.mono fun i _ h => (hg i).2 (.inl h))
              try simp only at k2_0 k2_4 k2_5 k2_8 k2_9 k2_11 k3_0 k3_4 k3_5 k3_8 k3_9 k3_11 k4_0 k4_4 k4_5 k4_8 k4_9 k4_11 k5_0 k5_4 k5_5 k5_8 k5_9 k5_11
              clear hb1 hb2 hb3 hb4 hkk hcV
              rw [hwr] at k2_5
              rw [e]
              clear e h80 h2f h7f h39 hc hg hfi hmin hS0 hin hla hwr hS
              show Calls Try.prog 39 _ W fun r w' => (∃ x, r = .returned x) ∧ TP G W p q ({ s with fi := false, wr := true, so := true, la := 65535 }) (L ++ []) w'
              go_enter Try.func39, Try.ntmps39
              go_wp2_with fail
              refine (ctl_any c W).mono ?_
              rintro r w1 ⟨rfl, rfl⟩
              rw [hct]
              go_wp2_with fail
              refine (ctl_any c _).mono ?_
              rintro r w2 ⟨rfl, rfl⟩
              rw [hct]
              go_wp2
              go_end0
              exact ⟨⟨_, rfl⟩, by rw [List.append_nil]; exact tp_rr HRV.out (fun _ h => .inl h) HKV.out⟩
        | false =>
          by_cases hm : S < 65535
          · have hm2 : ¬ 65535 < S := by omega
            have hmin : min S 65535 = S := Int.min_eq_left (by omega)
            have e : headS s c = ({ s with fi := false, wr := bl, so := true, la := S }, []) := by unfold headS; rw [hfi, hct]; simp only [Bool.false_or, Bool.true_and, Bool.false_and, Bool.false_eq_true, if_false, g127, if_neg h80, if_neg h2f, if_neg h7f, if_pos h39, hS, hmin, hwr, hin, hbl, Bool.false_or]
            obtain ⟨⟨k1_0, k1_0f⟩, -, -, -, ⟨k1_4, k1_4f⟩, ⟨k1_5, k1_5f⟩, ⟨k1_6, k1_6f⟩, -, ⟨k1_8, k1_8f⟩, ⟨k1_9, k1_9f⟩, -, ⟨k1_11, k1_11f⟩⟩ := pcells hc.pb
            obtain ⟨V1, hV1⟩ : ∃ V, W.setCell ⟨p, 6, none⟩ (.bool false) = V := ⟨_, rfl⟩
            have hb1 : V1.heap[p]? = some (.cells (PC { s with fi := false } d (.slice ia iN ic) vp vd (sayV q)) 43 (0, 0)) := by rw [← hV1]; exact blk_set hc.pb 6 _
            obtain ⟨⟨k2_0, k2_0f⟩, -, -, -, ⟨k2_4, k2_4f⟩, ⟨k2_5, k2_5f⟩, -, -, ⟨k2_8, k2_8f⟩, ⟨k2_9, k2_9f⟩, -, ⟨k2_11, k2_11f⟩⟩ := pcells hb1
            obtain ⟨V2, hV2⟩ : ∃ V, V1.setCell ⟨p, 5, none⟩ (.bool bl) = V := ⟨_, rfl⟩
            have hb2 : V2.heap[p]? = some (.cells (PC { s with fi := false, wr := bl } d (.slice ia iN ic) vp vd (sayV q)) 43 (0, 0)) := by rw [← hV2]; exact blk_set hb1 5 _
            obtain ⟨⟨k3_0, k3_0f⟩, -, -, -, ⟨k3_4, k3_4f⟩, ⟨k3_5, k3_5f⟩, -, -, ⟨k3_8, k3_8f⟩, ⟨k3_9, k3_9f⟩, -, ⟨k3_11, k3_11f⟩⟩ := pcells hb2
            obtain ⟨V3, hV3⟩ : ∃ V, V2.setCell ⟨p, 8, none⟩ (.bool true) = V := ⟨_, rfl⟩
            have hb3 : V3.heap[p]? = some (.cells (PC { s with fi := false, wr := bl, so := true } d (.slice ia iN ic) vp vd (sayV q)) 43 (0, 0)) := by rw [← hV3]; exact blk_set hb2 8 _
            obtain ⟨⟨k4_0, k4_0f⟩, -, -, -, ⟨k4_4, k4_4f⟩, ⟨k4_5, k4_5f⟩, -, -, ⟨k4_8, k4_8f⟩, ⟨k4_9, k4_9f⟩, -, ⟨k4_11, k4_11f⟩⟩ := pcells hb3
            obtain ⟨V4, hV4⟩ : ∃ V, V3.setCell ⟨p, 9, none⟩ (.int .i64 S) = V := ⟨_, rfl⟩
            have hb4 : V4.heap[p]? = some (.cells (PC { s with fi := false, wr := bl, so := true, la := S } d (.slice ia iN ic) vp vd (sayV q)) 43 (0, 0)) := by rw [← hV4]; exact blk_set hb3 9 _
            obtain ⟨⟨k5_0, k5_0f⟩, -, -, -, ⟨k5_4, k5_4f⟩, ⟨k5_5, k5_5f⟩, -, -, ⟨k5_8, k5_8f⟩, ⟨k5_9, k5_9f⟩, -, ⟨k5_11, k5_11f⟩⟩ := pcells hb4
            have hkk : Kept (fun i => i = p) W V4 := by rw [← hV4, ← hV3, ← hV2, ← hV1]; exact ((((Kept.refl (fun i => i = p) W).setCell (p := ⟨p, 6, none⟩) (.inl rfl) _).setCell (p := ⟨p, 5, none⟩) (.inl rfl) _).setCell (p := ⟨p, 8, none⟩) (.inl rfl) _).setCell (p := ⟨p, 9, none⟩) (.inl rfl) _
            have hcV := hc.upd (s' := { s with fi := false, wr := bl, so := true, la := S }) hkk hb4 rfl rfl rfl rfl ⟨hc.ok.st, hc.ok.it, hc.ok.ps, by simp; omega, hc.ok.ds⟩
            have HRV := Lib.hid (show RR G V4 p q { s with fi := false, wr := bl, so := true, la := S } L from ⟨d, _, vp, vd, vo, Vs, hcV, hg⟩)
            have HKV := Lib.hid (show Kept G W V4 from hkk.mono fun i _ h => (hg i).2 (.inl h))
            try simp only at k2_0 k2_4 k2_5 k2_8 k2_9 k2_11 k3_0 k3_4 k3_5 k3_8 k3_9 k3_11 k4_0 k4_4 k4_5 k4_8 k4_9 k4_11 k5_0 k5_4 k5_5 k5_8 k5_9 k5_11
            clear hb1 hb2 hb3 hb4 hkk hcV
            rw [hwr] at k2_5
            rw [e]
            clear e h80 h2f h7f h39 hc hg hfi hmin hS0 hin hla hwr hS
            show Calls Try.prog 39 _ W fun r w' => (∃ x, r = .returned x) ∧ TP G W p q ({ s with fi := false, wr := bl, so := true, la := S }) (L ++ []) w'
            go_enter Try.func39, Try.ntmps39
            go_wp2_with fail
            refine (ctl_any c W).mono ?_
            rintro r w1 ⟨rfl, rfl⟩
            rw [hct]
            go_wp2_with fail
            refine (ctl_any c _).mono ?_
            rintro r w2 ⟨rfl, rfl⟩
            rw [hct]
            go_wp2
            go_end0
            exact ⟨⟨_, rfl⟩, by rw [List.append_nil]; exact tp_rr HRV.out (fun _ h => .inl h) HKV.out⟩
          · by_cases hm2 : 65535 < S
            · have hmin : min S 65535 = 65535 := Int.min_eq_right (by omega)
              have e : headS s c = ({ s with fi := false, wr := bl, so := true, la := 65535 }, []) := by unfold headS; rw [hfi, hct]; simp only [Bool.false_or, Bool.true_and, Bool.false_and, Bool.false_eq_true, if_false, g127, if_neg h80, if_neg h2f, if_neg h7f, if_pos h39, hS, hmin, hwr, hin, hbl, Bool.false_or]
              obtain ⟨⟨k1_0, k1_0f⟩, -, -, -, ⟨k1_4, k1_4f⟩, ⟨k1_5, k1_5f⟩, ⟨k1_6, k1_6f⟩, -, ⟨k1_8, k1_8f⟩, ⟨k1_9, k1_9f⟩, -, ⟨k1_11, k1_11f⟩⟩ := pcells hc.pb
              obtain ⟨V1, hV1⟩ : ∃ V, W.setCell ⟨p, 6, none⟩ (.bool false) = V := ⟨_, rfl⟩
              have hb1 : V1.heap[p]? = some (.cells (PC { s with fi := false } d (.slice ia iN ic) vp vd (sayV q)) 43 (0, 0)) := by rw [← hV1]; exact blk_set hc.pb 6 _
              obtain ⟨⟨k2_0, k2_0f⟩, -, -, -, ⟨k2_4, k2_4f⟩, ⟨k2_5, k2_5f⟩, -, -, ⟨k2_8, k2_8f⟩, ⟨k2_9, k2_9f⟩, -, ⟨k2_11, k2_11f⟩⟩ := pcells hb1
              obtain ⟨V2, hV2⟩ : ∃ V, V1.setCell ⟨p, 5, none⟩ (.bool bl) = V := ⟨_, rfl⟩
              have hb2 : V2.heap[p]? = some (.cells (PC { s with fi := false, wr := bl } d (.slice ia iN ic) vp vd (sayV q)) 43 (0, 0)) := by rw [← hV2]; exact blk_set hb1 5 _
              obtain ⟨⟨k3_0, k3_0f⟩, -, -, -, ⟨k3_4, k3_4f⟩, ⟨k3_5, k3_5f⟩, -, -, ⟨k3_8, k3_8f⟩, ⟨k3_9, k3_9f⟩, -, ⟨k3_11, k3_11f⟩⟩ := pcells hb2
              obtain ⟨V3, hV3⟩ : ∃ V, V2.setCell ⟨p, 8, none⟩ (.bool true) = V := ⟨_, rfl⟩
              have hb3 : V3.heap[p]? = some (.cells (PC { s with fi := false, wr := bl, so := true } d (.slice ia iN ic) vp vd (sayV q)) 43 (0, 0)) := by rw [← hV3]; exact blk_set hb2 8 _
              obtain ⟨⟨k4_0, k4_0f⟩, -, -, -, ⟨k4_4, k4_4f⟩, ⟨k4_5, k4_5f⟩, -, -, ⟨k4_8, k4_8f⟩, ⟨k4_9, k4_9f⟩, -, ⟨k4_11, k4_11f⟩⟩ := pcells hb3
              obtain ⟨V4, hV4⟩ : ∃ V, V3.setCell ⟨p, 9, none⟩ (.int .i64 65535) = V := ⟨_, rfl⟩
              have hb4 : V4.heap[p]? = some (.cells (PC { s with fi := false, wr := bl, so := true, la := 65535 } d (.slice ia iN ic) vp vd (sayV q)) 43 (0, 0)) := by rw [← hV4]; exact blk_set hb3 9 _
              obtain ⟨⟨k5_0, k5_0f⟩, -, -, -, ⟨k5_4, k5_4f⟩, ⟨k5_5, k5_5f⟩, -, -, ⟨k5_8, k5_8f⟩, ⟨k5_9, k5_9f⟩, -, ⟨k5_11, k5_11f⟩⟩ := pcells hb4
              have hkk : Kept (fun i => i = p) W V4 := by rw [← hV4, ← hV3, ← hV2, ← hV1]; exact ((((Kept.refl (fun i => i = p) W).setCell (p := ⟨p, 6, none⟩) (.inl rfl) _).setCell (p := ⟨p, 5, none⟩) (.inl rfl) _).setCell (p := ⟨p, 8, none⟩) (.inl rfl) _).setCell (p := ⟨p, 9, none⟩) (.inl rfl) _
              have hcV := hc.upd (s' := { s with fi := false, wr := bl, so := true, la := 65535 }) hkk hb4 rfl rfl rfl rfl ⟨hc.ok.st, hc.ok.it, hc.ok.ps, by simp, hc.ok.ds⟩
              have HRV := Lib.hid (show RR G V4 p q { s with fi := false, wr := bl, so := true, la := 65535 } L from ⟨d, _, vp, vd, vo, Vs, hcV, hg⟩)
              have HKV := Lib.hid (show Kept G W V4 from hkk.mono fun i _ h => (hg i).2 (.inl h))
              try simp only at k2_0 k2_4 k2_5 k2_8 k2_9 k2_11 k3_0 k3_4 k3_5 k3_8 k3_9 k3_11 k4_0 k4_4 k4_5 k4_8 k4_9 k4_11 k5_0 k5_4 k5_5 k5_8 k5_9 k5_11
              clear hb1 hb2 hb3 hb4 hkk hcV
              rw [hwr] at k2_5
              rw [e]
              clear e h80 h2f h7f h39 hc hg hfi hmin hS0 hin hla hwr hS
              show Calls Try.prog 39 _ W fun r w' => (∃ x, r = .returned x) ∧ TP G W p q ({ s with fi := false, wr := bl, so := true, la := 65535 }) (L ++ []) w'
              go_enter Try.func39, Try.ntmps39
              go_wp2_with fail
              refine (ctl_any c W).mono ?_
              rintro r w1 ⟨rfl, rfl⟩
              rw [hct]
              go_wp2_with fail
              refine (ctl_any c _).mono ?_
              rintro r w2 ⟨rfl, rfl⟩
              rw [hct]
              go_wp2
              go_end0
              exact ⟨⟨_, rfl⟩, by rw [List.append_nil]; exact tp_rr HRV.out (fun _ h => .inl h) HKV.out⟩
            · obtain rfl : S = 65535 := by omega
              have hmin : min (65535 : Int) 65535 = 65535 := by decide
              have e : headS s c = ({ s with fi := false, wr := bl, so := true, la := 65535 }, []) := by unfold headS; rw [hfi, hct]; simp only [Bool.false_or, Bool.true_and, Bool.false_and, Bool.false_eq_true, if_false, g127, if_neg h80, if_neg h2f, if_neg h7f, if_pos h39, hS, hmin, hwr, hin, hbl, Bool.false_or]
              obtain ⟨⟨k1_0, k1_0f⟩, -, -, -, ⟨k1_4, k1_4f⟩, ⟨k1_5, k1_5f⟩, ⟨k1_6, k1_6f⟩, -, ⟨k1_8, k1_8f⟩, ⟨k1_9, k1_9f⟩, -, ⟨k1_11, k1_11f⟩⟩ := pcells hc.pb
              obtain ⟨V1, hV1⟩ : ∃ V, W.setCell ⟨p, 6, none⟩ (.bool false) = V := ⟨_, rfl⟩
              have hb1 : V1.heap[p]? = some (.cells (PC { s with fi := false } d (.slice ia iN ic) vp vd (sayV q)) 43 (0, 0)) := by rw [← hV1]; exact blk_set hc.pb 6 _
              obtain ⟨⟨k2_0, k2_0f⟩, -, -, -, ⟨k2_4, k2_4f⟩, ⟨k2_5, k2_5f⟩, -, -, ⟨k2_8, k2_8f⟩, ⟨k2_9, k2_9f⟩, -, ⟨k2_11, k2_11f⟩⟩ := pcells hb1
              obtain ⟨V2, hV2⟩ : ∃ V, V1.setCell ⟨p, 5, none⟩ (.bool bl) = V := ⟨_, rfl⟩
              have hb2 : V2.heap[p]? = some (.cells (PC { s with fi := false, wr := bl } d (.slice ia iN ic) vp vd (sayV q)) 43 (0, 0)) := by rw [← hV2]; exact blk_set hb1 5 _
              obtain ⟨⟨k3_0, k3_0f⟩, -, -, -, ⟨k3_4, k3_4f⟩, ⟨k3_5, k3_5f⟩, -, -, ⟨k3_8, k3_8f⟩, ⟨k3_9, k3_9f⟩, -, ⟨k3_11, k3_11f⟩⟩ := pcells hb2
              obtain ⟨V3, hV3⟩ : ∃ V, V2.setCell ⟨p, 8, none⟩ (.bool true) = V := ⟨_, rfl⟩
              have hb3 : V3.heap[p]? = some (.cells (PC { s with fi := false, wr := bl, so := true } d (.slice ia iN ic) vp vd (sayV q)) 43 (0, 0)) := by rw [← hV3]; exact blk_set hb2 8 _
              obtain ⟨⟨k4_0, k4_0f⟩, -, -, -, ⟨k4_4, k4_4f⟩, ⟨k4_5, k4_5f⟩, -, -, ⟨k4_8, k4_8f⟩, ⟨k4_9, k4_9f⟩, -, ⟨k4_11, k4_11f⟩⟩ := pcells hb3
              obtain ⟨V4, hV4⟩ : ∃ V, V3.setCell ⟨p, 9, none⟩ (.int .i64 65535) = V := ⟨_, rfl⟩
              have hb4 : V4.heap[p]? = some (.cells (PC { s with fi := false, wr := bl, so := true, la := 65535 } d (.slice ia iN ic) vp vd (sayV q)) 43 (0, 0)) := by rw [← hV4]; exact blk_set hb3 9 _
              obtain ⟨⟨k5_0, k5_0f⟩, -, -, -, ⟨k5_4, k5_4f⟩, ⟨k5_5, k5_5f⟩, -, -, ⟨k5_8, k5_8f⟩, ⟨k5_9, k5_9f⟩, -, ⟨k5_11, k5_11f⟩⟩ := pcells hb4
              have hkk : Kept (fun i => i = p) W V4 := by rw [← hV4, ← hV3, ← hV2, ← hV1]; exact ((((Kept.refl (fun i => i = p) W).setCell (p := ⟨p, 6, none⟩) (.inl rfl) _).setCell (p := ⟨p, 5, none⟩) (.inl rfl) _).setCell (p := ⟨p, 8, none⟩) (.inl rfl) _).setCell (p := ⟨p, 9, none⟩) (.inl rfl) _
              have hcV := hc.upd (s' := { s with fi := false, wr := bl, so := true, la := 65535 }) hkk hb4 rfl rfl rfl rfl ⟨hc.ok.st, hc.ok.it, hc.ok.ps, by simp, hc.ok.ds⟩
              have HRV := Lib.hid (show RR G V4 p q { s with fi := false, wr := bl, so := true, la := 65535 } L from ⟨d, _, vp, vd, vo, Vs, hcV, hg⟩)
              have HKV := Lib.hid (show Kept G W V4 from hkk.mono fun i _ h => (hg i).2 (.inl h))
              try simp only at k2_0 k2_4 k2_5 k2_8 k2_9 k2_11 k3_0 k3_4 k3_5 k3_8 k3_9 k3_11 k4_0 k4_4 k4_5 k4_8 k4_9 k4_11 k5_0 k5_4 k5_5 k5_8 k5_9 k5_11
              clear hb1 hb2 hb3 hb4 hkk hcV
              rw [hwr] at k2_5
              rw [e]
              clear e h80 h2f h7f h39 hc hg hfi hmin hS0 hin hla hwr hS
              show Calls Try.prog 39 _ W fun r w' => (∃ x, r = .returned x) ∧ TP G W p q ({ s with fi := false, wr := bl, so := true, la := 65535 }) (L ++ []) w'
              go_enter Try.func39, Try.ntmps39
              go_wp2_with fail
              refine (ctl_any c W).mono ?_
              rintro r w1 ⟨rfl, rfl⟩
              rw [hct]
              go_wp2_with fail
              refine (ctl_any c _).mono ?_
              rintro r w2 ⟨rfl, rfl⟩
              rw [hct]
              go_wp2
              go_end0
              exact ⟨⟨_, rfl⟩, by rw [List.append_nil]; exact tp_rr HRV.out (fun _ h => .inl h) HKV.out⟩
      have g39 : decide (c ≤ 57) = false := decide_eq_false h39
      by_cases h59 : c = 59
      · have g59 : (c == 59) = true := by simp [h59]
        obtain ⟨bl, hbl⟩ : ∃ b, decide (0 < iN) = b := ⟨_, rfl⟩
        have hbl' : decide ((0 : Int) < (iN : Int)) = bl := by rw [← hbl]; congr 1; simp
        cases hwr : s.wr with
        | true =>
          have e : headS s c = (nextS { s with fi := false, wr := true, so := true }, []) := by unfold headS; rw [hfi, hct]; simp only [Bool.false_or, Bool.true_and, Bool.false_and, Bool.false_eq_true, if_false, g127, if_neg h80, if_neg h2f, if_neg h7f, if_neg h39, if_pos h59, hwr, hin, hbl, Bool.true_or]
          obtain ⟨⟨k1_0, k1_0f⟩, -, -, -, ⟨k1_4, k1_4f⟩, ⟨k1_5, k1_5f⟩, ⟨k1_6, k1_6f⟩, -, ⟨k1_8, k1_8f⟩, ⟨k1_9, k1_9f⟩, -, ⟨k1_11, k1_11f⟩⟩ := pcells hc.pb
          obtain ⟨V1, hV1⟩ : ∃ V, W.setCell ⟨p, 6, none⟩ (.bool false) = V := ⟨_, rfl⟩
          have hb1 : V1.heap[p]? = some (.cells (PC { s with fi := false } d (.slice ia iN ic) vp vd (sayV q)) 43 (0, 0)) := by rw [← hV1]; exact blk_set hc.pb 6 _
          obtain ⟨⟨k2_0, k2_0f⟩, -, -, -, ⟨k2_4, k2_4f⟩, ⟨k2_5, k2_5f⟩, -, -, ⟨k2_8, k2_8f⟩, ⟨k2_9, k2_9f⟩, -, ⟨k2_11, k2_11f⟩⟩ := pcells hb1
          obtain ⟨V2, hV2⟩ : ∃ V, V1.setCell ⟨p, 5, none⟩ (.bool true) = V := ⟨_, rfl⟩
          have hb2 : V2.heap[p]? = some (.cells (PC { s with fi := false, wr := true } d (.slice ia iN ic) vp vd (sayV q)) 43 (0, 0)) := by rw [← hV2]; exact blk_set hb1 5 _
          obtain ⟨⟨k3_0, k3_0f⟩, -, -, -, ⟨k3_4, k3_4f⟩, ⟨k3_5, k3_5f⟩, -, -, ⟨k3_8, k3_8f⟩, ⟨k3_9, k3_9f⟩, -, ⟨k3_11, k3_11f⟩⟩ := pcells hb2
          obtain ⟨V3, hV3⟩ : ∃ V, V2.setCell ⟨p, 8, none⟩ (.bool true) = V := ⟨_, rfl⟩
          have hb3 : V3.heap[p]? = some (.cells (PC { s with fi := false, wr := true, so := true } d (.slice ia iN ic) vp vd (sayV q)) 43 (0, 0)) := by rw [← hV3]; exact blk_set hb2 8 _
          obtain ⟨⟨k4_0, k4_0f⟩, -, -, -, ⟨k4_4, k4_4f⟩, ⟨k4_5, k4_5f⟩, -, -, ⟨k4_8, k4_8f⟩, ⟨k4_9, k4_9f⟩, -, ⟨k4_11, k4_11f⟩⟩ := pcells hb3
          have hkk : Kept (fun i => i = p) W V3 := by rw [← hV3, ← hV2, ← hV1]; exact (((Kept.refl (fun i => i = p) W).setCell (p := ⟨p, 6, none⟩) (.inl rfl) _).setCell (p := ⟨p, 5, none⟩) (.inl rfl) _).setCell (p := ⟨p, 8, none⟩) (.inl rfl) _
          have hcV := hc.upd (s' := { s with fi := false, wr := true, so := true }) hkk hb3 rfl rfl rfl rfl ⟨hc.ok.st, hc.ok.it, hc.ok.ps, hc.ok.la, hc.ok.ds⟩
          have HRV := Lib.hid (show RR G V3 p q { s with fi := false, wr := true, so := true } L from ⟨d, _, vp, vd, vo, Vs, hcV, hg⟩)
          have HKV := Lib.hid (show Kept G W V3 from hkk.mono fun i _ h => (hg i).2 (.inl h))
          try simp only at k2_0 k2_4 k2_5 k2_8 k2_9 k2_11 k3_0 k3_4 k3_5 k3_8 k3_9 k3_11 k4_0 k4_4 k4_5 k4_8 k4_9 k4_11
          clear hb1 hb2 hb3 hkk hcV
          rw [hwr] at k2_5
          have HB := Lib.hid (next_any G V3 p q _ L HRV.out)
          rw [e]
          clear e h80 h2f h7f h39 h59 hc hg hfi hin hla hwr
          show Calls Try.prog 39 _ W fun r w' => (∃ x, r = .returned x) ∧ TP G W p q (nextS { s with fi := false, wr := true, so := true }) (L ++ []) w'
          go_enter Try.func39, Try.ntmps39
          go_wp2_with fail
          refine (ctl_any c W).mono ?_
          rintro r w1 ⟨rfl, rfl⟩
          rw [hct]
          go_wp2_with fail
          refine (ctl_any c _).mono ?_
          rintro r w2 ⟨rfl, rfl⟩
          rw [hct]
          go_wp2_with fail
          refine (HB.out).mono ?_
          rintro r w3 ⟨⟨x, rfl⟩, ht⟩
          have HT := Lib.hid (TP.then (fun _ h => .inl h) HKV.out ht)
          clear ht
          go_wp2
          go_end0
          exact ⟨⟨_, rfl⟩, by rw [List.append_nil]; exact HT.out⟩
        | false =>
          have e : headS s c = (nextS { s with fi := false, wr := bl, so := true }, []) := by unfold headS; rw [hfi, hct]; simp only [Bool.false_or, Bool.true_and, Bool.false_and, Bool.false_eq_true, if_false, g127, if_neg h80, if_neg h2f, if_neg h7f, if_neg h39, if_pos h59, hwr, hin, hbl, Bool.false_or]
          obtain ⟨⟨k1_0, k1_0f⟩, -, -, -, ⟨k1_4, k1_4f⟩, ⟨k1_5, k1_5f⟩, ⟨k1_6, k1_6f⟩, -, ⟨k1_8, k1_8f⟩, ⟨k1_9, k1_9f⟩, -, ⟨k1_11, k1_11f⟩⟩ := pcells hc.pb
          obtain ⟨V1, hV1⟩ : ∃ V, W.setCell ⟨p, 6, none⟩ (.bool false) = V := ⟨_, rfl⟩
          have hb1 : V1.heap[p]? = some (.cells (PC { s with fi := false } d (.slice ia iN ic) vp vd (sayV q)) 43 (0, 0)) := by rw [← hV1]; exact blk_set hc.pb 6 _
          obtain ⟨⟨k2_0, k2_0f⟩, -, -, -, ⟨k2_4, k2_4f⟩, ⟨k2_5, k2_5f⟩, -, -, ⟨k2_8, k2_8f⟩, ⟨k2_9, k2_9f⟩, -, ⟨k2_11, k2_11f⟩⟩ := pcells hb1
          obtain ⟨V2, hV2⟩ : ∃ V, V1.setCell ⟨p, 5, none⟩ (.bool bl) = V := ⟨_, rfl⟩
          have hb2 : V2.heap[p]? = some (.cells (PC { s with fi := false, wr := bl } d (.slice ia iN ic) vp vd (sayV q)) 43 (0, 0)) := by rw [← hV2]; exact blk_set hb1 5 _
          obtain ⟨⟨k3_0, k3_0f⟩, -, -, -, ⟨k3_4, k3_4f⟩, ⟨k3_5, k3_5f⟩, -, -, ⟨k3_8, k3_8f⟩, ⟨k3_9, k3_9f⟩, -, ⟨k3_11, k3_11f⟩⟩ := pcells hb2
          obtain ⟨V3, hV3⟩ : ∃ V, V2.setCell ⟨p, 8, none⟩ (.bool true) = V := ⟨_, rfl⟩
          have hb3 : V3.heap[p]? = some (.cells (PC { s with fi := false, wr := bl, so := true } d (.slice ia iN ic) vp vd (sayV q)) 43 (0, 0)) := by rw [← hV3]; exact blk_set hb2 8 _
          obtain ⟨⟨k4_0, k4_0f⟩, -, -, -, ⟨k4_4, k4_4f⟩, ⟨k4_5, k4_5f⟩, -, -, ⟨k4_8, k4_8f⟩, ⟨k4_9, k4_9f⟩, -, ⟨k4_11, k4_11f⟩⟩ := pcells hb3
          have hkk : Kept (fun i => i = p) W V3 := by rw [← hV3, ← hV2, ← hV1]; exact (((Kept.refl (fun i => i = p) W).setCell (p := ⟨p, 6, none⟩) (.inl rfl) _).setCell (p := ⟨p, 5, none⟩) (.inl rfl) _).setCell (p := ⟨p, 8, none⟩) (.inl rfl) _
          have hcV := hc.upd (s' := { s with fi := false, wr := bl, so := true }) hkk hb3 rfl rfl rfl rfl ⟨hc.ok.st, hc.ok.it, hc.ok.ps, hc.ok.la, hc.ok.ds⟩
          have HRV := Lib.hid (show RR G V3 p q { s with fi := false, wr := bl, so := true } L from ⟨d, _, vp, vd, vo, Vs, hcV, hg⟩)
          have HKV := Lib.hid (show Kept G W V3 from hkk.mono fun i _ h => (hg i).2 (.inl h))
          try simp only at k2_0 k2_4 k2_5 k2_8 k2_9 k2_11 k3_0 k3_4 k3_5 k3_8 k3_9 k3_11 k4_0 k4_4 k4_5 k4_8 k4_9 k4_11
          clear hb1 hb2 hb3 hkk hcV
          rw [hwr] at k2_5
          have HB := Lib.hid (next_any G V3 p q _ L HRV.out)
          rw [e]
          clear e h80 h2f h7f h39 h59 hc hg hfi hin hla hwr
          show Calls Try.prog 39 _ W fun r w' => (∃ x, r = .returned x) ∧ TP G W p q (nextS { s with fi := false, wr := bl, so := true }) (L ++ []) w'
          go_enter Try.func39, Try.ntmps39
          go_wp2_with fail
          refine (ctl_any c W).mono ?_
          rintro r w1 ⟨rfl, rfl⟩
          rw [hct]
          go_wp2_with fail
          refine (ctl_any c _).mono ?_
          rintro r w2 ⟨rfl, rfl⟩
          rw [hct]
          go_wp2_with fail
          refine (HB.out).mono ?_
          rintro r w3 ⟨⟨x, rfl⟩, ht⟩
          have HT := Lib.hid (TP.then (fun _ h => .inl h) HKV.out ht)
          clear ht
          go_wp2
          go_end0
          exact ⟨⟨_, rfl⟩, by rw [List.append_nil]; exact HT.out⟩
      have g59 : (c == 59) = false := by simp [h59]
      by_cases h63 : c ≤ 63
      · have g63 : decide (c ≤ 63) = true := decide_eq_true h63
        by_cases h60 : 60 ≤ c
        · have g60 : decide (60 ≤ c) = true := decide_eq_true h60
          have e : headS s c = ({ s with fi := false, pv := c }, []) := by unfold headS; rw [hfi, hct]; simp only [Bool.false_or, Bool.true_and, Bool.false_and, Bool.false_eq_true, if_false, g127, if_neg h80, if_neg h2f, if_neg h7f, if_neg h39, if_neg h59, if_pos (show 60 ≤ c ∧ c ≤ 63 ∧ True from ⟨h60, h63, trivial⟩)]
          obtain ⟨⟨k1_0, k1_0f⟩, -, -, -, ⟨k1_4, k1_4f⟩, ⟨k1_5, k1_5f⟩, ⟨k1_6, k1_6f⟩, -, ⟨k1_8, k1_8f⟩, ⟨k1_9, k1_9f⟩, -, ⟨k1_11, k1_11f⟩⟩ := pcells hc.pb
          obtain ⟨V1, hV1⟩ : ∃ V, W.setCell ⟨p, 6, none⟩ (.bool false) = V := ⟨_, rfl⟩
          have hb1 : V1.heap[p]? = some (.cells (PC { s with fi := false } d (.slice ia iN ic) vp vd (sayV q)) 43 (0, 0)) := by rw [← hV1]; exact blk_set hc.pb 6 _
          obtain ⟨⟨k2_0, k2_0f⟩, -, -, ⟨k2_3, k2_3f⟩, ⟨k2_4, k2_4f⟩, ⟨k2_5, k2_5f⟩, -, -, ⟨k2_8, k2_8f⟩, ⟨k2_9, k2_9f⟩, -, ⟨k2_11, k2_11f⟩⟩ := pcells hb1
          obtain ⟨V2, hV2⟩ : ∃ V, V1.setCell ⟨p, 3, none⟩ (.int .u8 c) = V := ⟨_, rfl⟩
          have hb2 : V2.heap[p]? = some (.cells (PC { s with fi := false, pv := c } d (.slice ia iN ic) vp vd (sayV q)) 43 (0, 0)) := by rw [← hV2]; exact blk_set hb1 3 _
          obtain ⟨⟨k3_0, k3_0f⟩, -, -, -, ⟨k3_4, k3_4f⟩, ⟨k3_5, k3_5f⟩, -, -, ⟨k3_8, k3_8f⟩, ⟨k3_9, k3_9f⟩, -, ⟨k3_11, k3_11f⟩⟩ := pcells hb2
          have hkk : Kept (fun i => i = p) W V2 := by rw [← hV2, ← hV1]; exact ((Kept.refl (fun i => i = p) W).setCell (p := ⟨p, 6, none⟩) (.inl rfl) _).setCell (p := ⟨p, 3, none⟩) (.inl rfl) _
          have hcV := hc.upd (s' := { s with fi := false, pv := c }) hkk hb2 rfl rfl rfl rfl ⟨hc.ok.st, hc.ok.it, hc.ok.ps, hc.ok.la, hc.ok.ds⟩
          have HRV := Lib.hid (show RR G V2 p q { s with fi := false, pv := c } L from ⟨d, _, vp, vd, vo, Vs, hcV, hg⟩)
          have HKV := Lib.hid (show Kept G W V2 from hkk.mono fun i _ h => (hg i).2 (.inl h))
          try simp only at k2_0 k2_4 k2_5 k2_8 k2_9 k2_11 k3_0 k3_4 k3_5 k3_8 k3_9 k3_11
          clear hb1 hb2 hkk hcV
          rw [e]
          clear e h80 h2f h7f h39 h59 h63 h60 hc hg hfi
          show Calls Try.prog 39 _ W fun r w' => (∃ x, r = .returned x) ∧ TP G W p q ({ s with fi := false, pv := c }) (L ++ []) w'
          go_enter Try.func39, Try.ntmps39
          go_wp2_with fail
          refine (ctl_any c W).mono ?_
          rintro r w1 ⟨rfl, rfl⟩
          rw [hct]
          go_wp2_with fail
          refine (ctl_any c _).mono ?_
          rintro r w2 ⟨rfl, rfl⟩
          rw [hct]
          go_wp2
          go_end0
          exact ⟨⟨_, rfl⟩, by rw [List.append_nil]; exact tp_rr HRV.out (fun _ h => .inl h) HKV.out⟩
        · have g60 : decide (60 ≤ c) = false := decide_eq_false h60
          have e : headS s c = ({ s with fi := false, wr := true }, []) := by unfold headS; rw [hfi, hct]; simp only [Bool.false_or, Bool.true_and, Bool.false_and, Bool.false_eq_true, if_false, g127, if_neg h80, if_neg h2f, if_neg h7f, if_neg h39, if_neg h59, if_neg (show ¬ (60 ≤ c ∧ c ≤ 63 ∧ True) from fun h => h60 h.1), if_pos h63]
          obtain ⟨⟨k1_0, k1_0f⟩, -, -, -, ⟨k1_4, k1_4f⟩, ⟨k1_5, k1_5f⟩, ⟨k1_6, k1_6f⟩, -, ⟨k1_8, k1_8f⟩, ⟨k1_9, k1_9f⟩, -, ⟨k1_11, k1_11f⟩⟩ := pcells hc.pb
          obtain ⟨V1, hV1⟩ : ∃ V, W.setCell ⟨p, 6, none⟩ (.bool false) = V := ⟨_, rfl⟩
          have hb1 : V1.heap[p]? = some (.cells (PC { s with fi := false } d (.slice ia iN ic) vp vd (sayV q)) 43 (0, 0)) := by rw [← hV1]; exact blk_set hc.pb 6 _
          obtain ⟨⟨k2_0, k2_0f⟩, -, -, -, ⟨k2_4, k2_4f⟩, ⟨k2_5, k2_5f⟩, -, -, ⟨k2_8, k2_8f⟩, ⟨k2_9, k2_9f⟩, -, ⟨k2_11, k2_11f⟩⟩ := pcells hb1
          obtain ⟨V2, hV2⟩ : ∃ V, V1.setCell ⟨p, 5, none⟩ (.bool true) = V := ⟨_, rfl⟩
          have hb2 : V2.heap[p]? = some (.cells (PC { s with fi := false, wr := true } d (.slice ia iN ic) vp vd (sayV q)) 43 (0, 0)) := by rw [← hV2]; exact blk_set hb1 5 _
          obtain ⟨⟨k3_0, k3_0f⟩, -, -, -, ⟨k3_4, k3_4f⟩, ⟨k3_5, k3_5f⟩, -, -, ⟨k3_8, k3_8f⟩, ⟨k3_9, k3_9f⟩, -, ⟨k3_11, k3_11f⟩⟩ := pcells hb2
          have hkk : Kept (fun i => i = p) W V2 := by rw [← hV2, ← hV1]; exact ((Kept.refl (fun i => i = p) W).setCell (p := ⟨p, 6, none⟩) (.inl rfl) _).setCell (p := ⟨p, 5, none⟩) (.inl rfl) _
          have hcV := hc.upd (s' := { s with fi := false, wr := true }) hkk hb2 rfl rfl rfl rfl ⟨hc.ok.st, hc.ok.it, hc.ok.ps, hc.ok.la, hc.ok.ds⟩
          have HRV := Lib.hid (show RR G V2 p q { s with fi := false, wr := true } L from ⟨d, _, vp, vd, vo, Vs, hcV, hg⟩)
          have HKV := Lib.hid (show Kept G W V2 from hkk.mono fun i _ h => (hg i).2 (.inl h))
          try simp only at k2_0 k2_4 k2_5 k2_8 k2_9 k2_11 k3_0 k3_4 k3_5 k3_8 k3_9 k3_11
          clear hb1 hb2 hkk hcV
          rw [e]
          clear e h80 h2f h7f h39 h59 h63 h60 hc hg hfi
          show Calls Try.prog 39 _ W fun r w' => (∃ x, r = .returned x) ∧ TP G W p q ({ s with fi := false, wr := true }) (L ++ []) w'
          go_enter Try.func39, Try.ntmps39
          go_wp2_with fail
          refine (ctl_any c W).mono ?_
          rintro r w1 ⟨rfl, rfl⟩
          rw [hct]
          go_wp2_with fail
          refine (ctl_any c _).mono ?_
          rintro r w2 ⟨rfl, rfl⟩
          rw [hct]
          go_wp2
          go_end0
          exact ⟨⟨_, rfl⟩, by rw [List.append_nil]; exact tp_rr HRV.out (fun _ h => .inl h) HKV.out⟩
      have g63 : decide (c ≤ 63) = false := decide_eq_false h63
      have g60 : decide (60 ≤ c) = true := decide_eq_true (by omega)
      have e : headS s c = ((finalS { s with fi := false } c).1, (finalS { s with fi := false } c).2) := by unfold headS; rw [hfi, hct]; simp only [Bool.false_or, Bool.true_and, Bool.false_and, Bool.false_eq_true, if_false, g127, if_neg h80, if_neg h2f, if_neg h7f, if_neg h39, if_neg h59, if_neg (show ¬ (60 ≤ c ∧ c ≤ 63 ∧ True) from fun h => h63 h.2.1), if_neg h63]
      obtain ⟨⟨k1_0, k1_0f⟩, -, -, -, ⟨k1_4, k1_4f⟩, ⟨k1_5, k1_5f⟩, ⟨k1_6, k1_6f⟩, -, ⟨k1_8, k1_8f⟩, ⟨k1_9, k1_9f⟩, -, ⟨k1_11, k1_11f⟩⟩ := pcells hc.pb
      obtain ⟨V1, hV1⟩ : ∃ V, W.setCell ⟨p, 6, none⟩ (.bool false) = V := ⟨_, rfl⟩
      have hb1 : V1.heap[p]? = some (.cells (PC { s with fi := false } d (.slice ia iN ic) vp vd (sayV q)) 43 (0, 0)) := by rw [← hV1]; exact blk_set hc.pb 6 _
      obtain ⟨⟨k2_0, k2_0f⟩, -, -, -, ⟨k2_4, k2_4f⟩, ⟨k2_5, k2_5f⟩, -, -, ⟨k2_8, k2_8f⟩, ⟨k2_9, k2_9f⟩, -, ⟨k2_11, k2_11f⟩⟩ := pcells hb1
      have hkk : Kept (fun i => i = p) W V1 := by rw [← hV1]; exact (Kept.refl (fun i => i = p) W).setCell (p := ⟨p, 6, none⟩) (.inl rfl) _
      have hcV := hc.upd (s' := { s with fi := false }) hkk hb1 rfl rfl rfl rfl ⟨hc.ok.st, hc.ok.it, hc.ok.ps, hc.ok.la, hc.ok.ds⟩
      have HRV := Lib.hid (show RR G V1 p q { s with fi := false } L from ⟨d, _, vp, vd, vo, Vs, hcV, hg⟩)
      have HKV := Lib.hid (show Kept G W V1 from hkk.mono fun i _ h => (hg i).2 (.inl h))
      try simp only at k2_0 k2_4 k2_5 k2_8 k2_9 k2_11
      clear hb1 hkk hcV
      have HB := Lib.hid (final_any G V1 p q _ L c HRV.out (by omega))
      rw [e]
      clear e h80 h2f h7f h39 h59 h63 hc hg hfi
      go_enter Try.func39, Try.ntmps39
      go_wp2_with fail
      refine (ctl_any c W).mono ?_
      rintro r w1 ⟨rfl, rfl⟩
      rw [hct]
      go_wp2_with fail
      refine (ctl_any c _).mono ?_
      rintro r w2 ⟨rfl, rfl⟩
      rw [hct]
      go_wp2_with fail
      refine (HB.out).mono ?_
      rintro r w3 ⟨⟨x, rfl⟩, ht⟩
      have HT := Lib.hid (TP.then (fun _ h => .inl h) HKV.out ht)
      clear ht
      go_wp2
      go_end0
      exact ⟨⟨_, rfl⟩, HT.out⟩
  | false =>
    rw [hfi] at c6
    cases hct : ctlB c with
    | true =>
      obtain ⟨⟨k1_0, k1_0f⟩, -, -, -, ⟨k1_4, k1_4f⟩, ⟨k1_5, k1_5f⟩, ⟨k1_6, k1_6f⟩, -, ⟨k1_8, k1_8f⟩, ⟨k1_9, k1_9f⟩, -, ⟨k1_11, k1_11f⟩⟩ := pcells hc.pb
      obtain ⟨V1, hV1⟩ : ∃ V, W.setCell ⟨p, 6, none⟩ (.bool false) = V := ⟨_, rfl⟩
      have hb1 : V1.heap[p]? = some (.cells (PC { s with fi := false } d (.slice ia iN ic) vp vd (sayV q)) 43 (0, 0)) := by rw [← hV1]; exact blk_set hc.pb 6 _
      obtain ⟨⟨k2_0, k2_0f⟩, -, -, -, ⟨k2_4, k2_4f⟩, ⟨k2_5, k2_5f⟩, -, -, ⟨k2_8, k2_8f⟩, ⟨k2_9, k2_9f⟩, -, ⟨k2_11, k2_11f⟩⟩ := pcells hb1
      have hkk : Kept (fun i => i = p) W V1 := by rw [← hV1]; exact (Kept.refl (fun i => i = p) W).setCell (p := ⟨p, 6, none⟩) (.inl rfl) _
      have hcV := hc.upd (s' := { s with fi := false }) hkk hb1 rfl rfl rfl rfl ⟨hc.ok.st, hc.ok.it, hc.ok.ps, hc.ok.la, hc.ok.ds⟩
      have HRV := Lib.hid (show RR G V1 p q { s with fi := false } L from ⟨d, _, vp, vd, vo, Vs, hcV, hg⟩)
      have HKV := Lib.hid (show Kept G W V1 from hkk.mono fun i _ h => (hg i).2 (.inl h))
      try simp only at k2_0 k2_4 k2_5 k2_8 k2_9 k2_11
      clear hb1 hkk hcV
      by_cases h2 : s.st = 2
      · have e : headS s c = ({ s with fi := false }, [evX 2 0 c]) := by unfold headS; simp only [hfi, hct, if_true, if_pos h2]; rfl
        have g2 : (s.st == 2) = true := by simp [h2]
        have HS := Lib.hid (sayX G V1 p q _ L HRV.out (by omega) 2 0 c)
        unfold sayV at k2_11
        rw [e]
        clear e h2 hc hg hfi
        show Calls Try.prog 39 _ W fun r w' => (∃ x, r = .returned x) ∧ TP G W p q ({ s with fi := false }) (L ++ [evX 2 0 c]) w'
        go_enter Try.func39, Try.ntmps39
        go_wp2_with fail
        refine (ctl_any c _).mono ?_
        rintro r w2 ⟨rfl, rfl⟩
        rw [hct]
        go_wp2_with fail
        refine (HS.out).mono ?_
        rintro r w3 ⟨⟨x, rfl⟩, ht⟩
        have HT := Lib.hid (TP.then (fun _ h => .inl h) HKV.out ht)
        clear ht
        go_wp2
        go_end0
        exact ⟨⟨_, rfl⟩, HT.out⟩
      · have e : headS s c = ({ s with fi := false }, []) := by unfold headS; simp only [hfi, hct, if_true, if_neg h2]; rfl
        have g2 : (s.st == 2) = false := by simp [h2]
        rw [e]
        clear e h2 hc hg hfi
        show Calls Try.prog 39 _ W fun r w' => (∃ x, r = .returned x) ∧ TP G W p q ({ s with fi := false }) (L ++ []) w'
        go_enter Try.func39, Try.ntmps39
        go_wp2_with fail
        refine (ctl_any c _).mono ?_
        rintro r w2 ⟨rfl, rfl⟩
        rw [hct]
        go_wp2
        go_end0
        exact ⟨⟨_, rfl⟩, by rw [List.append_nil]; exact tp_rr HRV.out (fun _ h => .inl h) HKV.out⟩
    | false =>
      by_cases h80 : 128 ≤ c
      · have g127 : (c == 127) = false := by simp; omega
        have g80 : decide (128 ≤ c) = true := decide_eq_true h80
        have e : headS s c = ((backS { s with fi := false } c).1, (backS { s with fi := false } c).2) := by unfold headS; rw [hfi, hct]; simp only [Bool.false_or, Bool.true_and, Bool.false_and, Bool.false_eq_true, if_false, g127, if_pos h80]
        obtain ⟨⟨k1_0, k1_0f⟩, -, -, -, ⟨k1_4, k1_4f⟩, ⟨k1_5, k1_5f⟩, ⟨k1_6, k1_6f⟩, -, ⟨k1_8, k1_8f⟩, ⟨k1_9, k1_9f⟩, -, ⟨k1_11, k1_11f⟩⟩ := pcells hc.pb
        obtain ⟨V1, hV1⟩ : ∃ V, W.setCell ⟨p, 6, none⟩ (.bool false) = V := ⟨_, rfl⟩
        have hb1 : V1.heap[p]? = some (.cells (PC { s with fi := false } d (.slice ia iN ic) vp vd (sayV q)) 43 (0, 0)) := by rw [← hV1]; exact blk_set hc.pb 6 _
        obtain ⟨⟨k2_0, k2_0f⟩, -, -, -, ⟨k2_4, k2_4f⟩, ⟨k2_5, k2_5f⟩, -, -, ⟨k2_8, k2_8f⟩, ⟨k2_9, k2_9f⟩, -, ⟨k2_11, k2_11f⟩⟩ := pcells hb1
        have hkk : Kept (fun i => i = p) W V1 := by rw [← hV1]; exact (Kept.refl (fun i => i = p) W).setCell (p := ⟨p, 6, none⟩) (.inl rfl) _
        have hcV := hc.upd (s' := { s with fi := false }) hkk hb1 rfl rfl rfl rfl ⟨hc.ok.st, hc.ok.it, hc.ok.ps, hc.ok.la, hc.ok.ds⟩
        have HRV := Lib.hid (show RR G V1 p q { s with fi := false } L from ⟨d, _, vp, vd, vo, Vs, hcV, hg⟩)
        have HKV := Lib.hid (show Kept G W V1 from hkk.mono fun i _ h => (hg i).2 (.inl h))
        try simp only at k2_0 k2_4 k2_5 k2_8 k2_9 k2_11
        clear hb1 hkk hcV
        have HB := Lib.hid (back_any G V1 p q _ L c hc0 hc1 HRV.out (by omega))
        rw [e]
        clear e h80 hc hg hfi
        go_enter Try.func39, Try.ntmps39
        go_wp2_with fail
        refine (ctl_any c _).mono ?_
        rintro r w2 ⟨rfl, rfl⟩
        rw [hct]
        go_wp2_with fail
        refine (HB.out).mono ?_
        rintro r w3 ⟨⟨x, rfl⟩, ht⟩
        have HT := Lib.hid (TP.then (fun _ h => .inl h) HKV.out ht)
        clear ht
        go_wp2
        go_end0
        exact ⟨⟨_, rfl⟩, HT.out⟩
      have g80 : decide (128 ≤ c) = false := decide_eq_false h80
      by_cases h2f : c ≤ 47
      · have g127 : (c == 127) = false := by simp; omega
        have g2f : decide (c ≤ 47) = true := decide_eq_true h2f
        have e : headS s c = (keepS { s with fi := false } c, []) := by unfold headS; rw [hfi, hct]; simp only [Bool.false_or, Bool.true_and, Bool.false_and, Bool.false_eq_true, if_false, g127, if_neg h80, if_pos h2f]
        obtain ⟨⟨k1_0, k1_0f⟩, -, -, -, ⟨k1_4, k1_4f⟩, ⟨k1_5, k1_5f⟩, ⟨k1_6, k1_6f⟩, -, ⟨k1_8, k1_8f⟩, ⟨k1_9, k1_9f⟩, -, ⟨k1_11, k1_11f⟩⟩ := pcells hc.pb
        obtain ⟨V1, hV1⟩ : ∃ V, W.setCell ⟨p, 6, none⟩ (.bool false) = V := ⟨_, rfl⟩
        have hb1 : V1.heap[p]? = some (.cells (PC { s with fi := false } d (.slice ia iN ic) vp vd (sayV q)) 43 (0, 0)) := by rw [← hV1]; exact blk_set hc.pb 6 _
        obtain ⟨⟨k2_0, k2_0f⟩, -, -, -, ⟨k2_4, k2_4f⟩, ⟨k2_5, k2_5f⟩, -, -, ⟨k2_8, k2_8f⟩, ⟨k2_9, k2_9f⟩, -, ⟨k2_11, k2_11f⟩⟩ := pcells hb1
        have hkk : Kept (fun i => i = p) W V1 := by rw [← hV1]; exact (Kept.refl (fun i => i = p) W).setCell (p := ⟨p, 6, none⟩) (.inl rfl) _
        have hcV := hc.upd (s' := { s with fi := false }) hkk hb1 rfl rfl rfl rfl ⟨hc.ok.st, hc.ok.it, hc.ok.ps, hc.ok.la, hc.ok.ds⟩
        have HRV := Lib.hid (show RR G V1 p q { s with fi := false } L from ⟨d, _, vp, vd, vo, Vs, hcV, hg⟩)
        have HKV := Lib.hid (show Kept G W V1 from hkk.mono fun i _ h => (hg i).2 (.inl h))
        try simp only at k2_0 k2_4 k2_5 k2_8 k2_9 k2_11
        clear hb1 hkk hcV
        have HB := Lib.hid (keep_any G V1 p q _ L c HRV.out)
        rw [e]
        clear e h80 h2f hc hg hfi
        show Calls Try.prog 39 _ W fun r w' => (∃ x, r = .returned x) ∧ TP G W p q (keepS { s with fi := false } c) (L ++ []) w'
        go_enter Try.func39, Try.ntmps39
        go_wp2_with fail
        refine (ctl_any c _).mono ?_
        rintro r w2 ⟨rfl, rfl⟩
        rw [hct]
        go_wp2_with fail
        refine (HB.out).mono ?_
        rintro r w3 ⟨⟨x, rfl⟩, ht⟩
        have HT := Lib.hid (TP.then (fun _ h => .inl h) HKV.out ht)
        clear ht
        go_wp2
        go_end0
        exact ⟨⟨_, rfl⟩, by rw [List.append_nil]; exact HT.out⟩
      have g2f : decide (c ≤ 47) = false := decide_eq_false h2f
      by_cases h7f : c = 127
      · have g127 : (c == 127) = true := by simp [h7f]
        have e : headS s c = ({ s with fi := false }, []) := by unfold headS; rw [hfi, hct]; simp only [Bool.false_or, Bool.true_and, Bool.false_and, Bool.false_eq_true, if_false, g127, if_neg h80, if_neg h2f, if_pos h7f]
        obtain ⟨⟨k1_0, k1_0f⟩, -, -, -, ⟨k1_4, k1_4f⟩, ⟨k1_5, k1_5f⟩, ⟨k1_6, k1_6f⟩, -, ⟨k1_8, k1_8f⟩, ⟨k1_9, k1_9f⟩, -, ⟨k1_11, k1_11f⟩⟩ := pcells hc.pb
        obtain ⟨V1, hV1⟩ : ∃ V, W.setCell ⟨p, 6, none⟩ (.bool false) = V := ⟨_, rfl⟩
        have hb1 : V1.heap[p]? = some (.cells (PC { s with fi := false } d (.slice ia iN ic) vp vd (sayV q)) 43 (0, 0)) := by rw [← hV1]; exact blk_set hc.pb 6 _
        obtain ⟨⟨k2_0, k2_0f⟩, -, -, -, ⟨k2_4, k2_4f⟩, ⟨k2_5, k2_5f⟩, -, -, ⟨k2_8, k2_8f⟩, ⟨k2_9, k2_9f⟩, -, ⟨k2_11, k2_11f⟩⟩ := pcells hb1
        have hkk : Kept (fun i => i = p) W V1 := by rw [← hV1]; exact (Kept.refl (fun i => i = p) W).setCell (p := ⟨p, 6, none⟩) (.inl rfl) _
        have hcV := hc.upd (s' := { s with fi := false }) hkk hb1 rfl rfl rfl rfl ⟨hc.ok.st, hc.ok.it, hc.ok.ps, hc.ok.la, hc.ok.ds⟩
        have HRV := Lib.hid (show RR G V1 p q { s with fi := false } L from ⟨d, _, vp, vd, vo, Vs, hcV, hg⟩)
        have HKV := Lib.hid (show Kept G W V1 from hkk.mono fun i _ h => (hg i).2 (.inl h))
        try simp only at k2_0 k2_4 k2_5 k2_8 k2_9 k2_11
        clear hb1 hkk hcV
        rw [e]
        clear e h80 h2f h7f hc hg hfi
        show Calls Try.prog 39 _ W fun r w' => (∃ x, r = .returned x) ∧ TP G W p q ({ s with fi := false }) (L ++ []) w'
        go_enter Try.func39, Try.ntmps39
        go_wp2_with fail
        refine (ctl_any c _).mono ?_
        rintro r w2 ⟨rfl, rfl⟩
        rw [hct]
        go_wp2
        go_end0
        exact ⟨⟨_, rfl⟩, by rw [List.append_nil]; exact tp_rr HRV.out (fun _ h => .inl h) HKV.out⟩
      have g127 : (c == 127) = false := by simp [h7f]
      by_cases h39 : c ≤ 57
      · have g39 : decide (c ≤ 57) = true := decide_eq_true h39
        obtain ⟨S, hS⟩ : ∃ S, 10 * s.la + (c - 48) = S := ⟨_, rfl⟩
        have hS0 : 0 ≤ S := by omega
        have w1 : IntKind.i64.wrap (10 * s.la) = 10 * s.la := IntWalk.i64_in _ (by omega)
        have w2 : IntKind.u8.wrap (c - 48) = c - 48 := by rw [IntKind.wrap_u8]; omega
        have w3 : IntKind.i64.wrap (c - 48) = c - 48 := IntWalk.i64_in _ (by omega)
        have w4 : IntKind.i64.wrap (10 * s.la + (c - 48)) = S := by rw [hS]; exact IntWalk.i64_in _ (by omega)
        obtain ⟨bl, hbl⟩ : ∃ b, decide (0 < iN) = b := ⟨_, rfl⟩
        have hbl' : decide ((0 : Int) < (iN : Int)) = bl := by rw [← hbl]; congr 1; simp
        cases hwr : s.wr with
        | true =>
          by_cases hm : S < 65535
          · have hm2 : ¬ 65535 < S := by omega
            have hmin : min S 65535 = S := Int.min_eq_left (by omega)
            have e : headS s c = ({ s with fi := false, wr := true, so := true, la := S }, []) := by unfold headS; rw [hfi, hct]; simp only [Bool.false_or, Bool.true_and, Bool.false_and, Bool.false_eq_true, if_false, g127, if_neg h80, if_neg h2f, if_neg h7f, if_pos h39, hS, hmin, hwr, hin, hbl, Bool.true_or]
            obtain ⟨⟨k1_0, k1_0f⟩, -, -, -, ⟨k1_4, k1_4f⟩, ⟨k1_5, k1_5f⟩, ⟨k1_6, k1_6f⟩, -, ⟨k1_8, k1_8f⟩, ⟨k1_9, k1_9f⟩, -, ⟨k1_11, k1_11f⟩⟩ := pcells hc.pb
            obtain ⟨V1, hV1⟩ : ∃ V, W.setCell ⟨p, 6, none⟩ (.bool false) = V := ⟨_, rfl⟩
            have hb1 : V1.heap[p]? = some (.cells (PC { s with fi := false } d (.slice ia iN ic) vp vd (sayV q)) 43 (0, 0)) := by rw [← hV1]; exact blk_set hc.pb 6 _
            obtain ⟨⟨k2_0, k2_0f⟩, -, -, -, ⟨k2_4, k2_4f⟩, ⟨k2_5, k2_5f⟩, -, -, ⟨k2_8, k2_8f⟩, ⟨k2_9, k2_9f⟩, -, ⟨k2_11, k2_11f⟩⟩ := pcells hb1
            obtain ⟨V2, hV2⟩ : ∃ V, V1.setCell ⟨p, 5, none⟩ (.bool true) = V := ⟨_, rfl⟩
            have hb2 : V2.heap[p]? = some (.cells (PC { s with fi := false, wr := true } d (.slice ia iN ic) vp vd (sayV q)) 43 (0, 0)) := by rw [← hV2]; exact blk_set hb1 5 _
            obtain ⟨⟨k3_0, k3_0f⟩, -, -, -, ⟨k3_4, k3_4f⟩, ⟨k3_5, k3_5f⟩, -, -, ⟨k3_8, k3_8f⟩, ⟨k3_9, k3_9f⟩, -, ⟨k3_11, k3_11f⟩⟩ := pcells hb2
            obtain ⟨V3, hV3⟩ : ∃ V, V2.setCell ⟨p, 8, none⟩ (.bool true) = V := ⟨_, rfl⟩
            have hb3 : V3.heap[p]? = some (.cells (PC { s with fi := false, wr := true, so := true } d (.slice ia iN ic) vp vd (sayV q)) 43 (0, 0)) := by rw [← hV3]; exact blk_set hb2 8 _
            obtain ⟨⟨k4_0, k4_0f⟩, -, -, -, ⟨k4_4, k4_4f⟩, ⟨k4_5, k4_5f⟩, -, -, ⟨k4_8, k4_8f⟩, ⟨k4_9, k4_9f⟩, -, ⟨k4_11, k4_11f⟩⟩ := pcells hb3
            obtain ⟨V4, hV4⟩ : ∃ V, V3.setCell ⟨p, 9, none⟩ (.int .i64 S) = V := ⟨_, rfl⟩
            have hb4 : V4.heap[p]? = some (.cells (PC { s with fi := false, wr := true, so := true, la := S } d (.slice ia iN ic) vp vd (sayV q)) 43 (0, 0)) := by rw [← hV4]; exact blk_set hb3 9 _
            obtain ⟨⟨k5_0, k5_0f⟩, -, -, -, ⟨k5_4, k5_4f⟩, ⟨k5_5, k5_5f⟩, -, -, ⟨k5_8, k5_8f⟩, ⟨k5_9, k5_9f⟩, -, ⟨k5_11, k5_11f⟩⟩ := pcells hb4
            have hkk : Kept (fun i => i = p) W V4 := by rw [← hV4, ← hV3, ← hV2, ← hV1]; exact ((((Kept.refl (fun i => i = p) W).setCell (p := ⟨p, 6, none⟩) (.inl rfl) _).setCell (p := ⟨p, 5, none⟩) (.inl rfl) _).setCell (p := ⟨p, 8, none⟩) (.inl rfl) _).setCell (p := ⟨p, 9, none⟩) (.inl rfl) _
            have hcV := hc.upd (s' := { s with fi := false, wr := true, so := true, la := S }) hkk hb4 rfl rfl rfl rfl ⟨hc.ok.st, hc.ok.it, hc.ok.ps, by simp; omega, hc.ok.ds⟩
            have HRV := Lib.hid (show RR G V4 p q { s with fi := false, wr := true, so := true, la := S } L from ⟨d, _, vp, vd, vo, Vs, hcV, hg⟩)
            have HKV := Lib.hid (show Kept G W V4 from hkk.mono fun i _ h => (hg i).2 (.inl h))
            try simp only at k2_0 k2_4 k2_5 k2_8 k2_9 k2_11 k3_0 k3_4 k3_5 k3_8 k3_9 k3_11 k4_0 k4_4 k4_5 k4_8 k4_9 k4_11 k5_0 k5_4 k5_5 k5_8 k5_9 k5_11
            clear hb1 hb2 hb3 hb4 hkk hcV
            rw [hwr] at k2_5
            rw [e]
            clear e h80 h2f h7f h39 hc hg hfi hmin hS0 hin hla hwr hS
            show Calls Try.prog 39 _ W fun r w' => (∃ x, r = .returned x) ∧ TP G W p q ({ s with fi := false, wr := true, so := true, la := S }) (L ++ []) w'
            go_enter Try.func39, Try.ntmps39
            go_wp2_with fail
            refine (ctl_any c _).mono ?_
            rintro r w2 ⟨rfl, rfl⟩
            rw [hct]
            go_wp2
            go_end0
            exact ⟨⟨_, rfl⟩, by rw [List.append_nil]; exact tp_rr HRV.out (fun _ h => .inl h) HKV.out⟩
          · by_cases hm2 : 65535 < S
            · have hmin : min S 65535 = 65535 := Int.min_eq_right (by omega)
              have e : headS s c = ({ s with fi := false, wr := true, so := true, la := 65535 }, []) := by unfold headS; rw [hfi, hct]; simp only [Bool.false_or, Bool.true_and, Bool.false_and, Bool.false_eq_true, if_false, g127, if_neg h80, if_neg h2f, if_neg h7f, if_pos h39, hS, hmin, hwr, hin, hbl, Bool.true_or]
              obtain ⟨⟨k1_0, k1_0f⟩, -, -, -, ⟨k1_4, k1_4f⟩, ⟨k1_5, k1_5f⟩, ⟨k1_6, k1_6f⟩, -, ⟨k1_8, k1_8f⟩, ⟨k1_9, k1_9f⟩, -, ⟨k1_11, k1_11f⟩⟩ := pcells hc.pb
              obtain ⟨V1, hV1⟩ : ∃ V, W.setCell ⟨p, 6, none⟩ (.bool false) = V := ⟨_, rfl⟩
              have hb1 : V1.heap[p]? = some (.cells (PC { s with fi := false } d (.slice ia iN ic) vp vd (sayV q)) 43 (0, 0)) := by rw [← hV1]; exact blk_set hc.pb 6 _
              obtain ⟨⟨k2_0, k2_0f⟩, -, -, -, ⟨k2_4, k2_4f⟩, ⟨k2_5, k2_5f⟩, -, -, ⟨k2_8, k2_8f⟩, ⟨k2_9, k2_9f⟩, -, ⟨k2_11, k2_11f⟩⟩ := pcells hb1
              obtain ⟨V2, hV2⟩ : ∃ V, V1.setCell ⟨p, 5, none⟩ (.bool true) = V := ⟨_, rfl⟩
              have hb2 : V2.heap[p]? = some (.cells (PC { s with fi := false, wr := true } d (.slice ia iN ic) vp vd (sayV q)) 43 (0, 0)) := by rw [← hV2]; exact blk_set hb1 5 _
              obtain ⟨⟨k3_0, k3_0f⟩, -, -, -, ⟨k3_4, k3_4f⟩, ⟨k3_5, k3_5f⟩, -, -, ⟨k3_8, k3_8f⟩, ⟨k3_9, k3_9f⟩, -, ⟨k3_11, k3_11f⟩⟩ := pcells hb2
              obtain ⟨V3, hV3⟩ : ∃ V, V2.setCell ⟨p, 8, none⟩ (.bool true) = V := ⟨_, rfl⟩
              have hb3 : V3.heap[p]? = some (.cells (PC { s with fi := false, wr := true, so := true } d (.slice ia iN ic) vp vd (sayV q)) 43 (0, 0)) := by rw [← hV3]; exact blk_set hb2 8 _
              obtain ⟨⟨k4_0, k4_0f⟩, -, -, -, ⟨k4_4, k4_4f⟩, ⟨k4_5, k4_5f⟩, -, -, ⟨k4_8, k4_8f⟩, ⟨k4_9, k4_9f⟩, -, ⟨k4_11, k4_11f⟩⟩ := pcells hb3
              obtain ⟨V4, hV4⟩ : ∃ V, V3.setCell ⟨p, 9, none⟩ (.int .i64 65535) = V := ⟨_, rfl⟩
              have hb4 : V4.heap[p]? = some (.cells (PC { s with fi := false, wr := true, so := true, la := 65535 } d (.slice ia iN ic) vp vd (sayV q)) 43 (0, 0)) := by rw [← hV4]; exact blk_set hb3 9 _
              obtain ⟨⟨k5_0, k5_0f⟩, -, -, -, ⟨k5_4, k5_4f⟩, ⟨k5_5, k5_5f⟩, -, -, ⟨k5_8, k5_8f⟩, ⟨k5_9, k5_9f⟩, -, ⟨k5_11, k5_11f⟩⟩ := pcells hb4
              have hkk : Kept (fun i => i = p) W V4 := by rw [← hV4, ← hV3, ← hV2, ← hV1]; exact ((((Kept.refl (fun i => i = p) W).setCell (p := ⟨p, 6, none⟩) (.inl rfl) _).setCell (p := ⟨p, 5, none⟩) (.inl rfl) _).setCell (p := ⟨p, 8, none⟩) (.inl rfl) _).setCell (p := ⟨p, 9, none⟩) (.inl rfl) _
              have hcV := hc.upd (s' := { s with fi := false, wr := true, so := true, la := 65535 }) hkk hb4 rfl rfl rfl rfl ⟨hc.ok.st, hc.ok.it, hc.ok.ps, by simp, hc.ok.ds⟩
              have HRV := Lib.hid (show RR G V4 p q { s with fi := false, wr := true, so := true, la := 65535 } L from ⟨d, _, vp, vd, vo, Vs, hcV, hg⟩)
              have HKV := Lib.hid (show Kept G W V4 from hkk.mono fun i _ h => (hg i).2 (.inl h))
              try simp only at k2_0 k2_4 k2_5 k2_8 k2_9 k2_11 k3_0 k3_4 k3_5 k3_8 k3_9 k3_11 k4_0 k4_4 k4_5 k4_8 k4_9 k4_11 k5_0 k5_4 k5_5 k5_8 k5_9 k5_11
              clear hb1 hb2 hb3 hb4 hkk hcV
              rw [hwr] at k2_5
              rw [e]
              clear e h80 h2f h7f h39 hc hg hfi hmin hS0 hin hla hwr hS
              show Calls Try.prog 39 _ W fun r w' => (∃ x, r = .returned x) ∧ TP G W p q ({ s with fi := false, wr := true, so := true, la := 65535 }) (L ++ []) w'
              go_enter Try.func39, Try.ntmps39
              go_wp2_with fail
              refine (ctl_any c _).mono ?_
              rintro r w2 ⟨rfl, rfl⟩
              rw [hct]
              go_wp2
              go_end0
              exact ⟨⟨_, rfl⟩, by rw [List.append_nil]; exact tp_rr HRV.out (fun _ h => .inl h) HKV.out⟩
            · obtain rfl : S = 65535 := by omega
              have hmin : min (65535 : Int) 65535 = 65535 := by decide
              have e : headS s c = ({ s with fi := false, wr := true, so := true, la := 65535 }, []) := by unfold headS; rw [hfi, hct]; simp only [Bool.false_or, Bool.true_and, Bool.false_and, Bool.false_eq_true, if_false, g127, if_neg h80, if_neg h2f, if_neg h7f, if_pos h39, hS, hmin, hwr, hin, hbl, Bool.true_or]
              obtain ⟨⟨k1_0, k1_0f⟩, -, -, -, ⟨k1_4, k1_4f⟩, ⟨k1_5, k1_5f⟩, ⟨k1_6, k1_6f⟩, -, ⟨k1_8, k1_8f⟩, ⟨k1_9, k1_9f⟩, -, ⟨k1_11, k1_11f⟩⟩ := pcells hc.pb
              obtain ⟨V1, hV1⟩ : ∃ V, W.setCell ⟨p, 6, none⟩ (.bool false) = V := ⟨_, rfl⟩
              have hb1 : V1.heap[p]? = some (.cells (PC { s with fi := false } d (.slice ia iN ic) vp vd (sayV q)) 43 (0, 0)) := by rw [← hV1]; exact blk_set hc.pb 6 _
              obtain ⟨⟨k2_0, k2_0f⟩, -, -, -, ⟨k2_4, k2_4f⟩, ⟨k2_5, k2_5f⟩, -, -, ⟨k2_8, k2_8f⟩, ⟨k2_9, k2_9f⟩, -, ⟨k2_11, k2_11f⟩⟩ := pcells hb1
              obtain ⟨V2, hV2⟩ : ∃ V, V1.setCell ⟨p, 5, none⟩ (.bool true) = V := ⟨_, rfl⟩
              have hb2 : V2.heap[p]? = some (.cells (PC { s with fi := false, wr := true } d (.slice ia iN ic) vp vd (sayV q)) 43 (0, 0)) := by rw [← hV2]; exact blk_set hb1 5 _
              obtain ⟨⟨k3_0, k3_0f⟩, -, -, -, ⟨k3_4, k3_4f⟩, ⟨k3_5, k3_5f⟩, -, -, ⟨k3_8, k3_8f⟩, ⟨k3_9, k3_9f⟩, -, ⟨k3_11, k3_11f⟩⟩ := pcells hb2
              obtain ⟨V3, hV3⟩ : ∃ V, V2.setCell ⟨p, 8, none⟩ (.bool true) = V := ⟨_, rfl⟩
              have hb3 : V3.heap[p]? = some (.cells (PC { s with fi := false, wr := true, so := true } d (.slice ia iN ic) vp vd (sayV q)) 43 (0, 0)) := by rw [← hV3]; exact blk_set hb2 8 _
              obtain ⟨⟨k4_0, k4_0f⟩, -, -, -, ⟨k4_4, k4_4f⟩, ⟨k4_5, k4_5f⟩, -, -, ⟨k4_8, k4_8f⟩, ⟨k4_9, k4_9f⟩, -, ⟨k4_11, k4_11f⟩⟩ := pcells hb3
              obtain ⟨V4, hV4⟩ : ∃ V, V3.setCell ⟨p, 9, none⟩ (.int .i64 65535) = V := ⟨_, rfl⟩
              have hb4 : V4.heap[p]? = some (.cells (PC { s with fi := false, wr := true, so := true, la := 65535 } d (.slice ia iN ic) vp vd (sayV q)) 43 (0, 0)) := by rw [← hV4]; exact blk_set hb3 9 _
              obtain ⟨⟨k5_0, k5_0f⟩, -, -, -, ⟨k5_4, k5_4f⟩, ⟨k5_5, k5_5f⟩, -, -, ⟨k5_8, k5_8f⟩, ⟨k5_9, k5_9f⟩, -, ⟨k5_11, k5_11f⟩⟩ := pcells hb4
              have hkk : Kept (fun i => i = p) W V4 := by rw [← hV4, ← hV3, ← hV2, ← hV1]; exact ((((Kept.refl (fun i => i = p) W).setCell (p := ⟨p, 6, none⟩) (.inl rfl) _).setCell (p := ⟨p, 5, none⟩) (.inl rfl) _).setCell (p := ⟨p, 8, none⟩) (.inl rfl) _).setCell (p := ⟨p, 9, none⟩) (.inl rfl) _
              have hcV := hc.upd (s' := { s with fi := false, wr := true, so := true, la := 65535 }) hkk hb4 rfl rfl rfl rfl ⟨hc.ok.st, hc.ok.it, hc.ok.ps, by simp, hc.ok.ds⟩
              have HRV := Lib.hid (show RR G V4 p q { s with fi := false, wr := true, so := true, la := 65535 } L from ⟨d, _, vp, vd, vo, Vs, hcV, hg⟩)
              have HKV := Lib.hid (show Kept G W V4 from hkk.mono fun i _ h => (hg i).2 (.inl h))
              try simp only at k2_0 k2_4 k2_5 k2_8 k2_9 k2_11 k3_0 k3_4 k3_5 k3_8 k3_9 k3_11 k4_0 k4_4 k4_5 k4_8 k4_9 k4_11 k5_0 k5_4 k5_5 k5_8 k5_9 k5_11
              clear hb1 hb2 hb3 hb4 hkk hcV
              rw [hwr] at k2_5
              rw [e]
              clear e h80 h2f h7f h39 hc hg hfi hmin hS0 hin hla hwr hS
              show Calls Try.prog 39 _ W fun r w' => (∃ x, r = .returned x) ∧ TP G W p q ({ s with fi := false, wr := true, so := true, la := 65535 }) (L ++ []) w'
              go_enter Try.func39, Try.ntmps39
              go_wp2_with fail
              refine (ctl_any c _).mono ?_
              rintro r w2 ⟨rfl, rfl⟩
              rw [hct]
              go_wp2
              go_end0
              exact ⟨⟨_, rfl⟩, by rw [List.append_nil]; exact tp_rr HRV.out (fun _ h => .inl h) HKV.out⟩
        | false =>
          by_cases hm : S < 65535
          · have hm2 : ¬ 65535 < S := by omega
            have hmin : min S 65535 = S := Int.min_eq_left (by omega)
            have e : headS s c = ({ s with fi := false, wr := bl, so := true, la := S }, []) := by unfold headS; rw [hfi, hct]; simp only [Bool.false_or, Bool.true_and, Bool.false_and, Bool.false_eq_true, if_false, g127, if_neg h80, if_neg h2f, if_neg h7f, if_pos h39, hS, hmin, hwr, hin, hbl, Bool.false_or]
            obtain ⟨⟨k1_0, k1_0f⟩, -, -, -, ⟨k1_4, k1_4f⟩, ⟨k1_5, k1_5f⟩, ⟨k1_6, k1_6f⟩, -, ⟨k1_8, k1_8f⟩, ⟨k1_9, k1_9f⟩, -, ⟨k1_11, k1_11f⟩⟩ := pcells hc.pb
            obtain ⟨V1, hV1⟩ : ∃ V, W.setCell ⟨p, 6, none⟩ (.bool false) = V := ⟨_, rfl⟩
            have hb1 : V1.heap[p]? = some (.cells (PC { s with fi := false } d (.slice ia iN ic) vp vd (sayV q)) 43 (0, 0)) := by rw [← hV1]; exact blk_set hc.pb 6 _
            obtain ⟨⟨k2_0, k2_0f⟩, -, -, -, ⟨k2_4, k2_4f⟩, ⟨k2_5, k2_5f⟩, -, -, ⟨k2_8, k2_8f⟩, ⟨k2_9, k2_9f⟩, -, ⟨k2_11, k2_11f⟩⟩ := pcells hb1
            obtain ⟨V2, hV2⟩ : ∃ V, V1.setCell ⟨p, 5, none⟩ (.bool bl) = V := ⟨_, rfl⟩
            have hb2 : V2.heap[p]? = some (.cells (PC { s with fi := false, wr := bl } d (.slice ia iN ic) vp vd (sayV q)) 43 (0, 0)) := by rw [← hV2]; exact blk_set hb1 5 _
            obtain ⟨⟨k3_0, k3_0f⟩, -, -, -, ⟨k3_4, k3_4f⟩, ⟨k3_5, k3_5f⟩, -, -, ⟨k3_8, k3_8f⟩, ⟨k3_9, k3_9f⟩, -, ⟨k3_11, k3_11f⟩⟩ := pcells hb2
            obtain ⟨V3, hV3⟩ : ∃ V, V2.setCell ⟨p, 8, none⟩ (.bool true) = V := ⟨_, rfl⟩
            have hb3 : V3.heap[p]? = some (.cells (PC { s with fi := false, wr := bl, so := true } d (.slice ia iN ic) vp vd (sayV q)) 43 (0, 0)) := by rw [← hV3]; exact blk_set hb2 8 _
            obtain ⟨⟨k4_0, k4_0f⟩, -, -, -, ⟨k4_4, k4_4f⟩, ⟨k4_5, k4_5f⟩, -, -, ⟨k4_8, k4_8f⟩, ⟨k4_9, k4_9f⟩, -, ⟨k4_11, k4_11f⟩⟩ := pcells hb3
            obtain ⟨V4, hV4⟩ : ∃ V, V3.setCell ⟨p, 9, none⟩ (.int .i64 S) = V := ⟨_, rfl⟩
            have hb4 : V4.heap[p]? = some (.cells (PC { s with fi := false, wr := bl, so := true, la := S } d (.slice ia iN ic) vp vd (sayV q)) 43 (0, 0)) := by rw [← hV4]; exact blk_set hb3 9 _
            obtain ⟨⟨k5_0, k5_0f⟩, -, -, -, ⟨k5_4, k5_4f⟩, ⟨k5_5, k5_5f⟩, -, -, ⟨k5_8, k5_8f⟩, ⟨k5_9, k5_9f⟩, -, ⟨k5_11, k5_11f⟩⟩ := pcells hb4
            have hkk : Kept (fun i => i = p) W V4 := by rw [← hV4, ← hV3, ← hV2, ← hV1]; exact ((((Kept.refl (fun i => i = p) W).setCell (p := ⟨p, 6, none⟩) (.inl rfl) _).setCell (p := ⟨p, 5, none⟩) (.inl rfl) _).setCell (p := ⟨p, 8, none⟩) (.inl rfl) _).setCell (p := ⟨p, 9, none⟩) (.inl rfl) _
            have hcV := hc.upd (s' := { s with fi := false, wr := bl, so := true, la := S }) hkk hb4 rfl rfl rfl rfl ⟨hc.ok.st, hc.ok.it, hc.ok.ps, by simp; omega, hc.ok.ds⟩
            have HRV := Lib.hid (show RR G V4 p q { s with fi := false, wr := bl, so := true, la := S } L from ⟨d, _, vp, vd, vo, Vs, hcV, hg⟩)
            have HKV := Lib.hid (show Kept G W V4 from hkk.mono fun i _ h => (hg i).2 (.inl h))
            try simp only at k2_0 k2_4 k2_5 k2_8 k2_9 k2_11 k3_0 k3_4 k3_5 k3_8 k3_9 k3_11 k4_0 k4_4 k4_5 k4_8 k4_9 k4_11 k5_0 k5_4 k5_5 k5_8 k5_9 k5_11
            clear hb1 hb2 hb3 hb4 hkk hcV
            rw [hwr] at k2_5
            rw [e]
            clear e h80 h2f h7f h39 hc hg hfi hmin hS0 hin hla hwr hS
            show Calls Try.prog 39 _ W fun r w' => (∃ x, r = .returned x) ∧ TP G W p q ({ s with fi := false, wr := bl, so := true, la := S }) (L ++ []) w'
            go_enter Try.func39, Try.ntmps39
            go_wp2_with fail
            refine (ctl_any c _).mono ?_
            rintro r w2 ⟨rfl, rfl⟩
            rw [hct]
            go_wp2
            go_end0
            exact ⟨⟨_, rfl⟩, by rw [List.append_nil]; exact tp_rr HRV.out (fun _ h => .inl h) HKV.out⟩
          · by_cases hm2 : 65535 < S
            · have hmin : min S 65535 = 65535 := Int.min_eq_right (by omega)
              have e : headS s c = ({ s with fi := false, wr := bl, so := true, la := 65535 }, []) := by unfold headS; rw [hfi, hct]; simp only [Bool.false_or, Bool.true_and, Bool.false_and, Bool.false_eq_true, if_false, g127, if_neg h80, if_neg h2f, if_neg h7f, if_pos h39, hS, hmin, hwr, hin, hbl, Bool.false_or]
              obtain ⟨⟨k1_0, k1_0f⟩, -, -, -, ⟨k1_4, k1_4f⟩, ⟨k1_5, k1_5f⟩, ⟨k1_6, k1_6f⟩, -, ⟨k1_8, k1_8f⟩, ⟨k1_9, k1_9f⟩, -, ⟨k1_11, k1_11f⟩⟩ := pcells hc.pb
              obtain ⟨V1, hV1⟩ : ∃ V, W.setCell ⟨p, 6, none⟩ (.bool false) = V := ⟨_, rfl⟩
              have hb1 : V1.heap[p]? = some (.cells (PC { s with fi := false } d (.slice ia iN ic) vp vd (sayV q)) 43 (0, 0)) := by rw [← hV1]; exact blk_set hc.pb 6 _
              obtain ⟨⟨k2_0, k2_0f⟩, -, -, -, ⟨k2_4, k2_4f⟩, ⟨k2_5, k2_5f⟩, -, -, ⟨k2_8, k2_8f⟩, ⟨k2_9, k2_9f⟩, -, ⟨k2_11, k2_11f⟩⟩ := pcells hb1
              obtain ⟨V2, hV2⟩ : ∃ V, V1.setCell ⟨p, 5, none⟩ (.bool bl) = V := ⟨_, rfl⟩
              have hb2 : V2.heap[p]? = some (.cells (PC { s with fi := false, wr := bl } d (.slice ia iN ic) vp vd (sayV q)) 43 (0, 0)) := by rw [← hV2]; exact blk_set hb1 5 _
              obtain ⟨⟨k3_0, k3_0f⟩, -, -, -, ⟨k3_4, k3_4f⟩, ⟨k3_5, k3_5f⟩, -, -, ⟨k3_8, k3_8f⟩, ⟨k3_9, k3_9f⟩, -, ⟨k3_11, k3_11f⟩⟩ := pcells hb2
              obtain ⟨V3, hV3⟩ : ∃ V, V2.setCell ⟨p, 8, none⟩ (.bool true) = V := ⟨_, rfl⟩
              have hb3 : V3.heap[p]? = some (.cells (PC { s with fi := false, wr := bl, so := true } d (.slice ia iN ic) vp vd (sayV q)) 43 (0, 0)) := by rw [← hV3]; exact blk_set hb2 8 _
              obtain ⟨⟨k4_0, k4_0f⟩, -, -, -, ⟨k4_4, k4_4f⟩, ⟨k4_5, k4_5f⟩, -, -, ⟨k4_8, k4_8f⟩, ⟨k4_9, k4_9f⟩, -, ⟨k4_11, k4_11f⟩⟩ := pcells hb3
              obtain ⟨V4, hV4⟩ : ∃ V, V3.setCell ⟨p, 9, none⟩ (.int .i64 65535) = V := ⟨_, rfl⟩
              have hb4 : V4.heap[p]? = some (.cells (PC { s with fi := false, wr := bl, so := true, la := 65535 } d (.slice ia iN ic) vp vd (sayV q)) 43 (0, 0)) := by rw [← hV4]; exact blk_set hb3 9 _
              obtain ⟨⟨k5_0, k5_0f⟩, -, -, -, ⟨k5_4, k5_4f⟩, ⟨k5_5, k5_5f⟩, -, -, ⟨k5_8, k5_8f⟩, ⟨k5_9, k5_9f⟩, -, ⟨k5_11, k5_11f⟩⟩ := pcells hb4
              have hkk : Kept (fun i => i = p) W V4 := by rw [← hV4, ← hV3, ← hV2, ← hV1]; exact ((((Kept.refl (fun i => i = p) W).setCell (p := ⟨p, 6, none⟩) (.inl rfl) _).setCell (p := ⟨p, 5, none⟩) (.inl rfl) _).setCell (p := ⟨p, 8, none⟩) (.inl rfl) _).setCell (p := ⟨p, 9, none⟩) (.inl rfl) _
              have hcV := hc.upd (s' := { s with fi := false, wr := bl, so := true, la := 65535 }) hkk hb4 rfl rfl rfl rfl ⟨hc.ok.st, hc.ok.it, hc.ok.ps, by simp, hc.ok.ds⟩
              have HRV := Lib.hid (show RR G V4 p q { s with fi := false, wr := bl, so := true, la := 65535 } L from ⟨d, _, vp, vd, vo, Vs, hcV, hg⟩)
              have HKV := Lib.hid (show Kept G W V4 from hkk.mono fun i _ h => (hg i).2 (.inl h))
              try simp only at k2_0 k2_4 k2_5 k2_8 k2_9 k2_11 k3_0 k3_4 k3_5 k3_8 k3_9 k3_11 k4_0 k4_4 k4_5 k4_8 k4_9 k4_11 k5_0 k5_4 k5_5 k5_8 k5_9 k5_11
              clear hb1 hb2 hb3 hb4 hkk hcV
              rw [hwr] at k2_5
              rw [e]
              clear e h80 h2f h7f h39 hc hg hfi hmin hS0 hin hla hwr hS
              show Calls Try.prog 39 _ W fun r w' => (∃ x, r = .returned x) ∧ TP G W p q ({ s with fi := false, wr := bl, so := true, la := 65535 }) (L ++ []) w'
              go_enter Try.func39, Try.ntmps39
              go_wp2_with fail
              refine (ctl_any c _).mono ?_
              rintro r w2 ⟨rfl, rfl⟩
              rw [hct]
              go_wp2
              go_end0
              exact ⟨⟨_, rfl⟩, by rw [List.append_nil]; exact tp_rr HRV.out (fun _ h => .inl h) HKV.out⟩
            · obtain rfl : S = 65535 := by omega
              have hmin : min (65535 : Int) 65535 = 65535 := by decide
              have e : headS s c = ({ s with fi := false, wr := bl, so := true, la := 65535 }, []) := by unfold headS; rw [hfi, hct]; simp only [Bool.false_or, Bool.true_and, Bool.false_and, Bool.false_eq_true, if_false, g127, if_neg h80, if_neg h2f, if_neg h7f, if_pos h39, hS, hmin, hwr, hin, hbl, Bool.false_or]
              obtain ⟨⟨k1_0, k1_0f⟩, -, -, -, ⟨k1_4, k1_4f⟩, ⟨k1_5, k1_5f⟩, ⟨k1_6, k1_6f⟩, -, ⟨k1_8, k1_8f⟩, ⟨k1_9, k1_9f⟩, -, ⟨k1_11, k1_11f⟩⟩ := pcells hc.pb
              obtain ⟨V1, hV1⟩ : ∃ V, W.setCell ⟨p, 6, none⟩ (.bool false) = V := ⟨_, rfl⟩
              have hb1 : V1.heap[p]? = some (.cells (PC { s with fi := false } d (.slice ia iN ic) vp vd (sayV q)) 43 (0, 0)) := by rw [← hV1]; exact blk_set hc.pb 6 _
              obtain ⟨⟨k2_0, k2_0f⟩, -, -, -, ⟨k2_4, k2_4f⟩, ⟨k2_5, k2_5f⟩, -, -, ⟨k2_8, k2_8f⟩, ⟨k2_9, k2_9f⟩, -, ⟨k2_11, k2_11f⟩⟩ := pcells hb1
              obtain ⟨V2, hV2⟩ : ∃ V, V1.setCell ⟨p, 5, none⟩ (.bool bl) = V := ⟨_, rfl⟩
              have hb2 : V2.heap[p]? = some (.cells (PC { s with fi := false, wr := bl } d (.slice ia iN ic) vp vd (sayV q)) 43 (0, 0)) := by rw [← hV2]; exact blk_set hb1 5 _
              obtain ⟨⟨k3_0, k3_0f⟩, -, -, -, ⟨k3_4, k3_4f⟩, ⟨k3_5, k3_5f⟩, -, -, ⟨k3_8, k3_8f⟩, ⟨k3_9, k3_9f⟩, -, ⟨k3_11, k3_11f⟩⟩ := pcells hb2
              obtain ⟨V3, hV3⟩ : ∃ V, V2.setCell ⟨p, 8, none⟩ (.bool true) = V := ⟨_, rfl⟩
              have hb3 : V3.heap[p]? = some (.cells (PC { s with fi := false, wr := bl, so := true } d (.slice ia iN ic) vp vd (sayV q)) 43 (0, 0)) := by rw [← hV3]; exact blk_set hb2 8 _
              obtain ⟨⟨k4_0, k4_0f⟩, -, -, -, ⟨k4_4, k4_4f⟩, ⟨k4_5, k4_5f⟩, -, -, ⟨k4_8, k4_8f⟩, ⟨k4_9, k4_9f⟩, -, ⟨k4_11, k4_11f⟩⟩ := pcells hb3
              obtain ⟨V4, hV4⟩ : ∃ V, V3.setCell ⟨p, 9, none⟩ (.int .i64 65535) = V := ⟨_, rfl⟩
              have hb4 : V4.heap[p]? = some (.cells (PC { s with fi := false, wr := bl, so := true, la := 65535 } d (.slice ia iN ic) vp vd (sayV q)) 43 (0, 0)) := by rw [← hV4]; exact blk_set hb3 9 _
              obtain ⟨⟨k5_0, k5_0f⟩, -, -, -, ⟨k5_4, k5_4f⟩, ⟨k5_5, k5_5f⟩, -, -, ⟨k5_8, k5_8f⟩, ⟨k5_9, k5_9f⟩, -, ⟨k5_11, k5_11f⟩⟩ := pcells hb4
              have hkk : Kept (fun i => i = p) W V4 := by rw [← hV4, ← hV3, ← hV2, ← hV1]; exact ((((Kept.refl (fun i => i = p) W).setCell (p := ⟨p, 6, none⟩) (.inl rfl) _).setCell (p := ⟨p, 5, none⟩) (.inl rfl) _).setCell (p := ⟨p, 8, none⟩) (.inl rfl) _).setCell (p := ⟨p, 9, none⟩) (.inl rfl) _
              have hcV := hc.upd (s' := { s with fi := false, wr := bl, so := true, la := 65535 }) hkk hb4 rfl rfl rfl rfl ⟨hc.ok.st, hc.ok.it, hc.ok.ps, by simp, hc.ok.ds⟩
              have HRV := Lib.hid (show RR G V4 p q { s with fi := false, wr := bl, so := true, la := 65535 } L from ⟨d, _, vp, vd, vo, Vs, hcV, hg⟩)
              have HKV := Lib.hid (show Kept G W V4 from hkk.mono fun i _ h => (hg i).2 (.inl h))
              try simp only at k2_0 k2_4 k2_5 k2_8 k2_9 k2_11 k3_0 k3_4 k3_5 k3_8 k3_9 k3_11 k4_0 k4_4 k4_5 k4_8 k4_9 k4_11 k5_0 k5_4 k5_5 k5_8 k5_9 k5_11
              clear hb1 hb2 hb3 hb4 hkk hcV
              rw [hwr] at k2_5
              rw [e]
              clear e h80 h2f h7f h39 hc hg hfi hmin hS0 hin hla hwr hS
              show Calls Try.prog 39 _ W fun r w' => (∃ x, r = .returned x) ∧ TP G W p q ({ s with fi := false, wr := bl, so := true, la := 65535 }) (L ++ []) w'
              go_enter Try.func39, Try.ntmps39
              go_wp2_with fail
              refine (ctl_any c _).mono ?_
              rintro r w2 ⟨rfl, rfl⟩
              rw [hct]
              go_wp2
              go_end0
              exact ⟨⟨_, rfl⟩, by rw [List.append_nil]; exact tp_rr HRV.out (fun _ h => .inl h) HKV.out⟩
      have g39 : decide (c ≤ 57) = false := decide_eq_false h39
      by_cases h59 : c = 59
      · have g59 : (c == 59) = true := by simp [h59]
        obtain ⟨bl, hbl⟩ : ∃ b, decide (0 < iN) = b := ⟨_, rfl⟩
        have hbl' : decide ((0 : Int) < (iN : Int)) = bl := by rw [← hbl]; congr 1; simp
        cases hwr : s.wr with
        | true =>
          have e : headS s c = (nextS { s with fi := false, wr := true, so := true }, []) := by unfold headS; rw [hfi, hct]; simp only [Bool.false_or, Bool.true_and, Bool.false_and, Bool.false_eq_true, if_false, g127, if_neg h80, if_neg h2f, if_neg h7f, if_neg h39, if_pos h59, hwr, hin, hbl, Bool.true_or]
          obtain ⟨⟨k1_0, k1_0f⟩, -, -, -, ⟨k1_4, k1_4f⟩, ⟨k1_5, k1_5f⟩, ⟨k1_6, k1_6f⟩, -, ⟨k1_8, k1_8f⟩, ⟨k1_9, k1_9f⟩, -, ⟨k1_11, k1_11f⟩⟩ := pcells hc.pb
          obtain ⟨V1, hV1⟩ : ∃ V, W.setCell ⟨p, 6, none⟩ (.bool false) = V := ⟨_, rfl⟩
          have hb1 : V1.heap[p]? = some (.cells (PC { s with fi := false } d (.slice ia iN ic) vp vd (sayV q)) 43 (0, 0)) := by rw [← hV1]; exact blk_set hc.pb 6 _
          obtain ⟨⟨k2_0, k2_0f⟩, -, -, -, ⟨k2_4, k2_4f⟩, ⟨k2_5, k2_5f⟩, -, -, ⟨k2_8, k2_8f⟩, ⟨k2_9, k2_9f⟩, -, ⟨k2_11, k2_11f⟩⟩ := pcells hb1
          obtain ⟨V2, hV2⟩ : ∃ V, V1.setCell ⟨p, 5, none⟩ (.bool true) = V := ⟨_, rfl⟩
          have hb2 : V2.heap[p]? = some (.cells (PC { s with fi := false, wr := true } d (.slice ia iN ic) vp vd (sayV q)) 43 (0, 0)) := by rw [← hV2]; exact blk_set hb1 5 _
          obtain ⟨⟨k3_0, k3_0f⟩, -, -, -, ⟨k3_4, k3_4f⟩, ⟨k3_5, k3_5f⟩, -, -, ⟨k3_8, k3_8f⟩, ⟨k3_9, k3_9f⟩, -, ⟨k3_11, k3_11f⟩⟩ := pcells hb2
          obtain ⟨V3, hV3⟩ : ∃ V, V2.setCell ⟨p, 8, none⟩ (.bool true) = V := ⟨_, rfl⟩
          have hb3 : V3.heap[p]? = some (.cells (PC { s with fi := false, wr := true, so := true } d (.slice ia iN ic) vp vd (sayV q)) 43 (0, 0)) := by rw [← hV3]; exact blk_set hb2 8 _
          obtain ⟨⟨k4_0, k4_0f⟩, -, -, -, ⟨k4_4, k4_4f⟩, ⟨k4_5, k4_5f⟩, -, -, ⟨k4_8, k4_8f⟩, ⟨k4_9, k4_9f⟩, -, ⟨k4_11, k4_11f⟩⟩ := pcells hb3
          have hkk : Kept (fun i => i = p) W V3 := by rw [← hV3, ← hV2, ← hV1]; exact (((Kept.refl (fun i => i = p) W).setCell (p := ⟨p, 6, none⟩) (.inl rfl) _).setCell (p := ⟨p, 5, none⟩) (.inl rfl) _).setCell (p := ⟨p, 8, none⟩) (.inl rfl) _
          have hcV := hc.upd (s' := { s with fi := false, wr := true, so := true }) hkk hb3 rfl rfl rfl rfl ⟨hc.ok.st, hc.ok.it, hc.ok.ps, hc.ok.la, hc.ok.ds⟩
          have HRV := Lib.hid (show RR G V3 p q { s with fi := false, wr := true, so := true } L from ⟨d, _, vp, vd, vo, Vs, hcV, hg⟩)
          have HKV := Lib.hid (show Kept G W V3 from hkk.mono fun i _ h => (hg i).2 (.inl h))
          try simp only at k2_0 k2_4 k2_5 k2_8 k2_9 k2_11 k3_0 k3_4 k3_5 k3_8 k3_9 k3_11 k4_0 k4_4 k4_5 k4_8 k4_9 k4_11
          clear hb1 hb2 hb3 hkk hcV
          rw [hwr] at k2_5
          have HB := Lib.hid (next_any G V3 p q _ L HRV.out)
          rw [e]
          clear e h80 h2f h7f h39 h59 hc hg hfi hin hla hwr
          show Calls Try.prog 39 _ W fun r w' => (∃ x, r = .returned x) ∧ TP G W p q (nextS { s with fi := false, wr := true, so := true }) (L ++ []) w'
          go_enter Try.func39, Try.ntmps39
          go_wp2_with fail
          refine (ctl_any c _).mono ?_
          rintro r w2 ⟨rfl, rfl⟩
          rw [hct]
          go_wp2_with fail
          refine (HB.out).mono ?_
          rintro r w3 ⟨⟨x, rfl⟩, ht⟩
          have HT := Lib.hid (TP.then (fun _ h => .inl h) HKV.out ht)
          clear ht
          go_wp2
          go_end0
          exact ⟨⟨_, rfl⟩, by rw [List.append_nil]; exact HT.out⟩
        | false =>
          have e : headS s c = (nextS { s with fi := false, wr := bl, so := true }, []) := by unfold headS; rw [hfi, hct]; simp only [Bool.false_or, Bool.true_and, Bool.false_and, Bool.false_eq_true, if_false, g127, if_neg h80, if_neg h2f, if_neg h7f, if_neg h39, if_pos h59, hwr, hin, hbl, Bool.false_or]
          obtain ⟨⟨k1_0, k1_0f⟩, -, -, -, ⟨k1_4, k1_4f⟩, ⟨k1_5, k1_5f⟩, ⟨k1_6, k1_6f⟩, -, ⟨k1_8, k1_8f⟩, ⟨k1_9, k1_9f⟩, -, ⟨k1_11, k1_11f⟩⟩ := pcells hc.pb
          obtain ⟨V1, hV1⟩ : ∃ V, W.setCell ⟨p, 6, none⟩ (.bool false) = V := ⟨_, rfl⟩
          have hb1 : V1.heap[p]? = some (.cells (PC { s with fi := false } d (.slice ia iN ic) vp vd (sayV q)) 43 (0, 0)) := by rw [← hV1]; exact blk_set hc.pb 6 _
          obtain ⟨⟨k2_0, k2_0f⟩, -, -, -, ⟨k2_4, k2_4f⟩, ⟨k2_5, k2_5f⟩, -, -, ⟨k2_8, k2_8f⟩, ⟨k2_9, k2_9f⟩, -, ⟨k2_11, k2_11f⟩⟩ := pcells hb1
          obtain ⟨V2, hV2⟩ : ∃ V, V1.setCell ⟨p, 5, none⟩ (.bool bl) = V := ⟨_, rfl⟩
          have hb2 : V2.heap[p]? = some (.cells (PC { s with fi := false, wr := bl } d (.slice ia iN ic) vp vd (sayV q)) 43 (0, 0)) := by rw [← hV2]; exact blk_set hb1 5 _
          obtain ⟨⟨k3_0, k3_0f⟩, -, -, -, ⟨k3_4, k3_4f⟩, ⟨k3_5, k3_5f⟩, -, -, ⟨k3_8, k3_8f⟩, ⟨k3_9, k3_9f⟩, -, ⟨k3_11, k3_11f⟩⟩ := pcells hb2
          obtain ⟨V3, hV3⟩ : ∃ V, V2.setCell ⟨p, 8, none⟩ (.bool true) = V := ⟨_, rfl⟩
          have hb3 : V3.heap[p]? = some (.cells (PC { s with fi := false, wr := bl, so := true } d (.slice ia iN ic) vp vd (sayV q)) 43 (0, 0)) := by rw [← hV3]; exact blk_set hb2 8 _
          obtain ⟨⟨k4_0, k4_0f⟩, -, -, -, ⟨k4_4, k4_4f⟩, ⟨k4_5, k4_5f⟩, -, -, ⟨k4_8, k4_8f⟩, ⟨k4_9, k4_9f⟩, -, ⟨k4_11, k4_11f⟩⟩ := pcells hb3
          have hkk : Kept (fun i => i = p) W V3 := by rw [← hV3, ← hV2, ← hV1]; exact (((Kept.refl (fun i => i = p) W).setCell (p := ⟨p, 6, none⟩) (.inl rfl) _).setCell (p := ⟨p, 5, none⟩) (.inl rfl) _).setCell (p := ⟨p, 8, none⟩) (.inl rfl) _
          have hcV := hc.upd (s' := { s with fi := false, wr := bl, so := true }) hkk hb3 rfl rfl rfl rfl ⟨hc.ok.st, hc.ok.it, hc.ok.ps, hc.ok.la, hc.ok.ds⟩
          have HRV := Lib.hid (show RR G V3 p q { s with fi := false, wr := bl, so := true } L from ⟨d, _, vp, vd, vo, Vs, hcV, hg⟩)
          have HKV := Lib.hid (show Kept G W V3 from hkk.mono fun i _ h => (hg i).2 (.inl h))
          try simp only at k2_0 k2_4 k2_5 k2_8 k2_9 k2_11 k3_0 k3_4 k3_5 k3_8 k3_9 k3_11 k4_0 k4_4 k4_5 k4_8 k4_9 k4_11
          clear hb1 hb2 hb3 hkk hcV
          rw [hwr] at k2_5
          have HB := Lib.hid (next_any G V3 p q _ L HRV.out)
          rw [e]
          clear e h80 h2f h7f h39 h59 hc hg hfi hin hla hwr
          show Calls Try.prog 39 _ W fun r w' => (∃ x, r = .returned x) ∧ TP G W p q (nextS { s with fi := false, wr := bl, so := true }) (L ++ []) w'
          go_enter Try.func39, Try.ntmps39
          go_wp2_with fail
          refine (ctl_any c _).mono ?_
          rintro r w2 ⟨rfl, rfl⟩
          rw [hct]
          go_wp2_with fail
          refine (HB.out).mono ?_
          rintro r w3 ⟨⟨x, rfl⟩, ht⟩
          have HT := Lib.hid (TP.then (fun _ h => .inl h) HKV.out ht)
          clear ht
          go_wp2
          go_end0
          exact ⟨⟨_, rfl⟩, by rw [List.append_nil]; exact HT.out⟩
      have g59 : (c == 59) = false := by simp [h59]
      by_cases h63 : c ≤ 63
      · have g63 : decide (c ≤ 63) = true := decide_eq_true h63
        by_cases h60 : 60 ≤ c
        · have g60 : decide (60 ≤ c) = true := decide_eq_true h60
          have e : headS s c = ({ s with fi := false, wr := true }, []) := by unfold headS; rw [hfi, hct]; simp only [Bool.false_or, Bool.true_and, Bool.false_and, Bool.false_eq_true, if_false, g127, if_neg h80, if_neg h2f, if_neg h7f, if_neg h39, if_neg h59, if_pos h63, and_false]
          obtain ⟨⟨k1_0, k1_0f⟩, -, -, -, ⟨k1_4, k1_4f⟩, ⟨k1_5, k1_5f⟩, ⟨k1_6, k1_6f⟩, -, ⟨k1_8, k1_8f⟩, ⟨k1_9, k1_9f⟩, -, ⟨k1_11, k1_11f⟩⟩ := pcells hc.pb
          obtain ⟨V1, hV1⟩ : ∃ V, W.setCell ⟨p, 6, none⟩ (.bool false) = V := ⟨_, rfl⟩
          have hb1 : V1.heap[p]? = some (.cells (PC { s with fi := false } d (.slice ia iN ic) vp vd (sayV q)) 43 (0, 0)) := by rw [← hV1]; exact blk_set hc.pb 6 _
          obtain ⟨⟨k2_0, k2_0f⟩, -, -, -, ⟨k2_4, k2_4f⟩, ⟨k2_5, k2_5f⟩, -, -, ⟨k2_8, k2_8f⟩, ⟨k2_9, k2_9f⟩, -, ⟨k2_11, k2_11f⟩⟩ := pcells hb1
          obtain ⟨V2, hV2⟩ : ∃ V, V1.setCell ⟨p, 5, none⟩ (.bool true) = V := ⟨_, rfl⟩
          have hb2 : V2.heap[p]? = some (.cells (PC { s with fi := false, wr := true } d (.slice ia iN ic) vp vd (sayV q)) 43 (0, 0)) := by rw [← hV2]; exact blk_set hb1 5 _
          obtain ⟨⟨k3_0, k3_0f⟩, -, -, -, ⟨k3_4, k3_4f⟩, ⟨k3_5, k3_5f⟩, -, -, ⟨k3_8, k3_8f⟩, ⟨k3_9, k3_9f⟩, -, ⟨k3_11, k3_11f⟩⟩ := pcells hb2
          have hkk : Kept (fun i => i = p) W V2 := by rw [← hV2, ← hV1]; exact ((Kept.refl (fun i => i = p) W).setCell (p := ⟨p, 6, none⟩) (.inl rfl) _).setCell (p := ⟨p, 5, none⟩) (.inl rfl) _
          have hcV := hc.upd (s' := { s with fi := false, wr := true }) hkk hb2 rfl rfl rfl rfl ⟨hc.ok.st, hc.ok.it, hc.ok.ps, hc.ok.la, hc.ok.ds⟩
          have HRV := Lib.hid (show RR G V2 p q { s with fi := false, wr := true } L from ⟨d, _, vp, vd, vo, Vs, hcV, hg⟩)
          have HKV := Lib.hid (show Kept G W V2 from hkk.mono fun i _ h => (hg i).2 (.inl h))
          try simp only at k2_0 k2_4 k2_5 k2_8 k2_9 k2_11 k3_0 k3_4 k3_5 k3_8 k3_9 k3_11
          clear hb1 hb2 hkk hcV
          rw [e]
          clear e h80 h2f h7f h39 h59 h63 h60 hc hg hfi
          show Calls Try.prog 39 _ W fun r w' => (∃ x, r = .returned x) ∧ TP G W p q ({ s with fi := false, wr := true }) (L ++ []) w'
          go_enter Try.func39, Try.ntmps39
          go_wp2_with fail
          refine (ctl_any c _).mono ?_
          rintro r w2 ⟨rfl, rfl⟩
          rw [hct]
          go_wp2
          go_end0
          exact ⟨⟨_, rfl⟩, by rw [List.append_nil]; exact tp_rr HRV.out (fun _ h => .inl h) HKV.out⟩
        · have g60 : decide (60 ≤ c) = false := decide_eq_false h60
          have e : headS s c = ({ s with fi := false, wr := true }, []) := by unfold headS; rw [hfi, hct]; simp only [Bool.false_or, Bool.true_and, Bool.false_and, Bool.false_eq_true, if_false, g127, if_neg h80, if_neg h2f, if_neg h7f, if_neg h39, if_neg h59, if_pos h63, and_false]
          obtain ⟨⟨k1_0, k1_0f⟩, -, -, -, ⟨k1_4, k1_4f⟩, ⟨k1_5, k1_5f⟩, ⟨k1_6, k1_6f⟩, -, ⟨k1_8, k1_8f⟩, ⟨k1_9, k1_9f⟩, -, ⟨k1_11, k1_11f⟩⟩ := pcells hc.pb
          obtain ⟨V1, hV1⟩ : ∃ V, W.setCell ⟨p, 6, none⟩ (.bool false) = V := ⟨_, rfl⟩
          have hb1 : V1.heap[p]? = some (.cells (PC { s with fi := false } d (.slice ia iN ic) vp vd (sayV q)) 43 (0, 0)) := by rw [← hV1]; exact blk_set hc.pb 6 _
          obtain ⟨⟨k2_0, k2_0f⟩, -, -, -, ⟨k2_4, k2_4f⟩, ⟨k2_5, k2_5f⟩, -, -, ⟨k2_8, k2_8f⟩, ⟨k2_9, k2_9f⟩, -, ⟨k2_11, k2_11f⟩⟩ := pcells hb1
          obtain ⟨V2, hV2⟩ : ∃ V, V1.setCell ⟨p, 5, none⟩ (.bool true) = V := ⟨_, rfl⟩
          have hb2 : V2.heap[p]? = some (.cells (PC { s with fi := false, wr := true } d (.slice ia iN ic) vp vd (sayV q)) 43 (0, 0)) := by rw [← hV2]; exact blk_set hb1 5 _
          obtain ⟨⟨k3_0, k3_0f⟩, -, -, -, ⟨k3_4, k3_4f⟩, ⟨k3_5, k3_5f⟩, -, -, ⟨k3_8, k3_8f⟩, ⟨k3_9, k3_9f⟩, -, ⟨k3_11, k3_11f⟩⟩ := pcells hb2
          have hkk : Kept (fun i => i = p) W V2 := by rw [← hV2, ← hV1]; exact ((Kept.refl (fun i => i = p) W).setCell (p := ⟨p, 6, none⟩) (.inl rfl) _).setCell (p := ⟨p, 5, none⟩) (.inl rfl) _
          have hcV := hc.upd (s' := { s with fi := false, wr := true }) hkk hb2 rfl rfl rfl rfl ⟨hc.ok.st, hc.ok.it, hc.ok.ps, hc.ok.la, hc.ok.ds⟩
          have HRV := Lib.hid (show RR G V2 p q { s with fi := false, wr := true } L from ⟨d, _, vp, vd, vo, Vs, hcV, hg⟩)
          have HKV := Lib.hid (show Kept G W V2 from hkk.mono fun i _ h => (hg i).2 (.inl h))
          try simp only at k2_0 k2_4 k2_5 k2_8 k2_9 k2_11 k3_0 k3_4 k3_5 k3_8 k3_9 k3_11
          clear hb1 hb2 hkk hcV
          rw [e]
          clear e h80 h2f h7f h39 h59 h63 h60 hc hg hfi
          show Calls Try.prog 39 _ W fun r w' => (∃ x, r = .returned x) ∧ TP G W p q ({ s with fi := false, wr := true }) (L ++ []) w'
          go_enter Try.func39, Try.ntmps39
          go_wp2_with fail
          refine (ctl_any c _).mono ?_
          rintro r w2 ⟨rfl, rfl⟩
          rw [hct]
          go_wp2
          go_end0
          exact ⟨⟨_, rfl⟩, by rw [List.append_nil]; exact tp_rr HRV.out (fun _ h => .inl h) HKV.out⟩
      have g63 : decide (c ≤ 63) = false := decide_eq_false h63
      have g60 : decide (60 ≤ c) = true := decide_eq_true (by omega)
      have e : headS s c = ((finalS { s with fi := false } c).1, (finalS { s with fi := false } c).2) := by unfold headS; rw [hfi, hct]; simp only [Bool.false_or, Bool.true_and, Bool.false_and, Bool.false_eq_true, if_false, g127, if_neg h80, if_neg h2f, if_neg h7f, if_neg h39, if_neg h59, and_false, if_neg h63]
      obtain ⟨⟨k1_0, k1_0f⟩, -, -, -, ⟨k1_4, k1_4f⟩, ⟨k1_5, k1_5f⟩, ⟨k1_6, k1_6f⟩, -, ⟨k1_8, k1_8f⟩, ⟨k1_9, k1_9f⟩, -, ⟨k1_11, k1_11f⟩⟩ := pcells hc.pb
      obtain ⟨V1, hV1⟩ : ∃ V, W.setCell ⟨p, 6, none⟩ (.bool false) = V := ⟨_, rfl⟩
      have hb1 : V1.heap[p]? = some (.cells (PC { s with fi := false } d (.slice ia iN ic) vp vd (sayV q)) 43 (0, 0)) := by rw [← hV1]; exact blk_set hc.pb 6 _
      obtain ⟨⟨k2_0, k2_0f⟩, -, -, -, ⟨k2_4, k2_4f⟩, ⟨k2_5, k2_5f⟩, -, -, ⟨k2_8, k2_8f⟩, ⟨k2_9, k2_9f⟩, -, ⟨k2_11, k2_11f⟩⟩ := pcells hb1
      have hkk : Kept (fun i => i = p) W V1 := by rw [← hV1]; exact (Kept.refl (fun i => i = p) W).setCell (p := ⟨p, 6, none⟩) (.inl rfl) _
      have hcV := hc.upd (s' := { s with fi := false }) hkk hb1 rfl rfl rfl rfl ⟨hc.ok.st, hc.ok.it, hc.ok.ps, hc.ok.la, hc.ok.ds⟩
      have HRV := Lib.hid (show RR G V1 p q { s with fi := false } L from ⟨d, _, vp, vd, vo, Vs, hcV, hg⟩)
      have HKV := Lib.hid (show Kept G W V1 from hkk.mono fun i _ h => (hg i).2 (.inl h))
      try simp only at k2_0 k2_4 k2_5 k2_8 k2_9 k2_11
      clear hb1 hkk hcV
      have HB := Lib.hid (final_any G V1 p q _ L c HRV.out (by omega))
      rw [e]
      clear e h80 h2f h7f h39 h59 h63 hc hg hfi
      go_enter Try.func39, Try.ntmps39
      go_wp2_with fail
      refine (ctl_any c _).mono ?_
      rintro r w2 ⟨rfl, rfl⟩
      rw [hct]
      go_wp2_with fail
      refine (HB.out).mono ?_
      rintro r w3 ⟨⟨x, rfl⟩, ht⟩
      have HT := Lib.hid (TP.then (fun _ h => .inl h) HKV.out ht)
      clear ht
      go_wp2
      go_end0
      exact ⟨⟨_, rfl⟩, HT.out⟩
end Go.Proofs.Ytnaoobgghgnflaa
