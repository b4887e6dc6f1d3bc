/- The parser: a byte behind an escape. -/
import Derived.Test.YtnaoobgghgnflaaF5
namespace Go.Proofs.Ytnaoobgghgnflaa
open Go.RowKit Pl
set_option linter.unusedVariables false
set_option linter.unusedSimpArgs false
/-- An event with a string told. -/
theorem sayS (G : Nat → Prop) (W : World) (p q : Nat) (s : PS) (L : List Ev) (hR : RR G W p q s L) (hn : L.length ≤ 1000000) (k b pv : Int) (S : ByteArray) :
    Calls Try.prog 18 #[.agg #[.int .i64 k, .int .i32 0, .int .u8 b, .int .u8 pv, .string S, .slice none 0 0, .slice none 0 0], .pointer (some ⟨q, 0, none⟩)] W fun x w' => (∃ y, x = .returned y) ∧ TP G W p q s (L ++ [⟨k, 0, b, pv, S, [], []⟩]) w' :=
  sayR G W p q s L hR hn ⟨k, 0, b, pv, S, none, 0, 0, none, 0, 0⟩ ⟨k, 0, b, pv, S, [], []⟩ ⟨rfl, rfl, rfl, rfl, rfl, ⟨rfl, .inl rfl⟩, ⟨rfl, .inl rfl⟩, (fun _ => ⟨rfl, rfl⟩), (fun _ => ⟨rfl, rfl⟩), (fun _ _ h => by cases h), (fun _ _ h => by cases h)⟩
set_option maxRecDepth 100000 in
set_option maxHeartbeats 8000000 in
theorem esc_any (G : Nat → Prop) (W : World) (p q : Nat) (s : PS) (L : List Ev) (c : Int) (hc0 : 0 ≤ c) (hc1 : c < 256) (hR : RR G W p q s L) (hn : L.length ≤ 700000) :
    Calls Try.prog 37 #[.pointer (some ⟨p, 0, none⟩), .int .u8 c] W fun r w' => (∃ x, r = .returned x) ∧ TP G W p q (escS s c).1 (L ++ (escS s c).2) w' := by
  have HR := Lib.hid hR
  obtain ⟨-, c11⟩ := rr_cells hR
  unfold sayV at c11
  clear hR
  cases hct : ctlB c with
  | true =>
    have e : escS s c = (s, [evX 2 0 c]) := by unfold escS; rw [if_pos hct]
    rw [e]
    clear e
    show Calls Try.prog 37 _ W fun r w' => (∃ x, r = .returned x) ∧ TP G W p q s (L ++ [evX 2 0 c]) w'
    go_enter Try.func37, Try.ntmps37
    go_wp2_with fail
    refine (ctl_any c W).mono ?_
    rintro r w1 ⟨rfl, rfl⟩
    rw [hct]
    go_wp2_with fail
    refine (sayX G w1 p q s L HR.out (by omega) 2 0 c).mono ?_
    rintro r w2 ⟨⟨x, rfl⟩, ht⟩
    have HT := Lib.hid ht
    clear ht
    go_wp2
    go_end0
    exact ⟨⟨_, rfl⟩, HT.out⟩
  | false =>
    have hcf : ¬ ctlB c = true := by rw [hct]; simp
    by_cases h80 : 128 ≤ c
    · have g80 : decide (128 ≤ c) = true := decide_eq_true h80
      have e : escS s c = backS s c := by unfold escS; rw [if_neg hcf, if_pos h80]
      rw [e]
      clear e h80 hcf
      go_enter Try.func37, Try.ntmps37
      go_wp2_with fail
      refine (ctl_any c W).mono ?_
      rintro r w1 ⟨rfl, rfl⟩
      rw [hct]
      go_wp2_with fail
      refine (back_any G w1 p q s L c hc0 hc1 HR.out (by omega)).mono ?_
      rintro r w2 ⟨⟨x, rfl⟩, ht⟩
      have HT := Lib.hid ht
      clear ht
      go_wp2
      go_end0
      exact ⟨⟨_, rfl⟩, HT.out⟩
    · have g80 : decide (128 ≤ c) = false := decide_eq_false h80
      by_cases h2f : c ≤ 47
      · have g2f : decide (c ≤ 47) = true := decide_eq_true h2f
        have e : escS s c = (keepS s c, []) := by unfold escS; rw [if_neg hcf, if_neg h80, if_pos h2f]
        rw [e]
        clear e h80 h2f hcf
        show Calls Try.prog 37 _ W fun r w' => (∃ x, r = .returned x) ∧ TP G W p q (keepS s c) (L ++ []) w'
        go_enter Try.func37, Try.ntmps37
        go_wp2_with fail
        refine (ctl_any c W).mono ?_
        rintro r w1 ⟨rfl, rfl⟩
        rw [hct]
        go_wp2_with fail
        refine (keep_any G w1 p q s L c HR.out).mono ?_
        rintro r w2 ⟨⟨x, rfl⟩, ht⟩
        have HT := Lib.hid ht
        clear ht
        go_wp2
        go_end0
        exact ⟨⟨_, rfl⟩, by rw [List.append_nil]; exact HT.out⟩
      · have g2f : decide (c ≤ 47) = false := decide_eq_false h2f
        by_cases h7f : c = 127
        · have g7f : (c == 127) = true := by simp [h7f]
          have e : escS s c = (s, []) := by unfold escS; rw [if_neg hcf, if_neg h80, if_neg h2f, if_pos h7f]
          rw [e]
          clear e h80 h2f h7f hcf
          show Calls Try.prog 37 _ W fun r w' => (∃ x, r = .returned x) ∧ TP G W p q s (L ++ []) w'
          go_enter Try.func37, Try.ntmps37
          go_wp2_with fail
          refine (ctl_any c W).mono ?_
          rintro r w1 ⟨rfl, rfl⟩
          rw [hct]
          go_wp2
          go_end0
          exact ⟨⟨_, rfl⟩, by rw [List.append_nil]; exact TP.refl HR.out⟩
        · have g7f : (c == 127) = false := by simp [h7f]
          have hRa := HR.out
          obtain ⟨d0, vi0, vp0, vd0, vo0, Vs0, hca, hga⟩ := hRa
          obtain ⟨ja, jc, hje, -, -⟩ := hca.hi.shape
          obtain ⟨jN, hjn⟩ : ∃ n, s.it.length = n := ⟨_, rfl⟩
          rw [hjn] at hje
          subst hje
          obtain ⟨-, -, -, -, ⟨a4, a4f⟩, -, -, -, -, -, -, -⟩ := pcells hca.pb
          clear hca hga
          by_cases hj : 0 < jN
          · have gj : decide (0 < jN) = true := decide_eq_true hj
            have gj' : decide ((0 : Int) < (jN : Int)) = true := decide_eq_true (by omega)
            have e0 : escS s c = doneS s c := by unfold escS; rw [if_neg hcf, if_neg h80, if_neg h2f, if_neg h7f, if_pos (by omega)]
            rw [e0]
            clear e0 h80 h2f h7f hcf hjn hj
            obtain ⟨⟨c0, f0⟩, hR1, hk1⟩ := rr_st HR.out 0 (by omega)
            obtain ⟨V, hV⟩ : ∃ V, W.setCell ⟨p, 0, none⟩ (.int .i64 0) = V := ⟨_, rfl⟩
            rw [hV] at hR1 hk1
            have H1 := Lib.hid (And.intro hR1 hk1)
            obtain ⟨d, vi, vp, vd, vo, Vs, hc, hg⟩ := hR1
            obtain ⟨ia, ic, hie, hsi, -⟩ := hc.hi.shape
            obtain ⟨iN, hin⟩ : ∃ n, s.it.length = n := ⟨_, rfl⟩
            have hin2 : ({ s with st := 0 } : PS).it.length = iN := hin
            rw [hin2] at hie
            rw [hin2] at hsi
            subst hie
            obtain ⟨-, -, -, -, ⟨x4, x4f⟩, ⟨x5, x5f⟩, -, -, -, -, -, ⟨x11, x11f⟩⟩ := pcells hc.pb
            obtain ⟨E, hE⟩ : ∃ E, V.drew = E := ⟨_, rfl⟩
            have hkE : Kept (fun _ => False) V E := by rw [← hE]; exact (Kept.refl _ _).drew
            obtain ⟨-, -, -, -, ⟨y4, y4f⟩, ⟨y5, y5f⟩, -, -, -, -, -, ⟨y11, y11f⟩⟩ := pcells (hkE.blk hc.pb id)
            obtain ⟨SX, hSX⟩ : ∃ S, strOfNums s.it = S := ⟨_, rfl⟩
            have cv := run_str (P := Try.prog) Try.underlying22 Try.underlying5 Try.underlying9 (hsi.kept hkE (fun _ _ _ _ => id)) (len := iN) (cap := ic)
            have cv0 : (convert 22 9 (.slice ia iN ic)).run Try.prog E = .ok (.string SX) E := by rw [← hSX]; exact cv
            have HS := Lib.hid (sayS G E p q { s with st := 0 } L (H1.out.1.up hkE) (by omega) 3 c 0 SX)
            have HKE := Lib.hid hkE
            unfold sayV at x11 y11
            clear hc hg hsi hin hin2 hkE cv hk1
            simp only at x5 y5
            cases hwr : s.wr with
            | true =>
              rw [hwr] at x5 y5
              have e : doneS s c = ({ s with st := 0 }, []) := by unfold doneS; rw [if_pos hwr]
              rw [e]
              clear e hwr hSX cv0
              show Calls Try.prog 37 _ W fun r w' => (∃ x, r = .returned x) ∧ TP G W p q { s with st := 0 } (L ++ []) w'
              go_enter Try.func37, Try.ntmps37
              go_wp2_with fail
              refine (ctl_any c W).mono ?_
              rintro r w1 ⟨rfl, rfl⟩
              rw [hct]
              go_wp2
              go_end0
              exact ⟨⟨_, rfl⟩, by rw [List.append_nil]; exact (tp_rr H1.out.1 (fun _ h => .inl h) H1.out.2)⟩
            | false =>
              rw [hwr] at x5 y5
              have e : doneS s c = ({ s with st := 0 }, [⟨3, 0, c, 0, SX, [], []⟩]) := by unfold doneS; rw [if_neg (by rw [hwr]; simp), hSX]
              rw [e]
              clear e hwr hSX
              show Calls Try.prog 37 _ W fun r w' => (∃ x, r = .returned x) ∧ TP G W p q { s with st := 0 } (L ++ [⟨3, 0, c, 0, SX, [], []⟩]) w'
              go_enter Try.func37, Try.ntmps37
              go_wp2_with fail
              refine (ctl_any c W).mono ?_
              rintro r w1 ⟨rfl, rfl⟩
              rw [hct]
              go_wp2
              go_region_with (first
                | (go_at_call 18; refine HS.out.mono ?_; rintro r w6 ⟨⟨y, rfl⟩, ht⟩; have H6 := Lib.hid (TP.then (fun _ h => .inl h) H1.out.2 (TP.then (fun _ h => .inl h) (HKE.out.mono fun _ _ h => h.elim) ht)); clear ht))
              all_goals go_wp2
              all_goals go_end0
              all_goals exact ⟨⟨_, rfl⟩, H6.out⟩
          · have gj : decide (0 < jN) = false := decide_eq_false hj
            have gj' : decide ((0 : Int) < (jN : Int)) = false := decide_eq_false (by omega)
            have e0 : escS s c = (match openS s c with | some r => r | none => doneS s c) := by unfold escS; rw [if_neg hcf, if_neg h80, if_neg h2f, if_neg h7f, if_neg (by omega)]; cases openS s c <;> rfl
            rw [e0]
            clear e0 h80 h2f h7f hcf hjn hj
            have HO := opens_any G W p q s L c HR.out (by omega)
            cases ho : openS s c with
            | some r0 =>
              rw [ho] at HO
              have HOx := Lib.hid (show Calls Try.prog 44 #[.pointer (some ⟨p, 0, none⟩), .int .u8 c] W fun r w' => r = .returned (.bool true) ∧ TP G W p q r0.1 (L ++ r0.2) w' from HO)
              clear HO ho
              show Calls Try.prog 37 _ W fun r w' => (∃ x, r = .returned x) ∧ TP G W p q r0.1 (L ++ r0.2) w'
              go_enter Try.func37, Try.ntmps37
              go_wp2_with fail
              refine (ctl_any c W).mono ?_
              rintro r w1 ⟨rfl, rfl⟩
              rw [hct]
              go_wp2_with fail
              refine HOx.out.mono ?_
              rintro r w2 ⟨rfl, ht⟩
              have HT := Lib.hid ht
              clear ht
              go_wp2
              go_end0
              exact ⟨⟨_, rfl⟩, HT.out⟩
            | none =>
              rw [ho] at HO
              have HOx := Lib.hid (show Calls Try.prog 44 #[.pointer (some ⟨p, 0, none⟩), .int .u8 c] W fun r w' => r = .returned (.bool false) ∧ TP G W p q s (L ++ []) w' from HO)
              clear HO ho
              show Calls Try.prog 37 _ W fun r w' => (∃ x, r = .returned x) ∧ TP G W p q (doneS s c).1 (L ++ (doneS s c).2) w'
              have hwd : doneS s c = doneS s c := rfl
              clear hwd
              cases hwr : s.wr with
              | true =>
                have e : doneS s c = ({ s with st := 0 }, []) := by unfold doneS; rw [if_pos hwr]
                rw [e]
                clear e
                show Calls Try.prog 37 _ W fun r w' => (∃ x, r = .returned x) ∧ TP G W p q { s with st := 0 } (L ++ []) w'
                go_enter Try.func37, Try.ntmps37
                go_wp2_with fail
                refine (ctl_any c W).mono ?_
                rintro r w1 ⟨rfl, rfl⟩
                rw [hct]
                go_wp2_with fail
                refine HOx.out.mono ?_
                rintro r w2 ⟨rfl, ht⟩
                rw [List.append_nil] at ht
                obtain ⟨G1, hR2, hs2, hk2⟩ := ht
                have H2 := Lib.hid (And.intro hR2 (And.intro hs2 hk2))
                obtain ⟨⟨c0, f0⟩, hR1, hk1⟩ := rr_st hR2 0 (by omega)
                obtain ⟨V, hV⟩ : ∃ V, w2.setCell ⟨p, 0, none⟩ (.int .i64 0) = V := ⟨_, rfl⟩
                rw [hV] at hR1 hk1
                have H1 := Lib.hid (TP.then H2.out.2.1 H2.out.2.2 (tp_rr hR1 (fun _ h => .inl h) hk1))
                obtain ⟨d, vi, vp, vd, vo, Vs, hc, hg⟩ := hR1
                obtain ⟨-, -, -, -, -, ⟨x5, x5f⟩, -, -, -, -, -, -⟩ := pcells hc.pb
                simp only at x5
                rw [hwr] at x5
                clear hc hg hk1 hR2 hs2 hk2 hwr
                go_wp2
                go_end0
                exact ⟨⟨_, rfl⟩, by rw [List.append_nil]; exact H1.out⟩
              | false =>
                obtain ⟨SX, hSX⟩ : ∃ S, strOfNums s.it = S := ⟨_, rfl⟩
                have e : doneS s c = ({ s with st := 0 }, [⟨3, 0, c, 0, SX, [], []⟩]) := by unfold doneS; rw [if_neg (by rw [hwr]; simp), hSX]
                rw [e]
                clear e
                show Calls Try.prog 37 _ W fun r w' => (∃ x, r = .returned x) ∧ TP G W p q { s with st := 0 } (L ++ [⟨3, 0, c, 0, SX, [], []⟩]) w'
                go_enter Try.func37, Try.ntmps37
                go_wp2_with fail
                refine (ctl_any c W).mono ?_
                rintro r w1 ⟨rfl, rfl⟩
                rw [hct]
                go_wp2_with fail
                refine HOx.out.mono ?_
                rintro r w2 ⟨rfl, ht⟩
                rw [List.append_nil] at ht
                obtain ⟨G1, hR2, hs2, hk2⟩ := ht
                have H2 := Lib.hid (And.intro hR2 (And.intro hs2 hk2))
                obtain ⟨⟨c0, f0⟩, hR1, hk1⟩ := rr_st hR2 0 (by omega)
                obtain ⟨V, hV⟩ : ∃ V, w2.setCell ⟨p, 0, none⟩ (.int .i64 0) = V := ⟨_, rfl⟩
                rw [hV] at hR1 hk1
                have H1 := Lib.hid (And.intro hR1 hk1)
                obtain ⟨d, vi, vp, vd, vo, Vs, hc, hg⟩ := hR1
                obtain ⟨ia, ic, hie, hsi, -⟩ := hc.hi.shape
                obtain ⟨iN, hin⟩ : ∃ n, ({ s with st := 0 } : PS).it.length = n := ⟨_, rfl⟩
                rw [hin] at hie hsi
                subst hie
                obtain ⟨-, -, -, -, ⟨x4, x4f⟩, ⟨x5, x5f⟩, -, -, -, -, -, ⟨x11, x11f⟩⟩ := pcells hc.pb
                obtain ⟨E, hE⟩ : ∃ E, V.drew = E := ⟨_, rfl⟩
                have hkE : Kept (fun _ => False) V E := by rw [← hE]; exact (Kept.refl _ _).drew
                obtain ⟨-, -, -, -, ⟨y4, y4f⟩, ⟨y5, y5f⟩, -, -, -, -, -, ⟨y11, y11f⟩⟩ := pcells (hkE.blk hc.pb id)
                have cv := run_str (P := Try.prog) Try.underlying22 Try.underlying5 Try.underlying9 (hsi.kept hkE (fun _ _ _ _ => id)) (len := iN) (cap := ic)
                have cv0 : (convert 22 9 (.slice ia iN ic)).run Try.prog E = .ok (.string SX) E := by rw [← hSX]; exact cv
                have HS := Lib.hid (sayS G1 E p q { s with st := 0 } L (H1.out.1.up hkE) (by omega) 3 c 0 SX)
                have HKE := Lib.hid hkE
                unfold sayV at x11 y11
                simp only at x5 y5
                rw [hwr] at x5 y5
                clear hc hg hsi hin hkE cv hk1 hR2 hs2 hk2 hwr hSX
                go_wp2
                go_region_with (first
                  | (go_at_call 18; refine HS.out.mono ?_; rintro r w6 ⟨⟨y, rfl⟩, ht⟩; have H6 := Lib.hid (TP.then H2.out.2.1 H2.out.2.2 (TP.then (fun _ h => .inl h) H1.out.2 (TP.then (fun _ h => .inl h) (HKE.out.mono fun _ _ h => h.elim) ht))); clear ht))
                all_goals go_wp2
                all_goals go_end0
                all_goals exact ⟨⟨_, rfl⟩, H6.out⟩
end Go.Proofs.Ytnaoobgghgnflaa
