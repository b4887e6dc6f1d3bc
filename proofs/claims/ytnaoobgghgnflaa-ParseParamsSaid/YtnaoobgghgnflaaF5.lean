/- The parser: behind an escape. -/
import Derived.Test.YtnaoobgghgnflaaF4
namespace Go.Proofs.Ytnaoobgghgnflaa
open Go.RowKit Pl
set_option linter.unusedVariables false
set_option linter.unusedSimpArgs false
set_option maxRecDepth 100000 in
set_option maxHeartbeats 8000000 in
theorem opens_any (G : Nat → Prop) (W : World) (p q : Nat) (s : PS) (L : List Ev) (c : Int) (hR : RR G W p q s L) (hn : L.length ≤ 800000) :
    Calls Try.prog 44 #[.pointer (some ⟨p, 0, none⟩), .int .u8 c] W fun r w' => r = .returned (.bool (openS s c).isSome) ∧ TP G W p q ((openS s c).getD (s, [])).1 (L ++ ((openS s c).getD (s, [])).2) w' := by
  have HR := Lib.hid hR
  by_cases h91 : c = 91
  · have e : openS s c = some (s.beg 2, []) := by unfold openS; rw [if_pos h91]
    have g91 : (c == 91) = true := by simp [h91]
    rw [e]
    clear e hR h91
    show Calls Try.prog 44 _ W fun r w' => r = .returned (.bool true) ∧ TP G W p q (s.beg 2) (L ++ []) w'
    go_enter Try.func44, Try.ntmps44
    go_wp2_with fail
    refine (begin_any' G W p q s L 2 (by omega) HR.out).mono ?_
    rintro r w2 ⟨⟨x, rfl⟩, ht⟩
    have HT := Lib.hid ht
    clear ht
    go_wp2
    go_ret
    exact ⟨rfl, by rw [List.append_nil]; exact HT.out⟩
  · skip
    by_cases h80 : c = 80
    · have e : openS s c = some (s.beg 3, []) := by unfold openS; rw [if_neg h91, if_pos h80]
      have g91 : (c == 91) = false := by simp [h91]
      have g80 : (c == 80) = true := by simp [h80]
      rw [e]
      clear e hR h91 h80
      show Calls Try.prog 44 _ W fun r w' => r = .returned (.bool true) ∧ TP G W p q (s.beg 3) (L ++ []) w'
      go_enter Try.func44, Try.ntmps44
      go_wp2_with fail
      refine (begin_any' G W p q s L 3 (by omega) HR.out).mono ?_
      rintro r w2 ⟨⟨x, rfl⟩, ht⟩
      have HT := Lib.hid ht
      clear ht
      go_wp2
      go_ret
      exact ⟨rfl, by rw [List.append_nil]; exact HT.out⟩
    · skip
      by_cases h93 : c = 93
      · have e : openS s c = some ({ s with st := 4, ds := [] }, []) := by unfold openS; rw [if_neg h91, if_neg h80, if_pos h93]
        have g91 : (c == 91) = false := by simp [h91]
        have g80 : (c == 80) = false := by simp [h80]
        have g93 : (c == 93) = true := by simp [h93]
        rw [e]
        clear e h91 h80 h93
        show Calls Try.prog 44 _ W fun r w' => r = .returned (.bool true) ∧ TP G W p q { s with st := 4, ds := [] } (L ++ []) w'
        obtain ⟨d, vi, vp, vd, vo, Vs, hc, hg⟩ := hR
        have hD := hc.hd
        have hD0 := hD
        obtain ⟨-, hD2⟩ := hD0
        rcases hD2 with ⟨rfl, -⟩ | ⟨ig, ic, icur, hie, -, hig, -, icm, ics, -⟩
        · skip
          obtain ⟨⟨x0, x0f⟩, -, -, -, -, -, -, -, -, -, ⟨x10, x10f⟩, -⟩ := pcells hc.pb
          obtain ⟨E, hE⟩ : ∃ E, W.drew = E := ⟨_, rfl⟩
          have hbE : E.heap[p]? = some (.cells (PC s d vi vp (.slice none 0 0) (sayV q)) 43 (0, 0)) := by rw [← hE]; exact ((Kept.refl (fun _ => False) W).drew).blk hc.pb id
          obtain ⟨⟨y0, y0f⟩, -, -, -, -, -, -, -, -, -, ⟨y10, y10f⟩, -⟩ := pcells hbE
          obtain ⟨V1, hV1⟩ : ∃ V, E.setCell ⟨p, 0, none⟩ (.int .i64 4) = V := ⟨_, rfl⟩
          have hb1 : V1.heap[p]? = some (.cells (PC { s with st := 4 } d vi vp (.slice none 0 0) (sayV q)) 43 (0, 0)) := by rw [← hV1]; exact blk_set hbE 0 _
          obtain ⟨⟨z0, z0f⟩, -, -, -, -, -, -, -, -, -, ⟨z10, z10f⟩, -⟩ := pcells hb1
          obtain ⟨V2, hV2⟩ : ∃ V, V1.setCell ⟨p, 10, none⟩ (.slice none 0 0) = V := ⟨_, rfl⟩
          have hb2 : V2.heap[p]? = some (.cells (PC { s with st := 4 } d vi vp (.slice none 0 0) (sayV q)) 43 (0, 0)) := by rw [← hV2]; exact blk_set hb1 10 _
          have hk2 : Kept (fun i => i = p) W V2 := by rw [← hV2, ← hV1, ← hE]; exact (((Kept.refl (fun i => i = p) W).drew).setCell (p := ⟨p, 0, none⟩) (.inl rfl) _).setCell (p := ⟨p, 10, none⟩) (.inl rfl) _
          have HT := Lib.hid (show TP G W p q { s with st := 4, ds := [] } L V2 from tp_of hg (hc.updS (s' := { s with st := 4, ds := [] }) (v' := .slice none 0 0) (hk2.mono fun i _ h => .inl h) hb2 (by show Own .u8 5 V2 (.slice none 0 0) []; exact Own.nil _ _ _) (.inl rfl) rfl rfl rfl ⟨by simp, hc.ok.it, hc.ok.ps, hc.ok.la, by simp⟩) (fun i hi => .inl hi) (hk2.mono fun i _ h => .inl h))
          clear hbE hb1 hb2 hk2 hc hg hD
          go_enter Try.func44, Try.ntmps44
          go_wp2
          go_region
          all_goals go_wp2
          all_goals go_ret
          all_goals exact ⟨rfl, by rw [List.append_nil]; exact HT.out⟩
        · obtain ⟨iN, hin⟩ : ∃ n, s.ds.length = n := ⟨_, rfl⟩
          rw [hin] at hie
          subst hie
          clear hin
          obtain ⟨⟨x0, x0f⟩, -, -, -, -, -, -, -, -, -, ⟨x10, x10f⟩, -⟩ := pcells hc.pb
          obtain ⟨E, hE⟩ : ∃ E, W.drew = E := ⟨_, rfl⟩
          have hbE : E.heap[p]? = some (.cells (PC s d vi vp (.slice (some ⟨ig, 0, none⟩) iN ic) (sayV q)) 43 (0, 0)) := by rw [← hE]; exact ((Kept.refl (fun _ => False) W).drew).blk hc.pb id
          obtain ⟨⟨y0, y0f⟩, -, -, -, -, -, -, -, -, -, ⟨y10, y10f⟩, -⟩ := pcells hbE
          obtain ⟨V1, hV1⟩ : ∃ V, E.setCell ⟨p, 0, none⟩ (.int .i64 4) = V := ⟨_, rfl⟩
          have hb1 : V1.heap[p]? = some (.cells (PC { s with st := 4 } d vi vp (.slice (some ⟨ig, 0, none⟩) iN ic) (sayV q)) 43 (0, 0)) := by rw [← hV1]; exact blk_set hbE 0 _
          obtain ⟨⟨z0, z0f⟩, -, -, -, -, -, -, -, -, -, ⟨z10, z10f⟩, -⟩ := pcells hb1
          obtain ⟨V2, hV2⟩ : ∃ V, V1.setCell ⟨p, 10, none⟩ (.slice (some ⟨ig, 0, none⟩) 0 ic) = V := ⟨_, rfl⟩
          have hb2 : V2.heap[p]? = some (.cells (PC { s with st := 4 } d vi vp (.slice (some ⟨ig, 0, none⟩) 0 ic) (sayV q)) 43 (0, 0)) := by rw [← hV2]; exact blk_set hb1 10 _
          have hk2 : Kept (fun i => i = p) W V2 := by rw [← hV2, ← hV1, ← hE]; exact (((Kept.refl (fun i => i = p) W).drew).setCell (p := ⟨p, 0, none⟩) (.inl rfl) _).setCell (p := ⟨p, 10, none⟩) (.inl rfl) _
          have HT := Lib.hid (show TP G W p q { s with st := 4, ds := [] } L V2 from tp_of hg (hc.updS (s' := { s with st := 4, ds := [] }) (v' := .slice (some ⟨ig, 0, none⟩) 0 ic) (hk2.mono fun i _ h => .inl h) hb2 (by show Own .u8 5 V2 (.slice (some ⟨ig, 0, none⟩) 0 ic) []; exact ⟨rfl, .inr ⟨_, _, icur, rfl, Nat.zero_le _, hk2.blk hig (fun hh => blk_ne hig hc.pb (by decide) hh), Nat.zero_le _, icm, ics, by simp⟩⟩) (.inl rfl) rfl rfl rfl ⟨by simp, hc.ok.it, hc.ok.ps, hc.ok.la, by simp⟩) (fun i hi => .inl hi) (hk2.mono fun i _ h => .inl h))
          clear hbE hb1 hb2 hk2 hc hg hD hig icm ics
          go_enter Try.func44, Try.ntmps44
          go_wp2
          go_region
          all_goals go_wp2
          all_goals go_ret
          all_goals exact ⟨rfl, by rw [List.append_nil]; exact HT.out⟩
      · skip
        by_cases h95 : c = 95
        · have e : openS s c = some ({ s with st := 6 }, [evX 9 0 0]) := by unfold openS; rw [if_neg h91, if_neg h80, if_neg h93, if_pos h95]
          have g91 : (c == 91) = false := by simp [h91]
          have g80 : (c == 80) = false := by simp [h80]
          have g93 : (c == 93) = false := by simp [h93]
          have g95 : (c == 95) = true := by simp [h95]
          rw [e]
          clear e h91 h80 h93 h95
          show Calls Try.prog 44 _ W fun r w' => r = .returned (.bool true) ∧ TP G W p q { s with st := 6 } (L ++ [evX 9 0 0]) w'
          obtain ⟨⟨c0, f0⟩, hR1, hk1⟩ := rr_st hR 6 (by omega)
          obtain ⟨V, hV⟩ : ∃ V, W.setCell ⟨p, 0, none⟩ (.int .i64 6) = V := ⟨_, rfl⟩
          rw [hV] at hR1 hk1
          obtain ⟨-, c11⟩ := rr_cells hR1
          unfold sayV at c11
          have H1 := Lib.hid (And.intro hR1 (And.intro hk1 hn))
          clear hR1 hk1 hR
          go_enter Try.func44, Try.ntmps44
          go_wp2_with fail
          refine (sayX G V p q _ L H1.out.1 (by have := H1.out.2.2; omega) 9 0 0).mono ?_
          rintro r w2 ⟨⟨x, rfl⟩, ht⟩
          have HT := Lib.hid (TP.then (fun _ h => .inl h) H1.out.2.1 ht)
          clear ht
          go_wp2
          go_ret
          exact ⟨rfl, HT.out⟩
        · skip
          by_cases h88 : c = 88
          · have e : openS s c = some ({ s with st := 7 }, []) := by unfold openS; rw [if_neg h91, if_neg h80, if_neg h93, if_neg h95, if_pos (.inl h88)]
            have g91 : (c == 91) = false := by simp [h91]
            have g80 : (c == 80) = false := by simp [h80]
            have g93 : (c == 93) = false := by simp [h93]
            have g95 : (c == 95) = false := by simp [h95]
            have g88 : (c == 88) = true := by simp [h88]
            rw [e]
            clear e h91 h80 h93 h95 h88
            show Calls Try.prog 44 _ W fun r w' => r = .returned (.bool true) ∧ TP G W p q { s with st := 7 } (L ++ []) w'
            obtain ⟨⟨c0, f0⟩, hR1, hk1⟩ := rr_st hR 7 (by omega)
            have HT := Lib.hid (tp_rr hR1 (fun _ h => .inl h) hk1)
            clear hR1 hk1 hR
            go_enter Try.func44, Try.ntmps44
            go_wp2
            go_ret
            exact ⟨rfl, by rw [List.append_nil]; exact HT.out⟩
          · skip
            by_cases h94 : c = 94
            · have e : openS s c = some ({ s with st := 7 }, []) := by unfold openS; rw [if_neg h91, if_neg h80, if_neg h93, if_neg h95, if_pos (.inr h94)]
              have g91 : (c == 91) = false := by simp [h91]
              have g80 : (c == 80) = false := by simp [h80]
              have g93 : (c == 93) = false := by simp [h93]
              have g95 : (c == 95) = false := by simp [h95]
              have g88 : (c == 88) = false := by simp [h88]
              have g94 : (c == 94) = true := by simp [h94]
              rw [e]
              clear e h91 h80 h93 h95 h88 h94
              show Calls Try.prog 44 _ W fun r w' => r = .returned (.bool true) ∧ TP G W p q { s with st := 7 } (L ++ []) w'
              obtain ⟨⟨c0, f0⟩, hR1, hk1⟩ := rr_st hR 7 (by omega)
              have HT := Lib.hid (tp_rr hR1 (fun _ h => .inl h) hk1)
              clear hR1 hk1 hR
              go_enter Try.func44, Try.ntmps44
              go_wp2
              go_ret
              exact ⟨rfl, by rw [List.append_nil]; exact HT.out⟩
            · skip
              have e : openS s c = none := by unfold openS; rw [if_neg h91, if_neg h80, if_neg h93, if_neg h95, if_neg (fun h => by rcases h with h | h; exact h88 h; exact h94 h)]
              have g91 : (c == 91) = false := by simp [h91]
              have g80 : (c == 80) = false := by simp [h80]
              have g93 : (c == 93) = false := by simp [h93]
              have g95 : (c == 95) = false := by simp [h95]
              have g88 : (c == 88) = false := by simp [h88]
              have g94 : (c == 94) = false := by simp [h94]
              rw [e]
              clear e hR h91 h80 h93 h95 h88 h94
              show Calls Try.prog 44 _ W fun r w' => r = .returned (.bool false) ∧ TP G W p q s (L ++ []) w'
              go_enter Try.func44, Try.ntmps44
              go_wp2
              go_ret
              exact ⟨rfl, by rw [List.append_nil]; exact TP.refl HR.out⟩
end Go.Proofs.Ytnaoobgghgnflaa
