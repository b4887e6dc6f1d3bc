/- The parser: a byte. -/
import Derived.Test.YtnaoobgghgnflaaF8
namespace Go.Proofs.Ytnaoobgghgnflaa
open Go.RowKit Pl
set_option linter.unusedVariables false
set_option linter.unusedSimpArgs false
theorem rr_ends {G : Nat → Prop} {W : World} {p q : Nat} {s : PS} {L : List Ev} (hR : RR G W p q s L) (k : Bool) : (W.cell? ⟨p, 1, none⟩ = some (.bool s.ends) ∧ W.frozen? ⟨p, 1, none⟩ = false) ∧ RR G (W.setCell ⟨p, 1, none⟩ (.bool k)) p q { s with ends := k } L ∧ Kept G W (W.setCell ⟨p, 1, none⟩ (.bool k)) := by
  obtain ⟨d, vi, vp, vd, vo, Vs, hc, hg⟩ := hR
  have hkV : Kept (fun i => i = p) W (W.setCell ⟨p, 1, none⟩ (.bool k)) := (Kept.refl (fun i => i = p) W).setCell (p := ⟨p, 1, none⟩) (.inl rfl) _
  exact ⟨⟨blk_cell hc.pb 1, blk_free hc.pb 1⟩, ⟨d, vi, vp, vd, vo, Vs, hc.upd (s' := { s with ends := k }) hkV (blk_set hc.pb 1 _) rfl rfl rfl rfl ⟨hc.ok.st, hc.ok.it, hc.ok.ps, hc.ok.la, hc.ok.ds⟩, hg⟩, hkV.mono fun i _ h => (hg i).2 (.inl h)⟩
theorem rr_ok {G : Nat → Prop} {W : World} {p q : Nat} {s : PS} {L : List Ev} (hR : RR G W p q s L) : SOk s := by
  obtain ⟨d, vi, vp, vd, vo, Vs, hc, hg⟩ := hR
  exact hc.ok
theorem closeE_len (k b : Int) : (closeE k b).length ≤ 1 := by unfold closeE; split <;> (try split) <;> simp
set_option maxRecDepth 100000 in
set_option maxHeartbeats 8000000 in
theorem ended_any (G : Nat → Prop) (W : World) (p q : Nat) (s : PS) (L : List Ev) (c : Int) (hc0 : 0 ≤ c) (hc1 : c < 256) (hR : RR G W p q s L) (hn : L.length ≤ 500000) :
    Calls Try.prog 30 #[.pointer (some ⟨p, 0, none⟩), .int .u8 c] W fun r w' => (∃ x, r = .returned x) ∧ TP G W p q (endedS s c).1 (L ++ (endedS s c).2) w' := by
  obtain ⟨⟨c1, f1⟩, hR1, hk1⟩ := rr_ends hR false
  obtain ⟨V, hV⟩ : ∃ V, W.setCell ⟨p, 1, none⟩ (.bool false) = V := ⟨_, rfl⟩
  rw [hV] at hR1 hk1
  obtain ⟨v0, -⟩ := rr_cells hR1
  simp only at v0
  have HR1 := Lib.hid hR1
  have HK1 := Lib.hid hk1
  clear hR hR1 hk1
  by_cases h92 : c = 92
  · have e : endedS s c = ({ s with ends := false, st := 0 }, (if s.st = 4 then [toldE s] else []) ++ closeE s.st 1) := by unfold endedS; rw [if_pos h92]
    have g92 : (c == 92) = true := by simp [h92]
    rw [e]
    clear e h92
    show Calls Try.prog 30 _ W fun r w' => (∃ x, r = .returned x) ∧ TP G W p q { s with ends := false, st := 0 } (L ++ ((if s.st = 4 then [toldE s] else []) ++ closeE s.st 1)) w'
    by_cases h4 : s.st = 4
    · have g4 : (s.st == 4) = true := by simp [h4]
      rw [if_pos h4, ← List.append_assoc]
      have HL := Lib.hid (show (L ++ [toldE s]).length ≤ 1000000 by simp; omega)
      clear h4
      go_enter Try.func30, Try.ntmps30
      go_wp2_with fail
      refine (told_any G V p q _ L HR1.out (by omega)).mono ?_
      rintro r w2 ⟨⟨x, rfl⟩, ht⟩
      obtain ⟨G2, hR2, hs2, hk2⟩ := ht
      have H2 := Lib.hid (And.intro hR2 (And.intro hs2 hk2))
      clear hR2 hs2 hk2
      go_wp2_with fail
      refine (close_any G2 w2 p q _ _ 1 H2.out.1 HL.out).mono ?_
      rintro r w3 ⟨⟨x, rfl⟩, ht⟩
      obtain ⟨G3, hR3, hs3, hk3⟩ := ht
      obtain ⟨⟨c0, f0⟩, hR4, hk4⟩ := rr_st hR3 0 (by omega)
      have HT := Lib.hid (TP.then (fun _ h => .inl h) HK1.out (TP.then H2.out.2.1 H2.out.2.2 (TP.then hs3 hk3 (tp_rr hR4 (fun _ h => .inl h) hk4))))
      clear hR3 hs3 hk3 hR4 hk4
      go_wp2
      exact bodyPost_ret (results_none rfl _ _ _) rfl ⟨⟨_, rfl⟩, HT.out⟩
    · have g4 : (s.st == 4) = false := by simp [h4]
      rw [if_neg h4, List.nil_append]
      clear h4
      go_enter Try.func30, Try.ntmps30
      go_wp2_with fail
      refine (close_any G V p q _ L 1 HR1.out (by omega)).mono ?_
      rintro r w3 ⟨⟨x, rfl⟩, ht⟩
      obtain ⟨G3, hR3, hs3, hk3⟩ := ht
      obtain ⟨⟨c0, f0⟩, hR4, hk4⟩ := rr_st hR3 0 (by omega)
      have HT := Lib.hid (TP.then (fun _ h => .inl h) HK1.out (TP.then hs3 hk3 (tp_rr hR4 (fun _ h => .inl h) hk4)))
      clear hR3 hs3 hk3 hR4 hk4
      go_wp2
      exact bodyPost_ret (results_none rfl _ _ _) rfl ⟨⟨_, rfl⟩, HT.out⟩
  · have g92 : (c == 92) = false := by simp [h92]
    have HL := Lib.hid (show (L ++ closeE s.st 0).length ≤ 600000 by have := closeE_len s.st 0; simp; omega)
    by_cases h27 : c = 27
    · have e : endedS s c = (({ s with ends := false } : PS).beg 1, closeE s.st 0) := by unfold endedS; rw [if_neg h92, if_pos h27]
      have g27 : (c == 27) = true := by simp [h27]
      rw [e]
      clear e h92 h27
      show Calls Try.prog 30 _ W fun r w' => (∃ x, r = .returned x) ∧ TP G W p q (({ s with ends := false } : PS).beg 1) (L ++ closeE s.st 0) w'
      go_enter Try.func30, Try.ntmps30
      go_wp2_with fail
      refine (close_any G V p q _ L 0 HR1.out (by omega)).mono ?_
      rintro r w2 ⟨⟨x, rfl⟩, ht⟩
      obtain ⟨G2, hR2, hs2, hk2⟩ := ht
      have H2 := Lib.hid (And.intro hR2 (And.intro hs2 hk2))
      clear hR2 hs2 hk2
      go_wp2_with fail
      refine (begin_any' G2 w2 p q _ _ 1 (by omega) H2.out.1).mono ?_
      rintro r w3 ⟨⟨x, rfl⟩, ht⟩
      obtain ⟨G3, hR3, hs3, hk3⟩ := ht
      have H3 := Lib.hid (And.intro hR3 (And.intro hs3 hk3))
      clear hR3 hs3 hk3
      go_wp2
      go_end0
      exact ⟨⟨_, rfl⟩, TP.then (fun _ h => .inl h) HK1.out (TP.then H2.out.2.1 H2.out.2.2 (TP.then H3.out.2.1 H3.out.2.2 (TP.refl H3.out.1)))⟩
    have g27 : (c == 27) = false := by simp [h27]
    by_cases hx : c = 24 ∨ c = 26
    · have e : endedS s c = ({ ({ s with ends := false } : PS).beg 1 with st := 0 }, closeE s.st 0 ++ [evX 2 0 c]) := by unfold endedS; rw [if_neg h92, if_neg h27, if_pos hx]
      rw [e]
      clear e h92 h27
      rw [← List.append_assoc]
      show Calls Try.prog 30 _ W fun r w' => (∃ x, r = .returned x) ∧ TP G W p q { ({ s with ends := false } : PS).beg 1 with st := 0 } (L ++ closeE s.st 0 ++ [evX 2 0 c]) w'
      by_cases h24 : c = 24
      · have g24 : (c == 24) = true := by simp [h24]
        clear h24 hx
        go_enter Try.func30, Try.ntmps30
        go_wp2_with fail
        refine (close_any G V p q _ L 0 HR1.out (by omega)).mono ?_
        rintro r w2 ⟨⟨x, rfl⟩, ht⟩
        obtain ⟨G2, hR2, hs2, hk2⟩ := ht
        have H2 := Lib.hid (And.intro hR2 (And.intro hs2 hk2))
        clear hR2 hs2 hk2
        go_wp2_with fail
        refine (begin_any' G2 w2 p q _ _ 1 (by omega) H2.out.1).mono ?_
        rintro r w3 ⟨⟨x, rfl⟩, ht⟩
        obtain ⟨G3, hR3, hs3, hk3⟩ := ht
        have H3 := Lib.hid (And.intro hR3 (And.intro hs3 hk3))
        obtain ⟨⟨c0, f0⟩, hR4, hk4⟩ := rr_st hR3 0 (by omega)
        obtain ⟨U, hU⟩ : ∃ V, w3.setCell ⟨p, 0, none⟩ (.int .i64 0) = V := ⟨_, rfl⟩
        rw [hU] at hR4 hk4
        obtain ⟨-, c11⟩ := rr_cells hR4
        unfold sayV at c11
        have H4 := Lib.hid (And.intro hR4 hk4)
        clear hR3 hs3 hk3 hR4 hk4
        go_wp2_with fail
        refine (sayX G3 U p q _ _ H4.out.1 (by have := HL.out; omega) 2 0 c).mono ?_
        rintro r w5 ⟨⟨x, rfl⟩, ht⟩
        have HT := Lib.hid (TP.then (fun _ h => .inl h) HK1.out (TP.then H2.out.2.1 H2.out.2.2 (TP.then H3.out.2.1 H3.out.2.2 (TP.then (fun _ h => .inl h) H4.out.2 ht))))
        clear ht
        go_wp2
        go_end0
        exact ⟨⟨_, rfl⟩, HT.out⟩
      · have g24 : (c == 24) = false := by simp [h24]
        have g26 : (c == 26) = true := by simp; omega
        clear h24 hx
        go_enter Try.func30, Try.ntmps30
        go_wp2_with fail
        refine (close_any G V p q _ L 0 HR1.out (by omega)).mono ?_
        rintro r w2 ⟨⟨x, rfl⟩, ht⟩
        obtain ⟨G2, hR2, hs2, hk2⟩ := ht
        have H2 := Lib.hid (And.intro hR2 (And.intro hs2 hk2))
        clear hR2 hs2 hk2
        go_wp2_with fail
        refine (begin_any' G2 w2 p q _ _ 1 (by omega) H2.out.1).mono ?_
        rintro r w3 ⟨⟨x, rfl⟩, ht⟩
        obtain ⟨G3, hR3, hs3, hk3⟩ := ht
        have H3 := Lib.hid (And.intro hR3 (And.intro hs3 hk3))
        obtain ⟨⟨c0, f0⟩, hR4, hk4⟩ := rr_st hR3 0 (by omega)
        obtain ⟨U, hU⟩ : ∃ V, w3.setCell ⟨p, 0, none⟩ (.int .i64 0) = V := ⟨_, rfl⟩
        rw [hU] at hR4 hk4
        obtain ⟨-, c11⟩ := rr_cells hR4
        unfold sayV at c11
        have H4 := Lib.hid (And.intro hR4 hk4)
        clear hR3 hs3 hk3 hR4 hk4
        go_wp2_with fail
        refine (sayX G3 U p q _ _ H4.out.1 (by have := HL.out; omega) 2 0 c).mono ?_
        rintro r w5 ⟨⟨x, rfl⟩, ht⟩
        have HT := Lib.hid (TP.then (fun _ h => .inl h) HK1.out (TP.then H2.out.2.1 H2.out.2.2 (TP.then H3.out.2.1 H3.out.2.2 (TP.then (fun _ h => .inl h) H4.out.2 ht))))
        clear ht
        go_wp2
        go_end0
        exact ⟨⟨_, rfl⟩, HT.out⟩
    have g24 : (c == 24) = false := by simp; omega
    have g26 : (c == 26) = false := by simp; omega
    have e : endedS s c = ((escS (({ s with ends := false } : PS).beg 1) c).1, closeE s.st 0 ++ (escS (({ s with ends := false } : PS).beg 1) c).2) := by unfold endedS; rw [if_neg h92, if_neg h27, if_neg hx]
    rw [e]
    clear e h92 h27 hx
    rw [← List.append_assoc]
    show Calls Try.prog 30 _ W fun r w' => (∃ x, r = .returned x) ∧ TP G W p q (escS (({ s with ends := false } : PS).beg 1) c).1 (L ++ closeE s.st 0 ++ (escS (({ s with ends := false } : PS).beg 1) c).2) w'
    go_enter Try.func30, Try.ntmps30
    go_wp2_with fail
    refine (close_any G V p q _ L 0 HR1.out (by omega)).mono ?_
    rintro r w2 ⟨⟨x, rfl⟩, ht⟩
    obtain ⟨G2, hR2, hs2, hk2⟩ := ht
    have H2 := Lib.hid (And.intro hR2 (And.intro hs2 hk2))
    clear hR2 hs2 hk2
    go_wp2_with fail
    refine (begin_any' G2 w2 p q _ _ 1 (by omega) H2.out.1).mono ?_
    rintro r w3 ⟨⟨x, rfl⟩, ht⟩
    obtain ⟨G3, hR3, hs3, hk3⟩ := ht
    have H3 := Lib.hid (And.intro hR3 (And.intro hs3 hk3))
    clear hR3 hs3 hk3
    go_wp2_with fail
    refine (esc_any G3 w3 p q _ _ c hc0 hc1 H3.out.1 (by have := HL.out; omega)).mono ?_
    rintro r w5 ⟨⟨x, rfl⟩, ht⟩
    have HT := Lib.hid (TP.then (fun _ h => .inl h) HK1.out (TP.then H2.out.2.1 H2.out.2.2 (TP.then H3.out.2.1 H3.out.2.2 (ht))))
    clear ht
    go_wp2
    go_end0
    exact ⟨⟨_, rfl⟩, HT.out⟩
set_option maxRecDepth 100000 in
set_option maxHeartbeats 8000000 in
theorem plain_any (G : Nat → Prop) (W : World) (p q : Nat) (s : PS) (L : List Ev) (c : Int) (hc0 : 0 ≤ c) (hc1 : c < 256) (hR : RR G W p q s L) (hn : L.length ≤ 500000) :
    Calls Try.prog 31 #[.pointer (some ⟨p, 0, none⟩), .int .u8 c] W fun r w' => (∃ x, r = .returned x) ∧ TP G W p q (plainS s c).1 (L ++ (plainS s c).2) w' := by
  have HR := Lib.hid hR
  obtain ⟨c0, -⟩ := rr_cells hR
  have hst := (rr_ok hR).st
  clear hR
  by_cases h0 : s.st = 0
  · have g1 : (s.st == 1) = false := by simp [h0]
    have g2 : (s.st == 2) = false := by simp [h0]
    have g3 : (s.st == 3) = false := by simp [h0]
    have g4 : (s.st == 4) = false := by simp [h0]
    have g5 : (s.st == 5) = false := by simp [h0]
    have g6 : (s.st == 6) = false := by simp [h0]
    have g7 : (s.st == 7) = false := by simp [h0]
    have e : plainS s c = groundS s c := by unfold plainS; rw [if_pos h0]
    rw [e]
    clear e hst h0
    go_enter Try.func31, Try.ntmps31
    go_wp2_with fail
    refine (ground_any G W p q s L c hc0 hc1 HR.out (by omega)).mono ?_
    rintro r w2 ⟨⟨x, rfl⟩, ht⟩
    have HT := Lib.hid ht
    clear ht
    go_wp2
    go_end0
    exact ⟨⟨_, rfl⟩, HT.out⟩
  by_cases h1 : s.st = 1
  · have g1 : (s.st == 1) = true := by simp [h1]
    have g2 : (s.st == 2) = false := by simp [h1]
    have g3 : (s.st == 3) = false := by simp [h1]
    have g4 : (s.st == 4) = false := by simp [h1]
    have g5 : (s.st == 5) = false := by simp [h1]
    have g6 : (s.st == 6) = false := by simp [h1]
    have g7 : (s.st == 7) = false := by simp [h1]
    have e : plainS s c = escS s c := by unfold plainS; rw [if_neg (by omega), if_pos h1]
    rw [e]
    clear e hst h0 h1
    go_enter Try.func31, Try.ntmps31
    go_wp2_with fail
    refine (esc_any G W p q s L c hc0 hc1 HR.out (by omega)).mono ?_
    rintro r w2 ⟨⟨x, rfl⟩, ht⟩
    have HT := Lib.hid ht
    clear ht
    go_wp2
    go_end0
    exact ⟨⟨_, rfl⟩, HT.out⟩
  by_cases h2 : s.st = 2
  · have g1 : (s.st == 1) = false := by simp [h2]
    have g2 : (s.st == 2) = true := by simp [h2]
    have g3 : (s.st == 3) = false := by simp [h2]
    have g4 : (s.st == 4) = false := by simp [h2]
    have g5 : (s.st == 5) = false := by simp [h2]
    have g6 : (s.st == 6) = false := by simp [h2]
    have g7 : (s.st == 7) = false := by simp [h2]
    have e : plainS s c = headS s c := by unfold plainS; rw [if_neg (by omega), if_neg (by omega), if_pos (by omega)]
    rw [e]
    clear e hst h0 h1 h2
    go_enter Try.func31, Try.ntmps31
    go_wp2_with fail
    refine (head_any G W p q s L c hc0 hc1 HR.out (by omega)).mono ?_
    rintro r w2 ⟨⟨x, rfl⟩, ht⟩
    have HT := Lib.hid ht
    clear ht
    go_wp2
    go_end0
    exact ⟨⟨_, rfl⟩, HT.out⟩
  by_cases h3 : s.st = 3
  · have g1 : (s.st == 1) = false := by simp [h3]
    have g2 : (s.st == 2) = false := by simp [h3]
    have g3 : (s.st == 3) = true := by simp [h3]
    have g4 : (s.st == 4) = false := by simp [h3]
    have g5 : (s.st == 5) = false := by simp [h3]
    have g6 : (s.st == 6) = false := by simp [h3]
    have g7 : (s.st == 7) = false := by simp [h3]
    have e : plainS s c = headS s c := by unfold plainS; rw [if_neg (by omega), if_neg (by omega), if_pos (by omega)]
    rw [e]
    clear e hst h0 h1 h2 h3
    go_enter Try.func31, Try.ntmps31
    go_wp2_with fail
    refine (head_any G W p q s L c hc0 hc1 HR.out (by omega)).mono ?_
    rintro r w2 ⟨⟨x, rfl⟩, ht⟩
    have HT := Lib.hid ht
    clear ht
    go_wp2
    go_end0
    exact ⟨⟨_, rfl⟩, HT.out⟩
  by_cases h4 : s.st = 4
  · have g1 : (s.st == 1) = false := by simp [h4]
    have g2 : (s.st == 2) = false := by simp [h4]
    have g3 : (s.st == 3) = false := by simp [h4]
    have g4 : (s.st == 4) = true := by simp [h4]
    have g5 : (s.st == 5) = false := by simp [h4]
    have g6 : (s.st == 6) = false := by simp [h4]
    have g7 : (s.st == 7) = false := by simp [h4]
    have e : plainS s c = textS s c := by unfold plainS; rw [if_neg (by omega), if_neg (by omega), if_neg (by omega), if_pos h4]
    rw [e]
    clear e hst h0 h1 h2 h3 h4
    go_enter Try.func31, Try.ntmps31
    go_wp2_with fail
    refine (text_any G W p q s L c HR.out (by omega)).mono ?_
    rintro r w2 ⟨⟨x, rfl⟩, ht⟩
    have HT := Lib.hid ht
    clear ht
    go_wp2
    go_end0
    exact ⟨⟨_, rfl⟩, HT.out⟩
  by_cases h5 : s.st = 5
  · have g1 : (s.st == 1) = false := by simp [h5]
    have g2 : (s.st == 2) = false := by simp [h5]
    have g3 : (s.st == 3) = false := by simp [h5]
    have g4 : (s.st == 4) = false := by simp [h5]
    have g5 : (s.st == 5) = true := by simp [h5]
    have g6 : (s.st == 6) = false := by simp [h5]
    have g7 : (s.st == 7) = false := by simp [h5]
    have e : plainS s c = (s, []) := by unfold plainS; rw [if_neg (by omega), if_neg (by omega), if_neg (by omega), if_neg (by omega)]
    rw [e]
    clear e hst h0 h1 h2 h3 h4 h5
    show Calls Try.prog 31 _ W fun r w' => (∃ x, r = .returned x) ∧ TP G W p q s (L ++ []) w'
    go_enter Try.func31, Try.ntmps31
    go_wp2
    exact bodyPost_ret (results_none rfl _ _ _) rfl ⟨⟨_, rfl⟩, by rw [List.append_nil]; exact TP.refl HR.out⟩
  by_cases h6 : s.st = 6
  · have g1 : (s.st == 1) = false := by simp [h6]
    have g2 : (s.st == 2) = false := by simp [h6]
    have g3 : (s.st == 3) = false := by simp [h6]
    have g4 : (s.st == 4) = false := by simp [h6]
    have g5 : (s.st == 5) = false := by simp [h6]
    have g6 : (s.st == 6) = true := by simp [h6]
    have g7 : (s.st == 7) = false := by simp [h6]
    have e : plainS s c = (s, []) := by unfold plainS; rw [if_neg (by omega), if_neg (by omega), if_neg (by omega), if_neg (by omega)]
    rw [e]
    clear e hst h0 h1 h2 h3 h4 h5 h6
    show Calls Try.prog 31 _ W fun r w' => (∃ x, r = .returned x) ∧ TP G W p q s (L ++ []) w'
    go_enter Try.func31, Try.ntmps31
    go_wp2
    exact bodyPost_ret (results_none rfl _ _ _) rfl ⟨⟨_, rfl⟩, by rw [List.append_nil]; exact TP.refl HR.out⟩
  have h7 : s.st = 7 := by omega
  · have g1 : (s.st == 1) = false := by simp [h7]
    have g2 : (s.st == 2) = false := by simp [h7]
    have g3 : (s.st == 3) = false := by simp [h7]
    have g4 : (s.st == 4) = false := by simp [h7]
    have g5 : (s.st == 5) = false := by simp [h7]
    have g6 : (s.st == 6) = false := by simp [h7]
    have g7 : (s.st == 7) = true := by simp [h7]
    have e : plainS s c = (s, []) := by unfold plainS; rw [if_neg (by omega), if_neg (by omega), if_neg (by omega), if_neg (by omega)]
    rw [e]
    clear e hst h0 h1 h2 h3 h4 h5 h6 h7
    show Calls Try.prog 31 _ W fun r w' => (∃ x, r = .returned x) ∧ TP G W p q s (L ++ []) w'
    go_enter Try.func31, Try.ntmps31
    go_wp2
    exact bodyPost_ret (results_none rfl _ _ _) rfl ⟨⟨_, rfl⟩, by rw [List.append_nil]; exact TP.refl HR.out⟩
set_option maxRecDepth 100000 in
set_option maxHeartbeats 8000000 in
theorem step_any (G : Nat → Prop) (W : World) (p q : Nat) (s : PS) (L : List Ev) (c : Int) (hc0 : 0 ≤ c) (hc1 : c < 256) (hR : RR G W p q s L) (hn : L.length ≤ 400000) :
    Calls Try.prog 25 #[.pointer (some ⟨p, 0, none⟩), .int .u8 c] W fun r w' => (∃ x, r = .returned x) ∧ TP G W p q (stepS s c).1 (L ++ (stepS s c).2) w' := by
  have HR := Lib.hid hR
  obtain ⟨d, vi, vp, vd, vo, Vs, hc, hg⟩ := hR
  obtain ⟨⟨c0, c0f⟩, ⟨c1, c1f⟩, -, -, -, -, -, -, -, -, -, -⟩ := pcells hc.pb
  have hst := hc.ok.st
  clear hc hg
  cases hen : s.ends with
  | true =>
    have e : stepS s c = endedS s c := by unfold stepS; rw [if_pos hen]
    rw [hen] at c1
    rw [e]
    clear e hen hst
    go_enter Try.func25, Try.ntmps25
    go_wp2_with fail
    refine (ended_any G W p q s L c hc0 hc1 HR.out (by omega)).mono ?_
    rintro r w2 ⟨⟨x, rfl⟩, ht⟩
    have HT := Lib.hid ht
    clear ht
    go_wp2
    exact bodyPost_ret (results_none rfl _ _ _) rfl ⟨⟨_, rfl⟩, HT.out⟩
  | false =>
  rw [hen] at c1
  have hef : ¬ s.ends = true := by rw [hen]; simp
  by_cases hx : c ≠ 24 ∧ c ≠ 26 ∧ c ≠ 27
  · have e : stepS s c = plainS s c := by unfold stepS; rw [if_neg hef, if_pos hx]
    have g24 : (c != 24) = true := by simp [hx.1]
    have g26 : (c != 26) = true := by simp [hx.2.1]
    have g27 : (c != 27) = true := by simp [hx.2.2]
    rw [e]
    clear e hen hef hx hst
    go_enter Try.func25, Try.ntmps25
    go_wp2_with fail
    refine (plain_any G W p q s L c hc0 hc1 HR.out (by omega)).mono ?_
    rintro r w2 ⟨⟨x, rfl⟩, ht⟩
    have HT := Lib.hid ht
    clear ht
    go_wp2
    exact bodyPost_ret (results_none rfl _ _ _) rfl ⟨⟨_, rfl⟩, HT.out⟩
  by_cases hz : s.st = 0
  · have gz : (s.st == 0) = true := by simp [hz]
    have hs4 : ¬ 4 ≤ s.st := by omega
    have gs4 : decide (4 ≤ s.st) = false := decide_eq_false hs4
    by_cases hv : c = 24
    · skip
      have g24 : (c != 24) = false := by simp [hv]
      have g27 : (c != 27) = true := by simp [hv]
      have e : stepS s c = ({ ({ s with ch := s0 } : PS) with st := 0 }, printE (fin s.ch) ++ (closeE s.st 0 ++ [evX 2 0 c])) := by unfold stepS; rw [if_neg hef, if_neg hx]; simp only [if_pos hz, if_pos (show c ≠ 27 by omega)]
      rw [e]
      clear e hen hef hx hst hv hz hs4
      show Calls Try.prog 25 _ W fun r w' => (∃ x, r = .returned x) ∧ TP G W p q ({ ({ s with ch := s0 } : PS) with st := 0 }) (L ++ (printE (fin s.ch) ++ (closeE s.st 0 ++ [evX 2 0 c]))) w'
      obtain ⟨dd, c2, hcall⟩ := fin_rr G W p q s L HR.out
      have HC := Lib.hid hcall
      clear hcall
      go_enter Try.func25, Try.ntmps25
      go_wp2_with fail
      refine HC.out.mono ?_
      rintro r w2 ⟨a, n, cap, rfl, hR2, hs2, hn2, hb2, hk2⟩
      have HP := Lib.hid (print_any G w2 p q _ L a n cap (fin s.ch) hR2 hs2 hb2 (by omega) (by omega))
      have HKA := Lib.hid hk2
      have hxl := hs2.1
      have HLL := Lib.hid (show (L ++ printE (fin s.ch)).length ≤ 500000 by simp [printE]; omega)
      clear hR2 hs2 hn2 hb2 hk2 hxl
      go_wp2_with fail
      refine HP.out.mono ?_
      rintro r w3 ⟨⟨x, rfl⟩, ht3⟩
      obtain ⟨GA, hRA, hsA, hkA⟩ := TP.then (fun _ h => .inl h) HKA.out ht3
      clear ht3
      have HA := Lib.hid (And.intro hRA (And.intro hsA hkA))
      clear hRA hsA hkA
      go_wp2_with fail
      refine (close_any GA w3 p q _ _ 0 HA.out.1 (by have := HLL.out; omega)).mono ?_
      rintro r w4 ⟨⟨x, rfl⟩, ht⟩
      obtain ⟨G4, hR4, hs4', hk4⟩ := ht
      obtain ⟨⟨c0', f0'⟩, hR5, hk5⟩ := rr_st hR4 0 (by omega)
      obtain ⟨U, hU⟩ : ∃ V, w4.setCell ⟨p, 0, none⟩ (.int .i64 0) = V := ⟨_, rfl⟩
      rw [hU] at hR5 hk5
      obtain ⟨-, c11⟩ := rr_cells hR5
      unfold sayV at c11
      have H5 := Lib.hid (And.intro hR5 (And.intro hs4' (And.intro hk4 hk5)))
      have HL2 := Lib.hid (show ((L ++ printE (fin s.ch)) ++ closeE s.st 0).length ≤ 1000000 by have := closeE_len s.st 0; have := HLL.out; rw [List.length_append]; omega)
      clear hR4 hs4' hk4 hR5 hk5
      go_wp2_with fail
      refine (sayX G4 U p q _ _ H5.out.1 HL2.out 2 0 c).mono ?_
      rintro r w6 ⟨⟨x, rfl⟩, ht⟩
      have HT := Lib.hid (TP.then HA.out.2.1 HA.out.2.2 (TP.then H5.out.2.1 H5.out.2.2.1 (TP.then (fun _ h => .inl h) H5.out.2.2.2 ht)))
      clear ht
      go_wp2
      go_end0
      exact ⟨⟨_, rfl⟩, by have h := HT.out; rw [List.append_assoc, List.append_assoc] at h; exact h⟩
    by_cases hv : c = 26
    · skip
      have g24 : (c != 24) = true := by simp [hv]
      have g26 : (c != 26) = false := by simp [hv]
      have g27 : (c != 27) = true := by simp [hv]
      have e : stepS s c = ({ ({ s with ch := s0 } : PS) with st := 0 }, printE (fin s.ch) ++ (closeE s.st 0 ++ [evX 2 0 c])) := by unfold stepS; rw [if_neg hef, if_neg hx]; simp only [if_pos hz, if_pos (show c ≠ 27 by omega)]
      rw [e]
      clear e hen hef hx hst hv hz hs4
      show Calls Try.prog 25 _ W fun r w' => (∃ x, r = .returned x) ∧ TP G W p q ({ ({ s with ch := s0 } : PS) with st := 0 }) (L ++ (printE (fin s.ch) ++ (closeE s.st 0 ++ [evX 2 0 c]))) w'
      obtain ⟨dd, c2, hcall⟩ := fin_rr G W p q s L HR.out
      have HC := Lib.hid hcall
      clear hcall
      go_enter Try.func25, Try.ntmps25
      go_wp2_with fail
      refine HC.out.mono ?_
      rintro r w2 ⟨a, n, cap, rfl, hR2, hs2, hn2, hb2, hk2⟩
      have HP := Lib.hid (print_any G w2 p q _ L a n cap (fin s.ch) hR2 hs2 hb2 (by omega) (by omega))
      have HKA := Lib.hid hk2
      have hxl := hs2.1
      have HLL := Lib.hid (show (L ++ printE (fin s.ch)).length ≤ 500000 by simp [printE]; omega)
      clear hR2 hs2 hn2 hb2 hk2 hxl
      go_wp2_with fail
      refine HP.out.mono ?_
      rintro r w3 ⟨⟨x, rfl⟩, ht3⟩
      obtain ⟨GA, hRA, hsA, hkA⟩ := TP.then (fun _ h => .inl h) HKA.out ht3
      clear ht3
      have HA := Lib.hid (And.intro hRA (And.intro hsA hkA))
      clear hRA hsA hkA
      go_wp2_with fail
      refine (close_any GA w3 p q _ _ 0 HA.out.1 (by have := HLL.out; omega)).mono ?_
      rintro r w4 ⟨⟨x, rfl⟩, ht⟩
      obtain ⟨G4, hR4, hs4', hk4⟩ := ht
      obtain ⟨⟨c0', f0'⟩, hR5, hk5⟩ := rr_st hR4 0 (by omega)
      obtain ⟨U, hU⟩ : ∃ V, w4.setCell ⟨p, 0, none⟩ (.int .i64 0) = V := ⟨_, rfl⟩
      rw [hU] at hR5 hk5
      obtain ⟨-, c11⟩ := rr_cells hR5
      unfold sayV at c11
      have H5 := Lib.hid (And.intro hR5 (And.intro hs4' (And.intro hk4 hk5)))
      have HL2 := Lib.hid (show ((L ++ printE (fin s.ch)) ++ closeE s.st 0).length ≤ 1000000 by have := closeE_len s.st 0; have := HLL.out; rw [List.length_append]; omega)
      clear hR4 hs4' hk4 hR5 hk5
      go_wp2_with fail
      refine (sayX G4 U p q _ _ H5.out.1 HL2.out 2 0 c).mono ?_
      rintro r w6 ⟨⟨x, rfl⟩, ht⟩
      have HT := Lib.hid (TP.then HA.out.2.1 HA.out.2.2 (TP.then H5.out.2.1 H5.out.2.2.1 (TP.then (fun _ h => .inl h) H5.out.2.2.2 ht)))
      clear ht
      go_wp2
      go_end0
      exact ⟨⟨_, rfl⟩, by have h := HT.out; rw [List.append_assoc, List.append_assoc] at h; exact h⟩
    have hv : c = 27 := by omega
    have g24 : (c != 24) = true := by simp [hv]
    have g26 : (c != 26) = true := by simp [hv]
    have g27 : (c != 27) = false := by simp [hv]
    have e : stepS s c = (({ s with ch := s0 } : PS).beg 1, printE (fin s.ch)) := by unfold stepS; rw [if_neg hef, if_neg hx]; simp only [if_pos hz, if_neg (show ¬ c ≠ 27 by omega), if_neg hs4]
    rw [e]
    clear e hen hef hx hst hv hz hs4
    show Calls Try.prog 25 _ W fun r w' => (∃ x, r = .returned x) ∧ TP G W p q (({ s with ch := s0 } : PS).beg 1) (L ++ (printE (fin s.ch))) w'
    obtain ⟨dd, c2, hcall⟩ := fin_rr G W p q s L HR.out
    have HC := Lib.hid hcall
    clear hcall
    go_enter Try.func25, Try.ntmps25
    go_wp2_with fail
    refine HC.out.mono ?_
    rintro r w2 ⟨a, n, cap, rfl, hR2, hs2, hn2, hb2, hk2⟩
    have HP := Lib.hid (print_any G w2 p q _ L a n cap (fin s.ch) hR2 hs2 hb2 (by omega) (by omega))
    have HKA := Lib.hid hk2
    have hxl := hs2.1
    have HLL := Lib.hid (show (L ++ printE (fin s.ch)).length ≤ 500000 by simp [printE]; omega)
    clear hR2 hs2 hn2 hb2 hk2 hxl
    go_wp2_with fail
    refine HP.out.mono ?_
    rintro r w3 ⟨⟨x, rfl⟩, ht3⟩
    obtain ⟨GA, hRA, hsA, hkA⟩ := TP.then (fun _ h => .inl h) HKA.out ht3
    clear ht3
    have HA := Lib.hid (And.intro hRA (And.intro hsA hkA))
    obtain ⟨s0c, -⟩ := rr_cells hRA
    try simp only at s0c
    clear hRA hsA hkA
    go_wp2_with fail
    refine (begin_any' GA w3 p q _ _ 1 (by omega) HA.out.1).mono ?_
    rintro r w4 ⟨⟨x, rfl⟩, ht⟩
    have HT := Lib.hid (TP.then HA.out.2.1 HA.out.2.2 ht)
    clear ht
    go_wp2
    go_end0
    exact ⟨⟨_, rfl⟩, HT.out⟩
  · have gz : (s.st == 0) = false := by simp [hz]
    by_cases hs4 : 4 ≤ s.st
    · have gs4 : decide (4 ≤ s.st) = true := decide_eq_true hs4
      by_cases hv : c = 24
      · skip
        have g24 : (c != 24) = false := by simp [hv]
        have g27 : (c != 27) = true := by simp [hv]
        have e : stepS s c = ({ (s : PS) with st := 0 }, ([] : List Ev) ++ (closeE s.st 0 ++ [evX 2 0 c])) := by unfold stepS; rw [if_neg hef, if_neg hx]; simp only [if_neg hz, if_pos (show c ≠ 27 by omega)]
        rw [e]
        clear e hen hef hx hst hv hz hs4
        show Calls Try.prog 25 _ W fun r w' => (∃ x, r = .returned x) ∧ TP G W p q ({ (s : PS) with st := 0 }) (L ++ (([] : List Ev) ++ (closeE s.st 0 ++ [evX 2 0 c]))) w'
        have HLL := Lib.hid (show (L ++ ([] : List Ev)).length ≤ 500000 by simp; omega)
        obtain ⟨GA, hRA, hsA, hkA⟩ := TP.refl HR.out
        rw [← List.append_nil L] at hRA
        have HA := Lib.hid (And.intro hRA (And.intro hsA hkA))
        clear hRA hsA hkA
        go_enter Try.func25, Try.ntmps25
        go_wp2_with fail
        refine (close_any GA W p q _ _ 0 HA.out.1 (by have := HLL.out; omega)).mono ?_
        rintro r w4 ⟨⟨x, rfl⟩, ht⟩
        obtain ⟨G4, hR4, hs4', hk4⟩ := ht
        obtain ⟨⟨c0', f0'⟩, hR5, hk5⟩ := rr_st hR4 0 (by omega)
        obtain ⟨U, hU⟩ : ∃ V, w4.setCell ⟨p, 0, none⟩ (.int .i64 0) = V := ⟨_, rfl⟩
        rw [hU] at hR5 hk5
        obtain ⟨-, c11⟩ := rr_cells hR5
        unfold sayV at c11
        have H5 := Lib.hid (And.intro hR5 (And.intro hs4' (And.intro hk4 hk5)))
        have HL2 := Lib.hid (show ((L ++ ([] : List Ev)) ++ closeE s.st 0).length ≤ 1000000 by have := closeE_len s.st 0; have := HLL.out; rw [List.length_append]; omega)
        clear hR4 hs4' hk4 hR5 hk5
        go_wp2_with fail
        refine (sayX G4 U p q _ _ H5.out.1 HL2.out 2 0 c).mono ?_
        rintro r w6 ⟨⟨x, rfl⟩, ht⟩
        have HT := Lib.hid (TP.then HA.out.2.1 HA.out.2.2 (TP.then H5.out.2.1 H5.out.2.2.1 (TP.then (fun _ h => .inl h) H5.out.2.2.2 ht)))
        clear ht
        go_wp2
        go_end0
        exact ⟨⟨_, rfl⟩, by have h := HT.out; rw [List.append_assoc, List.append_assoc] at h; exact h⟩
      by_cases hv : c = 26
      · skip
        have g24 : (c != 24) = true := by simp [hv]
        have g26 : (c != 26) = false := by simp [hv]
        have g27 : (c != 27) = true := by simp [hv]
        have e : stepS s c = ({ (s : PS) with st := 0 }, ([] : List Ev) ++ (closeE s.st 0 ++ [evX 2 0 c])) := by unfold stepS; rw [if_neg hef, if_neg hx]; simp only [if_neg hz, if_pos (show c ≠ 27 by omega)]
        rw [e]
        clear e hen hef hx hst hv hz hs4
        show Calls Try.prog 25 _ W fun r w' => (∃ x, r = .returned x) ∧ TP G W p q ({ (s : PS) with st := 0 }) (L ++ (([] : List Ev) ++ (closeE s.st 0 ++ [evX 2 0 c]))) w'
        have HLL := Lib.hid (show (L ++ ([] : List Ev)).length ≤ 500000 by simp; omega)
        obtain ⟨GA, hRA, hsA, hkA⟩ := TP.refl HR.out
        rw [← List.append_nil L] at hRA
        have HA := Lib.hid (And.intro hRA (And.intro hsA hkA))
        clear hRA hsA hkA
        go_enter Try.func25, Try.ntmps25
        go_wp2_with fail
        refine (close_any GA W p q _ _ 0 HA.out.1 (by have := HLL.out; omega)).mono ?_
        rintro r w4 ⟨⟨x, rfl⟩, ht⟩
        obtain ⟨G4, hR4, hs4', hk4⟩ := ht
        obtain ⟨⟨c0', f0'⟩, hR5, hk5⟩ := rr_st hR4 0 (by omega)
        obtain ⟨U, hU⟩ : ∃ V, w4.setCell ⟨p, 0, none⟩ (.int .i64 0) = V := ⟨_, rfl⟩
        rw [hU] at hR5 hk5
        obtain ⟨-, c11⟩ := rr_cells hR5
        unfold sayV at c11
        have H5 := Lib.hid (And.intro hR5 (And.intro hs4' (And.intro hk4 hk5)))
        have HL2 := Lib.hid (show ((L ++ ([] : List Ev)) ++ closeE s.st 0).length ≤ 1000000 by have := closeE_len s.st 0; have := HLL.out; rw [List.length_append]; omega)
        clear hR4 hs4' hk4 hR5 hk5
        go_wp2_with fail
        refine (sayX G4 U p q _ _ H5.out.1 HL2.out 2 0 c).mono ?_
        rintro r w6 ⟨⟨x, rfl⟩, ht⟩
        have HT := Lib.hid (TP.then HA.out.2.1 HA.out.2.2 (TP.then H5.out.2.1 H5.out.2.2.1 (TP.then (fun _ h => .inl h) H5.out.2.2.2 ht)))
        clear ht
        go_wp2
        go_end0
        exact ⟨⟨_, rfl⟩, by have h := HT.out; rw [List.append_assoc, List.append_assoc] at h; exact h⟩
      have hv : c = 27 := by omega
      have g24 : (c != 24) = true := by simp [hv]
      have g26 : (c != 26) = true := by simp [hv]
      have g27 : (c != 27) = false := by simp [hv]
      have e : stepS s c = ({ (s : PS) with ends := true }, ([] : List Ev)) := by unfold stepS; rw [if_neg hef, if_neg hx]; simp only [if_neg hz, if_neg (show ¬ c ≠ 27 by omega), if_pos hs4]
      rw [e]
      clear e hen hef hx hst hv hz hs4
      show Calls Try.prog 25 _ W fun r w' => (∃ x, r = .returned x) ∧ TP G W p q ({ (s : PS) with ends := true }) (L ++ (([] : List Ev))) w'
      have HLL := Lib.hid (show (L ++ ([] : List Ev)).length ≤ 500000 by simp; omega)
      obtain ⟨GA, hRA, hsA, hkA⟩ := TP.refl HR.out
      rw [← List.append_nil L] at hRA
      have HA := Lib.hid (And.intro hRA (And.intro hsA hkA))
      obtain ⟨⟨e1, e1f⟩, hR5, hk5⟩ := rr_ends hRA true
      obtain ⟨s0c, -⟩ := rr_cells hRA
      have HT := Lib.hid (TP.then hsA hkA (tp_rr hR5 (fun _ h => .inl h) hk5))
      clear hRA hsA hkA hR5 hk5
      go_enter Try.func25, Try.ntmps25
      go_wp2
      go_end0
      exact ⟨⟨_, rfl⟩, HT.out⟩
    · have gs4 : decide (4 ≤ s.st) = false := decide_eq_false hs4
      by_cases hv : c = 24
      · skip
        have g24 : (c != 24) = false := by simp [hv]
        have g27 : (c != 27) = true := by simp [hv]
        have e : stepS s c = ({ (s : PS) with st := 0 }, ([] : List Ev) ++ (closeE s.st 0 ++ [evX 2 0 c])) := by unfold stepS; rw [if_neg hef, if_neg hx]; simp only [if_neg hz, if_pos (show c ≠ 27 by omega)]
        rw [e]
        clear e hen hef hx hst hv hz hs4
        show Calls Try.prog 25 _ W fun r w' => (∃ x, r = .returned x) ∧ TP G W p q ({ (s : PS) with st := 0 }) (L ++ (([] : List Ev) ++ (closeE s.st 0 ++ [evX 2 0 c]))) w'
        have HLL := Lib.hid (show (L ++ ([] : List Ev)).length ≤ 500000 by simp; omega)
        obtain ⟨GA, hRA, hsA, hkA⟩ := TP.refl HR.out
        rw [← List.append_nil L] at hRA
        have HA := Lib.hid (And.intro hRA (And.intro hsA hkA))
        clear hRA hsA hkA
        go_enter Try.func25, Try.ntmps25
        go_wp2_with fail
        refine (close_any GA W p q _ _ 0 HA.out.1 (by have := HLL.out; omega)).mono ?_
        rintro r w4 ⟨⟨x, rfl⟩, ht⟩
        obtain ⟨G4, hR4, hs4', hk4⟩ := ht
        obtain ⟨⟨c0', f0'⟩, hR5, hk5⟩ := rr_st hR4 0 (by omega)
        obtain ⟨U, hU⟩ : ∃ V, w4.setCell ⟨p, 0, none⟩ (.int .i64 0) = V := ⟨_, rfl⟩
        rw [hU] at hR5 hk5
        obtain ⟨-, c11⟩ := rr_cells hR5
        unfold sayV at c11
        have H5 := Lib.hid (And.intro hR5 (And.intro hs4' (And.intro hk4 hk5)))
        have HL2 := Lib.hid (show ((L ++ ([] : List Ev)) ++ closeE s.st 0).length ≤ 1000000 by have := closeE_len s.st 0; have := HLL.out; rw [List.length_append]; omega)
        clear hR4 hs4' hk4 hR5 hk5
        go_wp2_with fail
        refine (sayX G4 U p q _ _ H5.out.1 HL2.out 2 0 c).mono ?_
        rintro r w6 ⟨⟨x, rfl⟩, ht⟩
        have HT := Lib.hid (TP.then HA.out.2.1 HA.out.2.2 (TP.then H5.out.2.1 H5.out.2.2.1 (TP.then (fun _ h => .inl h) H5.out.2.2.2 ht)))
        clear ht
        go_wp2
        go_end0
        exact ⟨⟨_, rfl⟩, by have h := HT.out; rw [List.append_assoc, List.append_assoc] at h; exact h⟩
      by_cases hv : c = 26
      · skip
        have g24 : (c != 24) = true := by simp [hv]
        have g26 : (c != 26) = false := by simp [hv]
        have g27 : (c != 27) = true := by simp [hv]
        have e : stepS s c = ({ (s : PS) with st := 0 }, ([] : List Ev) ++ (closeE s.st 0 ++ [evX 2 0 c])) := by unfold stepS; rw [if_neg hef, if_neg hx]; simp only [if_neg hz, if_pos (show c ≠ 27 by omega)]
        rw [e]
        clear e hen hef hx hst hv hz hs4
        show Calls Try.prog 25 _ W fun r w' => (∃ x, r = .returned x) ∧ TP G W p q ({ (s : PS) with st := 0 }) (L ++ (([] : List Ev) ++ (closeE s.st 0 ++ [evX 2 0 c]))) w'
        have HLL := Lib.hid (show (L ++ ([] : List Ev)).length ≤ 500000 by simp; omega)
        obtain ⟨GA, hRA, hsA, hkA⟩ := TP.refl HR.out
        rw [← List.append_nil L] at hRA
        have HA := Lib.hid (And.intro hRA (And.intro hsA hkA))
        clear hRA hsA hkA
        go_enter Try.func25, Try.ntmps25
        go_wp2_with fail
        refine (close_any GA W p q _ _ 0 HA.out.1 (by have := HLL.out; omega)).mono ?_
        rintro r w4 ⟨⟨x, rfl⟩, ht⟩
        obtain ⟨G4, hR4, hs4', hk4⟩ := ht
        obtain ⟨⟨c0', f0'⟩, hR5, hk5⟩ := rr_st hR4 0 (by omega)
        obtain ⟨U, hU⟩ : ∃ V, w4.setCell ⟨p, 0, none⟩ (.int .i64 0) = V := ⟨_, rfl⟩
        rw [hU] at hR5 hk5
        obtain ⟨-, c11⟩ := rr_cells hR5
        unfold sayV at c11
        have H5 := Lib.hid (And.intro hR5 (And.intro hs4' (And.intro hk4 hk5)))
        have HL2 := Lib.hid (show ((L ++ ([] : List Ev)) ++ closeE s.st 0).length ≤ 1000000 by have := closeE_len s.st 0; have := HLL.out; rw [List.length_append]; omega)
        clear hR4 hs4' hk4 hR5 hk5
        go_wp2_with fail
        refine (sayX G4 U p q _ _ H5.out.1 HL2.out 2 0 c).mono ?_
        rintro r w6 ⟨⟨x, rfl⟩, ht⟩
        have HT := Lib.hid (TP.then HA.out.2.1 HA.out.2.2 (TP.then H5.out.2.1 H5.out.2.2.1 (TP.then (fun _ h => .inl h) H5.out.2.2.2 ht)))
        clear ht
        go_wp2
        go_end0
        exact ⟨⟨_, rfl⟩, by have h := HT.out; rw [List.append_assoc, List.append_assoc] at h; exact h⟩
      have hv : c = 27 := by omega
      have g24 : (c != 24) = true := by simp [hv]
      have g26 : (c != 26) = true := by simp [hv]
      have g27 : (c != 27) = false := by simp [hv]
      have e : stepS s c = ((s : PS).beg 1, ([] : List Ev)) := by unfold stepS; rw [if_neg hef, if_neg hx]; simp only [if_neg hz, if_neg (show ¬ c ≠ 27 by omega), if_neg hs4]
      rw [e]
      clear e hen hef hx hst hv hz hs4
      show Calls Try.prog 25 _ W fun r w' => (∃ x, r = .returned x) ∧ TP G W p q ((s : PS).beg 1) (L ++ (([] : List Ev))) w'
      have HLL := Lib.hid (show (L ++ ([] : List Ev)).length ≤ 500000 by simp; omega)
      obtain ⟨GA, hRA, hsA, hkA⟩ := TP.refl HR.out
      rw [← List.append_nil L] at hRA
      have HA := Lib.hid (And.intro hRA (And.intro hsA hkA))
      obtain ⟨s0c, -⟩ := rr_cells hRA
      try simp only at s0c
      clear hRA hsA hkA
      go_enter Try.func25, Try.ntmps25
      go_wp2_with fail
      refine (begin_any' GA W p q _ _ 1 (by omega) HA.out.1).mono ?_
      rintro r w4 ⟨⟨x, rfl⟩, ht⟩
      have HT := Lib.hid (TP.then HA.out.2.1 HA.out.2.2 ht)
      clear ht
      go_wp2
      go_end0
      exact ⟨⟨_, rfl⟩, HT.out⟩
end Go.Proofs.Ytnaoobgghgnflaa
