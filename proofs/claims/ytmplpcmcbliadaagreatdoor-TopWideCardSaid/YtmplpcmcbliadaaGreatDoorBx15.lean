/- The parser: a byte; The parser: data at the front; The parser: bytes fed. -/
import Derived.Test.YtmplpcmcbliadaaGreatDoorBx14
set_option linter.unusedVariables false
set_option linter.unusedSimpArgs false
namespace Go.Proofs.YtmplpcmcbliadaaGreatDoor
open Go.RowKit Pl
theorem rr_ends {G : Nat -> Prop} {W : World} {p : Nat} {q : Lis} {s : PS} {L : List Ev} (hR : RR G W p q s L) (k : Bool) : (W.cell? ⟨p, 1, none⟩ = some (.bool s.ends) /\ W.frozen? ⟨p, 1, none⟩ = false) /\ RR G (W.setCell ⟨p, 1, none⟩ (.bool k)) p q { s with ends := k } L /\ Kept G W (W.setCell ⟨p, 1, none⟩ (.bool k)) := by
 obtain ⟨d, vi, vp, vd, vo, hc, hg⟩ := hR
 have hkV : Kept (fun i => i = p) W (W.setCell ⟨p, 1, none⟩ (.bool k)) := (Kept.refl (fun i => i = p) W).setCell (p := ⟨p, 1, none⟩) (.inl rfl) _
 exact ⟨⟨blk_cell hc.pb 1, blk_free hc.pb 1⟩, ⟨d, vi, vp, vd, vo, hc.upd (s' := { s with ends := k }) hkV (blk_set hc.pb 1 _) rfl rfl rfl rfl ⟨hc.ok.st, hc.ok.it, hc.ok.ps, hc.ok.la, hc.ok.ds⟩, hg⟩, hkV.mono fun i _ h => (hg i).2 (.inl h)⟩
theorem rr_ok {G : Nat -> Prop} {W : World} {p : Nat} {q : Lis} {s : PS} {L : List Ev} (hR : RR G W p q s L) : SOk s := by
 obtain ⟨d, vi, vp, vd, vo, hc, hg⟩ := hR
 exact hc.ok
theorem closeE_len (k b : Int) : (closeE k b).length <= 1 := by unfold closeE; split <;> (try split) <;> simp
set_option maxRecDepth 100000 in
set_option maxHeartbeats 8000000 in
theorem ended_any (G : Nat -> Prop) (W : World) (p : Nat) (q : Lis) (s : PS) (L : List Ev) (c : Int) (hc0 : 0 <= c) (hc1 : c < 256) (hR : RR G W p q s L) (hn : AL q L ((endedS s c).2)) :
  Calls Tryz.prog 117 #[.pointer (some ⟨p, 0, none⟩), .int .u8 c] W fun r w' => (∃ x, r = .returned x) /\ TP G W p q (endedS s c).1 (L ++ (endedS s c).2) w' := by
 obtain ⟨⟨c1, f1⟩, hR1, hk1⟩ := rr_ends hR false
 obtain ⟨V, hV⟩ : ∃ V, W.setCell ⟨p, 1, none⟩ (.bool false) = V := ⟨_, rfl⟩
 rw [hV] at hR1 hk1
 obtain ⟨v0, -⟩ := rr_cells hR1
 simp only at v0
 have HR1 := Lib.hid hR1
 have HK1 := Lib.hid hk1
 clear hR hR1 hk1
 by_cases h92 : c = 92
 ·have e : endedS s c = ({ s with ends := false, st := 0 }, (if s.st = 4 then [toldE s] else []) ++ closeE s.st 1) := by unfold endedS; rw [if_pos h92]
  have g92 : (c == 92) = true := by simp [h92]
  rw [e] at hn ⊢
  clear e h92
  show Calls Tryz.prog 117 _ W fun r w' => (∃ x, r = .returned x) /\ TP G W p q { s with ends := false, st := 0 } (L ++ ((if s.st = 4 then [toldE s] else []) ++ closeE s.st 1)) w'
  by_cases h4 : s.st = 4
  ·have g4 : (s.st == 4) = true := by simp [h4]
   rw [if_pos h4, <- List.append_assoc]
   have HL := Lib.hid (show AL q L [toldE s] /\ AL q (L ++ [toldE s]) (closeE s.st 1) from ⟨by have h := AL.left hn; rw [if_pos h4] at h; exact h, by have h := AL.right hn; rw [if_pos h4] at h; exact h⟩)
   clear h4
   go_enter Tryz.func117, Tryz.ntmps117
   go_wp2_with fail
   refine (told_any G V p q _ L HR1.out HL.out.1).mono ?_
   rintro r w2 ⟨⟨x, rfl⟩, ht⟩
   obtain ⟨G2, hR2, hs2, hk2⟩ := ht
   have H2 := Lib.hid (And.intro hR2 (And.intro hs2 hk2))
   clear hR2 hs2 hk2
   go_wp2_with fail
   refine (close_any G2 w2 p q _ _ 1 H2.out.1 HL.out.2).mono ?_
   rintro r w3 ⟨⟨x, rfl⟩, ht⟩
   obtain ⟨G3, hR3, hs3, hk3⟩ := ht
   obtain ⟨⟨c0, f0⟩, hR4, hk4⟩ := rr_st hR3 0 (by omega)
   have HT := Lib.hid (TP.then (fun _ h => .inl h) HK1.out (TP.then H2.out.2.1 H2.out.2.2 (TP.then hs3 hk3 (tp_rr hR4 (fun _ h => .inl h) hk4))))
   clear hR3 hs3 hk3 hR4 hk4
   go_wp2
   exact bodyPost_ret (results_none rfl _ _ _) rfl ⟨⟨_, rfl⟩, HT.out⟩
  ·have g4 : (s.st == 4) = false := by simp [h4]
   rw [if_neg h4, List.nil_append]
   have HLN := Lib.hid (show AL q L (closeE s.st 1) by have h := AL.right hn; rw [if_neg h4, List.append_nil] at h; exact h)
   clear h4
   go_enter Tryz.func117, Tryz.ntmps117
   go_wp2_with fail
   refine (close_any G V p q _ L 1 HR1.out HLN.out).mono ?_
   rintro r w3 ⟨⟨x, rfl⟩, ht⟩
   obtain ⟨G3, hR3, hs3, hk3⟩ := ht
   obtain ⟨⟨c0, f0⟩, hR4, hk4⟩ := rr_st hR3 0 (by omega)
   have HT := Lib.hid (TP.then (fun _ h => .inl h) HK1.out (TP.then hs3 hk3 (tp_rr hR4 (fun _ h => .inl h) hk4)))
   clear hR3 hs3 hk3 hR4 hk4
   go_wp2
   exact bodyPost_ret (results_none rfl _ _ _) rfl ⟨⟨_, rfl⟩, HT.out⟩
 ·have g92 : (c == 92) = false := by simp [h92]
  by_cases h27 : c = 27
  ·have e : endedS s c = (({ s with ends := false } : PS).beg 1, closeE s.st 0) := by unfold endedS; rw [if_neg h92, if_pos h27]
   have g27 : (c == 27) = true := by simp [h27]
   rw [e] at hn ⊢
   clear e h92 h27
   show Calls Tryz.prog 117 _ W fun r w' => (∃ x, r = .returned x) /\ TP G W p q (({ s with ends := false } : PS).beg 1) (L ++ closeE s.st 0) w'
   go_enter Tryz.func117, Tryz.ntmps117
   go_wp2_with fail
   refine (close_any G V p q _ L 0 HR1.out hn).mono ?_
   rintro r w2 ⟨⟨x, rfl⟩, ht⟩
   obtain ⟨G2, hR2, hs2, hk2⟩ := ht
   have H2 := Lib.hid (And.intro hR2 (And.intro hs2 hk2))
   clear hR2 hs2 hk2
   go_wp2_with fail
   refine (begin_any' G2 w2 p q _ _ 1 (by omega) H2.out.1).mono ?_
   rintro r w3 ⟨⟨x, rfl⟩, ht⟩
   obtain ⟨G3, hR3, hs3, hk3⟩ := ht
   have H3 := Lib.hid (And.intro hR3 (And.intro hs3 hk3))
   clear hR3 hs3 hk3
   go_wp2
   go_end0
   exact ⟨⟨_, rfl⟩, TP.then (fun _ h => .inl h) HK1.out (TP.then H2.out.2.1 H2.out.2.2 (TP.then H3.out.2.1 H3.out.2.2 (TP.refl H3.out.1)))⟩
  have g27 : (c == 27) = false := by simp [h27]
  by_cases hx : c = 24 \/ c = 26
  ·have e : endedS s c = ({ ({ s with ends := false } : PS).beg 1 with st := 0 }, closeE s.st 0 ++ [evX 2 0 c]) := by unfold endedS; rw [if_neg h92, if_neg h27, if_pos hx]
   rw [e] at hn ⊢
   clear e h92 h27
   rw [<- List.append_assoc]
   show Calls Tryz.prog 117 _ W fun r w' => (∃ x, r = .returned x) /\ TP G W p q { ({ s with ends := false } : PS).beg 1 with st := 0 } (L ++ closeE s.st 0 ++ [evX 2 0 c]) w'
   by_cases h24 : c = 24
   ·have g24 : (c == 24) = true := by simp [h24]
    clear h24 hx
    go_enter Tryz.func117, Tryz.ntmps117
    go_wp2_with fail
    refine (close_any G V p q _ L 0 HR1.out (AL.left hn)).mono ?_
    rintro r w2 ⟨⟨x, rfl⟩, ht⟩
    obtain ⟨G2, hR2, hs2, hk2⟩ := ht
    have H2 := Lib.hid (And.intro hR2 (And.intro hs2 hk2))
    clear hR2 hs2 hk2
    go_wp2_with fail
    refine (begin_any' G2 w2 p q _ _ 1 (by omega) H2.out.1).mono ?_
    rintro r w3 ⟨⟨x, rfl⟩, ht⟩
    obtain ⟨G3, hR3, hs3, hk3⟩ := ht
    have H3 := Lib.hid (And.intro hR3 (And.intro hs3 hk3))
    obtain ⟨⟨c0, f0⟩, hR4, hk4⟩ := rr_st hR3 0 (by omega)
    obtain ⟨U, hU⟩ : ∃ V, w3.setCell ⟨p, 0, none⟩ (.int .i64 0) = V := ⟨_, rfl⟩
    rw [hU] at hR4 hk4
    obtain ⟨-, c11⟩ := rr_cells hR4
    unfold sayV at c11
    have H4 := Lib.hid (And.intro hR4 hk4)
    clear hR3 hs3 hk3 hR4 hk4
    go_wp2_with fail
    refine (sayX G3 U p q _ _ H4.out.1 2 0 c (AL.right hn)).mono ?_
    rintro r w5 ⟨⟨x, rfl⟩, ht⟩
    have HT := Lib.hid (TP.then (fun _ h => .inl h) HK1.out (TP.then H2.out.2.1 H2.out.2.2 (TP.then H3.out.2.1 H3.out.2.2 (TP.then (fun _ h => .inl h) H4.out.2 ht))))
    clear ht
    go_wp2
    go_end0
    exact ⟨⟨_, rfl⟩, HT.out⟩
   ·have g24 : (c == 24) = false := by simp [h24]
    have g26 : (c == 26) = true := by simp; omega
    clear h24 hx
    go_enter Tryz.func117, Tryz.ntmps117
    go_wp2_with fail
    refine (close_any G V p q _ L 0 HR1.out (AL.left hn)).mono ?_
    rintro r w2 ⟨⟨x, rfl⟩, ht⟩
    obtain ⟨G2, hR2, hs2, hk2⟩ := ht
    have H2 := Lib.hid (And.intro hR2 (And.intro hs2 hk2))
    clear hR2 hs2 hk2
    go_wp2_with fail
    refine (begin_any' G2 w2 p q _ _ 1 (by omega) H2.out.1).mono ?_
    rintro r w3 ⟨⟨x, rfl⟩, ht⟩
    obtain ⟨G3, hR3, hs3, hk3⟩ := ht
    have H3 := Lib.hid (And.intro hR3 (And.intro hs3 hk3))
    obtain ⟨⟨c0, f0⟩, hR4, hk4⟩ := rr_st hR3 0 (by omega)
    obtain ⟨U, hU⟩ : ∃ V, w3.setCell ⟨p, 0, none⟩ (.int .i64 0) = V := ⟨_, rfl⟩
    rw [hU] at hR4 hk4
    obtain ⟨-, c11⟩ := rr_cells hR4
    unfold sayV at c11
    have H4 := Lib.hid (And.intro hR4 hk4)
    clear hR3 hs3 hk3 hR4 hk4
    go_wp2_with fail
    refine (sayX G3 U p q _ _ H4.out.1 2 0 c (AL.right hn)).mono ?_
    rintro r w5 ⟨⟨x, rfl⟩, ht⟩
    have HT := Lib.hid (TP.then (fun _ h => .inl h) HK1.out (TP.then H2.out.2.1 H2.out.2.2 (TP.then H3.out.2.1 H3.out.2.2 (TP.then (fun _ h => .inl h) H4.out.2 ht))))
    clear ht
    go_wp2
    go_end0
    exact ⟨⟨_, rfl⟩, HT.out⟩
  have g24 : (c == 24) = false := by simp; omega
  have g26 : (c == 26) = false := by simp; omega
  have e : endedS s c = ((escS (({ s with ends := false } : PS).beg 1) c).1, closeE s.st 0 ++ (escS (({ s with ends := false } : PS).beg 1) c).2) := by unfold endedS; rw [if_neg h92, if_neg h27, if_neg hx]
  rw [e] at hn ⊢
  clear e h92 h27 hx
  rw [<- List.append_assoc]
  show Calls Tryz.prog 117 _ W fun r w' => (∃ x, r = .returned x) /\ TP G W p q (escS (({ s with ends := false } : PS).beg 1) c).1 (L ++ closeE s.st 0 ++ (escS (({ s with ends := false } : PS).beg 1) c).2) w'
  go_enter Tryz.func117, Tryz.ntmps117
  go_wp2_with fail
  refine (close_any G V p q _ L 0 HR1.out (AL.left hn)).mono ?_
  rintro r w2 ⟨⟨x, rfl⟩, ht⟩
  obtain ⟨G2, hR2, hs2, hk2⟩ := ht
  have H2 := Lib.hid (And.intro hR2 (And.intro hs2 hk2))
  clear hR2 hs2 hk2
  go_wp2_with fail
  refine (begin_any' G2 w2 p q _ _ 1 (by omega) H2.out.1).mono ?_
  rintro r w3 ⟨⟨x, rfl⟩, ht⟩
  obtain ⟨G3, hR3, hs3, hk3⟩ := ht
  have H3 := Lib.hid (And.intro hR3 (And.intro hs3 hk3))
  clear hR3 hs3 hk3
  go_wp2_with fail
  refine (esc_any G3 w3 p q _ _ c hc0 hc1 H3.out.1 (AL.right hn)).mono ?_
  rintro r w5 ⟨⟨x, rfl⟩, ht⟩
  have HT := Lib.hid (TP.then (fun _ h => .inl h) HK1.out (TP.then H2.out.2.1 H2.out.2.2 (TP.then H3.out.2.1 H3.out.2.2 (ht))))
  clear ht
  go_wp2
  go_end0
  exact ⟨⟨_, rfl⟩, HT.out⟩
set_option maxRecDepth 100000 in
set_option maxHeartbeats 8000000 in
theorem pplain_any (G : Nat -> Prop) (W : World) (p : Nat) (q : Lis) (s : PS) (L : List Ev) (c : Int) (hc0 : 0 <= c) (hc1 : c < 256) (hR : RR G W p q s L) (hn : AL q L ((plainS s c).2)) :
  Calls Tryz.prog 118 #[.pointer (some ⟨p, 0, none⟩), .int .u8 c] W fun r w' => (∃ x, r = .returned x) /\ TP G W p q (plainS s c).1 (L ++ (plainS s c).2) w' := by
 have HR := Lib.hid hR
 obtain ⟨c0, -⟩ := rr_cells hR
 have hst := (rr_ok hR).st
 clear hR
 by_cases h0 : s.st = 0
 ·have g1 : (s.st == 1) = false := by simp [h0]
  have g2 : (s.st == 2) = false := by simp [h0]
  have g3 : (s.st == 3) = false := by simp [h0]
  have g4 : (s.st == 4) = false := by simp [h0]
  have g5 : (s.st == 5) = false := by simp [h0]
  have g6 : (s.st == 6) = false := by simp [h0]
  have g7 : (s.st == 7) = false := by simp [h0]
  have e : plainS s c = groundS s c := by unfold plainS; rw [if_pos h0]
  rw [e] at hn ⊢
  clear e hst h0
  go_enter Tryz.func118, Tryz.ntmps118
  go_wp2_with fail
  refine (ground_any G W p q s L c hc0 hc1 HR.out hn).mono ?_
  rintro r w2 ⟨⟨x, rfl⟩, ht⟩
  have HT := Lib.hid ht
  clear ht
  go_wp2
  go_end0
  exact ⟨⟨_, rfl⟩, HT.out⟩
 by_cases h1 : s.st = 1
 ·have g1 : (s.st == 1) = true := by simp [h1]
  have g2 : (s.st == 2) = false := by simp [h1]
  have g3 : (s.st == 3) = false := by simp [h1]
  have g4 : (s.st == 4) = false := by simp [h1]
  have g5 : (s.st == 5) = false := by simp [h1]
  have g6 : (s.st == 6) = false := by simp [h1]
  have g7 : (s.st == 7) = false := by simp [h1]
  have e : plainS s c = escS s c := by unfold plainS; rw [if_neg (by omega), if_pos h1]
  rw [e] at hn ⊢
  clear e hst h0 h1
  go_enter Tryz.func118, Tryz.ntmps118
  go_wp2_with fail
  refine (esc_any G W p q s L c hc0 hc1 HR.out hn).mono ?_
  rintro r w2 ⟨⟨x, rfl⟩, ht⟩
  have HT := Lib.hid ht
  clear ht
  go_wp2
  go_end0
  exact ⟨⟨_, rfl⟩, HT.out⟩
 by_cases h2 : s.st = 2
 ·have g1 : (s.st == 1) = false := by simp [h2]
  have g2 : (s.st == 2) = true := by simp [h2]
  have g3 : (s.st == 3) = false := by simp [h2]
  have g4 : (s.st == 4) = false := by simp [h2]
  have g5 : (s.st == 5) = false := by simp [h2]
  have g6 : (s.st == 6) = false := by simp [h2]
  have g7 : (s.st == 7) = false := by simp [h2]
  have e : plainS s c = headS s c := by unfold plainS; rw [if_neg (by omega), if_neg (by omega), if_pos (by omega)]
  rw [e] at hn ⊢
  clear e hst h0 h1 h2
  go_enter Tryz.func118, Tryz.ntmps118
  go_wp2_with fail
  refine (head_any G W p q s L c hc0 hc1 HR.out hn).mono ?_
  rintro r w2 ⟨⟨x, rfl⟩, ht⟩
  have HT := Lib.hid ht
  clear ht
  go_wp2
  go_end0
  exact ⟨⟨_, rfl⟩, HT.out⟩
 by_cases h3 : s.st = 3
 ·have g1 : (s.st == 1) = false := by simp [h3]
  have g2 : (s.st == 2) = false := by simp [h3]
  have g3 : (s.st == 3) = true := by simp [h3]
  have g4 : (s.st == 4) = false := by simp [h3]
  have g5 : (s.st == 5) = false := by simp [h3]
  have g6 : (s.st == 6) = false := by simp [h3]
  have g7 : (s.st == 7) = false := by simp [h3]
  have e : plainS s c = headS s c := by unfold plainS; rw [if_neg (by omega), if_neg (by omega), if_pos (by omega)]
  rw [e] at hn ⊢
  clear e hst h0 h1 h2 h3
  go_enter Tryz.func118, Tryz.ntmps118
  go_wp2_with fail
  refine (head_any G W p q s L c hc0 hc1 HR.out hn).mono ?_
  rintro r w2 ⟨⟨x, rfl⟩, ht⟩
  have HT := Lib.hid ht
  clear ht
  go_wp2
  go_end0
  exact ⟨⟨_, rfl⟩, HT.out⟩
 by_cases h4 : s.st = 4
 ·have g1 : (s.st == 1) = false := by simp [h4]
  have g2 : (s.st == 2) = false := by simp [h4]
  have g3 : (s.st == 3) = false := by simp [h4]
  have g4 : (s.st == 4) = true := by simp [h4]
  have g5 : (s.st == 5) = false := by simp [h4]
  have g6 : (s.st == 6) = false := by simp [h4]
  have g7 : (s.st == 7) = false := by simp [h4]
  have e : plainS s c = textS s c := by unfold plainS; rw [if_neg (by omega), if_neg (by omega), if_neg (by omega), if_pos h4]
  rw [e] at hn ⊢
  clear e hst h0 h1 h2 h3 h4
  go_enter Tryz.func118, Tryz.ntmps118
  go_wp2_with fail
  refine (text_any G W p q s L c HR.out hn).mono ?_
  rintro r w2 ⟨⟨x, rfl⟩, ht⟩
  have HT := Lib.hid ht
  clear ht
  go_wp2
  go_end0
  exact ⟨⟨_, rfl⟩, HT.out⟩
 by_cases h5 : s.st = 5
 ·have g1 : (s.st == 1) = false := by simp [h5]
  have g2 : (s.st == 2) = false := by simp [h5]
  have g3 : (s.st == 3) = false := by simp [h5]
  have g4 : (s.st == 4) = false := by simp [h5]
  have g5 : (s.st == 5) = true := by simp [h5]
  have g6 : (s.st == 6) = false := by simp [h5]
  have g7 : (s.st == 7) = false := by simp [h5]
  have e : plainS s c = (s, []) := by unfold plainS; rw [if_neg (by omega), if_neg (by omega), if_neg (by omega), if_neg (by omega)]
  rw [e] at hn ⊢
  clear e hst h0 h1 h2 h3 h4 h5
  show Calls Tryz.prog 118 _ W fun r w' => (∃ x, r = .returned x) /\ TP G W p q s (L ++ []) w'
  go_enter Tryz.func118, Tryz.ntmps118
  go_wp2
  exact bodyPost_ret (results_none rfl _ _ _) rfl ⟨⟨_, rfl⟩, by simpa only [List.append_nil] using TP.refl HR.out⟩
 by_cases h6 : s.st = 6
 ·have g1 : (s.st == 1) = false := by simp [h6]
  have g2 : (s.st == 2) = false := by simp [h6]
  have g3 : (s.st == 3) = false := by simp [h6]
  have g4 : (s.st == 4) = false := by simp [h6]
  have g5 : (s.st == 5) = false := by simp [h6]
  have g6 : (s.st == 6) = true := by simp [h6]
  have g7 : (s.st == 7) = false := by simp [h6]
  have e : plainS s c = (s, []) := by unfold plainS; rw [if_neg (by omega), if_neg (by omega), if_neg (by omega), if_neg (by omega)]
  rw [e] at hn ⊢
  clear e hst h0 h1 h2 h3 h4 h5 h6
  show Calls Tryz.prog 118 _ W fun r w' => (∃ x, r = .returned x) /\ TP G W p q s (L ++ []) w'
  go_enter Tryz.func118, Tryz.ntmps118
  go_wp2
  exact bodyPost_ret (results_none rfl _ _ _) rfl ⟨⟨_, rfl⟩, by simpa only [List.append_nil] using TP.refl HR.out⟩
 have h7 : s.st = 7 := by omega
 ·have g1 : (s.st == 1) = false := by simp [h7]
  have g2 : (s.st == 2) = false := by simp [h7]
  have g3 : (s.st == 3) = false := by simp [h7]
  have g4 : (s.st == 4) = false := by simp [h7]
  have g5 : (s.st == 5) = false := by simp [h7]
  have g6 : (s.st == 6) = false := by simp [h7]
  have g7 : (s.st == 7) = true := by simp [h7]
  have e : plainS s c = (s, []) := by unfold plainS; rw [if_neg (by omega), if_neg (by omega), if_neg (by omega), if_neg (by omega)]
  rw [e] at hn ⊢
  clear e hst h0 h1 h2 h3 h4 h5 h6 h7
  show Calls Tryz.prog 118 _ W fun r w' => (∃ x, r = .returned x) /\ TP G W p q s (L ++ []) w'
  go_enter Tryz.func118, Tryz.ntmps118
  go_wp2
  exact bodyPost_ret (results_none rfl _ _ _) rfl ⟨⟨_, rfl⟩, by simpa only [List.append_nil] using TP.refl HR.out⟩
set_option maxRecDepth 100000 in
set_option maxHeartbeats 8000000 in
theorem step_any (G : Nat -> Prop) (W : World) (p : Nat) (q : Lis) (s : PS) (L : List Ev) (c : Int) (hc0 : 0 <= c) (hc1 : c < 256) (hR : RR G W p q s L) (hn : AL q L ((stepS s c).2)) :
  Calls Tryz.prog 73 #[.pointer (some ⟨p, 0, none⟩), .int .u8 c] W fun r w' => (∃ x, r = .returned x) /\ TP G W p q (stepS s c).1 (L ++ (stepS s c).2) w' := by
 have HR := Lib.hid hR
 obtain ⟨d, vi, vp, vd, vo, hc, hg⟩ := hR
 obtain ⟨⟨c0, c0f⟩, ⟨c1, c1f⟩, -, -, -, -, -, -, -, -, -, -⟩ := pcells hc.pb
 have hst := hc.ok.st
 clear hc hg
 cases hen : s.ends with
 | true =>
  have e : stepS s c = endedS s c := by unfold stepS; rw [if_pos hen]
  rw [hen] at c1
  rw [e] at hn ⊢
  clear e hen hst
  go_enter Tryz.func73, Tryz.ntmps73
  go_wp2_with fail
  refine (ended_any G W p q s L c hc0 hc1 HR.out hn).mono ?_
  rintro r w2 ⟨⟨x, rfl⟩, ht⟩
  have HT := Lib.hid ht
  clear ht
  go_wp2
  exact bodyPost_ret (results_none rfl _ _ _) rfl ⟨⟨_, rfl⟩, HT.out⟩
 | false =>
 rw [hen] at c1
 have hef : ¬ s.ends = true := by rw [hen]; simp
 by_cases hx : c ≠ 24 /\ c ≠ 26 /\ c ≠ 27
 ·have e : stepS s c = plainS s c := by unfold stepS; rw [if_neg hef, if_pos hx]
  have g24 : (c != 24) = true := by simp [hx.1]
  have g26 : (c != 26) = true := by simp [hx.2.1]
  have g27 : (c != 27) = true := by simp [hx.2.2]
  rw [e] at hn ⊢
  clear e hen hef hx hst
  go_enter Tryz.func73, Tryz.ntmps73
  go_wp2_with fail
  refine (pplain_any G W p q s L c hc0 hc1 HR.out hn).mono ?_
  rintro r w2 ⟨⟨x, rfl⟩, ht⟩
  have HT := Lib.hid ht
  clear ht
  go_wp2
  exact bodyPost_ret (results_none rfl _ _ _) rfl ⟨⟨_, rfl⟩, HT.out⟩
 by_cases hz : s.st = 0
 ·have gz : (s.st == 0) = true := by simp [hz]
  have hs4 : ¬ 4 <= s.st := by omega
  have gs4 : decide (4 <= s.st) = false := decide_eq_false hs4
  by_cases hv : c = 24
  ·skip
   have g24 : (c != 24) = false := by simp [hv]
   have g27 : (c != 27) = true := by simp [hv]
   have e : stepS s c = ({ ({ s with ch := s0 } : PS) with st := 0 }, printE (fin s.ch) ++ (closeE s.st 0 ++ [evX 2 0 c])) := by unfold stepS; rw [if_neg hef, if_neg hx]; simp only [if_pos hz, if_pos (show c ≠ 27 by omega)]
   rw [e] at hn ⊢
   clear e hen hef hx hst hv hz hs4
   show Calls Tryz.prog 73 _ W fun r w' => (∃ x, r = .returned x) /\ TP G W p q ({ ({ s with ch := s0 } : PS) with st := 0 }) (L ++ (printE (fin s.ch) ++ (closeE s.st 0 ++ [evX 2 0 c]))) w'
   obtain ⟨dd, c2, hcall⟩ := fin_rr G W p q s L HR.out
   have HC := Lib.hid hcall
   clear hcall
   go_enter Tryz.func73, Tryz.ntmps73
   go_wp2_with fail
   refine HC.out.mono ?_
   rintro r w2 ⟨a, n, cap, rfl, hR2, hs2, hn2, hb2, hk2⟩
   have HP := Lib.hid (print_any G w2 p q _ L a n cap (fin s.ch) hR2 hs2 hb2 (by omega) (AL.left hn))
   have HKA := Lib.hid hk2
   have hxl := hs2.1
   clear hR2 hs2 hn2 hb2 hk2 hxl
   go_wp2_with fail
   refine HP.out.mono ?_
   rintro r w3 ⟨⟨x, rfl⟩, ht3⟩
   obtain ⟨GA, hRA, hsA, hkA⟩ := TP.then (fun _ h => .inl h) HKA.out ht3
   clear ht3
   have HA := Lib.hid (And.intro hRA (And.intro hsA hkA))
   clear hRA hsA hkA
   go_wp2_with fail
   refine (close_any GA w3 p q _ _ 0 HA.out.1 (AL.left (AL.right hn))).mono ?_
   rintro r w4 ⟨⟨x, rfl⟩, ht⟩
   obtain ⟨G4, hR4, hs4', hk4⟩ := ht
   obtain ⟨⟨c0', f0'⟩, hR5, hk5⟩ := rr_st hR4 0 (by omega)
   obtain ⟨U, hU⟩ : ∃ V, w4.setCell ⟨p, 0, none⟩ (.int .i64 0) = V := ⟨_, rfl⟩
   rw [hU] at hR5 hk5
   obtain ⟨-, c11⟩ := rr_cells hR5
   unfold sayV at c11
   have H5 := Lib.hid (And.intro hR5 (And.intro hs4' (And.intro hk4 hk5)))
   clear hR4 hs4' hk4 hR5 hk5
   go_wp2_with fail
   refine (sayX G4 U p q _ _ H5.out.1 2 0 c (AL.right (AL.right hn))).mono ?_
   rintro r w6 ⟨⟨x, rfl⟩, ht⟩
   have HT := Lib.hid (TP.then HA.out.2.1 HA.out.2.2 (TP.then H5.out.2.1 H5.out.2.2.1 (TP.then (fun _ h => .inl h) H5.out.2.2.2 ht)))
   clear ht
   go_wp2
   go_end0
   exact ⟨⟨_, rfl⟩, by have h := HT.out; rw [List.append_assoc, List.append_assoc] at h; exact h⟩
  by_cases hv : c = 26
  ·skip
   have g24 : (c != 24) = true := by simp [hv]
   have g26 : (c != 26) = false := by simp [hv]
   have g27 : (c != 27) = true := by simp [hv]
   have e : stepS s c = ({ ({ s with ch := s0 } : PS) with st := 0 }, printE (fin s.ch) ++ (closeE s.st 0 ++ [evX 2 0 c])) := by unfold stepS; rw [if_neg hef, if_neg hx]; simp only [if_pos hz, if_pos (show c ≠ 27 by omega)]
   rw [e] at hn ⊢
   clear e hen hef hx hst hv hz hs4
   show Calls Tryz.prog 73 _ W fun r w' => (∃ x, r = .returned x) /\ TP G W p q ({ ({ s with ch := s0 } : PS) with st := 0 }) (L ++ (printE (fin s.ch) ++ (closeE s.st 0 ++ [evX 2 0 c]))) w'
   obtain ⟨dd, c2, hcall⟩ := fin_rr G W p q s L HR.out
   have HC := Lib.hid hcall
   clear hcall
   go_enter Tryz.func73, Tryz.ntmps73
   go_wp2_with fail
   refine HC.out.mono ?_
   rintro r w2 ⟨a, n, cap, rfl, hR2, hs2, hn2, hb2, hk2⟩
   have HP := Lib.hid (print_any G w2 p q _ L a n cap (fin s.ch) hR2 hs2 hb2 (by omega) (AL.left hn))
   have HKA := Lib.hid hk2
   have hxl := hs2.1
   clear hR2 hs2 hn2 hb2 hk2 hxl
   go_wp2_with fail
   refine HP.out.mono ?_
   rintro r w3 ⟨⟨x, rfl⟩, ht3⟩
   obtain ⟨GA, hRA, hsA, hkA⟩ := TP.then (fun _ h => .inl h) HKA.out ht3
   clear ht3
   have HA := Lib.hid (And.intro hRA (And.intro hsA hkA))
   clear hRA hsA hkA
   go_wp2_with fail
   refine (close_any GA w3 p q _ _ 0 HA.out.1 (AL.left (AL.right hn))).mono ?_
   rintro r w4 ⟨⟨x, rfl⟩, ht⟩
   obtain ⟨G4, hR4, hs4', hk4⟩ := ht
   obtain ⟨⟨c0', f0'⟩, hR5, hk5⟩ := rr_st hR4 0 (by omega)
   obtain ⟨U, hU⟩ : ∃ V, w4.setCell ⟨p, 0, none⟩ (.int .i64 0) = V := ⟨_, rfl⟩
   rw [hU] at hR5 hk5
   obtain ⟨-, c11⟩ := rr_cells hR5
   unfold sayV at c11
   have H5 := Lib.hid (And.intro hR5 (And.intro hs4' (And.intro hk4 hk5)))
   clear hR4 hs4' hk4 hR5 hk5
   go_wp2_with fail
   refine (sayX G4 U p q _ _ H5.out.1 2 0 c (AL.right (AL.right hn))).mono ?_
   rintro r w6 ⟨⟨x, rfl⟩, ht⟩
   have HT := Lib.hid (TP.then HA.out.2.1 HA.out.2.2 (TP.then H5.out.2.1 H5.out.2.2.1 (TP.then (fun _ h => .inl h) H5.out.2.2.2 ht)))
   clear ht
   go_wp2
   go_end0
   exact ⟨⟨_, rfl⟩, by have h := HT.out; rw [List.append_assoc, List.append_assoc] at h; exact h⟩
  have hv : c = 27 := by omega
  have g24 : (c != 24) = true := by simp [hv]
  have g26 : (c != 26) = true := by simp [hv]
  have g27 : (c != 27) = false := by simp [hv]
  have e : stepS s c = (({ s with ch := s0 } : PS).beg 1, printE (fin s.ch)) := by unfold stepS; rw [if_neg hef, if_neg hx]; simp only [if_pos hz, if_neg (show ¬ c ≠ 27 by omega), if_neg hs4]
  rw [e] at hn ⊢
  clear e hen hef hx hst hv hz hs4
  show Calls Tryz.prog 73 _ W fun r w' => (∃ x, r = .returned x) /\ TP G W p q (({ s with ch := s0 } : PS).beg 1) (L ++ (printE (fin s.ch))) w'
  obtain ⟨dd, c2, hcall⟩ := fin_rr G W p q s L HR.out
  have HC := Lib.hid hcall
  clear hcall
  go_enter Tryz.func73, Tryz.ntmps73
  go_wp2_with fail
  refine HC.out.mono ?_
  rintro r w2 ⟨a, n, cap, rfl, hR2, hs2, hn2, hb2, hk2⟩
  have HP := Lib.hid (print_any G w2 p q _ L a n cap (fin s.ch) hR2 hs2 hb2 (by omega) hn)
  have HKA := Lib.hid hk2
  have hxl := hs2.1
  clear hR2 hs2 hn2 hb2 hk2 hxl
  go_wp2_with fail
  refine HP.out.mono ?_
  rintro r w3 ⟨⟨x, rfl⟩, ht3⟩
  obtain ⟨GA, hRA, hsA, hkA⟩ := TP.then (fun _ h => .inl h) HKA.out ht3
  clear ht3
  have HA := Lib.hid (And.intro hRA (And.intro hsA hkA))
  obtain ⟨s0c, -⟩ := rr_cells hRA
  try simp only at s0c
  clear hRA hsA hkA
  go_wp2_with fail
  refine (begin_any' GA w3 p q _ _ 1 (by omega) HA.out.1).mono ?_
  rintro r w4 ⟨⟨x, rfl⟩, ht⟩
  have HT := Lib.hid (TP.then HA.out.2.1 HA.out.2.2 ht)
  clear ht
  go_wp2
  go_end0
  exact ⟨⟨_, rfl⟩, by first | exact HT.out | simpa only [List.append_nil] using HT.out⟩
 ·have gz : (s.st == 0) = false := by simp [hz]
  by_cases hs4 : 4 <= s.st
  ·have gs4 : decide (4 <= s.st) = true := decide_eq_true hs4
   by_cases hv : c = 24
   ·skip
    have g24 : (c != 24) = false := by simp [hv]
    have g27 : (c != 27) = true := by simp [hv]
    have e : stepS s c = ({ (s : PS) with st := 0 }, ([] : List Ev) ++ (closeE s.st 0 ++ [evX 2 0 c])) := by unfold stepS; rw [if_neg hef, if_neg hx]; simp only [if_neg hz, if_pos (show c ≠ 27 by omega)]
    rw [e] at hn ⊢
    clear e hen hef hx hst hv hz hs4
    show Calls Tryz.prog 73 _ W fun r w' => (∃ x, r = .returned x) /\ TP G W p q ({ (s : PS) with st := 0 }) (L ++ (([] : List Ev) ++ (closeE s.st 0 ++ [evX 2 0 c]))) w'
    obtain ⟨GA, hRA, hsA, hkA⟩ := TP.refl HR.out
    rw [<- List.append_nil L] at hRA
    have HA := Lib.hid (And.intro hRA (And.intro hsA hkA))
    clear hRA hsA hkA
    go_enter Tryz.func73, Tryz.ntmps73
    go_wp2_with fail
    refine (close_any GA W p q _ _ 0 HA.out.1 (AL.left (AL.right hn))).mono ?_
    rintro r w4 ⟨⟨x, rfl⟩, ht⟩
    obtain ⟨G4, hR4, hs4', hk4⟩ := ht
    obtain ⟨⟨c0', f0'⟩, hR5, hk5⟩ := rr_st hR4 0 (by omega)
    obtain ⟨U, hU⟩ : ∃ V, w4.setCell ⟨p, 0, none⟩ (.int .i64 0) = V := ⟨_, rfl⟩
    rw [hU] at hR5 hk5
    obtain ⟨-, c11⟩ := rr_cells hR5
    unfold sayV at c11
    have H5 := Lib.hid (And.intro hR5 (And.intro hs4' (And.intro hk4 hk5)))
    clear hR4 hs4' hk4 hR5 hk5
    go_wp2_with fail
    refine (sayX G4 U p q _ _ H5.out.1 2 0 c (AL.right (AL.right hn))).mono ?_
    rintro r w6 ⟨⟨x, rfl⟩, ht⟩
    have HT := Lib.hid (TP.then HA.out.2.1 HA.out.2.2 (TP.then H5.out.2.1 H5.out.2.2.1 (TP.then (fun _ h => .inl h) H5.out.2.2.2 ht)))
    clear ht
    go_wp2
    go_end0
    exact ⟨⟨_, rfl⟩, by have h := HT.out; rw [List.append_assoc, List.append_assoc] at h; exact h⟩
   by_cases hv : c = 26
   ·skip
    have g24 : (c != 24) = true := by simp [hv]
    have g26 : (c != 26) = false := by simp [hv]
    have g27 : (c != 27) = true := by simp [hv]
    have e : stepS s c = ({ (s : PS) with st := 0 }, ([] : List Ev) ++ (closeE s.st 0 ++ [evX 2 0 c])) := by unfold stepS; rw [if_neg hef, if_neg hx]; simp only [if_neg hz, if_pos (show c ≠ 27 by omega)]
    rw [e] at hn ⊢
    clear e hen hef hx hst hv hz hs4
    show Calls Tryz.prog 73 _ W fun r w' => (∃ x, r = .returned x) /\ TP G W p q ({ (s : PS) with st := 0 }) (L ++ (([] : List Ev) ++ (closeE s.st 0 ++ [evX 2 0 c]))) w'
    obtain ⟨GA, hRA, hsA, hkA⟩ := TP.refl HR.out
    rw [<- List.append_nil L] at hRA
    have HA := Lib.hid (And.intro hRA (And.intro hsA hkA))
    clear hRA hsA hkA
    go_enter Tryz.func73, Tryz.ntmps73
    go_wp2_with fail
    refine (close_any GA W p q _ _ 0 HA.out.1 (AL.left (AL.right hn))).mono ?_
    rintro r w4 ⟨⟨x, rfl⟩, ht⟩
    obtain ⟨G4, hR4, hs4', hk4⟩ := ht
    obtain ⟨⟨c0', f0'⟩, hR5, hk5⟩ := rr_st hR4 0 (by omega)
    obtain ⟨U, hU⟩ : ∃ V, w4.setCell ⟨p, 0, none⟩ (.int .i64 0) = V := ⟨_, rfl⟩
    rw [hU] at hR5 hk5
    obtain ⟨-, c11⟩ := rr_cells hR5
    unfold sayV at c11
    have H5 := Lib.hid (And.intro hR5 (And.intro hs4' (And.intro hk4 hk5)))
    clear hR4 hs4' hk4 hR5 hk5
    go_wp2_with fail
    refine (sayX G4 U p q _ _ H5.out.1 2 0 c (AL.right (AL.right hn))).mono ?_
    rintro r w6 ⟨⟨x, rfl⟩, ht⟩
    have HT := Lib.hid (TP.then HA.out.2.1 HA.out.2.2 (TP.then H5.out.2.1 H5.out.2.2.1 (TP.then (fun _ h => .inl h) H5.out.2.2.2 ht)))
    clear ht
    go_wp2
    go_end0
    exact ⟨⟨_, rfl⟩, by have h := HT.out; rw [List.append_assoc, List.append_assoc] at h; exact h⟩
   have hv : c = 27 := by omega
   have g24 : (c != 24) = true := by simp [hv]
   have g26 : (c != 26) = true := by simp [hv]
   have g27 : (c != 27) = false := by simp [hv]
   have e : stepS s c = ({ (s : PS) with ends := true }, ([] : List Ev)) := by unfold stepS; rw [if_neg hef, if_neg hx]; simp only [if_neg hz, if_neg (show ¬ c ≠ 27 by omega), if_pos hs4]
   rw [e] at hn ⊢
   clear e hen hef hx hst hv hz hs4
   show Calls Tryz.prog 73 _ W fun r w' => (∃ x, r = .returned x) /\ TP G W p q ({ (s : PS) with ends := true }) (L ++ (([] : List Ev))) w'
   obtain ⟨GA, hRA, hsA, hkA⟩ := TP.refl HR.out
   rw [<- List.append_nil L] at hRA
   have HA := Lib.hid (And.intro hRA (And.intro hsA hkA))
   obtain ⟨⟨e1, e1f⟩, hR5, hk5⟩ := rr_ends hRA true
   obtain ⟨s0c, -⟩ := rr_cells hRA
   have HT := Lib.hid (TP.then hsA hkA (tp_rr hR5 (fun _ h => .inl h) hk5))
   clear hRA hsA hkA hR5 hk5
   go_enter Tryz.func73, Tryz.ntmps73
   go_wp2
   go_end0
   exact ⟨⟨_, rfl⟩, by first | exact HT.out | simpa only [List.append_nil] using HT.out⟩
  ·have gs4 : decide (4 <= s.st) = false := decide_eq_false hs4
   by_cases hv : c = 24
   ·skip
    have g24 : (c != 24) = false := by simp [hv]
    have g27 : (c != 27) = true := by simp [hv]
    have e : stepS s c = ({ (s : PS) with st := 0 }, ([] : List Ev) ++ (closeE s.st 0 ++ [evX 2 0 c])) := by unfold stepS; rw [if_neg hef, if_neg hx]; simp only [if_neg hz, if_pos (show c ≠ 27 by omega)]
    rw [e] at hn ⊢
    clear e hen hef hx hst hv hz hs4
    show Calls Tryz.prog 73 _ W fun r w' => (∃ x, r = .returned x) /\ TP G W p q ({ (s : PS) with st := 0 }) (L ++ (([] : List Ev) ++ (closeE s.st 0 ++ [evX 2 0 c]))) w'
    obtain ⟨GA, hRA, hsA, hkA⟩ := TP.refl HR.out
    rw [<- List.append_nil L] at hRA
    have HA := Lib.hid (And.intro hRA (And.intro hsA hkA))
    clear hRA hsA hkA
    go_enter Tryz.func73, Tryz.ntmps73
    go_wp2_with fail
    refine (close_any GA W p q _ _ 0 HA.out.1 (AL.left (AL.right hn))).mono ?_
    rintro r w4 ⟨⟨x, rfl⟩, ht⟩
    obtain ⟨G4, hR4, hs4', hk4⟩ := ht
    obtain ⟨⟨c0', f0'⟩, hR5, hk5⟩ := rr_st hR4 0 (by omega)
    obtain ⟨U, hU⟩ : ∃ V, w4.setCell ⟨p, 0, none⟩ (.int .i64 0) = V := ⟨_, rfl⟩
    rw [hU] at hR5 hk5
    obtain ⟨-, c11⟩ := rr_cells hR5
    unfold sayV at c11
    have H5 := Lib.hid (And.intro hR5 (And.intro hs4' (And.intro hk4 hk5)))
    clear hR4 hs4' hk4 hR5 hk5
    go_wp2_with fail
    refine (sayX G4 U p q _ _ H5.out.1 2 0 c (AL.right (AL.right hn))).mono ?_
    rintro r w6 ⟨⟨x, rfl⟩, ht⟩
    have HT := Lib.hid (TP.then HA.out.2.1 HA.out.2.2 (TP.then H5.out.2.1 H5.out.2.2.1 (TP.then (fun _ h => .inl h) H5.out.2.2.2 ht)))
    clear ht
    go_wp2
    go_end0
    exact ⟨⟨_, rfl⟩, by have h := HT.out; rw [List.append_assoc, List.append_assoc] at h; exact h⟩
   by_cases hv : c = 26
   ·skip
    have g24 : (c != 24) = true := by simp [hv]
    have g26 : (c != 26) = false := by simp [hv]
    have g27 : (c != 27) = true := by simp [hv]
    have e : stepS s c = ({ (s : PS) with st := 0 }, ([] : List Ev) ++ (closeE s.st 0 ++ [evX 2 0 c])) := by unfold stepS; rw [if_neg hef, if_neg hx]; simp only [if_neg hz, if_pos (show c ≠ 27 by omega)]
    rw [e] at hn ⊢
    clear e hen hef hx hst hv hz hs4
    show Calls Tryz.prog 73 _ W fun r w' => (∃ x, r = .returned x) /\ TP G W p q ({ (s : PS) with st := 0 }) (L ++ (([] : List Ev) ++ (closeE s.st 0 ++ [evX 2 0 c]))) w'
    obtain ⟨GA, hRA, hsA, hkA⟩ := TP.refl HR.out
    rw [<- List.append_nil L] at hRA
    have HA := Lib.hid (And.intro hRA (And.intro hsA hkA))
    clear hRA hsA hkA
    go_enter Tryz.func73, Tryz.ntmps73
    go_wp2_with fail
    refine (close_any GA W p q _ _ 0 HA.out.1 (AL.left (AL.right hn))).mono ?_
    rintro r w4 ⟨⟨x, rfl⟩, ht⟩
    obtain ⟨G4, hR4, hs4', hk4⟩ := ht
    obtain ⟨⟨c0', f0'⟩, hR5, hk5⟩ := rr_st hR4 0 (by omega)
    obtain ⟨U, hU⟩ : ∃ V, w4.setCell ⟨p, 0, none⟩ (.int .i64 0) = V := ⟨_, rfl⟩
    rw [hU] at hR5 hk5
    obtain ⟨-, c11⟩ := rr_cells hR5
    unfold sayV at c11
    have H5 := Lib.hid (And.intro hR5 (And.intro hs4' (And.intro hk4 hk5)))
    clear hR4 hs4' hk4 hR5 hk5
    go_wp2_with fail
    refine (sayX G4 U p q _ _ H5.out.1 2 0 c (AL.right (AL.right hn))).mono ?_
    rintro r w6 ⟨⟨x, rfl⟩, ht⟩
    have HT := Lib.hid (TP.then HA.out.2.1 HA.out.2.2 (TP.then H5.out.2.1 H5.out.2.2.1 (TP.then (fun _ h => .inl h) H5.out.2.2.2 ht)))
    clear ht
    go_wp2
    go_end0
    exact ⟨⟨_, rfl⟩, by have h := HT.out; rw [List.append_assoc, List.append_assoc] at h; exact h⟩
   have hv : c = 27 := by omega
   have g24 : (c != 24) = true := by simp [hv]
   have g26 : (c != 26) = true := by simp [hv]
   have g27 : (c != 27) = false := by simp [hv]
   have e : stepS s c = ((s : PS).beg 1, ([] : List Ev)) := by unfold stepS; rw [if_neg hef, if_neg hx]; simp only [if_neg hz, if_neg (show ¬ c ≠ 27 by omega), if_neg hs4]
   rw [e] at hn ⊢
   clear e hen hef hx hst hv hz hs4
   show Calls Tryz.prog 73 _ W fun r w' => (∃ x, r = .returned x) /\ TP G W p q ((s : PS).beg 1) (L ++ (([] : List Ev))) w'
   obtain ⟨GA, hRA, hsA, hkA⟩ := TP.refl HR.out
   rw [<- List.append_nil L] at hRA
   have HA := Lib.hid (And.intro hRA (And.intro hsA hkA))
   obtain ⟨s0c, -⟩ := rr_cells hRA
   try simp only at s0c
   clear hRA hsA hkA
   go_enter Tryz.func73, Tryz.ntmps73
   go_wp2_with fail
   refine (begin_any' GA W p q _ _ 1 (by omega) HA.out.1).mono ?_
   rintro r w4 ⟨⟨x, rfl⟩, ht⟩
   have HT := Lib.hid (TP.then HA.out.2.1 HA.out.2.2 ht)
   clear ht
   go_wp2
   go_end0
   exact ⟨⟨_, rfl⟩, by first | exact HT.out | simpa only [List.append_nil] using HT.out⟩
def stopB (c : Int) : Bool := c == 24 || (c == 26 || (c == 27 || c == 127))
def runN (xs : List Int) : Nat := (xs.takeWhile fun c => !stopB c).length
theorem runN_all : ∀ {xs : List Int}, (∀ x ∈ xs, stopB x = false) -> runN xs = xs.length
 | [], _ => rfl
 | x :: xs, h => by
  have ih := runN_all (xs := xs) (fun y hy => h y (by simp [hy]))
  unfold runN at *
  rw [List.takeWhile_cons, h x (by simp)]
  simp only [Bool.not_false, if_true, List.length_cons, ih]
theorem runN_at : ∀ {xs : List Int} {k : Nat} {x : Int}, xs[k]? = some x -> stopB x = true -> (∀ y ∈ xs.take k, stopB y = false) -> runN xs = k
 | [], k, x, h, _, _ => by simp at h
 | y :: ys, 0, x, h, hs, _ => by
  simp at h; subst h
  unfold runN
  rw [List.takeWhile_cons, hs]
  simp
 | y :: ys, k + 1, x, h, hs, hn => by
  have ih := runN_at (xs := ys) (k := k) (x := x) (by simpa using h) hs (fun z hz => hn z (by simp [hz]))
  unfold runN at *
  rw [List.takeWhile_cons, hn y (by simp)]
  simp only [Bool.not_false, if_true, List.length_cons, ih]
theorem runN_le (xs : List Int) : runN xs <= xs.length := by
 unfold runN
 exact List.Sublist.length_le (List.takeWhile_sublist _)
theorem not_take (xs : List Int) (k : Nat) (x : Int) (hp : xs[k]? = some x) (h : ∀ y ∈ xs.take k, stopB y = false) (hf : stopB x = false) : ∀ y ∈ xs.take (k + 1), stopB y = false := by
 intro y hy
 rw [List.take_add_one, hp] at hy
 rcases List.mem_append.1 hy with h1 | h1
 ·exact h y h1
 ·simp at h1; subst h1; exact hf
set_option maxRecDepth 100000 in
set_option maxHeartbeats 8000000 in
theorem pstop_any (c : Int) (w : World) : Calls Tryz.prog 115 #[.int .u8 c] w fun e w' => e = .returned (.bool (stopB c)) /\ w' = w := by
 obtain ⟨B, hB⟩ : ∃ B, stopB c = B := ⟨_, rfl⟩
 have hB' := hB
 unfold stopB at hB'
 rw [hB]
 clear hB
 cases c0 : (c == 24) with
 | true =>
  obtain rfl : true = B := by rw [<- hB', c0]; rfl
  clear hB'
  go_enter Tryz.func115, Tryz.ntmps115
  go_wp2
  go_ret
  exact ⟨rfl, rfl⟩
 | false =>
  cases c1 : (c == 26) with
  | true =>
   obtain rfl : true = B := by rw [<- hB', c0, c1]; rfl
   clear hB'
   go_enter Tryz.func115, Tryz.ntmps115
   go_wp2
   go_ret
   exact ⟨rfl, rfl⟩
  | false =>
   cases c2 : (c == 27) with
   | true =>
    obtain rfl : true = B := by rw [<- hB', c0, c1, c2]; rfl
    clear hB'
    go_enter Tryz.func115, Tryz.ntmps115
    go_wp2
    go_ret
    exact ⟨rfl, rfl⟩
   | false =>
    cases c3 : (c == 127) with
    | true =>
     obtain rfl : true = B := by rw [<- hB', c0, c1, c2, c3]; rfl
     clear hB'
     go_enter Tryz.func115, Tryz.ntmps115
     go_wp2
     go_ret
     exact ⟨rfl, rfl⟩
    | false =>
     obtain rfl : false = B := by rw [<- hB', c0, c1, c2, c3]; rfl
     clear hB'
     go_enter Tryz.func115, Tryz.ntmps115
     go_wp2
     go_ret
     exact ⟨rfl, rfl⟩
set_option maxRecDepth 100000 in
set_option maxHeartbeats 8000000 in
theorem index_any (a : Option Addr) (n cap : Nat) (xs : List Int) (W : World) (hs : SlAt .u8 W a n xs) (hl : n <= 1000000) :
  Calls Tryz.prog 114 #[.slice a n cap, .func (.func 115) #[] #[]] W fun e w' => e = .returned (.int .i64 (if runN xs = n then (-1 : Int) else (runN xs : Int))) /\ w' = W := by
 have hxl := hs.1
 have HS := Lib.hid (And.intro hs hxl)
 obtain ⟨R, hR⟩ : ∃ R : Int, (if runN xs = n then (-1 : Int) else (runN xs : Int)) = R := ⟨_, rfl⟩
 rw [hR]
 have HR := Lib.hid hR
 clear hs hxl hR
 go_enter Tryz.func114, Tryz.ntmps114
 go_wp2
 go_loopg [5, 8] n (fun gg _ kv wr => ∃ k : Nat, n <= gg + k /\ k <= n /\ kv = .int .i64 (k : Int) /\ (∀ y ∈ xs.take k, stopB y = false) /\ wr = W)
 case atStart => exact ⟨0, by omega, by omega, rfl, (fun q h => by simp at h), rfl⟩
 case round =>
  obtain ⟨k, hgg, hkn, rfl, hno, rfl⟩ := hrel
  have HK := Lib.hid hno
  by_cases hk1 : k < n
  ·have g1 : decide (k < n) = true := decide_eq_true hk1
   have g1' : decide ((k : Int) < (n : Int)) = true := decide_eq_true (by omega)
   have wk : IntKind.i64.wrap ((k : Int) + 1) = (k : Int) + 1 := IntWalk.i64_in _ (by omega)
   obtain ⟨b, off, rfl, hc9⟩ := HS.out.1.2.resolve_left (by omega)
   have hkL : k < xs.length := by rw [HS.out.2]; exact hk1
   obtain ⟨x, hx⟩ : ∃ x, xs[k]? = some x := ⟨_, List.getElem?_eq_getElem hkL⟩
   have hcx := hc9 k hk1
   rw [List.getD_eq_getElem?_getD, hx] at hcx
   simp only [Option.getD_some] at hcx
   have HX := Lib.hid hx
   obtain ⟨bf, hbf⟩ : ∃ bf, stopB x = bf := ⟨_, rfl⟩
   have HBF := Lib.hid hbf
   have HQ := pstop_any x wr
   rw [hbf] at HQ
   have HQx := Lib.hid HQ
   clear hc9 hx hkL hbf hno HQ
   cases bf with
   | true =>
    go_wp2_with fail
    refine HQx.out.mono ?_
    rintro e w2 ⟨rfl, rfl⟩
    have hrn : runN xs = k := runN_at HX.out HBF.out HK.out
    have hRk : (k : Int) = R := by rw [<- HR.out, hrn, if_neg (by omega)]
    have HRk := Lib.hid hRk
    clear hrn hRk
    go_wp2
    go_ret
    exact ⟨congrArg (fun z => Ending.returned (.int .i64 z)) HRk.out, rfl⟩
   | false =>
    go_wp2_with fail
    refine HQx.out.mono ?_
    rintro e w2 ⟨rfl, rfl⟩
    go_wp2
    go_roundg (gk - 1)
    case rel => exact ⟨k + 1, by omega, by omega, by simp, not_take xs k x HX.out HK.out HBF.out, rfl⟩
    case measure => omega
  ·obtain rfl : k = n := by omega
   have g1 : decide (k < k) = false := decide_eq_false hk1
   have hall : xs.take k = xs := List.take_of_length_le (Nat.le_of_eq HS.out.2)
   have hrn : runN xs = k := by rw [<- HS.out.2]; exact runN_all (by have h := HK.out; rw [hall] at h; exact h)
   have hRk : (-1 : Int) = R := by rw [<- HR.out, if_pos hrn]
   have HRk := Lib.hid hRk
   clear hrn hRk hall hno
   go_wp2
   go_ret
   exact ⟨congrArg (fun z => Ending.returned (.int .i64 z)) HRk.out, rfl⟩
def runs (s : PS) : Bool := !s.ends && (s.st == 5 || s.st == 6)
def runE (s : PS) (xs : List Int) : List Ev := if runs s = true /\ 0 < runN xs then [dataE s (xs.take (runN xs))] else []
def runK (s : PS) (xs : List Int) : Nat := if runs s = true then runN xs else 0
theorem sl_take {w : World} {a : Option Addr} {n : Nat} {xs : List Int} (h : SlAt .u8 w a n xs) (k : Nat) (hk : k <= n) : SlAt .u8 w a k (xs.take k) := by
 obtain ⟨h1, h2⟩ := h
 refine ⟨by simp; omega, ?_⟩
 rcases h2 with h2 | ⟨b, off, ha, hc⟩
 ·exact .inl (by omega)
 ·exact .inr ⟨b, off, ha, fun j hj => by rw [hc j (by omega), List.getD_eq_getElem?_getD, List.getD_eq_getElem?_getD, List.getElem?_take_of_lt hj]⟩
set_option maxRecDepth 100000 in
set_option maxHeartbeats 8000000 in
theorem run_any (G : Nat -> Prop) (W : World) (p : Nat) (q : Lis) (s : PS) (L : List Ev) (a : Option Addr) (n cap : Nat) (xs : List Int) (hR : RR G W p q s L) (hs : SlAt .u8 W a n xs) (hnil : a = none -> n = 0 /\ cap = 0) (hl : n <= 100000) (hcap : n <= cap) (hn0 : 0 < n) (hn : AL q L (runE s xs)) :
  Calls Tryz.prog 72 #[.pointer (some ⟨p, 0, none⟩), .slice a n cap] W fun r w' => r = .returned (.int .i64 (runK s xs : Int)) /\ TP G W p q s (L ++ runE s xs) w' := by
 have HR := Lib.hid hR
 have HS := Lib.hid hs
 have hxl := hs.1
 obtain ⟨d, vi, vp, vd, vo, hc, hg⟩ := hR
 obtain ⟨⟨c0, c0f⟩, ⟨c1, c1f⟩, -, -, -, -, -, -, -, -, -, -⟩ := pcells hc.pb
 clear hc hg hs
 cases hen : s.ends with
 | true =>
  rw [hen] at c1
  have hrs : runs s = false := by unfold runs; rw [hen]; rfl
  have e1 : runE s xs = [] := by unfold runE; rw [if_neg (by rw [hrs]; simp)]
  have e2 : runK s xs = 0 := by unfold runK; rw [if_neg (by rw [hrs]; simp)]
  rw [e1] at hn ⊢; rw [e2]
  clear e1 e2 hrs
  go_enter Tryz.func72, Tryz.ntmps72
  go_wp2
  go_ret
  exact ⟨rfl, by simpa only [List.append_nil] using TP.refl HR.out⟩
 | false =>
  rw [hen] at c1
  by_cases h5 : s.st = 5
  ·have g5 : (s.st != 5) = false := by simp [h5]
   have hrs : runs s = true := by unfold runs; rw [hen, h5]; rfl
   clear hen h5
   have e2 : runK s xs = runN xs := by unfold runK; rw [if_pos hrs]
   rw [e2]
   obtain ⟨K, hK⟩ : ∃ K, runN xs = K := ⟨_, rfl⟩
   have hKn : K <= n := by rw [<- hK, <- hxl]; exact runN_le xs
   have HI := index_any a n cap xs W HS.out (by omega)
   rw [hK] at HI
   obtain ⟨RI, hRI⟩ : ∃ R : Int, (if K = n then (-1 : Int) else (K : Int)) = R := ⟨_, rfl⟩
   rw [hRI] at HI
   have HIx := Lib.hid HI
   clear HI
   have gK : ¬ (K : Int) < 0 := by omega
   have gK1 : K <= cap := by omega
   by_cases hK0 : 0 < K
   ·have e1 : runE s xs = [dataE s (xs.take K)] := by unfold runE; rw [hK, if_pos ⟨hrs, hK0⟩]
    rw [e1] at hn ⊢; rw [hK]
    have gk0 : decide (0 < K) = true := decide_eq_true hK0
    have gk0' : decide ((0 : Int) < (K : Int)) = true := decide_eq_true (by omega)
    have HD := Lib.hid (data_any G W p q s L a K cap (xs.take K) HR.out (sl_take HS.out K hKn) (fun h => by have := hnil h; omega) (by omega) hn)
    by_cases hKe : K = n
    ·have hRm : RI = -1 := by rw [<- hRI, if_pos hKe]
     subst hRm
     subst hKe
     clear e1 e2 hrs hK hRI hnil
     go_enter Tryz.func72, Tryz.ntmps72
     go_wp2_with fail
     refine HIx.out.mono ?_
     rintro r w2 ⟨rfl, rfl⟩
     go_wp2_with fail
     refine HD.out.mono ?_
     rintro r w3 ⟨⟨x, rfl⟩, ht⟩
     have HT := Lib.hid ht
     clear ht
     go_wp2
     go_ret
     exact ⟨rfl, HT.out⟩
    ·have hRm : RI = (K : Int) := by rw [<- hRI, if_neg hKe]
     subst hRm
     have gl : decide ((K : Int) < 0) = false := decide_eq_false (by omega)
     clear e1 e2 hrs hK hRI hnil hKe
     go_enter Tryz.func72, Tryz.ntmps72
     go_wp2_with fail
     refine HIx.out.mono ?_
     rintro r w2 ⟨rfl, rfl⟩
     go_wp2_with fail
     refine HD.out.mono ?_
     rintro r w3 ⟨⟨x, rfl⟩, ht⟩
     have HT := Lib.hid ht
     clear ht
     go_wp2
     go_ret
     exact ⟨rfl, HT.out⟩
   ·have hK0' : K = 0 := by omega
    have e1 : runE s xs = [] := by unfold runE; rw [hK, if_neg (fun h => hK0 h.2)]
    rw [e1] at hn ⊢; rw [hK]
    have hRm : RI = 0 := by rw [<- hRI, if_neg (by omega), hK0']; rfl
    subst hRm
    subst hK0'
    clear e1 e2 hrs hK hRI hnil hK0 hn0
    go_enter Tryz.func72, Tryz.ntmps72
    go_wp2_with fail
    refine HIx.out.mono ?_
    rintro r w2 ⟨rfl, rfl⟩
    go_wp2
    go_ret
    exact ⟨rfl, by simpa only [List.append_nil] using TP.refl HR.out⟩
  ·have g5 : (s.st != 5) = true := by simp [h5]
   by_cases h6 : s.st = 6
   ·have g6 : (s.st != 6) = false := by simp [h6]
    have hrs : runs s = true := by unfold runs; rw [hen, h6]; rfl
    clear hen h5 h6
    have e2 : runK s xs = runN xs := by unfold runK; rw [if_pos hrs]
    rw [e2]
    obtain ⟨K, hK⟩ : ∃ K, runN xs = K := ⟨_, rfl⟩
    have hKn : K <= n := by rw [<- hK, <- hxl]; exact runN_le xs
    have HI := index_any a n cap xs W HS.out (by omega)
    rw [hK] at HI
    obtain ⟨RI, hRI⟩ : ∃ R : Int, (if K = n then (-1 : Int) else (K : Int)) = R := ⟨_, rfl⟩
    rw [hRI] at HI
    have HIx := Lib.hid HI
    clear HI
    have gK : ¬ (K : Int) < 0 := by omega
    have gK1 : K <= cap := by omega
    by_cases hK0 : 0 < K
    ·have e1 : runE s xs = [dataE s (xs.take K)] := by unfold runE; rw [hK, if_pos ⟨hrs, hK0⟩]
     rw [e1] at hn ⊢; rw [hK]
     have gk0 : decide (0 < K) = true := decide_eq_true hK0
     have gk0' : decide ((0 : Int) < (K : Int)) = true := decide_eq_true (by omega)
     have HD := Lib.hid (data_any G W p q s L a K cap (xs.take K) HR.out (sl_take HS.out K hKn) (fun h => by have := hnil h; omega) (by omega) hn)
     by_cases hKe : K = n
     ·have hRm : RI = -1 := by rw [<- hRI, if_pos hKe]
      subst hRm
      subst hKe
      clear e1 e2 hrs hK hRI hnil
      go_enter Tryz.func72, Tryz.ntmps72
      go_wp2_with fail
      refine HIx.out.mono ?_
      rintro r w2 ⟨rfl, rfl⟩
      go_wp2_with fail
      refine HD.out.mono ?_
      rintro r w3 ⟨⟨x, rfl⟩, ht⟩
      have HT := Lib.hid ht
      clear ht
      go_wp2
      go_ret
      exact ⟨rfl, HT.out⟩
     ·have hRm : RI = (K : Int) := by rw [<- hRI, if_neg hKe]
      subst hRm
      have gl : decide ((K : Int) < 0) = false := decide_eq_false (by omega)
      clear e1 e2 hrs hK hRI hnil hKe
      go_enter Tryz.func72, Tryz.ntmps72
      go_wp2_with fail
      refine HIx.out.mono ?_
      rintro r w2 ⟨rfl, rfl⟩
      go_wp2_with fail
      refine HD.out.mono ?_
      rintro r w3 ⟨⟨x, rfl⟩, ht⟩
      have HT := Lib.hid ht
      clear ht
      go_wp2
      go_ret
      exact ⟨rfl, HT.out⟩
    ·have hK0' : K = 0 := by omega
     have e1 : runE s xs = [] := by unfold runE; rw [hK, if_neg (fun h => hK0 h.2)]
     rw [e1] at hn ⊢; rw [hK]
     have hRm : RI = 0 := by rw [<- hRI, if_neg (by omega), hK0']; rfl
     subst hRm
     subst hK0'
     clear e1 e2 hrs hK hRI hnil hK0 hn0
     go_enter Tryz.func72, Tryz.ntmps72
     go_wp2_with fail
     refine HIx.out.mono ?_
     rintro r w2 ⟨rfl, rfl⟩
     go_wp2
     go_ret
     exact ⟨rfl, by simpa only [List.append_nil] using TP.refl HR.out⟩
   ·have g6 : (s.st != 6) = true := by simp [h6]
    have hrs : runs s = false := by unfold runs; simp [h5, h6]
    clear hen h5 h6
    have e1 : runE s xs = [] := by unfold runE; rw [if_neg (by rw [hrs]; simp)]
    have e2 : runK s xs = 0 := by unfold runK; rw [if_neg (by rw [hrs]; simp)]
    rw [e1] at hn ⊢; rw [e2]
    clear e1 e2 hrs
    go_enter Tryz.func72, Tryz.ntmps72
    go_wp2
    go_ret
    exact ⟨rfl, by simpa only [List.append_nil] using TP.refl HR.out⟩
theorem printE_len (l : List Int) : (printE l).length = l.length := by simp [printE]
theorem groundS_len (s : PS) (c : Int) : (groundS s c).2.length <= 3 := by
 have h1 := fin_len s.ch
 have h2 := put_len s.ch c.toNat
 unfold groundS
 split
 ·simp only [List.length_append, printE_len, List.length_cons, List.length_nil]; omega
 ·split
  ·simp only [printE_len]; omega
  ·simp only [printE_len]; omega
theorem doneS_len (s : PS) (c : Int) : (doneS s c).2.length <= 1 := by unfold doneS; simp only; split <;> simp
theorem openS_len {s : PS} {c : Int} {r : PS × List Ev} (h : openS s c = some r) : r.2.length <= 1 := by
 unfold openS at h
 repeat' split at h
 all_goals first | (cases h; done) | (cases h; simp)
theorem escS_len (s : PS) (c : Int) : (escS s c).2.length <= 3 := by
 unfold escS
 split
 ·simp
 ·split
  ·exact groundS_len _ _
  ·split
   ·simp
   ·split
    ·simp
    ·split
     ·have := doneS_len s c; omega
     ·split
      ·rename_i r h; have := openS_len h; omega
      ·have := doneS_len s c; omega
theorem finalS_len (s : PS) (c : Int) : (finalS s c).2.length <= 1 := by unfold finalS; simp only; split <;> simp
theorem headS_len (s : PS) (c : Int) : (headS s c).2.length <= 3 := by
 unfold headS
 simp only
 split
 ·split <;> simp
 ·split
  ·exact groundS_len _ _
  ·repeat' split
   all_goals first | (simp; done) | (have := finalS_len ({ s with fi := s.fi && (ctlB c || c == 127) }) c; omega)
theorem textS_len (s : PS) (c : Int) : (textS s c).2.length <= 1 := by unfold textS; split; simp; split <;> simp
theorem endedS_len (s : PS) (c : Int) : (endedS s c).2.length <= 4 := by
 have h0 := closeE_len s.st 0
 have h1 := closeE_len s.st 1
 unfold endedS
 split
 ·simp only [List.length_append]; split <;> simp <;> omega
 ·split
  ·simp only; omega
  ·split
   ·simp only [List.length_append, List.length_cons, List.length_nil]; omega
   ·have h2 := escS_len (({ s with ends := false } : PS).beg 1) c
    simp only [List.length_append]; omega
theorem plainS_len (s : PS) (c : Int) : (plainS s c).2.length <= 3 := by
 unfold plainS
 split
 ·exact groundS_len _ _
 ·split
  ·exact escS_len _ _
  ·split
   ·exact headS_len _ _
   ·split
    ·have := textS_len s c; omega
    ·simp
theorem stepS_len (s : PS) (c : Int) : (stepS s c).2.length <= 8 := by
 have h0 := closeE_len s.st 0
 have h1 := fin_len s.ch
 unfold stepS
 split
 ·have := endedS_len s c; omega
 ·split
  ·have := plainS_len s c; omega
  ·simp only
   split
   ·simp only [List.length_append, List.length_cons, List.length_nil]; split <;> simp [printE_len] <;> omega
   ·split
    ·simp only; split <;> simp [printE_len] <;> omega
    ·simp only; split <;> simp [printE_len] <;> omega
def feedF : Nat -> PS -> List Int -> PS × List Ev
 | 0, s, _ => (s, [])
 | _ + 1, s, [] => (s, [])
 | n + 1, s, c :: cs =>
  if 0 < runK s (c :: cs) then ((feedF n s ((c :: cs).drop (runK s (c :: cs)))).1, runE s (c :: cs) ++ (feedF n s ((c :: cs).drop (runK s (c :: cs)))).2)
  else ((feedF n (stepS s c).1 cs).1, (stepS s c).2 ++ (feedF n (stepS s c).1 cs).2)
theorem feedF_nil (g : Nat) (s : PS) : feedF g s [] = (s, []) := by cases g <;> rfl
theorem feedF_run {g : Nat} {s : PS} {c : Int} {cs : List Int} (hg : 0 < g) (hk : 0 < runK s (c :: cs)) : feedF g s (c :: cs) = ((feedF (g - 1) s ((c :: cs).drop (runK s (c :: cs)))).1, runE s (c :: cs) ++ (feedF (g - 1) s ((c :: cs).drop (runK s (c :: cs)))).2) := by
 cases g with
 | zero => omega
 | succ g => simp only [feedF, if_pos hk, Nat.add_sub_cancel]
theorem feedF_step {g : Nat} {s : PS} {c : Int} {cs : List Int} (hg : 0 < g) (hk : runK s (c :: cs) = 0) : feedF g s (c :: cs) = ((feedF (g - 1) (stepS s c).1 cs).1, (stepS s c).2 ++ (feedF (g - 1) (stepS s c).1 cs).2) := by
 cases g with
 | zero => omega
 | succ g => simp only [feedF, if_neg (show ¬ 0 < runK s (c :: cs) by omega), Nat.add_sub_cancel]
theorem runE_nil {s : PS} {xs : List Int} (h : runK s xs = 0) : runE s xs = [] := by
 unfold runE runK at *
 by_cases hr : runs s = true
 ·rw [if_pos hr] at h; rw [if_neg (fun h2 => by have := h2.2; omega)]
 ·rw [if_neg (fun h2 => hr h2.1)]
theorem runE_len (s : PS) (xs : List Int) : (runE s xs).length <= 1 := by unfold runE; split <;> simp
theorem runK_le (s : PS) (xs : List Int) : runK s xs <= xs.length := by unfold runK; split; exact runN_le xs; omega
def PQ (G : Nat -> Prop) (w : World) (p : Nat) (s : PS) : Prop := ∃ d vi vp vd f, w.heap[p]? = some (.cells (PC s d vi vp vd f) 139 (0, 0)) /\ DecAt w d s.ch /\ Own .u8 5 w vi s.it /\ Own .i64 3 w vp s.ps /\ Own .u8 5 w vd s.ds /\ (∀ b, vi.ownBlock = some b -> vd.ownBlock ≠ some b) /\ SOk s /\
 ∀ i, G i ↔ i = p \/ i = d \/ vi.ownBlock = some i \/ vp.ownBlock = some i \/ vd.ownBlock = some i
theorem PQ.lt {G : Nat -> Prop} {w : World} {p : Nat} {s : PS} (h : PQ G w p s) : ∀ i, G i -> i < w.heap.size := by
 obtain ⟨d, vi, vp, vd, f, hb, hd, h1, h2, h3, hne, hok, hg⟩ := h
 intro i hi
 rcases (hg i).1 hi with rfl | rfl | hi | hi | hi
 ·exact lt_of_blk hb
 ·exact hd.lt
 ·exact h1.lt i hi
 ·exact h2.lt i hi
 ·exact h3.lt i hi
theorem PQ.kept {G S : Nat -> Prop} {w w' : World} {p : Nat} {s : PS} (h : PQ G w p s) (hk : Kept S w w') (hS : ∀ i, G i -> ¬ S i) : PQ G w' p s := by
 obtain ⟨d, vi, vp, vd, f, hb, hd, h1, h2, h3, hne, hok, hg⟩ := h
 exact ⟨d, vi, vp, vd, f, hk.blk hb (hS p ((hg p).2 (.inl rfl))), hd.kept hk (hS d ((hg d).2 (.inr (.inl rfl)))), h1.kept hk (fun b hb => hS b ((hg b).2 (.inr (.inr (.inl hb))))), h2.kept hk (fun b hb => hS b ((hg b).2 (.inr (.inr (.inr (.inl hb)))))), h3.kept hk (fun b hb => hS b ((hg b).2 (.inr (.inr (.inr (.inr hb)))))), hne, hok, hg⟩
set_option maxRecDepth 100000 in
set_option maxHeartbeats 8000000 in
theorem each_any (G GT : Nat -> Prop) (W : World) (p : Nat) (q : Lis) (s : PS) (a : Option Addr) (len cap : Nat) (xs : List Int) (hP : PQ G W p s) (hT : q.TI GT W []) (hdj : ∀ i, GT i -> ¬ G i) (hs : SlAt .u8 W a len xs) (hby : ∀ x ∈ xs, 0 <= x /\ x < 256) (hnil : a = none -> len = 0 /\ cap = 0) (hlc : len <= cap) (hl : len <= 20000)
  (hloc : ∀ b off, 0 < len -> a = some ⟨b, off, none⟩ -> ¬ G b /\ ¬ GT b) (hal : AL q [] (feedF len s xs).2) :
  Calls Tryz.prog 40 #[.pointer (some ⟨p, 0, none⟩), .slice a len cap, sayV q] W fun r w' => (∃ x, r = .returned x) /\ ∃ GT' G', q.TI GT' w' (feedF len s xs).2 /\ PQ G' w' p (feedF len s xs).1 /\ (∀ i, GT' i -> ¬ G' i) /\ (∀ i, G' i \/ GT' i -> (G i \/ GT i) \/ W.heap.size <= i) /\ Kept (fun i => G i \/ GT i) W w' := by
 have hxl := hs.1
 obtain ⟨d, vi, vp, vd, f, hb, hd, h1, h2, h3, hne, hok, hg⟩ := hP
 obtain ⟨⟨p0, -⟩, -, -, -, -, -, -, -, -, -, -, ⟨p11, f11⟩⟩ := pcells hb
 obtain ⟨V, hV⟩ : ∃ V, W.setCell ⟨p, 11, none⟩ (sayV q) = V := ⟨_, rfl⟩
 have hkV : Kept (fun i => i = p) W V := by rw [<- hV]; exact (Kept.refl (fun i => i = p) W).setCell (p := ⟨p, 11, none⟩) (.inl rfl) _
 have hbV : V.heap[p]? = some (.cells (PC s d vi vp vd (sayV q)) 139 (0, 0)) := by rw [<- hV]; exact blk_set hb 11 _
 obtain ⟨cd, hcd⟩ := dec_blk hd
 have hno : ∀ {i : Nat} {c : Array Value} {t : TypeId}, W.heap[i]? = some (.cells c t (0, 0)) -> t ≠ 139 -> ¬ (fun i => i = p) i := fun hi ht e => blk_ne hi hb ht e
 have hpG : G p := (hg p).2 (.inl rfl)
 have hTV := q.up hT hkV (fun i hi e => hdj i hi (by have e2 : i = p := e; rw [e2]; exact hpG))
 have hRC : RC V p q d vi vp vd GT s [] := ⟨hbV, hd.kept hkV (hno hcd (by decide)), h1.kept hkV (fun b hb => by obtain ⟨c, hc⟩ := own_blk h1 hb; exact hno hc (by decide)), h2.kept hkV (fun b hb => by obtain ⟨c, hc⟩ := own_blk h2 hb; exact hno hc (by decide)), h3.kept hkV (fun b hb => by obtain ⟨c, hc⟩ := own_blk h3 hb; exact hno hc (by decide)), hne, hTV, fun i hi h => hdj i hi ((hg i).2 h), hok⟩
 obtain ⟨G0, hG0⟩ : ∃ G0 : Nat -> Prop, G0 = Mset p q d vi vp vd GT := ⟨_, rfl⟩
 have hR0 : RR G0 V p q s [] := ⟨d, vi, vp, vd, GT, hRC, fun i => by rw [hG0]⟩
 have hGG : ∀ i, G0 i ↔ G i \/ GT i := by
  intro i
  rw [hG0, hg i]
  unfold Mset
  constructor
  ·rintro (h | h | h | h | h | h | h)
   ·exact .inl (.inl h)
   ·exact .inl (.inr (.inl h))
   ·exact h.elim
   ·exact .inl (.inr (.inr (.inl h)))
   ·exact .inl (.inr (.inr (.inr (.inl h))))
   ·exact .inl (.inr (.inr (.inr (.inr h))))
   ·exact .inr h
  ·rintro ((h | h | h | h | h) | h)
   ·exact .inl h
   ·exact .inr (.inl h)
   ·exact .inr (.inr (.inr (.inl h)))
   ·exact .inr (.inr (.inr (.inr (.inl h))))
   ·exact .inr (.inr (.inr (.inr (.inr (.inl h)))))
   ·exact .inr (.inr (.inr (.inr (.inr (.inr h)))))
 have hsV : SlAt .u8 V a len xs := hs.kept hkV (fun b off h0 h e => (hloc b off h0 h).1 (by have e2 : b = p := e; rw [e2]; exact hpG))
 have HF := Lib.hid (And.intro hR0 (And.intro hGG (And.intro hkV.size (And.intro (hkV.mono (S' := fun i => G i \/ GT i) (fun i _ h => .inl (by have e2 : i = p := h; rw [e2]; exact hpG))) hpG))))
 have HS := Lib.hid (And.intro hsV (And.intro hby (And.intro hxl hloc)))
 obtain ⟨FS, hFS⟩ : ∃ x, (feedF len s xs).1 = x := ⟨_, rfl⟩
 obtain ⟨FE, hFE⟩ : ∃ x, (feedF len s xs).2 = x := ⟨_, rfl⟩
 rw [hFE] at hal
 rw [hFS, hFE]
 have HAL := Lib.hid hal
 have HFF := Lib.hid (And.intro hFS hFE)
 clear hb hd h1 h2 h3 hne hok hg hkV hbV hcd hno hRC hG0 hR0 hGG hpG hsV hs hby hxl hFS hFE hT hTV hdj hal hloc p0
 unfold sayV at hV ⊢
 have hst : (store ⟨p, 11, none⟩ (.func (.func 41) #[.pointer (some ⟨q.p, 0, none⟩)] #[])).run Tryz.prog W = .ok () V := by
  rw [run_store _ _ _ _ _ (by rfl), p11]
  simp [f11]
  exact hV
 go_enter Tryz.func40, Tryz.ntmps40
 go_wp2
 go_loopg [1, 6] len (fun gg bv _ wr => ∃ (k : Nat) (a' : Option Addr) (c' : Nat) (sk : PS) (Ek : List Ev), k <= len /\ len <= gg + k /\ bv = .slice a' (len - k) c' /\ SlAt .u8 V a' (len - k) (xs.drop k) /\ len - k <= c' /\ (a' = none -> len - k = 0 /\ c' = 0) /\ (∀ b off, 0 < len - k -> a' = some ⟨b, off, none⟩ -> ¬ G0 b) /\ TP G0 V p q sk Ek wr /\ Ek.length <= 8 * k /\ (feedF gg sk (xs.drop k)).1 = FS /\ Ek ++ (feedF gg sk (xs.drop k)).2 = FE)
 case atStart => exact ⟨0, a, cap, s, [], by omega, by omega, rfl, HS.out.1, hlc, hnil, (fun b off h0 h h2 => by have h3 := HS.out.2.2.2 b off h0 h; rcases (HF.out.2.1 b).1 h2 with h4 | h4; exact h3.1 h4; exact h3.2 h4), TP.refl HF.out.1, by simp, HFF.out.1, HFF.out.2⟩
 case round =>
  obtain ⟨k, a', c', sk, Ek, hkl, hgg, rfl, hsr, hrc, hrn, hrl, hT, hEl, hf1, hf2⟩ := hrel
  obtain ⟨R, hR⟩ : ∃ R, len - k = R := ⟨_, rfl⟩
  rw [hR] at hsr hrc hrn hrl ⊢
  have hkR : len = k + R := by omega
  have HKR := Lib.hid (And.intro hkR (And.intro hgg hEl))
  clear hR hkR hgg hkl
  obtain ⟨G1, hR1, hs1, hk1⟩ := hT
  have HT := Lib.hid (And.intro hR1 (And.intro hs1 hk1))
  by_cases hR0 : 0 < R
  ·have gR : decide (0 < R) = true := decide_eq_true hR0
   have gR' : decide ((0 : Int) < (R : Int)) = true := decide_eq_true (by omega)
   obtain ⟨b, off, rfl, hcell⟩ := hsr.2.resolve_left (by omega)
   have hbG := hrl b off (by omega) rfl
   have hsw : SlAt .u8 wr (some ⟨b, off, none⟩) R (xs.drop k) := hsr.kept hk1 (fun b' off' _ h => by cases h; exact hbG)
   have hkx : k < xs.length := by rw [HS.out.2.2.1]; have := HKR.out.1; omega
   obtain ⟨c, hcx⟩ : ∃ c, xs[k]? = some c := ⟨_, List.getElem?_eq_getElem hkx⟩
   have hdr : xs.drop k = c :: xs.drop (k + 1) := by rw [List.drop_eq_getElem_cons hkx]; rw [List.getElem?_eq_getElem hkx] at hcx; cases hcx; rfl
   have hcb := HS.out.2.1 c (List.mem_of_getElem? hcx)
   obtain ⟨K, hK⟩ : ∃ K, runK sk (xs.drop k) = K := ⟨_, rfl⟩
   have hKR : K <= R := by rw [<- hK, <- hsr.1]; exact runK_le _ _
   have HB := Lib.hid (And.intro hbG (And.intro hsr (And.intro hsw (And.intro hdr (And.intro hK (And.intro hcb (And.intro hf1 hf2)))))))
   have hae : AL q Ek (runE sk (xs.drop k)) /\ (runK sk (xs.drop k) = 0 -> AL q Ek (stepS sk c).2) := by
    have h9 := HAL.out
    rw [<- hf2] at h9
    have h8 := AL.right h9
    by_cases hk0 : 0 < runK sk (xs.drop k)
    ·have e9 := feedF_run (g := gk) (s := sk) (c := c) (cs := xs.drop (k + 1)) (by have := HKR.out.1; have := HKR.out.2.1; omega) (by rw [<- hdr]; exact hk0)
     rw [<- hdr] at e9
     rw [e9] at h8
     exact ⟨AL.left h8, fun h => by omega⟩
    ·have e8 : runK sk (xs.drop k) = 0 := by omega
     have e9 := feedF_step (g := gk) (s := sk) (c := c) (cs := xs.drop (k + 1)) (by have := HKR.out.1; have := HKR.out.2.1; omega) (by rw [<- hdr]; exact e8)
     rw [<- hdr] at e9
     rw [e9] at h8
     exact ⟨by rw [runE_nil e8]; exact AL.stop h8, fun _ => AL.left h8⟩
   have HRUN := run_any G1 wr p q sk Ek (some ⟨b, off, none⟩) R c' (xs.drop k) hR1 hsw (fun h => by cases h) (by have := HKR.out.1; omega) hrc hR0 hae.1
   have HAE := Lib.hid hae
   rw [hK] at HRUN
   clear hae
   have HRx := Lib.hid HRUN
   clear hbG hsr hsw hkx hcx hdr hcb hK HRUN hR1 hs1 hk1 hrl hrn hf1 hf2 hEl hcell
   by_cases hK0 : 0 < K
   ·have gK : decide (0 < K) = true := decide_eq_true hK0
    have gK' : decide ((0 : Int) < (K : Int)) = true := decide_eq_true (by omega)
    have q6 : ¬ (K : Int) < 0 := by omega
    have q7 : K <= c' := by omega
    have q7' : K <= R := hKR
    go_wp2_with fail
    refine HRx.out.mono ?_
    rintro r w2 ⟨rfl, ht⟩
    have HT2 := Lib.hid (TP.then HT.out.2.1 HT.out.2.2 ht)
    clear ht
    have hnew : ∃ a2 c2, SlAt .u8 V a2 (R - K) (xs.drop (k + K)) /\ R - K <= c2 /\ (a2 = none -> R - K = 0 /\ c2 = 0) /\ (∀ b off, 0 < R - K -> a2 = some ⟨b, off, none⟩ -> ¬ G0 b) := ⟨some ⟨b, off + K, none⟩, c', ⟨by have h := HB.out.2.1.1; simp at h ⊢; omega, .inr ⟨b, off + K, rfl, fun j hj => by
     obtain ⟨b9, o9, h9, hc9⟩ := HB.out.2.1.2.resolve_left (by omega)
     cases h9
     rw [Nat.add_assoc, hc9 (K + j) (by omega)]
     simp [List.getD_eq_getElem?_getD, Nat.add_assoc]⟩⟩, by omega, (fun h => by cases h), (fun b' off' _ h => by cases h; exact HB.out.1)⟩
    have hsl : SlAt .u8 V (some ⟨b, off + K, none⟩) (R - K) (xs.drop (k + K)) := by
     refine ⟨by have h := HB.out.2.1.1; simp at h ⊢; omega, ?_⟩
     by_cases h0 : R - K = 0
     ·exact .inl h0
     ·refine .inr ⟨b, off + K, rfl, fun j hj => ?_⟩
      obtain ⟨b9, o9, h9, hc9⟩ := HB.out.2.1.2.resolve_left (by omega)
      cases h9
      rw [Nat.add_assoc, hc9 (K + j) (by omega)]
      simp [List.getD_eq_getElem?_getD, Nat.add_assoc]
    have HSL := Lib.hid hsl
    clear hnew hsl
    have hfx := feedF_run (g := gk) (s := sk) (c := c) (cs := xs.drop (k + 1)) (by have := HKR.out.1; have := HKR.out.2.1; omega) (by rw [<- HB.out.2.2.2.1, HB.out.2.2.2.2.1]; exact hK0)
    rw [<- HB.out.2.2.2.1, HB.out.2.2.2.2.1, List.drop_drop] at hfx
    have HFX := Lib.hid hfx
    clear hfx
    have hrest : ∀ a2 c2, SlAt .u8 V a2 (R - K) (xs.drop (k + K)) -> R - K <= c2 -> (a2 = none -> R - K = 0 /\ c2 = 0) -> (∀ b off, 0 < R - K -> a2 = some ⟨b, off, none⟩ -> ¬ G0 b) -> ∃ (k' : Nat) (a' : Option Addr) (c' : Nat) (sk' : PS) (Ek' : List Ev), k' <= len /\ len <= gk - 1 + k' /\ (Value.slice a2 (R - K) c2) = .slice a' (len - k') c' /\ SlAt .u8 V a' (len - k') (xs.drop k') /\ len - k' <= c' /\ (a' = none -> len - k' = 0 /\ c' = 0) /\ (∀ b off, 0 < len - k' -> a' = some ⟨b, off, none⟩ -> ¬ G0 b) /\ TP G0 V p q sk' Ek' w2 /\ Ek'.length <= 8 * k' /\ (feedF (gk - 1) sk' (xs.drop k')).1 = FS /\ Ek' ++ (feedF (gk - 1) sk' (xs.drop k')).2 = FE := by
     intro a2 c2 z1 z2 z3 z4
     have e0 : len - (k + K) = R - K := by have := HKR.out.1; omega
     refine ⟨k + K, a2, c2, sk, Ek ++ runE sk (xs.drop k), by have := HKR.out.1; omega, by have := HKR.out.2.1; omega, by rw [e0], by rw [e0]; exact z1, by rw [e0]; exact z2, by rw [e0]; exact z3, by rw [e0]; exact z4, HT2.out, ?_, ?_, ?_⟩
     ·have := runE_len sk (xs.drop k); have := HKR.out.2.2; rw [List.length_append]; omega
     ·have h := HB.out.2.2.2.2.2.2.1; rw [HFX.out] at h; exact h
     ·have h := HB.out.2.2.2.2.2.2.2; rw [HFX.out] at h; rw [List.append_assoc]; exact h
    have HREST := Lib.hid hrest
    clear hrest
    by_cases hcn : c' = K
    ·subst hcn
     obtain rfl : c' = R := by omega
     go_wp2
     go_roundg (gk - 1)
     case rel => have h := HREST.out (some ⟨b, off, none⟩) 0 ⟨by have h := HSL.out.1; simp at h ⊢; omega, .inl (by omega)⟩ (by omega) (fun h => by cases h) (fun b' off' h0 => absurd h0 (by omega)); rw [Nat.sub_self] at h; exact h
     case measure => have := HKR.out.1; have := HKR.out.2.1; omega
    ·have q8 : ¬ c' = K := hcn
     go_wp2
     go_roundg (gk - 1)
     case rel => exact HREST.out (some ⟨b, off + K, none⟩) (c' - K) HSL.out (by omega) (fun h => by cases h) (fun b' off' _ h => by cases h; exact HB.out.1)
     case measure => have := HKR.out.1; have := HKR.out.2.1; omega
   ·obtain rfl : K = 0 := by omega
    have q7 : 1 <= c' := by omega
    have q7' : 1 <= R := by omega
    have q9 : 0 < R := hR0
    go_wp2_with fail
    refine HRx.out.mono ?_
    rintro r w2 ⟨rfl, ht⟩
    rw [runE_nil HB.out.2.2.2.2.1, List.append_nil] at ht
    obtain ⟨G2, hR2, hs2, hk2⟩ := TP.then HT.out.2.1 HT.out.2.2 ht
    have hcc : w2.cell? ⟨b, off, none⟩ = some (.int .u8 c) := by
     obtain ⟨b9, o9, h9, hc9⟩ := HB.out.2.1.2.resolve_left (by omega)
     cases h9
     have h := hc9 0 (by omega)
     rw [HB.out.2.2.2.1] at h
     have h2 := hk2.cell h (fun h3 => HB.out.1 h3)
     simpa using h2
    have HST := Lib.hid (step_any G2 w2 p q sk Ek c HB.out.2.2.2.2.2.1.1 HB.out.2.2.2.2.2.1.2 hR2 (HAE.out.2 HB.out.2.2.2.2.1))
    have H2 := Lib.hid (And.intro hs2 hk2)
    clear ht hR2 hs2 hk2
    go_wp2_with fail
    refine HST.out.mono ?_
    rintro r w3 ⟨⟨x, rfl⟩, ht⟩
    have HT2 := Lib.hid (TP.then H2.out.1 H2.out.2 ht)
    clear ht
    have hsl : SlAt .u8 V (some ⟨b, off + 1, none⟩) (R - 1) (xs.drop (k + 1)) := by
     refine ⟨by have h := HB.out.2.1.1; simp at h ⊢; omega, ?_⟩
     by_cases h0 : R - 1 = 0
     ·exact .inl h0
     ·refine .inr ⟨b, off + 1, rfl, fun j hj => ?_⟩
      obtain ⟨b9, o9, h9, hc9⟩ := HB.out.2.1.2.resolve_left (by omega)
      cases h9
      rw [Nat.add_assoc, hc9 (1 + j) (by omega)]
      simp [List.getD_eq_getElem?_getD, Nat.add_assoc]
    have HSL := Lib.hid hsl
    clear hsl
    have hfx := feedF_step (g := gk) (s := sk) (c := c) (cs := xs.drop (k + 1)) (by have := HKR.out.1; have := HKR.out.2.1; omega) (by rw [<- HB.out.2.2.2.1]; exact HB.out.2.2.2.2.1)
    rw [<- HB.out.2.2.2.1] at hfx
    have HFX := Lib.hid hfx
    clear hfx
    have hrest : ∀ a2 c2, SlAt .u8 V a2 (R - 1) (xs.drop (k + 1)) -> R - 1 <= c2 -> (a2 = none -> R - 1 = 0 /\ c2 = 0) -> (∀ b off, 0 < R - 1 -> a2 = some ⟨b, off, none⟩ -> ¬ G0 b) -> ∃ (k' : Nat) (a' : Option Addr) (c' : Nat) (sk' : PS) (Ek' : List Ev), k' <= len /\ len <= gk - 1 + k' /\ (Value.slice a2 (R - 1) c2) = .slice a' (len - k') c' /\ SlAt .u8 V a' (len - k') (xs.drop k') /\ len - k' <= c' /\ (a' = none -> len - k' = 0 /\ c' = 0) /\ (∀ b off, 0 < len - k' -> a' = some ⟨b, off, none⟩ -> ¬ G0 b) /\ TP G0 V p q sk' Ek' w3 /\ Ek'.length <= 8 * k' /\ (feedF (gk - 1) sk' (xs.drop k')).1 = FS /\ Ek' ++ (feedF (gk - 1) sk' (xs.drop k')).2 = FE := by
     intro a2 c2 z1 z2 z3 z4
     have e0 : len - (k + 1) = R - 1 := by have := HKR.out.1; omega
     refine ⟨k + 1, a2, c2, (stepS sk c).1, Ek ++ (stepS sk c).2, by have := HKR.out.1; omega, by have := HKR.out.2.1; omega, by rw [e0], by rw [e0]; exact z1, by rw [e0]; exact z2, by rw [e0]; exact z3, by rw [e0]; exact z4, HT2.out, ?_, ?_, ?_⟩
     ·have := stepS_len sk c; have := HKR.out.2.2; rw [List.length_append]; omega
     ·have h := HB.out.2.2.2.2.2.2.1; rw [HFX.out] at h; exact h
     ·have h := HB.out.2.2.2.2.2.2.2; rw [HFX.out] at h; rw [List.append_assoc]; exact h
    have HREST := Lib.hid hrest
    clear hrest
    by_cases hcn : c' = 1
    ·subst hcn
     obtain rfl : R = 1 := by omega
     go_wp2
     go_roundg (gk - 1)
     case rel => exact HREST.out (some ⟨b, off, none⟩) 0 ⟨by have h := HSL.out.1; simp at h ⊢; omega, .inl (by omega)⟩ (by omega) (fun h => by cases h) (fun b' off' h0 => absurd h0 (by omega))
     case measure => have := HKR.out.1; have := HKR.out.2.1; omega
    ·have q8 : ¬ c' = 1 := hcn
     go_wp2
     go_roundg (gk - 1)
     case rel => exact HREST.out (some ⟨b, off + 1, none⟩) (c' - 1) HSL.out (by omega) (fun h => by cases h) (fun b' off' _ h => by cases h; exact HB.out.1)
     case measure => have := HKR.out.1; have := HKR.out.2.1; omega
  ·have gR : decide (0 < R) = false := decide_eq_false hR0
   have gR' : decide ((0 : Int) < (R : Int)) = false := decide_eq_false (by omega)
   have hdr : xs.drop k = [] := List.drop_eq_nil_of_le (by rw [HS.out.2.2.1]; have := HKR.out.1; omega)
   rw [hdr, feedF_nil] at hf1 hf2
   rw [List.append_nil] at hf2
   simp only at hf1
   subst hf1
   subst hf2
   obtain ⟨d2, vi2, vp2, vd2, vo2, hc2, hg2⟩ := hR1
   obtain ⟨-, -, -, -, -, -, -, -, -, -, -, ⟨z11, z11f⟩⟩ := pcells hc2.pb
   obtain ⟨U, hU⟩ : ∃ U, wr.setCell ⟨p, 11, none⟩ (.func (.func 74) #[] #[]) = U := ⟨_, rfl⟩
   have hkU : Kept (fun i => i = p) wr U := by rw [<- hU]; exact (Kept.refl (fun i => i = p) wr).setCell (p := ⟨p, 11, none⟩) (.inl rfl) _
   have hbU : U.heap[p]? = some (.cells (PC sk d2 vi2 vp2 vd2 (.func (.func 74) #[] #[])) 139 (0, 0)) := by rw [<- hU]; exact blk_set hc2.pb 11 _
   have HE := Lib.hid (And.intro hc2 (And.intro hg2 (And.intro hs1 (And.intro hk1 (And.intro hkU hbU)))))
   clear hc2 hg2 hs1 hk1 hkU hbU hdr hsr hrl hrn HT
   unfold sayV at z11
   have hst2 : (store ⟨p, 11, none⟩ (.func (.func 74) #[] #[])).run Tryz.prog wr = .ok () U := by
    rw [run_store _ _ _ _ _ (by rfl), z11]
    simp [z11f]
    exact hU
   go_wp2
   go_end0
   obtain ⟨hc2, hg2, hs1, hk1, hkU, hbU⟩ := HE.out
   obtain ⟨cd2, hcd2⟩ := dec_blk hc2.dc
   have hno2 : ∀ {i : Nat} {c : Array Value} {t : TypeId}, wr.heap[i]? = some (.cells c t (0, 0)) -> t ≠ 139 -> ¬ (fun i => i = p) i := fun hi ht e => blk_ne hi hc2.pb ht e
   have hzV := HF.out.2.2.1
   have hno3 : ∀ i, vo2 i -> ¬ (fun i => i = p) i := fun i hi e => hc2.dj i hi (.inl e)
   have hG2 : ∀ i, Pset p d2 vi2 vp2 vd2 i \/ vo2 i -> G1 i := by
    intro i hi
    refine (hg2 i).2 ?_
    rcases hi with (h | h | h | h | h) | h
    ·exact .inl h
    ·exact .inr (.inl h)
    ·exact .inr (.inr (.inr (.inl h)))
    ·exact .inr (.inr (.inr (.inr (.inl h))))
    ·exact .inr (.inr (.inr (.inr (.inr (.inl h)))))
    ·exact .inr (.inr (.inr (.inr (.inr (.inr h)))))
   refine ⟨⟨_, rfl⟩, vo2, Pset p d2 vi2 vp2 vd2, q.up hc2.ti hkU hno3, ⟨d2, vi2, vp2, vd2, _, hbU, hc2.dc.kept hkU (hno2 hcd2 (by decide)), hc2.hi.kept hkU (fun b hb => by obtain ⟨c, hc⟩ := own_blk hc2.hi hb; exact hno2 hc (by decide)), hc2.hp.kept hkU (fun b hb => by obtain ⟨c, hc⟩ := own_blk hc2.hp hb; exact hno2 hc (by decide)), hc2.hd.kept hkU (fun b hb => by obtain ⟨c, hc⟩ := own_blk hc2.hd hb; exact hno2 hc (by decide)), hc2.ne, hc2.ok, fun _ => Iff.rfl⟩, hc2.dj, fun i hi => ?_, ?_⟩
   ·rcases hs1 i (hG2 i hi) with h | h
    ·exact .inl ((HF.out.2.1 i).1 h)
    ·exact .inr (Nat.le_trans hzV h)
   ·have hk3 : Kept (fun i => G i \/ GT i) V wr := hk1.mono fun i _ h => (HF.out.2.1 i).1 h
    exact (HF.out.2.2.2.1.then hk3).then (hkU.mono fun i _ h => .inl (by have e2 : i = p := h; rw [e2]; exact HF.out.2.2.2.2))
end Go.Proofs.YtmplpcmcbliadaaGreatDoor
