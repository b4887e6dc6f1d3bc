/- The parser: in ground, in a text. -/
import Derived.Test.YtnaoobgghgnflaaF3
namespace Go.Proofs.Ytnaoobgghgnflaa
open Go.RowKit Pl
set_option linter.unusedVariables false
set_option linter.unusedSimpArgs false
theorem tp_rr {G G1 : Nat → Prop} {W w1 : World} {p q : Nat} {s : PS} {L : List Ev} (h : RR G1 w1 p q s L) (hs : ∀ i, G1 i → G i ∨ W.heap.size ≤ i) (hk : Kept G W w1) : TP G W p q s L w1 := ⟨G1, h, hs, hk⟩
theorem fin_rr (G : Nat → Prop) (W : World) (p q : Nat) (s : PS) (L : List Ev) (hR : RR G W p q s L) : ∃ d, W.cell? ⟨p, 2, none⟩ = some (.pointer (some ⟨d, 0, none⟩)) ∧
    Calls Try.prog 33 #[.pointer (some ⟨d, 0, none⟩)] W fun r w' => ∃ a n cap, r = .returned (.slice a n cap) ∧ RR G w' p q { s with ch := s0 } L ∧ SlAt .i32 w' a n (fin s.ch) ∧ n ≤ 10 ∧ (∀ b off, 0 < n → a = some ⟨b, off, none⟩ → b < w'.heap.size ∧ ¬ G b) ∧ Kept G W w' := by
  obtain ⟨d, vi, vp, vd, vo, Vs, hc, hg⟩ := hR
  refine ⟨d, blk_cell hc.pb 2, (fin_any d s.ch W hc.dc).mono ?_⟩
  rintro r w' ⟨v, hr, hd, ho, hk, hb⟩
  have hlt := ho.lt
  obtain ⟨a, cap, rfl, hs, -, -, -, hob⟩ := ho.shape
  have hc' := hc.updD hk hd
  refine ⟨a, _, cap, hr, ⟨d, vi, vp, vd, vo, Vs, hc', hg⟩, hs, ?_, fun b off _ h => ⟨hlt b (hob b off h), fun h2 => ?_⟩, hk.mono fun i _ h => (hg i).2 (.inr (.inl h))⟩
  · show (fin s.ch).length ≤ 10
    unfold fin
    split <;> simp
  · have h3 := hb b (hob b off h)
    have h4 := hc.lt b ((hg b).1 h2)
    omega
theorem put_rr (G : Nat → Prop) (W : World) (p q : Nat) (s : PS) (L : List Ev) (c : Int) (hc0 : 0 ≤ c) (hc1 : c < 256) (hR : RR G W p q s L) : ∃ d, W.cell? ⟨p, 2, none⟩ = some (.pointer (some ⟨d, 0, none⟩)) ∧
    Calls Try.prog 45 #[.pointer (some ⟨d, 0, none⟩), .int .u8 c] W fun r w' => ∃ a n cap, r = .returned (.slice a n cap) ∧ RR G w' p q { s with ch := (put s.ch c.toNat).1 } L ∧ SlAt .i32 w' a n (put s.ch c.toNat).2 ∧ n ≤ 10 ∧ (∀ b off, 0 < n → a = some ⟨b, off, none⟩ → b < w'.heap.size ∧ ¬ G b) ∧ Kept G W w' := by
  obtain ⟨d, vi, vp, vd, vo, Vs, hc, hg⟩ := hR
  have hcn : ((c.toNat : Nat) : Int) = c := by omega
  have hp := put_any d c.toNat s.ch W hc.dc (by omega)
  rw [hcn] at hp
  refine ⟨d, blk_cell hc.pb 2, hp.mono ?_⟩
  rintro r w' ⟨v, hr, hd, ho, hk, hb⟩
  have hlt := ho.lt
  obtain ⟨a, cap, rfl, hs, -, -, -, hob⟩ := ho.shape
  have hc' := hc.updD hk hd
  refine ⟨a, _, cap, hr, ⟨d, vi, vp, vd, vo, Vs, hc', hg⟩, hs, ?_, fun b off _ h => ⟨hlt b (hob b off h), fun h2 => ?_⟩, hk.mono fun i _ h => (hg i).2 (.inr (.inl h))⟩
  · show (put s.ch c.toNat).2.length ≤ 10
    have h1 := first_len c.toNat
    unfold put
    repeat' split
    all_goals (simp; try omega)
  · have h3 := hb b (hob b off h)
    have h4 := hc.lt b ((hg b).1 h2)
    omega
set_option maxRecDepth 100000 in
set_option maxHeartbeats 8000000 in
theorem ground_any (G : Nat → Prop) (W : World) (p q : Nat) (s : PS) (L : List Ev) (c : Int) (hc0 : 0 ≤ c) (hc1 : c < 256) (hR : RR G W p q s L) (hn : L.length ≤ 800000) :
    Calls Try.prog 38 #[.pointer (some ⟨p, 0, none⟩), .int .u8 c] W fun r w' => (∃ x, r = .returned x) ∧ TP G W p q (groundS s c).1 (L ++ (groundS s c).2) w' := by
  have HR := Lib.hid hR
  clear hR
  cases hct : ctlB c with
  | true =>
    have e : groundS s c = ({ s with ch := s0 }, printE (fin s.ch) ++ [evX 2 0 c]) := by unfold groundS; rw [if_pos hct]
    rw [e]
    clear e
    show Calls Try.prog 38 _ W fun r w' => (∃ x, r = .returned x) ∧ TP G W p q { s with ch := s0 } (L ++ (printE (fin s.ch) ++ [evX 2 0 c])) w'
    obtain ⟨d, c2, hcall⟩ := fin_rr G W p q s L HR.out
    have HC := Lib.hid hcall
    clear hcall
    go_enter Try.func38, Try.ntmps38
    go_wp2_with fail
    refine (ctl_any c W).mono ?_
    rintro r w1 ⟨rfl, rfl⟩
    rw [hct]
    go_wp2_with fail
    refine HC.out.mono ?_
    rintro r w2 ⟨a, n, cap, rfl, hR2, hs2, hn2, hb2, hk2⟩
    have HP := Lib.hid (print_any G w2 p q { s with ch := s0 } L a n cap (fin s.ch) hR2 hs2 hb2 (by omega) (by omega))
    have HK2 := Lib.hid (And.intro hk2 hR2)
    have hxl := hs2.1
    have HXL := Lib.hid (show (fin s.ch).length ≤ 10 by omega)
    clear hR2 hs2 hn2 hb2 hk2 hxl
    go_wp2_with fail
    refine HP.out.mono ?_
    rintro r w3 ⟨⟨x, rfl⟩, ht3⟩
    obtain ⟨G3, hR3, hs3, hk3⟩ := ht3
    obtain ⟨-, c11⟩ := rr_cells hR3
    unfold sayV at c11
    have HN3 := Lib.hid (show (L ++ printE (fin s.ch)).length ≤ 1000000 by have := HXL.out; simp [printE]; omega)
    have H3 := Lib.hid (And.intro hR3 (And.intro hs3 hk3))
    clear hR3 hs3 hk3
    go_wp2_with fail
    refine (sayX G3 w3 p q _ _ H3.out.1 HN3.out 2 0 c).mono ?_
    rintro r w4 ⟨⟨y, rfl⟩, ht4⟩
    have H4 := Lib.hid (TP.then (fun _ h => .inl h) HK2.out.1 (TP.then H3.out.2.1 H3.out.2.2 ht4))
    clear ht4
    go_wp2
    go_end0
    exact ⟨⟨_, rfl⟩, by rw [← List.append_assoc]; exact H4.out⟩
  | false =>
    by_cases hd : c = 127
    · have e : groundS s c = ({ s with ch := s0 }, printE (fin s.ch)) := by unfold groundS; rw [if_neg (by rw [hct]; simp), if_pos hd]
      have g : (c == 127) = true := by simp [hd]
      rw [e]
      clear e hd
      show Calls Try.prog 38 _ W fun r w' => (∃ x, r = .returned x) ∧ TP G W p q { s with ch := s0 } (L ++ printE (fin s.ch)) w'
      obtain ⟨d, c2, hcall⟩ := fin_rr G W p q s L HR.out
      have HC := Lib.hid hcall
      clear hcall
      go_enter Try.func38, Try.ntmps38
      go_wp2_with fail
      refine (ctl_any c W).mono ?_
      rintro r w1 ⟨rfl, rfl⟩
      rw [hct]
      go_wp2_with fail
      refine HC.out.mono ?_
      rintro r w2 ⟨a, n, cap, rfl, hR2, hs2, hn2, hb2, hk2⟩
      have HP := Lib.hid (print_any G w2 p q { s with ch := s0 } L a n cap (fin s.ch) hR2 hs2 hb2 (by omega) (by omega))
      have HK2 := Lib.hid (And.intro hk2 hR2)
      have hxl := hs2.1
      have HXL := Lib.hid (show (fin s.ch).length ≤ 10 by omega)
      clear hR2 hs2 hn2 hb2 hk2 hxl
      go_wp2_with fail
      refine HP.out.mono ?_
      rintro r w3 ⟨⟨x, rfl⟩, ht3⟩
      have H4 := Lib.hid (TP.then (fun _ h => .inl h) HK2.out.1 ht3)
      clear ht3
      go_wp2
      go_end0
      exact ⟨⟨_, rfl⟩, H4.out⟩
    · have e : groundS s c = ({ s with ch := (put s.ch c.toNat).1 }, printE (put s.ch c.toNat).2) := by unfold groundS; rw [if_neg (by rw [hct]; simp), if_neg hd]
      have g : (c == 127) = false := by simp [hd]
      rw [e]
      clear e hd
      show Calls Try.prog 38 _ W fun r w' => (∃ x, r = .returned x) ∧ TP G W p q { s with ch := (put s.ch c.toNat).1 } (L ++ printE (put s.ch c.toNat).2) w'
      obtain ⟨d, c2, hcall⟩ := put_rr G W p q s L c hc0 hc1 HR.out
      have HC := Lib.hid hcall
      clear hcall
      go_enter Try.func38, Try.ntmps38
      go_wp2_with fail
      refine (ctl_any c W).mono ?_
      rintro r w1 ⟨rfl, rfl⟩
      rw [hct]
      go_wp2_with fail
      refine HC.out.mono ?_
      rintro r w2 ⟨a, n, cap, rfl, hR2, hs2, hn2, hb2, hk2⟩
      have HP := Lib.hid (print_any G w2 p q { s with ch := (put s.ch c.toNat).1 } L a n cap ((put s.ch c.toNat).2) hR2 hs2 hb2 (by omega) (by omega))
      have HK2 := Lib.hid (And.intro hk2 hR2)
      have hxl := hs2.1
      have HXL := Lib.hid (show ((put s.ch c.toNat).2).length ≤ 10 by omega)
      clear hR2 hs2 hn2 hb2 hk2 hxl
      go_wp2_with fail
      refine HP.out.mono ?_
      rintro r w3 ⟨⟨x, rfl⟩, ht3⟩
      have H4 := Lib.hid (TP.then (fun _ h => .inl h) HK2.out.1 ht3)
      clear ht3
      go_wp2
      go_end0
      exact ⟨⟨_, rfl⟩, H4.out⟩
/-- The state number alone is changed. -/
theorem rr_st {G : Nat → Prop} {W : World} {p q : Nat} {s : PS} {L : List Ev} (hR : RR G W p q s L) (k : Int) (hk : 0 ≤ k ∧ k ≤ 7) : (W.cell? ⟨p, 0, none⟩ = some (.int .i64 s.st) ∧ W.frozen? ⟨p, 0, none⟩ = false) ∧ RR G (W.setCell ⟨p, 0, none⟩ (.int .i64 k)) p q { s with st := k } L ∧ Kept G W (W.setCell ⟨p, 0, none⟩ (.int .i64 k)) := by
  obtain ⟨d, vi, vp, vd, vo, Vs, hc, hg⟩ := hR
  have hkV : Kept (fun i => i = p) W (W.setCell ⟨p, 0, none⟩ (.int .i64 k)) := (Kept.refl (fun i => i = p) W).setCell (p := ⟨p, 0, none⟩) (.inl rfl) _
  exact ⟨⟨blk_cell hc.pb 0, blk_free hc.pb 0⟩, ⟨d, vi, vp, vd, vo, Vs, hc.upd (s' := { s with st := k }) hkV (blk_set hc.pb 0 _) rfl rfl rfl rfl ⟨hk, hc.ok.it, hc.ok.ps, hc.ok.la, hc.ok.ds⟩, hg⟩, hkV.mono fun i _ h => (hg i).2 (.inl h)⟩
set_option maxRecDepth 100000 in
set_option maxHeartbeats 8000000 in
theorem back_any (G : Nat → Prop) (W : World) (p q : Nat) (s : PS) (L : List Ev) (c : Int) (hc0 : 0 ≤ c) (hc1 : c < 256) (hR : RR G W p q s L) (hn : L.length ≤ 800000) :
    Calls Try.prog 42 #[.pointer (some ⟨p, 0, none⟩), .int .u8 c] W fun r w' => (∃ x, r = .returned x) ∧ TP G W p q (backS s c).1 (L ++ (backS s c).2) w' := by
  obtain ⟨⟨c0, f0⟩, hR1, hk1⟩ := rr_st hR 0 (by omega)
  obtain ⟨V, hV⟩ : ∃ V, W.setCell ⟨p, 0, none⟩ (.int .i64 0) = V := ⟨_, rfl⟩
  rw [hV] at hR1 hk1
  have HG := Lib.hid (ground_any G V p q _ L c hc0 hc1 hR1 hn)
  have HK := Lib.hid hk1
  clear hR hR1 hk1
  unfold backS
  go_enter Try.func42, Try.ntmps42
  go_wp2_with fail
  refine HG.out.mono ?_
  rintro r w2 ⟨⟨x, rfl⟩, ht⟩
  have HT := Lib.hid (TP.then (fun _ h => .inl h) HK.out ht)
  clear ht
  go_wp2
  go_end0
  exact ⟨⟨_, rfl⟩, HT.out⟩
set_option maxRecDepth 100000 in
set_option maxHeartbeats 8000000 in
theorem text_any (G : Nat → Prop) (W : World) (p q : Nat) (s : PS) (L : List Ev) (c : Int) (hR : RR G W p q s L) (hn : L.length ≤ 800000) :
    Calls Try.prog 40 #[.pointer (some ⟨p, 0, none⟩), .int .u8 c] W fun r w' => (∃ x, r = .returned x) ∧ TP G W p q (textS s c).1 (L ++ (textS s c).2) w' := by
  have HR := Lib.hid hR
  by_cases h7 : c = 7
  · have e : textS s c = ({ s with st := 0 }, [toldE s]) := by unfold textS; rw [if_pos h7]
    have g : (c == 7) = true := by simp [h7]
    rw [e]
    clear e h7 hR
    show Calls Try.prog 40 _ W fun r w' => (∃ x, r = .returned x) ∧ TP G W p q { s with st := 0 } (L ++ [toldE s]) w'
    go_enter Try.func40, Try.ntmps40
    go_wp2_with fail
    refine (told_any G W p q s L HR.out (by omega)).mono ?_
    rintro r w2 ⟨⟨x, rfl⟩, ht⟩
    obtain ⟨G2, hR2, hs2, hk2⟩ := ht
    obtain ⟨⟨c0, f0⟩, hR3, hk3⟩ := rr_st hR2 0 (by omega)
    have HT := Lib.hid (TP.then hs2 hk2 (tp_rr hR3 (fun _ h => .inl h) hk3))
    clear hR2 hs2 hk2 hR3 hk3
    go_wp2
    go_end0
    exact ⟨⟨_, rfl⟩, HT.out⟩
  · have g : (c == 7) = false := by simp [h7]
    by_cases h32 : 32 ≤ c
    · have g32 : decide (32 ≤ c) = true := decide_eq_true h32
      by_cases h127 : c = 127
      · have g127 : (c != 127) = false := by simp [h127]
        have e : textS s c = (s, []) := by unfold textS; rw [if_neg h7, if_neg (fun h => h.2.1 h127)]
        rw [e]
        clear e h7 h127 h32 hR
        show Calls Try.prog 40 _ W fun r w' => (∃ x, r = .returned x) ∧ TP G W p q s (L ++ []) w'
        go_enter Try.func40, Try.ntmps40
        go_wp2
        go_end0
        exact ⟨⟨_, rfl⟩, by rw [List.append_nil]; exact TP.refl HR.out⟩
      · have g127 : (c != 127) = true := by simp [h127]
        obtain ⟨d, vi, vp, vd, vo, Vs, hc, hg⟩ := hR
        obtain ⟨ia, ic, hie, hsi, -⟩ := hc.hd.shape
        obtain ⟨iN, hin⟩ : ∃ n, s.ds.length = n := ⟨_, rfl⟩
        rw [hin] at hie
        subst hie
        obtain ⟨-, -, -, -, -, -, -, -, -, -, ⟨c10, c10f⟩, -⟩ := pcells hc.pb
        by_cases hl : iN < 1024
        · have gl : decide (iN < 1024) = true := decide_eq_true hl
          have gl' : decide ((iN : Int) < 1024) = true := decide_eq_true (by omega)
          have e : textS s c = ({ s with ds := s.ds ++ [c] }, []) := by unfold textS; rw [if_neg h7, if_pos ⟨h32, h127, by omega⟩]
          rw [e]
          show Calls Try.prog 40 _ W fun r w' => (∃ x, r = .returned x) ∧ TP G W p q { s with ds := s.ds ++ [c] } (L ++ []) w'
          obtain ⟨i0, hi, hz, hsz, hby⟩ := info_parts Try.infoByte
          have HI := Lib.hid (And.intro hi (And.intro hz (And.intro hsz hby)))
          have HC := Lib.hid (And.intro hc (And.intro hg (And.intro hin hl)))
          obtain ⟨W2, hW2⟩ : ∃ W2, W.alloc (.cells #[.int .u8 c] 5) = W2 := ⟨_, rfl⟩
          have hk2 : Kept (fun _ => False) W W2 := by rw [← hW2]; exact (Kept.refl _ _).alloc _
          have hs2 : SlAt .u8 W2 (some ⟨W.heap.size, 0, none⟩) 1 [c] := by rw [← hW2]; exact slAt_one W c 5
          have H2 := Lib.hid (And.intro hk2 (And.intro hs2 (And.intro (hc.hd.kept hk2 (fun _ _ => id)) (And.intro (hk2.blk hc.pb id) hk2.size))))
          have h63 : (9223372036854775807 : Nat) = maxLen := rfl
          clear hi hz hsz hby hc hg hin hsi hk2 hs2 e h7 h32 h127
          go_enter Try.func40, Try.ntmps40
          go_wp2_with (first
            | (at_builtin; refine wpList_appInts rfl (.tmp 31) (.tmp 33) 22 rfl 5 .u8 i0 (.int .u8 0) 1 Try.underlying22 HI.out.1 HI.out.2.1 HI.out.2.2.1 HI.out.2.2.2 rfl (.slice ia iN ic) s.ds rfl H2.out.2.2.1 (some ⟨W.heap.size, 0, none⟩) 1 1 [c] rfl (fun h => by cases h) H2.out.2.1 (by have h8 := HC.out.2.2.1; have h9 := HC.out.2.2.2; omega) (by have h8 := HC.out.2.2.1; have h9 := HC.out.2.2.2; omega) ?_; intro v5 w5 ho5 hk5 hpr5; obtain ⟨a5, c5, hv5e, -⟩ := ho5.shape; obtain ⟨n5, hn5⟩ : ∃ n, (s.ds ++ [c]).length = n := ⟨_, rfl⟩; rw [hn5] at hv5e; subst hv5e; clear hn5; have hbp5 := hk5.blk H2.out.2.2.2.1 (fun h => by have h2 := own_blk H2.out.2.2.1 h; obtain ⟨cc, hcc⟩ := h2; exact blk_ne hcc H2.out.2.2.2.1 (by decide) rfl); obtain ⟨-, -, -, -, -, -, -, -, -, -, ⟨g10, g10f⟩, -⟩ := pcells hbp5; have H5 := Lib.hid (And.intro ho5 (And.intro hk5 (And.intro hpr5 hbp5))); clear ho5 hk5 hpr5 hbp5))
          go_end0
          obtain ⟨hc, hg, hin, hil⟩ := HC.out
          obtain ⟨ho5, hk5, hpr5, hbp5⟩ := H5.out
          have hz2 := H2.out.2.2.2.2
          have hv : (Value.slice a5 n5 c5).ownBlock = (Value.slice ia iN ic).ownBlock ∨ ∀ b, (Value.slice a5 n5 c5).ownBlock = some b → W.heap.size ≤ b := by
            rcases hpr5 with h | h
            · exact .inl h
            · exact .inr (fun b hb => by rw [h] at hb; cases hb; exact hz2)
          have hkF : Kept (fun i => i = p ∨ (Value.slice ia iN ic).ownBlock = some i) W (w5.setCell ⟨p, 10, none⟩ (.slice a5 n5 c5)) := Kept.setCell (S := fun i => i = p ∨ (Value.slice ia iN ic).ownBlock = some i) ((H2.out.1.mono (fun _ _ h => h.elim)).then (hk5.mono fun _ _ h => Or.inr h)) (p := ⟨p, 10, none⟩) (.inl (.inl rfl)) _
          have hbF : (w5.setCell ⟨p, 10, none⟩ (.slice a5 n5 c5)).heap[p]? = some (.cells (PC { s with ds := s.ds ++ [c] } d vi vp (.slice a5 n5 c5) (sayV q)) 43 (0, 0)) := blk_set hbp5 10 _
          have hoF : Own .u8 5 (w5.setCell ⟨p, 10, none⟩ (.slice a5 n5 c5)) (.slice a5 n5 c5) (s.ds ++ [c]) := ho5.kept (S := fun i => i = p) ((Kept.refl (fun i => i = p) w5).setCell (p := ⟨p, 10, none⟩) (.inl rfl) _) (fun b hb hh => by
            obtain ⟨cc, hcc⟩ := own_blk ho5 hb
            exact blk_ne hcc hbp5 (by decide) hh)
          refine ⟨⟨_, rfl⟩, by rw [List.append_nil]; exact tp_of hg (hc.updS (s' := { s with ds := s.ds ++ [c] }) hkF hbF hoF hv rfl rfl rfl ⟨hc.ok.st, hc.ok.it, hc.ok.ps, hc.ok.la, by simp; omega⟩) (fun i hi => mS hv i hi) (hkF.mono fun i _ h => by
            rcases h with h | h
            · exact .inl h
            · exact .inr (.inr (.inr (.inr (.inr (.inl h))))))⟩
        · have gl : decide (iN < 1024) = false := decide_eq_false hl
          have gl' : decide ((iN : Int) < 1024) = false := decide_eq_false (by omega)
          have e : textS s c = (s, []) := by unfold textS; rw [if_neg h7, if_neg (fun h => by have := h.2.2; omega)]
          rw [e]
          clear e h7 h127 h32 hc hg hin hl hsi
          show Calls Try.prog 40 _ W fun r w' => (∃ x, r = .returned x) ∧ TP G W p q s (L ++ []) w'
          go_enter Try.func40, Try.ntmps40
          go_wp2
          go_end0
          exact ⟨⟨_, rfl⟩, by rw [List.append_nil]; exact TP.refl HR.out⟩
    · have g32 : decide (32 ≤ c) = false := decide_eq_false h32
      have e : textS s c = (s, []) := by unfold textS; rw [if_neg h7, if_neg (fun h => h32 h.1)]
      rw [e]
      clear e h7 h32 hR
      show Calls Try.prog 40 _ W fun r w' => (∃ x, r = .returned x) ∧ TP G W p q s (L ++ []) w'
      go_enter Try.func40, Try.ntmps40
      go_wp2
      go_end0
      exact ⟨⟨_, rfl⟩, by rw [List.append_nil]; exact TP.refl HR.out⟩
end Go.Proofs.Ytnaoobgghgnflaa
