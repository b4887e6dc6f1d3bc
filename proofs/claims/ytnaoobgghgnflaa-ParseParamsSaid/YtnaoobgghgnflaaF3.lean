/- The parser: the next parameter, begin. -/
import Derived.Test.YtnaoobgghgnflaaF2
import Derived.Test.YtnaoobgghgnflaaAppStep
namespace Go.Proofs.Ytnaoobgghgnflaa
open Go.RowKit Pl
set_option linter.unusedVariables false
set_option linter.unusedSimpArgs false
theorem nextS_lt {s : PS} (h : s.ps.length < 16) : nextS s = { s with ps := s.ps ++ [s.la], la := 0 } := by unfold nextS; rw [if_pos h]
theorem nextS_ge {s : PS} (h : ¬ s.ps.length < 16) : nextS s = { s with la := 0 } := by unfold nextS; rw [if_neg h]
theorem mI {p q d : Nat} {vi vp vd vo v' : Value} {B : Nat} (hv : v'.ownBlock = vi.ownBlock ∨ ∀ b, v'.ownBlock = some b → B ≤ b) (i : Nat) (hi : Mset p q d v' vp vd vo i) : Mset p q d vi vp vd vo i ∨ B ≤ i := by
  rcases hi with hi | hi | hi | hi | hi
  · exact .inl (.inl hi)
  · exact .inl (.inr (.inl hi))
  · exact .inl (.inr (.inr (.inl hi)))
  · rcases hv with h1 | h1
    · exact .inl (.inr (.inr (.inr (.inl (by rw [← h1]; exact hi)))))
    · exact .inr (h1 i hi)
  · exact .inl (.inr (.inr (.inr (.inr hi))))
theorem mP {p q d : Nat} {vi vp vd vo v' : Value} {B : Nat} (hv : v'.ownBlock = vp.ownBlock ∨ ∀ b, v'.ownBlock = some b → B ≤ b) (i : Nat) (hi : Mset p q d vi v' vd vo i) : Mset p q d vi vp vd vo i ∨ B ≤ i := by
  rcases hi with hi | hi | hi | hi | hi | hi
  · exact .inl (.inl hi)
  · exact .inl (.inr (.inl hi))
  · exact .inl (.inr (.inr (.inl hi)))
  · exact .inl (.inr (.inr (.inr (.inl hi))))
  · rcases hv with h1 | h1
    · exact .inl (.inr (.inr (.inr (.inr (.inl (by rw [← h1]; exact hi))))))
    · exact .inr (h1 i hi)
  · exact .inl (.inr (.inr (.inr (.inr (.inr hi)))))
theorem mS {p q d : Nat} {vi vp vd vo v' : Value} {B : Nat} (hv : v'.ownBlock = vd.ownBlock ∨ ∀ b, v'.ownBlock = some b → B ≤ b) (i : Nat) (hi : Mset p q d vi vp v' vo i) : Mset p q d vi vp vd vo i ∨ B ≤ i := by
  rcases hi with hi | hi | hi | hi | hi | hi | hi
  · exact .inl (.inl hi)
  · exact .inl (.inr (.inl hi))
  · exact .inl (.inr (.inr (.inl hi)))
  · exact .inl (.inr (.inr (.inr (.inl hi))))
  · exact .inl (.inr (.inr (.inr (.inr (.inl hi)))))
  · rcases hv with h1 | h1
    · exact .inl (.inr (.inr (.inr (.inr (.inr (.inl (by rw [← h1]; exact hi)))))))
    · exact .inr (h1 i hi)
  · exact .inl (.inr (.inr (.inr (.inr (.inr (.inr hi))))))
set_option maxRecDepth 100000 in
set_option maxHeartbeats 8000000 in
theorem next_any (G : Nat → Prop) (W : World) (p q : Nat) (s : PS) (L : List Ev) (hR : RR G W p q s L) :
    Calls Try.prog 46 #[.pointer (some ⟨p, 0, none⟩)] W fun r w' => (∃ x, r = .returned x) ∧ TP G W p q (nextS s) L w' := by
  obtain ⟨d, vi, vp, vd, vo, Vs, hc, hg⟩ := hR
  obtain ⟨pa, pc, hpe, hsp, -⟩ := hc.hp.shape
  obtain ⟨pn, hpn⟩ : ∃ n, s.ps.length = n := ⟨_, rfl⟩
  rw [hpn] at hpe
  subst hpe
  obtain ⟨-, -, -, -, -, -, -, ⟨c7, c7f⟩, -, ⟨c9, c9f⟩, -, -⟩ := pcells hc.pb
  by_cases h16 : pn < 16
  · rw [nextS_lt (by omega)]
    have g16 : decide (pn < 16) = true := decide_eq_true h16
    have g16' : decide ((pn : Int) < 16) = true := decide_eq_true (by omega)
    obtain ⟨i0, hi, hz, hsz, hby⟩ := info_parts Try.infoInt8
    have HI := Lib.hid (And.intro hi (And.intro hz (And.intro hsz hby)))
    have HC := Lib.hid (And.intro hc (And.intro hg (And.intro hpn h16)))
    obtain ⟨W2, hW2⟩ : ∃ W2, (W.alloc (.cells #[.int .i64 s.la] 3)).drew = W2 := ⟨_, rfl⟩
    have hk2 : Kept (fun _ => False) W W2 := by rw [← hW2]; exact ((Kept.refl _ _).alloc _).drew
    have hs2 : SlAt .i64 W2 (some ⟨W.heap.size, 0, none⟩) 1 [s.la] := by rw [← hW2]; exact (slAt_one W s.la 3).kept ((Kept.refl (fun _ => False) _).drew) (fun _ _ _ _ => id)
    obtain ⟨-, -, -, -, -, -, -, ⟨d7, d7f⟩, -, ⟨d9, d9f⟩, -, -⟩ := pcells (hk2.blk hc.pb id)
    have H2 := Lib.hid (And.intro hk2 (And.intro hs2 (And.intro (hc.hp.kept hk2 (fun _ _ => id)) (And.intro (hk2.blk hc.pb id) hk2.size))))
    have h63 : (9223372036854775807 : Nat) = maxLen := rfl
    clear hi hz hsz hby hc hg hpn hsp hk2 hs2
    go_enter Try.func46, Try.ntmps46
    go_wp2
    go_region_law (refine step_appInts rfl (.tmp 12) (.tmp 17) 28 rfl 3 .i64 i0 (.int .i64 0) 8 Try.underlying28 HI.out.1 HI.out.2.1 HI.out.2.2.1 HI.out.2.2.2 rfl (.slice pa pn pc) s.ps rfl (by exact H2.out.2.2.1) (some ⟨W.heap.size, 0, none⟩) 1 1 [s.la] rfl (fun h => by cases h) (by exact H2.out.2.1) (by have h8 := HC.out.2.2.1; omega) (by have h8 := HC.out.2.2.1; omega) ?_; intro v5 w5 ho5 hk5 hpr5; obtain ⟨a5, c5, hv5e, -⟩ := ho5.shape; obtain ⟨n5, hn5⟩ : ∃ n, (s.ps ++ [s.la]).length = n := ⟨_, rfl⟩; rw [hn5] at hv5e; subst hv5e; clear hn5; have hbp5 := hk5.blk H2.out.2.2.2.1 (fun h => by have h2 := own_blk H2.out.2.2.1 h; obtain ⟨cc, hcc⟩ := h2; exact blk_ne hcc H2.out.2.2.2.1 (by decide) rfl); obtain ⟨-, -, -, -, -, -, -, ⟨g7, g7f⟩, -, -, -, -⟩ := pcells hbp5; obtain ⟨V, hV⟩ : ∃ V, w5.setCell ⟨p, 7, none⟩ (.slice a5 n5 c5) = V := ⟨_, rfl⟩; have hbV : V.heap[p]? = some (.cells (PC { s with ps := s.ps ++ [s.la] } d vi (.slice a5 n5 c5) vd (sayV q)) 43 (0, 0)) := (by rw [← hV]; exact blk_set hbp5 7 _); obtain ⟨-, -, -, -, -, -, -, -, -, ⟨k9, k9f⟩, -, -⟩ := pcells hbV; have H5 := Lib.hid (And.intro ho5 (And.intro hk5 (And.intro hpr5 (And.intro hbV (And.intro hV hbp5))))); clear ho5 hk5 hpr5 hbp5 hbV)
    all_goals go_wp2
    all_goals go_end0
    all_goals
      obtain ⟨hc, hg, hpn, h16⟩ := HC.out
      obtain ⟨ho5, hk5, hpr5, hbV, hV, hbp5⟩ := H5.out
      have hz2 := H2.out.2.2.2.2
      have hv : (Value.slice a5 n5 c5).ownBlock = (Value.slice pa pn pc).ownBlock ∨ ∀ b, (Value.slice a5 n5 c5).ownBlock = some b → W.heap.size ≤ b := by
        rcases hpr5 with h | h
        · exact .inl h
        · exact .inr (fun b hb => by rw [h] at hb; cases hb; exact hz2)
      have hkV : Kept (fun i => i = p ∨ (Value.slice pa pn pc).ownBlock = some i) W V := by rw [← hV]; exact Kept.setCell (S := fun i => i = p ∨ (Value.slice pa pn pc).ownBlock = some i) ((H2.out.1.mono (fun _ _ h => h.elim)).then (hk5.mono fun _ _ h => Or.inr h)) (p := ⟨p, 7, none⟩) (.inl (.inl rfl)) _
      have hkF : Kept (fun i => i = p ∨ (Value.slice pa pn pc).ownBlock = some i) W (V.setCell ⟨p, 9, none⟩ (.int .i64 0)) := Kept.setCell (S := fun i => i = p ∨ (Value.slice pa pn pc).ownBlock = some i) hkV (p := ⟨p, 9, none⟩) (.inl (.inl rfl)) _
      have hkVp : Kept (fun i => i = p) w5 (V.setCell ⟨p, 9, none⟩ (.int .i64 0)) := by rw [← hV]; exact ((Kept.refl (fun i => i = p) w5).setCell (p := ⟨p, 7, none⟩) (.inl rfl) _).setCell (p := ⟨p, 9, none⟩) (.inl rfl) _
      have hoF : Own .i64 3 (V.setCell ⟨p, 9, none⟩ (.int .i64 0)) (.slice a5 n5 c5) (s.ps ++ [s.la]) := ho5.kept hkVp (fun b hb hh => by
        obtain ⟨cc, hcc⟩ := own_blk ho5 hb
        exact blk_ne hcc hbp5 (by decide) hh)
      refine ⟨⟨_, rfl⟩, tp_of hg (hc.updP (s' := { s with ps := s.ps ++ [s.la], la := 0 }) hkF (blk_set hbV 9 _) hoF hv rfl rfl rfl ⟨hc.ok.st, hc.ok.it, by simp; omega, by simp, hc.ok.ds⟩) (fun i hi => mP hv i hi) (hkF.mono fun i _ h => ?_)⟩
      rcases h with h | h
      · exact .inl h
      · exact .inr (.inr (.inr (.inr (.inl h))))
  · rw [nextS_ge (by omega)]
    have g16 : decide (pn < 16) = false := decide_eq_false h16
    have g16' : decide ((pn : Int) < 16) = false := decide_eq_false (by omega)
    obtain ⟨V, hV⟩ : ∃ V, W.setCell ⟨p, 9, none⟩ (.int .i64 0) = V := ⟨_, rfl⟩
    have hkV : Kept (fun i => i = p) W V := by rw [← hV]; exact (Kept.refl (fun i => i = p) W).setCell (p := ⟨p, 9, none⟩) (.inl rfl) _
    have hbV : V.heap[p]? = some (.cells (PC { s with la := 0 } d vi (.slice pa pn pc) vd (sayV q)) 43 (0, 0)) := by rw [← hV]; exact blk_set hc.pb 9 _
    have HT := Lib.hid (tp_upd (s' := { s with la := 0 }) hc hg hkV hbV rfl rfl rfl rfl ⟨hc.ok.st, hc.ok.it, hc.ok.ps, by simp, hc.ok.ds⟩)
    clear hkV hbV hc hg h16 hsp
    go_enter Try.func46, Try.ntmps46
    go_wp2
    go_end0
    exact ⟨⟨_, rfl⟩, HT.out⟩
set_option maxRecDepth 100000 in
set_option maxHeartbeats 8000000 in
theorem begin_any' (G : Nat → Prop) (W : World) (p q : Nat) (s : PS) (L : List Ev) (k : Int) (hkk : 0 ≤ k ∧ k ≤ 7) (hR : RR G W p q s L) :
    Calls Try.prog 35 #[.pointer (some ⟨p, 0, none⟩), .int .i64 k] W fun r w' => (∃ x, r = .returned x) ∧ TP G W p q (s.beg k) L w' := by
  obtain ⟨d, vi, vp, vd, vo, Vs, hc, hg⟩ := hR
  have hI := hc.hi
  have hP := hc.hp
  have hI0 := hI
  have hP0 := hP
  obtain ⟨-, hI2⟩ := hI0
  obtain ⟨-, hP2⟩ := hP0
  rcases hI2 with ⟨rfl, -⟩ | ⟨ig, ic, icur, hie, -, -, -, icm, -, -⟩
  · rcases hP2 with ⟨rfl, -⟩ | ⟨pg, pc, pcur, hpe, -, -, -, pcm, -, -⟩
    · clear hI hP
      obtain ⟨⟨c1_0, c1_0f⟩, -, -, -, -, -, -, -, -, -, -, -⟩ := pcells hc.pb
      obtain ⟨V1, hV1⟩ : ∃ V, W.setCell ⟨p, 0, none⟩ (.int .i64 k) = V := ⟨_, rfl⟩
      have hb1 : V1.heap[p]? = some (.cells (PC { s with st := k } d (.slice none 0 0) (.slice none 0 0) vd (sayV q)) 43 (0, 0)) := by rw [← hV1]; exact blk_set hc.pb 0 _
      obtain ⟨-, -, -, ⟨c2_3, c2_3f⟩, -, -, -, -, -, -, -, -⟩ := pcells hb1
      obtain ⟨V2, hV2⟩ : ∃ V, V1.setCell ⟨p, 3, none⟩ (.int .u8 0) = V := ⟨_, rfl⟩
      have hb2 : V2.heap[p]? = some (.cells (PC { s with st := k, pv := 0 } d (.slice none 0 0) (.slice none 0 0) vd (sayV q)) 43 (0, 0)) := by rw [← hV2]; exact blk_set hb1 3 _
      obtain ⟨-, -, -, -, -, ⟨c3_5, c3_5f⟩, -, -, -, -, -, -⟩ := pcells hb2
      obtain ⟨V3, hV3⟩ : ∃ V, V2.setCell ⟨p, 5, none⟩ (.bool false) = V := ⟨_, rfl⟩
      have hb3 : V3.heap[p]? = some (.cells (PC { s with st := k, pv := 0, wr := false } d (.slice none 0 0) (.slice none 0 0) vd (sayV q)) 43 (0, 0)) := by rw [← hV3]; exact blk_set hb2 5 _
      obtain ⟨-, -, -, -, -, -, ⟨c4_6, c4_6f⟩, -, -, -, -, -⟩ := pcells hb3
      obtain ⟨V4, hV4⟩ : ∃ V, V3.setCell ⟨p, 6, none⟩ (.bool true) = V := ⟨_, rfl⟩
      have hb4 : V4.heap[p]? = some (.cells (PC { s with st := k, pv := 0, wr := false, fi := true } d (.slice none 0 0) (.slice none 0 0) vd (sayV q)) 43 (0, 0)) := by rw [← hV4]; exact blk_set hb3 6 _
      obtain ⟨-, -, -, -, -, -, -, -, ⟨c5_8, c5_8f⟩, -, -, -⟩ := pcells hb4
      obtain ⟨V5, hV5⟩ : ∃ V, V4.setCell ⟨p, 8, none⟩ (.bool false) = V := ⟨_, rfl⟩
      have hb5 : V5.heap[p]? = some (.cells (PC { s with st := k, pv := 0, wr := false, fi := true, so := false } d (.slice none 0 0) (.slice none 0 0) vd (sayV q)) 43 (0, 0)) := by rw [← hV5]; exact blk_set hb4 8 _
      obtain ⟨-, -, -, -, -, -, -, -, -, ⟨c6_9, c6_9f⟩, -, -⟩ := pcells hb5
      obtain ⟨V6, hV6⟩ : ∃ V, V5.setCell ⟨p, 9, none⟩ (.int .i64 0) = V := ⟨_, rfl⟩
      have hb6 : V6.heap[p]? = some (.cells (PC { s with st := k, pv := 0, wr := false, fi := true, so := false, la := 0 } d (.slice none 0 0) (.slice none 0 0) vd (sayV q)) 43 (0, 0)) := by rw [← hV6]; exact blk_set hb5 9 _
      obtain ⟨-, -, -, -, ⟨x4, x4f⟩, -, -, ⟨x7, x7f⟩, -, -, -, -⟩ := pcells hb6
      obtain ⟨E, hE⟩ : ∃ E, V6.drew = E := ⟨_, rfl⟩
      have hbE : E.heap[p]? = some (.cells (PC { s with st := k, pv := 0, wr := false, fi := true, so := false, la := 0 } d (.slice none 0 0) (.slice none 0 0) vd (sayV q)) 43 (0, 0)) := by rw [← hE]; exact ((Kept.refl (fun _ => False) V6).drew).blk hb6 id
      obtain ⟨-, -, -, -, ⟨y4, y4f⟩, -, -, ⟨y7, y7f⟩, -, -, -, -⟩ := pcells hbE
      obtain ⟨V7, hV7⟩ : ∃ V, E.setCell ⟨p, 4, none⟩ (.slice none 0 0) = V := ⟨_, rfl⟩
      have hb7 : V7.heap[p]? = some (.cells (PC { s with st := k, pv := 0, wr := false, fi := true, so := false, la := 0 } d (.slice none 0 0) (.slice none 0 0) vd (sayV q)) 43 (0, 0)) := by rw [← hV7]; exact blk_set hbE 4 _
      obtain ⟨-, -, -, -, -, -, -, ⟨z7, z7f⟩, -, -, -, -⟩ := pcells hb7
      obtain ⟨V8, hV8⟩ : ∃ V, V7.setCell ⟨p, 7, none⟩ (.slice none 0 0) = V := ⟨_, rfl⟩
      have hb8 : V8.heap[p]? = some (.cells (PC { s with st := k, pv := 0, wr := false, fi := true, so := false, la := 0 } d (.slice none 0 0) (.slice none 0 0) vd (sayV q)) 43 (0, 0)) := by rw [← hV8]; exact blk_set hb7 7 _
      have hk8 : Kept (fun i => i = p) W V8 := by
        rw [← hV8, ← hV7, ← hE, ← hV6, ← hV5, ← hV4, ← hV3, ← hV2, ← hV1]
        exact ((((((((Kept.refl (fun i => i = p) W).setCell (p := ⟨p, 0, none⟩) (.inl rfl) _).setCell (p := ⟨p, 3, none⟩) (.inl rfl) _).setCell (p := ⟨p, 5, none⟩) (.inl rfl) _).setCell (p := ⟨p, 6, none⟩) (.inl rfl) _).setCell (p := ⟨p, 8, none⟩) (.inl rfl) _).setCell (p := ⟨p, 9, none⟩) (.inl rfl) _).drew.setCell (p := ⟨p, 4, none⟩) (.inl rfl) _).setCell (p := ⟨p, 7, none⟩) (.inl rfl) _
      obtain ⟨bi, bp, bd⟩ := hc.blocks
      have hd8 : Own .u8 5 V8 vd s.ds := hc.hd.kept hk8 (fun b hb hh => (bd b hb).1 hh)
      have HT := Lib.hid (show TP G W p q (s.beg k) L V8 from tp_of hg (hc.re (s' := s.beg k) (vi' := .slice none 0 0) (vp' := .slice none 0 0) (vd' := vd) (hk8.mono fun i _ h => .inl h) hb8 (by show Own .u8 5 V8 (.slice none 0 0) []; exact Own.nil _ _ _) (by show Own .i64 3 V8 (.slice none 0 0) []; exact Own.nil _ _ _) hd8 (fun b hb => hc.ne b hb) (.inl rfl) (.inl rfl) (.inl rfl) rfl ⟨hkk, by simp [PS.beg], by simp [PS.beg], by simp [PS.beg], hc.ok.ds⟩) (fun i hi => .inl hi) (hk8.mono fun i _ h => .inl h))
      clear hb1 hb2 hb3 hb4 hb5 hb6 hb7 hb8 hbE hk8 hd8 bi bp bd hc hg
      go_enter Try.func35, Try.ntmps35
      go_wp2
      go_region
      all_goals go_wp2
      all_goals go_end0
      all_goals exact ⟨⟨_, rfl⟩, HT.out⟩
    · obtain ⟨pn, hpn⟩ : ∃ n, s.ps.length = n := ⟨_, rfl⟩
      rw [hpn] at hpe
      subst hpe
      clear hpn
      obtain ⟨⟨c1_0, c1_0f⟩, -, -, -, -, -, -, -, -, -, -, -⟩ := pcells hc.pb
      obtain ⟨V1, hV1⟩ : ∃ V, W.setCell ⟨p, 0, none⟩ (.int .i64 k) = V := ⟨_, rfl⟩
      have hb1 : V1.heap[p]? = some (.cells (PC { s with st := k } d (.slice none 0 0) (.slice (some ⟨pg, 0, none⟩) pn pc) vd (sayV q)) 43 (0, 0)) := by rw [← hV1]; exact blk_set hc.pb 0 _
      obtain ⟨-, -, -, ⟨c2_3, c2_3f⟩, -, -, -, -, -, -, -, -⟩ := pcells hb1
      obtain ⟨V2, hV2⟩ : ∃ V, V1.setCell ⟨p, 3, none⟩ (.int .u8 0) = V := ⟨_, rfl⟩
      have hb2 : V2.heap[p]? = some (.cells (PC { s with st := k, pv := 0 } d (.slice none 0 0) (.slice (some ⟨pg, 0, none⟩) pn pc) vd (sayV q)) 43 (0, 0)) := by rw [← hV2]; exact blk_set hb1 3 _
      obtain ⟨-, -, -, -, -, ⟨c3_5, c3_5f⟩, -, -, -, -, -, -⟩ := pcells hb2
      obtain ⟨V3, hV3⟩ : ∃ V, V2.setCell ⟨p, 5, none⟩ (.bool false) = V := ⟨_, rfl⟩
      have hb3 : V3.heap[p]? = some (.cells (PC { s with st := k, pv := 0, wr := false } d (.slice none 0 0) (.slice (some ⟨pg, 0, none⟩) pn pc) vd (sayV q)) 43 (0, 0)) := by rw [← hV3]; exact blk_set hb2 5 _
      obtain ⟨-, -, -, -, -, -, ⟨c4_6, c4_6f⟩, -, -, -, -, -⟩ := pcells hb3
      obtain ⟨V4, hV4⟩ : ∃ V, V3.setCell ⟨p, 6, none⟩ (.bool true) = V := ⟨_, rfl⟩
      have hb4 : V4.heap[p]? = some (.cells (PC { s with st := k, pv := 0, wr := false, fi := true } d (.slice none 0 0) (.slice (some ⟨pg, 0, none⟩) pn pc) vd (sayV q)) 43 (0, 0)) := by rw [← hV4]; exact blk_set hb3 6 _
      obtain ⟨-, -, -, -, -, -, -, -, ⟨c5_8, c5_8f⟩, -, -, -⟩ := pcells hb4
      obtain ⟨V5, hV5⟩ : ∃ V, V4.setCell ⟨p, 8, none⟩ (.bool false) = V := ⟨_, rfl⟩
      have hb5 : V5.heap[p]? = some (.cells (PC { s with st := k, pv := 0, wr := false, fi := true, so := false } d (.slice none 0 0) (.slice (some ⟨pg, 0, none⟩) pn pc) vd (sayV q)) 43 (0, 0)) := by rw [← hV5]; exact blk_set hb4 8 _
      obtain ⟨-, -, -, -, -, -, -, -, -, ⟨c6_9, c6_9f⟩, -, -⟩ := pcells hb5
      obtain ⟨V6, hV6⟩ : ∃ V, V5.setCell ⟨p, 9, none⟩ (.int .i64 0) = V := ⟨_, rfl⟩
      have hb6 : V6.heap[p]? = some (.cells (PC { s with st := k, pv := 0, wr := false, fi := true, so := false, la := 0 } d (.slice none 0 0) (.slice (some ⟨pg, 0, none⟩) pn pc) vd (sayV q)) 43 (0, 0)) := by rw [← hV6]; exact blk_set hb5 9 _
      obtain ⟨-, -, -, -, ⟨x4, x4f⟩, -, -, ⟨x7, x7f⟩, -, -, -, -⟩ := pcells hb6
      obtain ⟨E, hE⟩ : ∃ E, V6.drew = E := ⟨_, rfl⟩
      have hbE : E.heap[p]? = some (.cells (PC { s with st := k, pv := 0, wr := false, fi := true, so := false, la := 0 } d (.slice none 0 0) (.slice (some ⟨pg, 0, none⟩) pn pc) vd (sayV q)) 43 (0, 0)) := by rw [← hE]; exact ((Kept.refl (fun _ => False) V6).drew).blk hb6 id
      obtain ⟨-, -, -, -, ⟨y4, y4f⟩, -, -, ⟨y7, y7f⟩, -, -, -, -⟩ := pcells hbE
      obtain ⟨V7, hV7⟩ : ∃ V, E.setCell ⟨p, 4, none⟩ (.slice none 0 0) = V := ⟨_, rfl⟩
      have hb7 : V7.heap[p]? = some (.cells (PC { s with st := k, pv := 0, wr := false, fi := true, so := false, la := 0 } d (.slice none 0 0) (.slice (some ⟨pg, 0, none⟩) pn pc) vd (sayV q)) 43 (0, 0)) := by rw [← hV7]; exact blk_set hbE 4 _
      obtain ⟨-, -, -, -, -, -, -, ⟨z7, z7f⟩, -, -, -, -⟩ := pcells hb7
      obtain ⟨V8, hV8⟩ : ∃ V, V7.setCell ⟨p, 7, none⟩ (.slice (some ⟨pg, 0, none⟩) 0 pc) = V := ⟨_, rfl⟩
      have hb8 : V8.heap[p]? = some (.cells (PC { s with st := k, pv := 0, wr := false, fi := true, so := false, la := 0 } d (.slice none 0 0) (.slice (some ⟨pg, 0, none⟩) 0 pc) vd (sayV q)) 43 (0, 0)) := by rw [← hV8]; exact blk_set hb7 7 _
      have hk8 : Kept (fun i => i = p) W V8 := by
        rw [← hV8, ← hV7, ← hE, ← hV6, ← hV5, ← hV4, ← hV3, ← hV2, ← hV1]
        exact ((((((((Kept.refl (fun i => i = p) W).setCell (p := ⟨p, 0, none⟩) (.inl rfl) _).setCell (p := ⟨p, 3, none⟩) (.inl rfl) _).setCell (p := ⟨p, 5, none⟩) (.inl rfl) _).setCell (p := ⟨p, 6, none⟩) (.inl rfl) _).setCell (p := ⟨p, 8, none⟩) (.inl rfl) _).setCell (p := ⟨p, 9, none⟩) (.inl rfl) _).drew.setCell (p := ⟨p, 4, none⟩) (.inl rfl) _).setCell (p := ⟨p, 7, none⟩) (.inl rfl) _
      obtain ⟨bi, bp, bd⟩ := hc.blocks
      have hd8 : Own .u8 5 V8 vd s.ds := hc.hd.kept hk8 (fun b hb hh => (bd b hb).1 hh)
      have HT := Lib.hid (show TP G W p q (s.beg k) L V8 from tp_of hg (hc.re (s' := s.beg k) (vi' := .slice none 0 0) (vp' := .slice (some ⟨pg, 0, none⟩) 0 pc) (vd' := vd) (hk8.mono fun i _ h => .inl h) hb8 (by show Own .u8 5 V8 (.slice none 0 0) []; exact Own.nil _ _ _) (by show Own .i64 3 V8 (.slice (some ⟨pg, 0, none⟩) 0 pc) []; obtain ⟨-, h2⟩ := hP; rcases h2 with ⟨h2, -⟩ | ⟨g9, cap9, cur9, h2, -, hg9, hn9, hc9, hs9, -⟩; cases h2; cases h2; exact ⟨rfl, .inr ⟨_, _, cur9, rfl, Nat.zero_le _, hk8.blk hg9 (fun hh => blk_ne hg9 hc.pb (by decide) hh), Nat.zero_le _, hc9, hs9, by simp⟩⟩) hd8 (fun b hb => hc.ne b hb) (.inl rfl) (.inl rfl) (.inl rfl) rfl ⟨hkk, by simp [PS.beg], by simp [PS.beg], by simp [PS.beg], hc.ok.ds⟩) (fun i hi => .inl hi) (hk8.mono fun i _ h => .inl h))
      clear hb1 hb2 hb3 hb4 hb5 hb6 hb7 hb8 hbE hk8 hd8 bi bp bd hc hg
      go_enter Try.func35, Try.ntmps35
      go_wp2
      go_region
      all_goals go_wp2
      all_goals go_end0
      all_goals exact ⟨⟨_, rfl⟩, HT.out⟩
  · obtain ⟨iN, hin⟩ : ∃ n, s.it.length = n := ⟨_, rfl⟩
    rw [hin] at hie
    subst hie
    clear hin
    rcases hP2 with ⟨rfl, -⟩ | ⟨pg, pc, pcur, hpe, -, -, -, pcm, -, -⟩
    · clear hP
      obtain ⟨⟨c1_0, c1_0f⟩, -, -, -, -, -, -, -, -, -, -, -⟩ := pcells hc.pb
      obtain ⟨V1, hV1⟩ : ∃ V, W.setCell ⟨p, 0, none⟩ (.int .i64 k) = V := ⟨_, rfl⟩
      have hb1 : V1.heap[p]? = some (.cells (PC { s with st := k } d (.slice (some ⟨ig, 0, none⟩) iN ic) (.slice none 0 0) vd (sayV q)) 43 (0, 0)) := by rw [← hV1]; exact blk_set hc.pb 0 _
      obtain ⟨-, -, -, ⟨c2_3, c2_3f⟩, -, -, -, -, -, -, -, -⟩ := pcells hb1
      obtain ⟨V2, hV2⟩ : ∃ V, V1.setCell ⟨p, 3, none⟩ (.int .u8 0) = V := ⟨_, rfl⟩
      have hb2 : V2.heap[p]? = some (.cells (PC { s with st := k, pv := 0 } d (.slice (some ⟨ig, 0, none⟩) iN ic) (.slice none 0 0) vd (sayV q)) 43 (0, 0)) := by rw [← hV2]; exact blk_set hb1 3 _
      obtain ⟨-, -, -, -, -, ⟨c3_5, c3_5f⟩, -, -, -, -, -, -⟩ := pcells hb2
      obtain ⟨V3, hV3⟩ : ∃ V, V2.setCell ⟨p, 5, none⟩ (.bool false) = V := ⟨_, rfl⟩
      have hb3 : V3.heap[p]? = some (.cells (PC { s with st := k, pv := 0, wr := false } d (.slice (some ⟨ig, 0, none⟩) iN ic) (.slice none 0 0) vd (sayV q)) 43 (0, 0)) := by rw [← hV3]; exact blk_set hb2 5 _
      obtain ⟨-, -, -, -, -, -, ⟨c4_6, c4_6f⟩, -, -, -, -, -⟩ := pcells hb3
      obtain ⟨V4, hV4⟩ : ∃ V, V3.setCell ⟨p, 6, none⟩ (.bool true) = V := ⟨_, rfl⟩
      have hb4 : V4.heap[p]? = some (.cells (PC { s with st := k, pv := 0, wr := false, fi := true } d (.slice (some ⟨ig, 0, none⟩) iN ic) (.slice none 0 0) vd (sayV q)) 43 (0, 0)) := by rw [← hV4]; exact blk_set hb3 6 _
      obtain ⟨-, -, -, -, -, -, -, -, ⟨c5_8, c5_8f⟩, -, -, -⟩ := pcells hb4
      obtain ⟨V5, hV5⟩ : ∃ V, V4.setCell ⟨p, 8, none⟩ (.bool false) = V := ⟨_, rfl⟩
      have hb5 : V5.heap[p]? = some (.cells (PC { s with st := k, pv := 0, wr := false, fi := true, so := false } d (.slice (some ⟨ig, 0, none⟩) iN ic) (.slice none 0 0) vd (sayV q)) 43 (0, 0)) := by rw [← hV5]; exact blk_set hb4 8 _
      obtain ⟨-, -, -, -, -, -, -, -, -, ⟨c6_9, c6_9f⟩, -, -⟩ := pcells hb5
      obtain ⟨V6, hV6⟩ : ∃ V, V5.setCell ⟨p, 9, none⟩ (.int .i64 0) = V := ⟨_, rfl⟩
      have hb6 : V6.heap[p]? = some (.cells (PC { s with st := k, pv := 0, wr := false, fi := true, so := false, la := 0 } d (.slice (some ⟨ig, 0, none⟩) iN ic) (.slice none 0 0) vd (sayV q)) 43 (0, 0)) := by rw [← hV6]; exact blk_set hb5 9 _
      obtain ⟨-, -, -, -, ⟨x4, x4f⟩, -, -, ⟨x7, x7f⟩, -, -, -, -⟩ := pcells hb6
      obtain ⟨E, hE⟩ : ∃ E, V6.drew = E := ⟨_, rfl⟩
      have hbE : E.heap[p]? = some (.cells (PC { s with st := k, pv := 0, wr := false, fi := true, so := false, la := 0 } d (.slice (some ⟨ig, 0, none⟩) iN ic) (.slice none 0 0) vd (sayV q)) 43 (0, 0)) := by rw [← hE]; exact ((Kept.refl (fun _ => False) V6).drew).blk hb6 id
      obtain ⟨-, -, -, -, ⟨y4, y4f⟩, -, -, ⟨y7, y7f⟩, -, -, -, -⟩ := pcells hbE
      obtain ⟨V7, hV7⟩ : ∃ V, E.setCell ⟨p, 4, none⟩ (.slice (some ⟨ig, 0, none⟩) 0 ic) = V := ⟨_, rfl⟩
      have hb7 : V7.heap[p]? = some (.cells (PC { s with st := k, pv := 0, wr := false, fi := true, so := false, la := 0 } d (.slice (some ⟨ig, 0, none⟩) 0 ic) (.slice none 0 0) vd (sayV q)) 43 (0, 0)) := by rw [← hV7]; exact blk_set hbE 4 _
      obtain ⟨-, -, -, -, -, -, -, ⟨z7, z7f⟩, -, -, -, -⟩ := pcells hb7
      obtain ⟨V8, hV8⟩ : ∃ V, V7.setCell ⟨p, 7, none⟩ (.slice none 0 0) = V := ⟨_, rfl⟩
      have hb8 : V8.heap[p]? = some (.cells (PC { s with st := k, pv := 0, wr := false, fi := true, so := false, la := 0 } d (.slice (some ⟨ig, 0, none⟩) 0 ic) (.slice none 0 0) vd (sayV q)) 43 (0, 0)) := by rw [← hV8]; exact blk_set hb7 7 _
      have hk8 : Kept (fun i => i = p) W V8 := by
        rw [← hV8, ← hV7, ← hE, ← hV6, ← hV5, ← hV4, ← hV3, ← hV2, ← hV1]
        exact ((((((((Kept.refl (fun i => i = p) W).setCell (p := ⟨p, 0, none⟩) (.inl rfl) _).setCell (p := ⟨p, 3, none⟩) (.inl rfl) _).setCell (p := ⟨p, 5, none⟩) (.inl rfl) _).setCell (p := ⟨p, 6, none⟩) (.inl rfl) _).setCell (p := ⟨p, 8, none⟩) (.inl rfl) _).setCell (p := ⟨p, 9, none⟩) (.inl rfl) _).drew.setCell (p := ⟨p, 4, none⟩) (.inl rfl) _).setCell (p := ⟨p, 7, none⟩) (.inl rfl) _
      obtain ⟨bi, bp, bd⟩ := hc.blocks
      have hd8 : Own .u8 5 V8 vd s.ds := hc.hd.kept hk8 (fun b hb hh => (bd b hb).1 hh)
      have HT := Lib.hid (show TP G W p q (s.beg k) L V8 from tp_of hg (hc.re (s' := s.beg k) (vi' := .slice (some ⟨ig, 0, none⟩) 0 ic) (vp' := .slice none 0 0) (vd' := vd) (hk8.mono fun i _ h => .inl h) hb8 (by show Own .u8 5 V8 (.slice (some ⟨ig, 0, none⟩) 0 ic) []; obtain ⟨-, h2⟩ := hI; rcases h2 with ⟨h2, -⟩ | ⟨g9, cap9, cur9, h2, -, hg9, hn9, hc9, hs9, -⟩; cases h2; cases h2; exact ⟨rfl, .inr ⟨_, _, cur9, rfl, Nat.zero_le _, hk8.blk hg9 (fun hh => blk_ne hg9 hc.pb (by decide) hh), Nat.zero_le _, hc9, hs9, by simp⟩⟩) (by show Own .i64 3 V8 (.slice none 0 0) []; exact Own.nil _ _ _) hd8 (fun b hb => hc.ne b hb) (.inl rfl) (.inl rfl) (.inl rfl) rfl ⟨hkk, by simp [PS.beg], by simp [PS.beg], by simp [PS.beg], hc.ok.ds⟩) (fun i hi => .inl hi) (hk8.mono fun i _ h => .inl h))
      clear hb1 hb2 hb3 hb4 hb5 hb6 hb7 hb8 hbE hk8 hd8 bi bp bd hc hg
      go_enter Try.func35, Try.ntmps35
      go_wp2
      go_region
      all_goals go_wp2
      all_goals go_end0
      all_goals exact ⟨⟨_, rfl⟩, HT.out⟩
    · obtain ⟨pn, hpn⟩ : ∃ n, s.ps.length = n := ⟨_, rfl⟩
      rw [hpn] at hpe
      subst hpe
      clear hpn
      obtain ⟨⟨c1_0, c1_0f⟩, -, -, -, -, -, -, -, -, -, -, -⟩ := pcells hc.pb
      obtain ⟨V1, hV1⟩ : ∃ V, W.setCell ⟨p, 0, none⟩ (.int .i64 k) = V := ⟨_, rfl⟩
      have hb1 : V1.heap[p]? = some (.cells (PC { s with st := k } d (.slice (some ⟨ig, 0, none⟩) iN ic) (.slice (some ⟨pg, 0, none⟩) pn pc) vd (sayV q)) 43 (0, 0)) := by rw [← hV1]; exact blk_set hc.pb 0 _
      obtain ⟨-, -, -, ⟨c2_3, c2_3f⟩, -, -, -, -, -, -, -, -⟩ := pcells hb1
      obtain ⟨V2, hV2⟩ : ∃ V, V1.setCell ⟨p, 3, none⟩ (.int .u8 0) = V := ⟨_, rfl⟩
      have hb2 : V2.heap[p]? = some (.cells (PC { s with st := k, pv := 0 } d (.slice (some ⟨ig, 0, none⟩) iN ic) (.slice (some ⟨pg, 0, none⟩) pn pc) vd (sayV q)) 43 (0, 0)) := by rw [← hV2]; exact blk_set hb1 3 _
      obtain ⟨-, -, -, -, -, ⟨c3_5, c3_5f⟩, -, -, -, -, -, -⟩ := pcells hb2
      obtain ⟨V3, hV3⟩ : ∃ V, V2.setCell ⟨p, 5, none⟩ (.bool false) = V := ⟨_, rfl⟩
      have hb3 : V3.heap[p]? = some (.cells (PC { s with st := k, pv := 0, wr := false } d (.slice (some ⟨ig, 0, none⟩) iN ic) (.slice (some ⟨pg, 0, none⟩) pn pc) vd (sayV q)) 43 (0, 0)) := by rw [← hV3]; exact blk_set hb2 5 _
      obtain ⟨-, -, -, -, -, -, ⟨c4_6, c4_6f⟩, -, -, -, -, -⟩ := pcells hb3
      obtain ⟨V4, hV4⟩ : ∃ V, V3.setCell ⟨p, 6, none⟩ (.bool true) = V := ⟨_, rfl⟩
      have hb4 : V4.heap[p]? = some (.cells (PC { s with st := k, pv := 0, wr := false, fi := true } d (.slice (some ⟨ig, 0, none⟩) iN ic) (.slice (some ⟨pg, 0, none⟩) pn pc) vd (sayV q)) 43 (0, 0)) := by rw [← hV4]; exact blk_set hb3 6 _
      obtain ⟨-, -, -, -, -, -, -, -, ⟨c5_8, c5_8f⟩, -, -, -⟩ := pcells hb4
      obtain ⟨V5, hV5⟩ : ∃ V, V4.setCell ⟨p, 8, none⟩ (.bool false) = V := ⟨_, rfl⟩
      have hb5 : V5.heap[p]? = some (.cells (PC { s with st := k, pv := 0, wr := false, fi := true, so := false } d (.slice (some ⟨ig, 0, none⟩) iN ic) (.slice (some ⟨pg, 0, none⟩) pn pc) vd (sayV q)) 43 (0, 0)) := by rw [← hV5]; exact blk_set hb4 8 _
      obtain ⟨-, -, -, -, -, -, -, -, -, ⟨c6_9, c6_9f⟩, -, -⟩ := pcells hb5
      obtain ⟨V6, hV6⟩ : ∃ V, V5.setCell ⟨p, 9, none⟩ (.int .i64 0) = V := ⟨_, rfl⟩
      have hb6 : V6.heap[p]? = some (.cells (PC { s with st := k, pv := 0, wr := false, fi := true, so := false, la := 0 } d (.slice (some ⟨ig, 0, none⟩) iN ic) (.slice (some ⟨pg, 0, none⟩) pn pc) vd (sayV q)) 43 (0, 0)) := by rw [← hV6]; exact blk_set hb5 9 _
      obtain ⟨-, -, -, -, ⟨x4, x4f⟩, -, -, ⟨x7, x7f⟩, -, -, -, -⟩ := pcells hb6
      obtain ⟨E, hE⟩ : ∃ E, V6.drew = E := ⟨_, rfl⟩
      have hbE : E.heap[p]? = some (.cells (PC { s with st := k, pv := 0, wr := false, fi := true, so := false, la := 0 } d (.slice (some ⟨ig, 0, none⟩) iN ic) (.slice (some ⟨pg, 0, none⟩) pn pc) vd (sayV q)) 43 (0, 0)) := by rw [← hE]; exact ((Kept.refl (fun _ => False) V6).drew).blk hb6 id
      obtain ⟨-, -, -, -, ⟨y4, y4f⟩, -, -, ⟨y7, y7f⟩, -, -, -, -⟩ := pcells hbE
      obtain ⟨V7, hV7⟩ : ∃ V, E.setCell ⟨p, 4, none⟩ (.slice (some ⟨ig, 0, none⟩) 0 ic) = V := ⟨_, rfl⟩
      have hb7 : V7.heap[p]? = some (.cells (PC { s with st := k, pv := 0, wr := false, fi := true, so := false, la := 0 } d (.slice (some ⟨ig, 0, none⟩) 0 ic) (.slice (some ⟨pg, 0, none⟩) pn pc) vd (sayV q)) 43 (0, 0)) := by rw [← hV7]; exact blk_set hbE 4 _
      obtain ⟨-, -, -, -, -, -, -, ⟨z7, z7f⟩, -, -, -, -⟩ := pcells hb7
      obtain ⟨V8, hV8⟩ : ∃ V, V7.setCell ⟨p, 7, none⟩ (.slice (some ⟨pg, 0, none⟩) 0 pc) = V := ⟨_, rfl⟩
      have hb8 : V8.heap[p]? = some (.cells (PC { s with st := k, pv := 0, wr := false, fi := true, so := false, la := 0 } d (.slice (some ⟨ig, 0, none⟩) 0 ic) (.slice (some ⟨pg, 0, none⟩) 0 pc) vd (sayV q)) 43 (0, 0)) := by rw [← hV8]; exact blk_set hb7 7 _
      have hk8 : Kept (fun i => i = p) W V8 := by
        rw [← hV8, ← hV7, ← hE, ← hV6, ← hV5, ← hV4, ← hV3, ← hV2, ← hV1]
        exact ((((((((Kept.refl (fun i => i = p) W).setCell (p := ⟨p, 0, none⟩) (.inl rfl) _).setCell (p := ⟨p, 3, none⟩) (.inl rfl) _).setCell (p := ⟨p, 5, none⟩) (.inl rfl) _).setCell (p := ⟨p, 6, none⟩) (.inl rfl) _).setCell (p := ⟨p, 8, none⟩) (.inl rfl) _).setCell (p := ⟨p, 9, none⟩) (.inl rfl) _).drew.setCell (p := ⟨p, 4, none⟩) (.inl rfl) _).setCell (p := ⟨p, 7, none⟩) (.inl rfl) _
      obtain ⟨bi, bp, bd⟩ := hc.blocks
      have hd8 : Own .u8 5 V8 vd s.ds := hc.hd.kept hk8 (fun b hb hh => (bd b hb).1 hh)
      have HT := Lib.hid (show TP G W p q (s.beg k) L V8 from tp_of hg (hc.re (s' := s.beg k) (vi' := .slice (some ⟨ig, 0, none⟩) 0 ic) (vp' := .slice (some ⟨pg, 0, none⟩) 0 pc) (vd' := vd) (hk8.mono fun i _ h => .inl h) hb8 (by show Own .u8 5 V8 (.slice (some ⟨ig, 0, none⟩) 0 ic) []; obtain ⟨-, h2⟩ := hI; rcases h2 with ⟨h2, -⟩ | ⟨g9, cap9, cur9, h2, -, hg9, hn9, hc9, hs9, -⟩; cases h2; cases h2; exact ⟨rfl, .inr ⟨_, _, cur9, rfl, Nat.zero_le _, hk8.blk hg9 (fun hh => blk_ne hg9 hc.pb (by decide) hh), Nat.zero_le _, hc9, hs9, by simp⟩⟩) (by show Own .i64 3 V8 (.slice (some ⟨pg, 0, none⟩) 0 pc) []; obtain ⟨-, h2⟩ := hP; rcases h2 with ⟨h2, -⟩ | ⟨g9, cap9, cur9, h2, -, hg9, hn9, hc9, hs9, -⟩; cases h2; cases h2; exact ⟨rfl, .inr ⟨_, _, cur9, rfl, Nat.zero_le _, hk8.blk hg9 (fun hh => blk_ne hg9 hc.pb (by decide) hh), Nat.zero_le _, hc9, hs9, by simp⟩⟩) hd8 (fun b hb => hc.ne b hb) (.inl rfl) (.inl rfl) (.inl rfl) rfl ⟨hkk, by simp [PS.beg], by simp [PS.beg], by simp [PS.beg], hc.ok.ds⟩) (fun i hi => .inl hi) (hk8.mono fun i _ h => .inl h))
      clear hb1 hb2 hb3 hb4 hb5 hb6 hb7 hb8 hbE hk8 hd8 bi bp bd hc hg
      go_enter Try.func35, Try.ntmps35
      go_wp2
      go_region
      all_goals go_wp2
      all_goals go_end0
      all_goals exact ⟨⟨_, rfl⟩, HT.out⟩
end Go.Proofs.Ytnaoobgghgnflaa
