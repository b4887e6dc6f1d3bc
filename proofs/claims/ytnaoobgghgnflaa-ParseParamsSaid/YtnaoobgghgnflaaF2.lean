/- The parser: data told, lists kept, begin. -/
import Derived.Test.YtnaoobgghgnflaaF1
namespace Go.Proofs.Ytnaoobgghgnflaa
open Go.RowKit Pl
set_option linter.unusedVariables false
set_option linter.unusedSimpArgs false
def evDV (k : Int) (ad : Option Addr) (nd cd : Nat) : EvV := ⟨k, 0, 0, 0, ByteArray.empty, none, 0, 0, ad, nd, cd⟩
theorem evD_at {w : World} {M : Nat → Prop} (k : Int) {ad : Option Addr} {nd cd : Nat} {xs : List Int} (h : SlAt .u8 w ad nd xs) (hn : ad = none → nd = 0 ∧ cd = 0) (hM : ∀ b off, ad = some ⟨b, off, none⟩ → ¬ M b ∧ b < w.heap.size) : EvAt w M (evDV k ad nd cd) ⟨k, 0, 0, 0, ByteArray.empty, [], xs⟩ :=
  ⟨rfl, rfl, rfl, rfl, rfl, ⟨rfl, .inl rfl⟩, h, (fun _ => ⟨rfl, rfl⟩), hn, (fun _ _ h => by cases h), hM⟩
/-- A data event told: the row was made behind the world W0. -/
theorem sayD (G : Nat → Prop) (W0 W : World) (p q : Nat) (s : PS) (L : List Ev) (hR : RR G W0 p q s L) (hk : Kept (fun _ => False) W0 W) (hn : L.length ≤ 1000000) (k : Int) (v : Value) (xs : List Int) (ho : Own .u8 5 W v xs) (hb : ∀ b, v.ownBlock = some b → W0.heap.size ≤ b) :
    Calls Try.prog 18 #[.agg #[.int .i64 k, .int .i32 0, .int .u8 0, .int .u8 0, .string ByteArray.empty, .slice none 0 0, v], .pointer (some ⟨q, 0, none⟩)] W fun x w' => (∃ y, x = .returned y) ∧ TP G W0 p q s (L ++ [⟨k, 0, 0, 0, ByteArray.empty, [], xs⟩]) w' := by
  have hlt := ho.lt
  obtain ⟨a, c, rfl, hs, -, -, hnil, hob⟩ := ho.shape
  refine (sayR G W p q s L (hR.up hk) hn (evDV k a xs.length c) _ (evD_at k hs hnil (fun b off h => ⟨fun hg => ?_, hlt b (hob b off h)⟩))).mono ?_
  · have h1 := hb b (hob b off h)
    have h2 := hR.lt b hg
    omega
  · rintro r w' ⟨hr, ht⟩
    exact ⟨hr, TP.then (fun _ h => .inl h) (hk.mono fun _ _ h => h.elim) ht⟩
set_option maxRecDepth 100000 in
set_option maxHeartbeats 8000000 in
theorem told_any (G : Nat → Prop) (W : World) (p q : Nat) (s : PS) (L : List Ev) (hR : RR G W p q s L) (hn : L.length ≤ 1000000) :
    Calls Try.prog 36 #[.pointer (some ⟨p, 0, none⟩)] W fun r w' => (∃ x, r = .returned x) ∧ TP G W p q s (L ++ [toldE s]) w' := by
  have HR := Lib.hid hR
  obtain ⟨d, vi, vp, vd, vo, Vs, hc, hg⟩ := hR
  obtain ⟨da, dc, hde, hsd, -, -, hdn, -⟩ := hc.hd.shape
  have hdl := hc.ok.ds
  obtain ⟨dn, hdn0⟩ : ∃ n, s.ds.length = n := ⟨_, rfl⟩
  rw [hdn0] at hde hsd hdn hdl
  subst hde
  have hkd : Kept (fun _ => False) W W.drew := (Kept.refl _ _).drew
  obtain ⟨-, -, -, -, -, -, -, -, -, -, ⟨c10, c10f⟩, ⟨c11, c11f⟩⟩ := pcells hc.pb
  obtain ⟨-, -, -, -, -, -, -, -, -, -, ⟨e10, e10f⟩, ⟨e11, e11f⟩⟩ := pcells (hkd.blk hc.pb id)
  have HC := Lib.hid (clone_any da dn dc s.ds W.drew (hsd.kept hkd (fun _ _ _ _ => id)) hdn (by omega))
  have HN := Lib.hid (And.intro hn hkd)
  have HB := Lib.hid hc.pb
  unfold sayV at c11 e11
  clear hc hg hsd hdn hdl hdn0 hn hkd
  go_enter Try.func36, Try.ntmps36
  go_wp2
  go_region_with (first
    | (go_at_call 21; refine HC.out.mono ?_; rintro r w5 ⟨v, rfl, ho, hk, hb⟩; obtain ⟨av, cv, hve, -⟩ := ho.shape; subst hve; have hk2 := HN.out.2.then hk; obtain ⟨-, -, -, -, -, -, -, -, -, -, -, ⟨f11, f11f⟩⟩ := pcells (hk2.blk HB.out id); unfold sayV at f11; have H5 := Lib.hid (And.intro ho (And.intro hk2 hb)); clear ho hk hk2 hb)
    | (go_at_call 18; refine (sayD G W _ p q s L HR.out H5.out.2.1 HN.out.1 5 _ s.ds H5.out.1 (fun b hb => H5.out.2.2 b hb)).mono ?_; rintro r w6 ⟨⟨y, rfl⟩, ht⟩; have H6 := Lib.hid ht; clear ht))
  all_goals go_wp2
  all_goals go_end0
  all_goals exact ⟨⟨_, rfl⟩, H6.out⟩
set_option maxRecDepth 100000 in
set_option maxHeartbeats 8000000 in
theorem data_any (G : Nat → Prop) (W : World) (p q : Nat) (s : PS) (L : List Ev) (a : Option Addr) (len cap : Nat) (xs : List Int) (hR : RR G W p q s L) (hs : SlAt .u8 W a len xs) (hnil : a = none → len = 0 ∧ cap = 0) (hl : len ≤ 1000000) (hn : L.length ≤ 1000000) :
    Calls Try.prog 29 #[.pointer (some ⟨p, 0, none⟩), .slice a len cap] W fun r w' => (∃ x, r = .returned x) ∧ TP G W p q s (L ++ [dataE s xs]) w' := by
  have HR := Lib.hid hR
  obtain ⟨d, vi, vp, vd, vo, Vs, hc, hg⟩ := hR
  have hkd : Kept (fun _ => False) W W.drew := (Kept.refl _ _).drew
  obtain ⟨⟨c0, c0f⟩, -, -, -, -, -, -, -, -, -, -, ⟨c11, c11f⟩⟩ := pcells hc.pb
  obtain ⟨-, -, -, -, -, -, -, -, -, -, -, ⟨e11, e11f⟩⟩ := pcells (hkd.blk hc.pb id)
  have HC := Lib.hid (clone_any a len cap xs W.drew (hs.kept hkd (fun _ _ _ _ => id)) hnil (by omega))
  have HN := Lib.hid (And.intro hn hkd)
  have HB := Lib.hid hc.pb
  unfold sayV at c11 e11
  clear hc hg hs hnil hl hn hkd
  by_cases h6 : s.st = 6
  · have g6 : (s.st == 6) = true := by simp [h6]
    have e : dataE s xs = ⟨10, 0, 0, 0, ByteArray.empty, [], xs⟩ := by unfold dataE; rw [if_pos h6]
    rw [e]
    clear e h6
    go_enter Try.func29, Try.ntmps29
    go_wp2
    go_region_with (first
      | (go_at_call 21; refine HC.out.mono ?_; rintro r w5 ⟨v, rfl, ho, hk, hb⟩; obtain ⟨av, cv, hve, -⟩ := ho.shape; subst hve; have hk2 := HN.out.2.then hk; obtain ⟨-, -, -, -, -, -, -, -, -, -, -, ⟨f11, f11f⟩⟩ := pcells (hk2.blk HB.out id); unfold sayV at f11; have H5 := Lib.hid (And.intro ho (And.intro hk2 hb)); clear ho hk hk2 hb)
      | (go_at_call 18; refine (sayD G W _ p q s L HR.out H5.out.2.1 HN.out.1 10 _ xs H5.out.1 (fun b hb => H5.out.2.2 b hb)).mono ?_; rintro r w6 ⟨⟨y, rfl⟩, ht⟩; have H6 := Lib.hid ht; clear ht))
    all_goals go_wp2
    all_goals go_end0
    all_goals exact ⟨⟨_, rfl⟩, H6.out⟩
  · have g6 : (s.st == 6) = false := by simp [h6]
    have e : dataE s xs = ⟨7, 0, 0, 0, ByteArray.empty, [], xs⟩ := by unfold dataE; rw [if_neg h6]
    rw [e]
    clear e h6
    go_enter Try.func29, Try.ntmps29
    go_wp2
    go_region_with (first
      | (go_at_call 21; refine HC.out.mono ?_; rintro r w5 ⟨v, rfl, ho, hk, hb⟩; obtain ⟨av, cv, hve, -⟩ := ho.shape; subst hve; have hk2 := HN.out.2.then hk; obtain ⟨-, -, -, -, -, -, -, -, -, -, -, ⟨f11, f11f⟩⟩ := pcells (hk2.blk HB.out id); unfold sayV at f11; have H5 := Lib.hid (And.intro ho (And.intro hk2 hb)); clear ho hk hk2 hb)
      | (go_at_call 18; refine (sayD G W _ p q s L HR.out H5.out.2.1 HN.out.1 7 _ xs H5.out.1 (fun b hb => H5.out.2.2 b hb)).mono ?_; rintro r w6 ⟨⟨y, rfl⟩, ht⟩; have H6 := Lib.hid ht; clear ht))
    all_goals go_wp2
    all_goals go_end0
    all_goals exact ⟨⟨_, rfl⟩, H6.out⟩
set_option maxRecDepth 100000 in
set_option maxHeartbeats 8000000 in
theorem keep_any (G : Nat → Prop) (W : World) (p q : Nat) (s : PS) (L : List Ev) (c : Int) (hR : RR G W p q s L) :
    Calls Try.prog 43 #[.pointer (some ⟨p, 0, none⟩), .int .u8 c] W fun r w' => (∃ x, r = .returned x) ∧ TP G W p q (keepS s c) L w' := by
  obtain ⟨d, vi, vp, vd, vo, Vs, hc, hg⟩ := hR
  obtain ⟨ia, ic, hie, hsi, -⟩ := hc.hi.shape
  obtain ⟨iN, hin⟩ : ∃ n, s.it.length = n := ⟨_, rfl⟩
  rw [hin] at hie
  subst hie
  have hil := hc.ok.it
  rw [hin] at hil
  obtain ⟨-, -, -, -, ⟨c4, c4f⟩, ⟨c5, c5f⟩, -, -, -, -, -, -⟩ := pcells hc.pb
  by_cases h2 : iN = 2
  · have e : keepS s c = { s with wr := true } := by unfold keepS; rw [if_pos (by omega)]
    rw [e]
    have g2 : ((iN : Int) == 2) = true := by simp [h2]
    obtain ⟨V, hV⟩ : ∃ V, W.setCell ⟨p, 5, none⟩ (.bool true) = V := ⟨_, rfl⟩
    have hkV : Kept (fun i => i = p) W V := by rw [← hV]; exact (Kept.refl (fun i => i = p) W).setCell (p := ⟨p, 5, none⟩) (.inl rfl) _
    have hbV : V.heap[p]? = some (.cells (PC { s with wr := true } d (.slice ia iN ic) vp vd (sayV q)) 43 (0, 0)) := by rw [← hV]; exact blk_set hc.pb 5 _
    have HT := Lib.hid (tp_upd hc hg hkV hbV rfl rfl rfl rfl ⟨hc.ok.st, hc.ok.it, hc.ok.ps, hc.ok.la, hc.ok.ds⟩)
    clear hkV hbV hc hg e h2 hsi
    go_enter Try.func43, Try.ntmps43
    go_wp2
    exact bodyPost_ret (results_none rfl _ _ _) rfl ⟨⟨_, rfl⟩, HT.out⟩
  · have e : keepS s c = { s with it := s.it ++ [c] } := by unfold keepS; rw [if_neg (by omega)]
    rw [e]
    have g2 : ((iN : Int) == 2) = false := by simp; omega
    obtain ⟨i0, hi, hz, hsz, hby⟩ := info_parts Try.infoByte
    have HI := Lib.hid (And.intro hi (And.intro hz (And.intro hsz hby)))
    have hil1 : iN ≤ 1 := by omega
    have HC := Lib.hid (And.intro hc (And.intro hg (And.intro hin hil1)))
    obtain ⟨W2, hW2⟩ : ∃ W2, W.alloc (.cells #[.int .u8 c] 5) = W2 := ⟨_, rfl⟩
    have hk2 : Kept (fun _ => False) W W2 := by rw [← hW2]; exact (Kept.refl _ _).alloc _
    have hs2 : SlAt .u8 W2 (some ⟨W.heap.size, 0, none⟩) 1 [c] := by rw [← hW2]; exact slAt_one W c 5
    have H2 := Lib.hid (And.intro hk2 (And.intro hs2 (And.intro (hc.hi.kept hk2 (fun _ _ => id)) (And.intro (hk2.blk hc.pb id) hk2.size))))
    have h63 : (9223372036854775807 : Nat) = maxLen := rfl
    clear hi hz hsz hby hc hg hin hsi hk2 hs2 e h2 hil hil1
    go_enter Try.func43, Try.ntmps43
    go_wp2_with (first
      | (at_builtin; refine wpList_appInts rfl (.tmp 17) (.tmp 19) 22 rfl 5 .u8 i0 (.int .u8 0) 1 Try.underlying22 HI.out.1 HI.out.2.1 HI.out.2.2.1 HI.out.2.2.2 rfl (.slice ia iN ic) s.it rfl H2.out.2.2.1 (some ⟨W.heap.size, 0, none⟩) 1 1 [c] rfl (fun h => by cases h) H2.out.2.1 (by have h8 := HC.out.2.2.1; have h9 := HC.out.2.2.2; omega) (by have h8 := HC.out.2.2.1; have h9 := HC.out.2.2.2; omega) ?_; intro v5 w5 ho5 hk5 hpr5; obtain ⟨a5, c5, hv5e, -⟩ := ho5.shape; obtain ⟨n5, hn5⟩ : ∃ n, (s.it ++ [c]).length = n := ⟨_, rfl⟩; rw [hn5] at hv5e; subst hv5e; clear hn5; have hbp5 := hk5.blk H2.out.2.2.2.1 (fun h => by have h2 := own_blk H2.out.2.2.1 h; obtain ⟨cc, hcc⟩ := h2; exact blk_ne hcc H2.out.2.2.2.1 (by decide) rfl); obtain ⟨-, -, -, -, ⟨g4, g4f⟩, -, -, -, -, -, -, -⟩ := pcells hbp5; have H5 := Lib.hid (And.intro ho5 (And.intro hk5 (And.intro hpr5 hbp5))); clear ho5 hk5 hpr5 hbp5))
    go_end0
    obtain ⟨hc, hg, hin, hil⟩ := HC.out
    obtain ⟨ho5, hk5, hpr5, hbp5⟩ := H5.out
    have hz2 := H2.out.2.2.2.2
    have hv : (Value.slice a5 n5 c5).ownBlock = (Value.slice ia iN ic).ownBlock ∨ ∀ b, (Value.slice a5 n5 c5).ownBlock = some b → W.heap.size ≤ b := by
      rcases hpr5 with h | h
      · exact .inl h
      · exact .inr (fun b hb => by rw [h] at hb; cases hb; exact hz2)
    have hkF : Kept (fun i => i = p ∨ (Value.slice ia iN ic).ownBlock = some i) W (w5.setCell ⟨p, 4, none⟩ (.slice a5 n5 c5)) := Kept.setCell (S := fun i => i = p ∨ (Value.slice ia iN ic).ownBlock = some i) ((H2.out.1.mono (fun _ _ h => h.elim)).then (hk5.mono fun _ _ h => Or.inr h)) (p := ⟨p, 4, none⟩) (.inl (.inl rfl)) _
    have hbF : (w5.setCell ⟨p, 4, none⟩ (.slice a5 n5 c5)).heap[p]? = some (.cells (PC { s with it := s.it ++ [c] } d (.slice a5 n5 c5) vp vd (sayV q)) 43 (0, 0)) := blk_set hbp5 4 _
    have hoF : Own .u8 5 (w5.setCell ⟨p, 4, none⟩ (.slice a5 n5 c5)) (.slice a5 n5 c5) (s.it ++ [c]) := ho5.kept (S := fun i => i = p) ((Kept.refl (fun i => i = p) w5).setCell (p := ⟨p, 4, none⟩) (.inl rfl) _) (fun b hb hh => by
      obtain ⟨cc, hcc⟩ := own_blk ho5 hb
      exact blk_ne hcc hbp5 (by decide) hh)
    refine ⟨⟨_, rfl⟩, tp_of hg (hc.updI (s' := { s with it := s.it ++ [c] }) hkF hbF hoF hv rfl rfl rfl ⟨hc.ok.st, by simp; omega, hc.ok.ps, hc.ok.la, hc.ok.ds⟩) (fun i hi => ?_) (hkF.mono fun i _ h => ?_)⟩
    · rcases hi with hi | hi | hi | hi | hi
      · exact .inl (.inl hi)
      · exact .inl (.inr (.inl hi))
      · exact .inl (.inr (.inr (.inl hi)))
      · rcases hv with h1 | h1
        · exact .inl (.inr (.inr (.inr (.inl (by rw [← h1]; exact hi)))))
        · exact .inr (h1 i hi)
      · exact .inl (.inr (.inr (.inr (.inr hi))))
    · rcases h with h | h
      · exact .inl h
      · exact .inr (.inr (.inr (.inl h)))
end Go.Proofs.Ytnaoobgghgnflaa
