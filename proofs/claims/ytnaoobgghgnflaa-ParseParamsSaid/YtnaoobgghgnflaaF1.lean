/- The parser: events told, lists kept, begin. -/
import Derived.Test.YtnaoobgghgnflaaMo
import Derived.Deep.LoopGhost
import Derived.Deep.RegionLaw
import Derived.StillTailTactics
namespace Go.Proofs.Ytnaoobgghgnflaa
open Go.RowKit Pl
set_option linter.unusedVariables false
set_option linter.unusedSimpArgs false
theorem EvAt.eq {w : World} {M M' : Nat → Prop} {v : EvV} {e : Ev} (h : EvAt w M v e) (hM : ∀ i, M' i → M i) : EvAt w M' v e := h.kept (Kept.refl (fun _ => False) w) (fun _ _ h => h.elim) (fun i hi => .inl (hM i hi))
def evXV (k r b : Int) : EvV := ⟨k, r, b, 0, ByteArray.empty, none, 0, 0, none, 0, 0⟩
theorem evX_at (w : World) (M : Nat → Prop) (k r b : Int) : EvAt w M (evXV k r b) (evX k r b) := ⟨rfl, rfl, rfl, rfl, rfl, ⟨rfl, .inl rfl⟩, ⟨rfl, .inl rfl⟩, (fun _ => ⟨rfl, rfl⟩), (fun _ => ⟨rfl, rfl⟩), (fun _ _ h => by cases h), (fun _ _ h => by cases h)⟩
theorem tp_of {G : Nat → Prop} {W w' : World} {p q d : Nat} {vi vp vd vo vi' vp' vd' vo' : Value} {Vs' : List EvV} {s' : PS} {L' : List Ev} (hg : ∀ i, G i ↔ Mset p q d vi vp vd vo i) (hc : RC w' p q d vi' vp' vd' vo' Vs' s' L') (hM : ∀ i, Mset p q d vi' vp' vd' vo' i → Mset p q d vi vp vd vo i ∨ W.heap.size ≤ i) (hk : Kept (Mset p q d vi vp vd vo) W w') : TP G W p q s' L' w' :=
  ⟨Mset p q d vi' vp' vd' vo', ⟨d, vi', vp', vd', vo', Vs', hc, fun _ => Iff.rfl⟩, fun i hi => (hM i hi).imp (hg i).2 id, hk.mono fun i _ h => (hg i).2 h⟩
/-- Its own block alone has changed. -/
theorem tp_upd {G : Nat → Prop} {W w' : World} {p q d : Nat} {vi vp vd vo : Value} {Vs : List EvV} {s s' : PS} {L : List Ev} (h : RC W p q d vi vp vd vo Vs s L) (hg : ∀ i, G i ↔ Mset p q d vi vp vd vo i) (hk : Kept (fun i => i = p) W w') (pb : w'.heap[p]? = some (.cells (PC s' d vi vp vd (sayV q)) 43 (0, 0))) (h1 : s'.ch = s.ch) (h2 : s'.it = s.it) (h3 : s'.ps = s.ps) (h4 : s'.ds = s.ds) (ok : SOk s') : TP G W p q s' L w' :=
  tp_of hg (h.upd hk pb h1 h2 h3 h4 ok) (fun i hi => .inl hi) (hk.mono fun i _ h => .inl h)
theorem sayR (G : Nat → Prop) (W : World) (p q : Nat) (s : PS) (L : List Ev) (hR : RR G W p q s L) (hn : L.length ≤ 1000000) (v : EvV) (e : Ev) (hv : EvAt W G v e) :
    Calls Try.prog 18 #[v.val, .pointer (some ⟨q, 0, none⟩)] W fun r w' => (∃ x, r = .returned x) ∧ TP G W p q s (L ++ [e]) w' := by
  obtain ⟨d, vi, vp, vd, vo, Vs, hc, hg⟩ := hR
  refine (say_any W p q d vi vp vd vo Vs s L hc v e (hv.eq fun i hi => (hg i).2 hi) (by rw [hc.ev.length]; exact hn)).mono ?_
  rintro r w' ⟨hr, vo', hc', hpv, hk⟩
  refine ⟨hr, tp_of hg hc' (fun i hi => ?_) (hk.mono fun i _ h => ?_)⟩
  · rcases hi with hi | hi | hi | hi | hi | hi | hi
    · exact .inl (.inl hi)
    · exact .inl (.inr (.inl hi))
    · exact .inl (.inr (.inr (.inl hi)))
    · exact .inl (.inr (.inr (.inr (.inl hi))))
    · exact .inl (.inr (.inr (.inr (.inr (.inl hi)))))
    · exact .inl (.inr (.inr (.inr (.inr (.inr (.inl hi))))))
    · rcases hpv with h1 | h1
      · exact .inl (.inr (.inr (.inr (.inr (.inr (.inr (by rw [← h1]; exact hi)))))))
      · exact .inr (h1 i hi)
  · rcases h with h | h
    · exact .inr (.inr (.inl h))
    · exact .inr (.inr (.inr (.inr (.inr (.inr h)))))
/-- A plain event told. -/
theorem sayX (G : Nat → Prop) (W : World) (p q : Nat) (s : PS) (L : List Ev) (hR : RR G W p q s L) (hn : L.length ≤ 1000000) (k r b : Int) :
    Calls Try.prog 18 #[.agg #[.int .i64 k, .int .i32 r, .int .u8 b, .int .u8 0, .string ByteArray.empty, .slice none 0 0, .slice none 0 0], .pointer (some ⟨q, 0, none⟩)] W fun x w' => (∃ y, x = .returned y) ∧ TP G W p q s (L ++ [evX k r b]) w' :=
  sayR G W p q s L hR hn (evXV k r b) (evX k r b) (evX_at _ _ _ _ _)
theorem rr_cells {G : Nat → Prop} {w : World} {p q : Nat} {s : PS} {L : List Ev} (h : RR G w p q s L) : w.cell? ⟨p, 0, none⟩ = some (.int .i64 s.st) ∧ w.cell? ⟨p, 11, none⟩ = some (sayV q) := by
  obtain ⟨d, vi, vp, vd, vo, Vs, hc, hg⟩ := h
  exact ⟨blk_cell hc.pb 0, blk_cell hc.pb 11⟩
set_option maxRecDepth 100000 in
set_option maxHeartbeats 8000000 in
theorem ctl_any (c : Int) (w : World) : Calls Try.prog 41 #[.int .u8 c] w fun e w' => e = .returned (.bool (ctlB c)) ∧ w' = w := by
  obtain ⟨B, hB⟩ : ∃ B, ctlB c = B := ⟨_, rfl⟩
  have hB' := hB
  unfold ctlB at hB'
  rw [hB]
  clear hB
  cases c0 : decide (c < 32) with
  | false =>
    obtain rfl : false = B := by rw [← hB', c0]; rfl
    clear hB'
    go_enter Try.func41, Try.ntmps41
    go_wp2
    go_ret
    exact ⟨rfl, rfl⟩
  | true =>
    cases c1 : (c != 24) with
    | false =>
      obtain rfl : false = B := by rw [← hB', c0, c1]; rfl
      clear hB'
      go_enter Try.func41, Try.ntmps41
      go_wp2
      go_ret
      exact ⟨rfl, rfl⟩
    | true =>
      cases c2 : (c != 26) with
      | false =>
        obtain rfl : false = B := by rw [← hB', c0, c1, c2]; rfl
        clear hB'
        go_enter Try.func41, Try.ntmps41
        go_wp2
        go_ret
        exact ⟨rfl, rfl⟩
      | true =>
        cases c3 : (c != 27) with
        | false =>
          obtain rfl : false = B := by rw [← hB', c0, c1, c2, c3]; rfl
          clear hB'
          go_enter Try.func41, Try.ntmps41
          go_wp2
          go_ret
          exact ⟨rfl, rfl⟩
        | true =>
          obtain rfl : true = B := by rw [← hB', c0, c1, c2, c3]; rfl
          clear hB'
          go_enter Try.func41, Try.ntmps41
          go_wp2
          go_ret
          exact ⟨rfl, rfl⟩
set_option maxRecDepth 100000 in
set_option maxHeartbeats 8000000 in
theorem close_any (G : Nat → Prop) (W : World) (p q : Nat) (s : PS) (L : List Ev) (b : Int) (hR : RR G W p q s L) (hn : L.length ≤ 1000000) :
    Calls Try.prog 34 #[.pointer (some ⟨p, 0, none⟩), .int .u8 b] W fun r w' => (∃ x, r = .returned x) ∧ TP G W p q s (L ++ closeE s.st b) w' := by
  obtain ⟨c0, c11⟩ := rr_cells hR
  have HR := Lib.hid hR
  clear hR
  unfold sayV at c11
  by_cases h5 : s.st = 5
  · have e : closeE s.st b = [evX 8 0 b] := by unfold closeE; rw [if_pos h5]
    have g5 : (s.st == 5) = true := by simp [h5]
    rw [e]
    clear e h5
    go_enter Try.func34, Try.ntmps34
    go_wp2_with fail
    refine (sayX G W p q s L HR.out hn 8 0 b).mono ?_
    rintro r w' ⟨⟨x, rfl⟩, ht⟩
    have HT := Lib.hid ht
    clear ht
    go_wp2
    go_end0
    exact ⟨⟨_, rfl⟩, HT.out⟩
  · have g5 : (s.st == 5) = false := by simp [h5]
    by_cases h6 : s.st = 6
    · have e : closeE s.st b = [evX 11 0 b] := by unfold closeE; rw [if_neg h5, if_pos h6]
      have g6 : (s.st == 6) = true := by simp [h6]
      rw [e]
      clear e h5 h6
      go_enter Try.func34, Try.ntmps34
      go_wp2_with fail
      refine (sayX G W p q s L HR.out hn 11 0 b).mono ?_
      rintro r w' ⟨⟨x, rfl⟩, ht⟩
      have HT := Lib.hid ht
      clear ht
      go_wp2
      go_end0
      exact ⟨⟨_, rfl⟩, HT.out⟩
    · have e : closeE s.st b = [] := by unfold closeE; rw [if_neg h5, if_neg h6]
      have g6 : (s.st == 6) = false := by simp [h6]
      rw [e]
      clear e h5 h6
      go_enter Try.func34, Try.ntmps34
      go_wp2
      go_end0
      exact ⟨⟨_, rfl⟩, by rw [List.append_nil]; exact TP.refl HR.out⟩
set_option maxRecDepth 100000 in
set_option maxHeartbeats 8000000 in
theorem print_any (G : Nat → Prop) (W : World) (p q : Nat) (s : PS) (L : List Ev) (a : Option Addr) (len cap : Nat) (xs : List Int) (hR : RR G W p q s L) (hs : SlAt .i32 W a len xs) (hb : ∀ b off, 0 < len → a = some ⟨b, off, none⟩ → b < W.heap.size ∧ ¬ G b) (hl : len ≤ 1000) (hn : L.length ≤ 900000) :
    Calls Try.prog 32 #[.pointer (some ⟨p, 0, none⟩), .slice a len cap] W fun r w' => (∃ x, r = .returned x) ∧ TP G W p q s (L ++ printE xs) w' := by
  have hxl := hs.1
  have HS := Lib.hid (And.intro hs (And.intro hb (And.intro hxl hn)))
  have HR := Lib.hid hR
  clear hs hb hR hxl hn
  go_enter Try.func32, Try.ntmps32
  go_wp2
  go_loopg [5, 8] len (fun gg _ kv wr => ∃ k : Nat, len ≤ gg + k ∧ k ≤ len ∧ kv = .int .i64 (k : Int) ∧ TP G W p q s (L ++ printE (xs.take k)) wr)
  case atStart => exact ⟨0, by omega, by omega, rfl, by simpa [printE] using TP.refl HR.out⟩
  case round =>
    obtain ⟨k, hgg, hkl, rfl, hT⟩ := hrel
    obtain ⟨G1, hR1, hs1, hk1⟩ := hT
    have HT := Lib.hid (And.intro hR1 (And.intro hs1 hk1))
    by_cases hk2 : k < len
    · have g1 : decide (k < len) = true := decide_eq_true hk2
      have g1' : decide ((k : Int) < (len : Int)) = true := decide_eq_true (by omega)
      have wk : IntKind.i64.wrap ((k : Int) + 1) = (k : Int) + 1 := IntWalk.i64_in _ (by omega)
      obtain ⟨b, off, rfl, hc9⟩ := HS.out.1.2.resolve_left (by omega)
      have hcx := hk1.cell (hc9 k hk2) (HS.out.2.1 b off (by omega) rfl).2
      obtain ⟨x, hx⟩ : ∃ x, xs.getD k 0 = x := ⟨_, rfl⟩
      rw [hx] at hcx
      obtain ⟨c0, c11⟩ := rr_cells hR1
      unfold sayV at c11
      have hxk : k < xs.length := by rw [HS.out.2.2.1]; exact hk2
      have htk : xs.take (k + 1) = xs.take k ++ [x] := by rw [List.take_add_one, List.getElem?_eq_getElem hxk]; rw [← hx, List.getD_eq_getElem?_getD, List.getElem?_eq_getElem hxk]; rfl
      have HX := Lib.hid htk
      have HN := Lib.hid (show (L ++ printE (xs.take k)).length ≤ 1000000 by have := HS.out.2.2.2; simp [printE]; omega)
      clear hc9 hx hR1 hs1 hk1 hxk htk
      go_wp2_with fail
      refine (sayX G1 wr p q s _ HT.out.1 HN.out 1 x 0).mono ?_
      rintro r w' ⟨⟨y, rfl⟩, ht⟩
      have HT2 := Lib.hid (TP.then HT.out.2.1 HT.out.2.2 ht)
      clear ht
      go_wp2
      go_roundg (gk - 1)
      case rel => exact ⟨k + 1, by omega, by omega, by simp, by rw [HX.out]; have h := HT2.out; rw [List.append_assoc] at h; simpa [printE] using h⟩
      case measure => omega
    · obtain rfl : k = len := by omega
      have g1 : decide (k < k) = false := decide_eq_false hk2
      have hall : xs.take k = xs := List.take_of_length_le (Nat.le_of_eq HS.out.2.2.1)
      rw [hall] at HT
      clear hR1 hs1 hk1 hall
      go_wp2
      go_end0
      exact ⟨⟨_, rfl⟩, G1, HT.out⟩
end Go.Proofs.Ytnaoobgghgnflaa
