/- Order, where at most one place is in view. -/
import Derived.Test.YtgbflcmageipdaaTab
import Derived.Test.YtgbflcmageipdaaMay
import Derived.Deep.LoopGhost
namespace Go.Proofs.Ytgbflcmageipdaa
open Go.RowKit
set_option linter.unusedVariables false
set_option linter.unusedSimpArgs false
set_option maxRecDepth 100000 in
set_option maxHeartbeats 16000000 in
theorem insert_01 (a : Option Addr) (n cap : Nat) (cmp : Value) (w : World) :
    Calls Try.prog 30 #[.slice a n cap, .int .i64 0, .int .i64 1, cmp] w fun e w' => (∃ v, e = .returned v) ∧ w' = w := by
  go_enter Try.func30, Try.ntmps30
  go_wp2
  refine wp_loop_rounds 1 ?_
  rw [rounds_succ]
  go_wp2
  go_end0
  exact ⟨⟨_, rfl⟩, rfl⟩
set_option maxRecDepth 100000 in
set_option maxHeartbeats 16000000 in
theorem stable_1 (a : Option Addr) (n cap : Nat) (cmp : Value) (w : World) :
    Calls Try.prog 28 #[.slice a n cap, .int .i64 1, cmp] w fun e w' => (∃ v, e = .returned v) ∧ w' = w := by
  have HI := Lib.hid (fun w => insert_01 a n cap cmp w)
  go_enter Try.func28, Try.ntmps28
  go_wp2
  refine wp_loop_rounds 1 ?_
  rw [rounds_succ]
  go_wp2_with fail
  refine (HI.out _).mono ?_
  rintro e w' ⟨⟨v, rfl⟩, rfl⟩
  go_wp2
  refine wp_loop_rounds 1 ?_
  rw [rounds_succ]
  go_wp2
  go_end0
  exact ⟨⟨_, rfl⟩, rfl⟩
set_option maxRecDepth 100000 in
set_option maxHeartbeats 16000000 in
theorem sort_1 (a : Option Addr) (cap : Nat) (cmp : Value) (w : World) :
    Calls Try.prog 23 #[.slice a 1 cap, cmp] w fun e w' => (∃ v, e = .returned v) ∧ w' = w := by
  have HI := Lib.hid (fun w => stable_1 a 1 cap cmp w)
  go_enter Try.func23, Try.ntmps23
  go_wp2_with fail
  refine (HI.out _).mono ?_
  rintro e w' ⟨⟨v, rfl⟩, rfl⟩
  go_wp2
  go_end0
  exact ⟨⟨_, rfl⟩, rfl⟩
def seenB (v : Vw) (p : Pl) : Bool := (p.alt == v.alt) && meetsB p v.top v.rows 0 1073741824
set_option maxRecDepth 100000 in
set_option maxHeartbeats 16000000 in
theorem order_any (B t : Nat) (L : List Pl) (v : Vw) (w : World) (h : Tb B w t L) (hl : L.length ≤ 400) (h1 : (L.filter (seenB v)).length = 1) :
    Calls Try.prog 13 #[.pointer (some ⟨t, 0, none⟩), v.val] w fun e w' => ∃ a cap, e = .returned (.slice a 1 cap) ∧ SlP w' a 1 (L.filter (seenB v)) ∧ Tb B w' t L ∧ Kept (fun _ => False) w w' ∧ ∀ b off, a = some ⟨b, off, none⟩ → w.heap.size ≤ b := by
  obtain ⟨q, hq⟩ : ∃ q, w.heap.size = q := ⟨_, rfl⟩
  obtain ⟨W, hW⟩ : ∃ W, w.alloc (.cells v.cs 26) = W := ⟨_, rfl⟩
  have hk : Kept (fun _ => False) w W := by rw [← hW]; exact (Kept.refl _ _).alloc _
  have hb : W.heap[q]? = some (.cells v.cs 26 (0, 0)) := by rw [← hW, ← hq]; exact blk_new w _
  have hT := h.up hk
  have hT0 := hT
  obtain ⟨-, v0, hb0, ho0, -⟩ := hT0
  obtain ⟨a0, cap0, rfl, hs0, -⟩ := ho0.shape
  obtain ⟨c0, -⟩ := blk1 hb0
  obtain ⟨i0, hi, hz, hsz, hby⟩ := info_parts info34
  have HI := Lib.hid hi
  have HS := Lib.hid hs0
  have HT := Lib.hid (And.intro hT (And.intro hk (And.intro hb h1)))
  obtain ⟨n, hn⟩ : ∃ n, L.length = n := ⟨_, rfl⟩
  rw [hn] at HS hl c0
  have HN := Lib.hid hn
  have h63 : (9223372036854775807 : Nat) = maxLen := rfl
  unfold Vw.cs at hW
  unfold Vw.val
  clear hi hs0 hb0 ho0 hT hk hb hn h1 h
  go_enter Try.func13, Try.ntmps13
  go_wp2
  go_loopg [5, 7, 13] n (fun gg gv0 _ kv wr => ∃ (k : Nat) (gv : Value), gv = gv0 ∧ n ≤ gg + k ∧ k ≤ n ∧ kv = .int .i64 (k : Int) ∧ OwnP wr gv ((L.take k).filter (seenB v)) ∧ (∀ b, gv.ownBlock = some b → W.heap.size ≤ b) ∧ Kept (fun _ => False) W wr)
  case atStart => exact ⟨0, _, rfl, by omega, by omega, rfl, OwnP.nil _, (fun _ h => by cases h), Kept.refl _ _⟩
  case round =>
    obtain ⟨k, gv, rfl, hgg, hkn, rfl, hog, hgb, hk⟩ := hrel
    have HG := Lib.hid (And.intro hog (And.intro hgb hk))
    by_cases hk1 : k < n
    · have g1 : decide (k < n) = true := decide_eq_true hk1
      have g1' : decide ((k : Int) < (n : Int)) = true := decide_eq_true (by omega)
      have wk : IntKind.i64.wrap ((k : Int) + 1) = (k : Int) + 1 := IntWalk.i64_in _ (by omega)
      obtain ⟨b, off, rfl, hc9⟩ := HS.out.2.resolve_left (by omega)
      have hkL : k < L.length := by rw [HN.out]; exact hk1
      obtain ⟨p, hp⟩ : ∃ p, L[k]? = some p := ⟨_, List.getElem?_eq_getElem hkL⟩
      have htk : L.take (k + 1) = L.take k ++ [p] := by rw [List.take_add_one, hp]; rfl
      have HTK := Lib.hid htk
      have hlf : ((L.take k).filter (seenB v)).length ≤ 400 := by have h1 := List.length_filter_le (seenB v) (L.take k); have h2 := List.length_take_le k L; have h3 := HN.out; omega
      obtain ⟨q0, q1, q2, q3, q4, q5, q6, q7, q8, q9, q10, q11, q12, q13⟩ := ((hc9 k p hp).kept hk id).cells
      obtain ⟨W1, hW1⟩ : ∃ W1, wr.alloc (.cells p.cs 34) = W1 := ⟨_, rfl⟩
      have hk1w : Kept (fun _ => False) wr W1 := by rw [← hW1]; exact (Kept.refl _ _).alloc _
      have hb1 : W1.heap[wr.heap.size]? = some (.cells p.cs 34 (0, 0)) := by rw [← hW1]; exact blk_new wr _
      obtain ⟨r0, r1, r2, r3, r4, r5, r6, r7, r8, r9, r10, r11, r12, r13⟩ := blk14 hb1
      obtain ⟨x0, x1, x2, x3, x4, x5⟩ := blkV (hk1w.blk (hk.blk HT.out.2.2.1 id) id)
      have HB1 := Lib.hid hb1
      have H1 := Lib.hid hk1w
      have HQ := Lib.hid (meets_any p v.top v.rows 0 1073741824 W1)
      obtain ⟨bf, hbf⟩ : ∃ bf, meetsB p v.top v.rows 0 1073741824 = bf := ⟨_, rfl⟩
      rw [hbf] at HQ
      have HBF := Lib.hid hbf
      unfold Pl.cs at hW1
      unfold Pl.val at HQ
      clear hc9 hp htk hk1w hb1 hkL hbf hk hog hgb
      cases hab : (p.alt == v.alt) with
      | false =>
        have HF := Lib.hid (show seenB v p = false by unfold seenB; rw [hab]; rfl)
        go_wp2
        go_roundg (gk - 1)
        case rel => exact ⟨k + 1, _, rfl, by omega, by omega, by simp, by rw [HTK.out, List.filter_append, List.filter_cons, HF.out]; simpa using HG.out.1.kept H1.out (fun _ _ => id), HG.out.2.1, HG.out.2.2.then H1.out⟩
        case measure => omega
      | true =>
        cases bf with
        | false =>
          have HF := Lib.hid (show seenB v p = false by unfold seenB; rw [hab, HBF.out]; rfl)
          go_wp2_with fail
          refine HQ.out.mono ?_
          rintro e w2 ⟨rfl, hk2⟩
          have H2 := Lib.hid (H1.out.then hk2)
          clear hk2
          go_wp2
          go_roundg (gk - 1)
          case rel => exact ⟨k + 1, _, rfl, by omega, by omega, by simp, by rw [HTK.out, List.filter_append, List.filter_cons, HF.out]; simpa using HG.out.1.kept H2.out (fun _ _ => id), HG.out.2.1, HG.out.2.2.then H2.out⟩
          case measure => omega
        | true =>
          have HF := Lib.hid (show seenB v p = true by unfold seenB; rw [hab, HBF.out]; rfl)
          go_wp2_with (first
            | (go_at_call 21; refine HQ.out.mono ?_; rintro e w2 ⟨rfl, hk2⟩; have hb2 := hk2.blk HB1.out id; obtain ⟨t0, t1, t2, t3, t4, t5, t6, t7, t8, t9, t10, t11, t12, t13⟩ := blk14 hb2; obtain ⟨W3, hW3⟩ : ∃ W3, w2.alloc (.cells p.cs 34) = W3 := ⟨_, rfl⟩; have hk3 : Kept (fun _ => False) w2 W3 := (by rw [← hW3]; exact (Kept.refl _ _).alloc _); have hb3 : W3.heap[w2.heap.size]? = some (.cells p.cs 34 (0, 0)) := (by rw [← hW3]; exact blk_new w2 _); have H3 := Lib.hid (And.intro ((H1.out.then hk2).then hk3) (And.intro hb3 (And.intro hk2.size hk3.size))); unfold Pl.cs at hW3; clear hk2 hb2 hk3 hb3)
            | (at_builtin; refine wpList_appP rfl (.tmp 30) (.tmp 32) 22 rfl i0 _ 112 Try.underlying22 HI.out hz hsz hby rfl gv _ rfl (HG.out.1.kept H3.out.1 (fun _ _ => id)) (some ⟨w2.heap.size, 0, none⟩) 1 1 [p] rfl (fun h => by cases h) (slP_one H3.out.2.1) (by omega) (by omega) ?_; intro v5 w5 ho5 hk5 hpr5; have H5 := Lib.hid (And.intro ho5 (And.intro hk5 hpr5)); clear ho5 hk5 hpr5))
          go_roundg (gk - 1)
          case rel =>
            obtain ⟨ho5, hk5, hpr5⟩ := H5.out
            have hz1 := H1.out.size
            have hz3 := H3.out.2.2
            have hk03 : Kept (fun _ => False) W W3 := HG.out.2.2.then H3.out.1
            have hz0 := hk03.size
            have hw5 : Kept (fun _ => False) W w5 := hk03.trans (hk5.mono fun i _ hi => Or.inr (HG.out.2.1 i hi))
            refine ⟨k + 1, _, rfl, by omega, by omega, by simp, ?_, ?_, hw5⟩
            · rw [HTK.out, List.filter_append, List.filter_cons, HF.out]; exact ho5
            · intro b hb
              rcases hpr5 with h | h
              · exact HG.out.2.1 b (by rw [← h]; exact hb)
              · rw [hb] at h; cases h; omega
          case measure => omega
    · obtain rfl : k = n := by omega
      have g1 : decide (k < k) = false := decide_eq_false hk1
      have hall : L.take k = L := List.take_of_length_le (Nat.le_of_eq HN.out)
      rw [hall] at HG
      obtain ⟨la, lc, hle, hsl, -, -, -, hlo⟩ := HG.out.1.shape
      have HLO := Lib.hid (fun (b off : Nat) (h : la = some ⟨b, off, none⟩) => HG.out.2.1 b (hlo b off h))
      clear hlo
      rw [HT.out.2.2.2] at hle hsl
      subst hle
      have HSL := Lib.hid hsl
      have HSO := Lib.hid (fun (cmp : Value) (w : World) => sort_1 la lc cmp w)
      clear hall hk hog hgb hsl
      go_wp2_with fail
      refine (HSO.out _ _).mono ?_
      rintro e w2 ⟨⟨vv, rfl⟩, rfl⟩
      go_wp2
      go_ret
      exact ⟨la, lc, rfl, HSL.out, HT.out.1.up HG.out.2.2, HT.out.2.1.then HG.out.2.2, fun b off h => Nat.le_trans HT.out.2.1.size (HLO.out b off h)⟩
end Go.Proofs.Ytgbflcmageipdaa
