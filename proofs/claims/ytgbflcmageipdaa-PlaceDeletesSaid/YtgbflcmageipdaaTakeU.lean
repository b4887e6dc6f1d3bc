/- take with the function 18: the places of which it says so go, the others stay, in order. -/
import Derived.Test.YtgbflcmageipdaaSmall
import Derived.Deep.LoopGhost
namespace Go.Proofs.Ytgbflcmageipdaa
open Go.RowKit
set_option linter.unusedVariables false
set_option linter.unusedSimpArgs false
set_option maxRecDepth 100000 in
set_option maxHeartbeats 16000000 in
theorem take_put (f : Pl → Bool) (t : Nat) (v0 : Value) (L : List Pl) (x0 : Nat) (W : World) (htb : W.heap[t]? = some (.cells #[v0] 45 (0, 0))) (ho : OwnP W v0 L) (hl : L.length ≤ 400)
    (hc : ∀ (p : Pl) (w : World), p ∈ L → Kept (fun _ => False) W w → Calls Try.prog 18 #[p.val, .pointer (some ⟨x0, 0, none⟩)] w fun e w' => e = .returned (.bool (f p)) ∧ Kept (fun _ => False) w w') :
    Calls Try.prog 17 #[.pointer (some ⟨t, 0, none⟩), .func (.func 18) #[] #[.pointer (some ⟨x0, 0, none⟩)]] W fun e w' => ∃ vg vl, e = .returned vg ∧ OwnP w' vg (L.filter f) ∧ OwnP w' vl (L.filter fun p => !f p) ∧ w'.heap[t]? = some (.cells #[vl] 45 (0, 0)) ∧ Kept (fun i => i = t) W w' ∧
      (∀ b, vg.ownBlock = some b → W.heap.size ≤ b) ∧ (∀ b, vl.ownBlock = some b → W.heap.size ≤ b) ∧ ∀ b, vg.ownBlock = some b → vl.ownBlock ≠ some b := by
  obtain ⟨a0, cap0, rfl, hs0, -⟩ := ho.shape
  obtain ⟨i0, hi, hz, hsz, hby⟩ := info_parts info34
  have HI := Lib.hid hi
  have HC := Lib.hid hc
  have HS := Lib.hid hs0
  have HB := Lib.hid htb
  obtain ⟨c0, -⟩ := blk1 htb
  obtain ⟨n, hn⟩ : ∃ n, L.length = n := ⟨_, rfl⟩
  rw [hn] at HS hl c0
  have HN := Lib.hid hn
  clear hi hc hs0 htb ho hn
  go_enter Try.func17, Try.ntmps17
  go_wp2
  go_loopg [5, 6, 8, 14] n (fun gg gv0 lv0 _ kv wr => ∃ (k : Nat) (gv lv : Value), gv = gv0 ∧ lv = lv0 ∧ n ≤ gg + k ∧ k ≤ n ∧ kv = .int .i64 (k : Int) ∧ OwnP wr gv ((L.take k).filter f) ∧ OwnP wr lv ((L.take k).filter fun p => !f p) ∧ (∀ b, gv.ownBlock = some b → W.heap.size ≤ b) ∧ (∀ b, lv.ownBlock = some b → W.heap.size ≤ b) ∧ (∀ b, gv.ownBlock = some b → lv.ownBlock ≠ some b) ∧ Kept (fun _ => False) W wr)
  case atStart => exact ⟨0, _, _, rfl, rfl, by omega, by omega, rfl, OwnP.nil _, OwnP.nil _, (fun _ h => by cases h), (fun _ h => by cases h), (fun _ h => by cases h), Kept.refl _ _⟩
  case round =>
    obtain ⟨k, gv, lv, rfl, rfl, hgg, hkn, rfl, hog, hol, hgb, hlb, hgl, hk⟩ := hrel
    have HG := Lib.hid (And.intro hog (And.intro hol (And.intro hgb (And.intro hlb (And.intro hgl hk)))))
    clear hog hol hgb hlb hgl hk
    by_cases hk1 : k < n
    · have g1 : decide (k < n) = true := decide_eq_true hk1
      have g1' : decide ((k : Int) < (n : Int)) = true := decide_eq_true (by omega)
      have wk : IntKind.i64.wrap ((k : Int) + 1) = (k : Int) + 1 := IntWalk.i64_in _ (by omega)
      obtain ⟨b, off, rfl, hc9⟩ := HS.out.2.resolve_left (by omega)
      have hkL : k < L.length := by rw [HN.out]; exact hk1
      obtain ⟨p, hp⟩ : ∃ p, L[k]? = some p := ⟨_, List.getElem?_eq_getElem hkL⟩
      have hpm : p ∈ L := List.mem_of_getElem? hp
      have htk : L.take (k + 1) = L.take k ++ [p] := by rw [List.take_add_one, hp]; rfl
      have HTK := Lib.hid htk
      have hlf : ((L.take k).filter f).length ≤ 400 := by have h1 := List.length_filter_le f (L.take k); have h2 := List.length_take_le k L; have h3 := HN.out; omega
      have hlg : ((L.take k).filter fun p => !f p).length ≤ 400 := by have h1 := List.length_filter_le (fun p => !f p) (L.take k); have h2 := List.length_take_le k L; have h3 := HN.out; omega
      have h63 : (9223372036854775807 : Nat) = maxLen := rfl
      have HPM := Lib.hid hpm
      obtain ⟨q0, q1, q2, q3, q4, q5, q6, q7, q8, q9, q10, q11, q12, q13⟩ := ((hc9 k p hp).kept HG.out.2.2.2.2.2 id).cells
      obtain ⟨W1, hW1⟩ : ∃ W1, wr.alloc (.cells p.cs 34) = W1 := ⟨_, rfl⟩
      have hk1w : Kept (fun _ => False) wr W1 := by rw [← hW1]; exact (Kept.refl _ _).alloc _
      have hb1 : W1.heap[wr.heap.size]? = some (.cells p.cs 34 (0, 0)) := by rw [← hW1]; exact blk_new wr _
      obtain ⟨r0, r1, r2, r3, r4, r5, r6, r7, r8, r9, r10, r11, r12, r13⟩ := blk14 hb1
      have HB1 := Lib.hid hb1
      have H1 := Lib.hid hk1w
      have HCp := HC.out p W1 hpm (HG.out.2.2.2.2.2.then hk1w)
      obtain ⟨bf, hbf⟩ : ∃ bf, f p = bf := ⟨_, rfl⟩
      rw [hbf] at HCp
      have HBF := Lib.hid hbf
      have HQ := Lib.hid HCp
      unfold Pl.cs at hW1
      unfold Pl.val at HQ
      clear hc9 hp hpm htk hk1w hb1 hkL HCp hbf
      cases bf with
      | true =>
        go_wp2_with (first
          | (go_at_call 18; refine HQ.out.mono ?_; rintro e w2 ⟨rfl, hk2⟩; have hb2 := hk2.blk HB1.out id; obtain ⟨t0, t1, t2, t3, t4, t5, t6, t7, t8, t9, t10, t11, t12, t13⟩ := blk14 hb2; obtain ⟨W3, hW3⟩ : ∃ W3, w2.alloc (.cells p.cs 34) = W3 := ⟨_, rfl⟩; have hk3 : Kept (fun _ => False) w2 W3 := (by rw [← hW3]; exact (Kept.refl _ _).alloc _); have hb3 : W3.heap[w2.heap.size]? = some (.cells p.cs 34 (0, 0)) := (by rw [← hW3]; exact blk_new w2 _); have H3 := Lib.hid (And.intro ((H1.out.then hk2).then hk3) (And.intro hb3 (And.intro hk2.size hk3.size))); unfold Pl.cs at hW3; clear hk2 hb2 hk3 hb3)
          | (at_builtin; refine wpList_appP rfl (.tmp 21) (.tmp 23) 22 rfl i0 _ 112 Try.underlying22 HI.out hz hsz hby rfl gv _ rfl (HG.out.1.kept H3.out.1 (fun _ _ => id)) (some ⟨w2.heap.size, 0, none⟩) 1 1 [p] rfl (fun h => by cases h) (slP_one H3.out.2.1) (by omega) (by omega) ?_; intro v5 w5 ho5 hk5 hpr5; have H5 := Lib.hid (And.intro ho5 (And.intro hk5 hpr5)); clear ho5 hk5 hpr5))
        go_roundg (gk - 1)
        case rel =>
          obtain ⟨ho5, hk5, hpr5⟩ := H5.out
          have hz1 := H1.out.size
          have hz3 := H3.out.2.2
          have hk03 : Kept (fun _ => False) W W3 := HG.out.2.2.2.2.2.then H3.out.1
          have hz0 := hk03.size
          have hz9 := HG.out.2.2.2.2.2.size
          have hw5 : Kept (fun _ => False) W w5 := hk03.trans (hk5.mono fun i _ hi => Or.inr (HG.out.2.2.1 i hi))
          refine ⟨k + 1, _, _, rfl, rfl, by omega, by omega, by simp, ?_, ?_, ?_, HG.out.2.2.2.1, ?_, hw5⟩
          · rw [HTK.out, List.filter_append, List.filter_cons, HBF.out]; exact ho5
          · rw [HTK.out, List.filter_append, List.filter_cons, HBF.out]
            have h9 := (HG.out.2.1.kept H3.out.1 (fun _ _ => id)).kept hk5 (fun b hb hg => HG.out.2.2.2.2.1 b hg hb)
            simpa using h9
          · intro b hb
            rcases hpr5 with h | h
            · exact HG.out.2.2.1 b (by rw [← h]; exact hb)
            · rw [hb] at h; cases h; omega
          · intro b hb hlb
            rcases hpr5 with h | h
            · exact HG.out.2.2.2.2.1 b (by rw [← h]; exact hb) hlb
            · rw [hb] at h; cases h; have := HG.out.2.1.lt _ hlb; omega
        case measure => omega
      | false =>
        go_wp2_with (first
          | (go_at_call 18; refine HQ.out.mono ?_; rintro e w2 ⟨rfl, hk2⟩; have hb2 := hk2.blk HB1.out id; obtain ⟨t0, t1, t2, t3, t4, t5, t6, t7, t8, t9, t10, t11, t12, t13⟩ := blk14 hb2; obtain ⟨W3, hW3⟩ : ∃ W3, w2.alloc (.cells p.cs 34) = W3 := ⟨_, rfl⟩; have hk3 : Kept (fun _ => False) w2 W3 := (by rw [← hW3]; exact (Kept.refl _ _).alloc _); have hb3 : W3.heap[w2.heap.size]? = some (.cells p.cs 34 (0, 0)) := (by rw [← hW3]; exact blk_new w2 _); have H3 := Lib.hid (And.intro ((H1.out.then hk2).then hk3) (And.intro hb3 (And.intro hk2.size hk3.size))); unfold Pl.cs at hW3; clear hk2 hb2 hk3 hb3)
          | (at_builtin; refine wpList_appP rfl (.tmp 25) (.tmp 27) 22 rfl i0 _ 112 Try.underlying22 HI.out hz hsz hby rfl lv _ rfl (HG.out.2.1.kept H3.out.1 (fun _ _ => id)) (some ⟨w2.heap.size, 0, none⟩) 1 1 [p] rfl (fun h => by cases h) (slP_one H3.out.2.1) (by omega) (by omega) ?_; intro v5 w5 ho5 hk5 hpr5; have H5 := Lib.hid (And.intro ho5 (And.intro hk5 hpr5)); clear ho5 hk5 hpr5))
        go_roundg (gk - 1)
        case rel =>
          obtain ⟨ho5, hk5, hpr5⟩ := H5.out
          have hz1 := H1.out.size
          have hz3 := H3.out.2.2
          have hk03 : Kept (fun _ => False) W W3 := HG.out.2.2.2.2.2.then H3.out.1
          have hz0 := hk03.size
          have hz9 := HG.out.2.2.2.2.2.size
          have hw5 : Kept (fun _ => False) W w5 := hk03.trans (hk5.mono fun i _ hi => Or.inr (HG.out.2.2.2.1 i hi))
          refine ⟨k + 1, _, _, rfl, rfl, by omega, by omega, by simp, ?_, ?_, HG.out.2.2.1, ?_, ?_, hw5⟩
          · rw [HTK.out, List.filter_append, List.filter_cons, HBF.out]
            have h9 := (HG.out.1.kept H3.out.1 (fun _ _ => id)).kept hk5 (fun b hb hg => HG.out.2.2.2.2.1 b hb hg)
            simpa using h9
          · rw [HTK.out, List.filter_append, List.filter_cons, HBF.out]; exact ho5
          · intro b hb
            rcases hpr5 with h | h
            · exact HG.out.2.2.2.1 b (by rw [← h]; exact hb)
            · rw [hb] at h; cases h; omega
          · intro b hb hlb
            rcases hpr5 with h | h
            · exact HG.out.2.2.2.2.1 b hb (by rw [← h]; exact hlb)
            · rw [hlb] at h; cases h; have := HG.out.1.lt _ hb; omega
        case measure => omega
    · obtain rfl : k = n := by omega
      have g1 : decide (k < k) = false := decide_eq_false hk1
      have hall : L.take k = L := List.take_of_length_le (Nat.le_of_eq HN.out)
      rw [hall] at HG
      obtain ⟨la, lc, hle, -⟩ := HG.out.2.1.shape
      obtain ⟨ln, hln⟩ : ∃ n, (L.filter fun p => !f p).length = n := ⟨_, rfl⟩
      rw [hln] at hle
      subst hle
      clear hln
      have hbw := HG.out.2.2.2.2.2.blk HB.out id
      have htl := lt_of_blk HB.out
      obtain ⟨cz, fz⟩ := blk1 hbw
      have HF := Lib.hid hbw
      obtain ⟨W9, hW9⟩ : ∃ W9, wr.setCell ⟨t, 0, none⟩ (.slice la ln lc) = W9 := ⟨_, rfl⟩
      have hk9 : Kept (fun i => i = t) wr W9 := by rw [← hW9]; exact (Kept.refl (fun i => i = t) wr).setCell (p := ⟨t, 0, none⟩) (.inl rfl) _
      have hb9 : W9.heap[t]? = some (.cells #[.slice la ln lc] 45 (0, 0)) := by rw [← hW9]; exact blk_set hbw 0 _
      have H9 := Lib.hid (show ∃ vg vl, gv = vg ∧ OwnP W9 vg (L.filter f) ∧ OwnP W9 vl (L.filter fun p => !f p) ∧ W9.heap[t]? = some (.cells #[vl] 45 (0, 0)) ∧ Kept (fun i => i = t) W W9 ∧
        (∀ b, vg.ownBlock = some b → W.heap.size ≤ b) ∧ (∀ b, vl.ownBlock = some b → W.heap.size ≤ b) ∧ ∀ b, vg.ownBlock = some b → vl.ownBlock ≠ some b from
        ⟨gv, .slice la ln lc, rfl, HG.out.1.kept hk9 (fun b hb h => by have := HG.out.2.2.1 b hb; have h8 : b = t := h; omega), HG.out.2.1.kept hk9 (fun b hb h => by have := HG.out.2.2.2.1 b hb; have h8 : b = t := h; omega), hb9, (HG.out.2.2.2.2.2.mono (fun _ _ h => h.elim)).then hk9, HG.out.2.2.1, HG.out.2.2.2.1, HG.out.2.2.2.2.1⟩)
      clear hbw hk9 hb9 hall
      go_wp2
      go_ret
      obtain ⟨vg, vl, rfl, r9⟩ := H9.out
      exact ⟨_, vl, rfl, r9⟩
end Go.Proofs.Ytgbflcmageipdaa
