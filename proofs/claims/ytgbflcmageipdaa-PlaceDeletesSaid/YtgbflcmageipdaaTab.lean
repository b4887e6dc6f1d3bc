/- The table of places: New, All, Delete, Prune. -/
import Derived.Test.YtgbflcmageipdaaTakeP
import Derived.Test.YtgbflcmageipdaaTakeD
import Derived.Test.YtgbflcmageipdaaClos
import Derived.Test.YtgbflcmageipdaaClosD
namespace Go.Proofs.Ytgbflcmageipdaa
open Go.RowKit
set_option linter.unusedVariables false
set_option linter.unusedSimpArgs false
/-- A table whose blocks lie in G. -/
def TOwn (w : World) (t : Nat) (L : List Pl) : Prop := ∃ v, w.heap[t]? = some (.cells #[v] 45 (0, 0)) ∧ OwnP w v L ∧ v.ownBlock ≠ some t
/-- The same, all of it at or beyond B. -/
def Tb (B : Nat) (w : World) (t : Nat) (L : List Pl) : Prop := B ≤ t ∧ ∃ v, w.heap[t]? = some (.cells #[v] 45 (0, 0)) ∧ OwnP w v L ∧ v.ownBlock ≠ some t ∧ ∀ b, v.ownBlock = some b → B ≤ b
theorem Tb.kept {B t : Nat} {w w' : World} {L : List Pl} {S : Nat → Prop} (h : Tb B w t L) (hk : Kept S w w') (ht : ¬ S t) (hs : ∀ i, B ≤ i → S i → False) : Tb B w' t L := by
  obtain ⟨h0, v, h1, h2, h3, h4⟩ := h
  exact ⟨h0, v, hk.blk h1 ht, h2.kept hk (fun b hb => hs b (h4 b hb)), h3, h4⟩
theorem Tb.up {B t : Nat} {w w' : World} {L : List Pl} (h : Tb B w t L) (hk : Kept (fun _ => False) w w') : Tb B w' t L := h.kept hk id (fun _ _ h => h)
set_option maxRecDepth 100000 in
set_option maxHeartbeats 8000000 in
theorem new_any (w : World) : Calls Try.prog 7 #[] w fun e w' => e = .returned (.pointer (some ⟨w.heap.size, 0, none⟩)) ∧ Tb w.heap.size w' w.heap.size [] ∧ Kept (fun _ => False) w w' := by
  obtain ⟨W, hW⟩ : ∃ W, w.alloc (.cells #[.slice none 0 0] 45) = W := ⟨_, rfl⟩
  have hk : Kept (fun _ => False) w W := by rw [← hW]; exact (Kept.refl _ _).alloc _
  have hb : W.heap[w.heap.size]? = some (.cells #[.slice none 0 0] 45 (0, 0)) := by rw [← hW]; exact blk_new w _
  have H := Lib.hid (And.intro hk hb)
  clear hk hb
  go_enter Try.func7, Try.ntmps7
  go_wp2
  go_ret
  exact ⟨rfl, ⟨Nat.le_refl _, _, H.out.2, OwnP.nil _, (fun h => by cases h), (fun _ h => by cases h)⟩, H.out.1⟩
set_option maxRecDepth 100000 in
set_option maxHeartbeats 8000000 in
theorem clone_any (a : Option Addr) (n cap : Nat) (L : List Pl) (w : World) (hs : SlP w a n L) (hn : a = none → n = 0 ∧ cap = 0) (hl : n ≤ 400) :
    Calls Try.prog 19 #[.slice a n cap] w fun e w' => ∃ v, e = .returned v ∧ OwnP w' v L ∧ Kept (fun _ => False) w w' ∧ ∀ b, v.ownBlock = some b → w.heap.size ≤ b := by
  have hLl := hs.1
  cases a with
  | none =>
    obtain ⟨rfl, rfl⟩ := hn rfl
    have hx : L = [] := List.eq_nil_of_length_eq_zero hLl
    subst hx
    have hq := @Lib.run_eql_slice_nil Try.prog
    go_enter Try.func19, Try.ntmps19
    go_wp2
    go_ret
    exact ⟨_, rfl, OwnP.nil _, Kept.refl _ _, fun _ h => by cases h⟩
  | some y =>
    obtain ⟨i0, hi, hz, hsz, hby⟩ := info_parts info34
    obtain ⟨W, hW⟩ : ∃ W, w.alloc (.cells #[] 34) = W := ⟨_, rfl⟩
    have hk : Kept (fun _ => False) w W := by rw [← hW]; exact (Kept.refl _ _).alloc _
    have ho : OwnP W (.slice (some ⟨w.heap.size, 0, none⟩) 0 0) [] := by rw [← hW]; exact World.ownsRow_made (base := 0) w #[] 0 (Nat.zero_le _) (by simp [maxLen]) rfl
    have hs1 := hs.kept hk (fun _ _ _ _ => id)
    have hzw := hk.size
    have h63 : (9223372036854775807 : Nat) = maxLen := rfl
    have hq := @Lib.run_eql_slice_nil Try.prog
    have HH := Lib.hid (And.intro ho (And.intro hs1 (And.intro hk hzw)))
    have HI := Lib.hid hi
    clear hk ho hs1 hs hi hzw
    go_enter Try.func19, Try.ntmps19
    go_wp2_with (first
      | (at_builtin; refine wpList_appP rfl (.tmp 5) (.tmp 6) 22 rfl i0 _ 112 Try.underlying22 HI.out hz hsz hby rfl (.slice (some ⟨w.heap.size, 0, none⟩) 0 0) [] rfl HH.out.1 (some y) n cap L rfl (fun h => by cases h) HH.out.2.1 (by simp only [List.length_nil]; omega) (by simp only [List.length_nil]; omega) ?_; intro v5 w5 ho5 hk5 hpr5; have H5 := Lib.hid (And.intro ho5 (And.intro hk5 hpr5)); clear ho5 hk5 hpr5))
    go_ret
    obtain ⟨ho5, hk5, hpr5⟩ := H5.out
    refine ⟨v5, rfl, by simpa using ho5, HH.out.2.2.1.trans (hk5.mono (fun k _ h => Or.inr (by cases h; exact Nat.le_refl _))), ?_⟩
    intro b hb
    rcases hpr5 with h | h
    · rw [h] at hb; cases hb; exact Nat.le_refl _
    · rw [h] at hb; cases hb; exact HH.out.2.2.2
set_option maxRecDepth 100000 in
set_option maxHeartbeats 8000000 in
theorem all_any (B t : Nat) (L : List Pl) (w : World) (h : Tb B w t L) (hl : L.length ≤ 400) : Calls Try.prog 9 #[.pointer (some ⟨t, 0, none⟩)] w fun e w' => ∃ a cap, e = .returned (.slice a L.length cap) ∧ SlP w' a L.length L ∧ Tb B w' t L ∧ Kept (fun _ => False) w w' ∧ ∀ b off, a = some ⟨b, off, none⟩ → w.heap.size ≤ b := by
  have h0 := h
  obtain ⟨-, v, h1, h2, -⟩ := h0
  obtain ⟨a, cap, rfl, hs, hc, hm, hn, -⟩ := h2.shape
  obtain ⟨c0, -⟩ := blk1 h1
  obtain ⟨n, hnn⟩ : ∃ n, L.length = n := ⟨_, rfl⟩
  rw [hnn] at hs c0 hl hn
  have HC := Lib.hid (clone_any a n cap L w hs hn hl)
  have HT := Lib.hid (And.intro h hnn)
  clear h h1 h2 hs hn hc hnn
  go_enter Try.func9, Try.ntmps9
  go_wp2_with fail
  refine HC.out.mono ?_
  rintro e w2 ⟨v2, rfl, ho, hk, hb⟩
  obtain ⟨a2, cap2, rfl, hs2, -, -, -, hob⟩ := ho.shape
  have hkw := hk
  have H2 := Lib.hid (And.intro hs2 (And.intro hk (And.intro hob hb)))
  clear ho hs2 hk hob hb
  go_wp2
  go_ret
  exact ⟨a2, cap2, rfl, H2.out.1, HT.out.1.up H2.out.2.1, H2.out.2.1, fun b off h => H2.out.2.2.2 b (H2.out.2.2.1 b off h)⟩
set_option maxRecDepth 100000 in
set_option maxHeartbeats 8000000 in
theorem del_any (B t : Nat) (L : List Pl) (a : Ask) (v : Vw) (w : World) (h : Tb B w t L) (hl : L.length ≤ 400) (hB : B ≤ w.heap.size) : Calls Try.prog 10 #[.pointer (some ⟨t, 0, none⟩), a.val, v.val] w fun e w' => ∃ ad n cap, e = .returned (.slice ad n cap) ∧ n = (L.filter (fun p => matchB a p v)).length ∧ SlP w' ad n (L.filter (fun p => matchB a p v)) ∧ Tb B w' t (L.filter fun p => !(fun p => matchB a p v) p) ∧ (∀ b off, ad = some ⟨b, off, none⟩ → w.heap.size ≤ b) ∧ (∀ i, (∃ off, ad = some ⟨i, off, none⟩) → ∀ v, w'.heap[t]? = some (.cells #[v] 45 (0, 0)) → v.ownBlock ≠ some i ∧ i ≠ t) ∧ Kept (fun i => i = t) w w' := by
  obtain ⟨W, hW⟩ : ∃ W, (w.alloc (.cells a.cs 24)).alloc (.cells v.cs 26) = W := ⟨_, rfl⟩
  have hk : Kept (fun _ => False) w W := by rw [← hW]; exact ((Kept.refl _ _).alloc _).alloc _
  have hb0 : W.heap[w.heap.size]? = some (.cells a.cs 24 (0, 0)) := by rw [← hW]; exact blk_alloc (blk_new w _) _
  have hb1 : W.heap[w.heap.size + 1]? = some (.cells v.cs 26 (0, 0)) := by rw [← hW]; exact blk_at _ _ (by simp)
  have hT := h.up hk
  have hzW := hk.size
  have htl := lt_of_blk h.2.choose_spec.1
  obtain ⟨-, v0, h1, h2, h3, h4⟩ := hT
  have HTK := Lib.hid (take_del (fun p => matchB a p v) t v0 L w.heap.size (w.heap.size + 1) W h1 h2 hl (fun p V hp hkV => delc_any a p v V w.heap.size (w.heap.size + 1) (hkV.blk hb0 id) (hkV.blk hb1 id)))
  have HK := Lib.hid (And.intro hk (And.intro hzW (And.intro htl (And.intro h.1 hB))))
  clear hk hb0 hb1 hzW htl h h1 h2 h3 h4 hB
  unfold Vw.cs Ask.cs at hW
  unfold Ask.val Vw.val
  go_enter Try.func10, Try.ntmps10
  go_wp2_with fail
  refine HTK.out.mono ?_
  rintro e w2 ⟨vg, vl, rfl, hog, hol, htb, hkw, hgb, hlb, hgl⟩
  obtain ⟨a2, cap2, rfl, hs2, -, -, -, hob⟩ := hog.shape
  have hp1 := HK.out.2.1
  have hp2 := HK.out.2.2.1
  have hp3 := HK.out.2.2.2.1
  have H2 := Lib.hid (show SlP w2 a2 (L.filter (fun p => matchB a p v)).length (L.filter (fun p => matchB a p v)) ∧ Tb B w2 t (L.filter fun p => !(fun p => matchB a p v) p) ∧ (∀ b off, a2 = some ⟨b, off, none⟩ → w.heap.size ≤ b) ∧ (∀ i, (∃ off, a2 = some ⟨i, off, none⟩) → ∀ v, w2.heap[t]? = some (.cells #[v] 45 (0, 0)) → v.ownBlock ≠ some i ∧ i ≠ t) ∧ Kept (fun i => i = t) w w2 from
    ⟨hs2, ⟨HK.out.2.2.2.1, vl, htb, hol, (fun h => by have := hlb t h; omega), (fun b hb => by have := hlb b hb; have := HK.out.2.2.2.2; omega)⟩, (fun b off h => by have := hgb b (hob b off h); omega),
      (fun i hi v hv => by
        obtain ⟨off, hi⟩ := hi
        rw [htb] at hv
        cases hv
        exact ⟨hgl i (hob i off hi), fun h9 => by have := hgb i (hob i off hi); omega⟩), (HK.out.1.mono (fun _ _ h => h.elim)).then hkw⟩)
  obtain ⟨ln, hln⟩ : ∃ n, (L.filter (fun p => matchB a p v)).length = n := ⟨_, rfl⟩
  rw [hln] at H2 ⊢
  clear hog hol htb hkw hgb hlb hgl hs2 hob
  go_wp2
  go_ret
  exact ⟨a2, ln, cap2, rfl, hln.symm, H2.out⟩
set_option maxRecDepth 100000 in
set_option maxHeartbeats 8000000 in
theorem prune_any (B t : Nat) (L : List Pl) (al : Bool) (fi : Int) (w : World) (h : Tb B w t L) (hl : L.length ≤ 400) (hB : B ≤ w.heap.size) : Calls Try.prog 12 #[.pointer (some ⟨t, 0, none⟩), .bool al, .int .i64 fi] w fun e w' => ∃ ad n cap, e = .returned (.slice ad n cap) ∧ n = (L.filter (pruneB al fi)).length ∧ SlP w' ad n (L.filter (pruneB al fi)) ∧ Tb B w' t (L.filter fun p => !(pruneB al fi) p) ∧ (∀ b off, ad = some ⟨b, off, none⟩ → w.heap.size ≤ b) ∧ (∀ i, (∃ off, ad = some ⟨i, off, none⟩) → ∀ v, w'.heap[t]? = some (.cells #[v] 45 (0, 0)) → v.ownBlock ≠ some i ∧ i ≠ t) ∧ Kept (fun i => i = t) w w' := by
  obtain ⟨W, hW⟩ : ∃ W, (w.alloc (.cells #[.bool al] 4)).alloc (.cells #[.int .i64 fi] 2) = W := ⟨_, rfl⟩
  have hk : Kept (fun _ => False) w W := by rw [← hW]; exact ((Kept.refl _ _).alloc _).alloc _
  have hb0 : W.heap[w.heap.size]? = some (.cells #[.bool al] 4 (0, 0)) := by rw [← hW]; exact blk_alloc (blk_new w _) _
  have hb1 : W.heap[w.heap.size + 1]? = some (.cells #[.int .i64 fi] 2 (0, 0)) := by rw [← hW]; exact blk_at _ _ (by simp)
  have hT := h.up hk
  have hzW := hk.size
  have htl := lt_of_blk h.2.choose_spec.1
  obtain ⟨-, v, h1, h2, h3, h4⟩ := hT
  have HTK := Lib.hid (take_pru (pruneB al fi) t v L w.heap.size (w.heap.size + 1) W h1 h2 hl (fun p V hp hkV => pru_any al fi p V w.heap.size (w.heap.size + 1) (hkV.blk hb0 id) (hkV.blk hb1 id)))
  have HK := Lib.hid (And.intro hk (And.intro hzW (And.intro htl (And.intro h.1 hB))))
  clear hk hb0 hb1 hzW htl h h1 h2 h3 h4 hB
  go_enter Try.func12, Try.ntmps12
  go_wp2_with fail
  refine HTK.out.mono ?_
  rintro e w2 ⟨vg, vl, rfl, hog, hol, htb, hkw, hgb, hlb, hgl⟩
  obtain ⟨a2, cap2, rfl, hs2, -, -, -, hob⟩ := hog.shape
  have hp1 := HK.out.2.1
  have hp2 := HK.out.2.2.1
  have hp3 := HK.out.2.2.2.1
  have H2 := Lib.hid (show SlP w2 a2 (L.filter (pruneB al fi)).length (L.filter (pruneB al fi)) ∧ Tb B w2 t (L.filter fun p => !(pruneB al fi) p) ∧ (∀ b off, a2 = some ⟨b, off, none⟩ → w.heap.size ≤ b) ∧ (∀ i, (∃ off, a2 = some ⟨i, off, none⟩) → ∀ v, w2.heap[t]? = some (.cells #[v] 45 (0, 0)) → v.ownBlock ≠ some i ∧ i ≠ t) ∧ Kept (fun i => i = t) w w2 from
    ⟨hs2, ⟨HK.out.2.2.2.1, vl, htb, hol, (fun h => by have := hlb t h; omega), (fun b hb => by have := hlb b hb; have := HK.out.2.2.2.2; omega)⟩, (fun b off h => by have := hgb b (hob b off h); omega),
      (fun i hi v hv => by
        obtain ⟨off, hi⟩ := hi
        rw [htb] at hv
        cases hv
        exact ⟨hgl i (hob i off hi), fun h9 => by have := hgb i (hob i off hi); omega⟩), (HK.out.1.mono (fun _ _ h => h.elim)).then hkw⟩)
  obtain ⟨ln, hln⟩ : ∃ n, (L.filter (pruneB al fi)).length = n := ⟨_, rfl⟩
  rw [hln] at H2 ⊢
  clear hog hol htb hkw hgb hlb hgl hs2 hob
  go_wp2
  go_ret
  exact ⟨a2, ln, cap2, rfl, hln.symm, H2.out⟩
end Go.Proofs.Ytgbflcmageipdaa
