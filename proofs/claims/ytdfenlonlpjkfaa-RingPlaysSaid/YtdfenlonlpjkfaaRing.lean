/- A ring: what is where; New, Len, Gone, At, Push: of numbers and of strings. -/
import Derived.Test.YtdfenlonlpjkfaaVal
import Derived.Test.YtdfenlonlpjkfaaRows
import Derived.StillTailTactics
import Derived.Lib.Hide
import Derived.WalkLawsBesides
namespace Go.Proofs.Ytdfenlonlpjkfaa
open Go.RowKit
set_option linter.unusedVariables false
set_option linter.unusedSimpArgs false
/-- A ring at block q: how many there may be, where the first one is, how many have gone, its cells. -/
def RAt (T e : TypeId) (w : World) (q most at' gone : Nat) (xs : List Value) (o : Option Nat) : Prop :=
  ∃ v, w.heap[q]? = some (.cells #[.int .i64 most, v, .int .i64 at', .int .i64 gone] T (0, 0)) ∧ OwnV e w v xs ∧ v.ownBlock = o ∧ o ≠ some q
theorem RAt.kept {T e : TypeId} {w w' : World} {q most at' gone : Nat} {xs : List Value} {o : Option Nat} {S : Nat → Prop} (h : RAt T e w q most at' gone xs o) (hk : Kept S w w') (hq : ¬ S q) (ho : ∀ b, o = some b → ¬ S b) : RAt T e w' q most at' gone xs o := by
  obtain ⟨v, h1, h2, h3, h4⟩ := h
  exact ⟨v, hk.blk h1 hq, h2.kept hk (fun b hb => ho b (by rw [← h3, hb])), h3, h4⟩
theorem RAt.up {T e : TypeId} {w w' : World} {q most at' gone : Nat} {xs : List Value} {o : Option Nat} (h : RAt T e w q most at' gone xs o) (hk : Kept (fun _ => False) w w') : RAt T e w' q most at' gone xs o := h.kept hk id (fun _ _ => id)
theorem RAt.lt {T e : TypeId} {w : World} {q most at' gone : Nat} {xs : List Value} {o : Option Nat} (h : RAt T e w q most at' gone xs o) : q < w.heap.size ∧ ∀ b, o = some b → b < w.heap.size := by
  obtain ⟨v, h1, h2, h3, h4⟩ := h
  exact ⟨lt_of_blk h1, fun b hb => h2.lt b (by rw [h3, hb])⟩
/-- What a call on the ring may have touched. -/
def Ext (w : World) (q : Nat) (o o' : Option Nat) (w' : World) : Prop := Kept (fun i => i = q ∨ o = some i) w w' ∧ (o' = o ∨ ∃ b, o' = some b ∧ w.heap.size ≤ b)
theorem Ext.refl (w : World) (q : Nat) (o : Option Nat) : Ext w q o o w := ⟨Kept.refl _ _, .inl rfl⟩
theorem Ext.trans {w a b : World} {q : Nat} {o o1 o2 : Option Nat} (h : Ext w q o o1 a) (k : Ext a q o1 o2 b) : Ext w q o o2 b := by
  refine ⟨h.1.trans (k.1.mono fun i hi hs => ?_), ?_⟩
  · rcases hs with hs | hs
    · exact .inl (.inl hs)
    · rcases h.2 with h2 | ⟨c, h2, h3⟩
      · exact .inl (.inr (by rw [← h2]; exact hs))
      · rw [hs] at h2; cases h2; exact .inr h3
  · rcases k.2 with k2 | ⟨c, k2, k3⟩
    · rw [k2]; exact h.2
    · exact .inr ⟨c, k2, Nat.le_trans h.1.size k3⟩
theorem Ext.of {w w' : World} {q : Nat} {o : Option Nat} (h : Kept (fun i => i = q) w w') : Ext w q o o w' := ⟨h.mono fun _ _ h => .inl h, .inl rfl⟩
theorem Ext.same {w w' : World} {q : Nat} {o : Option Nat} (h : Kept (fun _ => False) w w') : Ext w q o o w' := ⟨h.mono fun _ _ h => h.elim, .inl rfl⟩
theorem tinfo3 : (Try.prog.info? 3).map (fun i => (i.zero, i.size, i.bytes)) = some (some (.int .i64 0), 1, 8) := by kernel_rfl
theorem tinfo9 : (Try.prog.info? 9).map (fun i => (i.zero, i.size, i.bytes)) = some (some (.string { data := #[] }), 1, 16) := by kernel_rfl
theorem pq (q : Nat) : (Value.pointer (some ⟨q, 0, none⟩)) = .pointer (some ⟨q, 0, none⟩) := rfl

set_option maxRecDepth 100000 in
set_option maxHeartbeats 4000000 in
theorem ilen_any (q most at' gone : Nat) (xs : List Value) (o : Option Nat) (w : World) (h : RAt 48 3 w q most at' gone xs o) : Calls Try.prog 9 #[.pointer (some ⟨q, 0, none⟩)] w fun e w' => e = .returned (.int .i64 xs.length) ∧ w' = w := by
  obtain ⟨v, hb, ho, -, -⟩ := h
  obtain ⟨a, cap, rfl, -⟩ := ho.shape
  obtain ⟨⟨c0, -⟩, ⟨c1, -⟩, ⟨c2, -⟩, c3, -⟩ := blk4 hb
  clear hb ho
  go_enter Try.func9, Try.ntmps9
  go_wp2
  go_ret
  exact ⟨rfl, rfl⟩
set_option maxRecDepth 100000 in
set_option maxHeartbeats 4000000 in
theorem igone_any (q most at' gone : Nat) (xs : List Value) (o : Option Nat) (w : World) (h : RAt 48 3 w q most at' gone xs o) : Calls Try.prog 11 #[.pointer (some ⟨q, 0, none⟩)] w fun e w' => e = .returned (.int .i64 gone) ∧ w' = w := by
  obtain ⟨v, hb, ho, -, -⟩ := h
  obtain ⟨⟨c0, -⟩, ⟨c1, -⟩, ⟨c2, -⟩, c3, -⟩ := blk4 hb
  clear hb ho
  go_enter Try.func11, Try.ntmps11
  go_wp2
  go_ret
  exact ⟨rfl, rfl⟩
set_option maxRecDepth 100000 in
set_option maxHeartbeats 4000000 in
theorem iat_no (q most at' gone : Nat) (xs : List Value) (o : Option Nat) (i : Int) (w : World) (h : RAt 48 3 w q most at' gone xs o) (hi : i < 0 ∨ (xs.length : Int) ≤ i) : Calls Try.prog 10 #[.pointer (some ⟨q, 0, none⟩), .int .i64 i] w fun e w' => e = .returned (.tuple #[.int .i64 0, .bool false]) ∧ w' = w := by
  obtain ⟨v, hb, ho, -, -⟩ := h
  obtain ⟨a, cap, rfl, -⟩ := ho.shape
  obtain ⟨⟨c0, -⟩, ⟨c1, -⟩, ⟨c2, -⟩, c3, -⟩ := blk4 hb
  clear hb ho
  by_cases h0 : i < 0
  · have g0 : decide (i < 0) = true := decide_eq_true h0
    clear hi
    go_enter Try.func10, Try.ntmps10
    go_wp2
    exact bodyPost_ret (v := .tuple #[.int .i64 0, .bool false]) (by simp [results, Try.results10, go_sem]) rfl ⟨rfl, rfl⟩
  · have g0 : decide (i < 0) = false := decide_eq_false h0
    have g1 : decide ((xs.length : Int) ≤ i) = true := decide_eq_true (by omega)
    clear hi
    go_enter Try.func10, Try.ntmps10
    go_wp2
    exact bodyPost_ret (v := .tuple #[.int .i64 0, .bool false]) (by simp [results, Try.results10, go_sem]) rfl ⟨rfl, rfl⟩
set_option maxRecDepth 100000 in
set_option maxHeartbeats 4000000 in
theorem iat_yes (q most at' gone : Nat) (xs : List Value) (o : Option Nat) (i : Nat) (x : Value) (w : World) (h : RAt 48 3 w q most at' gone xs o) (hi : i < xs.length) (ha : at' < xs.length) (hl : xs.length ≤ 65536) (hx : xs[(at' + i) % xs.length]? = some x) : Calls Try.prog 10 #[.pointer (some ⟨q, 0, none⟩), .int .i64 i] w fun e w' => e = .returned (.tuple #[x, .bool true]) ∧ Kept (fun _ => False) w w' := by
  obtain ⟨v, hb, ho, -, -⟩ := h
  obtain ⟨a, cap, rfl, -, -, -, hg, -⟩ := ho.shape
  obtain ⟨g, rfl⟩ := hg (by omega)
  obtain ⟨r, hr⟩ : ∃ r, (at' + i) % xs.length = r := ⟨_, rfl⟩
  obtain ⟨L, hL⟩ : ∃ L, xs.length = L := ⟨_, rfl⟩
  have hrl : r < L := by rw [← hr, ← hL]; exact Nat.mod_lt _ (by omega)
  have hc := ho.at.2.2.2.1 r (by rw [hL]; exact hrl)
  rw [hr] at hx
  rw [hx] at hc
  obtain ⟨⟨c0, -⟩, ⟨c1, -⟩, ⟨c2, -⟩, c3, -⟩ := blk4 hb
  have ht : ((at' : Int) + (i : Int)).tmod (L : Int) = (r : Int) := by rw [Int.tmod_eq_emod_of_nonneg (by omega), ← hr, hL]; exact (Int.natCast_emod _ _).symm
  rw [hL] at c1 hi ha hl
  have g0 : decide ((i : Int) < 0) = false := decide_eq_false (by omega)
  have g1 : decide (L ≤ i) = false := decide_eq_false (by omega)
  have g2 : ((L : Int) == 0) = false := by simp; omega
  have g3 : ¬ (L : Int) = 0 := by omega
  have g4 : ¬ L = 0 := by omega
  have w1 : IntKind.i64.wrap ((at' : Int) + (i : Int)) = (at' : Int) + (i : Int) := IntWalk.i64_in _ (by omega)
  have w2 : IntKind.i64.wrap (r : Int) = (r : Int) := IntWalk.i64_in _ (by omega)
  have l1 : 0 ≤ (r : Int) := by omega
  have l2 : (r : Int) < (L : Int) := by omega
  have HK := Lib.hid ((Kept.refl (fun _ => False) w).drew)
  clear hb ho hr hx hL
  go_enter Try.func10, Try.ntmps10
  go_wp2
  go_still (by kernel_rfl)
  go_wp2
  exact bodyPost_ret (v := .tuple #[x, .bool true]) (by simp [results, Try.results10, go_sem]) rfl ⟨rfl, HK.out⟩
set_option maxRecDepth 100000 in
set_option maxHeartbeats 4000000 in
theorem ipush_zero (q at' gone : Nat) (xs : List Value) (o : Option Nat) (x : Value) (w : World) (h : RAt 48 3 w q 0 at' gone xs o) (hgo : gone ≤ 1000000) : Calls Try.prog 8 #[.pointer (some ⟨q, 0, none⟩), x] w fun e w' => e = .returned (.tuple #[x, .bool true]) ∧ RAt 48 3 w' q 0 at' (gone + 1) xs o ∧ Kept (fun i => i = q) w w' := by
  obtain ⟨v, hb, ho, hvo, hoq⟩ := h
  obtain ⟨⟨c0, -⟩, ⟨c1, -⟩, ⟨c2, -⟩, c3, c3'⟩ := blk4 hb
  obtain ⟨V, hV⟩ : ∃ V, w.setCell ⟨q, 3, none⟩ (.int .i64 ((gone : Int) + 1)) = V := ⟨_, rfl⟩
  have kV : Kept (fun i => i = q) w V := by rw [← hV]; exact (Kept.refl (fun i => i = q) w).setCell (p := ⟨q, 3, none⟩) (.inl rfl) _
  have HR := Lib.hid (show RAt 48 3 V q 0 at' (gone + 1) xs o from ⟨v, by rw [← hV]; exact blk_set hb 3 _, ho.kept kV (fun b hb2 (hS : b = q) => hoq (by rw [← hvo, hb2, hS])), hvo, hoq⟩)
  have HK := Lib.hid kV
  have w1 : IntKind.i64.wrap ((gone : Int) + 1) = (gone : Int) + 1 := IntWalk.i64_in _ (by omega)
  clear hb ho kV hvo hoq
  go_enter Try.func8, Try.ntmps8
  go_wp2
  exact bodyPost_ret (v := .tuple #[x, .bool true]) (by simp [results, Try.results8, go_sem]) rfl ⟨rfl, HR.out, HK.out⟩
set_option maxRecDepth 100000 in
set_option maxHeartbeats 4000000 in
theorem ieven_none (q most gone : Nat) (xs : List Value) (o : Option Nat) (w : World) (h : RAt 48 3 w q most 0 gone xs o) : Calls Try.prog 24 #[.pointer (some ⟨q, 0, none⟩)] w fun e w' => e = .returned (.tuple #[]) ∧ w' = w := by
  obtain ⟨v, hb, ho, -, -⟩ := h
  obtain ⟨⟨c0, -⟩, ⟨c1, -⟩, ⟨c2, -⟩, c3, -⟩ := blk4 hb
  clear hb ho
  go_enter Try.func24, Try.ntmps24
  go_wp2
  go_end0
  exact ⟨rfl, rfl⟩
set_option maxRecDepth 100000 in
set_option maxHeartbeats 4000000 in
theorem ipush_room (q most gone : Nat) (xs : List Value) (o : Option Nat) (t : Int) (w : World) (h : RAt 48 3 w q most 0 gone xs o) (hlt : xs.length < most) (hm : most ≤ 65536) : Calls Try.prog 8 #[.pointer (some ⟨q, 0, none⟩), .int .i64 t] w fun e w' => e = .returned (.tuple #[.int .i64 0, .bool false]) ∧ ∃ o', RAt 48 3 w' q most 0 gone (xs ++ [.int .i64 t]) o' ∧ Ext w q o o' w' := by
  have HE := Lib.hid (ieven_none q most gone xs o w.drew (h.up (Kept.refl _ w).drew))
  obtain ⟨v, hb, ho, hvo, hoq⟩ := h
  obtain ⟨a, cap, rfl, -⟩ := ho.shape
  obtain ⟨i0, hi, hz0, hz1, hz2⟩ := info_parts tinfo3
  have HI := Lib.hid (And.intro hi (And.intro hz0 (And.intro hz1 hz2)))
  obtain ⟨⟨c0, -⟩, ⟨c1, -⟩, ⟨c2, -⟩, c3, -⟩ := blk4 hb
  obtain ⟨L, hL⟩ : ∃ L, xs.length = L := ⟨_, rfl⟩
  obtain ⟨W, hW⟩ : ∃ W, w.drew.alloc (.cells #[.int .i64 t] 3) = W := ⟨_, rfl⟩
  have kW : Kept (fun _ => False) w W := by rw [← hW]; exact (Kept.refl _ w).drew.alloc _
  have bW : W.heap[w.heap.size]? = some (.cells #[.int .i64 t] 3 (0, 0)) := by rw [← hW]; exact blk_new _ _
  have HOW := Lib.hid (ho.kept kW (fun _ _ => id))
  have HB := Lib.hid hb
  have HBW := Lib.hid bW
  have HL := Lib.hid hL
  have HKW := Lib.hid kW
  rw [hL] at c1 hlt hvo
  have m0 : ((most : Int) == 0) = false := by simp; omega
  have g1 : decide (L < most) = true := decide_eq_true hlt
  clear ho hi hz0 hz1 hz2 hb bW kW hL
  go_enter Try.func8, Try.ntmps8
  go_wp2
  go_still (by kernel_rfl)
  go_wp2_with fail
  refine HE.out.mono ?_
  rintro e w' ⟨rfl, rfl⟩
  rw [HL.out] at HOW HB
  have A1 := Lib.hid (one_lit HBW.out)
  have A2 : ∀ u ∈ ([.int .i64 t] : List Value), u.oneCell' = true := fun u hu => by simp at hu; rw [hu]; rfl
  have A3 : (xs.length + 1) * 8 ≤ 140737488355328 := by rw [HL.out]; omega
  have A4 : xs.length + 1 ≤ maxLen := by rw [HL.out]; simp only [maxLen]; omega
  have HA := Lib.hid (And.intro A2 (And.intro A3 A4))
  clear A2 A3 A4
  go_wp2_with (at_builtin; refine wpList_appV rfl (.tmp 39) (.tmp 41) 22 rfl 3 i0 (.int .i64 0) 8 Try.underlying22 HI.out.1 HI.out.2.1 HI.out.2.2.1 HI.out.2.2.2 rfl (.slice a L cap) xs rfl HOW.out (some ⟨w.heap.size, 0, none⟩) 1 1 [.int .i64 t] rfl (fun h => by cases h) rfl HA.out.1 A1.out HA.out.2.1 HA.out.2.2 ?_; intro v5 w5 ho5 hk5 hpr5; have hb5 : w5.heap[q]? = some (.cells #[.int .i64 most, .slice a L cap, .int .i64 0, .int .i64 gone] 48 (0, 0)) := hk5.blk (HKW.out.blk HB.out id) (fun hp => hoq (by rw [← hvo]; exact hp)); obtain ⟨-, ⟨d1, e1⟩, -⟩ := blk4 hb5; clear hb5 c0 c1 c2 c3; obtain ⟨a5, cap5, hv5, -⟩ := ho5.shape; rw [List.length_append, HL.out, List.length_singleton] at hv5; subst hv5; have HO5 := Lib.hid ho5; have HP5 := Lib.hid hpr5; have HK5 := Lib.hid hk5; clear ho5 hpr5 hk5)
  obtain ⟨r1, r2, r3, r4, r5⟩ := appV_field (i := 1) HB.out hvo hoq HKW.out HO5.out HK5.out HP5.out
  exact bodyPost_ret (v := .tuple #[.int .i64 0, .bool false]) (by simp [results, Try.results8, go_sem]) rfl ⟨rfl, _, ⟨_, by simpa using r1, r2, rfl, r3⟩, r4, r5⟩
set_option maxRecDepth 100000 in
set_option maxHeartbeats 4000000 in
theorem ipush_full (q most at' gone : Nat) (xs : List Value) (o : Option Nat) (t : Int) (y : Value) (w : World) (h : RAt 48 3 w q most at' gone xs o) (hl : xs.length = most) (h0 : 0 < most) (hm : most ≤ 65536) (ha : at' < most) (hgo : gone ≤ 1000000) (hy : xs[at']? = some y) : Calls Try.prog 8 #[.pointer (some ⟨q, 0, none⟩), .int .i64 t] w fun e w' => e = .returned (.tuple #[y, .bool true]) ∧ RAt 48 3 w' q most ((at' + 1) % most) (gone + 1) (xs.set at' (.int .i64 t)) o ∧ Kept (fun i => i = q ∨ o = some i) w w' := by
  obtain ⟨v, hb, ho, hvo, hoq⟩ := h
  obtain ⟨a, cap, rfl, -, -, -, hg, -⟩ := ho.shape
  obtain ⟨g, rfl⟩ := hg (by omega)
  subst hl
  obtain ⟨L, hL⟩ : ∃ L, xs.length = L := ⟨_, rfl⟩
  rw [hL] at h0 hm ha hb ho hvo ⊢
  obtain ⟨r, hr⟩ : ∃ r, (at' + 1) % L = r := ⟨_, rfl⟩
  have hgq : g ≠ q := fun e => hoq (by rw [← hvo, ← e]; rfl)
  have hog : some g = o := hvo
  have hc := ho.at.2.2.2.1 at' ha
  have hcf := ho.at.2.2.2.2 at'
  rw [hy] at hc
  have ht : ((at' : Int) + 1).tmod (L : Int) = (r : Int) := by rw [Int.tmod_eq_emod_of_nonneg (by omega), ← hr]; exact (Int.natCast_emod (at' + 1) L).symm
  rw [hr]
  -- the worlds
  obtain ⟨E1, hE1⟩ : ∃ D, w.drew = D := ⟨_, rfl⟩
  obtain ⟨E2, hE2⟩ : ∃ D, E1.drew = D := ⟨_, rfl⟩
  obtain ⟨D3, hD3⟩ : ∃ D, E2.drew = D := ⟨_, rfl⟩
  have kE1 : Kept (fun _ => False) w E1 := by rw [← hE1]; exact (Kept.refl _ w).drew
  have kE2 : Kept (fun _ => False) w E2 := by rw [← hE2]; exact kE1.drew
  have kD3 : Kept (fun _ => False) w D3 := by rw [← hD3]; exact kE2.drew
  obtain ⟨V1, hV1⟩ : ∃ V, D3.setCell ⟨g, at', none⟩ (.int .i64 t) = V := ⟨_, rfl⟩
  have k1 : Kept (fun i => i = q ∨ o = some i) D3 V1 := by rw [← hV1]; exact (Kept.refl (fun i => i = q ∨ o = some i) D3).setCell (p := ⟨g, at', none⟩) (.inl (.inr hog.symm)) _
  have o1 : OwnV 3 V1 (.slice (some ⟨g, 0, none⟩) L cap) (xs.set at' (.int .i64 t)) := by rw [← hV1]; exact (ho.kept kD3 (fun _ _ => id)).set at' rfl
  have b1 : V1.heap[q]? = some (.cells #[.int .i64 L, .slice (some ⟨g, 0, none⟩) L cap, .int .i64 at', .int .i64 gone] 48 (0, 0)) := by rw [← hV1]; exact blk_set_other (kD3.blk hb id) (fun h => hgq h.symm) _
  obtain ⟨D4, hD4⟩ : ∃ D, V1.drew = D := ⟨_, rfl⟩
  have kD4 : Kept (fun _ => False) V1 D4 := by rw [← hD4]; exact (Kept.refl _ V1).drew
  obtain ⟨V2, hV2⟩ : ∃ V, D4.setCell ⟨q, 2, none⟩ (.int .i64 r) = V := ⟨_, rfl⟩
  have k2 : Kept (fun i => i = q) D4 V2 := by rw [← hV2]; exact (Kept.refl (fun i => i = q) D4).setCell (p := ⟨q, 2, none⟩) (.inl rfl) _
  have b2 : V2.heap[q]? = some (.cells #[.int .i64 L, .slice (some ⟨g, 0, none⟩) L cap, .int .i64 r, .int .i64 gone] 48 (0, 0)) := by rw [← hV2]; exact blk_set (kD4.blk b1 id) 2 _
  obtain ⟨V3, hV3⟩ : ∃ V, V2.setCell ⟨q, 3, none⟩ (.int .i64 ((gone : Int) + 1)) = V := ⟨_, rfl⟩
  have k3 : Kept (fun i => i = q) V2 V3 := by rw [← hV3]; exact (Kept.refl (fun i => i = q) V2).setCell (p := ⟨q, 3, none⟩) (.inl rfl) _
  have b3 : V3.heap[q]? = some (.cells #[.int .i64 L, .slice (some ⟨g, 0, none⟩) L cap, .int .i64 r, .int .i64 ((gone + 1 : Nat) : Int)] 48 (0, 0)) := by rw [← hV3]; exact blk_set b2 3 _
  have o3 := ((o1.kept kD4 (fun _ _ => id)).kept k2 (fun b hb2 (hS : b = q) => hoq (by rw [← hvo]; exact hb2.trans (by rw [hS])))).kept k3 (fun b hb2 (hS : b = q) => hoq (by rw [← hvo]; exact hb2.trans (by rw [hS])))
  have HR := Lib.hid (show RAt 48 3 V3 q L r (gone + 1) (xs.set at' (.int .i64 t)) o from ⟨_, b3, o3, hvo, hoq⟩)
  have HK := Lib.hid ((((kD3.mono fun _ _ h => h.elim).then k1).then ((kD4.mono fun _ _ h => h.elim))).then ((k2.mono fun _ _ h => .inl h).then (k3.mono fun _ _ h => .inl h)))
  obtain ⟨⟨c0, -⟩, ⟨c1, -⟩, ⟨c2, -⟩, c3, -⟩ := blk4 hb
  obtain ⟨⟨p0, -⟩, ⟨p1, -⟩, ⟨p2, -⟩, p3, -⟩ := blk4 (kE1.blk hb id)
  obtain ⟨⟨s0, -⟩, ⟨s1, -⟩, ⟨s2, -⟩, s3, -⟩ := blk4 (kE2.blk hb id)
  obtain ⟨⟨t0, -⟩, ⟨t1, -⟩, ⟨t2, -⟩, t3, -⟩ := blk4 (kD3.blk hb id)
  have hcE1 := kE1.cell hc id
  have hcE2 := kE2.cell hc id
  have hcD3 := kD3.cell hc id
  have hcfD3 := (ho.kept kD3 (fun _ _ => id)).at.2.2.2.2 at'
  obtain ⟨⟨d0, -⟩, ⟨d1, -⟩, ⟨d2, d2'⟩, d3, -⟩ := blk4 (kD4.blk b1 id)
  obtain ⟨⟨e0, -⟩, ⟨e1, -⟩, ⟨e2, -⟩, e3, e3'⟩ := blk4 b2
  have m0 : ((L : Int) == 0) = false := by simp; omega
  have m1 : ¬ (L : Int) = 0 := by omega
  have m2 : ¬ L = 0 := by omega
  have g1 : decide (L < L) = false := decide_eq_false (by omega)
  have w1 : IntKind.i64.wrap ((at' : Int) + 1) = (at' : Int) + 1 := IntWalk.i64_in _ (by omega)
  have w2 : IntKind.i64.wrap (r : Int) = (r : Int) := IntWalk.i64_in _ (by have : r < L := by rw [← hr]; exact Nat.mod_lt _ h0
                                                                           omega)
  have w3 : IntKind.i64.wrap ((gone : Int) + 1) = (gone : Int) + 1 := IntWalk.i64_in _ (by omega)
  have l1 : 0 ≤ (at' : Int) := by omega
  have l2 : (at' : Int) < (L : Int) := by omega
  clear hb ho hvo kE1 kE2 kD3 k1 o1 b1 kD4 k2 b2 k3 b3 o3 hr hL hy
  go_enter Try.func8, Try.ntmps8
  go_wp2
  go_still (by kernel_rfl)
  rw [show (World.mk w.heap w.tape (w.drawn + 1) w.os w.output) = E1 from hE1]
  go_wp2
  go_still (by kernel_rfl)
  rw [show (World.mk E1.heap E1.tape (E1.drawn + 1) E1.os E1.output) = E2 from hE2]
  go_wp2
  go_still_tail 10, (by kernel_rfl)
  change wpList _ _ _ _ _ E2.drew
  rw [hD3]
  go_wp2
  go_still_tail 14, (by kernel_rfl)
  change wpList _ _ _ _ _ V1.drew
  rw [hD4]
  go_wp2
  exact bodyPost_ret (v := .tuple #[y, .bool true]) (by simp [results, Try.results8, go_sem]) rfl ⟨rfl, HR.out, HK.out⟩

set_option maxRecDepth 100000 in
set_option maxHeartbeats 4000000 in
theorem slen_any (q most at' gone : Nat) (xs : List Value) (o : Option Nat) (w : World) (h : RAt 57 9 w q most at' gone xs o) : Calls Try.prog 22 #[.pointer (some ⟨q, 0, none⟩)] w fun e w' => e = .returned (.int .i64 xs.length) ∧ w' = w := by
  obtain ⟨v, hb, ho, -, -⟩ := h
  obtain ⟨a, cap, rfl, -⟩ := ho.shape
  obtain ⟨⟨c0, -⟩, ⟨c1, -⟩, ⟨c2, -⟩, c3, -⟩ := blk4 hb
  clear hb ho
  go_enter Try.func22, Try.ntmps22
  go_wp2
  go_ret
  exact ⟨rfl, rfl⟩
set_option maxRecDepth 100000 in
set_option maxHeartbeats 4000000 in
theorem sgone_any (q most at' gone : Nat) (xs : List Value) (o : Option Nat) (w : World) (h : RAt 57 9 w q most at' gone xs o) : Calls Try.prog 23 #[.pointer (some ⟨q, 0, none⟩)] w fun e w' => e = .returned (.int .i64 gone) ∧ w' = w := by
  obtain ⟨v, hb, ho, -, -⟩ := h
  obtain ⟨⟨c0, -⟩, ⟨c1, -⟩, ⟨c2, -⟩, c3, -⟩ := blk4 hb
  clear hb ho
  go_enter Try.func23, Try.ntmps23
  go_wp2
  go_ret
  exact ⟨rfl, rfl⟩
set_option maxRecDepth 100000 in
set_option maxHeartbeats 4000000 in
theorem sat_no (q most at' gone : Nat) (xs : List Value) (o : Option Nat) (i : Int) (w : World) (h : RAt 57 9 w q most at' gone xs o) (hi : i < 0 ∨ (xs.length : Int) ≤ i) : Calls Try.prog 21 #[.pointer (some ⟨q, 0, none⟩), .int .i64 i] w fun e w' => e = .returned (.tuple #[.string { data := #[] }, .bool false]) ∧ w' = w := by
  obtain ⟨v, hb, ho, -, -⟩ := h
  obtain ⟨a, cap, rfl, -⟩ := ho.shape
  obtain ⟨⟨c0, -⟩, ⟨c1, -⟩, ⟨c2, -⟩, c3, -⟩ := blk4 hb
  clear hb ho
  by_cases h0 : i < 0
  · have g0 : decide (i < 0) = true := decide_eq_true h0
    clear hi
    go_enter Try.func21, Try.ntmps21
    go_wp2
    exact bodyPost_ret (v := .tuple #[.string { data := #[] }, .bool false]) (by simp [results, Try.results21, go_sem]) rfl ⟨rfl, rfl⟩
  · have g0 : decide (i < 0) = false := decide_eq_false h0
    have g1 : decide ((xs.length : Int) ≤ i) = true := decide_eq_true (by omega)
    clear hi
    go_enter Try.func21, Try.ntmps21
    go_wp2
    exact bodyPost_ret (v := .tuple #[.string { data := #[] }, .bool false]) (by simp [results, Try.results21, go_sem]) rfl ⟨rfl, rfl⟩
set_option maxRecDepth 100000 in
set_option maxHeartbeats 4000000 in
theorem sat_yes (q most at' gone : Nat) (xs : List Value) (o : Option Nat) (i : Nat) (x : Value) (w : World) (h : RAt 57 9 w q most at' gone xs o) (hi : i < xs.length) (ha : at' < xs.length) (hl : xs.length ≤ 65536) (hx : xs[(at' + i) % xs.length]? = some x) : Calls Try.prog 21 #[.pointer (some ⟨q, 0, none⟩), .int .i64 i] w fun e w' => e = .returned (.tuple #[x, .bool true]) ∧ Kept (fun _ => False) w w' := by
  obtain ⟨v, hb, ho, -, -⟩ := h
  obtain ⟨a, cap, rfl, -, -, -, hg, -⟩ := ho.shape
  obtain ⟨g, rfl⟩ := hg (by omega)
  obtain ⟨r, hr⟩ : ∃ r, (at' + i) % xs.length = r := ⟨_, rfl⟩
  obtain ⟨L, hL⟩ : ∃ L, xs.length = L := ⟨_, rfl⟩
  have hrl : r < L := by rw [← hr, ← hL]; exact Nat.mod_lt _ (by omega)
  have hc := ho.at.2.2.2.1 r (by rw [hL]; exact hrl)
  rw [hr] at hx
  rw [hx] at hc
  obtain ⟨⟨c0, -⟩, ⟨c1, -⟩, ⟨c2, -⟩, c3, -⟩ := blk4 hb
  have ht : ((at' : Int) + (i : Int)).tmod (L : Int) = (r : Int) := by rw [Int.tmod_eq_emod_of_nonneg (by omega), ← hr, hL]; exact (Int.natCast_emod _ _).symm
  rw [hL] at c1 hi ha hl
  have g0 : decide ((i : Int) < 0) = false := decide_eq_false (by omega)
  have g1 : decide (L ≤ i) = false := decide_eq_false (by omega)
  have g2 : ((L : Int) == 0) = false := by simp; omega
  have g3 : ¬ (L : Int) = 0 := by omega
  have g4 : ¬ L = 0 := by omega
  have w1 : IntKind.i64.wrap ((at' : Int) + (i : Int)) = (at' : Int) + (i : Int) := IntWalk.i64_in _ (by omega)
  have w2 : IntKind.i64.wrap (r : Int) = (r : Int) := IntWalk.i64_in _ (by omega)
  have l1 : 0 ≤ (r : Int) := by omega
  have l2 : (r : Int) < (L : Int) := by omega
  have HK := Lib.hid ((Kept.refl (fun _ => False) w).drew)
  clear hb ho hr hx hL
  go_enter Try.func21, Try.ntmps21
  go_wp2
  go_still (by kernel_rfl)
  go_wp2
  exact bodyPost_ret (v := .tuple #[x, .bool true]) (by simp [results, Try.results21, go_sem]) rfl ⟨rfl, HK.out⟩
set_option maxRecDepth 100000 in
set_option maxHeartbeats 4000000 in
theorem spush_zero (q at' gone : Nat) (xs : List Value) (o : Option Nat) (x : Value) (w : World) (h : RAt 57 9 w q 0 at' gone xs o) (hgo : gone ≤ 1000000) : Calls Try.prog 20 #[.pointer (some ⟨q, 0, none⟩), x] w fun e w' => e = .returned (.tuple #[x, .bool true]) ∧ RAt 57 9 w' q 0 at' (gone + 1) xs o ∧ Kept (fun i => i = q) w w' := by
  obtain ⟨v, hb, ho, hvo, hoq⟩ := h
  obtain ⟨⟨c0, -⟩, ⟨c1, -⟩, ⟨c2, -⟩, c3, c3'⟩ := blk4 hb
  obtain ⟨V, hV⟩ : ∃ V, w.setCell ⟨q, 3, none⟩ (.int .i64 ((gone : Int) + 1)) = V := ⟨_, rfl⟩
  have kV : Kept (fun i => i = q) w V := by rw [← hV]; exact (Kept.refl (fun i => i = q) w).setCell (p := ⟨q, 3, none⟩) (.inl rfl) _
  have HR := Lib.hid (show RAt 57 9 V q 0 at' (gone + 1) xs o from ⟨v, by rw [← hV]; exact blk_set hb 3 _, ho.kept kV (fun b hb2 (hS : b = q) => hoq (by rw [← hvo, hb2, hS])), hvo, hoq⟩)
  have HK := Lib.hid kV
  have w1 : IntKind.i64.wrap ((gone : Int) + 1) = (gone : Int) + 1 := IntWalk.i64_in _ (by omega)
  clear hb ho kV hvo hoq
  go_enter Try.func20, Try.ntmps20
  go_wp2
  exact bodyPost_ret (v := .tuple #[x, .bool true]) (by simp [results, Try.results20, go_sem]) rfl ⟨rfl, HR.out, HK.out⟩
set_option maxRecDepth 100000 in
set_option maxHeartbeats 4000000 in
theorem seven_none (q most gone : Nat) (xs : List Value) (o : Option Nat) (w : World) (h : RAt 57 9 w q most 0 gone xs o) : Calls Try.prog 27 #[.pointer (some ⟨q, 0, none⟩)] w fun e w' => e = .returned (.tuple #[]) ∧ w' = w := by
  obtain ⟨v, hb, ho, -, -⟩ := h
  obtain ⟨⟨c0, -⟩, ⟨c1, -⟩, ⟨c2, -⟩, c3, -⟩ := blk4 hb
  clear hb ho
  go_enter Try.func27, Try.ntmps27
  go_wp2
  go_end0
  exact ⟨rfl, rfl⟩
set_option maxRecDepth 100000 in
set_option maxHeartbeats 4000000 in
theorem spush_room (q most gone : Nat) (xs : List Value) (o : Option Nat) (t : ByteArray) (w : World) (h : RAt 57 9 w q most 0 gone xs o) (hlt : xs.length < most) (hm : most ≤ 65536) : Calls Try.prog 20 #[.pointer (some ⟨q, 0, none⟩), .string t] w fun e w' => e = .returned (.tuple #[.string { data := #[] }, .bool false]) ∧ ∃ o', RAt 57 9 w' q most 0 gone (xs ++ [.string t]) o' ∧ Ext w q o o' w' := by
  have HE := Lib.hid (seven_none q most gone xs o w.drew (h.up (Kept.refl _ w).drew))
  obtain ⟨v, hb, ho, hvo, hoq⟩ := h
  obtain ⟨a, cap, rfl, -⟩ := ho.shape
  obtain ⟨i0, hi, hz0, hz1, hz2⟩ := info_parts tinfo9
  have HI := Lib.hid (And.intro hi (And.intro hz0 (And.intro hz1 hz2)))
  obtain ⟨⟨c0, -⟩, ⟨c1, -⟩, ⟨c2, -⟩, c3, -⟩ := blk4 hb
  obtain ⟨L, hL⟩ : ∃ L, xs.length = L := ⟨_, rfl⟩
  obtain ⟨W, hW⟩ : ∃ W, w.drew.alloc (.cells #[.string t] 9) = W := ⟨_, rfl⟩
  have kW : Kept (fun _ => False) w W := by rw [← hW]; exact (Kept.refl _ w).drew.alloc _
  have bW : W.heap[w.heap.size]? = some (.cells #[.string t] 9 (0, 0)) := by rw [← hW]; exact blk_new _ _
  have HOW := Lib.hid (ho.kept kW (fun _ _ => id))
  have HB := Lib.hid hb
  have HBW := Lib.hid bW
  have HL := Lib.hid hL
  have HKW := Lib.hid kW
  rw [hL] at c1 hlt hvo
  have m0 : ((most : Int) == 0) = false := by simp; omega
  have g1 : decide (L < most) = true := decide_eq_true hlt
  clear ho hi hz0 hz1 hz2 hb bW kW hL
  go_enter Try.func20, Try.ntmps20
  go_wp2
  go_still (by kernel_rfl)
  go_wp2_with fail
  refine HE.out.mono ?_
  rintro e w' ⟨rfl, rfl⟩
  rw [HL.out] at HOW HB
  have A1 := Lib.hid (one_lit HBW.out)
  have A2 : ∀ u ∈ ([.string t] : List Value), u.oneCell' = true := fun u hu => by simp at hu; rw [hu]; rfl
  have A3 : (xs.length + 1) * 16 ≤ 140737488355328 := by rw [HL.out]; omega
  have A4 : xs.length + 1 ≤ maxLen := by rw [HL.out]; simp only [maxLen]; omega
  have HA := Lib.hid (And.intro A2 (And.intro A3 A4))
  clear A2 A3 A4
  go_wp2_with (at_builtin; refine wpList_appV rfl (.tmp 39) (.tmp 41) 55 rfl 9 i0 (.string { data := #[] }) 16 Try.underlying55 HI.out.1 HI.out.2.1 HI.out.2.2.1 HI.out.2.2.2 rfl (.slice a L cap) xs rfl HOW.out (some ⟨w.heap.size, 0, none⟩) 1 1 [.string t] rfl (fun h => by cases h) rfl HA.out.1 A1.out HA.out.2.1 HA.out.2.2 ?_; intro v5 w5 ho5 hk5 hpr5; have hb5 : w5.heap[q]? = some (.cells #[.int .i64 most, .slice a L cap, .int .i64 0, .int .i64 gone] 57 (0, 0)) := hk5.blk (HKW.out.blk HB.out id) (fun hp => hoq (by rw [← hvo]; exact hp)); obtain ⟨-, ⟨d1, e1⟩, -⟩ := blk4 hb5; clear hb5 c0 c1 c2 c3; obtain ⟨a5, cap5, hv5, -⟩ := ho5.shape; rw [List.length_append, HL.out, List.length_singleton] at hv5; subst hv5; have HO5 := Lib.hid ho5; have HP5 := Lib.hid hpr5; have HK5 := Lib.hid hk5; clear ho5 hpr5 hk5)
  obtain ⟨r1, r2, r3, r4, r5⟩ := appV_field (i := 1) HB.out hvo hoq HKW.out HO5.out HK5.out HP5.out
  exact bodyPost_ret (v := .tuple #[.string { data := #[] }, .bool false]) (by simp [results, Try.results20, go_sem]) rfl ⟨rfl, _, ⟨_, by simpa using r1, r2, rfl, r3⟩, r4, r5⟩
set_option maxRecDepth 100000 in
set_option maxHeartbeats 4000000 in
theorem spush_full (q most at' gone : Nat) (xs : List Value) (o : Option Nat) (t : ByteArray) (y : Value) (w : World) (h : RAt 57 9 w q most at' gone xs o) (hl : xs.length = most) (h0 : 0 < most) (hm : most ≤ 65536) (ha : at' < most) (hgo : gone ≤ 1000000) (hy : xs[at']? = some y) : Calls Try.prog 20 #[.pointer (some ⟨q, 0, none⟩), .string t] w fun e w' => e = .returned (.tuple #[y, .bool true]) ∧ RAt 57 9 w' q most ((at' + 1) % most) (gone + 1) (xs.set at' (.string t)) o ∧ Kept (fun i => i = q ∨ o = some i) w w' := by
  obtain ⟨v, hb, ho, hvo, hoq⟩ := h
  obtain ⟨a, cap, rfl, -, -, -, hg, -⟩ := ho.shape
  obtain ⟨g, rfl⟩ := hg (by omega)
  subst hl
  obtain ⟨L, hL⟩ : ∃ L, xs.length = L := ⟨_, rfl⟩
  rw [hL] at h0 hm ha hb ho hvo ⊢
  obtain ⟨r, hr⟩ : ∃ r, (at' + 1) % L = r := ⟨_, rfl⟩
  have hgq : g ≠ q := fun e => hoq (by rw [← hvo, ← e]; rfl)
  have hog : some g = o := hvo
  have hc := ho.at.2.2.2.1 at' ha
  have hcf := ho.at.2.2.2.2 at'
  rw [hy] at hc
  have ht : ((at' : Int) + 1).tmod (L : Int) = (r : Int) := by rw [Int.tmod_eq_emod_of_nonneg (by omega), ← hr]; exact (Int.natCast_emod (at' + 1) L).symm
  rw [hr]
  -- the worlds
  obtain ⟨E1, hE1⟩ : ∃ D, w.drew = D := ⟨_, rfl⟩
  obtain ⟨E2, hE2⟩ : ∃ D, E1.drew = D := ⟨_, rfl⟩
  obtain ⟨D3, hD3⟩ : ∃ D, E2.drew = D := ⟨_, rfl⟩
  have kE1 : Kept (fun _ => False) w E1 := by rw [← hE1]; exact (Kept.refl _ w).drew
  have kE2 : Kept (fun _ => False) w E2 := by rw [← hE2]; exact kE1.drew
  have kD3 : Kept (fun _ => False) w D3 := by rw [← hD3]; exact kE2.drew
  obtain ⟨V1, hV1⟩ : ∃ V, D3.setCell ⟨g, at', none⟩ (.string t) = V := ⟨_, rfl⟩
  have k1 : Kept (fun i => i = q ∨ o = some i) D3 V1 := by rw [← hV1]; exact (Kept.refl (fun i => i = q ∨ o = some i) D3).setCell (p := ⟨g, at', none⟩) (.inl (.inr hog.symm)) _
  have o1 : OwnV 9 V1 (.slice (some ⟨g, 0, none⟩) L cap) (xs.set at' (.string t)) := by rw [← hV1]; exact (ho.kept kD3 (fun _ _ => id)).set at' rfl
  have b1 : V1.heap[q]? = some (.cells #[.int .i64 L, .slice (some ⟨g, 0, none⟩) L cap, .int .i64 at', .int .i64 gone] 57 (0, 0)) := by rw [← hV1]; exact blk_set_other (kD3.blk hb id) (fun h => hgq h.symm) _
  obtain ⟨D4, hD4⟩ : ∃ D, V1.drew = D := ⟨_, rfl⟩
  have kD4 : Kept (fun _ => False) V1 D4 := by rw [← hD4]; exact (Kept.refl _ V1).drew
  obtain ⟨V2, hV2⟩ : ∃ V, D4.setCell ⟨q, 2, none⟩ (.int .i64 r) = V := ⟨_, rfl⟩
  have k2 : Kept (fun i => i = q) D4 V2 := by rw [← hV2]; exact (Kept.refl (fun i => i = q) D4).setCell (p := ⟨q, 2, none⟩) (.inl rfl) _
  have b2 : V2.heap[q]? = some (.cells #[.int .i64 L, .slice (some ⟨g, 0, none⟩) L cap, .int .i64 r, .int .i64 gone] 57 (0, 0)) := by rw [← hV2]; exact blk_set (kD4.blk b1 id) 2 _
  obtain ⟨V3, hV3⟩ : ∃ V, V2.setCell ⟨q, 3, none⟩ (.int .i64 ((gone : Int) + 1)) = V := ⟨_, rfl⟩
  have k3 : Kept (fun i => i = q) V2 V3 := by rw [← hV3]; exact (Kept.refl (fun i => i = q) V2).setCell (p := ⟨q, 3, none⟩) (.inl rfl) _
  have b3 : V3.heap[q]? = some (.cells #[.int .i64 L, .slice (some ⟨g, 0, none⟩) L cap, .int .i64 r, .int .i64 ((gone + 1 : Nat) : Int)] 57 (0, 0)) := by rw [← hV3]; exact blk_set b2 3 _
  have o3 := ((o1.kept kD4 (fun _ _ => id)).kept k2 (fun b hb2 (hS : b = q) => hoq (by rw [← hvo]; exact hb2.trans (by rw [hS])))).kept k3 (fun b hb2 (hS : b = q) => hoq (by rw [← hvo]; exact hb2.trans (by rw [hS])))
  have HR := Lib.hid (show RAt 57 9 V3 q L r (gone + 1) (xs.set at' (.string t)) o from ⟨_, b3, o3, hvo, hoq⟩)
  have HK := Lib.hid ((((kD3.mono fun _ _ h => h.elim).then k1).then ((kD4.mono fun _ _ h => h.elim))).then ((k2.mono fun _ _ h => .inl h).then (k3.mono fun _ _ h => .inl h)))
  obtain ⟨⟨c0, -⟩, ⟨c1, -⟩, ⟨c2, -⟩, c3, -⟩ := blk4 hb
  obtain ⟨⟨p0, -⟩, ⟨p1, -⟩, ⟨p2, -⟩, p3, -⟩ := blk4 (kE1.blk hb id)
  obtain ⟨⟨s0, -⟩, ⟨s1, -⟩, ⟨s2, -⟩, s3, -⟩ := blk4 (kE2.blk hb id)
  obtain ⟨⟨t0, -⟩, ⟨t1, -⟩, ⟨t2, -⟩, t3, -⟩ := blk4 (kD3.blk hb id)
  have hcE1 := kE1.cell hc id
  have hcE2 := kE2.cell hc id
  have hcD3 := kD3.cell hc id
  have hcfD3 := (ho.kept kD3 (fun _ _ => id)).at.2.2.2.2 at'
  obtain ⟨⟨d0, -⟩, ⟨d1, -⟩, ⟨d2, d2'⟩, d3, -⟩ := blk4 (kD4.blk b1 id)
  obtain ⟨⟨e0, -⟩, ⟨e1, -⟩, ⟨e2, -⟩, e3, e3'⟩ := blk4 b2
  have m0 : ((L : Int) == 0) = false := by simp; omega
  have m1 : ¬ (L : Int) = 0 := by omega
  have m2 : ¬ L = 0 := by omega
  have g1 : decide (L < L) = false := decide_eq_false (by omega)
  have w1 : IntKind.i64.wrap ((at' : Int) + 1) = (at' : Int) + 1 := IntWalk.i64_in _ (by omega)
  have w2 : IntKind.i64.wrap (r : Int) = (r : Int) := IntWalk.i64_in _ (by have : r < L := by rw [← hr]; exact Nat.mod_lt _ h0
                                                                           omega)
  have w3 : IntKind.i64.wrap ((gone : Int) + 1) = (gone : Int) + 1 := IntWalk.i64_in _ (by omega)
  have l1 : 0 ≤ (at' : Int) := by omega
  have l2 : (at' : Int) < (L : Int) := by omega
  clear hb ho hvo kE1 kE2 kD3 k1 o1 b1 kD4 k2 b2 k3 b3 o3 hr hL hy
  go_enter Try.func20, Try.ntmps20
  go_wp2
  go_still (by kernel_rfl)
  rw [show (World.mk w.heap w.tape (w.drawn + 1) w.os w.output) = E1 from hE1]
  go_wp2
  go_still (by kernel_rfl)
  rw [show (World.mk E1.heap E1.tape (E1.drawn + 1) E1.os E1.output) = E2 from hE2]
  go_wp2
  go_still_tail 10, (by kernel_rfl)
  change wpList _ _ _ _ _ E2.drew
  rw [hD3]
  go_wp2
  go_still_tail 14, (by kernel_rfl)
  change wpList _ _ _ _ _ V1.drew
  rw [hD4]
  go_wp2
  exact bodyPost_ret (v := .tuple #[y, .bool true]) (by simp [results, Try.results20, go_sem]) rfl ⟨rfl, HR.out, HK.out⟩

end Go.Proofs.Ytdfenlonlpjkfaa
