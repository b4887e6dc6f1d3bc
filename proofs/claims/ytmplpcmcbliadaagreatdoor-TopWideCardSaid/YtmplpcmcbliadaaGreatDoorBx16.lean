/- A ring of lines: even, Push, At; slices.Concat of four rows of lines; A line pushed; a grid scrolled; A grid scrolled by one line; The screen: a line down. -/
import Derived.Test.YtmplpcmcbliadaaGreatDoorBx10
import Derived.Lib.AppendZerosOnto
import Derived.Lib.SliceRun
import Derived.Deep.LoopGhost
set_option linter.unusedVariables false
set_option linter.unusedSimpArgs false
namespace Go.Proofs.YtmplpcmcbliadaaGreatDoor
open Go.RowKit Go.Sort Pl
theorem rblk4 {w : World} {b : Nat} {x y z u : Value} {t : TypeId} (h : w.heap[b]? = some (.cells #[x, y, z, u] t (0, 0))) :
  (w.cell? ⟨b, 0, none⟩ = some x /\ w.frozen? ⟨b, 0, none⟩ = false) /\ (w.cell? ⟨b, 1, none⟩ = some y /\ w.frozen? ⟨b, 1, none⟩ = false) /\ (w.cell? ⟨b, 2, none⟩ = some z /\ w.frozen? ⟨b, 2, none⟩ = false) /\ (w.cell? ⟨b, 3, none⟩ = some u /\ w.frozen? ⟨b, 3, none⟩ = false) :=
 ⟨⟨blk_cell h 0, blk_free h 0⟩, ⟨blk_cell h 1, blk_free h 1⟩, ⟨blk_cell h 2, blk_free h 2⟩, blk_cell h 3, blk_free h 3⟩
def RAt (T e : TypeId) (w : World) (q most at' gone : Nat) (xs : List Value) (o : Option Nat) : Prop :=
 ∃ v, w.heap[q]? = some (.cells #[.int .i64 most, v, .int .i64 at', .int .i64 gone] T (0, 0)) /\ OwnV e w v xs /\ v.ownBlock = o /\ o ≠ some q
theorem RAt.kept {T e : TypeId} {w w' : World} {q most at' gone : Nat} {xs : List Value} {o : Option Nat} {S : Nat -> Prop} (h : RAt T e w q most at' gone xs o) (hk : Kept S w w') (hq : ¬ S q) (ho : ∀ b, o = some b -> ¬ S b) : RAt T e w' q most at' gone xs o := by
 obtain ⟨v, h1, h2, h3, h4⟩ := h
 exact ⟨v, hk.blk h1 hq, h2.kept hk (fun b hb => ho b (by rw [<- h3, hb])), h3, h4⟩
theorem RAt.up {T e : TypeId} {w w' : World} {q most at' gone : Nat} {xs : List Value} {o : Option Nat} (h : RAt T e w q most at' gone xs o) (hk : Kept (fun _ => False) w w') : RAt T e w' q most at' gone xs o := h.kept hk id (fun _ _ => id)
theorem RAt.lt {T e : TypeId} {w : World} {q most at' gone : Nat} {xs : List Value} {o : Option Nat} (h : RAt T e w q most at' gone xs o) : q < w.heap.size /\ ∀ b, o = some b -> b < w.heap.size := by
 obtain ⟨v, h1, h2, h3, h4⟩ := h
 exact ⟨lt_of_blk h1, fun b hb => h2.lt b (by rw [h3, hb])⟩
def Ext (w : World) (q : Nat) (o o' : Option Nat) (w' : World) : Prop := Kept (fun i => i = q \/ o = some i) w w' /\ (o' = o \/ ∃ b, o' = some b /\ w.heap.size <= b)
theorem Ext.refl (w : World) (q : Nat) (o : Option Nat) : Ext w q o o w := ⟨Kept.refl _ _, .inl rfl⟩
theorem Ext.trans {w a b : World} {q : Nat} {o o1 o2 : Option Nat} (h : Ext w q o o1 a) (k : Ext a q o1 o2 b) : Ext w q o o2 b := by
 refine ⟨h.1.trans (k.1.mono fun i hi hs => ?_), ?_⟩
 ·rcases hs with hs | hs
  ·exact .inl (.inl hs)
  ·rcases h.2 with h2 | ⟨c, h2, h3⟩
   ·exact .inl (.inr (by rw [<- h2]; exact hs))
   ·rw [hs] at h2; cases h2; exact .inr h3
 ·rcases k.2 with k2 | ⟨c, k2, k3⟩
  ·rw [k2]; exact h.2
  ·exact .inr ⟨c, k2, Nat.le_trans h.1.size k3⟩
theorem Ext.of {w w' : World} {q : Nat} {o : Option Nat} (h : Kept (fun i => i = q) w w') : Ext w q o o w' := ⟨h.mono fun _ _ h => .inl h, .inl rfl⟩
theorem Ext.same {w w' : World} {q : Nat} {o : Option Nat} (h : Kept (fun _ => False) w w') : Ext w q o o w' := ⟨h.mono fun _ _ h => h.elim, .inl rfl⟩
set_option maxRecDepth 100000 in
set_option maxHeartbeats 4000000 in
theorem lat_no (q most at' gone : Nat) (xs : List Value) (o : Option Nat) (i : Int) (w : World) (h : RAt 256 68 w q most at' gone xs o) (hi : i < 0 \/ (xs.length : Int) <= i) : Calls Tryz.prog 105 #[.pointer (some ⟨q, 0, none⟩), .int .i64 i] w fun e w' => e = .returned (.tuple #[.slice none 0 0, .bool false]) /\ w' = w := by
 obtain ⟨v, hb, ho, -, -⟩ := h
 obtain ⟨a, cap, rfl, -⟩ := ho.shape
 obtain ⟨⟨c0, -⟩, ⟨c1, -⟩, ⟨c2, -⟩, c3, -⟩ := rblk4 hb
 clear hb ho
 by_cases h0 : i < 0
 ·have g0 : decide (i < 0) = true := decide_eq_true h0
  clear hi
  go_enter Tryz.func105, Tryz.ntmps105
  go_wp2
  exact bodyPost_ret (v := .tuple #[.slice none 0 0, .bool false]) (by simp [results, Tryz.results105, go_sem]) rfl ⟨rfl, rfl⟩
 ·have g0 : decide (i < 0) = false := decide_eq_false h0
  have g1 : decide ((xs.length : Int) <= i) = true := decide_eq_true (by omega)
  clear hi
  go_enter Tryz.func105, Tryz.ntmps105
  go_wp2
  exact bodyPost_ret (v := .tuple #[.slice none 0 0, .bool false]) (by simp [results, Tryz.results105, go_sem]) rfl ⟨rfl, rfl⟩
set_option maxRecDepth 100000 in
set_option maxHeartbeats 4000000 in
theorem lat_yes (q most at' gone : Nat) (xs : List Value) (o : Option Nat) (i : Nat) (x : Value) (w : World) (h : RAt 256 68 w q most at' gone xs o) (hi : i < xs.length) (ha : at' < xs.length) (hl : xs.length <= 65536) (hx : xs[(at' + i) % xs.length]? = some x) : Calls Tryz.prog 105 #[.pointer (some ⟨q, 0, none⟩), .int .i64 i] w fun e w' => e = .returned (.tuple #[x, .bool true]) /\ Kept (fun _ => False) w w' := by
 obtain ⟨v, hb, ho, -, -⟩ := h
 obtain ⟨a, cap, rfl, -, -, -, hg, -⟩ := ho.shape
 obtain ⟨g, rfl⟩ := hg (by omega)
 obtain ⟨r, hr⟩ : ∃ r, (at' + i) % xs.length = r := ⟨_, rfl⟩
 obtain ⟨L, hL⟩ : ∃ L, xs.length = L := ⟨_, rfl⟩
 have hrl : r < L := by rw [<- hr, <- hL]; exact Nat.mod_lt _ (by omega)
 have hc := ho.at.2.2.2.1 r (by rw [hL]; exact hrl)
 rw [hr] at hx
 rw [hx] at hc
 obtain ⟨⟨c0, -⟩, ⟨c1, -⟩, ⟨c2, -⟩, c3, -⟩ := rblk4 hb
 have ht : ((at' : Int) + (i : Int)).tmod (L : Int) = (r : Int) := by rw [Int.tmod_eq_emod_of_nonneg (by omega), <- hr, hL]; exact (Int.natCast_emod _ _).symm
 rw [hL] at c1 hi ha hl
 have g0 : decide ((i : Int) < 0) = false := decide_eq_false (by omega)
 have g1 : decide (L <= i) = false := decide_eq_false (by omega)
 have g2 : ((L : Int) == 0) = false := by simp; omega
 have g3 : ¬ (L : Int) = 0 := by omega
 have g4 : ¬ L = 0 := by omega
 have w1 : IntKind.i64.wrap ((at' : Int) + (i : Int)) = (at' : Int) + (i : Int) := IntWalk.i64_in _ (by omega)
 have w2 : IntKind.i64.wrap (r : Int) = (r : Int) := IntWalk.i64_in _ (by omega)
 have l1 : 0 <= (r : Int) := by omega
 have l2 : (r : Int) < (L : Int) := by omega
 have HK := Lib.hid ((Kept.refl (fun _ => False) w).drew)
 clear hb ho hr hx hL
 go_enter Tryz.func105, Tryz.ntmps105
 go_wp2
 go_still (by kernel_rfl)
 go_wp2
 exact bodyPost_ret (v := .tuple #[x, .bool true]) (by simp [results, Tryz.results105, go_sem]) rfl ⟨rfl, HK.out⟩
set_option maxRecDepth 100000 in
set_option maxHeartbeats 4000000 in
theorem lpush_zero (q at' gone : Nat) (xs : List Value) (o : Option Nat) (x : Value) (w : World) (h : RAt 256 68 w q 0 at' gone xs o) (hgo : gone <= 1000000) : Calls Tryz.prog 328 #[.pointer (some ⟨q, 0, none⟩), x] w fun e w' => e = .returned (.tuple #[x, .bool true]) /\ RAt 256 68 w' q 0 at' (gone + 1) xs o /\ Kept (fun i => i = q) w w' := by
 obtain ⟨v, hb, ho, hvo, hoq⟩ := h
 obtain ⟨⟨c0, -⟩, ⟨c1, -⟩, ⟨c2, -⟩, c3, c3'⟩ := rblk4 hb
 obtain ⟨V, hV⟩ : ∃ V, w.setCell ⟨q, 3, none⟩ (.int .i64 ((gone : Int) + 1)) = V := ⟨_, rfl⟩
 have kV : Kept (fun i => i = q) w V := by rw [<- hV]; exact (Kept.refl (fun i => i = q) w).setCell (p := ⟨q, 3, none⟩) (.inl rfl) _
 have HR := Lib.hid (show RAt 256 68 V q 0 at' (gone + 1) xs o from ⟨v, by rw [<- hV]; exact blk_set hb 3 _, ho.kept kV (fun b hb2 (hS : b = q) => hoq (by rw [<- hvo, hb2, hS])), hvo, hoq⟩)
 have HK := Lib.hid kV
 have w1 : IntKind.i64.wrap ((gone : Int) + 1) = (gone : Int) + 1 := IntWalk.i64_in _ (by omega)
 clear hb ho kV hvo hoq
 go_enter Tryz.func328, Tryz.ntmps328
 go_wp2
 exact bodyPost_ret (v := .tuple #[x, .bool true]) (by simp [results, Tryz.results328, go_sem]) rfl ⟨rfl, HR.out, HK.out⟩
set_option maxRecDepth 100000 in
set_option maxHeartbeats 4000000 in
theorem leven_none (q most gone : Nat) (xs : List Value) (o : Option Nat) (w : World) (h : RAt 256 68 w q most 0 gone xs o) : Calls Tryz.prog 376 #[.pointer (some ⟨q, 0, none⟩)] w fun e w' => e = .returned (.tuple #[]) /\ w' = w := by
 obtain ⟨v, hb, ho, -, -⟩ := h
 obtain ⟨⟨c0, -⟩, ⟨c1, -⟩, ⟨c2, -⟩, c3, -⟩ := rblk4 hb
 clear hb ho
 go_enter Tryz.func376, Tryz.ntmps376
 go_wp2
 go_end0
 exact ⟨rfl, rfl⟩
set_option maxRecDepth 100000 in
set_option maxHeartbeats 4000000 in
theorem lpush_room (q most gone : Nat) (xs : List Value) (o : Option Nat) (sa : Option Addr) (sn sc : Nat) (w : World) (h : RAt 256 68 w q most 0 gone xs o) (hlt : xs.length < most) (hm : most <= 65536) : Calls Tryz.prog 328 #[.pointer (some ⟨q, 0, none⟩), .slice sa sn sc] w fun e w' => e = .returned (.tuple #[.slice none 0 0, .bool false]) /\ ∃ o', RAt 256 68 w' q most 0 gone (xs ++ [.slice sa sn sc]) o' /\ Ext w q o o' w' := by
 have HE := Lib.hid (leven_none q most gone xs o w.drew (h.up (Kept.refl _ w).drew))
 obtain ⟨v, hb, ho, hvo, hoq⟩ := h
 obtain ⟨a, cap, rfl, -⟩ := ho.shape
 obtain ⟨i0, hi, hz0, hz1, hz2⟩ := info_parts info68
 have HI := Lib.hid (And.intro hi (And.intro hz0 (And.intro hz1 hz2)))
 obtain ⟨⟨c0, -⟩, ⟨c1, -⟩, ⟨c2, -⟩, c3, -⟩ := rblk4 hb
 obtain ⟨L, hL⟩ : ∃ L, xs.length = L := ⟨_, rfl⟩
 obtain ⟨W, hW⟩ : ∃ W, w.drew.alloc (.cells #[.slice sa sn sc] 68) = W := ⟨_, rfl⟩
 have kW : Kept (fun _ => False) w W := by rw [<- hW]; exact (Kept.refl _ w).drew.alloc _
 have bW : W.heap[w.heap.size]? = some (.cells #[.slice sa sn sc] 68 (0, 0)) := by rw [<- hW]; exact blk_new _ _
 have HOW := Lib.hid (ho.kept kW (fun _ _ => id))
 have HB := Lib.hid hb
 have HBW := Lib.hid bW
 have HL := Lib.hid hL
 have HKW := Lib.hid kW
 rw [hL] at c1 hlt hvo
 have m0 : ((most : Int) == 0) = false := by simp; omega
 have g1 : decide (L < most) = true := decide_eq_true hlt
 clear ho hi hz0 hz1 hz2 hb bW kW hL
 go_enter Tryz.func328, Tryz.ntmps328
 go_wp2
 go_still (by kernel_rfl)
 go_wp2_with fail
 refine HE.out.mono ?_
 rintro e w' ⟨rfl, rfl⟩
 rw [HL.out] at HOW HB
 have A1 := Lib.hid (one_lit HBW.out)
 have A2 : ∀ u ∈ ([.slice sa sn sc] : List Value), u.oneCell' = true := fun u hu => by simp at hu; rw [hu]; rfl
 have A3 : (xs.length + 1) * 24 <= 140737488355328 := by rw [HL.out]; omega
 have A4 : xs.length + 1 <= maxLen := by rw [HL.out]; simp only [maxLen]; omega
 have HA := Lib.hid (And.intro A2 (And.intro A3 A4))
 clear A2 A3 A4
 go_wp2_with (at_builtin; refine wpList_appV rfl (.tmp 39) (.tmp 41) 65 rfl 68 i0 (.slice none 0 0) 24 Tryz.underlying65 HI.out.1 HI.out.2.1 HI.out.2.2.1 HI.out.2.2.2 rfl (.slice a L cap) xs rfl HOW.out (some ⟨w.heap.size, 0, none⟩) 1 1 [.slice sa sn sc] rfl (fun h => by cases h) rfl HA.out.1 A1.out HA.out.2.1 HA.out.2.2 ?_; intro v5 w5 ho5 hk5 hpr5; have hb5 : w5.heap[q]? = some (.cells #[.int .i64 most, .slice a L cap, .int .i64 0, .int .i64 gone] 256 (0, 0)) := hk5.blk (HKW.out.blk HB.out id) (fun hp => hoq (by rw [<- hvo]; exact hp)); obtain ⟨-, ⟨d1, e1⟩, -⟩ := rblk4 hb5; clear hb5 c0 c1 c2 c3; obtain ⟨a5, cap5, hv5, -⟩ := ho5.shape; rw [List.length_append, HL.out, List.length_singleton] at hv5; subst hv5; have HO5 := Lib.hid ho5; have HP5 := Lib.hid hpr5; have HK5 := Lib.hid hk5; clear ho5 hpr5 hk5)
 obtain ⟨r1, r2, r3, r4, r5⟩ := appV_field (i := 1) HB.out hvo hoq HKW.out HO5.out HK5.out HP5.out
 exact bodyPost_ret (v := .tuple #[.slice none 0 0, .bool false]) (by simp [results, Tryz.results328, go_sem]) rfl ⟨rfl, _, ⟨_, by simpa using r1, r2, rfl, r3⟩, r4, r5⟩
set_option maxRecDepth 100000 in
set_option maxHeartbeats 4000000 in
theorem lpush_full (q most at' gone : Nat) (xs : List Value) (o : Option Nat) (sa : Option Addr) (sn sc : Nat) (y : Value) (w : World) (h : RAt 256 68 w q most at' gone xs o) (hl : xs.length = most) (h0 : 0 < most) (hm : most <= 65536) (ha : at' < most) (hgo : gone <= 1000000) (hy : xs[at']? = some y) : Calls Tryz.prog 328 #[.pointer (some ⟨q, 0, none⟩), .slice sa sn sc] w fun e w' => e = .returned (.tuple #[y, .bool true]) /\ RAt 256 68 w' q most ((at' + 1) % most) (gone + 1) (xs.set at' (.slice sa sn sc)) o /\ Kept (fun i => i = q \/ o = some i) w w' := by
 obtain ⟨v, hb, ho, hvo, hoq⟩ := h
 obtain ⟨a, cap, rfl, -, -, -, hg, -⟩ := ho.shape
 obtain ⟨g, rfl⟩ := hg (by omega)
 subst hl
 obtain ⟨L, hL⟩ : ∃ L, xs.length = L := ⟨_, rfl⟩
 rw [hL] at h0 hm ha hb ho hvo ⊢
 obtain ⟨r, hr⟩ : ∃ r, (at' + 1) % L = r := ⟨_, rfl⟩
 have hgq : g ≠ q := fun e => hoq (by rw [<- hvo, <- e]; rfl)
 have hog : some g = o := hvo
 have hc := ho.at.2.2.2.1 at' ha
 have hcf := ho.at.2.2.2.2 at'
 rw [hy] at hc
 have ht : ((at' : Int) + 1).tmod (L : Int) = (r : Int) := by rw [Int.tmod_eq_emod_of_nonneg (by omega), <- hr]; exact (Int.natCast_emod (at' + 1) L).symm
 rw [hr]
 -- the worlds
 obtain ⟨E1, hE1⟩ : ∃ D, w.drew = D := ⟨_, rfl⟩
 obtain ⟨E2, hE2⟩ : ∃ D, E1.drew = D := ⟨_, rfl⟩
 obtain ⟨D3, hD3⟩ : ∃ D, E2.drew = D := ⟨_, rfl⟩
 have kE1 : Kept (fun _ => False) w E1 := by rw [<- hE1]; exact (Kept.refl _ w).drew
 have kE2 : Kept (fun _ => False) w E2 := by rw [<- hE2]; exact kE1.drew
 have kD3 : Kept (fun _ => False) w D3 := by rw [<- hD3]; exact kE2.drew
 obtain ⟨V1, hV1⟩ : ∃ V, D3.setCell ⟨g, at', none⟩ (.slice sa sn sc) = V := ⟨_, rfl⟩
 have k1 : Kept (fun i => i = q \/ o = some i) D3 V1 := by rw [<- hV1]; exact (Kept.refl (fun i => i = q \/ o = some i) D3).setCell (p := ⟨g, at', none⟩) (.inl (.inr hog.symm)) _
 have o1 : OwnV 68 V1 (.slice (some ⟨g, 0, none⟩) L cap) (xs.set at' (.slice sa sn sc)) := by rw [<- hV1]; exact (ho.kept kD3 (fun _ _ => id)).set at' rfl
 have b1 : V1.heap[q]? = some (.cells #[.int .i64 L, .slice (some ⟨g, 0, none⟩) L cap, .int .i64 at', .int .i64 gone] 256 (0, 0)) := by rw [<- hV1]; exact blk_set_other (kD3.blk hb id) (fun h => hgq h.symm) _
 obtain ⟨D4, hD4⟩ : ∃ D, V1.drew = D := ⟨_, rfl⟩
 have kD4 : Kept (fun _ => False) V1 D4 := by rw [<- hD4]; exact (Kept.refl _ V1).drew
 obtain ⟨V2, hV2⟩ : ∃ V, D4.setCell ⟨q, 2, none⟩ (.int .i64 r) = V := ⟨_, rfl⟩
 have k2 : Kept (fun i => i = q) D4 V2 := by rw [<- hV2]; exact (Kept.refl (fun i => i = q) D4).setCell (p := ⟨q, 2, none⟩) (.inl rfl) _
 have b2 : V2.heap[q]? = some (.cells #[.int .i64 L, .slice (some ⟨g, 0, none⟩) L cap, .int .i64 r, .int .i64 gone] 256 (0, 0)) := by rw [<- hV2]; exact blk_set (kD4.blk b1 id) 2 _
 obtain ⟨V3, hV3⟩ : ∃ V, V2.setCell ⟨q, 3, none⟩ (.int .i64 ((gone : Int) + 1)) = V := ⟨_, rfl⟩
 have k3 : Kept (fun i => i = q) V2 V3 := by rw [<- hV3]; exact (Kept.refl (fun i => i = q) V2).setCell (p := ⟨q, 3, none⟩) (.inl rfl) _
 have b3 : V3.heap[q]? = some (.cells #[.int .i64 L, .slice (some ⟨g, 0, none⟩) L cap, .int .i64 r, .int .i64 ((gone + 1 : Nat) : Int)] 256 (0, 0)) := by rw [<- hV3]; exact blk_set b2 3 _
 have o3 := ((o1.kept kD4 (fun _ _ => id)).kept k2 (fun b hb2 (hS : b = q) => hoq (by rw [<- hvo]; exact hb2.trans (by rw [hS])))).kept k3 (fun b hb2 (hS : b = q) => hoq (by rw [<- hvo]; exact hb2.trans (by rw [hS])))
 have HR := Lib.hid (show RAt 256 68 V3 q L r (gone + 1) (xs.set at' (.slice sa sn sc)) o from ⟨_, b3, o3, hvo, hoq⟩)
 have HK := Lib.hid ((((kD3.mono fun _ _ h => h.elim).then k1).then ((kD4.mono fun _ _ h => h.elim))).then ((k2.mono fun _ _ h => .inl h).then (k3.mono fun _ _ h => .inl h)))
 obtain ⟨⟨c0, -⟩, ⟨c1, -⟩, ⟨c2, -⟩, c3, -⟩ := rblk4 hb
 obtain ⟨⟨p0, -⟩, ⟨p1, -⟩, ⟨p2, -⟩, p3, -⟩ := rblk4 (kE1.blk hb id)
 obtain ⟨⟨s0, -⟩, ⟨s1, -⟩, ⟨s2, -⟩, s3, -⟩ := rblk4 (kE2.blk hb id)
 obtain ⟨⟨t0, -⟩, ⟨t1, -⟩, ⟨t2, -⟩, t3, -⟩ := rblk4 (kD3.blk hb id)
 have hcE1 := kE1.cell hc id
 have hcE2 := kE2.cell hc id
 have hcD3 := kD3.cell hc id
 have hcfD3 := (ho.kept kD3 (fun _ _ => id)).at.2.2.2.2 at'
 obtain ⟨⟨d0, -⟩, ⟨d1, -⟩, ⟨d2, d2'⟩, d3, -⟩ := rblk4 (kD4.blk b1 id)
 obtain ⟨⟨e0, -⟩, ⟨e1, -⟩, ⟨e2, -⟩, e3, e3'⟩ := rblk4 b2
 have m0 : ((L : Int) == 0) = false := by simp; omega
 have m1 : ¬ (L : Int) = 0 := by omega
 have m2 : ¬ L = 0 := by omega
 have g1 : decide (L < L) = false := decide_eq_false (by omega)
 have w1 : IntKind.i64.wrap ((at' : Int) + 1) = (at' : Int) + 1 := IntWalk.i64_in _ (by omega)
 have w2 : IntKind.i64.wrap (r : Int) = (r : Int) := IntWalk.i64_in _ (by have : r < L := (by rw [<- hr]; exact Nat.mod_lt _ h0); omega)
 have w3 : IntKind.i64.wrap ((gone : Int) + 1) = (gone : Int) + 1 := IntWalk.i64_in _ (by omega)
 have l1 : 0 <= (at' : Int) := by omega
 have l2 : (at' : Int) < (L : Int) := by omega
 clear hb ho hvo kE1 kE2 kD3 k1 o1 b1 kD4 k2 b2 k3 b3 o3 hr hL hy
 go_enter Tryz.func328, Tryz.ntmps328
 go_wp2
 go_still (by kernel_rfl)
 rw [show (World.mk w.heap w.tape (w.drawn + 1) w.os w.output) = E1 from hE1]
 go_wp2
 go_still (by kernel_rfl)
 rw [show (World.mk E1.heap E1.tape (E1.drawn + 1) E1.os E1.output) = E2 from hE2]
 go_wp2
 go_still_tail 10, (by kernel_rfl)
 change wpList _ _ _ _ _ E2.drew
 rw [hD3]
 go_wp2
 go_still_tail 14, (by kernel_rfl)
 change wpList _ _ _ _ _ V1.drew
 rw [hD4]
 go_wp2
 exact bodyPost_ret (v := .tuple #[y, .bool true]) (by simp [results, Tryz.results328, go_sem]) rfl ⟨rfl, HR.out, HK.out⟩
attribute [local go_sem] growOp growUpon sameUpon
set_option maxRecDepth 100000 in
set_option maxHeartbeats 4000000 in
theorem growl_nil (n : Nat) (w : World) (h0 : 0 < n) (hn : n <= 65536) : Calls Tryz.prog 375 #[.slice none 0 0, .int .i64 n] w fun e w' => ∃ G, e = .returned (.slice (some ⟨w.heap.size, 0, none⟩) 0 G) /\ OwnV 68 w' (.slice (some ⟨w.heap.size, 0, none⟩) 0 G) [] /\ Kept (fun _ => False) w w' := by
 obtain ⟨i0, hi, hz0, hz1, hz2⟩ := info_parts info68
 have hG1 := grownCap_ge w n 0 68
 have hG2 := grownCap_le_maxLen w n 0 68 (by simp only [maxLen]; omega)
 obtain ⟨G, hG⟩ : ∃ G, grownCap w n 0 68 = G := ⟨_, rfl⟩
 have hrz : ∀ ty, (Builtin.append_ #[65, 3] ty #[.slice none 0 0, .int .i64 n]).run Tryz.prog w = .ok (.slice (some ⟨w.heap.size, 0, none⟩) n G) (w.drew.alloc (.cells (Builtin.zeroCells (Value.slice none 0 0).cells n ++ Builtin.zeroCells (Value.slice none 0 0).cells (G - n)) 68)) := fun ty => by
  have h := Lib.run_append_grow_zeros (P := Tryz.prog) w 65 3 ty 68 i0 (.slice none 0 0) .i64 .i64 Tryz.underlying65 un3 hi hz0 none 0 0 [] (run_firstCells_none w.drew i0.size 0 0 0) n h0 (by omega) (by omega) (by omega) (by rw [hz2]; omega) (growslice_fits (by omega) (by rw [hz2]; omega))
  rw [Nat.zero_add, hG] at h
  simpa using h
 rw [hG] at hG1 hG2
 obtain ⟨V, hV⟩ : ∃ V, w.drew.alloc (.cells (Builtin.zeroCells (Value.slice none 0 0).cells n ++ Builtin.zeroCells (Value.slice none 0 0).cells (G - n)) 68) = V := ⟨_, rfl⟩
 rw [hV] at hrz
 have HO := Lib.hid (show OwnV 68 V (.slice (some ⟨w.heap.size, 0, none⟩) 0 G) [] by
  rw [<- hV]
  exact World.ownsRow_made (base := 0) w.drew _ G (Nat.zero_le _) hG2 (by rw [Array.size_append, size_zeroCells, size_zeroCells]; show n * 1 + (G - n) * 1 = G * 1; omega))
 have HK := Lib.hid (show Kept (fun _ => False) w V by rw [<- hV]; exact (Kept.refl _ w).drew.alloc _)
 have g0 : decide ((n : Int) < 0) = false := decide_eq_false (by omega)
 have g1 : decide (0 < (n : Int)) = true := decide_eq_true (by omega)
 have g2 : decide (0 < n) = true := decide_eq_true h0
 have w1 : IntKind.i64.wrap (n : Int) = (n : Int) := IntWalk.i64_in _ (by omega)
 clear hi hz0 hz1 hz2 hV hG
 go_enter Tryz.func375, Tryz.ntmps375
 go_wp2_with (at_builtin; refine Lib.wpList_append_run _ rfl _ _ _ _ rfl _ _ rfl rfl _ _ (hrz _) ?_)
 go_ret
 exact ⟨G, rfl, HO.out, HK.out⟩
def SlV (w : World) (a : Option Addr) (n : Nat) (xs : List Value) : Prop := xs.length = n /\ (n = 0 \/ ∃ b off, a = some ⟨b, off, none⟩ /\ ∀ j, j < n -> w.cell? ⟨b, off + j, none⟩ = xs[j]?)
theorem SlV.src {w : World} {a : Option Addr} {n : Nat} {xs : List Value} (h : SlV w a n xs) : ∀ y, a = some y -> ∀ j u, xs[j]? = some u -> w.cell? (y.add j) = some u := by
 intro y hy j u hu
 have hj : j < xs.length := (List.getElem?_eq_some_iff.1 hu).1
 obtain ⟨b, off, he, hc⟩ := h.2.resolve_left (by have := h.1; omega)
 rw [hy] at he
 cases he
 have e : (⟨b, off, none⟩ : Addr).add j = ⟨b, off + j, none⟩ := by unfold Addr.add; split <;> simp_all
 rw [e, hc j (by rw [<- h.1]; exact hj)]; exact hu
theorem SlV.kept {S : Nat -> Prop} {w w' : World} {a : Option Addr} {n : Nat} {xs : List Value} (h : SlV w a n xs) (hk : Kept S w w') (hn : ∀ b off, a = some ⟨b, off, none⟩ -> ¬ S b) (hx : ∀ j, j < n -> xs[j]?.isSome = true) : SlV w' a n xs := by
 refine ⟨h.1, ?_⟩
 rcases h.2 with h2 | ⟨b, off, rfl, hc⟩
 ·exact .inl h2
 ·refine .inr ⟨b, off, rfl, fun j hj => ?_⟩
  obtain ⟨u, hu⟩ := Option.isSome_iff_exists.1 (hx j hj)
  rw [hu]
  exact hk.cell ((hc j hj).trans hu) (hn b off rfl)
theorem OwnV.sub {e : TypeId} {w : World} {g n cap : Nat} {xs : List Value} (h : OwnV e w (.slice (some ⟨g, 0, none⟩) n cap) xs) (k m : Nat) (hk : k + m <= n) : SlV w (some ⟨g, k, none⟩) m ((xs.drop k).take m) := by
 obtain ⟨h1, h2, h3, h4, -⟩ := h.at
 refine ⟨by simp; omega, .inr ⟨g, k, rfl, fun j hj => ?_⟩⟩
 rw [h4 (k + j) (by omega), List.getElem?_take, if_pos hj, List.getElem?_drop]
theorem SlV.up {w w' : World} {a : Option Addr} {n : Nat} {xs : List Value} (h : SlV w a n xs) (hk : Kept (fun _ => False) w w') : SlV w' a n xs := h.kept hk (fun _ _ _ => id) (fun j hj => by simp; have := h.1; omega)
set_option maxRecDepth 100000 in
set_option maxHeartbeats 8000000 in
theorem concat4_any (p : Nat) (a1 a2 a3 a4 : Option Addr) (n1 c1 n2 c2 n3 c3 n4 c4 : Nat) (z1 z2 z3 z4 : List Value) (w : World) (hb : w.heap[p]? = some (.cells #[.slice a1 n1 c1, .slice a2 n2 c2, .slice a3 n3 c3, .slice a4 n4 c4] 65 (0, 0)))
  (h1 : SlV w a1 n1 z1) (h2 : SlV w a2 n2 z2) (h3 : SlV w a3 n3 z3) (h4 : SlV w a4 n4 z4) (e1 : a1 = none -> n1 = 0 /\ c1 = 0) (e2 : a2 = none -> n2 = 0 /\ c2 = 0) (e3 : a3 = none -> n3 = 0 /\ c3 = 0) (e4 : a4 = none -> n4 = 0 /\ c4 = 0)
  (x1 : ∀ u ∈ z1, u.oneCell' = true) (x2 : ∀ u ∈ z2, u.oneCell' = true) (x3 : ∀ u ∈ z3, u.oneCell' = true) (x4 : ∀ u ∈ z4, u.oneCell' = true) (N : Nat) (hN : n1 + n2 + n3 + n4 = N) (h0 : 0 < N) (hn : N <= 65536) :
  Calls Tryz.prog 327 #[.slice (some ⟨p, 0, none⟩) 4 4] w fun e w' => ∃ v, e = .returned v /\ OwnV 68 w' v (z1 ++ z2 ++ z3 ++ z4) /\ Kept (fun _ => False) w w' /\ ∀ b, v.ownBlock = some b -> w.heap.size <= b := by
 obtain ⟨i0, hi, hz0, hz1, hz2⟩ := info_parts info68
 have HI := Lib.hid (And.intro hi (And.intro hz0 (And.intro hz1 hz2)))
 obtain ⟨q0, q1, q2, q3⟩ := blk4c hb
 have HB := Lib.hid hb
 have H1 := Lib.hid (And.intro h1 (And.intro e1 x1))
 have H2 := Lib.hid (And.intro h2 (And.intro e2 x2))
 have H3 := Lib.hid (And.intro h3 (And.intro e3 x3))
 have H4 := Lib.hid (And.intro h4 (And.intro e4 x4))
 have w1 : IntKind.i64.wrap (n1 : Int) = (n1 : Int) := IntWalk.i64_in _ (by omega)
 have w2 : IntKind.i64.wrap ((n1 : Int) + (n2 : Int)) = (n1 : Int) + (n2 : Int) := IntWalk.i64_in _ (by omega)
 have w3 : IntKind.i64.wrap ((n1 : Int) + (n2 : Int) + (n3 : Int)) = (n1 : Int) + (n2 : Int) + (n3 : Int) := IntWalk.i64_in _ (by omega)
 have w4 : IntKind.i64.wrap ((n1 : Int) + (n2 : Int) + (n3 : Int) + (n4 : Int)) = (N : Int) := by rw [IntWalk.i64_in _ (by omega)]; omega
 have g1 : decide ((n1 : Int) < 0) = false := decide_eq_false (by omega)
 have g2 : decide ((n1 : Int) + (n2 : Int) < 0) = false := decide_eq_false (by omega)
 have g3 : decide ((n1 : Int) + (n2 : Int) + (n3 : Int) < 0) = false := decide_eq_false (by omega)
 have g4 : decide ((N : Int) < 0) = false := decide_eq_false (by omega)
 have HN := Lib.hid (And.intro hN hn)
 clear hi hz0 hz1 hz2 hb h1 h2 h3 h4 e1 e2 e3 e4 x1 x2 x3 x4 hN
 go_enter Tryz.func327, Tryz.ntmps327
 go_wp2
 refine wp_loop_rounds 5 ?_
 rw [rounds_succ]
 go_wp2
 rw [rounds_succ]
 go_wp2
 rw [rounds_succ]
 go_wp2
 rw [rounds_succ]
 go_wp2
 rw [rounds_succ]
 go_wp2_with fail
 refine (growl_nil N _ (by omega) hn).mono ?_; rintro e w2 ⟨G, rfl, ho2, hk2⟩
 obtain ⟨d0, d1, d2, d3⟩ := blk4c (hk2.blk HB.out id)
 obtain ⟨q, hq⟩ : ∃ q, w.heap.size = q := ⟨_, rfl⟩
 have HO0 := Lib.hid ho2
 rw [hq] at HO0 ⊢
 have HK0 := Lib.hid (show Kept (fun _ => False) w w2 /\ w.heap.size = q from ⟨hk2, hq⟩)
 have HF0 := Lib.hid (show ∀ b, (Value.slice (some ⟨q, 0, none⟩) 0 G).ownBlock = some b -> w.heap.size <= b from fun b hb => by have h9 : q = b := Option.some.inj hb; omega)
 have A1 := Lib.hid (H1.out.1.up hk2)
 clear ho2 hk2 q0 q1 q2 q3 hq
 go_wp2
 refine wp_loop_rounds 5 ?_
 rw [rounds_succ]
 go_wp2_with (at_builtin; refine wpList_appV rfl (.tmp 31) (.tmp 32) 65 rfl 68 i0 (.slice none 0 0) 24 Tryz.underlying65 HI.out.1 HI.out.2.1 HI.out.2.2.1 HI.out.2.2.2 rfl (.slice (some ⟨q, 0, none⟩) 0 G) ([]) rfl HO0.out a1 n1 c1 z1 rfl H1.out.2.1 A1.out.1 H1.out.2.2 A1.out.src (by have := HN.out; have := H1.out.1.1; have := H2.out.1.1; have := H3.out.1.1; have := H4.out.1.1; (try simp only [List.length_append, List.length_nil]); omega) (by have := HN.out; have := H1.out.1.1; have := H2.out.1.1; have := H3.out.1.1; have := H4.out.1.1; (try simp only [maxLen, List.length_append, List.length_nil]); omega) ?_; intro v1 y1 ho1 hk1 hpr1; have hkk1 : Kept (fun _ => False) w y1 := HK0.out.1.trans (hk1.mono fun i _ hi => Or.inr (HF0.out i hi)); have HK1 := Lib.hid hkk1; have hf1 : ∀ b, v1.ownBlock = some b -> w.heap.size <= b := (fun b hb => hpr1.elim (fun h => HF0.out b (by rw [<- h, hb])) (fun h => by rw [h] at hb; have h9 := Option.some.inj hb; have := HK0.out.1.size; omega)); obtain ⟨f1, g91, hv1, -⟩ := ho1.shape; rw [List.nil_append] at ho1 hv1; obtain ⟨L1, hL1⟩ : ∃ n, (z1).length = n := ⟨_, rfl⟩; rw [hL1] at hv1; subst hv1; have HF1 := Lib.hid hf1; have HO1 := Lib.hid ho1; have A2 := Lib.hid (H2.out.1.up hkk1); obtain ⟨d01, d11, d21, d31⟩ := blk4c (hkk1.blk HB.out id); clear ho1 hk1 hpr1 hkk1 hf1 hL1 d0 d1 d2 d3)
 rw [rounds_succ]
 go_wp2_with (at_builtin; refine wpList_appV rfl (.tmp 31) (.tmp 32) 65 rfl 68 i0 (.slice none 0 0) 24 Tryz.underlying65 HI.out.1 HI.out.2.1 HI.out.2.2.1 HI.out.2.2.2 rfl (.slice f1 L1 g91) (z1) rfl HO1.out a2 n2 c2 z2 rfl H2.out.2.1 A2.out.1 H2.out.2.2 A2.out.src (by have := HN.out; have := H1.out.1.1; have := H2.out.1.1; have := H3.out.1.1; have := H4.out.1.1; (try simp only [List.length_append, List.length_nil]); omega) (by have := HN.out; have := H1.out.1.1; have := H2.out.1.1; have := H3.out.1.1; have := H4.out.1.1; (try simp only [maxLen, List.length_append, List.length_nil]); omega) ?_; intro v2 y2 ho2 hk2 hpr2; have hkk2 : Kept (fun _ => False) w y2 := HK1.out.trans (hk2.mono fun i _ hi => Or.inr (HF1.out i hi)); have HK2 := Lib.hid hkk2; have hf2 : ∀ b, v2.ownBlock = some b -> w.heap.size <= b := (fun b hb => hpr2.elim (fun h => HF1.out b (by rw [<- h, hb])) (fun h => by rw [h] at hb; have h9 := Option.some.inj hb; have := HK1.out.size; omega)); obtain ⟨f2, g92, hv2, -⟩ := ho2.shape; obtain ⟨L2, hL2⟩ : ∃ n, (z1 ++ z2).length = n := ⟨_, rfl⟩; rw [hL2] at hv2; subst hv2; have HF2 := Lib.hid hf2; have HO2 := Lib.hid ho2; have A3 := Lib.hid (H3.out.1.up hkk2); obtain ⟨d02, d12, d22, d32⟩ := blk4c (hkk2.blk HB.out id); clear ho2 hk2 hpr2 hkk2 hf2 hL2 d01 d11 d21 d31)
 rw [rounds_succ]
 go_wp2_with (at_builtin; refine wpList_appV rfl (.tmp 31) (.tmp 32) 65 rfl 68 i0 (.slice none 0 0) 24 Tryz.underlying65 HI.out.1 HI.out.2.1 HI.out.2.2.1 HI.out.2.2.2 rfl (.slice f2 L2 g92) (z1 ++ z2) rfl HO2.out a3 n3 c3 z3 rfl H3.out.2.1 A3.out.1 H3.out.2.2 A3.out.src (by have := HN.out; have := H1.out.1.1; have := H2.out.1.1; have := H3.out.1.1; have := H4.out.1.1; (try simp only [List.length_append, List.length_nil]); omega) (by have := HN.out; have := H1.out.1.1; have := H2.out.1.1; have := H3.out.1.1; have := H4.out.1.1; (try simp only [maxLen, List.length_append, List.length_nil]); omega) ?_; intro v3 y3 ho3 hk3 hpr3; have hkk3 : Kept (fun _ => False) w y3 := HK2.out.trans (hk3.mono fun i _ hi => Or.inr (HF2.out i hi)); have HK3 := Lib.hid hkk3; have hf3 : ∀ b, v3.ownBlock = some b -> w.heap.size <= b := (fun b hb => hpr3.elim (fun h => HF2.out b (by rw [<- h, hb])) (fun h => by rw [h] at hb; have h9 := Option.some.inj hb; have := HK2.out.size; omega)); obtain ⟨f3, g93, hv3, -⟩ := ho3.shape; obtain ⟨L3, hL3⟩ : ∃ n, (z1 ++ z2 ++ z3).length = n := ⟨_, rfl⟩; rw [hL3] at hv3; subst hv3; have HF3 := Lib.hid hf3; have HO3 := Lib.hid ho3; have A4 := Lib.hid (H4.out.1.up hkk3); obtain ⟨d03, d13, d23, d33⟩ := blk4c (hkk3.blk HB.out id); clear ho3 hk3 hpr3 hkk3 hf3 hL3 d02 d12 d22 d32)
 rw [rounds_succ]
 go_wp2_with (at_builtin; refine wpList_appV rfl (.tmp 31) (.tmp 32) 65 rfl 68 i0 (.slice none 0 0) 24 Tryz.underlying65 HI.out.1 HI.out.2.1 HI.out.2.2.1 HI.out.2.2.2 rfl (.slice f3 L3 g93) (z1 ++ z2 ++ z3) rfl HO3.out a4 n4 c4 z4 rfl H4.out.2.1 A4.out.1 H4.out.2.2 A4.out.src (by have := HN.out; have := H1.out.1.1; have := H2.out.1.1; have := H3.out.1.1; have := H4.out.1.1; (try simp only [List.length_append, List.length_nil]); omega) (by have := HN.out; have := H1.out.1.1; have := H2.out.1.1; have := H3.out.1.1; have := H4.out.1.1; (try simp only [maxLen, List.length_append, List.length_nil]); omega) ?_; intro v4 y4 ho4 hk4 hpr4; have hkk4 : Kept (fun _ => False) w y4 := HK3.out.trans (hk4.mono fun i _ hi => Or.inr (HF3.out i hi)); have HK4 := Lib.hid hkk4; have hf4 : ∀ b, v4.ownBlock = some b -> w.heap.size <= b := (fun b hb => hpr4.elim (fun h => HF3.out b (by rw [<- h, hb])) (fun h => by rw [h] at hb; have h9 := Option.some.inj hb; have := HK3.out.size; omega)); obtain ⟨f4, g94, hv4, -⟩ := ho4.shape; obtain ⟨L4, hL4⟩ : ∃ n, (z1 ++ z2 ++ z3 ++ z4).length = n := ⟨_, rfl⟩; rw [hL4] at hv4; subst hv4; have HF4 := Lib.hid hf4; have HO4 := Lib.hid ho4; clear ho4 hk4 hpr4 hkk4 hf4 hL4 d03 d13 d23 d33)
 rw [rounds_succ]
 go_wp2
 go_ret
 exact ⟨_, rfl, HO4.out, HK4.out, HF4.out⟩
end Go.Proofs.YtmplpcmcbliadaaGreatDoor
namespace Go.Proofs.YtmplpcmcbliadaaGreatDoor
open Go.RowKit Go.Sort Pl
attribute [local go_sem] growOp growUpon sameUpon
def pushP {α : Type} (most : Nat) (l : List α) (x : α) : List α := if most = 0 then l else if l.length < most then l ++ [x] else l.drop 1 ++ [x]
theorem rot_set {α : Type} {l : List α} {k : Nat} (hk : k < l.length) (x : α) : (l.set k x).drop ((k + 1) % l.length) ++ (l.set k x).take ((k + 1) % l.length) = (l.drop k ++ l.take k).drop 1 ++ [x] := by
 have e1 : (l.drop k ++ l.take k).drop 1 = l.drop (k + 1) ++ l.take k := by
  rw [List.drop_append_of_le_length (by simp; omega), List.drop_drop]
 rw [e1]
 by_cases h : k + 1 = l.length
 ·rw [h, Nat.mod_self]
  have hd : l.drop l.length = [] := List.drop_length
  simp only [List.drop_zero, List.take_zero, List.append_nil, hd, List.nil_append]
  apply List.ext_getElem?
  intro i
  by_cases hi : i < k
  ·rw [List.getElem?_set_ne (by omega), List.getElem?_append_left (by simp; omega), List.getElem?_take_of_lt hi]
  ·by_cases hi2 : i = k
   ·subst hi2
    rw [List.getElem?_set_self hk, List.getElem?_append_right (by simp; omega)]
    simp [Nat.min_eq_left (Nat.le_of_lt hk)]
   ·rw [List.getElem?_eq_none (by simp; omega), List.getElem?_eq_none (by simp; omega)]
 ·rw [Nat.mod_eq_of_lt (by omega)]
  have e2 : (l.set k x).drop (k + 1) = l.drop (k + 1) := by
   rw [List.drop_set, if_pos (by omega)]
  have e3 : (l.set k x).take (k + 1) = l.take k ++ [x] := by
   rw [List.take_add_one, List.getElem?_set_self hk, List.take_set_of_le (Nat.le_refl k)]
   rfl
  rw [e2, e3, List.append_assoc]
theorem gpush_any (rp most at' gone : Nat) (rv : Value) (rs : List Value) (sa : Option Addr) (sn sc : Nat) (w : World) (hb : RnA w rp most rv at' gone) (ho : OwnV 68 w rv rs) (ha : (at' = 0 /\ rs.length <= most) \/ (at' < rs.length /\ rs.length = most)) (hm : most <= 65536) (hg : gone <= 1000000) :
  Calls Tryz.prog 328 #[.pointer (some ⟨rp, 0, none⟩), .slice sa sn sc] w fun e w' => (∃ x, e = .returned x) /\ ∃ rv' at'' gone' rs', RnA w' rp most rv' at'' ((gone' : Nat) : Int) /\ OwnV 68 w' rv' rs' /\ ((at'' = 0 /\ rs'.length <= most) \/ (at'' < rs'.length /\ rs'.length = most)) /\ gone' <= gone + 1 /\ rs'.drop at'' ++ rs'.take at'' = pushP most (rs.drop at' ++ rs.take at') (.slice sa sn sc) /\ Kept (fun i => i = rp \/ rv.ownBlock = some i) w w' /\ (rv'.ownBlock = rv.ownBlock \/ ∀ b, rv'.ownBlock = some b -> w.heap.size <= b) := by
 obtain ⟨ov, hov⟩ : ∃ ov, rv.ownBlock = ov := ⟨_, rfl⟩
 have hnq : ov ≠ some rp := by
  intro h
  rw [h] at hov
  obtain ⟨c, hc⟩ := ownV_blk ho hov
  exact blk_ty2 hc hb (by decide)
 have hR : RAt 256 68 w rp most at' gone rs ov := ⟨rv, hb, ho, hov, hnq⟩
 have hlen : (rs.drop at' ++ rs.take at').length = rs.length := by simp; omega
 by_cases h0 : most = 0
 ·subst h0
  have hrs : rs = [] := by
   rcases ha with h | h
   ·exact List.eq_nil_of_length_eq_zero (by omega)
   ·omega
  subst hrs
  refine (lpush_zero rp at' gone [] ov _ w hR hg).mono ?_
  rintro e w' ⟨rfl, ⟨v, b1, b2, b3, b4⟩, hk⟩
  refine ⟨⟨_, rfl⟩, v, at', gone + 1, [], b1, b2, by simpa using ha, by omega, by simp [pushP], hk.mono fun i _ h => .inl h, .inl (by rw [b3, hov])⟩
 ·by_cases hl : rs.length < most
  ·have hat : at' = 0 := by omega
   subst hat
   refine (lpush_room rp most gone rs ov sa sn sc w hR hl hm).mono ?_
   rintro e w' ⟨rfl, o', ⟨v, b1, b2, b3, b4⟩, hk, hn⟩
   refine ⟨⟨_, rfl⟩, v, 0, gone, _, b1, b2, .inl ⟨rfl, by simp; omega⟩, by omega, ?_, hk.mono fun i _ h => by rcases h with h | h; exact .inl h; exact .inr (by rw [hov]; exact h), ?_⟩
   ·unfold pushP
    rw [if_neg h0, if_pos (by rw [hlen]; exact hl)]
    simp
   ·rcases hn with h | ⟨b, h, hz⟩
    ·exact .inl (by rw [b3, h, hov])
    ·exact .inr (fun b' hb' => by rw [b3, h] at hb'; cases hb'; exact hz)
  ·have hat : at' < rs.length := by omega
   have hln : rs.length = most := by omega
   obtain ⟨y, hy⟩ : ∃ y, rs[at']? = some y := ⟨_, List.getElem?_eq_getElem hat⟩
   refine (lpush_full rp most at' gone rs ov sa sn sc y w hR hln (by omega) hm (by omega) hg hy).mono ?_
   rintro e w' ⟨rfl, ⟨v, b1, b2, b3, b4⟩, hk⟩
   refine ⟨⟨_, rfl⟩, v, (at' + 1) % most, gone + 1, _, b1, b2, .inr ⟨by rw [List.length_set, hln]; exact Nat.mod_lt _ (by omega), by rw [List.length_set, hln]⟩, by omega, ?_, hk.mono fun i _ h => by rcases h with h | h; exact .inl h; exact .inr (by rw [hov]; exact h), .inl (by rw [b3, hov])⟩
   unfold pushP
   rw [if_neg h0, if_neg (by rw [hlen]; exact hl), <- hln]
   exact rot_set hat _
theorem LnsOk.push {G : Nat -> Prop} {w : World} {vs : List Value} {L : List (List Cl)} {most : Nat} {u : Value} {l : List Cl} (h : LnsOk G w vs L) (hu : OwnC w u l) (hb : ∀ b, u.ownBlock = some b -> G b) : LnsOk G w (pushP most vs u) (pushP most L l) := by
 have h1 : LnsOk G w [u] [l] := ⟨rfl, fun i x y hx hy => by
  match i, hx, hy with
  | 0, hx, hy => cases hx; cases hy; exact ⟨hu, hb⟩
  | i + 1, hx, hy => simp at hx⟩
 unfold pushP
 by_cases h0 : most = 0
 ·rw [if_pos h0, if_pos h0]; exact h
 ·rw [if_neg h0, if_neg h0, h.1]
  by_cases h2 : L.length < most
  ·rw [if_pos h2, if_pos h2]; exact h.append h1
  ·rw [if_neg h2, if_neg h2]; exact (h.drop 1).append h1
theorem pushP_mem {α : Type} {Q : α -> Prop} {most : Nat} {l : List α} {x : α} (h : ∀ y ∈ l, Q y) (hx : Q x) : ∀ y ∈ pushP most l x, Q y := by
 intro y hy
 unfold pushP at hy
 split at hy
 ·exact h y hy
 ·split at hy
  ·rcases List.mem_append.1 hy with h1 | h1
   ·exact h y h1
   ·rw [List.mem_singleton.1 h1]; exact hx
  ·rcases List.mem_append.1 hy with h1 | h1
   ·exact h y (List.mem_of_mem_drop h1)
   ·rw [List.mem_singleton.1 h1]; exact hx
end Go.Proofs.YtmplpcmcbliadaaGreatDoor
namespace Go.Proofs.YtmplpcmcbliadaaGreatDoor
open Go.RowKit Go.Sort Pl
attribute [local go_sem] growOp growUpon sameUpon
theorem GrB.set3 {w : World} {g rp rows cols : Nat} {lv : Value} {top : Int} (h : GrB w g rp rows cols lv top) (v : Value) : GrB (w.setCell ⟨g, 3, none⟩ v) g rp rows cols v top := blk_set h 3 v
theorem GrB.set4 {w : World} {g rp rows cols : Nat} {lv : Value} {top : Int} (h : GrB w g rp rows cols lv top) (t : Int) : GrB (w.setCell ⟨g, 4, none⟩ (.int .i64 t)) g rp rows cols lv t := blk_set h 4 _
theorem GrB.kept {w w' : World} {S : Nat -> Prop} {g rp rows cols : Nat} {lv : Value} {top : Int} (h : GrB w g rp rows cols lv top) (hk : Kept S w w') (hn : ¬ S g) : GrB w' g rp rows cols lv top := hk.blk h hn
set_option maxRecDepth 100000 in
set_option maxHeartbeats 8000000 in
theorem gscroll_any (G : Nat -> Prop) (g rows cols most : Nat) (top : Int) (gone : Nat) (L B : List (List Cl)) (rp : Nat) (lv rv : Value) (vs rs : List Value) (at' : Nat) (a : Look) (l : List Cl) (w : World)
  (h : GrK G w g rows cols most top gone L B rp lv rv vs rs at') (hl : L[0]? = some l) (ht : 0 <= top /\ top <= 100000) :
  Calls Tryz.prog 252 #[.pointer (some ⟨g, 0, none⟩), .int .i64 0, .int .i64 rows, .int .i64 1, lookV a] w fun e w' => (∃ x, e = .returned x) /\ (∃ gone lv rv vs rs at', GrK (Gn G w w') w' g rows cols most (top + 1) gone (L.drop 1 ++ [List.replicate cols ⟨0, 0, a⟩]) (pushP most B l) rp lv rv vs rs at') /\ Kept G w w' := by
 obtain ⟨fg, bg, fl⟩ := a
 have hvn : vs.length = rows := by rw [h.ll.1, h.nr]
 obtain ⟨al, cl, hlv, hcl, hcm, -, hsm, -⟩ := h.lo.shape
 rw [hvn] at hlv hsm hcl
 have hr := h.hr
 subst hlv
 obtain ⟨lg, rfl⟩ := hsm (by omega)
 clear hsm
 obtain ⟨x0, x1, x2, x3, x4⟩ := blk5c h.gb
 have HG := Lib.hid h
 obtain ⟨BL, hBL⟩ : ∃ b, List.replicate cols (⟨0, 0, ⟨fg, bg, fl⟩⟩ : Cl) = b := ⟨_, rfl⟩
 rw [hBL]
 have HBLe := Lib.hid hBL
 obtain ⟨V1, hV1⟩ : ∃ X, w.alloc (.cells #[.int .i64 fg, .int .i64 bg, .int .i64 fl] 53) = X := ⟨_, rfl⟩
 have k1 : Kept (fun _ => False) w V1 := by rw [<- hV1]; exact (Kept.refl _ _).alloc _
 have b1 : V1.heap[w.heap.size]? = some (.cells #[.int .i64 fg, .int .i64 bg, .int .i64 fl] 53 (0, 0)) := by rw [<- hV1]; exact blk_new _ _
 obtain ⟨WR, hWR⟩ : ∃ WR, WR = V1.drew := ⟨_, rfl⟩
 have kR : Kept (fun _ => False) V1 WR := by rw [hWR]; exact (Kept.refl _ _).drew
 have HWR := Lib.hid (show WR = V1.drew /\ Kept (fun _ => False) V1 WR /\ Kept (fun _ => False) w WR from ⟨hWR, kR, k1.then kR⟩)
 have y1 := k1.cell x1 id
 have y3 := k1.cell x3 id
 have X3 := cell_regrown (show WR.cell? ⟨g, 3, none⟩ = _ from kR.cell y3 id)
 have bR := kR.blk b1 id
 have Z0 := cell_regrown (show WR.cell? ⟨w.heap.size, 0, none⟩ = some (.int .i64 fg) from blk_cell bR 0)
 have Z1 := cell_regrown (show WR.cell? ⟨w.heap.size, 1, none⟩ = some (.int .i64 bg) from blk_cell bR 1)
 have Z2 := cell_regrown (show WR.cell? ⟨w.heap.size, 2, none⟩ = some (.int .i64 fl) from blk_cell bR 2)
 have w1 : IntKind.i64.wrap (rows : Int) = (rows : Int) := IntWalk.i64_in _ (by omega)
 have w2 : IntKind.i64.wrap (-(rows : Int)) = -(rows : Int) := IntWalk.i64_in _ (by omega)
 have g1 : decide ((rows : Int) <= 0) = false := decide_eq_false (by omega)
 have g2 : decide (rows < rows) = false := decide_eq_false (by omega)
 have g2' : decide ((rows : Int) < (rows : Int)) = false := decide_eq_false (by omega)
 have g3 : decide ((rows : Int) < 1) = false := decide_eq_false (by omega)
 have g4 : decide ((1 : Int) < -(rows : Int)) = false := decide_eq_false (by omega)
 have g5 : ¬ rows = 0 := by omega
 have m1 : max (1 : Int) (-1) = 1 := by decide
 have i1 : (1 : Int) <= (rows : Int) := by omega
 have i2 : 1 <= rows := by omega
 have i3 : rows <= cl := hcl
 have HBL := Lib.hid (fun (x : World) (k : Kept (fun _ => False) WR x) => show Calls Tryz.prog 224 #[.pointer (some ⟨g, 0, none⟩), .int .i64 1, .agg #[.int .i64 fg, .int .i64 bg, .int .i64 fl]] x fun e w' => ∃ v us, e = .returned v /\ NewR (fun _ => False) x BL 1 v us w' from by
  have h9 := gblanks_any g rp rows cols (.slice (some ⟨lg, 0, none⟩) rows cl) top 1 ⟨fg, bg, fl⟩ x ((HWR.out.2.2.then k).blk HG.out.gb id) HG.out.hc (by omega)
  rw [hBL] at h9
  exact h9)
 unfold lookV
 simp only
 clear h x0 x1 x2 x3 x4 k1 b1 kR bR hWR hBL
 go_enter Tryz.func252, Tryz.ntmps252
 have HVN := Lib.hid hvn
 have HSA := Lib.hid (fun (h1 : rows = 1) => show SlV WR (some ⟨lg, 0, none⟩) 0 (vs.drop 1) from ⟨by simp; omega, .inl rfl⟩)
 have HSB := Lib.hid (fun (h1 : ¬ rows = 1) => show SlV WR (some ⟨lg, 1, none⟩) (rows - 1) (vs.drop 1) from by
  have h9 := (HG.out.lo.kept HWR.out.2.2 (fun _ _ => id)).sub 1 (rows - 1) (by omega)
  rw [List.take_of_length_le (by simp; omega)] at h9
  exact h9)
 clear hvn
 by_cases r1 : rows = 1 <;> by_cases c1 : cl = rows
 all_goals (try subst c1)
 all_goals (try subst r1)
 all_goals
  skip
  obtain ⟨RB, hRB⟩ : ∃ R : Value -> World -> Prop, R = fun v w' => ∃ x us, Kept (fun _ => False) WR x /\ NewR (fun _ => False) x BL 1 v us w' := ⟨_, rfl⟩
  obtain ⟨RS, hRS⟩ : ∃ R : Value -> World -> Prop, R = fun v w' => ∃ b ub uc us x a10 n10 c10 a20 c20, v = .slice (some ⟨b, 0, none⟩) 4 4 /\ w'.heap[b]? = some (.cells #[.slice (some ⟨lg, 0, none⟩) 0 0, .slice (some a10) n10 c10, .slice ub 1 uc, .slice (some a20) 0 c20] 65 (0, 0)) /\ Kept (fun _ => False) WR x /\ NewR (fun _ => False) x BL 1 (.slice ub 1 uc) us w' /\ SlV WR (some a10) n10 (vs.drop 1) := ⟨_, rfl⟩
  obtain ⟨RC, hRC⟩ : ∃ R : Value -> World -> Prop, R = fun v w' => ∃ us, OwnV 68 w' v (vs.drop 1 ++ us) /\ us.length = 1 /\ (∀ b, v.ownBlock = some b -> WR.heap.size <= b) /\ ∀ u ∈ us, OwnC w' u BL /\ ∀ b, u.ownBlock = some b -> WR.heap.size <= b := ⟨_, rfl⟩
  have HRB := Lib.hid hRB
  have HRS := Lib.hid hRS
  have HRC := Lib.hid hRC
  clear hRB hRS hRC
  go_wp2
  refine wp_region_grow #[0, 0, 2, 6, 14, 0, 0, 126, 0, 0, 768, 0, 0, 0, 14336, 0, 32768, 98304, 229376, 0, 1015808, 2097150, 4194302, 8388607, 16777215, 33554431] 23 [] (fun i => if i = 14 then some RB else if i = 21 then some RS else if i = 22 then some RC else none) (by kernel_rfl) rfl (by kernel_rfl) (fun i hi => by cases hi) (fun _ _ _ _ _ h => h) ?_
  rintro _ rfl
  rw [<- HWR.out.1]
  simp only [List.take_succ_cons, List.take_zero, List.drop_succ_cons, List.drop_zero, number, Nat.reduceAdd]
  iterate 14 (refine wpGrow_step (fun K hK => ?_); go_simp; refine hK _ _ ?_; clear hK K)
  refine wpGrow_step (fun K hK => ?_)
  go_simp
  refine ⟨fun w' hg => (HBL.out w' hg.old).mono (fun e w'' ⟨v, us, he, hn⟩ => ⟨_, he, hn.k, by rw [HRB.out]; exact ⟨w', us, hg.old, hn⟩⟩), fun v14 w14 hv14 _ => ?_⟩
  rw [HRB.out] at hv14
  obtain ⟨x14, us, hx14, hn14⟩ := hv14
  obtain ⟨ub, uc, hue, -⟩ := hn14.own.shape
  rw [hn14.len] at hue
  subst hue
  have H14 := Lib.hid (And.intro hx14 hn14)
  clear hx14 hn14
  refine hK _ _ ?_; clear hK K
  iterate 6 (refine wpGrow_step (fun K hK => ?_); go_simp; refine hK _ _ ?_; clear hK K)
  refine wpGrow_step (fun K hK => ?_)
  go_simp
  refine ⟨fun w' hg => ⟨(Kept.refl _ _).alloc _, by rw [HRS.out]; exact ⟨w'.heap.size, ub, uc, us, x14, _, _, _, _, _, rfl, blk_new _ _, H14.out.1, (H14.out.2.up (hg.seen 14 (by kernel_rfl))).up ((Kept.refl (fun _ => False) _).alloc _), by first | exact HSA.out rfl | exact HSA.out trivial | exact HSA.out | exact HSB.out r1⟩⟩, fun v21 w21 hv21 _ => ?_⟩
  rw [HRS.out] at hv21
  obtain ⟨b21, ub1, uc1, us1, x21, a10, n10, c10, a20, c20, rfl, hb21, hx21, hn21, hs21⟩ := hv21
  have H21 := Lib.hid (And.intro hb21 (And.intro hx21 (And.intro hn21 hs21)))
  clear hb21 hx21 hn21 hs21
  refine hK _ _ ?_; clear hK K
  refine wpGrow_step (fun K hK => ?_)
  go_simp
  refine ⟨fun w' hg => ?_, fun v22 w22 hv22 _ => ?_⟩
  ·obtain ⟨hb, hx, hn, hs⟩ := H21.out
   have hk21 : Kept (fun _ => False) w21 w' := hg.seen 21 (by kernel_rfl)
   have hn2 := hn.up hk21
   have hb2 := hk21.blk hb id
   have hus : SlV w' ub1 1 us1 := by
    obtain ⟨ga, gc, hv, -, -, -, hgs, -⟩ := hn2.own.shape
    rw [hn2.len] at hv
    cases hv
    obtain ⟨gg, hgg⟩ := hgs (by rw [hn2.len]; omega)
    subst hgg
    have h9 := hn2.own.sub 0 1 (by omega)
    simpa [List.take_of_length_le (Nat.le_of_eq hn2.len)] using h9
   refine (concat4_any b21 (some ⟨lg, 0, none⟩) (some a10) ub1 (some a20) 0 0 n10 c10 1 uc1 0 c20 [] (vs.drop 1) us1 [] w' hb2 ⟨rfl, .inl rfl⟩ (hs.up hg.old) hus ⟨rfl, .inl rfl⟩ (fun h => by cases h) (fun h => by cases h) (fun h => by rw [h] at hus; have := hus.2.resolve_left (by omega); obtain ⟨b, off, h8, -⟩ := this; cases h8) (fun h => by cases h) (fun u h => by cases h) (fun u h => (HG.out.ll.one) u (List.mem_of_mem_drop h)) (fun u h => ownC_one (hn2.all u h).1) (fun u h => by cases h) (n10 + 1) (by omega) (by omega) (by have h8 := hs.1; have h9 := HVN.out; have h7 := HG.out.hr; simp at h8; omega)).mono ?_
   rintro e w9 ⟨v9, rfl, ho9, hk9, hf9⟩
   refine ⟨v9, rfl, hk9, ?_⟩
   rw [HRC.out]
   refine ⟨us1, by simpa using ho9, hn2.len, fun b hb => Nat.le_trans hg.old.size (hf9 b hb), fun u hu => ⟨(hn2.all u hu).1.kept hk9 (fun _ _ => id), fun b hb => Nat.le_trans hx.size ((hn2.all u hu).2 b hb)⟩⟩
  rw [HRC.out] at hv22
  obtain ⟨us2, ho22, hul, hf22, hu22⟩ := hv22
  have H22 := Lib.hid (And.intro ho22 (And.intro hul (And.intro hf22 hu22)))
  clear ho22 hul hf22 hu22
  refine hK _ _ ?_; clear hK K
  refine wpGrow_nil ?_
  intro w25 hk25 hω
  have hk22 : Kept (fun _ => False) w22 w25 := hω 22
  obtain ⟨a22, c22, hve, -⟩ := H22.out.1.shape
  obtain ⟨nn, hnn⟩ : ∃ n, (vs.drop 1 ++ us2).length = n := ⟨_, rfl⟩
  rw [hnn] at hve
  subst hve
  obtain ⟨u0, hu0, ho0, hub0⟩ := HG.out.ll.get hl
  obtain ⟨ug, uc0, cu0, hue0, -⟩ := ho0.blk (by rw [HG.out.nc l (List.mem_of_getElem? hl)]; have := HG.out.hc; omega)
  subst hue0
  have K25 : Kept (fun _ => False) w w25 := HWR.out.2.2.then hk25
  have G25 := HG.out.up K25
  obtain ⟨V, hV⟩ : ∃ V, w25.setCell ⟨g, 3, none⟩ (.slice a22 nn c22) = V := ⟨_, rfl⟩
  have kV : Kept (fun i => i = g) w25 V := by rw [<- hV]; exact (Kept.refl (fun i => i = g) w25).setCell (p := ⟨g, 3, none⟩) (.inl rfl) _
  have gbV := G25.gb.set3 (.slice a22 nn c22)
  rw [hV] at gbV
  obtain ⟨c9, hc9⟩ := ownV_blk G25.lo (b := lg) rfl
  have nlg : ¬ lg = g := fun e => by rw [e] at hc9; exact blk_ty2 hc9 G25.gb (by decide)
  have nrp : ¬ rp = g := fun e => by have h9 := G25.rb; unfold RnA at h9; rw [e] at h9; exact blk_ty2 h9 G25.gb (by decide)
  have nro : ∀ b, rv.ownBlock = some b -> ¬ b = g := fun b hb e => by obtain ⟨c8, hc8⟩ := ownV_blk G25.ro hb; rw [e] at hc8; exact blk_ty2 hc8 G25.gb (by decide)
  have rbV : RnA V rp most rv at' gone := kV.blk G25.rb nrp
  have roV := G25.ro.kept kV nro
  have hc0 : V.cell? ⟨lg, 0, none⟩ = some (.slice (some ⟨ug, 0, none⟩) l.length uc0) := kV.cell ((G25.lo.at.2.2.2.1 0 (by omega)).trans hu0) nlg
  obtain ⟨z0, z1, z2, z3, z4⟩ := blk5c gbV
  obtain ⟨f0, f1, f2, f3, f4⟩ := blk5c G25.gb
  have ff := blk_free G25.gb 3
  have HPU := Lib.hid (gpush_any rp most at' gone rv rs (some ⟨ug, 0, none⟩) l.length uc0 V rbV roV HG.out.ra HG.out.mx (by have := HG.out.gt; omega))
  have HL2 := Lib.hid (show LnsOk (Gn G w w25) w25 (vs.drop 1 ++ us2) (L.drop 1 ++ [BL]) from ((G25.ll.drop 1).mono Gn.of).append (by
   have h1 := H22.out.2.1
   match us2, h1, H22.out.2.2.2 with
   | [x], _, hx =>
    refine ⟨rfl, fun i u y hu hy => ?_⟩
    match i, hu, hy with
    | 0, hu, hy =>
     cases hu; cases hy
     have hx9 := hx x (by simp)
     exact ⟨hx9.1.kept hk22 (fun _ _ => id), fun b hb => .inr ⟨Nat.le_trans HWR.out.2.2.size (hx9.2 b hb), (hx9.1.kept hk22 (fun _ _ => id)).lt b hb⟩⟩
    | i + 1, hu, hy => simp at hu))
  have HK := Lib.hid (And.intro K25 (And.intro kV (And.intro gbV (H22.out.1.kept hk22 (fun _ _ => id)))))
  have HU0 := Lib.hid (And.intro ho0 hub0)
  have HRO := Lib.hid (And.intro rbV roV)
  have wt : IntKind.i64.wrap (top + 1) = top + 1 := IntWalk.i64_in _ (by omega)
  clear K25 G25 kV gbV hc9 rbV roV hk25 hk22 hω ho0 hub0 hu0 nlg nrp nro X3 Z0 Z1 Z2 y1 y3
  go_wp2
  refine wp_loop_rounds 2 ?_
  rw [rounds_succ]
  go_wp2_with fail
  refine HPU.out.mono ?_
  rintro e w30 ⟨⟨x30, rfl⟩, rv', at2, gone2, rs2, rb2, ro2, ra2, gt2, hrot, hk30, hrv2⟩
  have n30 : ¬ (g = rp \/ rv.ownBlock = some g) := fun e => by
   rcases e with e | e
   ·have h9 := HRO.out.1
    unfold RnA at h9
    rw [<- e] at h9
    exact blk_ty2 h9 HK.out.2.2.1 (by decide)
   ·obtain ⟨c8, hc8⟩ := ownV_blk HRO.out.2 e; exact blk_ty2 hc8 HK.out.2.2.1 (by decide)
  have gb30 := HK.out.2.2.1.kept hk30 n30
  obtain ⟨t0, t1, t2, t3, t4⟩ := blk5c gb30
  have tf := blk_free gb30 4
  obtain ⟨V2, hV2⟩ : ∃ V, w30.setCell ⟨g, 4, none⟩ (.int .i64 (top + 1)) = V := ⟨_, rfl⟩
  have kV2 : Kept (fun i => i = g) w30 V2 := by rw [<- hV2]; exact (Kept.refl (fun i => i = g) w30).setCell (p := ⟨g, 4, none⟩) (.inl rfl) _
  have gbV2 := gb30.set4 (top + 1)
  rw [hV2] at gbV2
  have H30 := Lib.hid (And.intro rb2 (And.intro ro2 (And.intro ra2 (And.intro gt2 (And.intro hrot (And.intro hk30 (And.intro hrv2 (And.intro kV2 (And.intro gbV2 gb30)))))))))
  clear rb2 ro2 ra2 gt2 hrot hk30 hrv2 kV2 gbV2 gb30 n30
  go_wp2
  rw [rounds_succ]
  go_wp2
  go_ret
  refine ⟨⟨_, rfl⟩, ?_⟩
  obtain ⟨rb2, ro2, ra2, gt2, hrot, hk30, hrv2, kV2, gbV2, gb30⟩ := H30.out
  obtain ⟨K25, kV, gbV, ho25⟩ := HK.out
  obtain ⟨rbV, roV⟩ := HRO.out
  have hz25 := K25.size
  have hzV := kV.size
  have hz30 := hk30.size
  have hz2 := kV2.size
  have hpw : rp < w.heap.size := lt_of_blk HG.out.rb
  have hgw : g < w.heap.size := lt_of_blk HG.out.gb
  have n70a : ∀ i c, w25.heap[i]? = some (.cells c 70 (0, 0)) -> ¬ (fun i => i = g) i := fun i c hi e => by
   have e2 : i = g := e
   subst e2
   have h9 := K25.blk HG.out.gb id
   exact blk_ty2 hi h9 (by decide)
  have n70b : ∀ i c, V.heap[i]? = some (.cells c 70 (0, 0)) -> ¬ (fun i => i = rp \/ rv.ownBlock = some i) i := fun i c hi e => by
   rcases e with e | e
   ·subst e; exact blk_ty2 hi rbV (by decide)
   ·obtain ⟨c8, hc8⟩ := ownV_blk roV e; exact blk_ty2 hi hc8 (by decide)
  have n70c : ∀ i c, w30.heap[i]? = some (.cells c 70 (0, 0)) -> ¬ (fun i => i = g) i := fun i c hi e => by
   have e2 : i = g := e
   subst e2
   exact blk_ty2 hi gb30 (by decide)
  have up2 : ∀ i, Gn G w w25 i -> Gn G w V2 i := fun i hi => hi.imp id (fun h => ⟨h.1, by omega⟩)
  have fnew : ∀ b, (Value.slice a22 nn c22).ownBlock = some b -> w.heap.size <= b := fun b hb => Nat.le_trans HWR.out.2.2.size (H22.out.2.2.1 b hb)
  have ol := HG.out.om
  have olt := HG.out.ro.lt
  have ho2 := ((ho25.kept kV (fun b hb e => by have e2 : b = g := e; have := fnew b hb; omega)).kept hk30 (fun b hb e => by
   rcases e with e | e
   ·have := fnew b hb; omega
   ·have := fnew b hb; have := olt b e; omega)).kept kV2 (fun b hb e => by have e2 : b = g := e; have := fnew b hb; omega)
  have hln := ((HL2.out.kept' kV n70a).kept' hk30 n70b).kept' kV2 n70c
  have hbl := ((((HG.out.up K25).rl.kept' kV n70a).kept' hk30 n70b).kept' kV2 n70c)
  have hu9 : OwnC V2 (.slice (some ⟨ug, 0, none⟩) l.length uc0) l := (((HU0.out.1.kept K25 (fun _ _ => id)).kept kV (fun b hb e => by obtain ⟨c8, hc8⟩ := ownC_blk (HU0.out.1.kept K25 (fun _ _ => id)) hb; exact n70a b c8 hc8 e)).kept hk30 (fun b hb e => by obtain ⟨c8, hc8⟩ := ownC_blk ((HU0.out.1.kept K25 (fun _ _ => id)).kept kV (fun b hb e => by obtain ⟨c8, hc8⟩ := ownC_blk (HU0.out.1.kept K25 (fun _ _ => id)) hb; exact n70a b c8 hc8 e)) hb; exact n70b b c8 hc8 e)).kept kV2 (fun b hb e => by
   have e2 : b = g := e
   have h6 : G b := HU0.out.2 b hb
   obtain ⟨c8, hc8⟩ := ownC_blk HU0.out.1 hb
   rw [e2] at hc8
   exact blk_ty2 hc8 HG.out.gb (by decide))
  refine ⟨⟨gone2, .slice a22 nn c22, rv', vs.drop 1 ++ us2, rs2, at2, gbV2, kV2.blk rb2 (fun e => ?_), ho2, ro2.kept kV2 (fun b hb e => ?_), hln.mono up2, by rw [hrot]; exact (hbl.push hu9 HU0.out.2).mono Gn.of, ra2, by have := HG.out.gt; omega, HG.out.mx, .inl HG.out.gm, .inl HG.out.rm, fun b hb => .inr ⟨fnew b hb, ho2.lt b hb⟩, fun b hb => ?_, fun b hb hr2 => ?_, by have := HG.out.nr; simp; omega, fun y hy => ?_, pushP_mem HG.out.bc (HG.out.nc l (List.mem_of_getElem? hl)), HG.out.hr, HG.out.hc⟩, ?_⟩
  ·have e2 : rp = g := e
   rw [e2] at rb2
   exact blk_ty2 rb2 gb30 (by decide)
  ·have e2 : b = g := e
   obtain ⟨c8, hc8⟩ := ownV_blk ro2 hb
   rw [e2] at hc8
   exact blk_ty2 hc8 gb30 (by decide)
  ·rcases hrv2 with h2 | h2
   ·exact .inl (ol b (by rw [<- h2]; exact hb))
   ·have h3 := h2 b hb
    have h4 := ro2.lt b hb
    exact .inr ⟨by omega, by omega⟩
  ·rcases hrv2 with h2 | h2
   ·have h3 := olt b (by rw [<- h2]; exact hr2)
    have h4 := fnew b hb
    omega
   ·have h3 := h2 b hr2
    have h4 := ho25.lt b hb
    omega
  ·rcases List.mem_append.1 hy with h1 | h1
   ·exact HG.out.nc y (List.mem_of_mem_drop h1)
   ·rw [List.mem_singleton.1 h1, <- HBLe.out]; simp
  ·exact (((K25.mono fun _ _ h => h.elim).then (kV.mono fun i _ h => by have e2 : i = g := h; rw [e2]; exact HG.out.gm)).then (hk30.mono fun i _ h => by
    rcases h with h | h
    ·rw [h]; exact HG.out.rm
    ·exact ol i h)).then (kV2.mono fun i _ h => by have e2 : i = g := h; rw [e2]; exact HG.out.gm)
end Go.Proofs.YtmplpcmcbliadaaGreatDoor
namespace Go.Proofs.YtmplpcmcbliadaaGreatDoor
open Go.RowKit Go.Sort Pl
attribute [local go_sem] growOp growUpon sameUpon
theorem ScrK.mono {G G' : Nat -> Prop} {w : World} {p : Nat} {P : SP} {g0 g1 md pv st tb : Nat} {G0 G1 : Nat -> Prop} (h : ScrK G w p P g0 g1 md pv st tb G0 G1) (hg : ∀ i, G i -> G' i) (hl : ∀ i, G' i -> i < w.heap.size) : ScrK G' w p P g0 g1 md pv st tb G0 G1 :=
 ⟨h.sn, h.m1, h.m2, h.s1, h.m3, h.k0, h.k1, fun i hi => hg i (h.sub i hi), h.n01, h.nm, h.mm, hl⟩
def ScrX (G : Nat -> Prop) (w : World) (p : Nat) (P : SP) : Prop := ∃ g0 g1 md pv st tb G0 G1, ScrK G w p P g0 g1 md pv st tb G0 G1
theorem ScrX.mono {G G' : Nat -> Prop} {w : World} {p : Nat} {P : SP} (h : ScrX G w p P) (hg : ∀ i, G i -> G' i) (hl : ∀ i, G' i -> i < w.heap.size) : ScrX G' w p P := by
 obtain ⟨a, b, c, d, e, f, g, i, hk⟩ := h
 exact ⟨a, b, c, d, e, f, g, i, hk.mono hg hl⟩
theorem ScrX.lt {G : Nat -> Prop} {w : World} {p : Nat} {P : SP} (h : ScrX G w p P) : ∀ i, G i -> i < w.heap.size := by
 obtain ⟨a, b, c, d, e, f, g, i, hk⟩ := h
 exact hk.lt
theorem ScrX.kept {G S : Nat -> Prop} {w w' : World} {p : Nat} {P : SP} (h : ScrX G w p P) (hk : Kept S w w') (hn : ∀ i, G i -> ¬ S i) : ScrX G w' p P := by
 obtain ⟨a, b, c, d, e, f, g, i, h⟩ := h
 exact ⟨a, b, c, d, e, f, g, i, h.kept hk hn⟩
theorem ScrX.up {G : Nat -> Prop} {w w' : World} {p : Nat} {P : SP} (h : ScrX G w p P) (hk : Kept (fun _ => False) w w') : ScrX G w' p P := h.kept hk (fun _ _ => id)
def ScrR (G : Nat -> Prop) (w : World) (p : Nat) (P : SP) (w' : World) : Prop := ScrX (Gn G w w') w' p P /\ Kept G w w'
theorem ScrR.refl {G : Nat -> Prop} {w : World} {p : Nat} {P : SP} (h : ScrX G w p P) : ScrR G w p P w := ⟨h.mono Gn.of (fun i hi => hi.elim (h.lt i) (fun h => h.2)), Kept.refl _ _⟩
theorem ScrR.then {G : Nat -> Prop} {w w1 w2 : World} {p : Nat} {P : SP} (hk : Kept G w w1) (hl : ∀ i, G i -> i < w.heap.size) (h : ScrR (Gn G w w1) w1 p P w2) : ScrR G w p P w2 := by
 obtain ⟨h1, h2⟩ := h
 have z1 := hk.size
 have z2 := h2.size
 refine ⟨h1.mono (fun i hi => ?_) (fun i hi => ?_), hk.trans (h2.mono fun i _ hi => hi.imp id (fun h => h.1))⟩
 ·rcases hi with (hi | hi) | hi
  ·exact .inl hi
  ·exact .inr ⟨hi.1, by omega⟩
  ·exact .inr ⟨by omega, hi.2⟩
 ·rcases hi with hi | hi
  ·have := hl i hi; omega
  ·exact hi.2
theorem ScrR.pre {G : Nat -> Prop} {w w1 w2 : World} {p : Nat} {P : SP} (hk : Kept (fun _ => False) w w1) (h : ScrR G w1 p P w2) : ScrR G w p P w2 := by
 obtain ⟨h1, h2⟩ := h
 have z1 := hk.size
 exact ⟨h1.mono (fun i hi => hi.imp id (fun h => ⟨by omega, h.2⟩)) (fun i hi => by
  rcases hi with hi | hi
  ·exact h1.lt i (.inl hi)
  ·exact hi.2), (hk.mono fun _ _ h => h.elim).then h2⟩
theorem ScrR.own {G : Nat -> Prop} {w w' : World} {p : Nat} {P : SP} {g0 g1 md pv st tb : Nat} {G0 G1 : Nat -> Prop} (h : ScrK G w p P g0 g1 md pv st tb G0 G1) {c : Cu} {ch : Int} (hk : Kept (fun i => i = p) w w') (hs : SnB w' p (({ P with c := c, ch := ch } : SP).sn g0 g1 md pv st)) : ScrR G w p { P with c := c, ch := ch } w' := by
 have hn := h.own hk hs
 have hz := hk.size
 exact ⟨⟨g0, g1, md, pv, st, tb, G0, G1, hn.mono Gn.of (fun i hi => hi.elim (hn.lt i) (fun h => h.2))⟩, hk.mono fun i _ e => h.sub i (.inr (.inr (.inl e)))⟩
structure SPok (P : SP) : Prop where
 row : 0 <= P.c.row /\ P.c.row < P.rows
 col : 0 <= P.c.col /\ P.c.col < P.cols
 nl : P.L.length = P.rows
 top : P.top <= 90000
 hr : 1 <= P.rows /\ P.rows <= 1000
 hc : 1 <= P.cols /\ P.cols <= 1000
def SP.index (P : SP) : SP :=
 if P.c.row = (P.rows : Int) - 1 then { P with c := { P.c with wrap := false }, L := P.L.drop 1 ++ [List.replicate P.cols ⟨0, 0, ⟨0, P.c.a.bg, 0⟩⟩], B := pushP P.most P.B (P.L.getD 0 []), top := P.top + 1 }
 else { P with c := { P.c with row := P.c.row + 1, wrap := false } }
set_option maxRecDepth 100000 in
set_option maxHeartbeats 8000000 in
theorem sindex_any (G : Nat -> Prop) (p : Nat) (P : SP) (w : World) (hx : ScrX G w p P) (ok : SPok P) : Calls Tryz.prog 181 #[.pointer (some ⟨p, 0, none⟩)] w fun e w' => (∃ x, e = .returned x) /\ ScrR G w p P.index w' := by
 obtain ⟨g0, g1, md, pv, st, tb, G0, G1, h⟩ := hx
 obtain ⟨V, hV, ⟨x5, c5⟩, f5, sV, kV⟩ := h.sn.at 5 (by omega) (.bool false) (({ P with c := { P.c with wrap := false } } : SP).sn g0 g1 md pv st) rfl rfl rfl
 have hK := h.own kV sV
 have HK := Lib.hid (And.intro h (And.intro kV hK))
 have okr := ok.row
 have okc := ok.col
 have hrr := ok.hr
 have hcc := ok.hc
 have HOK := Lib.hid ok
 have w1 : IntKind.i64.wrap ((P.rows : Int) - 1) = (P.rows : Int) - 1 := IntWalk.i64_in _ (by omega)
 have w2 : IntKind.i64.wrap (P.c.row + 1) = P.c.row + 1 := IntWalk.i64_in _ (by omega)
 obtain ⟨y0, y1, y2, y3, y4, y5, y6, y7, y8, y9, y10, y11, y12⟩ := sV.cells
 obtain ⟨y35, y36, y37, y38, y39, y40, y41⟩ := sV.cells2
 simp only [SP.sn] at y3 y4 y7 y37 y38
 obtain ⟨W2, hW2⟩ : ∃ X, V.drew = X := ⟨_, rfl⟩
 have k2 : Kept (fun _ => False) V W2 := by rw [<- hW2]; exact (Kept.refl _ _).drew
 obtain ⟨WR, hWR⟩ : ∃ WR, WR = W2.drew := ⟨_, rfl⟩
 have kR : Kept (fun _ => False) W2 WR := by rw [hWR]; exact (Kept.refl _ _).drew
 have kVR := k2.then kR
 have Y3 := cell_regrown (show WR.cell? ⟨p, 3, none⟩ = _ from kVR.cell y3 id)
 have Y4 := cell_regrown (show WR.cell? ⟨p, 4, none⟩ = _ from kVR.cell y4 id)
 have Y37 := cell_regrown (show WR.cell? ⟨p, 37, none⟩ = _ from kVR.cell y37 id)
 have Y38 := cell_regrown (show WR.cell? ⟨p, 38, none⟩ = _ from kVR.cell y38 id)
 have z3 := k2.cell y3 id
 have z38 := k2.cell y38 id
 have HWR := Lib.hid (And.intro hWR (And.intro kVR kR))
 by_cases hrow : P.c.row = (P.rows : Int) - 1
 ·have e : P.index = { P with c := { P.c with wrap := false }, L := P.L.drop 1 ++ [List.replicate P.cols ⟨0, 0, ⟨0, P.c.a.bg, 0⟩⟩], B := pushP P.most P.B (P.L.getD 0 []), top := P.top + 1 } := by unfold SP.index; rw [if_pos hrow]
  rw [e]
  have gE : (P.c.row == (P.rows : Int) - 1) = true := by simp [hrow]
  obtain ⟨l, hl⟩ : ∃ l, P.L[0]? = some l := ⟨_, List.getElem?_eq_getElem (by rw [ok.nl]; omega)⟩
  have hgl : P.L.getD 0 [] = l := by rw [List.getD_eq_getElem?_getD, hl]; rfl
  rw [hgl]
  obtain ⟨a1, a2, a3, a4, a5, a6, a7, hg⟩ := hK.k0
  have HG := Lib.hid (And.intro hg hl)
  have HSG := Lib.hid (fun (x : World) (k : Kept (fun _ => False) WR x) => sg_any p _ x (sV.kept (kVR.then k) id))
  have HSB := Lib.hid (fun (x : World) (k : Kept (fun _ => False) WR x) => sblank_any p _ x (sV.kept (kVR.then k) id))
  obtain ⟨R1, hR1⟩ : ∃ R : Value -> World -> Prop, R = fun v w' => v = .pointer (some ⟨g0, 0, none⟩) := ⟨_, rfl⟩
  obtain ⟨R2, hR2⟩ : ∃ R : Value -> World -> Prop, R = fun v w' => v = .agg #[.int .i64 0, .int .i64 P.c.a.bg, .int .i64 0] := ⟨_, rfl⟩
  have HR1 := Lib.hid hR1
  have HR2 := Lib.hid hR2
  clear h hK sV kV hrow e hl hgl hg k2 kR kVR hWR ok hR1 hR2 y0 y1 y2 y3 y4 y37 y38 y5 y6 y7 y8 y9 y10 y11 y12 y35 y36 y39 y40 y41
  go_enter Tryz.func181, Tryz.ntmps181
  go_wp2
  refine wp_region_still_lit (by kernel_rfl) (by kernel_rfl) ?_
  refine wpStill_step (fun K hK => ?_)
  go_simp
  repeat (generalize hfr : Act.mk _ _ = fr; refine hK _ ?_; clear hK K; refine wpStill_step (fun K hK => ?_); subst hfr; go_simp)
  generalize hfr : Act.mk _ _ = fr
  refine hK _ ?_
  clear hK K
  refine wpStill_nil ?_
  subst hfr
  rw [show (World.mk V.heap V.tape (V.drawn + 1) V.os V.output) = W2 from hW2]
  go_wp2
  refine wp_region_grow #[0, 1, 0, 4, 12, 28, 0, 64, 192, 448, 0, 1027, 4095] 12 [] (fun i => if i = 1 then some R1 else if i = 11 then some R2 else none) (by kernel_rfl) rfl (by kernel_rfl) (fun i hi => by cases hi) (fun _ _ _ _ _ h => h) ?_
  rintro _ rfl
  rw [<- HWR.out.1]
  simp only [List.take_succ_cons, List.take_zero, List.drop_succ_cons, List.drop_zero, number, Nat.reduceAdd]
  iterate 1 (refine wpGrow_step (fun K hK => ?_); go_simp; refine hK _ _ ?_; clear hK K)
  refine wpGrow_step (fun K hK => ?_)
  go_simp
  refine ⟨fun w' hg => (HSG.out w' hg.old).mono (fun e w'' ⟨he, hk⟩ => ⟨_, he, hk, by rw [HR1.out]; rfl⟩), fun v1 u1 hv1 _ => ?_⟩
  rw [HR1.out] at hv1
  subst hv1
  refine hK _ _ ?_; clear hK K
  iterate 9 (refine wpGrow_step (fun K hK => ?_); go_simp; refine hK _ _ ?_; clear hK K)
  refine wpGrow_step (fun K hK => ?_)
  go_simp
  refine ⟨fun w' hg => (HSB.out w' hg.old).mono (fun e w'' ⟨he, hk⟩ => ⟨_, he, hk, by rw [HR2.out]; rfl⟩), fun v11 u11 hv11 _ => ?_⟩
  rw [HR2.out] at hv11
  subst hv11
  refine hK _ _ ?_; clear hK K
  refine wpGrow_nil ?_
  intro w20 hk20 hω
  have HSC := Lib.hid (gscroll_any G0 g0 P.rows P.cols P.most P.top a1 P.L P.B a2 a3 a4 a5 a6 a7 ⟨0, P.c.a.bg, 0⟩ l w20 (HG.out.1.up (HWR.out.2.1.then hk20)) HG.out.2 (by have := HOK.out.top; omega))
  have HK20 := Lib.hid (HWR.out.2.1.then hk20)
  clear hk20 hω Y3 Y4 Y37 Y38
  unfold lookV at HSC
  go_wp2_with fail
  refine HSC.out.mono ?_
  rintro e w30 ⟨⟨x30, rfl⟩, hg30, hk30⟩
  have H30 := Lib.hid (And.intro hg30 hk30)
  clear hg30 hk30
  go_wp2
  refine bodyPost_ret (results_none rfl _ _ _) rfl ⟨⟨_, rfl⟩, ?_⟩
  obtain ⟨h, kV, hK⟩ := HK.out
  obtain ⟨hg30, hk30⟩ := H30.out
  have hK20 := hK.up HK20.out
  have hz := HK20.out.size
  have hz3 := hk30.size
  obtain ⟨q1, q2, q3, q4, q5, q6, hq⟩ := hg30
  have hfin := hK20.grid (top := P.top + 1) hk30 ⟨q1, a2, q2, q3, q4, q5, q6, hq⟩
  have kT : Kept G w w20 := (kV.mono fun i _ e => h.sub i (.inr (.inr (.inl e)))).then (HK20.out.mono fun _ _ h => h.elim)
  refine ScrR.then kT h.lt ⟨?_, hk30.mono fun i _ h0 => .inl (h.sub i (.inl h0))⟩
  refine ⟨g0, g1, md, pv, st, tb, _, G1, hfin.mono (fun i hi => ?_) (fun i hi => ?_)⟩
  ·rcases hi with hi | hi
   ·exact .inl (.inl hi)
   ·exact .inr hi
  ·rcases hi with hi | hi
   ·rcases hi with hi | hi
    ·have := hfin.lt i (.inl hi); exact this
    ·omega
   ·exact hi.2
 ·have e : P.index = { P with c := { P.c with row := P.c.row + 1, wrap := false } } := by unfold SP.index; rw [if_neg hrow]
  rw [e]
  have gE : (P.c.row == (P.rows : Int) - 1) = false := by simp [hrow]
  obtain ⟨a1, a2, a3, a4, a5, a6, a7, hg⟩ := hK.k0
  have HTO := Lib.hid (fun (x : World) (k : Kept (fun _ => False) WR x) => sto_any p a2 P.rows P.cols a3 P.top (({ P with c := { P.c with wrap := false } } : SP).sn g0 g1 md pv st) (P.c.row + 1) P.c.col (P.c.row + 1) P.c.col x (sV.kept (kVR.then k) id) ((hg.up (kVR.then k)).gb) hrr hcc (by omega) (by omega))
  clear h hK sV kV hrow e hg k2 kR kVR hWR ok y0 y1 y2 y3 y4 y37 y38 y5 y6 y7 y8 y9 y10 y11 y12 y35 y36 y39 y40 y41
  go_enter Tryz.func181, Tryz.ntmps181
  go_wp2
  refine wp_region_still_lit (by kernel_rfl) (by kernel_rfl) ?_
  refine wpStill_step (fun K hK => ?_)
  go_simp
  repeat (generalize hfr : Act.mk _ _ = fr; refine hK _ ?_; clear hK K; refine wpStill_step (fun K hK => ?_); subst hfr; go_simp)
  generalize hfr : Act.mk _ _ = fr
  refine hK _ ?_
  clear hK K
  refine wpStill_nil ?_
  subst hfr
  rw [show (World.mk V.heap V.tape (V.drawn + 1) V.os V.output) = W2 from hW2]
  go_wp2
  refine wp_region_grow #[0, 0, 2, 6, 14, 30, 62, 0, 128, 384, 896, 1920, 4095] 12 [] (fun i => none) (by kernel_rfl) rfl (by kernel_rfl) (fun i hi => by cases hi) (fun _ _ _ _ _ h => h) ?_
  rintro _ rfl
  rw [<- HWR.out.1]
  simp only [List.take_succ_cons, List.take_zero, List.drop_succ_cons, List.drop_zero, number, Nat.reduceAdd]
  iterate 12 (refine wpGrow_step (fun K hK => ?_); go_simp; refine hK _ _ ?_; clear hK K)
  refine wpGrow_nil ?_
  intro w20 hk20 hω
  have HT := Lib.hid (HTO.out w20 hk20)
  have HK20 := Lib.hid (HWR.out.2.1.then hk20)
  clear hk20 hω Y3 Y4 Y37 Y38
  go_wp2_with fail
  refine HT.out.mono ?_
  rintro e w30 ⟨⟨x30, rfl⟩, hs30, hk30⟩
  have H30 := Lib.hid (And.intro hs30 hk30)
  clear hs30 hk30
  go_wp2
  go_end0
  refine ⟨⟨_, rfl⟩, ?_⟩
  obtain ⟨h, kV, hK⟩ := HK.out
  obtain ⟨hs30, hk30⟩ := H30.out
  have kT : Kept G w w20 := (kV.mono fun i _ e => h.sub i (.inr (.inr (.inl e)))).then (HK20.out.mono fun _ _ h => h.elim)
  have hfin := ScrR.own (c := { P.c with row := P.c.row + 1, wrap := false }) (ch := P.ch) (hK.up HK20.out) hk30 hs30
  exact ScrR.then kT h.lt ⟨hfin.1.mono (fun i hi => hi.imp .inl id) (fun i hi => by
   rcases hi with (hi | hi) | hi
   ·exact hfin.1.lt i (.inl hi)
   ·have := hk30.size; omega
   ·exact hi.2), hfin.2.mono fun i _ hi => .inl hi⟩
end Go.Proofs.YtmplpcmcbliadaaGreatDoor
