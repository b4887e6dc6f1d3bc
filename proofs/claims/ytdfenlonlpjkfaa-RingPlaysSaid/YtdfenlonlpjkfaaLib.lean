/- What the library does for a ring of numbers: Grow, Concat, Delete; even; Pop. -/
import Derived.Test.YtdfenlonlpjkfaaKnown
import Derived.Test.YtdfenlonlpjkfaaGrow
import Derived.Lib.AppendZerosOnto
import Derived.Lib.SliceRun
import Derived.Deep.LoopGhost
namespace Go.Proofs.Ytdfenlonlpjkfaa
open Go.RowKit Go.Sort
set_option linter.unusedVariables false
set_option linter.unusedSimpArgs false
attribute [local go_sem] growOp growUpon sameUpon
theorem OwnV.cut {e : TypeId} {w : World} {g m cap : Nat} {xs : List Value} (h : OwnV e w (.slice (some ⟨g, 0, none⟩) m cap) xs) {k : Nat} (hk : k ≤ m) : OwnV e w (.slice (some ⟨g, 0, none⟩) k cap) (xs.take k) := by
  have hl := h.at.1
  obtain ⟨h1, h2⟩ := h
  rcases h2 with ⟨h3, -⟩ | ⟨g', cap', cur, h3, hb, hg, hn, hcm, hcs, ht⟩
  · cases h3
  · cases h3
    have e1 : (xs.take k).length = k := by simp; omega
    refine ⟨by simp, .inr ⟨g, cap, cur, by rw [e1], hb, hg, by omega, hcm, hcs, ?_⟩⟩
    rw [e1, Nat.mul_one]
    rw [Nat.mul_one] at ht
    rw [← ht, List.take_take, Nat.min_eq_left (by omega)]

set_option maxRecDepth 100000 in
set_option maxHeartbeats 4000000 in
theorem grow_nil (n : Nat) (w : World) (h0 : 0 < n) (hn : n ≤ 65536) : Calls Try.prog 31 #[.slice none 0 0, .int .i64 n] w fun e w' => ∃ G, e = .returned (.slice (some ⟨w.heap.size, 0, none⟩) 0 G) ∧ OwnV 3 w' (.slice (some ⟨w.heap.size, 0, none⟩) 0 G) [] ∧ Kept (fun _ => False) w w' := by
  obtain ⟨i0, hi, hz0, hz1, hz2⟩ := info_parts tinfo3
  have hG1 := grownCap_ge w n 0 3
  have hG2 := grownCap_le_maxLen w n 0 3 (by simp only [maxLen]; omega)
  obtain ⟨G, hG⟩ : ∃ G, grownCap w n 0 3 = G := ⟨_, rfl⟩
  have hrz : ∀ ty, (Builtin.append_ #[22, 3] ty #[.slice none 0 0, .int .i64 n]).run Try.prog w = .ok (.slice (some ⟨w.heap.size, 0, none⟩) n G) (w.drew.alloc (.cells (Builtin.zeroCells (Value.int .i64 0).cells n ++ Builtin.zeroCells (Value.int .i64 0).cells (G - n)) 3)) := fun ty => by
    have h := Lib.run_append_grow_zeros (P := Try.prog) w 22 3 ty 3 i0 (.int .i64 0) .i64 .i64 Try.underlying22 Try.underlying3 hi hz0 none 0 0 [] (run_firstCells_none w.drew i0.size 0 0 0) n h0 (by omega) (by omega) (by omega) (by rw [hz2]; omega) (growslice_fits (by omega) (by rw [hz2]; omega))
    rw [Nat.zero_add, hG] at h
    simpa using h
  rw [hG] at hG1 hG2
  obtain ⟨V, hV⟩ : ∃ V, w.drew.alloc (.cells (Builtin.zeroCells (Value.int .i64 0).cells n ++ Builtin.zeroCells (Value.int .i64 0).cells (G - n)) 3) = V := ⟨_, rfl⟩
  rw [hV] at hrz
  have HO := Lib.hid (show OwnV 3 V (.slice (some ⟨w.heap.size, 0, none⟩) 0 G) [] by
    rw [← hV]
    exact World.ownsRow_made (base := 0) w.drew _ G (Nat.zero_le _) hG2 (by rw [Array.size_append, size_zeroCells, size_zeroCells]; show n * 1 + (G - n) * 1 = G * 1; omega))
  have HK := Lib.hid (show Kept (fun _ => False) w V by rw [← hV]; exact (Kept.refl _ w).drew.alloc _)
  have g0 : decide ((n : Int) < 0) = false := decide_eq_false (by omega)
  have g1 : decide (0 < (n : Int)) = true := decide_eq_true (by omega)
  have g2 : decide (0 < n) = true := decide_eq_true h0
  have w1 : IntKind.i64.wrap (n : Int) = (n : Int) := IntWalk.i64_in _ (by omega)
  clear hi hz0 hz1 hz2 hV hG
  go_enter Try.func31, Try.ntmps31
  go_wp2_with (at_builtin; refine Lib.wpList_append_run _ rfl _ _ _ _ rfl _ _ rfl rfl _ _ (hrz _) ?_)
  go_ret
  exact ⟨G, rfl, HO.out, HK.out⟩

/-- A slice of values, wherever it lies. -/
def SlV (w : World) (a : Option Addr) (n : Nat) (xs : List Value) : Prop := xs.length = n ∧ (n = 0 ∨ ∃ b off, a = some ⟨b, off, none⟩ ∧ ∀ j, j < n → w.cell? ⟨b, off + j, none⟩ = xs[j]?)
theorem SlV.src {w : World} {a : Option Addr} {n : Nat} {xs : List Value} (h : SlV w a n xs) : ∀ y, a = some y → ∀ j u, xs[j]? = some u → w.cell? (y.add j) = some u := by
  intro y hy j u hu
  have hj : j < xs.length := (List.getElem?_eq_some_iff.1 hu).1
  obtain ⟨b, off, he, hc⟩ := h.2.resolve_left (by have := h.1; omega)
  rw [hy] at he
  cases he
  have e : (⟨b, off, none⟩ : Addr).add j = ⟨b, off + j, none⟩ := by unfold Addr.add; split <;> simp_all
  rw [e, hc j (by rw [← h.1]; exact hj)]; exact hu
theorem SlV.kept {S : Nat → Prop} {w w' : World} {a : Option Addr} {n : Nat} {xs : List Value} (h : SlV w a n xs) (hk : Kept S w w') (hn : ∀ b off, a = some ⟨b, off, none⟩ → ¬ S b) (hx : ∀ j, j < n → xs[j]?.isSome = true) : SlV w' a n xs := by
  refine ⟨h.1, ?_⟩
  rcases h.2 with h2 | ⟨b, off, rfl, hc⟩
  · exact .inl h2
  · refine .inr ⟨b, off, rfl, fun j hj => ?_⟩
    obtain ⟨u, hu⟩ := Option.isSome_iff_exists.1 (hx j hj)
    rw [hu]
    exact hk.cell ((hc j hj).trans hu) (hn b off rfl)
theorem OwnV.sub {e : TypeId} {w : World} {g n cap : Nat} {xs : List Value} (h : OwnV e w (.slice (some ⟨g, 0, none⟩) n cap) xs) (k m : Nat) (hk : k + m ≤ n) : SlV w (some ⟨g, k, none⟩) m ((xs.drop k).take m) := by
  obtain ⟨h1, h2, h3, h4, -⟩ := h.at
  refine ⟨by simp; omega, .inr ⟨g, k, rfl, fun j hj => ?_⟩⟩
  rw [h4 (k + j) (by omega), List.getElem?_take, if_pos hj, List.getElem?_drop]
theorem SlV.up {w w' : World} {a : Option Addr} {n : Nat} {xs : List Value} (h : SlV w a n xs) (hk : Kept (fun _ => False) w w') : SlV w' a n xs := h.kept hk (fun _ _ _ => id) (fun j hj => by simp; have := h.1; omega)

set_option maxRecDepth 100000 in
set_option maxHeartbeats 4000000 in
theorem concat_any (p g : Nat) (k1 k2 n1 c1 n2 c2 : Nat) (xs ys : List Value) (w : World) (hb : w.heap[p]? = some (.cells #[.slice (some ⟨g, k1, none⟩) n1 c1, .slice (some ⟨g, k2, none⟩) n2 c2] 22 (0, 0))) (h1 : SlV w (some ⟨g, k1, none⟩) n1 xs) (h2 : SlV w (some ⟨g, k2, none⟩) n2 ys) (hx : ∀ u ∈ xs, u.oneCell' = true) (hy : ∀ u ∈ ys, u.oneCell' = true) (h0 : 0 < n1) (hn : n1 + n2 ≤ 65536) :
    Calls Try.prog 28 #[.slice (some ⟨p, 0, none⟩) 2 2] w fun e w' => ∃ v, e = .returned v ∧ OwnV 3 w' v (xs ++ ys) ∧ Kept (fun _ => False) w w' ∧ ∀ b, v.ownBlock = some b → w.heap.size ≤ b := by
  obtain ⟨i0, hi, hz0, hz1, hz2⟩ := info_parts tinfo3
  have HI := Lib.hid (And.intro hi (And.intro hz0 (And.intro hz1 hz2)))
  obtain ⟨⟨c0, -⟩, c1', -⟩ := blk2 hb
  have HB := Lib.hid hb
  have H1 := Lib.hid h1
  have H2 := Lib.hid h2
  have HX := Lib.hid hx
  have HY := Lib.hid hy
  have w0 : IntKind.i64.wrap (n1 : Int) = (n1 : Int) := IntWalk.i64_in _ (by omega)
  have w1 : IntKind.i64.wrap ((n1 : Int) + (n2 : Int)) = (n1 : Int) + (n2 : Int) := IntWalk.i64_in _ (by omega)
  have g0 : decide ((n1 : Int) < 0) = false := decide_eq_false (by omega)
  have g1 : decide ((n1 : Int) + (n2 : Int) < 0) = false := decide_eq_false (by omega)
  clear hi hz0 hz1 hz2 hb h1 h2 hx hy
  go_enter Try.func28, Try.ntmps28
  go_wp2
  refine wp_loop_rounds 3 ?_
  rw [rounds_succ]
  go_wp2
  rw [rounds_succ]
  go_wp2
  rw [rounds_succ]
  go_wp2_with fail
  refine (grow_nil (n1 + n2) _ (by omega) hn).mono ?_; rintro e w2 ⟨G, rfl, ho2, hk2⟩
  obtain ⟨⟨d0, -⟩, d1', -⟩ := blk2 (hk2.blk HB.out id)
  have HO2 := Lib.hid ho2
  have HK2 := Lib.hid hk2
  have A1 := Lib.hid (H1.out.up hk2)
  have A2 := Lib.hid (H2.out.up hk2)
  obtain ⟨q, hq⟩ : ∃ q, w.heap.size = q := ⟨_, rfl⟩
  rw [hq] at HO2 ⊢
  clear ho2 hk2 c0 c1'
  go_wp2
  refine wp_loop_rounds 3 ?_
  rw [rounds_succ]
  go_wp2_with (at_builtin; refine wpList_appV rfl (.tmp 31) (.tmp 32) 22 rfl 3 i0 (.int .i64 0) 8 Try.underlying22 HI.out.1 HI.out.2.1 HI.out.2.2.1 HI.out.2.2.2 rfl (.slice (some ⟨q, 0, none⟩) 0 G) [] rfl HO2.out (some ⟨g, k1, none⟩) n1 c1 xs rfl (fun h => by cases h) A1.out.1 HX.out A1.out.src (by have := A1.out.1; simp; omega) (by have := A1.out.1; simp only [maxLen, List.length_nil]; omega) ?_; intro v3 w3 ho3 hk3 hpr3; have hk23 : Kept (fun _ => False) w w3 := HK2.out.trans (hk3.mono fun i _ hi => Or.inr (by have h9 : q = i := Option.some.inj hi; omega)); have HK3 := Lib.hid hk23; have hf3 : ∀ b, v3.ownBlock = some b → w.heap.size ≤ b := (fun b hb => hpr3.elim (fun h => by rw [h] at hb; have h9 : q = b := Option.some.inj hb; omega) (fun h => by rw [h] at hb; have h9 := Option.some.inj hb; have := HK2.out.size; omega)); have HF3 := Lib.hid hf3; obtain ⟨a3, cap3, hv3, -⟩ := ho3.shape; rw [List.nil_append] at ho3 hv3; subst hv3; have HO3 := Lib.hid ho3; have A2' := Lib.hid (H2.out.up hk23); obtain ⟨⟨e0, -⟩, e1', -⟩ := blk2 (hk23.blk HB.out id); clear ho3 hk3 hpr3 hk23 hf3 d0 d1')
  rw [rounds_succ]
  go_wp2_with (at_builtin; refine wpList_appV rfl (.tmp 31) (.tmp 32) 22 rfl 3 i0 (.int .i64 0) 8 Try.underlying22 HI.out.1 HI.out.2.1 HI.out.2.2.1 HI.out.2.2.2 rfl (.slice a3 xs.length cap3) xs rfl HO3.out (some ⟨g, k2, none⟩) n2 c2 ys rfl (fun h => by cases h) A2'.out.1 HY.out A2'.out.src (by have := A1.out.1; omega) (by have := A1.out.1; simp only [maxLen]; omega) ?_; intro v4 w4 ho4 hk4 hpr4; have hk24 : Kept (fun _ => False) w w4 := HK3.out.trans (hk4.mono fun i _ hi => Or.inr (HF3.out i hi)); have HK4 := Lib.hid hk24; have hf4 : ∀ b, v4.ownBlock = some b → w.heap.size ≤ b := (fun b hb => hpr4.elim (fun h => HF3.out b (by rw [← h, hb])) (fun h => by rw [h] at hb; have h9 := Option.some.inj hb; have := HK3.out.size; omega)); have HF4 := Lib.hid hf4; obtain ⟨a4, cap4, hv4, -⟩ := ho4.shape; rw [List.length_append] at hv4; subst hv4; have HO4 := Lib.hid ho4; clear ho4 hk4 hpr4 hk24 hf4)
  rw [rounds_succ]
  go_wp2
  go_ret
  exact ⟨_, rfl, HO4.out, HK4.out, HF4.out⟩

set_option maxRecDepth 100000 in
set_option maxHeartbeats 4000000 in
theorem even_some (q most at' gone : Nat) (xs : List Value) (o : Option Nat) (w : World) (h : RAt 48 3 w q most at' gone xs o) (h0 : 0 < at') (ha : at' < xs.length) (hl : xs.length ≤ 65536) (h1 : ∀ u ∈ xs, u.oneCell' = true) :
    Calls Try.prog 24 #[.pointer (some ⟨q, 0, none⟩)] w fun e w' => e = .returned (.tuple #[]) ∧ ∃ o', RAt 48 3 w' q most 0 gone (xs.drop at' ++ xs.take at') o' ∧ Ext w q o o' w' := by
  obtain ⟨v, hb, ho, hvo, hoq⟩ := h
  obtain ⟨a, cap, rfl, hcap, hcm, -, hg, -⟩ := ho.shape
  obtain ⟨g, rfl⟩ := hg (by omega)
  obtain ⟨L, hL⟩ : ∃ L, xs.length = L := ⟨_, rfl⟩
  rw [hL] at ho hvo hcap ha hl hb
  obtain ⟨WR, hWR⟩ : ∃ WR, WR = w.drew := ⟨_, rfl⟩
  have kR : Kept (fun _ => False) w WR := by rw [hWR]; exact (Kept.refl _ w).drew
  obtain ⟨⟨c0, -⟩, ⟨c1, -⟩, ⟨c2, -⟩, c3, -⟩ := blk4 hb
  obtain ⟨⟨d0, -⟩, ⟨d1, -⟩, ⟨d2, -⟩, d3, -⟩ := blk4 (kR.blk hb id)
  have X0 := cell_regrown d0
  have X1 := cell_regrown d1
  have X2 := cell_regrown d2
  have X3 := cell_regrown d3
  have hoR := ho.kept kR (fun _ _ => id)
  have S1 := hoR.sub at' (L - at') (by omega)
  have S2 := hoR.sub 0 at' (by omega)
  rw [List.take_of_length_le (by simp; omega)] at S1
  rw [List.drop_zero] at S2
  have HS1 := Lib.hid S1
  have HS2 := Lib.hid S2
  have HB := Lib.hid hb
  have HO := Lib.hid ho
  have HL := Lib.hid hL
  have HKR := Lib.hid kR
  have HWR := Lib.hid hWR
  have HX1 := Lib.hid (show ∀ u ∈ xs.drop at', u.oneCell' = true from fun u hu => h1 u (List.mem_of_mem_drop hu))
  have HX2 := Lib.hid (show ∀ u ∈ xs.take at', u.oneCell' = true from fun u hu => h1 u (List.mem_of_mem_take hu))
  obtain ⟨RB, hRB⟩ : ∃ R : Value → World → Prop, R = fun v w' => ∃ p, v = .slice (some ⟨p, 0, none⟩) 2 2 ∧ w'.heap[p]? = some (.cells #[.slice (some ⟨g, at', none⟩) (L - at') (cap - at'), .slice (some ⟨g, 0, none⟩) at' cap] 22 (0, 0)) := ⟨_, rfl⟩
  obtain ⟨RC, hRC⟩ : ∃ R : Value → World → Prop, R = fun v w' => (∃ a c, v = .slice a L c) ∧ OwnV 3 w' v (xs.drop at' ++ xs.take at') ∧ ∀ b, v.ownBlock = some b → WR.heap.size ≤ b := ⟨_, rfl⟩
  have HRB := Lib.hid hRB
  have HRC := Lib.hid hRC
  have g0 : decide ((0 : Int) < (at' : Int)) = true := decide_eq_true (by omega)
  have g0' : decide (0 < at') = true := decide_eq_true h0
  have l1 : 0 ≤ (at' : Int) := by omega
  have l2 : at' ≤ L := by omega
  have l3 : at' ≤ cap := by omega
  have hne : ¬ (cap = at') := by omega
  clear hRB hRC hb ho kR d0 d1 d2 d3 hoR S1 S2 hL hWR h1
  go_enter Try.func24, Try.ntmps24
  go_wp2
  refine wp_region_grow #[0, 0, 2, 6, 14, 0, 32, 96, 224, 510, 0, 1024, 3072, 7168, 0, 16384, 49152, 114688, 261120, 524286, 1048574, 2097151, 4194303, 8388607] 21 [0] (fun i => if i = 19 then some RB else if i = 20 then some RC else none) (by kernel_rfl) rfl (by kernel_rfl) (fun i hi => by simp at hi; subst hi; rfl) (fun _ _ _ _ _ h => h) ?_
  rintro _ rfl
  rw [← HWR.out]
  simp only [List.take_succ_cons, List.take_zero, List.drop_succ_cons, List.drop_zero, number, Nat.reduceAdd]
  repeat (refine wpGrow_step (fun K hK => ?_); go_simp; refine hK _ _ ?_; clear hK K)
  refine wpGrow_step (fun K hK => ?_)
  go_simp
  refine ⟨fun w' hg => ⟨(Kept.refl _ _).alloc _, by rw [HRB.out]; exact ⟨_, rfl, blk_new _ _⟩⟩, fun v u19 hv _ => ?_⟩
  rw [HRB.out] at hv
  obtain ⟨p, rfl, hp⟩ := hv
  have HP := Lib.hid hp
  clear hp
  refine hK _ _ ?_; clear hK K
  repeat (refine wpGrow_step (fun K hK => ?_); go_simp; refine hK _ _ ?_; clear hK K)
  refine wpGrow_step (fun K hK => ?_)
  go_simp
  refine ⟨fun w' hg => (concat_any p g at' 0 (L - at') (cap - at') at' cap _ _ w' (Kept.blk (show Kept _ u19 w' from hg.seen 19 (by kernel_rfl)) HP.out id) (HS1.out.up hg.old) (HS2.out.up hg.old) HX1.out HX2.out (by omega) (by omega)).mono (fun e w'' ⟨v, he, ho, hk, hf⟩ => ⟨v, he, hk, by
    rw [HRC.out]
    obtain ⟨a, c, hv, -⟩ := ho.shape
    refine ⟨⟨a, c, by rw [hv, List.length_append, List.length_drop, List.length_take, HL.out, Nat.min_eq_left l2, Nat.sub_add_cancel l2]⟩, ho, fun b hb => Nat.le_trans hg.old.size (hf b hb)⟩⟩), fun v u20 hv _ => ?_⟩
  rw [HRC.out] at hv
  obtain ⟨⟨ra, rc, rfl⟩, hro, hrf⟩ := hv
  refine hK _ _ ?_; clear hK K
  refine wpGrow_nil ?_
  intro w3 hk3 hω
  have hro3 := hro.kept (show Kept _ u20 w3 from hω 20) (fun _ _ => id)
  have hqR : q < WR.heap.size := lt_of_blk (HKR.out.blk HB.out id)
  have hb3 := (HKR.out.then hk3).blk HB.out id
  obtain ⟨V1, hV1⟩ : ∃ V, w3.setCell ⟨q, 1, none⟩ (.slice ra L rc) = V := ⟨_, rfl⟩
  obtain ⟨V2, hV2⟩ : ∃ V, V1.setCell ⟨q, 2, none⟩ (.int .i64 0) = V := ⟨_, rfl⟩
  have k1 : Kept (fun i => i = q) w3 V1 := by rw [← hV1]; exact (Kept.refl (fun i => i = q) _).setCell (p := ⟨q, 1, none⟩) (.inl rfl) _
  have k2 : Kept (fun i => i = q) V1 V2 := by rw [← hV2]; exact (Kept.refl (fun i => i = q) _).setCell (p := ⟨q, 2, none⟩) (.inl rfl) _
  have b1 : V1.heap[q]? = some (.cells #[.int .i64 most, .slice ra L rc, .int .i64 at', .int .i64 gone] 48 (0, 0)) := by rw [← hV1]; exact blk_set hb3 1 _
  have b2 : V2.heap[q]? = some (.cells #[.int .i64 most, .slice ra L rc, .int .i64 0, .int .i64 gone] 48 (0, 0)) := by rw [← hV2]; exact blk_set b1 2 _
  have hne2 : (Value.slice ra L rc).ownBlock ≠ some q := fun h => by have := hrf q h; omega
  have ho2 := (hro3.kept k1 (fun b hb (hS : b = q) => hne2 (by rw [hb, hS]))).kept k2 (fun b hb (hS : b = q) => hne2 (by rw [hb, hS]))
  obtain ⟨-, ⟨e1, e1'⟩, -⟩ := blk4 hb3
  obtain ⟨-, -, ⟨e2, e2'⟩, -⟩ := blk4 b1
  have HR := Lib.hid (show RAt 48 3 V2 q most 0 gone (xs.drop at' ++ xs.take at') (Value.slice ra L rc).ownBlock from ⟨_, b2, ho2, rfl, hne2⟩)
  have HE := Lib.hid (show Ext w q o (Value.slice ra L rc).ownBlock V2 from ⟨((HKR.out.then hk3).mono (fun _ _ h => h.elim)).then ((k1.then k2).mono fun _ _ h => .inl h), by
    cases hc : (Value.slice ra L rc).ownBlock with
    | none =>
      exfalso
      obtain ⟨_, _, hv2, -, -, -, hgg, hown⟩ := ho2.shape
      cases hv2
      obtain ⟨gg, hgg⟩ := hgg (by rw [List.length_append, List.length_drop, List.length_take]; have := HL.out; omega)
      rw [hown gg hgg] at hc; cases hc
    | some b => exact .inr ⟨b, rfl, Nat.le_trans HKR.out.size (hrf b hc)⟩⟩)
  clear hk3 hω hro hro3 hrf hb3 k1 k2 b1 b2 ho2 hne2 X0 X1 X2 X3
  go_wp2
  go_end0
  exact ⟨rfl, _, HR.out, HE.out⟩

theorem tzero3 (w : World) : (zeroValue 3).run Try.prog w = .ok (.int .i64 0) w := by
  obtain ⟨i0, hi, hz0, -⟩ := info_parts tinfo3
  simp [zeroValue, typeInfo, hi, hz0]

set_option maxRecDepth 100000 in
set_option maxHeartbeats 4000000 in
theorem delete_last (g n cap : Nat) (xs : List Value) (w : World) (ho : OwnV 3 w (.slice (some ⟨g, 0, none⟩) (n + 1) cap) xs) (hn : n ≤ 65536) (hcm : cap ≤ 9223372036854775807) :
    Calls Try.prog 25 #[.slice (some ⟨g, 0, none⟩) (n + 1) cap, .int .i64 n, .int .i64 ((n + 1 : Nat) : Int)] w fun e w' => e = .returned (.slice (some ⟨g, 0, none⟩) n cap) ∧ OwnV 3 w' (.slice (some ⟨g, 0, none⟩) n cap) (xs.take n) ∧ Kept (fun i => i = g) w w' := by
  obtain ⟨q1, q2, q3, q4, q5⟩ := ho.at
  obtain ⟨E1, hE1⟩ : ∃ D, w.drew = D := ⟨_, rfl⟩
  have kE1 : Kept (fun _ => False) w E1 := by rw [← hE1]; exact (Kept.refl _ w).drew
  obtain ⟨V, hV⟩ : ∃ V, E1.setCells g n (List.replicate 1 (.int .i64 0)) = V := ⟨_, rfl⟩
  have hV' : E1.setCell ⟨g, n, none⟩ (.int .i64 0) = V := by rw [← hV]; rfl
  have kV : Kept (fun i => i = g) E1 V := by rw [← hV']; exact (Kept.refl (fun i => i = g) _).setCell (p := ⟨g, n, none⟩) (.inl rfl) _
  have oV : OwnV 3 V (.slice (some ⟨g, 0, none⟩) n cap) (xs.take n) := by
    have h := ((ho.kept kE1 (fun _ _ => id)).set n (x := .int .i64 0) rfl).cut (k := n) (by omega)
    rw [hV'] at h
    rw [List.take_set_of_le (by omega)] at h
    exact h
  have hcell : E1.cell? ⟨g, n, none⟩ = xs[n]? := by
    obtain ⟨u, hu⟩ : ∃ u, xs[n]? = some u := ⟨xs[n]'(by omega), List.getElem?_eq_getElem (by omega)⟩
    rw [hu]; exact kE1.cell ((q4 n (by omega)).trans hu) id
  have hclr : ∀ ty, (Builtin.clear_ #[22] ty #[.slice (some ⟨g, n, none⟩) 1 (cap - n)]).run Try.prog E1 = .ok (.tuple #[]) V := fun ty => by
    rw [← hV]
    have h := Lib.run_clear_slice (P := Try.prog) E1 22 3 ty (.int .i64 0) Try.underlying22 tzero3 rfl rfl g n 1 (cap - n) (by omega) (fun j hj => by
      have : j = 0 := by omega
      subst this
      rw [Nat.add_zero, hcell, List.getElem?_eq_getElem (by omega)]; rfl) (fun j hj => (ho.kept kE1 (fun _ _ => id)).at.2.2.2.2 _)
    exact h
  obtain ⟨i0, hi, hz0, hz1, hz2⟩ := info_parts tinfo3
  have HO := Lib.hid oV
  have HK := Lib.hid (show Kept (fun i => i = g) w V from (kE1.mono fun _ _ h => h.elim).then kV)
  have hne : ((n : Int) == ((n : Int) + 1)) = false := by simp; omega
  have w1 : IntKind.i64.wrap ((n : Int) + 1) = (n : Int) + 1 := IntWalk.i64_in _ (by omega)
  have hap : ∀ ty A c2, (Builtin.append_ #[22, 22] ty #[.slice (some ⟨g, 0, none⟩) n cap, .slice (some A) 0 c2]).run Try.prog E1 = .ok (.slice (some ⟨g, 0, none⟩) n cap) E1 := by
    intro ty A c2
    have : n ≤ cap := by omega
    simp [Builtin.append_, run_underlying Try.underlying22, sizeOf, typeInfo, hi, Builtin.lenOf, Builtin.firstCells, loadCells, loadCellsFrom, storeCells, this, go_sem]
  have hap2 : ∀ ty A c2, (Builtin.append_ #[22, 22] ty #[.slice (some ⟨g, 0, none⟩) n cap, .slice (some A) 0 c2]).run Try.prog w.drew = .ok (.slice (some ⟨g, 0, none⟩) n cap) w.drew := by rw [hE1]; exact hap
  have m1 : n ≤ cap := by omega
  have m2 : n + 1 ≤ cap := by omega
  have m3 : (n : Int) + 1 ≤ (cap : Int) := by omega
  have m4 : (n : Int) ≤ (cap : Int) := by omega
  have m5 : 0 ≤ (n : Int) + 1 := by omega
  have m6 : (n : Int) ≤ (n : Int) + 1 := by omega
  have t1 : ((n : Int) + 1).toNat = n + 1 := by omega
  clear ho q1 q2 q3 q4 q5 kE1 kV oV hcell hV hV' hz0 hz1 hz2 hi
  by_cases hcap : cap = n + 1
  · subst hcap
    rw [show n + 1 - n = 1 by omega] at hclr
    go_enter Try.func25, Try.ntmps25
    go_wp2
    go_still_tail 6, (by kernel_rfl)
    first | (change wpList _ _ _ _ _ E1) | (change wpList _ _ _ _ _ w.drew; rw [hE1])
    refine Lib.wpList_append_run _ rfl _ _ _ _ rfl _ _ rfl rfl _ _ (hap _ _ _) ?_
    go_wp2
    go_ret
    exact ⟨rfl, HO.out, HK.out⟩
  · go_enter Try.func25, Try.ntmps25
    go_wp2
    go_still_tail 6, (by kernel_rfl)
    first | (change wpList _ _ _ _ _ E1) | (change wpList _ _ _ _ _ w.drew; rw [hE1])
    refine Lib.wpList_append_run _ rfl _ _ _ _ rfl _ _ rfl rfl _ _ (hap _ _ _) ?_
    go_wp2
    go_ret
    exact ⟨rfl, HO.out, HK.out⟩

set_option maxRecDepth 100000 in
set_option maxHeartbeats 4000000 in
theorem pop_none (q most at' gone : Nat) (o : Option Nat) (w : World) (h : RAt 48 3 w q most at' gone [] o) :
    Calls Try.prog 12 #[.pointer (some ⟨q, 0, none⟩)] w fun e w' => e = .returned (.tuple #[.int .i64 0, .bool false]) ∧ w' = w := by
  have HA := Lib.hid (iat_no q most at' gone [] o (-1) w h (.inl (by omega)))
  obtain ⟨v, hb, ho, -, -⟩ := h
  obtain ⟨a, cap, rfl, -⟩ := ho.shape
  obtain ⟨⟨c0, -⟩, ⟨c1, -⟩, ⟨c2, -⟩, c3, -⟩ := blk4 hb
  clear hb ho
  go_enter Try.func12, Try.ntmps12
  go_wp2_with fail
  refine HA.out.mono ?_; rintro e w' ⟨rfl, rfl⟩
  go_wp2
  exact bodyPost_ret (v := .tuple #[.int .i64 0, .bool false]) (by simp [results, Try.results12, go_sem]) rfl ⟨rfl, rfl⟩

set_option maxRecDepth 100000 in
set_option maxHeartbeats 4000000 in
theorem even_any (q most at' gone : Nat) (xs : List Value) (o : Option Nat) (w : World) (h : RAt 48 3 w q most at' gone xs o) (ha : at' = 0 ∨ at' < xs.length) (hl : xs.length ≤ 65536) (h1 : ∀ u ∈ xs, u.oneCell' = true) :
    Calls Try.prog 24 #[.pointer (some ⟨q, 0, none⟩)] w fun e w' => e = .returned (.tuple #[]) ∧ ∃ o', RAt 48 3 w' q most 0 gone (xs.drop at' ++ xs.take at') o' ∧ Ext w q o o' w' := by
  by_cases h0 : at' = 0
  · subst h0
    refine (ieven_none q most gone xs o w h).mono ?_
    rintro e w' ⟨rfl, rfl⟩
    exact ⟨rfl, o, by simpa using h, Ext.refl _ _ _⟩
  · exact even_some q most at' gone xs o w h (by omega) (by omega) hl h1

set_option maxRecDepth 100000 in
set_option maxHeartbeats 4000000 in
theorem pop_some (q most at' gone : Nat) (xs : List Value) (o : Option Nat) (x : Int) (w : World) (h : RAt 48 3 w q most at' gone xs o) (ha : at' < xs.length) (hl : xs.length ≤ 65536) (h1 : ∀ u ∈ xs, u.oneCell' = true) (hx : (xs.drop at' ++ xs.take at')[xs.length - 1]? = some (.int .i64 x)) :
    Calls Try.prog 12 #[.pointer (some ⟨q, 0, none⟩)] w fun e w' => e = .returned (.tuple #[.int .i64 x, .bool true]) ∧ ∃ o', RAt 48 3 w' q most 0 gone ((xs.drop at' ++ xs.take at').take (xs.length - 1)) o' ∧ Ext w q o o' w' := by
  obtain ⟨n, hn⟩ : ∃ n, xs.length = n + 1 := ⟨xs.length - 1, by omega⟩
  have hxx : xs[(at' + n) % xs.length]? = some (.int .i64 x) := by
    rw [hn, mod_two (by omega) (by omega)]
    rw [show xs.length - 1 = n by omega] at hx
    split
    · rename_i h9
      rw [show at' = 0 by omega, Nat.zero_add]
      rw [show at' = 0 by omega] at hx
      simpa using hx
    · rename_i h9
      rw [List.getElem?_append_right (by simp; omega), List.length_drop, List.getElem?_take, if_pos (by omega)] at hx
      rw [← hx]; congr 1; omega
  have HA := Lib.hid (iat_yes q most at' gone xs o n (.int .i64 x) w h (by omega) ha hl hxx)
  have HEV := Lib.hid (fun (w' : World) (h' : RAt 48 3 w' q most at' gone xs o) => even_any q most at' gone xs o w' h' (.inr ha) hl h1)
  obtain ⟨ys, hys⟩ : ∃ ys, xs.drop at' ++ xs.take at' = ys := ⟨_, rfl⟩
  have hyl : ys.length = n + 1 := by rw [← hys]; simp; omega
  rw [hys] at HEV
  have HR := Lib.hid h
  rw [hys, show xs.length - 1 = n by omega]
  obtain ⟨v, hb, ho, -, -⟩ := h
  obtain ⟨a, cap, rfl, -⟩ := ho.shape
  rw [hn] at hb
  obtain ⟨⟨c0, -⟩, ⟨c1, -⟩, ⟨c2, -⟩, c3, -⟩ := blk4 hb
  have HYL := Lib.hid hyl
  have w1 : IntKind.i64.wrap (n : Int) = (n : Int) := IntWalk.i64_in _ (by omega)
  have e1 : ((n + 1 : Nat) : Int) - 1 = (n : Int) := by omega
  have e2 : (n : Int) + 1 - 1 = (n : Int) := by omega
  clear hb ho hx hxx hys hyl h1
  go_enter Try.func12, Try.ntmps12
  go_wp2_with fail
  refine HA.out.mono ?_; rintro e w1 ⟨rfl, hk⟩
  have HR1 := Lib.hid (HR.out.up hk)
  have HK1 := Lib.hid hk
  clear hk c0 c1 c2 c3
  go_wp2_with fail
  refine (HEV.out _ HR1.out).mono ?_; rintro e w2 ⟨rfl, o2, hr2, hx2⟩
  have HX2 := Lib.hid ((Ext.same HK1.out).trans hx2)
  obtain ⟨v, hb, ho, hvo, hoq⟩ := hr2
  obtain ⟨a, cap, rfl, hcap, hcm, -, hg, -⟩ := ho.shape
  rw [HYL.out] at hb ho hvo hcap hg
  obtain ⟨g, rfl⟩ := hg (by omega)
  have hgq : g ≠ q := fun e => hoq (by rw [← hvo, ← e]; rfl)
  have hog : some g = o2 := hvo
  obtain ⟨E1, hE1⟩ : ∃ D, w2.drew = D := ⟨_, rfl⟩
  have kE1 : Kept (fun _ => False) w2 E1 := by rw [← hE1]; exact (Kept.refl _ w2).drew
  obtain ⟨⟨c0, -⟩, ⟨c1, -⟩, ⟨c2, -⟩, c3, -⟩ := blk4 hb
  have hbE := kE1.blk hb id
  obtain ⟨⟨d0, -⟩, ⟨d1, -⟩, ⟨d2, -⟩, d3, -⟩ := blk4 hbE
  have X0 := cell_regrown d0
  have X1 := cell_regrown d1
  have X2 := cell_regrown d2
  have X3 := cell_regrown d3
  have HB := Lib.hid hbE
  have HO := Lib.hid (ho.kept kE1 (fun _ _ => id))
  have HKE := Lib.hid kE1
  have HD := Lib.hid (fun (w' : World) (ho : OwnV 3 w' (.slice (some ⟨g, 0, none⟩) (n + 1) cap) ys) => delete_last g n cap ys w' ho (by omega) (by simpa [maxLen] using hcm))
  have HE1 := Lib.hid hE1
  clear hx2 hb ho kE1 hbE d0 d1 d2 d3 hE1
  go_wp2
  refine wp_region_grow #[0, 0, 2, 6, 14, 0, 32, 96, 224, 480, 992, 0, 2048, 6144, 14336, 30720, 65534, 131071, 262143, 524287] 16 [0] (fun _ => none) (by kernel_rfl) rfl (by kernel_rfl) (fun i hi => rfl) (fun _ _ _ _ _ h => h) ?_
  rintro _ rfl
  rw [HE1.out]
  simp only [List.take_succ_cons, List.take_zero, List.drop_succ_cons, List.drop_zero, number, Nat.reduceAdd]
  repeat (refine wpGrow_step (fun K hK => ?_); go_simp; refine hK _ _ ?_; clear hK K)
  refine wpGrow_nil ?_
  intro w3 hk3 hω
  clear hω c0 c1 c2 c3 X0 X1 X2 X3
  have HB3 := Lib.hid (hk3.blk HB.out id)
  have HO3 := Lib.hid (HO.out.kept hk3 (fun _ _ => id))
  have HK3 := Lib.hid (HKE.out.then hk3)
  clear hk3
  go_wp2_with fail
  refine (HD.out _ HO3.out).mono ?_; rintro e w4 ⟨rfl, ho4, hk4⟩
  have hb4 := hk4.blk HB3.out (fun (h : q = g) => hgq h.symm)
  obtain ⟨V, hV⟩ : ∃ V, w4.setCell ⟨q, 1, none⟩ (.slice (some ⟨g, 0, none⟩) n cap) = V := ⟨_, rfl⟩
  have kV : Kept (fun i => i = q) w4 V := by rw [← hV]; exact (Kept.refl (fun i => i = q) _).setCell (p := ⟨q, 1, none⟩) (.inl rfl) _
  have bV : V.heap[q]? = some (.cells #[.int .i64 most, .slice (some ⟨g, 0, none⟩) n cap, .int .i64 0, .int .i64 gone] 48 (0, 0)) := by rw [← hV]; exact blk_set hb4 1 _
  obtain ⟨-, ⟨p1, p1'⟩, -⟩ := blk4 hb4
  have HRV := Lib.hid (show RAt 48 3 V q most 0 gone (ys.take n) o2 from ⟨_, bV, ho4.kept kV (fun b hb (hS : b = q) => hgq (by have h9 : g = b := Option.some.inj hb; omega)), hvo, hoq⟩)
  have HEV2 := Lib.hid (show Ext w q o o2 V from HX2.out.trans ⟨(HK3.out.mono (fun _ _ h => h.elim)).then ((hk4.mono fun i _ hi => Or.inr (by rw [← hog, show i = g from hi])).then (kV.mono fun _ _ h => .inl h)), .inl rfl⟩)
  clear ho4 hk4 hb4 kV bV
  go_wp2
  exact bodyPost_ret (v := .tuple #[.int .i64 x, .bool true]) (by simp [results, Try.results12, go_sem]) rfl ⟨rfl, o2, HRV.out, HEV2.out⟩

end Go.Proofs.Ytdfenlonlpjkfaa
