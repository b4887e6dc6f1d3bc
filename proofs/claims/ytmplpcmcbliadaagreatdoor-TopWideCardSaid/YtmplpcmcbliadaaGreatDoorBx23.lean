/- What is seen: no places, no images; What a terminal shows; What is seen, as a scene; The picture of what is seen; place, begun, known; a new terminal that listens; Text on lines, in plain Lean: which characters stand on which line. -/
import Derived.Test.YtmplpcmcbliadaaGreatDoorBx21
import Derived.Shelf.SlMaps.Clone
import Derived.Ground.SlmcProg
import Derived.Ground.GgzProg
import Derived.Shelf.SlGeneric
import Derived.Test.YtmplpcmcbliadaaGreatDoorBx10
import Derived.Lib.SlBytesConst
set_option linter.unusedVariables false
set_option linter.unusedSimpArgs false
namespace Go.Proofs.YtmplpcmcbliadaaGreatDoor
open Go.RowKit Go.Maps Go.Sort Go.Shelf Pl
attribute [local go_sem] growOp growUpon sameUpon
def Tryz.keysI_ren : Go.Shelf.Ren := ⟨fun | 7 => 45 | 10 => 86 | n => n, fun | 23 => 99 | 26 => 3 | 3 => 101 | 28 => 97 | 0 => 0 | 27 => 96 | 33 => 122 | 4 => 4 | n => n, fun | n => n⟩
theorem Tryz.keysI : Go.Proofs.SlLaysZI.n7 Tryz.prog Tryz.keysI_ren where
  mixed := by kernel_rfl
  f7 := ⟨ "maps.Keys[map[int]phosphor/store.image,int,phosphor/store.image]", by decide, Tryz.func45.trans (congrArg some (by kernel_rfl))⟩
  f10 := ⟨ "maps.Keys[map[int]phosphor/store.image,int,phosphor/store.image]$1", by decide, Tryz.func86.trans (congrArg some (by kernel_rfl))⟩
  t0 := Tryz.underlying0
  a0 := Tryz.isAgg0
  z0 := Tryz.sizeOf0
  v0 := Tryz.zeroValue0
  t4 := Tryz.underlying4
  a4 := Tryz.isAgg4
  z4 := Tryz.sizeOf4
  v4 := Tryz.zeroValue4
  t23 := Tryz.underlying99
  a23 := Tryz.isAgg99
  z23 := Tryz.sizeOf99
  v23 := Tryz.zeroValue99
  t26 := Tryz.underlying3
  a26 := Tryz.isAgg3
  z26 := Tryz.sizeOf3
  v26 := Tryz.zeroValue3
  t27 := Tryz.underlying96
  a27 := Tryz.isAgg96
  z27 := Tryz.sizeOf96
  v27 := Tryz.zeroValue96
  t28 := Tryz.underlying97
  a28 := Tryz.isAgg97
  z28 := Tryz.sizeOf97
  v28 := Tryz.zeroValue97
  t33 := Tryz.underlying122
  a33 := Tryz.isAgg122
  z33 := Tryz.sizeOf122
  v33 := Tryz.zeroValue122
def Tryz.cloneI_ren : Go.Shelf.Ren := ⟨fun | 5 => 140 | 7 => 209 | n => n, fun | 23 => 99 | 25 => 3 | 3 => 101 | 4 => 4 | 20 => 20 | n => n, fun | n => n⟩
theorem Tryz.cloneI : Go.Proofs.SlLaysW.n5 Tryz.prog Tryz.cloneI_ren where
  mixed := by kernel_rfl
  f5 := ⟨ "maps.Clone[map[int]phosphor/store.image,int,phosphor/store.image]", by decide, Tryz.func140.trans (congrArg some (by kernel_rfl))⟩
  f7 := Tryz.func209.trans (congrArg some (by kernel_rfl))
  t4 := Tryz.underlying4
  a4 := Tryz.isAgg4
  z4 := Tryz.sizeOf4
  v4 := Tryz.zeroValue4
  t20 := Tryz.underlying20
  a20 := Tryz.isAgg20
  z20 := Tryz.sizeOf20
  v20 := Tryz.zeroValue20
  t23 := Tryz.underlying99
  a23 := Tryz.isAgg99
  z23 := Tryz.sizeOf99
  v23 := Tryz.zeroValue99
set_option maxRecDepth 100000 in
set_option maxHeartbeats 4000000 in
theorem insort_nil (f : Value) (w : World) : Calls Tryz.prog 369 #[.slice none 0 0, .int .i64 0, .int .i64 0, f] w fun e w' => e = .returned (.tuple #[]) /\ w = w' := by
 go_enter Tryz.func369, Tryz.ntmps369
 go_wp2
 refine wp_loop_rounds 1 ?_
 rw [rounds_succ]
 go_wp2
 go_end0
 exact ⟨rfl, rfl⟩
set_option maxRecDepth 100000 in
set_option maxHeartbeats 4000000 in
theorem stable_nil (f : Value) (w : World) : Calls Tryz.prog 309 #[.slice none 0 0, .int .i64 0, f] w fun e w' => e = .returned (.tuple #[]) /\ w = w' := by
 have HI := Lib.hid (fun (x : World) => insort_nil f x)
 go_enter Tryz.func309, Tryz.ntmps309
 go_wp2
 refine wp_loop_rounds 1 ?_
 rw [rounds_succ]
 go_wp2_with fail
 refine (HI.out w).mono ?_
 rintro e w1 ⟨rfl, rfl⟩
 go_wp2
 refine wp_loop_rounds 1 ?_
 rw [rounds_succ]
 go_wp2
 go_end0
 exact ⟨rfl, rfl⟩
set_option maxRecDepth 100000 in
theorem sortst_nil (f : Value) (w : World) : Calls Tryz.prog 222 #[.slice none 0 0, f] w fun e w' => e = .returned (.tuple #[]) /\ w = w' := by
 have HI := Lib.hid (fun (x : World) => stable_nil f x)
 go_enter Tryz.func222, Tryz.ntmps222
 go_wp2_with fail
 refine (HI.out w).mono ?_
 rintro e w1 ⟨rfl, rfl⟩
 go_wp2
 go_end0
 exact ⟨rfl, rfl⟩
set_option maxRecDepth 100000 in
set_option maxHeartbeats 4000000 in
theorem order_none (p : Nat) (cs : Array Value) (w : World) (h : PtB w p) : Calls Tryz.prog 149 #[.pointer (some ⟨p, 0, none⟩), .agg cs] w fun e w' => e = .returned (.slice none 0 0) /\ Kept (fun _ => False) w w' := by
 have HI := Lib.hid (fun (f : Value) (x : World) => sortst_nil f x)
 obtain ⟨V, hV⟩ : ∃ V, w.alloc (.cells cs 164) = V := ⟨_, rfl⟩
 have kV : Kept (fun _ => False) w V := by rw [<- hV]; exact (Kept.refl _ _).alloc _
 have x0 : V.cell? ⟨p, 0, none⟩ = some (.slice none 0 0) := blk_cell (kV.blk h id) 0
 have HK := Lib.hid kV
 clear h kV
 go_enter Tryz.func149, Tryz.ntmps149
 go_wp2
 refine wp_loop_rounds 1 ?_
 rw [rounds_succ]
 go_wp2_with fail
 refine (HI.out _ _).mono ?_
 rintro e w1 ⟨rfl, rfl⟩
 go_wp2
 go_ret
 exact ⟨rfl, HK.out⟩
set_option maxRecDepth 100000 in
set_option maxHeartbeats 4000000 in
theorem eorder_none (G : Nat -> Prop) (en quota : Nat) (x0 x1 x2 x3 x4 x5 : Value) (w : World) (h : EngK G w en quota) : Calls Tryz.prog 91 #[.pointer (some ⟨en, 0, none⟩), .agg #[x0, x1, x2, x3, x4, x5]] w fun e w' => e = .returned (.slice none 0 0) /\ Kept (fun _ => False) w w' := by
 obtain ⟨q1, q2, mb, he, hso, hpt, -⟩ := h.ex
 obtain ⟨V, hV⟩ : ∃ V, w.alloc (.cells #[x0, x1, x2, x3, x4, x5] 164) = V := ⟨_, rfl⟩
 have kV : Kept (fun _ => False) w V := by rw [<- hV]; exact (Kept.refl _ _).alloc _
 have bV : V.heap[w.heap.size]? = some (.cells #[x0, x1, x2, x3, x4, x5] 164 (0, 0)) := by rw [<- hV]; exact blk_new _ _
 obtain ⟨WR, hWR⟩ : ∃ WR, WR = V.drew := ⟨_, rfl⟩
 have kR : Kept (fun _ => False) V WR := by rw [hWR]; exact (Kept.refl _ _).drew
 have Y2 := cell_regrown (show WR.cell? ⟨en, 2, none⟩ = some (.pointer (some ⟨q2, 0, none⟩)) from (he.kept (kV.then kR) id).cells.2.2.1)
 have hbR := kR.blk bV id
 have B0 := cell_regrown (show WR.cell? ⟨w.heap.size, 0, none⟩ = some x0 from blk_cell hbR 0)
 have B1 := cell_regrown (show WR.cell? ⟨w.heap.size, 1, none⟩ = some x1 from blk_cell hbR 1)
 have B2 := cell_regrown (show WR.cell? ⟨w.heap.size, 2, none⟩ = some x2 from blk_cell hbR 2)
 have B3 := cell_regrown (show WR.cell? ⟨w.heap.size, 3, none⟩ = some x3 from blk_cell hbR 3)
 have B4 := cell_regrown (show WR.cell? ⟨w.heap.size, 4, none⟩ = some x4 from blk_cell hbR 4)
 have B5 := cell_regrown (show WR.cell? ⟨w.heap.size, 5, none⟩ = some x5 from blk_cell hbR 5)
 obtain ⟨R, hRR⟩ : ∃ R : Value -> World -> Prop, R = fun v w' => v = .slice none 0 0 := ⟨_, rfl⟩
 have HRR := Lib.hid hRR
 have HWR := Lib.hid (And.intro hWR (And.intro kV (And.intro kR ((kV.then kR).blk hpt id))))
 clear h he hso hpt bV hbR hRR hWR kV kR
 go_enter Tryz.func91, Tryz.ntmps91
 go_wp2
 refine wp_region_grow #[0, 1, 3, 7, 0, 31, 63] 6 [] (fun i => if i = 5 then some R else none) (by kernel_rfl) rfl (by kernel_rfl) (fun i hi => by cases hi) (fun _ _ _ _ _ h => h) ?_
 rintro _ rfl
 rw [<- HWR.out.1]
 simp only [List.take_succ_cons, List.take_zero, List.drop_succ_cons, List.drop_zero, number, Nat.reduceAdd]
 iterate 5 (refine wpGrow_step (fun K hK => ?_); go_simp; refine hK _ _ ?_; clear hK K)
 refine wpGrow_step (fun K hK => ?_)
 go_simp
 refine ⟨fun w' hg => (order_none q2 _ w' (hg.old.blk HWR.out.2.2.2 id)).mono (fun e w'' ⟨he, hk⟩ => ⟨_, he, hk, by rw [HRR.out]⟩), fun v3 w4 hv3 _ => ?_⟩
 rw [HRR.out] at hv3
 subst hv3
 refine hK _ _ ?_; clear hK K
 refine wpGrow_nil ?_
 intro w5 hk5 hω
 have HX := Lib.hid (HWR.out.2.1.then (HWR.out.2.2.1.then hk5))
 clear hk5 hω
 go_wp2
 go_ret
 exact ⟨rfl, HX.out⟩
theorem blk5s {w : World} {b : Nat} {x y z u v : Value} {t : TypeId} (h : w.heap[b]? = some (.cells #[x, y, z, u, v] t (0, 0))) :
  w.cell? ⟨b, 0, none⟩ = some x /\ w.cell? ⟨b, 1, none⟩ = some y /\ w.cell? ⟨b, 2, none⟩ = some z /\ w.cell? ⟨b, 3, none⟩ = some u /\ w.cell? ⟨b, 4, none⟩ = some v /\ w.frozen? ⟨b, 4, none⟩ = false := ⟨blk_cell h 0, blk_cell h 1, blk_cell h 2, blk_cell h 3, blk_cell h 4, blk_free h 4⟩
set_option maxRecDepth 100000 in
set_option maxHeartbeats 4000000 in
theorem stwin_any (q1 quota mb : Nat) (w : World) (h : StoB w q1 quota mb) : Calls Tryz.prog 83 #[.pointer (some ⟨q1, 0, none⟩)] w fun e w' => ∃ q2 mb2, e = .returned (.pointer (some ⟨q2, 0, none⟩)) /\ StoB w' q2 quota mb2 /\ Kept (fun _ => False) w w' := by
 obtain ⟨x0, x1, x2, x3, x4, -⟩ := blk5s h.1
 obtain ⟨V, hV⟩ : ∃ V, w.alloc (.cells #[.int .i64 quota, .int .i64 0, .int .i64 0, .int .i64 0, .map (some mb)] 103) = V := ⟨_, rfl⟩
 have kV : Kept (fun _ => False) w V := by rw [<- hV]; exact (Kept.refl _ _).alloc _
 have bV : V.heap[w.heap.size]? = some (.cells #[.int .i64 quota, .int .i64 0, .int .i64 0, .int .i64 0, .map (some mb)] 103 (0, 0)) := by rw [<- hV]; exact blk_new _ _
 obtain ⟨y0, y1, y2, y3, y4, f4⟩ := blk5s bV
 obtain ⟨z0, z1, z2, z3, z4, -⟩ := blk5s (kV.blk h.1 id)
 have cC := AnyW.maps_Clone Tryz.cloneI mb #[] 0 V (kV.blk h.2 id)
 change Calls Tryz.prog 140 _ _ _ at cC
 have HC := Lib.hid cC
 obtain ⟨U, hU⟩ : ∃ U, V.alloc (.map #[] 0) = U := ⟨_, rfl⟩
 have kU : Kept (fun _ => False) V U := by rw [<- hU]; exact (Kept.refl _ _).alloc _
 have mU : U.heap[V.heap.size]? = some (.map #[] 0) := by rw [<- hU]; exact blk_new _ _
 obtain ⟨-, -, -, -, c4, u4⟩ := blk5s (kU.blk bV id)
 have HF := Lib.hid (And.intro kV (And.intro kU (And.intro mU (kU.blk bV id))))
 have hsz := lt_of_blk (kU.blk bV id)
 clear h kV bV kU mU cC
 go_enter Tryz.func83, Tryz.ntmps83
 go_wp2_with fail
 refine HC.out.mono ?_
 rintro e w1 ⟨rfl, rfl⟩
 rw [hU]
 go_wp2
 go_ret
 obtain ⟨kV, kU, mU, bU⟩ := HF.out
 have hne : V.heap.size ≠ w.heap.size := by have := kV.size; have := lt_of_blk (show V.heap[w.heap.size]? = some _ from by rw [<- hV]; exact blk_new _ _); omega
 exact ⟨_, _, rfl, ⟨blk_set bU 4 _, blk_set_other mU hne _⟩, (kV.then kU).setCell (p := ⟨w.heap.size, 4, none⟩) (.inr (Nat.le_refl _)) _⟩
set_option maxRecDepth 100000 in
theorem estore_any (G : Nat -> Prop) (en quota : Nat) (w : World) (h : EngK G w en quota) : Calls Tryz.prog 43 #[.pointer (some ⟨en, 0, none⟩)] w fun e w' => ∃ q2 mb2, e = .returned (.pointer (some ⟨q2, 0, none⟩)) /\ StoB w' q2 quota mb2 /\ Kept (fun _ => False) w w' := by
 obtain ⟨q1, q2, mb, he, hso, hpt, -⟩ := h.ex
 obtain ⟨-, x1, -, -⟩ := he.cells
 have HC := Lib.hid (stwin_any q1 quota mb w hso)
 clear h he hso hpt
 go_enter Tryz.func43, Tryz.ntmps43
 go_wp2_with fail
 refine HC.out.mono ?_
 rintro e w1 ⟨q3, mb3, rfl, h3, hk3⟩
 have H3 := Lib.hid (And.intro h3 hk3)
 clear h3 hk3
 go_wp2
 go_ret
 exact ⟨_, _, rfl, H3.out⟩
set_option maxRecDepth 100000 in
theorem timages_any (G Gs Ge : Nat -> Prop) (q : Nat) (c : Cf) (t : Tc) (P : SP) (R : List Int) (w : World) (h : TmK G w q c t P R Gs Ge) : Calls Tryz.prog 20 #[.pointer (some ⟨q, 0, none⟩)] w fun e w' => ∃ q2 mb2, e = .returned (.pointer (some ⟨q2, 0, none⟩)) /\ StoB w' q2 c.quota mb2 /\ Kept (fun _ => False) w w' := by
 obtain ⟨-, -, -, -, -, -, -, x7, -⟩ := h.tb.cells
 have HC := Lib.hid (estore_any Ge t.e c.quota w h.en)
 clear h
 go_enter Tryz.func20, Tryz.ntmps20
 go_wp2_with fail
 refine HC.out.mono ?_
 rintro e w1 ⟨q3, mb3, rfl, h3, hk3⟩
 have H3 := Lib.hid (And.intro h3 hk3)
 clear h3 hk3
 go_wp2
 go_ret
 exact ⟨_, _, rfl, H3.out⟩
set_option maxRecDepth 100000 in
set_option maxHeartbeats 1000000 in
theorem ids_nil (p quota b : Nat) (w : World) (h : StoB w p quota b) : Calls Tryz.prog 21 #[.pointer (some ⟨p, 0, none⟩)] w fun e w' => e = .returned (.slice none 0 0) /\ Kept (fun _ => False) w w' := by
 have hown := own_nil w b h.2
 suffices hh : Calls Tryz.prog 21 #[.pointer (some ⟨p, 0, none⟩)] w fun e w' => ∃ (v : Value) (ss : List Int), e = .returned v /\ ss.Perm (intKeys (.map [] : DataW Unit)) /\ (v = .slice none 0 0 ↔ ss = []) /\ Below w.heap.size w w' by
  refine hh.mono ?_
  rintro e w' ⟨v, ss, rfl, hp, hn, hk⟩
  obtain rfl : ss = [] := List.perm_nil.1 hp
  exact ⟨by rw [hn.2 rfl], Kept.of_below hk (fun i hi h9 => by omega)⟩
 refine (callsIn_wide (n := 6)).1 ?_
 have hbl := hown.lt
 obtain ⟨-, -, -, -, x1, -⟩ := blk5s h.1
 have hseq : SeqGives Fence.wide 2 Tryz.prog 86 #[.pointer (some ⟨w.heap.size, 0, none⟩)] encZ (fun ss => ss.Perm (intKeys (.map [] : DataW Unit))) (Maps.size (.map [] : DataW Unit)) (w.alloc (.cells #[.map (some b)] 99)) :=
  AnyZI.keys_gives (ρ := Tryz.keysI_ren) { Tryz.keysI with } Fence.wide _ trivial rfl (by omega) w.heap.size b 0 (.map [] : DataW Unit) _ (by simp) (by simp) (by
   obtain ⟨es, clock, hb, Ft, hs, hD⟩ := hown
   exact ⟨es, clock, (Below.heap_alloc _ _ b hbl).trans hb, Ft, hs, hD⟩)
 have cK : ∀ mb W, CallsIn Fence.wide 5 Tryz.prog 45 #[.map mb] W fun e w' => e = .returned (.func (.func 86) #[] #[.pointer (some ⟨W.heap.size, 0, none⟩)]) /\ w' = W.alloc (.cells #[.map mb] 99) := fun mb W => AnyZI.keys_in Tryz.keysI Fence.wide 5 trivial rfl mb W
 have cS := AnyZI.sorted_in Tryz.sortedA Fence.wide 5 trivial trivial trivial trivial rfl (by omega) (sortsA _) (enters_of Tryz.func85 (by kernel_rfl) rfl) 86 #[.pointer (some ⟨w.heap.size, 0, none⟩)] trivial (enters_of Tryz.func86 (by kernel_rfl) rfl) _ _ (by simp [Maps.size]) (by simp [Maps.size]) _ hseq
 change CallsIn _ _ Tryz.prog 44 _ _ _ at cS
 have hfK : Fence.wide.fn 45 := trivial
 have hfS : Fence.wide.fn 44 := trivial
 clear hown h
 refine callsIn_of_wp Tryz.func21 rfl trivial ?_ rfl
 simp only [Tryz.ntmps21, List.size_toArray, List.length_cons, List.length_nil, Nat.reduceAdd, Nat.reduceSub, Array.replicate_succ, Array.replicate_zero, List.push_toArray, List.append_toArray, List.nil_append, List.cons_append]
 gi_wp2_with (first
  | (gi_at_call 45; refine (cK _ _).mono ?_; rintro e w' ⟨rfl, rfl⟩)
  | (gi_at_call 44; refine cS.mono ?_; rintro e w' ⟨v, ss, rfl, hS, hrow, hnil, hb⟩))
 go_ret
 exact ⟨v, ss, rfl, hS, hnil, ((Below.refl _ w).alloc (Nat.le_refl _) _).trans (hb.mono (by simp))⟩
end Go.Proofs.YtmplpcmcbliadaaGreatDoor
namespace Go.Proofs.YtmplpcmcbliadaaGreatDoor
open Go.RowKit Go.Sort Pl
attribute [local go_sem] growOp growUpon sameUpon
set_option maxRecDepth 100000 in
theorem tmode_any (G Gs Ge : Nat -> Prop) (q : Nat) (c : Cf) (t : Tc) (P : SP) (R : List Int) (w : World) (h : TmK G w q c t P R Gs Ge) (hes : P.es = prv0) : Calls Tryz.prog 92 #[.pointer (some ⟨q, 0, none⟩), .int .i64 25, .bool true] w fun e w' => e = .returned (.bool true) /\ w = w' := by
 obtain ⟨g0, g1, md, pv, st, tb, G0, G1, hs⟩ := h.sc
 obtain ⟨-, -, -, -, -, -, x6, -⟩ := h.tb.cells
 have hm := hs.m2
 rw [hes] at hm
 have HM := Lib.hid (mode25_any t.s (P.sn g0 g1 md pv st) w hs.sn hm)
 clear h hs hm
 go_enter Tryz.func92, Tryz.ntmps92
 go_wp2_with fail
 refine HM.out.mono ?_
 rintro e w1 ⟨rfl, rfl⟩
 go_wp2
 go_ret
 exact ⟨rfl, rfl⟩
theorem setN_blk {b : Nat} {t : TypeId} : ∀ (vs : List Value) (w : World) (A : List Value) (i : Nat), w.heap[b]? = some (.cells A.toArray t (0, 0)) -> i + vs.length <= A.length -> (w.setCells b i vs).heap[b]? = some (.cells (setL A i vs).toArray t (0, 0)) /\ Kept (fun i => i = b) w (w.setCells b i vs)
 | [], w, A, i, h, _ => ⟨h, Kept.refl _ _⟩
 | v :: r, w, A, i, h, hi => by
  simp only [List.length_cons] at hi
  have h1 : (w.setCell ⟨b, i, none⟩ v).heap[b]? = some (.cells (A.set i v).toArray t (0, 0)) := by rw [blk_set h i v, List.setIfInBounds_toArray]
  have h2 := setN_blk r (w.setCell ⟨b, i, none⟩ v) (A.set i v) (i + 1) h1 (by rw [List.length_set]; omega)
  exact ⟨h2.1, ((Kept.refl (fun i => i = b) w).setCell (p := ⟨b, i, none⟩) (.inl rfl) v).then h2.2⟩
theorem blk_whole {w : World} {b : Nat} {t : TypeId} {A vs : List Value} (h : w.heap[b]? = some (.cells A.toArray t (0, 0))) (hl : vs.length = A.length) (hs : setL A 0 vs = vs) : ∃ V, w.setCells b 0 vs = V /\ w.there b 0 vs.length /\ V.heap[b]? = some (.cells vs.toArray t (0, 0)) /\ Kept (fun i => i = b) w V := by
 have h1 := setN_blk vs w A 0 h (by omega)
 rw [hs] at h1
 exact ⟨_, rfl, fun j hj => ⟨by rw [blk_cell h, List.getElem?_toArray, List.getElem?_eq_getElem (by omega)]; rfl, blk_free h _⟩, h1⟩
theorem blk8c {w : World} {b : Nat} {x0 x1 x2 x3 x4 x5 x6 x7 : Value} {t : TypeId} (h : w.heap[b]? = some (.cells #[x0, x1, x2, x3, x4, x5, x6, x7] t (0, 0))) :
  w.cell? ⟨b, 0, none⟩ = some x0 /\ w.cell? ⟨b, 1, none⟩ = some x1 /\ w.cell? ⟨b, 2, none⟩ = some x2 /\ w.cell? ⟨b, 3, none⟩ = some x3 /\ w.cell? ⟨b, 4, none⟩ = some x4 /\ w.cell? ⟨b, 5, none⟩ = some x5 /\ w.cell? ⟨b, 6, none⟩ = some x6 /\ w.cell? ⟨b, 7, none⟩ = some x7 :=
 ⟨blk_cell h 0, blk_cell h 1, blk_cell h 2, blk_cell h 3, blk_cell h 4, blk_cell h 5, blk_cell h 6, blk_cell h 7⟩
def viewV (c : Cf) (P : SP) : Value := .agg #[.bool false, .int .i64 P.top, .int .i64 P.rows, .int .i64 P.cols, .int .i64 P.c.row, .int .i64 P.c.col, .int .i64 c.cw, .int .i64 c.ch]
set_option maxRecDepth 100000 in
set_option maxHeartbeats 4000000 in
theorem tview_any (G Gs Ge : Nat -> Prop) (q : Nat) (c : Cf) (t : Tc) (P : SP) (R : List Int) (w : World) (h : TmK G w q c t P R Gs Ge) : Calls Tryz.prog 90 #[.pointer (some ⟨q, 0, none⟩)] w fun e w' => e = .returned (viewV c P) /\ Kept (fun _ => False) w w' := by
 obtain ⟨g0, g1, md, pv, st, tb, G0, G1, hs⟩ := h.sc
 obtain ⟨gone, rp, lv, rv, vs, rs, at', hg⟩ := hs.k0
 have HH := Lib.hid (fun (x : World) (k : Kept (fun _ => False) w x) => show TmB x q c t /\ SnB x t.s (P.sn g0 g1 md pv st) /\ GrB x g0 rp P.rows P.cols lv P.top from ⟨k.blk h.tb id, hs.sn.kept k id, hg.gb.kept k id⟩)
 clear h hs hg
 obtain ⟨V, hV⟩ : ∃ V, w.alloc (.cells #[.bool false, .int .i64 0, .int .i64 0, .int .i64 0, .int .i64 0, .int .i64 0, .int .i64 0, .int .i64 0] 166) = V := ⟨_, rfl⟩
 have kV : Kept (fun _ => False) w V := by rw [<- hV]; exact (Kept.refl _ _).alloc _
 have bV : V.heap[w.heap.size]? = some (.cells #[.bool false, .int .i64 0, .int .i64 0, .int .i64 0, .int .i64 0, .int .i64 0, .int .i64 0, .int .i64 0] 166 (0, 0)) := by rw [<- hV]; exact blk_new _ _
 obtain ⟨a1, a2, a3⟩ := HH.out V kV
 obtain ⟨-, -, -, -, -, -, x6, -⟩ := a1.cells
 have HS := Lib.hid (sSize_any t.s rp P.rows P.cols lv P.top (P.sn g0 g1 md pv st) V a2 a3)
 have HV := Lib.hid (And.intro kV bV)
 clear a1 a2 a3 kV bV
 go_enter Tryz.func90, Tryz.ntmps90
 go_wp2_with fail
 refine HS.out.mono ?_
 rintro e w1 ⟨rfl, hk1⟩
 obtain ⟨a1, a2, a3⟩ := HH.out w1 (HV.out.1.then hk1)
 obtain ⟨-, -, -, -, -, -, y6, -⟩ := a1.cells
 have HC := Lib.hid (show Calls Tryz.prog 53 #[.pointer (some ⟨t.s, 0, none⟩)] w1 fun e w' => e = .returned P.c.val /\ Kept (fun _ => False) w1 w' from scur_any t.s (P.sn g0 g1 md pv st) w1 a2)
 have H1 := Lib.hid hk1
 clear a1 a2 a3 hk1 x6
 go_wp2_with fail
 refine HC.out.mono ?_
 rintro e w2 ⟨rfl, hk2⟩
 have H2 := Lib.hid hk2
 clear hk2
 unfold Cu.val
 obtain ⟨U, hU⟩ : ∃ U, w2.alloc (.cells #[.int .i64 P.c.row, .int .i64 P.c.col, .bool P.c.wrap, .int .i64 P.c.a.fg, .int .i64 P.c.a.bg, .int .i64 P.c.a.fl, .bool P.c.org, .int .u8 P.c.s0, .int .u8 P.c.s1, .int .i64 P.c.sh] 56) = U := ⟨_, rfl⟩
 have kU : Kept (fun _ => False) w2 U := by rw [<- hU]; exact (Kept.refl _ _).alloc _
 have bU : U.heap[w2.heap.size]? = some (.cells #[.int .i64 P.c.row, .int .i64 P.c.col, .bool P.c.wrap, .int .i64 P.c.a.fg, .int .i64 P.c.a.bg, .int .i64 P.c.a.fl, .bool P.c.org, .int .u8 P.c.s0, .int .u8 P.c.s1, .int .i64 P.c.sh] 56 (0, 0)) := by rw [<- hU]; exact blk_new _ _
 obtain ⟨WR, hWR⟩ : ∃ WR, WR = U.drew := ⟨_, rfl⟩
 have kR : Kept (fun _ => False) U WR := by rw [hWR]; exact (Kept.refl _ _).drew
 have k1R := H1.out.then (H2.out.then (kU.then kR))
 obtain ⟨a1, a2, a3⟩ := HH.out WR (HV.out.1.then k1R)
 obtain ⟨-, -, r2, r3, -, -, r6, -⟩ := a1.cells
 have R2 := cell_regrown r2
 have R3 := cell_regrown r3
 have R6 := cell_regrown r6
 have C0 := cell_regrown (show WR.cell? ⟨w2.heap.size, 0, none⟩ = some (.int .i64 P.c.row) from blk_cell (kR.blk bU id) 0)
 have C1 := cell_regrown (show WR.cell? ⟨w2.heap.size, 1, none⟩ = some (.int .i64 P.c.col) from blk_cell (kR.blk bU id) 1)
 obtain ⟨RA, hRA⟩ : ∃ R : Value -> World -> Prop, R = fun v w' => v = .bool false := ⟨_, rfl⟩
 obtain ⟨RB, hRB⟩ : ∃ R : Value -> World -> Prop, R = fun v w' => v = .int .i64 P.top := ⟨_, rfl⟩
 have HRR := Lib.hid (And.intro hRA hRB)
 have HWR := Lib.hid (And.intro hWR (And.intro k1R (And.intro a2 a3)))
 clear a1 a2 a3 r2 r3 r6 y6 kU kR k1R bU hRA hRB hWR
 go_wp2
 refine wp_region_grow #[0, 1, 3, 7, 15, 0, 32, 96, 224, 511, 0, 0, 0, 4096, 0, 16384, 65535, 0, 131072, 393216, 917504, 1966080, 0, 4194304, 12582912, 29360128, 62914560, 134217727, 268435455] 28 [] (fun i => if i = 4 then some RA else if i = 9 then some RB else none) (by kernel_rfl) rfl (by kernel_rfl) (fun i hi => by cases hi) (fun _ _ _ _ _ h => h) ?_
 rintro _ rfl
 rw [<- HWR.out.1]
 simp only [List.take_succ_cons, List.take_zero, List.drop_succ_cons, List.drop_zero, number, Nat.reduceAdd]
 iterate 4 (refine wpGrow_step (fun K hK => ?_); go_simp; refine hK _ _ ?_; clear hK K)
 refine wpGrow_step (fun K hK => ?_)
 go_simp
 refine ⟨fun w' hg => (salt_any t.s (P.sn g0 g1 md pv st) w' (HWR.out.2.2.1.kept hg.old id)).mono (fun e w'' ⟨he, hw⟩ => ⟨_, he, hw ▸ Kept.refl _ _, by rw [HRR.out.1]⟩), fun v3 w4 hv3 _ => ?_⟩
 rw [HRR.out.1] at hv3
 subst hv3
 refine hK _ _ ?_; clear hK K
 iterate 4 (refine wpGrow_step (fun K hK => ?_); go_simp; refine hK _ _ ?_; clear hK K)
 refine wpGrow_step (fun K hK => ?_)
 go_simp
 refine ⟨fun w' hg => (stop_any t.s rp P.rows P.cols lv P.top (P.sn g0 g1 md pv st) w' (HWR.out.2.2.1.kept hg.old id) (hg.old.blk HWR.out.2.2.2 id)).mono (fun e w'' ⟨he, hw⟩ => ⟨_, he, hw, by rw [HRR.out.2]⟩), fun v3 w4 hv3 _ => ?_⟩
 rw [HRR.out.2] at hv3
 subst hv3
 refine hK _ _ ?_; clear hK K
 iterate 18 (refine wpGrow_step (fun K hK => ?_); go_simp; refine hK _ _ ?_; clear hK K)
 refine wpGrow_nil ?_
 intro w5 hk5 hω
 have kV5 := HWR.out.2.1.then hk5
 have bV5 := kV5.blk HV.out.2 id
 obtain ⟨X, hX, TH, bX, kX⟩ := blk_whole (A := [.bool false, .int .i64 0, .int .i64 0, .int .i64 0, .int .i64 0, .int .i64 0, .int .i64 0, .int .i64 0]) (vs := [.bool false, .int .i64 P.top, .int .i64 P.rows, .int .i64 P.cols, .int .i64 P.c.row, .int .i64 P.c.col, .int .i64 c.cw, .int .i64 c.ch]) bV5 rfl rfl
 have HX := Lib.hid (And.intro TH (And.intro hX (And.intro bX ((HV.out.1.then kV5).trans (kX.mono fun i _ h => .inr (by rw [show i = w.heap.size from h]; exact Nat.le_refl _))))))
 clear hk5 hω kV5 bV5 TH hX bX kX R2 R3 R6 C0 C1
 go_wp2_with (refine wpList_store_mid rfl 166 _ _ rfl w.heap.size 0 #[.bool false, .int .i64 P.top, .int .i64 P.rows, .int .i64 P.cols, .int .i64 P.c.row, .int .i64 P.c.col, .int .i64 c.cw, .int .i64 c.ch] rfl rfl HX.out.1 (by kernel_rfl) (by kernel_rfl) ?_; rw [HX.out.2.1])
 obtain ⟨m0, m1, m2, m3, m4, m5, m6, m7⟩ := blk8c HX.out.2.2.1
 exact bodyPost_ret (v := viewV c P) (by simp [results, Tryz.results90, go_sem, m0, m1, m2, m3, m4, m5, m6, m7, viewV]) rfl ⟨rfl, HX.out.2.2.2⟩
end Go.Proofs.YtmplpcmcbliadaaGreatDoor
namespace Go.Proofs.YtmplpcmcbliadaaGreatDoor
open Go.RowKit Go.Sort Pl
attribute [local go_sem] growOp growUpon sameUpon
theorem cell11 {w : World} {b : Nat} {x0 x1 x2 x3 x4 x5 x6 x7 x8 x9 x10 : Value} {t : TypeId} (h : w.heap[b]? = some (.cells #[x0, x1, x2, x3, x4, x5, x6, x7, x8, x9, x10] t (0, 0))) (i : Nat) : w.cell? ⟨b, i, none⟩ = #[x0, x1, x2, x3, x4, x5, x6, x7, x8, x9, x10][i]? := blk_cell h i
set_option maxRecDepth 100000 in
set_option maxHeartbeats 4000000 in
theorem tscene_any (G Gs Ge : Nat -> Prop) (q : Nat) (c : Cf) (t : Tc) (P : SP) (R : List Int) (f : Value) (w : World) (h : TmK G w q c t P R Gs Ge) (hes : P.es = prv0) :
  Calls Tryz.prog 49 #[.pointer (some ⟨q, 0, none⟩), f] w fun e w' => ∃ v vs m, e = .returned (.agg #[.int .i64 P.rows, .int .i64 P.cols, .int .i64 c.cw, .int .i64 c.ch, v, .slice none 0 0, .map (some m), .int .i64 P.top, .bool true, .int .i64 P.c.row, .int .i64 P.c.col]) /\ RowM w P.L v vs w' := by
 have HH := Lib.hid (fun (x : World) (k : Kept (fun _ => False) w x) => h.kept k (fun _ _ => id))
 clear h
 obtain ⟨V, hV⟩ : ∃ V, w.alloc (.cells #[.int .i64 0, .int .i64 0, .int .i64 0, .int .i64 0, .slice none 0 0, .slice none 0 0, .map none, .int .i64 0, .bool false, .int .i64 0, .int .i64 0] 107) = V := ⟨_, rfl⟩
 have kV : Kept (fun _ => False) w V := by rw [<- hV]; exact (Kept.refl _ _).alloc _
 have bV : V.heap[w.heap.size]? = some (.cells #[.int .i64 0, .int .i64 0, .int .i64 0, .int .i64 0, .slice none 0 0, .slice none 0 0, .map none, .int .i64 0, .bool false, .int .i64 0, .int .i64 0] 107 (0, 0)) := by rw [<- hV]; exact blk_new _ _
 have HVW := Lib.hid (tview_any G Gs Ge q c t P R V (HH.out V kV))
 have HV := Lib.hid (And.intro kV bV)
 clear kV bV
 go_enter Tryz.func49, Tryz.ntmps49
 go_wp2_with fail
 refine HVW.out.mono ?_
 rintro e w1 ⟨rfl, hk1⟩
 unfold viewV
 obtain ⟨U, hU⟩ : ∃ U, w1.alloc (.cells #[.bool false, .int .i64 P.top, .int .i64 P.rows, .int .i64 P.cols, .int .i64 P.c.row, .int .i64 P.c.col, .int .i64 c.cw, .int .i64 c.ch] 166) = U := ⟨_, rfl⟩
 have kU : Kept (fun _ => False) w1 U := by rw [<- hU]; exact (Kept.refl _ _).alloc _
 have bU : U.heap[w1.heap.size]? = some (.cells #[.bool false, .int .i64 P.top, .int .i64 P.rows, .int .i64 P.cols, .int .i64 P.c.row, .int .i64 P.c.col, .int .i64 c.cw, .int .i64 c.ch] 166 (0, 0)) := by rw [<- hU]; exact blk_new _ _
 obtain ⟨WR, hWR⟩ : ∃ WR, WR = U.drew := ⟨_, rfl⟩
 have kR : Kept (fun _ => False) U WR := by rw [hWR]; exact (Kept.refl _ _).drew
 have kVR := hk1.then (kU.then kR)
 obtain ⟨-, -, -, -, -, -, -, r7, -⟩ := (HH.out WR (HV.out.1.then kVR)).tb.cells
 have R7 := cell_regrown r7
 obtain ⟨b0, b1, b2, b3, b4, b5, b6, b7⟩ := blk8c (kR.blk bU id)
 have B0 := cell_regrown b0
 have B1 := cell_regrown b1
 have B2 := cell_regrown b2
 have B3 := cell_regrown b3
 have B4 := cell_regrown b4
 have B5 := cell_regrown b5
 have B6 := cell_regrown b6
 have B7 := cell_regrown b7
 obtain ⟨RA, hRA⟩ : ∃ R : Value -> World -> Prop, R = fun v w' => ∃ x vs, RowM x P.L v vs w' /\ Kept (fun _ => False) WR x := ⟨_, rfl⟩
 obtain ⟨RB, hRB⟩ : ∃ R : Value -> World -> Prop, R = fun v w' => v = .slice none 0 0 := ⟨_, rfl⟩
 obtain ⟨RC', hRC⟩ : ∃ R : Value -> World -> Prop, R = fun v w' => ∃ m, v = .map (some m) := ⟨_, rfl⟩
 obtain ⟨RD, hRD⟩ : ∃ R : Value -> World -> Prop, R = fun v w' => ∃ b, v = .pointer (some ⟨b, 0, none⟩) /\ w'.heap[b]? = some (.cells #[.int .i64 0, .int .i64 0, .int .i64 0, .int .i64 0, .slice none 0 0, .slice none 0 0, .map none, .int .i64 0, .bool false, .int .i64 0, .int .i64 0] 107 (0, 0)) /\ WR.heap.size <= b := ⟨_, rfl⟩
 have HRR := Lib.hid (And.intro hRA (And.intro hRB (And.intro hRC hRD)))
 have HWR := Lib.hid (And.intro hWR kVR)
 clear b0 b1 b2 b3 b4 b5 b6 b7 r7 kU kR kVR bU hRA hRB hRC hRD hWR hk1
 go_wp2
 refine wp_region_grow #[0, 1, 3, 0, 8, 24, 0, 64, 0, 256, 0, 1024, 0, 4096, 12288, 28672, 0, 65536, 261120, 0, 0, 1048576, 3145728, 0, 8388608, 25165824, 0, 67108864, 201326592, 536870911, 0, 2147483647] 31 [] (fun i => if i = 11 then some RA else if i = 18 then some RB else if i = 19 then some RC' else if i = 30 then some RD else none) (by kernel_rfl) rfl (by kernel_rfl) (fun i hi => by cases hi) (fun _ _ _ _ _ h => h) ?_
 rintro _ rfl
 rw [<- HWR.out.1]
 simp only [List.take_succ_cons, List.take_zero, List.drop_succ_cons, List.drop_zero, number, Nat.reduceAdd]
 iterate 11 (refine wpGrow_step (fun K hK => ?_); go_simp; refine hK _ _ ?_; clear hK K)
 refine wpGrow_step (fun K hK => ?_)
 go_simp
 refine ⟨fun w' hg => (tlin_any G Gs Ge q c t P R w' (HH.out w' (HV.out.1.then (HWR.out.2.then hg.old)))).mono (fun e w'' ⟨v, vs, he, hm⟩ => ⟨_, he, hm.k, by rw [HRR.out.1]; exact ⟨w', vs, hm, hg.old⟩⟩), fun v3 w4 hv3 _ => ?_⟩
 rw [HRR.out.1] at hv3
 obtain ⟨x3, vs3, hm3, hx3⟩ := hv3
 obtain ⟨la, lc, hve, -⟩ := hm3.own.shape
 obtain ⟨ln, hln⟩ : ∃ n, vs3.length = n := ⟨_, rfl⟩
 rw [hln] at hve
 subst hve
 have H3 := Lib.hid (And.intro hm3 (And.intro hx3 hln))
 clear hm3 hx3 hln
 refine hK _ _ ?_; clear hK K
 iterate 6 (refine wpGrow_step (fun K hK => ?_); go_simp; refine hK _ _ ?_; clear hK K)
 refine wpGrow_step (fun K hK => ?_)
 go_simp
 refine ⟨fun w' hg => (eorder_none Ge t.e c.quota _ _ _ _ _ _ w' (HH.out w' (HV.out.1.then (HWR.out.2.then hg.old))).en).mono (fun e w'' ⟨he, hk⟩ => ⟨_, he, hk, by rw [HRR.out.2.1]⟩), fun v4 w5 hv4 _ => ?_⟩
 rw [HRR.out.2.1] at hv4
 subst hv4
 refine hK _ _ ?_; clear hK K
 refine wpGrow_step (fun K hK => ?_)
 go_simp
 refine ⟨fun w' hg => (by rw [show (Instr.makeMap 105 none).run Tryz.prog w' = .ok (.map (some w'.heap.size)) (w'.alloc (.map #[] 0)) from run_makeMap 105 w']; exact ⟨(Kept.refl _ _).alloc _, by rw [HRR.out.2.2.1]; exact ⟨_, rfl⟩⟩), fun v6 w6 hv6 _ => ?_⟩
 rw [HRR.out.2.2.1] at hv6
 obtain ⟨m, rfl⟩ := hv6
 refine hK _ _ ?_; clear hK K
 iterate 10 (refine wpGrow_step (fun K hK => ?_); go_simp; refine hK _ _ ?_; clear hK K)
 refine wpGrow_step (fun K hK => ?_)
 go_simp
 refine ⟨fun w' hg => ⟨(Kept.refl _ _).alloc _, by rw [HRR.out.2.2.2]; exact ⟨_, rfl, blk_new _ _, hg.old.size⟩⟩, fun v7 w7 hv7 _ => ?_⟩
 rw [HRR.out.2.2.2] at hv7
 obtain ⟨b7, rfl, hb7, hz7⟩ := hv7
 have H7 := Lib.hid (And.intro hb7 hz7)
 clear hb7 hz7
 refine hK _ _ ?_; clear hK K
 refine wpGrow_nil ?_
 intro w8 hk8 hω
 have k78 : Kept (fun _ => False) w7 w8 := hω 30
 have k48 : Kept (fun _ => False) w4 w8 := hω 11
 have hm8 := H3.out.1.up k48
 have b8 := k78.blk H7.out.1 id
 have kV8 := HWR.out.2.then hk8
 have hzV : b7 ≠ w.heap.size := by have := H7.out.2; have := HWR.out.2.size; have := lt_of_blk HV.out.2; omega
 obtain ⟨X, hX, TH, bX, kX⟩ := blk_whole (A := [.int .i64 0, .int .i64 0, .int .i64 0, .int .i64 0, .slice none 0 0, .slice none 0 0, .map none, .int .i64 0, .bool false, .int .i64 0, .int .i64 0]) (vs := [.int .i64 P.rows, .int .i64 P.cols, .int .i64 c.cw, .int .i64 c.ch, .slice la ln lc, .slice none 0 0, .map (some m), .int .i64 P.top, .bool false, .int .i64 P.c.row, .int .i64 P.c.col]) b8 rfl rfl
 have kwX : Kept (fun _ => False) w X := (HV.out.1.then kV8).trans (kX.mono fun i _ h => .inr (by rw [show i = b7 from h]; have := H7.out.2; have := HWR.out.2.size; have := HV.out.1.size; omega))
 have hmX : RowM w P.L (.slice la ln lc) vs3 X := by
  have kx3 : Kept (fun _ => False) w x3 := HV.out.1.then (HWR.out.2.then H3.out.2.1)
  have hz := kx3.size
  refine ⟨hm8.own.kept kX (fun b hb e => ?_), hm8.len, fun b hb => Nat.le_trans hz (hm8.new b hb), fun j u l hu hl => ⟨(hm8.all j u l hu hl).1.kept kX (fun b hb e => ?_), fun b hb => Nat.le_trans hz ((hm8.all j u l hu hl).2 b hb)⟩, kwX⟩
  ·obtain ⟨cc, hcc⟩ := ownV_blk hm8.own hb
   rw [show b = b7 from e] at hcc
   exact blk_ty2 hcc b8 (by decide)
  ·obtain ⟨cc, hcc⟩ := ownC_blk (hm8.all j u l hu hl).1 hb
   rw [show b = b7 from e] at hcc
   exact blk_ty2 hcc b8 (by decide)
 have bVX : X.heap[w.heap.size]? = some (.cells #[.int .i64 0, .int .i64 0, .int .i64 0, .int .i64 0, .slice none 0 0, .slice none 0 0, .map none, .int .i64 0, .bool false, .int .i64 0, .int .i64 0] 107 (0, 0)) := kX.blk (kV8.blk HV.out.2 id) (fun e => hzV (show w.heap.size = b7 from e).symm)
 have HX := Lib.hid (And.intro TH (And.intro hX (And.intro bX (And.intro kwX (And.intro hmX bVX)))))
 have x8 := blk_cell bX 8
 have f8 := blk_free bX 8
 obtain ⟨X2, hX2⟩ : ∃ Y, X.setCell ⟨b7, 8, none⟩ (.bool true) = Y := ⟨_, rfl⟩
 have k2 : Kept (fun i => i = b7) X X2 := by rw [<- hX2]; exact (Kept.refl (fun i => i = b7) X).setCell (p := ⟨b7, 8, none⟩) (.inl rfl) _
 have b2 : X2.heap[b7]? = some (.cells #[.int .i64 P.rows, .int .i64 P.cols, .int .i64 c.cw, .int .i64 c.ch, .slice la ln lc, .slice none 0 0, .map (some m), .int .i64 P.top, .bool true, .int .i64 P.c.row, .int .i64 P.c.col] 107 (0, 0)) := by rw [<- hX2]; exact blk_set bX 8 _
 have kw2 : Kept (fun _ => False) w X2 := kwX.trans (k2.mono fun i _ h => .inr (by rw [show i = b7 from h]; have := H7.out.2; have := HWR.out.2.size; have := HV.out.1.size; omega))
 have bV2 := k2.blk bVX (fun e => hzV (show w.heap.size = b7 from e).symm)
 have hm2 : RowM w P.L (.slice la ln lc) vs3 X2 := by
  refine ⟨hmX.own.kept k2 (fun b hb e => ?_), hmX.len, hmX.new, fun j u l hu hl => ⟨(hmX.all j u l hu hl).1.kept k2 (fun b hb e => ?_), (hmX.all j u l hu hl).2⟩, kw2⟩
  ·obtain ⟨cc, hcc⟩ := ownV_blk hmX.own hb
   rw [show b = b7 from e] at hcc
   exact blk_ty2 hcc bX (by decide)
  ·obtain ⟨cc, hcc⟩ := ownC_blk (hmX.all j u l hu hl).1 hb
   rw [show b = b7 from e] at hcc
   exact blk_ty2 hcc bX (by decide)
 have HY := Lib.hid (And.intro b2 (And.intro kw2 (And.intro bV2 hm2)))
 have HMO := Lib.hid (tmode_any G Gs Ge q c t P R X (HH.out X kwX) hes)
 have HIM := Lib.hid (timages_any G Gs Ge q c t P R X2 (HH.out X2 kw2))
 clear hk8 hω k78 k48 hm8 b8 kV8 hzV TH hX bX kX kwX hmX bVX k2 b2 kw2 bV2 hm2 R7 B0 B1 B2 B3 B4 B5 B6 B7
 go_wp2_with (refine wpList_store_mid rfl 107 _ _ rfl b7 0 #[.int .i64 P.rows, .int .i64 P.cols, .int .i64 c.cw, .int .i64 c.ch, .slice la ln lc, .slice none 0 0, .map (some m), .int .i64 P.top, .bool false, .int .i64 P.c.row, .int .i64 P.c.col] rfl rfl HX.out.1 (by kernel_rfl) (by kernel_rfl) ?_; rw [HX.out.2.1])
 refine HMO.out.mono ?_
 rintro e w9 ⟨rfl, rfl⟩
 go_wp2_with fail
 refine HIM.out.mono ?_
 rintro e w10 ⟨q2, mb2, rfl, hso, hk10⟩
 have HID := Lib.hid (ids_nil q2 c.quota mb2 w10 hso)
 have H10 := Lib.hid hk10
 clear hso hk10
 go_wp2_with fail
 refine HID.out.mono ?_
 rintro e w11 ⟨rfl, hk11⟩
 obtain ⟨hy1, hy2, hy3, hy4⟩ := HY.out
 have k11 := H10.out.then hk11
 have b11 := k11.blk hy1 id
 have bV11 := k11.blk hy3 id
 have d0 := blk_cell b11 0
 have d1 := blk_cell b11 1
 have d2 := blk_cell b11 2
 have d3 := blk_cell b11 3
 have d4 := blk_cell b11 4
 have d5 := blk_cell b11 5
 have d6 := blk_cell b11 6
 have d7 := blk_cell b11 7
 have d8 := blk_cell b11 8
 have d9 := blk_cell b11 9
 have d10 := blk_cell b11 10
 obtain ⟨Y, hYY, TH, bY, kY⟩ := blk_whole (A := [.int .i64 0, .int .i64 0, .int .i64 0, .int .i64 0, .slice none 0 0, .slice none 0 0, .map none, .int .i64 0, .bool false, .int .i64 0, .int .i64 0]) (vs := [.int .i64 P.rows, .int .i64 P.cols, .int .i64 c.cw, .int .i64 c.ch, .slice la ln lc, .slice none 0 0, .map (some m), .int .i64 P.top, .bool true, .int .i64 P.c.row, .int .i64 P.c.col]) bV11 rfl rfl
 have hm11 := hy4.up k11
 have hmY : RowM w P.L (.slice la ln lc) vs3 Y := by
  refine ⟨hm11.own.kept kY (fun b hb e => ?_), hm11.len, hm11.new, fun j u l hu hl => ⟨(hm11.all j u l hu hl).1.kept kY (fun b hb e => ?_), (hm11.all j u l hu hl).2⟩, hm11.k.trans (kY.mono fun i _ h => .inr (by rw [show i = w.heap.size from h]; exact Nat.le_refl _))⟩
  ·obtain ⟨cc, hcc⟩ := ownV_blk hm11.own hb
   rw [show b = w.heap.size from e] at hcc
   exact blk_ty2 hcc bV11 (by decide)
  ·obtain ⟨cc, hcc⟩ := ownC_blk (hm11.all j u l hu hl).1 hb
   rw [show b = w.heap.size from e] at hcc
   exact blk_ty2 hcc bV11 (by decide)
 have HZ := Lib.hid (And.intro TH (And.intro hYY (And.intro bY hmY)))
 clear hk11 hy1 hy2 hy3 hy4 k11 b11 bV11 TH hYY bY kY hm11 hmY
 go_wp2
 refine wp_loop_rounds 1 ?_
 rw [rounds_succ]
 go_wp2_with (refine wpList_store_mid rfl 107 _ _ rfl w.heap.size 0 #[.int .i64 P.rows, .int .i64 P.cols, .int .i64 c.cw, .int .i64 c.ch, .slice la ln lc, .slice none 0 0, .map (some m), .int .i64 P.top, .bool true, .int .i64 P.c.row, .int .i64 P.c.col] rfl rfl HZ.out.1 (by kernel_rfl) (by kernel_rfl) ?_; rw [HZ.out.2.1])
 have y := cell11 HZ.out.2.2.1
 have y0 := y 0
 have y1 := y 1
 have y2 := y 2
 have y3 := y 3
 have y4 := y 4
 have y5 := y 5
 have y6 := y 6
 have y7 := y 7
 have y8 := y 8
 have y9 := y 9
 have y10 := y 10
 simp only [List.getElem?_toArray, List.getElem?_cons_zero, List.getElem?_cons_succ] at y0 y1 y2 y3 y4 y5 y6 y7 y8 y9 y10
 exact bodyPost_ret (v := .agg #[.int .i64 P.rows, .int .i64 P.cols, .int .i64 c.cw, .int .i64 c.ch, .slice la ln lc, .slice none 0 0, .map (some m), .int .i64 P.top, .bool true, .int .i64 P.c.row, .int .i64 P.c.col]) (by simp [results, Tryz.results49, go_sem, y0, y1, y2, y3, y4, y5, y6, y7, y8, y9, y10]) rfl ⟨_, vs3, m, rfl, HZ.out.2.2.2⟩
end Go.Proofs.YtmplpcmcbliadaaGreatDoor
namespace Go.Proofs.YtmplpcmcbliadaaGreatDoor
open Go.RowKit Go.Sort Pl
theorem RowM.lines {w w' : World} {LS : List (List Cl)} {la : Option Addr} {ln lc : Nat} {vs : List Value} (h : RowM w LS (.slice la ln lc) vs w') (hn : LS.length = ln) (h0 : 0 < ln) (hlen : ∀ l ∈ LS, 0 < l.length) : LinesAt w'.heap.size w' la ln LS := by
 obtain ⟨a, cap, hv, -, -, -, hg, -⟩ := h.own.shape
 have hl := h.len
 obtain ⟨g, rfl⟩ := hg (by omega)
 cases hv
 have hat := h.own.at
 refine ⟨hn, .inr ⟨g, 0, rfl, hat.2.2.1, fun j l hj => ?_⟩⟩
 have hjl : j < vs.length := by rw [hl]; exact (List.getElem?_eq_some_iff.1 hj).1
 have hc := hat.2.2.2.1 j (by omega)
 obtain ⟨u, hu⟩ : ∃ u, vs[j]? = some u := ⟨_, List.getElem?_eq_getElem hjl⟩
 rw [hu] at hc
 have hl0 := hlen l (List.mem_of_getElem? hj)
 obtain ⟨lg, lcap, rfl, hs, hlt, -⟩ := (h.all j u l hu hj).1.sl hl0
 refine ⟨_, _, _, by rw [Nat.zero_add]; exact hc, hs.1, .inr ⟨lg, 0, rfl, hlt, fun i c hi f hf => ?_⟩⟩
 obtain ⟨b, off, he, h9⟩ := hs.2.resolve_left (by omega)
 cases he
 exact h9 i c hi f hf
theorem cellS_r {ls : List (List Cl)} (h : ∀ l ∈ ls, ∀ x ∈ l, -2147483648 <= x.r /\ x.r <= 2147483647) (row col : Nat) : -2147483648 <= (cellS ls row col).r /\ (cellS ls row col).r <= 2147483647 := by
 unfold cellS
 cases h1 : ls[row]? with
 | none => simp [cl0]
 | some l =>
  show -2147483648 <= ((l[col]?).getD cl0).r /\ ((l[col]?).getD cl0).r <= 2147483647
  cases h2 : l[col]? with
  | none => simp [cl0]
  | some x => exact h l (List.mem_of_getElem? h1) x (List.mem_of_getElem? h2)
set_option maxRecDepth 100000 in
set_option maxHeartbeats 4000000 in
theorem tcomp_any (G Gs Ge : Nat -> Prop) (q : Nat) (c : Cf) (t : Tc) (P : SP) (R : List Int) (w : World) (h : TmK G w q c t P R Gs Ge) (hes : P.es = prv0) (hok : SPok P) (hcw : 1 <= c.cw /\ c.cw <= 64) (hch : 1 <= c.ch /\ c.ch <= 64) (hW : P.cols * c.cw <= 1024) (hH : P.rows * c.ch <= 1024)
  (hL : ∀ l ∈ P.L, l.length = P.cols) (hr : ∀ l ∈ P.L, ∀ x ∈ l, -2147483648 <= x.r /\ x.r <= 2147483647) :
  Calls Tryz.prog 24 #[.pointer (some ⟨q, 0, none⟩)] w fun e w' => ∃ a n, e = .returned (.tuple #[.agg #[.int .i64 (P.cols * c.cw : Nat), .int .i64 (P.rows * c.ch : Nat), .slice a n n], .int .i64 0]) /\ Kept (fun _ => False) w w' := by
 obtain ⟨W, hWe⟩ : ∃ W, P.cols * c.cw = W := ⟨_, rfl⟩
 obtain ⟨H, hHe⟩ : ∃ H, P.rows * c.ch = H := ⟨_, rfl⟩
 rw [hWe] at hW ⊢
 rw [hHe] at hH ⊢
 obtain ⟨V, hV⟩ : ∃ V, w.alloc (.cells #[.int .i64 0, .int .i64 0, .slice none 0 0] 38) = V := ⟨_, rfl⟩
 have kV : Kept (fun _ => False) w V := by rw [<- hV]; exact (Kept.refl _ _).alloc _
 have bV : V.heap[w.heap.size]? = some (.cells #[.int .i64 0, .int .i64 0, .slice none 0 0] 38 (0, 0)) := by rw [<- hV]; exact blk_new _ _
 obtain ⟨-, -, -, -, -, -, -, x7, -⟩ := (h.kept kV (fun _ _ => id)).tb.cells
 have HSC := Lib.hid (fun (f : Value) => tscene_any G Gs Ge q c t P R f V (h.kept kV (fun _ _ => id)) hes)
 have HV := Lib.hid (And.intro kV bV)
 have HP := Lib.hid (And.intro hok (And.intro hcw (And.intro hch (And.intro hW (And.intro hH (And.intro hL (And.intro hr (And.intro hWe hHe))))))))
 clear h kV bV hok hcw hch hW hH hL hr hWe hHe
 go_enter Tryz.func24, Tryz.ntmps24
 go_wp2_with fail
 refine (HSC.out _).mono ?_
 rintro e w1 ⟨v, vs, m, rfl, hm⟩
 obtain ⟨hok, hcw, hch, hW, hH, hL, hr, hWe, hHe⟩ := HP.out
 obtain ⟨la, lc, hve, -⟩ := hm.own.shape
 obtain ⟨ln, hln⟩ : ∃ n, vs.length = n := ⟨_, rfl⟩
 rw [hln] at hve
 subst hve
 have hlL : P.L.length = ln := by rw [<- hm.len, hln]
 have hrow := hok.hr
 have hcol := hok.hc
 have hnl := hok.nl
 have hWH : W * H <= 1024 * 1024 := Nat.mul_le_mul hW hH
 obtain ⟨n, hn⟩ : ∃ n, 4 * (W * H) = n := ⟨_, rfl⟩
 have hls := hm.lines hlL (by omega) (fun l hl => by have := hL l hl; omega)
 have HD := Lib.hid (draw_yes ⟨P.rows, P.cols, c.cw, c.ch, la, ln, lc, none, 0, 0, some m, P.top, true, P.c.row, P.c.col⟩ P.L (fun _ Q => Q) w1 W H n ⟨hrow.2, hcol.2, hcw, hch, by omega, by omega, hn.symm, by omega⟩ hrow.1 hcol.1 hWe.symm hHe.symm (cellS_r hr) (by simp; omega) (imgs0 _ _ _ _ _ _ rfl) (fun _ Q h => h) hls)
 have H1 := Lib.hid hm.k
 clear hm hls hlL hln hWH hrow hcol hnl hok hcw hch hW hH hL hr hWe hHe hn
 unfold Sc.val at HD
 simp only at HD
 go_wp2_with fail
 refine HD.out.mono ?_
 rintro e w2 ⟨g, rfl, -, ho, hk2⟩
 have b2 := hk2.blk (H1.out.blk HV.out.2 id) id
 unfold mat
 obtain ⟨U1, U2, U3, f1, f2, f3, ⟨q0, q0'⟩, ⟨q1, q1'⟩, ⟨q2, q2'⟩, bU, kU⟩ := store3 b2 (.int .i64 W) (.int .i64 H) (.slice (some ⟨g, 0, none⟩) n n)
 obtain ⟨⟨m0, -⟩, ⟨m1, -⟩, m2, -⟩ := blk3 bU
 have HE := Lib.hid ((HV.out.1.then (H1.out.then hk2)).trans (kU.mono fun i _ hi => Or.inr (by rw [show i = w.heap.size from hi]; exact Nat.le_refl _)))
 clear bU kU b2 ho hk2
 go_wp2
 exact bodyPost_ret (v := .tuple #[.agg #[.int .i64 W, .int .i64 H, .slice (some ⟨g, 0, none⟩) n n], .int .i64 0]) (by simp [results, Tryz.results24, go_sem, m0, m1, m2]) rfl ⟨_, n, rfl, HE.out⟩
set_option maxRecDepth 100000 in
theorem place_any (n : Int) (m : Nat) (hm : 1 <= m /\ m <= 1000000) (hn : Pl.In n) (w : World) : Calls Tryz.prog 14 #[.int .i64 n, .int .i64 m] w fun e w' => (∃ r : Nat, r < m /\ e = .returned (.int .i64 r)) /\ w = w' := by
 obtain ⟨hn1, hn2⟩ := hn
 have h0 : ((m : Int) == 0) = false := by simp; omega
 have h1 : ¬ (m : Int) = 0 := by omega
 have hb : n.tmod m < m /\ -(m : Int) < n.tmod m := by
  by_cases h : n < 0
  ·have h1 : n.tmod m = -((-n).tmod m) := by rw [Int.neg_tmod, Int.neg_neg]
   rw [Int.tmod_eq_emod_of_nonneg (show 0 <= -n by omega)] at h1
   have h2 := Int.emod_nonneg (-n) (show (m : Int) ≠ 0 by omega)
   have h3 := Int.emod_lt_of_pos (-n) (show (0 : Int) < m by omega)
   omega
  ·rw [Int.tmod_eq_emod_of_nonneg (by omega)]
   have h2 := Int.emod_nonneg n (show (m : Int) ≠ 0 by omega)
   have h3 := Int.emod_lt_of_pos n (show (0 : Int) < m by omega)
   omega
 obtain ⟨t, ht⟩ : ∃ t, n.tmod m = t := ⟨_, rfl⟩
 rw [ht] at hb
 have w1 : IntKind.i64.wrap t = t := IntWalk.i64_in _ (by omega)
 by_cases h2 : t < 0
 ·have w2 : IntKind.i64.wrap (t + (m : Int)) = t + (m : Int) := IntWalk.i64_in _ (by omega)
  have g : decide (t < 0) = true := decide_eq_true h2
  have HB := Lib.hid hb
  clear hb
  go_enter Tryz.func14, Tryz.ntmps14
  go_wp2
  go_ret
  exact ⟨⟨(t + (m : Int)).toNat, by have := HB.out; omega, by rw [show (((t + (m : Int)).toNat : Nat) : Int) = t + (m : Int) by have := HB.out; omega]; rfl⟩, rfl⟩
 ·have g : decide (t < 0) = false := decide_eq_false h2
  have HB := Lib.hid hb
  clear hb
  go_enter Tryz.func14, Tryz.ntmps14
  go_wp2
  go_ret
  exact ⟨⟨t.toNat, by have := HB.out; omega, by rw [show ((t.toNat : Nat) : Int) = t by omega]; rfl⟩, rfl⟩
def NewT (w w' : World) (c : Cf) (q : Nat) : Prop := ∃ s en p G Gs Ge GP, TmK G w' q c ⟨s, en, p, .pointer none, .slice none 0 0, false, .slice none 0 0, 0, 0⟩ (sp0 c.rows c.cols c.back) [] Gs Ge /\ PQ GP w' p ps0 /\ (∀ i, GP i -> ¬ G i) /\ (∀ i, G i \/ GP i -> w.heap.size <= i) /\ Kept (fun _ => False) w w'
set_option maxRecDepth 100000 in
theorem begun_any (rows cols quota : Nat) (hr : 1 <= rows /\ rows <= 1000) (hc : 1 <= cols /\ cols <= 16) (hq : quota <= 1073741824) (w : World) :
  Calls Tryz.prog 15 #[.int .i64 rows, .int .i64 cols, .int .i64 quota] w fun e w' => ∃ q, e = .returned (.pointer (some ⟨q, 0, none⟩)) /\ NewT w w' ⟨rows, cols, 2, 2, 4, quota⟩ q := by
 have HT := Lib.hid (tmnew_any ⟨rows, cols, 2, 2, 4, quota⟩ hr hc ⟨by show 1 <= 2; omega, by show 2 <= 64; omega⟩ ⟨by show 1 <= 2; omega, by show 2 <= 64; omega⟩ (by show 4 <= 16384; omega) hq w)
 unfold Cf.val at HT
 simp only at HT
 clear hr hc hq
 go_enter Tryz.func15, Tryz.ntmps15
 go_wp2_with fail
 refine HT.out.mono ?_
 rintro e w1 ⟨q, s, en, p, G, Gs, Ge, GP, rfl, h⟩
 have H := Lib.hid h
 clear h
 go_wp2
 go_ret
 exact ⟨q, rfl, s, en, p, G, Gs, Ge, GP, H.out⟩
theorem tx_0 (rows cols most : Nat) (hr : 1 <= rows /\ rows <= 1000) (hc : 1 <= cols /\ cols <= 1000) : Tx (sp0 rows cols most) 0 := by
 refine ⟨⟨⟨Int.le_refl _, by show (0 : Int) < rows; omega⟩, ⟨Int.le_refl _, by show (0 : Int) < cols; omega⟩, by simp [sp0], by show 0 <= 90000; omega, hr, hc⟩, rfl, rfl, rfl, ⟨0, by rfl⟩, fun l hl => ?_, rfl, Nat.le_refl _⟩
 have h := List.eq_of_mem_replicate hl
 rw [h]
 exact ⟨fun y hy => by rw [List.eq_of_mem_replicate hy], by simp [sp0]⟩
def LiveT (w0 w1 : World) (q s en p : Nat) (c : Cf) (most : Nat) (S : SP × List Int) (n : Nat) (t : PS) : Prop := ∃ G GP, (∀ N, TNow q s en p c most N G w1 S n) /\ PQ GP w1 p t /\ (∀ i, G i -> ¬ GP i) /\ (∀ i, GP i \/ G i -> w0.heap.size <= i) /\ Kept (fun _ => False) w0 w1
theorem live_new {w w1 : World} {c : Cf} {q : Nat} (h : NewT w w1 c q) (hr : 1 <= c.rows /\ c.rows <= 1000) (hc : 1 <= c.cols /\ c.cols <= 1000) : ∃ s en p, LiveT w w1 q s en p c c.back (sp0 c.rows c.cols c.back, []) 0 ps0 := by
 obtain ⟨s, en, p, G, Gs, Ge, GP, h1, h2, h3, h4, h5⟩ := h
 exact ⟨s, en, p, G, GP, fun N => ⟨⟨_, Gs, Ge, h1⟩, tx_0 _ _ _ hr hc, rfl, Nat.le_refl _⟩, h2, fun i hi hg => h3 i hg hi, fun i hi => h4 i hi.symm, h5⟩
theorem LiveT.up {w0 w1 w2 : World} {q s en p : Nat} {c : Cf} {most : Nat} {S : SP × List Int} {n : Nat} {t : PS} (h : LiveT w0 w1 q s en p c most S n t) (hk : Kept (fun _ => False) w1 w2) : LiveT w0 w2 q s en p c most S n t := by
 obtain ⟨G, GP, h1, h2, h3, h4, h5⟩ := h
 exact ⟨G, GP, fun N => (h1 N).kept hk (fun _ _ => id), h2.kept hk (fun _ _ => id), h3, h4, h5.then hk⟩
theorem LiveT.tm {w0 w1 : World} {q s en p : Nat} {c : Cf} {most : Nat} {S : SP × List Int} {n : Nat} {t : PS} (h : LiveT w0 w1 q s en p c most S n t) : ∃ G rv Gs Ge, TmK G w1 q c ⟨s, en, p, .pointer none, .slice none 0 0, false, rv, 0, 0⟩ S.1 S.2 Gs Ge /\ Tx S.1 n := by
 obtain ⟨G, GP, h1, -⟩ := h
 obtain ⟨⟨rv, Gs, Ge, h2⟩, h3, -⟩ := h1 0
 exact ⟨G, rv, Gs, Ge, h2, h3⟩
theorem live_feed {w0 w1 W : World} {q s en p : Nat} {c : Cf} {most : Nat} {S : SP × List Int} {n : Nat} {t : PS} (h : LiveT w0 w1 q s en p c most S n t) (hkW : Kept (fun _ => False) w1 W) (a : Option Addr) (len cap : Nat) (xs : List Int) (hs : SlAt .u8 W a len xs) (hby : ∀ x ∈ xs, 0 <= x /\ x < 256) (hnil : a = none -> len = 0 /\ cap = 0) (hlc : len <= cap) (hl : len <= 20000)
  (hloc : ∀ b off, 0 < len -> a = some ⟨b, off, none⟩ -> w1.heap.size <= b \/ b < w0.heap.size) (hok : ∀ e ∈ (feedF len t xs).2, okE e) (hn : n + (feedF len t xs).2.length <= most /\ n + (feedF len t xs).2.length <= 60000) :
  Calls Tryz.prog 17 #[.pointer (some ⟨q, 0, none⟩), .slice a len cap] W fun r w' => (∃ x, r = .returned x) /\ LiveT w0 w' q s en p c most ((feedF len t xs).2.foldl evT S) (n + (feedF len t xs).2.length) (feedF len t xs).1 /\ Kept (fun i => w0.heap.size <= i /\ i < w1.heap.size) W w' := by
 obtain ⟨G, GP, h1, h2, h3, h4, h5⟩ := h
 have hT1 := h1 (n + (feedF len t xs).2.length)
 have hlt : ∀ i, G i \/ GP i -> i < w1.heap.size := fun i hi => by
  rcases hi with hi | hi
  ·obtain ⟨rv, Gs, Ge, h9⟩ := hT1.tm
   exact h9.lt i hi
  ·exact h2.lt i hi
 refine (feed_any GP G W p (lisN q s en p c most (n + (feedF len t xs).2.length) hn S n) t a len cap xs ?_ (h2.kept hkW (fun _ _ => id)) (hT1.kept hkW (fun _ _ => id)) h3 hs hby hnil hlc hl (fun b off h0 ha => ?_) ⟨fun e he => hok e (by simpa using he), by simp⟩).mono ?_
 ·obtain ⟨rv, Gs, Ge, h9⟩ := (hT1.kept hkW (fun _ _ => id)).tm
  exact blk_cell h9.tb 8
 ·refine ⟨fun hg => ?_, fun hg => ?_⟩
  ·have e1 := hlt b (.inr hg)
   have e2 := h4 b (.inl hg)
   rcases hloc b off h0 ha with h | h <;> omega
  ·have e1 := hlt b (.inl hg)
   have e2 := h4 b (.inr hg)
   rcases hloc b off h0 ha with h | h <;> omega
 ·rintro r w' ⟨hr, GT', G', hT', hP', hd', hn', hk'⟩
  refine ⟨hr, ⟨GT', G', fun N => ?_, hP', hd', fun i hi => ?_, ?_⟩, hk'.mono fun i _ hi => ⟨h4 i hi, hlt i hi.symm⟩⟩
  ·obtain ⟨a1, a2, a3, a4⟩ := hT'
   exact ⟨a1, a2, a3, a4⟩
  ·rcases hn' i hi with h9 | h9
   ·exact h4 i h9
   ·exact Nat.le_trans (Nat.le_trans h5.size hkW.size) h9
  ·exact (h5.then hkW).trans (hk'.mono fun i _ hi => .inr (h4 i hi))
theorem feed_known : feedF 5 ps0 [120, 27, 91, 53, 110] = ((feedF 5 ps0 [120, 27, 91, 53, 110]).1, [evX 1 120 0, ev5n]) := by kernel_rfl
def spK : SP := (sp0 2 3 4).typed 120
set_option maxRecDepth 100000 in
set_option maxHeartbeats 4000000 in
theorem known_any (w : World) : Calls Tryz.prog 13 #[] w fun e w' => e = .returned (.bool true) /\ Kept (fun _ => False) w w' := by
 have HB := Lib.hid (begun_any 2 3 4096 (by omega) (by omega) (by omega) w)
 have kc := fun (w : World) (C : Array Value) (n c : Nat) => Lib.run_convert_bytes_const (P := Tryz.prog) w 22 5 C n c Tryz.underlying22 Tryz.underlying5
 go_enter Tryz.func13, Tryz.ntmps13
 go_wp2_with fail
 refine HB.out.mono ?_
 rintro e w1 ⟨q, rfl, hnew⟩
 obtain ⟨s, en, p, hlv⟩ := live_new hnew (by show 1 <= 2 /\ 2 <= 1000; omega) (by show 1 <= 3 /\ 3 <= 1000; omega)
 obtain ⟨W2, hW2⟩ : ∃ W2, w1.alloc (.cells #[.int .u8 120, .int .u8 27, .int .u8 91, .int .u8 53, .int .u8 110] 5 (5, 6)) = W2 := ⟨_, rfl⟩
 have k2 : Kept (fun _ => False) w1 W2 := by rw [<- hW2]; exact (Kept.refl _ _).alloc _
 have b2 : W2.heap[w1.heap.size]? = some (.cells #[.int .u8 120, .int .u8 27, .int .u8 91, .int .u8 53, .int .u8 110] 5 (5, 6)) := by rw [<- hW2]; exact blk_new _ _
 have e2 : (feedF 5 ps0 [120, 27, 91, 53, 110]).2 = [evX 1 120 0, ev5n] := by rw [feed_known]
 have HF := Lib.hid (live_feed hlv k2 (some ⟨w1.heap.size, 0, none⟩) 5 5 [120, 27, 91, 53, 110] (slAt_blk (k := .u8) (xs := [120, 27, 91, 53, 110]) b2 rfl rfl) (by decide) (fun h => by cases h) (by omega) (by omega) (fun b off _ h => by cases h; exact .inl (Nat.le_refl _)) (by
  rw [e2]
  intro e he
  rcases List.mem_cons.1 he with rfl | he
  ·exact .inl ⟨rfl, by decide, by decide⟩
  ·rcases List.mem_cons.1 he with rfl | he
   ·exact .inr rfl
   ·cases he) (by rw [e2]; show 0 + 2 <= 4 /\ 0 + 2 <= 60000; omega))
 rw [e2] at HF
 clear hlv hnew k2 b2 e2
 go_wp2_with fail
 refine HF.out.mono ?_
 rintro e w3 ⟨⟨x3, rfl⟩, hl3, -⟩
 have hl3 : LiveT w w3 q s en p ⟨2, 3, 2, 2, 4, 4096⟩ 4 (spK, [27, 91, 48, 110]) 2 (feedF 5 ps0 [120, 27, 91, 53, 110]).1 := hl3
 obtain ⟨G, rv, Gs, Ge, hT, htx⟩ := hl3.tm
 have HC := Lib.hid (show Calls Tryz.prog 24 #[.pointer (some ⟨q, 0, none⟩)] w3 fun e w' => ∃ a n, e = .returned (.tuple #[.agg #[.int .i64 6, .int .i64 4, .slice a n n], .int .i64 0]) /\ Kept (fun _ => False) w3 w' from
  tcomp_any G Gs Ge q _ _ spK _ w3 hT rfl htx.ok (by show 1 <= 2 /\ 2 <= 64; omega) (by show 1 <= 2 /\ 2 <= 64; omega) (by show 3 * 2 <= 1024; omega) (by show 2 * 2 <= 1024; omega) (fun l hl => (htx.nar l hl).2) (by
   have e : ∀ l ∈ spK.L, ∀ x ∈ l, x.r = 120 \/ x.r = 0 := by decide
   intro l hl x hx
   rcases e l hl x hx with e | e <;> omega))
 have H3 := Lib.hid hl3
 clear hl3 hT htx
 go_wp2_with fail
 refine HC.out.mono ?_
 rintro e w4 ⟨a4, n4, rfl, hk4⟩
 obtain ⟨V, hV⟩ : ∃ V, w4.alloc (.cells #[.int .i64 0, .int .i64 0, .slice none 0 0] 38) = V := ⟨_, rfl⟩
 have bV : V.heap[w4.heap.size]? = some (.cells #[.int .i64 0, .int .i64 0, .slice none 0 0] 38 (0, 0)) := by rw [<- hV]; exact blk_new _ _
 have kV : Kept (fun _ => False) w4 V := by rw [<- hV]; exact (Kept.refl _ _).alloc _
 obtain ⟨U1, U2, U3, f1, f2, f3, ⟨q0, q0'⟩, ⟨q1, q1'⟩, ⟨q2, q2'⟩, bU, kU⟩ := store3 bV (.int .i64 6) (.int .i64 4) (.slice a4 n4 n4)
 have kW : Kept (fun _ => False) w4 U3 := kV.trans (kU.mono fun i _ hi => .inr (by rw [show i = w4.heap.size from hi]; exact Nat.le_refl _))
 have HU := Lib.hid (And.intro (H3.out.up (hk4.then kW)) bU)
 obtain ⟨G, rv, Gs, Ge, hT, htx⟩ := HU.out.1.tm
 have HL := Lib.hid (tlin_any G Gs Ge q _ _ spK _ U3 hT)
 clear hT htx bU kU bV kV hk4 kW
 go_wp2_with fail
 refine HL.out.mono ?_
 rintro e w5 ⟨v5, vs, rfl, hm⟩
 have hvl : vs.length = 2 := hm.len
 obtain ⟨la, lc, hve, -, -, -, hg, -⟩ := hm.own.shape
 rw [hvl] at hve hg
 obtain ⟨g, rfl⟩ := hg (by omega)
 subst hve
 have hat := hm.own.at
 obtain ⟨u, hu⟩ : ∃ u, vs[0]? = some u := ⟨_, List.getElem?_eq_getElem (by omega)⟩
 have hc0 := hat.2.2.2.1 0 (by omega)
 rw [hu] at hc0
 have hL0 : spK.L[0]? = some [⟨120, 0, ⟨0, 0, 0⟩⟩, ⟨0, 0, ⟨0, 0, 0⟩⟩, ⟨0, 0, ⟨0, 0, 0⟩⟩] := by rfl
 have huo := (hm.all 0 u _ hu hL0).1
 obtain ⟨ug, uc, rfl, hus, hul, -⟩ := huo.sl (by simp)
 obtain ⟨⟨m0, -⟩, ⟨m1, -⟩, -⟩ := blk3 (hm.k.blk HU.out.2 id)
 have HT := Lib.hid (show Calls Tryz.prog 35 #[.slice (some ⟨ug, 0, none⟩) 3 uc] w5 fun e w' => e = .returned (.string (strOfNums [120])) /\ Kept (fun _ => False) w5 w' from ltext_any ug 0 3 uc _ w5 hus (by omega) (by omega) hul (by unfold Nar; decide) (by decide))
 have H5 := Lib.hid (HU.out.1.up hm.k)
 clear hm hat hu huo hus hul
 go_wp2_with fail
 refine HT.out.mono ?_
 rintro e w6 ⟨rfl, hk6⟩
 have H6 := Lib.hid (H5.out.up hk6)
 obtain ⟨G, rv, Gs, Ge, hT, htx⟩ := H6.out.tm
 have HR := Lib.hid (treplies_any G Gs Ge q _ _ spK [27, 91, 48, 110] w6 hT (by simp))
 have HG := Lib.hid (show ∀ i, i = q -> w.heap.size <= i from by
  intro i hi
  obtain ⟨G, GP, h1, -, -, h4, -⟩ := H6.out
  obtain ⟨⟨rv, Gs, Ge, h2⟩, -⟩ := h1 0
  exact h4 i (.inr (h2.sub i (.inr (.inr (.inl hi))))))
 clear hT htx hk6
 have es1 : ((strOfNums [120]).toList == [120]) = true := by kernel_rfl
 go_wp2_with fail
 refine HR.out.mono ?_
 rintro e w7 ⟨a7, rfl, hs7, -, -, hk7⟩
 have cv : (convert 22 9 (.slice a7 4 4)).run Tryz.prog w7 = .ok (.string (strOfNums [27, 91, 48, 110])) w7 := run_str (P := Tryz.prog) Tryz.underlying22 Tryz.underlying5 Tryz.underlying9 hs7
 have es2 : ((strOfNums [27, 91, 48, 110]).toList == [27, 91, 48, 110]) = true := by kernel_rfl
 have HK := Lib.hid (show Kept (fun _ => False) w w7 from by
  obtain ⟨G, GP, -, -, -, -, h5⟩ := H6.out
  exact h5.trans (hk7.mono fun i _ hi => .inr (HG.out i hi)))
 clear hs7 hk7
 go_wp2
 go_ret
 exact ⟨rfl, HK.out⟩
theorem enc_one (y : Int) (h : 33 <= y /\ y <= 126) : ints (enc y) = [y] := by
 have h1 : noneB y = false := by unfold noneB; simp; omega
 unfold enc chI
 rw [if_neg (by rw [h1]; simp)]
 unfold encN
 rw [if_pos (by omega)]
 simp [ints]
 omega
def cellX (xs : List Int) (n : Nat) : Cl := match xs[n]? with
 | some r => ⟨r, 0, ⟨0, 0, 0⟩⟩
 | none => ⟨0, 0, ⟨0, 0, 0⟩⟩
def lineX (cols : Nat) (xs : List Int) (i : Nat) : List Cl := (List.range cols).map fun j => cellX xs (i * cols + j)
def linesX (cols : Nat) (xs : List Int) (n : Nat) : List (List Cl) := (List.range n).map (lineX cols xs)
theorem linesX_len (cols : Nat) (xs : List Int) (n : Nat) : (linesX cols xs n).length = n := by simp [linesX]
theorem lineX_len (cols : Nat) (xs : List Int) (n : Nat) : (lineX cols xs n).length = cols := by simp [lineX]
theorem linesX_at {cols : Nat} {xs : List Int} {n i : Nat} (h : i < n) : (linesX cols xs n)[i]? = some (lineX cols xs i) := by simp [linesX, List.getElem?_range h]
theorem pos_inj {cols i j k l : Nat} (hj : j < cols) (hl : l < cols) (h : i * cols + j = k * cols + l) : i = k /\ j = l := by
 have h0 : 0 < cols := by omega
 have e1 : (i * cols + j) / cols = i := by rw [Nat.mul_comm, Nat.mul_add_div h0, Nat.div_eq_of_lt hj]; rfl
 have e2 : (k * cols + l) / cols = k := by rw [Nat.mul_comm, Nat.mul_add_div h0, Nat.div_eq_of_lt hl]; rfl
 have e3 : i = k := by rw [<- e1, h, e2]
 subst e3
 exact ⟨rfl, by omega⟩
theorem lineX_blank {cols : Nat} {xs : List Int} {i : Nat} (h : xs.length <= i * cols) : lineX cols xs i = List.replicate cols ⟨0, 0, ⟨0, 0, 0⟩⟩ := by
 refine List.ext_getElem? fun j => ?_
 by_cases hj : j < cols
 ·have e : xs[i * cols + j]? = none := List.getElem?_eq_none (by omega)
  simp [lineX, List.getElem?_range hj, hj, cellX, e]
 ·rw [List.getElem?_eq_none (by simp [lineX]; omega), List.getElem?_eq_none (by simp; omega)]
theorem linesX_next {cols : Nat} {xs : List Int} {n : Nat} (h : xs.length <= n * cols) : linesX cols xs n ++ [List.replicate cols ⟨0, 0, ⟨0, 0, 0⟩⟩] = linesX cols xs (n + 1) := by
 unfold linesX
 rw [List.range_succ, List.map_append, List.map_cons, List.map_nil, lineX_blank h]
theorem lineX_set {cols : Nat} {xs : List Int} {k col : Nat} (r : Int) (h : k * cols + col = xs.length) (hc : col < cols) : (lineX cols xs k).set col ⟨r, 0, ⟨0, 0, 0⟩⟩ = lineX cols (xs ++ [r]) k := by
 refine List.ext_getElem? fun j => ?_
 by_cases hj : j < cols
 ·rw [List.getElem?_set]
  by_cases e : col = j
  ·subst e
   have e2 : (xs ++ [r])[k * cols + col]? = some r := by rw [h]; simp
   simp [lineX, List.getElem?_range hj, hj, cellX, e2]
  ·rw [if_neg e]
   have e3 : (xs ++ [r])[k * cols + j]? = xs[k * cols + j]? := by
    by_cases h4 : k * cols + j < xs.length
    ·rw [List.getElem?_append_left h4]
    ·rw [List.getElem?_eq_none (by simp; omega), List.getElem?_eq_none (by omega)]
   simp [lineX, List.getElem?_range hj, cellX, e3]
 ·rw [List.getElem?_eq_none (by simp [lineX]; omega), List.getElem?_eq_none (by simp [lineX]; omega)]
theorem lineX_other {cols : Nat} {xs : List Int} {i k col : Nat} (r : Int) (h : k * cols + col = xs.length) (hc : col < cols) (hi : i ≠ k) : lineX cols (xs ++ [r]) i = lineX cols xs i := by
 unfold lineX
 refine List.map_congr_left fun j hj => ?_
 have hj := List.mem_range.1 hj
 have hn : i * cols + j ≠ xs.length := fun e => hi (pos_inj hj hc (by omega)).1
 have e3 : (xs ++ [r])[i * cols + j]? = xs[i * cols + j]? := by
  by_cases h4 : i * cols + j < xs.length
  ·rw [List.getElem?_append_left h4]
  ·rw [List.getElem?_eq_none (by simp; omega), List.getElem?_eq_none (by omega)]
 unfold cellX
 rw [e3]
theorem linesX_set {cols : Nat} {xs : List Int} {n k col : Nat} (r : Int) (h : k * cols + col = xs.length) (hc : col < cols) (hk : k < n) : (linesX cols xs n).set k ((lineX cols xs k).set col ⟨r, 0, ⟨0, 0, 0⟩⟩) = linesX cols (xs ++ [r]) n := by
 rw [lineX_set r h hc]
 refine List.ext_getElem? fun i => ?_
 by_cases hi : i < n
 ·rw [linesX_at hi, List.getElem?_set]
  by_cases e : k = i
  ·subst e
   rw [if_pos rfl, if_pos (by rw [linesX_len]; exact hk)]
  ·rw [if_neg e, linesX_at hi, lineX_other r h hc (fun h => e h.symm)]
 ·rw [List.getElem?_eq_none (by rw [List.length_set, linesX_len]; omega), List.getElem?_eq_none (by rw [linesX_len]; omega)]
theorem lineX_parts (cols : Nat) (xs : List Int) (i : Nat) : lineX cols xs i = ((xs.drop (i * cols)).take cols).map (fun r => ⟨r, 0, ⟨0, 0, 0⟩⟩) ++ List.replicate (cols - ((xs.drop (i * cols)).take cols).length) ⟨0, 0, ⟨0, 0, 0⟩⟩ := by
 refine List.ext_getElem? fun j => ?_
 obtain ⟨ys, hys⟩ : ∃ ys, xs.drop (i * cols) = ys := ⟨_, rfl⟩
 have hx : xs[i * cols + j]? = ys[j]? := by rw [<- hys, List.getElem?_drop]
 rw [hys]
 by_cases hj : j < cols
 ·have e1 : (lineX cols xs i)[j]? = some (cellX xs (i * cols + j)) := by simp [lineX, List.getElem?_range hj]
  rw [e1]
  unfold cellX
  rw [hx]
  by_cases h2 : j < ys.length
  ·rw [List.getElem?_append_left (by simp; omega), List.getElem?_map, List.getElem?_take_of_lt hj, List.getElem?_eq_getElem h2]
   rfl
  ·rw [List.getElem?_append_right (by simp; omega), List.getElem?_eq_none (by omega), List.getElem?_replicate, if_pos (by simp; omega)]
 ·rw [List.getElem?_eq_none (by simp [lineX]; omega), List.getElem?_eq_none (by simp; omega)]
structure InvX (P : SP) (xs : List Int) : Prop where
 all : P.B ++ P.L = linesX P.cols xs (P.top + P.rows)
 pos : ∃ row col : Nat, P.c.row = (row : Int) /\ P.c.col = (col : Int) /\ (P.top + row) * P.cols + col + (if P.c.wrap = true then 1 else 0) = xs.length /\ (P.c.wrap = true -> col + 1 = P.cols)
theorem invX_index {P : SP} {n : Nat} {xs : List Int} (ht : Tx P n) (hn : n < P.most) (hall : P.B ++ P.L = linesX P.cols xs (P.top + P.rows)) (hw : P.c.wrap = false) (row : Nat) (hrow : P.c.row = (row : Int)) (hcol : P.c.col = 0) (hl : (P.top + row + 1) * P.cols = xs.length) : InvX P.index xs := by
 have hr := ht.ok.row
 have hnl := ht.ok.nl
 have hbt := ht.bt
 have htn := ht.tn
 have hrr := ht.ok.hr
 unfold SP.index
 split
 ·rename_i e
  have er : row + 1 = P.rows := by omega
  have ha : P.c.a.bg = 0 := by rw [ht.a0]
  refine ⟨?_, row, 0, hrow, hcol, ?_, fun h => by cases h⟩
  ·show pushP P.most P.B (P.L.getD 0 []) ++ (P.L.drop 1 ++ [List.replicate P.cols ⟨0, 0, ⟨0, P.c.a.bg, 0⟩⟩]) = linesX P.cols xs (P.top + 1 + P.rows)
   rw [ha, show P.top + 1 + P.rows = (P.top + P.rows) + 1 by omega, <- linesX_next (by rw [<- hl, <- er]; exact Nat.le_refl _), <- hall]
   unfold pushP
   rw [if_neg (by omega), if_pos (by omega)]
   cases hL : P.L with
   | nil => rw [hL] at hnl; simp at hnl; omega
   | cons l ls => simp
  ·show (P.top + 1 + row) * P.cols + 0 + _ = xs.length
   simp only [Bool.false_eq_true, if_false]
   rw [<- hl, show P.top + 1 + row = P.top + row + 1 by omega]
   omega
 ·refine ⟨hall, row + 1, 0, by show P.c.row + 1 = _; rw [hrow]; omega, hcol, ?_, fun h => by cases h⟩
  show (P.top + (row + 1)) * P.cols + 0 + _ = xs.length
  simp only [Bool.false_eq_true, if_false]
  rw [<- hl, show P.top + (row + 1) = P.top + row + 1 by omega]
  omega
theorem invX_wrapped {P : SP} {n : Nat} {xs : List Int} (ht : Tx P n) (hn : n < P.most) (h : InvX P xs) (r : Int) : InvX (P.wrapped r) xs /\ (P.wrapped r).c.wrap = false := by
 obtain ⟨hall, row, col, hrow, hcol, hp, hw⟩ := h
 unfold SP.wrapped
 split
 ·rename_i e
  rw [if_pos e] at hp
  have hcc := hw e
  have hc := ht.ok.hc
  have ht2 : Tx { P with ch := r, c := { P.c with col := 0, wrap := false } } n := ⟨⟨ht.ok.row, by have := ht.ok.hc; simp; omega, ht.ok.nl, ht.ok.top, ht.ok.hr, ht.ok.hc⟩, ht.s0, ht.sh, ht.a0, ht.es, ht.nar, ht.bt, ht.tn⟩
  refine ⟨invX_index ht2 hn hall rfl row hrow rfl ?_, by unfold SP.index; split <;> rfl⟩
  show (P.top + row + 1) * P.cols = xs.length
  rw [Nat.succ_mul]
  omega
 ·rename_i e
  exact ⟨⟨hall, row, col, hrow, hcol, hp, hw⟩, by simpa using e⟩
theorem invX_stand {P : SP} {n : Nat} {xs : List Int} (ht : Tx P n) (h : InvX P xs) (hw : P.c.wrap = false) (r : Int) : InvX (P.stand 1 (pfN r)) (xs ++ [r]) := by
 obtain ⟨hall, row, col, hrow, hcol, hp, -⟩ := h
 have hr := ht.ok.row
 have hc := ht.ok.col
 have hnl := ht.ok.nl
 have hbt := ht.bt
 rw [hw] at hp
 simp only [Bool.false_eq_true, if_false, Nat.add_zero] at hp
 have er : P.c.row.toNat = row := by omega
 have ec : P.c.col.toNat = col := by omega
 have hrr : row < P.rows := by omega
 have hcc : col < P.cols := by omega
 have hL : P.L[row]? = some (lineX P.cols xs (P.top + row)) := by
  have h9 : (P.B ++ P.L)[P.top + row]? = some (lineX P.cols xs (P.top + row)) := by rw [hall]; exact linesX_at (by omega)
  rw [List.getElem?_append_right (by omega), hbt, Nat.add_sub_cancel_left] at h9
  exact h9
 have hall2 : P.B ++ P.L.set row ((lineX P.cols xs (P.top + row)).set col ⟨r, 0, ⟨0, 0, 0⟩⟩) = linesX P.cols (xs ++ [r]) (P.top + P.rows) := by
  rw [<- linesX_set r hp hcc (by omega), <- hall, List.set_append_right _ _ (by omega), hbt, Nat.add_sub_cancel_left]
 have hg : P.L.getD row [] = lineX P.cols xs (P.top + row) := by rw [List.getD_eq_getElem?_getD, hL]; rfl
 unfold SP.stand pfN
 rw [er, ec, hg]
 refine ⟨hall2, row, if P.cols <= col + 1 then col else col + 1, ?_, ?_, ?_, fun h => ?_⟩
 ·show (if (P.cols : Int) <= P.c.col + ((1 : Nat) : Int) then ({ P.c with col := (P.cols : Int) - 1, wrap := true } : Cu) else { P.c with col := P.c.col + ((1 : Nat) : Int) }).row = (row : Int)
  split <;> exact hrow
 ·show (if (P.cols : Int) <= P.c.col + ((1 : Nat) : Int) then ({ P.c with col := (P.cols : Int) - 1, wrap := true } : Cu) else { P.c with col := P.c.col + ((1 : Nat) : Int) }).col = _
  split
  ·rw [if_pos (by omega)]; show (P.cols : Int) - 1 = _; omega
  ·rw [if_neg (by omega)]; show P.c.col + ((1 : Nat) : Int) = _; omega
 ·show (P.top + row) * P.cols + _ + (if (if (P.cols : Int) <= P.c.col + ((1 : Nat) : Int) then ({ P.c with col := (P.cols : Int) - 1, wrap := true } : Cu) else { P.c with col := P.c.col + ((1 : Nat) : Int) }).wrap = true then 1 else 0) = (xs ++ [r]).length
  rw [List.length_append, <- hp]
  by_cases e : P.cols <= col + 1
  ·rw [if_pos e, if_pos (show (P.cols : Int) <= P.c.col + ((1 : Nat) : Int) by omega)]
   simp
  ·rw [if_neg e, if_neg (show ¬ (P.cols : Int) <= P.c.col + ((1 : Nat) : Int) by omega)]
   simp only [hw, Bool.false_eq_true, if_false, List.length_cons, List.length_nil]
   omega
 ·have h : (if (P.cols : Int) <= P.c.col + ((1 : Nat) : Int) then ({ P.c with col := (P.cols : Int) - 1, wrap := true } : Cu) else { P.c with col := P.c.col + ((1 : Nat) : Int) }).wrap = true := h
  by_cases e : P.cols <= col + 1
  ·rw [if_pos e]; show col + 1 = P.cols; omega
  ·rw [if_neg (show ¬ (P.cols : Int) <= P.c.col + ((1 : Nat) : Int) by omega), hw] at h; cases h
theorem invX_0 (rows cols most : Nat) (P : SP) (h1 : P.rows = rows) (h2 : P.cols = cols) (h3 : P.top = 0) (h4 : P.L = List.replicate rows (List.replicate cols ⟨0, 0, ⟨0, 0, 0⟩⟩)) (h5 : P.B = []) (h6 : P.c.row = 0) (h7 : P.c.col = 0) (h8 : P.c.wrap = false) : InvX P [] := by
 refine ⟨?_, 0, 0, h6, h7, by rw [h8, h3]; simp, fun h => by rw [h8] at h; cases h⟩
 rw [h5, h4, h3, h1, h2, List.nil_append, Nat.zero_add]
 refine List.ext_getElem? fun i => ?_
 by_cases hi : i < rows
 ·rw [linesX_at hi, List.getElem?_replicate, if_pos hi, lineX_blank (by simp)]
 ·rw [List.getElem?_eq_none (by simp; omega), List.getElem?_eq_none (by rw [linesX_len]; omega)]
theorem trimI_rep (ys : List Int) (m : Nat) (h : ∀ y ∈ ys, y ≠ 32) : trimI (ys ++ List.replicate m 32) = ys := by
 induction m with
 | zero =>
  rw [List.replicate_zero, List.append_nil]
  rcases List.eq_nil_or_concat ys with rfl | ⟨zs, y, rfl⟩
  ·rfl
  ·rw [List.concat_eq_append]; exact trimI_other zs (h y (by simp))
 | succ m ih => rw [List.replicate_succ', <- List.append_assoc, trimI_blank, ih]
theorem lineT_map (ys : List Int) (h : ∀ y ∈ ys, 33 <= y /\ y <= 126) : lineT (ys.map fun r => ⟨r, 0, ⟨0, 0, 0⟩⟩) = ys := by
 induction ys with
 | nil => rfl
 | cons y ys ih =>
  have h1 := h y (by simp)
  have h2 := ih (fun z hz => h z (by simp [hz]))
  unfold lineT at *
  rw [List.map_cons, List.flatMap_cons, h2]
  unfold cellT
  rw [if_neg (by simp only; omega), enc_one y h1]
  rfl
theorem lineT_rep (m : Nat) : lineT (List.replicate m ⟨0, 0, ⟨0, 0, 0⟩⟩) = List.replicate m 32 := by
 induction m with
 | zero => rfl
 | succ m ih =>
  unfold lineT at *
  rw [List.replicate_succ, List.flatMap_cons, ih]
  rfl
theorem textX (cols : Nat) (xs : List Int) (i : Nat) (h : ∀ y ∈ xs, 33 <= y /\ y <= 126) : textI (lineX cols xs i) = (xs.drop (i * cols)).take cols := by
 have h2 : ∀ y ∈ (xs.drop (i * cols)).take cols, 33 <= y /\ y <= 126 := fun y hy => h y (List.mem_of_mem_drop (List.mem_of_mem_take hy))
 rw [lineX_parts]
 unfold textI
 rw [show lineT (List.map (fun r => (⟨r, 0, ⟨0, 0, 0⟩⟩ : Cl)) ((xs.drop (i * cols)).take cols) ++ List.replicate (cols - ((xs.drop (i * cols)).take cols).length) ⟨0, 0, ⟨0, 0, 0⟩⟩) = _ from List.flatMap_append]
 rw [show List.flatMap cellT (List.map (fun r => (⟨r, 0, ⟨0, 0, 0⟩⟩ : Cl)) ((xs.drop (i * cols)).take cols)) = _ from lineT_map _ h2, show List.flatMap cellT (List.replicate _ _) = _ from lineT_rep _]
 exact trimI_rep _ _ (fun y hy => by have := h2 y hy; omega)
theorem tx_typed_all : ∀ (xs : List Int) {P : SP} {n : Nat} {ys : List Int} (R : List Int), Tx P n -> InvX P ys -> n + xs.length <= P.most -> n + xs.length <= 60000 ->
  ∃ P', (xs.map (fun c => evX 1 c 0)).foldl evT (P, R) = (P', R) /\ Tx P' (n + xs.length) /\ InvX P' (ys ++ xs) /\ P'.cols = P.cols /\ P'.rows = P.rows
 | [], P, n, ys, R, h1, h2, _, _ => ⟨P, rfl, h1, by rw [List.append_nil]; exact h2, rfl, rfl⟩
 | x :: xs, P, n, ys, R, h1, h2, h3, h4 => by
  rw [List.length_cons] at h3 h4
  obtain ⟨t1, t2, t3, t4⟩ := tx_typed h1 x (by omega) (by omega)
  obtain ⟨u1, u2, u3, u4⟩ := tx_wrapped h1 x (by omega) (by omega)
  obtain ⟨i1, i2⟩ := invX_wrapped h1 (by omega) h2 x
  have h5 : InvX (P.typed x) (ys ++ [x]) := invX_stand u1 i1 i2 x
  obtain ⟨P', e, q1, q2, q3, q4⟩ := tx_typed_all xs R t1 h5 (by rw [t4]; omega) (by omega)
  refine ⟨P', ?_, by rw [List.length_cons, show n + (xs.length + 1) = n + 1 + xs.length by omega]; exact q1, by rw [List.append_assoc] at q2; exact q2, q3.trans t2, q4.trans t3⟩
  rw [List.map_cons, List.foldl_cons]
  exact e
theorem step_print {s : PS} (h0 : s.st = 0) (hl : s.ch.left = 0) (he : s.ends = false) {c : Int} (hc : 32 <= c /\ c < 127) : (stepS s c).2 = [evX 1 c 0] /\ (stepS s c).1.st = 0 /\ (stepS s c).1.ch.left = 0 /\ (stepS s c).1.ends = false := by
 have hct : ctlB c = false := by unfold ctlB; rw [decide_eq_false (by omega)]; rfl
 have hcn : ((c.toNat : Nat) : Int) = c := by omega
 have hput : put s.ch c.toNat = (⟨0, 0, 0, 0⟩, [c]) := by
  unfold put first
  rw [if_pos hl, if_pos (by omega), hcn]
 have e : stepS s c = ({ s with ch := ⟨0, 0, 0, 0⟩ }, [evX 1 c 0]) := by
  unfold stepS plainS groundS
  rw [if_neg (by rw [he]; simp), if_pos (by omega), if_pos h0, if_neg (by rw [hct]; simp), if_neg (by omega), hput]
  rfl
 rw [e]
 exact ⟨rfl, h0, rfl, he⟩
theorem feed_print : ∀ (xs : List Int) {s : PS}, s.st = 0 -> s.ch.left = 0 -> s.ends = false -> (∀ c ∈ xs, 32 <= c /\ c < 127) -> (feedF xs.length s xs).2 = xs.map (fun c => evX 1 c 0)
 | [], s, _, _, _, _ => by rfl
 | c :: cs, s, h0, hl, he, hx => by
  have hk : runK s (c :: cs) = 0 := by unfold runK runs; rw [he, h0]; rfl
  obtain ⟨p1, p2, p3, p4⟩ := step_print h0 hl he (hx c (by simp))
  rw [feedF_step (by simp) hk, List.length_cons, Nat.add_sub_cancel, p1]
  simp only
  rw [feed_print cs p2 p3 p4 (fun y hy => hx y (by simp [hy]))]
  rfl
end Go.Proofs.YtmplpcmcbliadaaGreatDoor
