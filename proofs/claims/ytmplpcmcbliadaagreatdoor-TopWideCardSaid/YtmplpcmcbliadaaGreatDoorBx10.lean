/- Sorted keys; Tab stops made; A screen as new; A screen made; The screen: the cursor moved; A grid with its lines: what it is in memory; a line changed; What lay lets be of a line; The engine made; The engine, the parser made; A screen whole; a terminal whole; A terminal made. -/
import Derived.Shelf.SlIterI.Nil
import Derived.Shelf.SortM.Plain
import Derived.Shelf.SortM.SortNone
import Derived.Ground.GgzProg
import Derived.Ground.SlgmProg
import Derived.Test.YtmplpcmcbliadaaGreatDoorBx6
import Derived.Deep.LoopGhost
import Derived.Deep.MidRow
import Derived.Test.YtmplpcmcbliadaaGreatDoorBx15
set_option linter.unusedVariables false
set_option linter.unusedSimpArgs false
namespace Go.Proofs.YtmplpcmcbliadaaGreatDoor
open Go.RowKit Go.Maps Go.Sort Go.Shelf Pl
def Tryz.keysA_ren : Go.Shelf.Ren := ⟨fun | 7 => 355 | 10 => 397 | n => n, fun | 23 => 174 | 26 => 3 | 3 => 4 | 28 => 97 | 0 => 0 | 27 => 96 | 33 => 122 | 4 => 4 | n => n, fun | n => n⟩
theorem Tryz.keysA : Go.Proofs.SlLaysZI.n7 Tryz.prog Tryz.keysA_ren where
  mixed := by kernel_rfl
  f7 := ⟨ "maps.Keys[map[int]bool,int,bool]", by decide, Tryz.func355.trans (congrArg some (by kernel_rfl))⟩
  f10 := ⟨ "maps.Keys[map[int]bool,int,bool]$1", by decide, Tryz.func397.trans (congrArg some (by kernel_rfl))⟩
  t0 := Tryz.underlying0
  a0 := Tryz.isAgg0
  z0 := Tryz.sizeOf0
  v0 := Tryz.zeroValue0
  t4 := Tryz.underlying4
  a4 := Tryz.isAgg4
  z4 := Tryz.sizeOf4
  v4 := Tryz.zeroValue4
  t23 := Tryz.underlying174
  a23 := Tryz.isAgg174
  z23 := Tryz.sizeOf174
  v23 := Tryz.zeroValue174
  t26 := Tryz.underlying3
  a26 := Tryz.isAgg3
  z26 := Tryz.sizeOf3
  v26 := Tryz.zeroValue3
  t27 := Tryz.underlying96
  a27 := Tryz.isAgg96
  z27 := Tryz.sizeOf96
  v27 := Tryz.zeroValue96
  t28 := Tryz.underlying97
  a28 := Tryz.isAgg97
  z28 := Tryz.sizeOf97
  v28 := Tryz.zeroValue97
  t33 := Tryz.underlying122
  a33 := Tryz.isAgg122
  z33 := Tryz.sizeOf122
  v33 := Tryz.zeroValue122
def Tryz.sortedA_ren : Go.Shelf.Ren := ⟨fun | 6 => 44 | 8 => 84 | 9 => 85 | 11 => 141 | 13 => 143 | 12 => 142 | 23 => 219 | 24 => 220 | 14 => 210 | 15 => 211 | 16 => 212 | 17 => 213 | 18 => 214 | 19 => 215 | 20 => 216 | 21 => 217 | 22 => 218 | 25 => 303 | 26 => 304 | 27 => 305 | 28 => 306 | 29 => 307 | 30 => 308 | 31 => 368 | n => n, fun | 26 => 3 | 28 => 97 | 24 => 31 | 0 => 0 | 3 => 3 | 37 => 111 | 48 => 203 | 50 => 301 | 4 => 4 | 40 => 294 | 39 => 293 | 45 => 82 | 5 => 5 | 9 => 9 | 51 => 343 | 55 => 347 | 57 => 392 | 58 => 241 | 33 => 122 | n => n, fun | n => n⟩
theorem Tryz.sortedA : Go.Proofs.SlLaysZI.n6 Tryz.prog Tryz.sortedA_ren where
  mixed := by kernel_rfl
  f6 := ⟨ "slices.Sorted[int]", by decide, Tryz.func44.trans (congrArg some (by kernel_rfl))⟩
  f8 := ⟨ "slices.Collect[int]", by decide, Tryz.func84.trans (congrArg some (by kernel_rfl))⟩
  f11 := ⟨ "slices.AppendSeq[[]int,int]", by decide, Tryz.func141.trans (congrArg some (by kernel_rfl))⟩
  t0 := Tryz.underlying0
  a0 := Tryz.isAgg0
  z0 := Tryz.sizeOf0
  v0 := Tryz.zeroValue0
  t24 := Tryz.underlying31
  a24 := Tryz.isAgg31
  z24 := Tryz.sizeOf31
  v24 := Tryz.zeroValue31
  t26 := Tryz.underlying3
  a26 := Tryz.isAgg3
  z26 := Tryz.sizeOf3
  v26 := Tryz.zeroValue3
  t28 := Tryz.underlying97
  a28 := Tryz.isAgg97
  z28 := Tryz.sizeOf97
  v28 := Tryz.zeroValue97
  i26 := by kernel_rfl
def Tryz.sortA_ren : Go.Shelf.Ren := ⟨fun | 5 => 85 | 8 => 143 | 7 => 142 | 19 => 219 | 20 => 220 | 10 => 210 | 11 => 211 | 12 => 212 | 13 => 213 | 14 => 214 | 15 => 215 | 16 => 216 | 17 => 217 | 18 => 218 | 30 => 303 | 31 => 304 | 32 => 305 | 33 => 306 | 34 => 307 | 35 => 308 | 40 => 368 | n => n, fun | 23 => 31 | 25 => 3 | 3 => 3 | 32 => 111 | 22 => 31 | 0 => 0 | 44 => 203 | 46 => 301 | 4 => 4 | 36 => 294 | 35 => 293 | 41 => 82 | 5 => 5 | 9 => 9 | 53 => 343 | 57 => 347 | 63 => 392 | 64 => 241 | n => n, fun | n => n⟩
theorem Tryz.sortA : Go.Proofs.SlLaysM.n5 Tryz.prog Tryz.sortA_ren where
  mixed := by kernel_rfl
  f5 := ⟨ "slices.Sort[[]int,int]", by decide, Tryz.func85.trans (congrArg some (by kernel_rfl))⟩
  f7 := ⟨ "slices.pdqsortOrdered[int]", by decide, Tryz.func142.trans (congrArg some (by kernel_rfl))⟩
  f8 := Tryz.func143.trans (congrArg some (by kernel_rfl))
  f10 := ⟨ "slices.insertionSortOrdered[int]", by decide, Tryz.func210.trans (congrArg some (by kernel_rfl))⟩
  f11 := ⟨ "slices.heapSortOrdered[int]", by decide, Tryz.func211.trans (congrArg some (by kernel_rfl))⟩
  f12 := ⟨ "slices.breakPatternsOrdered[int]", by decide, Tryz.func212.trans (congrArg some (by kernel_rfl))⟩
  f13 := ⟨ "slices.choosePivotOrdered[int]", by decide, Tryz.func213.trans (congrArg some (by kernel_rfl))⟩
  f14 := ⟨ "slices.reverseRangeOrdered[int]", by decide, Tryz.func214.trans (congrArg some (by kernel_rfl))⟩
  f15 := ⟨ "slices.partialInsertionSortOrdered[int]", by decide, Tryz.func215.trans (congrArg some (by kernel_rfl))⟩
  f16 := ⟨ "cmp.Less[int]", by decide, Tryz.func216.trans (congrArg some (by kernel_rfl))⟩
  f17 := ⟨ "slices.partitionEqualOrdered[int]", by decide, Tryz.func217.trans (congrArg some (by kernel_rfl))⟩
  f18 := ⟨ "slices.partitionOrdered[int]", by decide, Tryz.func218.trans (congrArg some (by kernel_rfl))⟩
  f19 := Tryz.func219.trans (congrArg some (by kernel_rfl))
  f20 := Tryz.func220.trans (congrArg some (by kernel_rfl))
  f30 := ⟨ "slices.siftDownOrdered[int]", by decide, Tryz.func303.trans (congrArg some (by kernel_rfl))⟩
  f31 := Tryz.func304.trans (congrArg some (by kernel_rfl))
  f32 := Tryz.func305.trans (congrArg some (by kernel_rfl))
  f33 := ⟨ "slices.medianAdjacentOrdered[int]", by decide, Tryz.func306.trans (congrArg some (by kernel_rfl))⟩
  f34 := ⟨ "slices.medianOrdered[int]", by decide, Tryz.func307.trans (congrArg some (by kernel_rfl))⟩
  f35 := ⟨ "cmp.isNaN[int]", by decide, Tryz.func308.trans (congrArg some (by kernel_rfl))⟩
  f40 := ⟨ "slices.order2Ordered[int]", by decide, Tryz.func368.trans (congrArg some (by kernel_rfl))⟩
  t0 := Tryz.underlying0
  a0 := Tryz.isAgg0
  z0 := Tryz.sizeOf0
  v0 := Tryz.zeroValue0
  t3 := Tryz.underlying3
  a3 := Tryz.isAgg3
  z3 := Tryz.sizeOf3
  v3 := Tryz.zeroValue3
  t4 := Tryz.underlying4
  a4 := Tryz.isAgg4
  z4 := Tryz.sizeOf4
  v4 := Tryz.zeroValue4
  t5 := Tryz.underlying5
  a5 := Tryz.isAgg5
  z5 := Tryz.sizeOf5
  v5 := Tryz.zeroValue5
  t9 := Tryz.underlying9
  a9 := Tryz.isAgg9
  z9 := Tryz.sizeOf9
  v9 := Tryz.zeroValue9
  t22 := Tryz.underlying31
  a22 := Tryz.isAgg31
  z22 := Tryz.sizeOf31
  v22 := Tryz.zeroValue31
  t23 := Tryz.underlying31
  a23 := Tryz.isAgg31
  z23 := Tryz.sizeOf31
  v23 := Tryz.zeroValue31
  t25 := Tryz.underlying3
  a25 := Tryz.isAgg3
  z25 := Tryz.sizeOf3
  v25 := Tryz.zeroValue3
  t32 := Tryz.underlying111
  a32 := Tryz.isAgg111
  z32 := Tryz.sizeOf111
  v32 := Tryz.zeroValue111
  t35 := Tryz.underlying293
  a35 := Tryz.isAgg293
  z35 := Tryz.sizeOf293
  v35 := Tryz.zeroValue293
  t36 := Tryz.underlying294
  a36 := Tryz.isAgg294
  z36 := Tryz.sizeOf294
  v36 := Tryz.zeroValue294
  t41 := Tryz.underlying82
  a41 := Tryz.isAgg82
  z41 := Tryz.sizeOf82
  v41 := Tryz.zeroValue82
  t44 := Tryz.underlying203
  a44 := Tryz.isAgg203
  z44 := Tryz.sizeOf203
  v44 := Tryz.zeroValue203
  t46 := Tryz.underlying301
  a46 := Tryz.isAgg301
  z46 := Tryz.sizeOf301
  v46 := Tryz.zeroValue301
  t53 := Tryz.underlying343
  a53 := Tryz.isAgg343
  z53 := Tryz.sizeOf343
  v53 := Tryz.zeroValue343
  t57 := Tryz.underlying347
  a57 := Tryz.isAgg347
  z57 := Tryz.sizeOf347
  v57 := Tryz.zeroValue347
  t63 := Tryz.underlying392
  a63 := Tryz.isAgg392
  z63 := Tryz.sizeOf392
  v63 := Tryz.zeroValue392
  t64 := Tryz.underlying241
  a64 := Tryz.isAgg241
  z64 := Tryz.sizeOf241
  v64 := Tryz.zeroValue241
theorem sortsA (m : Nat) : AnyZI.SortsIn Tryz.prog Tryz.sortedA_ren Fence.wide m :=
 ⟨fun blk off cap ss W hH hblk hsz => callsIn_wide.2 (AnyM.slices_Sort_int Tryz.sortA blk off cap ss W hH hblk hsz),
 fun p cap W => callsIn_wide.2 (AnyM.slices_Sort_int_none Tryz.sortA p cap W)⟩
def anyR : Value -> Option (DataW Unit × List MemPlace) := fun _ => some (.agg [], [])
theorem own_nil (w : World) (b : Nat) (h : MpB w b []) : w.ownsMap Tryz.prog 3 anyR b 0 (.map []) :=
 ⟨#[], 0, h, ⟨by simp, ⟨by simp, by simp, by simp⟩, by simp⟩, by simp, rfl⟩
def tb8 : List MapEntry := [ent 8 true 0]
theorem own_one (w : World) (b : Nat) (h : MpB w b tb8) : w.ownsMap Tryz.prog 3 anyR b 1 (.map [(.int .i64 8, .agg [])]) :=
 ⟨#[ent 8 true 0], 1, h, ⟨by simp [maxLen], ⟨by simp [ent], by simp, by simp⟩, by
  intro x hx
  simp at hx
  subst hx
  exact ⟨(.int .i64 8, .agg []), by kernel_rfl⟩⟩, by simp, by kernel_rfl⟩
def StB (w : World) (p cols b : Nat) : Prop := w.heap[p]? = some (.cells #[.int .i64 cols, .map (some b)] 307 (0, 0))
set_option maxHeartbeats 1000000 in
set_option maxRecDepth 100000 in
theorem all_gen (p cols b nn : Nat) (es : List MapEntry) (D0 : DataW Unit) (w : World) (h : StB w p cols b) (hown : w.ownsMap Tryz.prog 3 anyR b nn D0) (hmax : Maps.size D0 <= maxLen) (hbytes : Maps.size D0 * 8 <= 140737488355328) :
  Calls Tryz.prog 277 #[.pointer (some ⟨p, 0, none⟩)] w fun e w' => ∃ (v : Value) (ss : List Int), e = .returned v /\ ss.Perm (intKeys D0) /\ w'.ownsRow w.heap.size 3 1 v ss.length ((ss.mergeSort (fun x y => decide (x <= y))).map encZ) /\ (v = .slice none 0 0 ↔ ss = []) /\ Below w.heap.size w w' := by
 refine (callsIn_wide (n := 6)).1 ?_
 have hbl := hown.lt
 have x1 : w.cell? ⟨p, 1, none⟩ = some (.map (some b)) := blk_cell h 1
 have hseq : SeqGives Fence.wide 2 Tryz.prog 397 #[.pointer (some ⟨w.heap.size, 0, none⟩)] encZ (fun ss => ss.Perm (intKeys D0)) (Maps.size D0) (w.alloc (.cells #[.map (some b)] 174)) :=
  AnyZI.keys_gives (ρ := Tryz.keysA_ren) { Tryz.keysA with } Fence.wide _ trivial rfl (by omega) w.heap.size b nn D0 _ (by simp) (by simp) (by
   obtain ⟨es, clock, hb, Ft, hs, hD⟩ := hown
   exact ⟨es, clock, (Below.heap_alloc _ _ b hbl).trans hb, Ft, hs, hD⟩)
 have cK : ∀ mb W, CallsIn Fence.wide 5 Tryz.prog 355 #[.map mb] W fun e w' => e = .returned (.func (.func 397) #[] #[.pointer (some ⟨W.heap.size, 0, none⟩)]) /\ w' = W.alloc (.cells #[.map mb] 174) := fun mb W => AnyZI.keys_in Tryz.keysA Fence.wide 5 trivial rfl mb W
 have cS := AnyZI.sorted_in Tryz.sortedA Fence.wide 5 trivial trivial trivial trivial rfl (by omega) (sortsA _) (enters_of Tryz.func85 (by kernel_rfl) rfl) 397 #[.pointer (some ⟨w.heap.size, 0, none⟩)] trivial (enters_of Tryz.func397 (by kernel_rfl) rfl) _ _ hmax hbytes _ hseq
 change CallsIn _ _ Tryz.prog 44 _ _ _ at cS
 have hfK : Fence.wide.fn 355 := trivial
 have hfS : Fence.wide.fn 44 := trivial
 clear hown h
 refine callsIn_of_wp Tryz.func277 rfl trivial ?_ rfl
 simp only [Tryz.ntmps277, List.size_toArray, List.length_cons, List.length_nil, Nat.reduceAdd, Nat.reduceSub, Array.replicate_succ, Array.replicate_zero, List.push_toArray, List.append_toArray, List.nil_append, List.cons_append]
 gi_wp2_with (first
  | (gi_at_call 355; refine (cK _ _).mono ?_; rintro e w' ⟨rfl, rfl⟩)
  | (gi_at_call 44; refine cS.mono ?_; rintro e w' ⟨v, ss, rfl, hS, hrow, hnil, hb⟩))
 go_ret
 exact ⟨v, ss, rfl, hS, ownsRow_base_a hrow (by simp), hnil, ((Below.refl _ w).alloc (Nat.le_refl _) _).trans (hb.mono (by simp))⟩
end Go.Proofs.YtmplpcmcbliadaaGreatDoor
namespace Go.Proofs.YtmplpcmcbliadaaGreatDoor
open Go.RowKit Go.Sort Go.Maps Pl
theorem all_nil (p cols b : Nat) (w : World) (h : StB w p cols b) (hb : MpB w b []) : Calls Tryz.prog 277 #[.pointer (some ⟨p, 0, none⟩)] w fun e w' => e = .returned (.slice none 0 0) /\ Kept (fun _ => False) w w' := by
 refine (all_gen p cols b 0 [] (.map []) w h (own_nil w b hb) (by simp [Maps.size]) (by simp [Maps.size])).mono ?_
 rintro e w' ⟨v, ss, rfl, hp, -, hn, hk⟩
 obtain rfl : ss = [] := List.perm_nil.1 hp
 exact ⟨by rw [hn.2 rfl], Kept.of_below hk (fun i hi h9 => by omega)⟩
theorem all_one (p cols b : Nat) (w : World) (h : StB w p cols b) (hb : MpB w b tb8) : Calls Tryz.prog 277 #[.pointer (some ⟨p, 0, none⟩)] w fun e w' => ∃ g c, e = .returned (.slice (some ⟨g, 0, none⟩) 1 c) /\ w'.cell? ⟨g, 0, none⟩ = some (.int .i64 8) /\ w.heap.size <= g /\ Kept (fun _ => False) w w' := by
 refine (all_gen p cols b 1 [] (.map [(.int .i64 8, .agg [])]) w h (own_one w b hb) (by simp [Maps.size, maxLen]) (by simp [Maps.size])).mono ?_
 rintro e w' ⟨v, ss, rfl, hp, ho, -, hk⟩
 obtain rfl : ss = [8] := List.perm_singleton.1 hp
 have ho' : w'.ownsRow w.heap.size 3 1 v 1 [Value.int .i64 8] := by simpa [encZ] using ho
 rcases ho'.2 with h9 | ⟨g, c, cur, rfl, hg, hc, h1, h2, h3, h4⟩
 ·exact absurd h9.2 (by omega)
 ·refine ⟨g, c, rfl, ?_, hg, Kept.of_below hk (fun i hi h9 => by omega)⟩
  rw [blk_cell hc 0]
  have h5 : cur.toList[0]? = some (.int .i64 8) := by
   have h6 : (cur.toList.take 1)[0]? = some (.int .i64 8) := by rw [show cur.toList.take 1 = [Value.int .i64 8] from by simpa using h4]; rfl
   simpa using h6
  simpa using h5
def tbm (i : Nat) : List MapEntry := if 8 < i then tb8 else []
set_option maxRecDepth 100000 in
set_option maxHeartbeats 8000000 in
theorem tresize_any (p b cols : Nat) (w : World) (h : StB w p 0 b) (hb : MpB w b []) (hne : p ≠ b) (hc : 1 <= cols /\ cols <= 16) : Calls Tryz.prog 226 #[.pointer (some ⟨p, 0, none⟩), .int .i64 cols] w fun e w' => e = .returned (.int .i64 0) /\ StB w' p cols b /\ MpB w' b (tbm cols) /\ Kept (fun i => i = p \/ i = b) w w' := by
 have g0 : decide ((cols : Int) < 1) = false := decide_eq_false (by omega)
 have g1 : decide ((1000 : Int) < (cols : Int)) = false := decide_eq_false (by omega)
 have g2 : decide (1000 < cols) = false := decide_eq_false (by omega)
 have g3 : decide (cols < 1) = false := decide_eq_false (by omega)
 have x0 : w.cell? ⟨p, 0, none⟩ = some (.int .i64 0) := blk_cell h 0
 have HB := Lib.hid (And.intro h (And.intro hb (And.intro hne hc)))
 clear h hb
 go_enter Tryz.func226, Tryz.ntmps226
 go_wp2
 go_loopg [5] cols (fun gg iv wr => ∃ k : Nat, cols <= gg + k /\ 1 <= k /\ k <= cols /\ iv = .int .i64 (k : Int) /\ MpB wr b (tbm k) /\ Kept (fun i => i = b) w wr)
 case atStart => exact ⟨1, by omega, by omega, by omega, rfl, HB.out.2.1, Kept.refl _ _⟩
 case round =>
  obtain ⟨k, hgg, hk0, hk, rfl, hm, hkr⟩ := hrel
  have hst := hkr.blk HB.out.1 HB.out.2.2.1
  have x1 : wr.cell? ⟨p, 1, none⟩ = some (.map (some b)) := blk_cell hst 1
  by_cases hk1 : k < cols
  ·have g1 : decide (k < cols) = true := decide_eq_true hk1
   have g1' : decide ((k : Int) < (cols : Int)) = true := decide_eq_true (by omega)
   have wk : IntKind.i64.wrap ((k : Int) + 1) = (k : Int) + 1 := IntWalk.i64_in _ (by omega)
   by_cases h8 : k = 8
   ·subst h8
    obtain ⟨V, hV⟩ : ∃ X, ({ wr with heap := wr.heap.setIfInBounds b (.map (tbm 8 ++ [ent 8 true (tbm 8).length]).toArray ((tbm 8).length + 1)) } : World) = X := ⟨_, rfl⟩
    have hi := mapIns wr V b 8 true (tbm 8) hm rfl hV
    have hR := Lib.hid (show MpB V b (tbm 9) /\ Kept (fun i => i = b) w V from ⟨by
     rw [<- hV]
     have := lt_of_blk hm
     show (wr.heap.setIfInBounds b _)[b]? = _
     simp [this, tbm, tb8], hkr.then (by rw [<- hV]; exact Kept.setBlock' b _)⟩)
    clear hm hkr hst
    go_wp2
    go_roundg (gk - 1)
    case rel => exact ⟨9, by omega, by omega, by omega, by go_num, hR.out.1, hR.out.2⟩
    case measure => omega
   ·have htm : (k : Int).tmod 8 = (k : Int) % 8 := Int.tmod_eq_emod_of_nonneg (by omega)
    have hq : ¬ (k : Int) % 8 = 0 := by omega
    have hnm : decide ((k : Int).tmod 8 = 0) = false := decide_eq_false (by rw [htm]; exact hq)
    have hnm' : ((k : Int).tmod 8 = 0) = False := by rw [htm]; exact eq_false hq
    have hnm3 : ¬ k % 8 = 0 := by omega
    have ht : tbm (k + 1) = tbm k := by
     unfold tbm
     by_cases h9 : 8 < k
     ·rw [if_pos (by omega), if_pos h9]
     ·rw [if_neg (by omega), if_neg h9]
    have hR := Lib.hid (show MpB wr b (tbm (k + 1)) /\ Kept (fun i => i = b) w wr from ⟨by rw [ht]; exact hm, hkr⟩)
    clear hm hkr hst
    go_wp2
    go_roundg (gk - 1)
    case rel => exact ⟨k + 1, by omega, by omega, by omega, by go_num, hR.out.1, hR.out.2⟩
    case measure => omega
  ·obtain rfl : k = cols := by omega
   have g1 : decide (k < k) = false := decide_eq_false (by omega)
   have HA := Lib.hid (And.intro hm (And.intro hst hkr))
   clear hm hst hkr
   have i8 : decide ((k : Int) <= 8) = decide (k <= 8) := by congr 1; exact propext (by omega)
   by_cases h8 : 8 < k
   ·have hm8 : MpB wr b tb8 := by have h9 := HA.out.1; unfold tbm at h9; rw [if_pos h8] at h9; exact h9
    have HN := Lib.hid (all_one p 0 b wr HA.out.2.1 hm8)
    clear hm8
    go_wp2_with fail
    refine HN.out.mono ?_
    rintro e w1 ⟨g, c, rfl, xg, hg, hk1⟩
    have H1 := Lib.hid hk1
    have g8 : decide ((k : Int) <= 8) = false := decide_eq_false (by omega)
    have g8' : decide (k <= 8) = false := decide_eq_false (by omega)
    clear hk1 hg
    go_wp2
    go_loopg [7, 35] 1 (fun gg ov iv wr2 => ∃ (m : Nat) (o : Value), ov = o /\ 1 <= gg + m /\ m <= 1 /\ iv = .int .i64 (m : Int) /\ wr2 = w1)
    case atStart => exact ⟨0, _, rfl, by omega, by omega, rfl, rfl⟩
    case round =>
     obtain ⟨m, o, rfl, hgg2, hm2, rfl, rfl⟩ := hrel
     by_cases hm0 : m = 0
     ·subst hm0
      go_wp2
      go_roundg (gk - 1)
      case rel => exact ⟨1, _, rfl, by omega, by omega, by go_num, rfl⟩
      case measure => omega
     ·obtain rfl : m = 1 := by omega
      have hp1 := H1.out.blk HA.out.2.1 id
      have y0 : wr.cell? ⟨p, 0, none⟩ = some (.int .i64 0) := blk_cell hp1 0
      have f0 := blk_free hp1 0
      obtain ⟨V, hV⟩ : ∃ X, wr.setCell ⟨p, 0, none⟩ (.int .i64 k) = X := ⟨_, rfl⟩
      have hR := Lib.hid (show StB V p k b /\ MpB V b (tbm k) /\ Kept (fun i => i = p \/ i = b) w V from by
       rw [<- hV]
       refine ⟨blk_set hp1 0 _, blk_set_other (H1.out.blk HA.out.1 id) (show b ≠ p from HB.out.2.2.1.symm) _, ?_⟩
       exact Kept.setCell (S := fun i => i = p \/ i = b) ((HA.out.2.2.mono fun _ _ h => Or.inr h).then (H1.out.mono fun _ _ h => h.elim)) (p := ⟨p, 0, none⟩) (.inl (.inl rfl)) _)
      clear hp1 xg
      go_wp2
      go_ret
      exact ⟨rfl, hR.out⟩
   ·have hm8 : MpB wr b [] := by have h9 := HA.out.1; unfold tbm at h9; rw [if_neg h8] at h9; exact h9
    have HN := Lib.hid (all_nil p 0 b wr HA.out.2.1 hm8)
    clear hm8
    go_wp2_with fail
    refine HN.out.mono ?_
    rintro e w1 ⟨rfl, hk1⟩
    have H1 := Lib.hid hk1
    clear hk1
    go_wp2
    go_loopg [7, 35] 1 (fun gg ov iv wr2 => ∃ (o : Value), ov = o /\ iv = .int .i64 0 /\ wr2 = w1)
    case atStart => exact ⟨_, rfl, rfl, rfl⟩
    case round =>
     obtain ⟨o, rfl, rfl, rfl⟩ := hrel
     have hp1 := H1.out.blk HA.out.2.1 id
     have y0 : wr.cell? ⟨p, 0, none⟩ = some (.int .i64 0) := blk_cell hp1 0
     have f0 := blk_free hp1 0
     obtain ⟨V, hV⟩ : ∃ X, wr.setCell ⟨p, 0, none⟩ (.int .i64 k) = X := ⟨_, rfl⟩
     have hR := Lib.hid (show StB V p k b /\ MpB V b (tbm k) /\ Kept (fun i => i = p \/ i = b) w V from by
      rw [<- hV]
      refine ⟨blk_set hp1 0 _, blk_set_other (H1.out.blk HA.out.1 id) (show b ≠ p from HB.out.2.2.1.symm) _, ?_⟩
      exact Kept.setCell (S := fun i => i = p \/ i = b) ((HA.out.2.2.mono fun _ _ h => Or.inr h).then (H1.out.mono fun _ _ h => h.elim)) (p := ⟨p, 0, none⟩) (.inl (.inl rfl)) _)
     clear hp1
     go_wp2
     go_ret
     exact ⟨rfl, hR.out⟩
set_option maxRecDepth 100000 in
theorem tnew_any (cols : Nat) (w : World) (hc : 1 <= cols /\ cols <= 16) : Calls Tryz.prog 156 #[.int .i64 cols] w fun e w' => e = .returned (.tuple #[.pointer (some ⟨w.heap.size + 1, 0, none⟩), .int .i64 0]) /\ StB w' (w.heap.size + 1) cols w.heap.size /\ MpB w' w.heap.size (tbm cols) /\ Kept (fun _ => False) w w' := by
 obtain ⟨V1, hV1⟩ : ∃ X, w.alloc (.map #[] 0) = X := ⟨_, rfl⟩
 have k1 : Kept (fun _ => False) w V1 := by rw [<- hV1]; exact (Kept.refl _ _).alloc _
 have b1 : MpB V1 w.heap.size [] := by rw [<- hV1]; exact blk_new _ _
 have z1 : V1.heap.size = w.heap.size + 1 := by rw [<- hV1]; simp
 obtain ⟨V2, hV2⟩ : ∃ X, V1.alloc (.cells #[.int .i64 0, .map (some w.heap.size)] 307) = X := ⟨_, rfl⟩
 have k2 : Kept (fun _ => False) V1 V2 := by rw [<- hV2]; exact (Kept.refl _ _).alloc _
 have b2 : StB V2 (w.heap.size + 1) 0 w.heap.size := by rw [<- hV2, <- z1]; exact blk_new _ _
 have hm1 : (Instr.makeMap 174 none).run Tryz.prog w = .ok (.map (some w.heap.size)) V1 := by rw [<- hV1]; exact run_makeMap 174 w
 have HR := Lib.hid (tresize_any (w.heap.size + 1) w.heap.size cols V2 b2 (b1.kept k2 id) (by omega) hc)
 have HK := Lib.hid (k1.then k2)
 rw [show (Obj.cells #[.int .i64 0, .map (some w.heap.size)] 307) = (Obj.cells #[.int .i64 0, .map (some w.heap.size)] 307) from rfl] at hV2
 have hz : V1.heap.size = w.heap.size + 1 := z1
 clear k1 b1 k2 b2 z1
 go_enter Tryz.func156, Tryz.ntmps156
 go_wp2_with fail
 simp only [hz] at *
 refine HR.out.mono ?_
 rintro e w2 ⟨rfl, hst, hmp, hk2⟩
 have HE := Lib.hid (And.intro hst (And.intro hmp hk2))
 clear hst hmp hk2
 go_wp2
 exact bodyPost_ret (v := .tuple #[.pointer (some ⟨w.heap.size + 1, 0, none⟩), .int .i64 0]) (by simp [results, Tryz.results156, go_sem]) rfl ⟨rfl, HE.out.1, HE.out.2.1, HK.out.trans (HE.out.2.2.mono fun i _ h => Or.inr (by omega))⟩
end Go.Proofs.YtmplpcmcbliadaaGreatDoor
namespace Go.Proofs.YtmplpcmcbliadaaGreatDoor
open Go.RowKit Go.Sort Pl
def SnR (w : World) (p : Nat) (A : List Value) : Prop := A.length = 42 /\ w.heap[p]? = some (.cells A.toArray 178 (0, 0))
theorem SnR.kept {w w' : World} {p : Nat} {A : List Value} {S : Nat -> Prop} (h : SnR w p A) (hk : Kept S w w') (hp : ¬ S p) : SnR w' p A := ⟨h.1, hk.blk h.2 hp⟩
theorem SnR.cell {w : World} {p : Nat} {A : List Value} (h : SnR w p A) (i : Nat) : w.cell? ⟨p, i, none⟩ = A[i]? := by rw [blk_cell h.2, List.getElem?_toArray]
theorem SnR.set {w : World} {p : Nat} {A : List Value} (h : SnR w p A) (i : Nat) (hi : i < 42) (u : Value) : ∃ V x, w.setCell ⟨p, i, none⟩ u = V /\ w.cell? ⟨p, i, none⟩ = some x /\ w.frozen? ⟨p, i, none⟩ = false /\ SnR V p (A.set i u) /\ Kept (fun i => i = p) w V := by
 have hlt : i < A.length := by rw [h.1]; exact hi
 refine ⟨_, A[i], rfl, by rw [h.cell, List.getElem?_eq_getElem hlt], blk_free h.2 i, ⟨by rw [List.length_set]; exact h.1, ?_⟩, (Kept.refl (fun i => i = p) w).setCell (p := ⟨p, i, none⟩) (.inl rfl) u⟩
 rw [blk_set h.2 i u, List.setIfInBounds_toArray]
def setL : List Value -> Nat -> List Value -> List Value
 | A, _, [] => A
 | A, i, v :: r => setL (A.set i v) (i + 1) r
theorem SnR.setN : ∀ (vs : List Value) {w : World} {p : Nat} {A : List Value} (h : SnR w p A) (i : Nat) (hi : i + vs.length <= 42), SnR (w.setCells p i vs) p (setL A i vs) /\ Kept (fun i => i = p) w (w.setCells p i vs)
 | [], w, p, A, h, i, hi => ⟨h, Kept.refl _ _⟩
 | v :: r, w, p, A, h, i, hi => by
  simp only [List.length_cons] at hi
  obtain ⟨V, x, rfl, -, -, hs, hk⟩ := h.set i (by omega) v
  obtain ⟨h1, h2⟩ := SnR.setN r hs (i + 1) (by omega)
  exact ⟨h1, hk.then h2⟩
theorem SnR.mid {w : World} {p : Nat} {A : List Value} (h : SnR w p A) (i : Nat) (vs : Array Value) (hi : i + vs.size <= 42) : ∃ V, w.setCells p i vs.toList = V /\ w.there p i vs.size /\ SnR V p (setL A i vs.toList) /\ Kept (fun i => i = p) w V :=
 ⟨_, rfl, fun j hj => ⟨by rw [h.cell, List.getElem?_eq_getElem (by rw [h.1]; omega)]; rfl, blk_free h.2 _⟩, (SnR.setN vs.toList h i (by simpa using hi)).1, (SnR.setN vs.toList h i (by simpa using hi)).2⟩
def sn0 (g0 g1 : Nat) : List Value := [.pointer (some ⟨g0, 0, none⟩), .pointer (some ⟨g1, 0, none⟩), .int .i64 0, .int .i64 0, .int .i64 0, .bool false, .int .i64 0, .int .i64 0, .int .i64 0, .bool false, .int .u8 0, .int .u8 0, .int .i64 0, .int .i64 0, .int .i64 0, .bool false, .int .i64 0, .int .i64 0, .int .i64 0, .bool false, .int .u8 0, .int .u8 0, .int .i64 0, .bool false, .int .i64 0, .int .i64 0, .bool false, .int .i64 0, .int .i64 0, .int .i64 0, .bool false, .int .u8 0, .int .u8 0, .int .i64 0, .bool false, .map none, .map none, .int .i64 0, .int .i64 0, .pointer none, .int .i32 0, .slice none 0 0]
set_option maxRecDepth 100000 in
theorem sg_raw (p g0 : Nat) (w : World) (x0 : w.cell? ⟨p, 0, none⟩ = some (.pointer (some ⟨g0, 0, none⟩))) (x2 : w.cell? ⟨p, 2, none⟩ = some (.int .i64 0)) : Calls Tryz.prog 100 #[.pointer (some ⟨p, 0, none⟩)] w fun e w' => e = .returned (.pointer (some ⟨g0, 0, none⟩)) /\ Kept (fun _ => False) w w' := by
 obtain ⟨WR, hWR⟩ : ∃ WR, WR = w.drew := ⟨_, rfl⟩
 go_enter Tryz.func100, Tryz.ntmps100
 go_wp2
 refine wp_region_still_lit (by kernel_rfl) (by kernel_rfl) ?_
 refine wpStill_step (fun K hK => ?_)
 go_simp
 repeat (generalize hfr : Act.mk _ _ = fr; refine hK _ ?_; clear hK K; refine wpStill_step (fun K hK => ?_); subst hfr; go_simp)
 generalize hfr : Act.mk _ _ = fr
 refine hK _ ?_
 clear hK K
 refine wpStill_nil ?_
 subst hfr
 go_wp2
 go_ret
 exact ⟨rfl, (Kept.refl _ _).drew⟩
set_option maxRecDepth 100000 in
theorem ssize_raw (p g0 rp rows cols : Nat) (lv : Value) (top : Int) (w : World) (x0 : w.cell? ⟨p, 0, none⟩ = some (.pointer (some ⟨g0, 0, none⟩))) (x2 : w.cell? ⟨p, 2, none⟩ = some (.int .i64 0)) (hg : GrB w g0 rp rows cols lv top) : Calls Tryz.prog 155 #[.pointer (some ⟨p, 0, none⟩)] w fun e w' => e = .returned (.tuple #[.int .i64 rows, .int .i64 cols]) /\ Kept (fun _ => False) w w' := by
 have HG := Lib.hid (sg_raw p g0 w x0 x2)
 have HS := Lib.hid (fun (x : World) (k : Kept (fun _ => False) w x) => gSize_any g0 rp rows cols lv top x (k.blk hg id))
 clear x0 x2 hg
 go_enter Tryz.func155, Tryz.ntmps155
 go_wp2_with fail
 refine HG.out.mono ?_
 rintro e w1 ⟨rfl, hk1⟩
 have H1 := Lib.hid hk1
 clear hk1
 go_wp2_with fail
 refine (HS.out _ H1.out).mono ?_
 rintro e w2 ⟨rfl, hk2⟩
 have H2 := Lib.hid (H1.out.then hk2)
 clear hk2
 go_wp2
 exact bodyPost_ret (v := .tuple #[.int .i64 rows, .int .i64 cols]) (by simp [results, Tryz.results155, go_sem]) rfl ⟨rfl, H2.out⟩
set_option maxRecDepth 100000 in
theorem plain_raw (p : Nat) (A : List Value) (w : World) (h : SnR w p A) : Calls Tryz.prog 158 #[.pointer (some ⟨p, 0, none⟩)] w fun e w' => (∃ x, e = .returned x) /\ SnR w' p ((A.set 35 (.map (some w.heap.size))).set 36 (.map (some (w.heap.size + 1)))) /\ MpB w' w.heap.size [] /\ MpB w' (w.heap.size + 1) prv0 /\ Kept (fun i => i = p) w w' := by
 obtain ⟨V1, hV1⟩ : ∃ X, w.alloc (.map #[] 0) = X := ⟨_, rfl⟩
 have k1 : Kept (fun _ => False) w V1 := by rw [<- hV1]; exact (Kept.refl _ _).alloc _
 have b1 : MpB V1 w.heap.size [] := by rw [<- hV1]; exact blk_new _ _
 have z1 : V1.heap.size = w.heap.size + 1 := by rw [<- hV1]; simp
 obtain ⟨V2, hV2⟩ : ∃ X, V1.alloc (.map #[] 0) = X := ⟨_, rfl⟩
 have k2 : Kept (fun _ => False) V1 V2 := by rw [<- hV2]; exact (Kept.refl _ _).alloc _
 have b2 : MpB V2 (w.heap.size + 1) [] := by rw [<- hV2, <- z1]; exact blk_new _ _
 obtain ⟨V3, hV3⟩ : ∃ X, ({ V2 with heap := V2.heap.setIfInBounds (w.heap.size + 1) (.map (([] : List MapEntry) ++ [ent 7 true ([] : List MapEntry).length]).toArray (([] : List MapEntry).length + 1)) } : World) = X := ⟨_, rfl⟩
 have i3 := mapIns V2 V3 (w.heap.size + 1) 7 true [] b2 rfl hV3
 have k3 : Kept (fun i => i = w.heap.size + 1) V2 V3 := by rw [<- hV3]; exact Kept.setBlock' (w.heap.size + 1) _
 have b3 : MpB V3 (w.heap.size + 1) [ent 7 true 0] := by
  rw [<- hV3]
  have := lt_of_blk b2
  show (V2.heap.setIfInBounds (w.heap.size + 1) _)[w.heap.size + 1]? = _
  simp [this]
 obtain ⟨V4, hV4⟩ : ∃ X, ({ V3 with heap := V3.heap.setIfInBounds (w.heap.size + 1) (.map ([ent 7 true 0] ++ [ent 25 true [ent 7 true 0].length]).toArray ([ent 7 true 0].length + 1)) } : World) = X := ⟨_, rfl⟩
 have i4 := mapIns V3 V4 (w.heap.size + 1) 25 true [ent 7 true 0] b3 rfl hV4
 have k4 : Kept (fun i => i = w.heap.size + 1) V3 V4 := by rw [<- hV4]; exact Kept.setBlock' (w.heap.size + 1) _
 have b4 : MpB V4 (w.heap.size + 1) prv0 := by
  rw [<- hV4]
  have := lt_of_blk b3
  show (V3.heap.setIfInBounds (w.heap.size + 1) _)[w.heap.size + 1]? = _
  simp [this, prv0]
 have k14 : Kept (fun _ => False) V1 V4 := k2.trans (k3.mono (fun i _ hi => Or.inr (by have h9 : i = w.heap.size + 1 := hi; omega)) |>.then (k4.mono fun i _ hi => Or.inr (by have h9 : i = w.heap.size + 1 := hi; omega)))
 have k04 : Kept (fun _ => False) w V4 := k1.then k14
 have s4 := h.kept k04 id
 obtain ⟨V5, u5, hV5, c35, f35, s5, k5⟩ := s4.set 35 (by omega) (.map (some w.heap.size))
 obtain ⟨V6, u6, hV6, c36, f36, s6, k6⟩ := s5.set 36 (by omega) (.map (some (w.heap.size + 1)))
 have hpl := lt_of_blk h.2
 have hm1 : (Instr.makeMap 174 none).run Tryz.prog w = .ok (.map (some w.heap.size)) V1 := by rw [<- hV1]; exact run_makeMap 174 w
 have hm2 : (Instr.makeMap 174 none).run Tryz.prog V1 = .ok (.map (some (w.heap.size + 1))) V2 := by rw [<- hV2, <- z1]; exact run_makeMap 174 V1
 have HF := Lib.hid (show SnR V6 p ((A.set 35 (.map (some w.heap.size))).set 36 (.map (some (w.heap.size + 1)))) /\ MpB V6 w.heap.size [] /\ MpB V6 (w.heap.size + 1) prv0 /\ Kept (fun i => i = p) w V6 from
  ⟨s6, ((b1.kept k14 id).kept k5 (by show ¬ w.heap.size = p; omega)).kept k6 (by show ¬ w.heap.size = p; omega), (b4.kept k5 (by show ¬ w.heap.size + 1 = p; omega)).kept k6 (by show ¬ w.heap.size + 1 = p; omega), ((k04.mono fun _ _ h => h.elim).then k5).then k6⟩)
 clear h k1 b1 k2 b2 k3 b3 k4 b4 k14 k04 s4 s5 k5 s6 k6
 go_enter Tryz.func158, Tryz.ntmps158
 go_wp2
 go_end0
 exact ⟨⟨_, rfl⟩, HF.out⟩
def z22 : List Value := [.int .i64 0, .int .i64 0, .bool false, .int .i64 0, .int .i64 0, .int .i64 0, .bool false, .int .u8 0, .int .u8 0, .int .i64 0, .bool false, .int .i64 0, .int .i64 0, .bool false, .int .i64 0, .int .i64 0, .int .i64 0, .bool false, .int .u8 0, .int .u8 0, .int .i64 0, .bool false]
theorem fresh_cs (g0 g1 q rows md pv : Nat) : ((((((setL (setL (((sn0 g0 g1).set 2 (.int .i64 0)).set 39 (.pointer (some ⟨q, 0, none⟩))) 3 (#[.int .i64 0, .int .i64 0, .bool false, .int .i64 0, .int .i64 0, .int .i64 0, .bool false, .int .u8 66, .int .u8 66, .int .i64 0] : Array Value).toList) 13 (#[.int .i64 0, .int .i64 0, .bool false, .int .i64 0, .int .i64 0, .int .i64 0, .bool false, .int .u8 0, .int .u8 0, .int .i64 0, .bool false, .int .i64 0, .int .i64 0, .bool false, .int .i64 0, .int .i64 0, .int .i64 0, .bool false, .int .u8 0, .int .u8 0, .int .i64 0, .bool false] : Array Value).toList).set 40 (.int .i32 (-1))).set 37 (.int .i64 0)).set 38 (.int .i64 rows)).set 35 (.map (some md))).set 36 (.map (some pv))).toArray = Sn.cs ⟨g0, g1, cu0, z22, md, pv, 0, rows, q, -1, .slice none 0 0⟩ := by kernel_rfl
set_option maxRecDepth 100000 in
set_option maxHeartbeats 8000000 in
theorem fresh_any (p g0 g1 rp rows cols : Nat) (lv : Value) (top : Int) (w : World) (h : SnR w p (sn0 g0 g1)) (hg : GrB w g0 rp rows cols lv top) (hc : 1 <= cols /\ cols <= 16) : Calls Tryz.prog 95 #[.pointer (some ⟨p, 0, none⟩)] w fun e w' => (∃ x, e = .returned x) /\ ∃ md pv st tb, SnB w' p ⟨g0, g1, cu0, z22, md, pv, 0, rows, st, -1, .slice none 0 0⟩ /\ MpB w' md [] /\ MpB w' pv prv0 /\ StB w' st cols tb /\ MpB w' tb (tbm cols) /\ Kept (fun i => i = p) w w' /\ w.heap.size <= md /\ w.heap.size <= pv /\ w.heap.size <= st /\ w.heap.size <= tb := by
 have hpl := lt_of_blk h.2
 have hgl := lt_of_blk hg
 have hne : g0 ≠ p := by
  rintro rfl
  exact blk_ty2 hg h.2 (by decide)
 obtain ⟨V1, u1, hV1, c2, f2, s1, k1⟩ := h.set 2 (by omega) (.int .i64 0)
 have HZ := Lib.hid (ssize_raw p g0 rp rows cols lv top V1 (s1.cell 0) (s1.cell 2) (k1.blk hg hne))
 have H1 := Lib.hid (And.intro s1 (And.intro k1 (And.intro hpl (And.intro hc (And.intro hne hgl)))))
 clear h hg s1 k1 hpl hgl
 go_enter Tryz.func95, Tryz.ntmps95
 go_wp2_with fail
 refine HZ.out.mono ?_
 rintro e w2 ⟨rfl, hk2⟩
 have HN := Lib.hid (tnew_any cols w2 hc)
 have H2 := Lib.hid (show SnR w2 p ((sn0 g0 g1).set 2 (.int .i64 0)) /\ Kept (fun i => i = p) w w2 /\ w.heap.size <= w2.heap.size from ⟨H1.out.1.kept hk2 id, H1.out.2.1.then (hk2.mono fun _ _ h => h.elim), (H1.out.2.1.then (hk2.mono fun _ _ h => h.elim)).size⟩)
 clear hk2
 go_wp2_with fail
 refine HN.out.mono ?_
 rintro e w3 ⟨rfl, hst, hmp, hk3⟩
 obtain ⟨q, hq⟩ : ∃ q, w2.heap.size + 1 = q := ⟨_, rfl⟩
 obtain ⟨V3, u3, hV3, c39, f39, s3, k3⟩ := (H2.out.1.kept hk3 id).set 39 (by omega) (.pointer (some ⟨q, 0, none⟩))
 have hp2 := lt_of_blk H2.out.1.2
 have H3 := Lib.hid (show SnR V3 p (((sn0 g0 g1).set 2 (.int .i64 0)).set 39 (.pointer (some ⟨q, 0, none⟩))) /\ Kept (fun i => i = p) w V3 /\ StB V3 q cols w2.heap.size /\ MpB V3 w2.heap.size (tbm cols) /\ w.heap.size <= q /\ w.heap.size <= w2.heap.size /\ p < w2.heap.size from
  ⟨s3, H2.out.2.1.then ((hk3.mono fun _ _ h => h.elim).then k3), k3.blk (hq ▸ hst) (show ¬ q = p by omega), hmp.kept k3 (show ¬ w2.heap.size = p by omega), by have := H2.out.2.2; omega, H2.out.2.2, hp2⟩)
 clear hst hmp hk3 s3 k3 hp2
 rw [hq]
 go_wp2_with fail
 refine (first_any _).mono ?_
 rintro e w4 ⟨rfl, hk4⟩
 have H4 := Lib.hid (show SnR w4 p (((sn0 g0 g1).set 2 (.int .i64 0)).set 39 (.pointer (some ⟨q, 0, none⟩))) /\ Kept (fun i => i = p) w w4 /\ StB w4 q cols w2.heap.size /\ MpB w4 w2.heap.size (tbm cols) from
  ⟨H3.out.1.kept hk4 id, H3.out.2.1.then (hk4.mono fun _ _ h => h.elim), hk4.blk H3.out.2.2.1 id, H3.out.2.2.2.1.kept hk4 id⟩)
 clear hk4
 obtain ⟨C1, hC1, t1, s1, k1⟩ := H4.out.1.mid 3 #[.int .i64 0, .int .i64 0, .bool false, .int .i64 0, .int .i64 0, .int .i64 0, .bool false, .int .u8 66, .int .u8 66, .int .i64 0] (by decide)
 obtain ⟨C2, hC2, t2, S0, k2⟩ := s1.mid 13 #[.int .i64 0, .int .i64 0, .bool false, .int .i64 0, .int .i64 0, .int .i64 0, .bool false, .int .u8 0, .int .u8 0, .int .i64 0, .bool false, .int .i64 0, .int .i64 0, .bool false, .int .i64 0, .int .i64 0, .int .i64 0, .bool false, .int .u8 0, .int .u8 0, .int .i64 0, .bool false] (by decide)
 have K0 := (k1.then k2)
 clear s1 k1 k2
 obtain ⟨U1, q0, hU0, c0, f0, S1, k0⟩ := S0.set 40 (by omega) (.int .i32 (-1))
 have K1 := K0.then k0
 clear S0 K0 k0
 obtain ⟨U2, q1, hU1, c1, f1, S2, k1⟩ := S1.set 37 (by omega) (.int .i64 0)
 have K2 := K1.then k1
 clear S1 K1 k1
 obtain ⟨U3, q2, hU2, c2, f2, S3, k2⟩ := S2.set 38 (by omega) (.int .i64 rows)
 have K3 := K2.then k2
 clear S2 K2 k2
 have HP := Lib.hid (plain_raw p _ U3 S3)
 have HU := Lib.hid (And.intro (H4.out.2.1.then K3) (And.intro (K3.blk H4.out.2.2.1 (show ¬ q = p by have := H3.out.2.2.2.2.2.2; omega)) (H4.out.2.2.2.kept K3 (show ¬ w2.heap.size = p by have := H3.out.2.2.2.2.2.2; omega))))
 clear S3 K3
 unfold cu0 Cu.val
 have TH := Lib.hid (And.intro t1 t2)
 clear t1 t2
 go_wp2_with (first
  | (refine wpList_store_mid rfl 56 _ _ rfl p 3 #[.int .i64 0, .int .i64 0, .bool false, .int .i64 0, .int .i64 0, .int .i64 0, .bool false, .int .u8 66, .int .u8 66, .int .i64 0] rfl rfl TH.out.1 (by kernel_rfl) (by kernel_rfl) ?_; rw [hC1])
  | (refine wpList_store_mid rfl 173 _ _ rfl p 13 #[.int .i64 0, .int .i64 0, .bool false, .int .i64 0, .int .i64 0, .int .i64 0, .bool false, .int .u8 0, .int .u8 0, .int .i64 0, .bool false, .int .i64 0, .int .i64 0, .bool false, .int .i64 0, .int .i64 0, .int .i64 0, .bool false, .int .u8 0, .int .u8 0, .int .i64 0, .bool false] rfl rfl TH.out.2 (by kernel_rfl) (by kernel_rfl) ?_; rw [hC2])
  | fail)
 refine HP.out.mono ?_
 rintro e w5 ⟨⟨x, rfl⟩, hs, hm1, hm2, hk5⟩
 have HE := Lib.hid (And.intro hs (And.intro hm1 (And.intro hm2 hk5)))
 clear hs hm1 hm2 hk5
 go_wp2
 go_end0
 have hsz := HU.out.1.size
 exact ⟨⟨_, rfl⟩, U3.heap.size, U3.heap.size + 1, q, w2.heap.size, ⟨rfl, by rw [<- fresh_cs]; exact HE.out.1.2⟩, HE.out.2.1, HE.out.2.2.1, HE.out.2.2.2.blk HU.out.2.1 (show ¬ q = p by have := H3.out.2.2.2.2.2.2; omega), HU.out.2.2.kept HE.out.2.2.2 (show ¬ w2.heap.size = p by have := H3.out.2.2.2.2.2.2; omega), HU.out.1.then HE.out.2.2.2, hsz, by omega, H3.out.2.2.2.2.1, H3.out.2.2.2.2.2.1⟩
attribute [local go_sem] growOp growUpon sameUpon
def GN (w : World) (rows cols back : Nat) (v : Value) (w' : World) : Prop := ∃ p rp lv vs, v = .tuple #[.pointer (some ⟨p, 0, none⟩), .int .i64 0] /\ w.heap.size <= p /\ w.heap.size <= rp /\ p ≠ rp /\ GrB w' p rp rows cols lv 0 /\ RnB w' rp back (.slice none 0 0) 0 /\ NewR (fun _ => False) w (List.replicate cols ⟨0, 0, ⟨0, 0, 0⟩⟩) rows lv vs w' /\ (∀ b, lv.ownBlock = some b -> b ≠ p /\ b ≠ rp) /\ ∀ u ∈ vs, ∀ b, u.ownBlock = some b -> b ≠ p /\ b ≠ rp
def ScO (w w' : World) (rows cols back p : Nat) : Prop := ∃ g0 rp0 lv0 vs0 g1 rp1 lv1 vs1 md pv st tb, SnB w' p ⟨g0, g1, cu0, z22, md, pv, 0, rows, st, -1, .slice none 0 0⟩ /\ MpB w' md [] /\ MpB w' pv prv0 /\ StB w' st cols tb /\ MpB w' tb (tbm cols) /\ GrB w' g0 rp0 rows cols lv0 0 /\ RnB w' rp0 back (.slice none 0 0) 0 /\ GrB w' g1 rp1 rows cols lv1 0 /\ RnB w' rp1 0 (.slice none 0 0) 0 /\ (OwnV 68 w' lv0 vs0 /\ vs0.length = rows /\ ∀ u ∈ vs0, OwnC w' u (List.replicate cols ⟨0, 0, ⟨0, 0, 0⟩⟩)) /\ (OwnV 68 w' lv1 vs1 /\ vs1.length = rows /\ ∀ u ∈ vs1, OwnC w' u (List.replicate cols ⟨0, 0, ⟨0, 0, 0⟩⟩)) /\ Kept (fun _ => False) w w' /\ w.heap.size <= p /\ g0 ≠ g1 /\ rp0 ≠ rp1 /\ (∃ m, (g0 < m /\ rp0 < m /\ (∀ b, lv0.ownBlock = some b -> b < m) /\ ∀ u ∈ vs0, ∀ b, u.ownBlock = some b -> b < m) /\ m <= g1 /\ m <= rp1 /\ (∀ b, lv1.ownBlock = some b -> m <= b) /\ ∀ u ∈ vs1, ∀ b, u.ownBlock = some b -> m <= b) /\ (w.heap.size <= g0 /\ w.heap.size <= rp0 /\ (∀ b, lv0.ownBlock = some b -> w.heap.size <= b) /\ ∀ u ∈ vs0, ∀ b, u.ownBlock = some b -> w.heap.size <= b) /\ (w.heap.size <= g1 /\ w.heap.size <= rp1 /\ (∀ b, lv1.ownBlock = some b -> w.heap.size <= b) /\ ∀ u ∈ vs1, ∀ b, u.ownBlock = some b -> w.heap.size <= b) /\ w.heap.size <= md /\ w.heap.size <= pv /\ w.heap.size <= st /\ w.heap.size <= tb
def snz : List Value := [.pointer none, .pointer none, .int .i64 0, .int .i64 0, .int .i64 0, .bool false, .int .i64 0, .int .i64 0, .int .i64 0, .bool false, .int .u8 0, .int .u8 0, .int .i64 0, .int .i64 0, .int .i64 0, .bool false, .int .i64 0, .int .i64 0, .int .i64 0, .bool false, .int .u8 0, .int .u8 0, .int .i64 0, .bool false, .int .i64 0, .int .i64 0, .bool false, .int .i64 0, .int .i64 0, .int .i64 0, .bool false, .int .u8 0, .int .u8 0, .int .i64 0, .bool false, .map none, .map none, .int .i64 0, .int .i64 0, .pointer none, .int .i32 0, .slice none 0 0]
set_option maxRecDepth 100000 in
set_option maxHeartbeats 8000000 in
theorem snew_any (rows cols cw ch back quota : Nat) (hr : 1 <= rows /\ rows <= 1000) (hc : 1 <= cols /\ cols <= 16) (hw : 1 <= cw /\ cw <= 64) (hh : 1 <= ch /\ ch <= 64) (hb : back <= 16384) (hq : quota <= 1073741824) (w : World) : Calls Tryz.prog 55 #[.agg #[.int .i64 rows, .int .i64 cols, .int .i64 cw, .int .i64 ch, .int .i64 back, .int .i64 quota]] w fun e w' => ∃ p, e = .returned (.tuple #[.pointer (some ⟨p, 0, none⟩), .int .i64 0]) /\ ScO w w' rows cols back p := by
 obtain ⟨V1, hV1⟩ : ∃ X, w.alloc (.cells #[.int .i64 rows, .int .i64 cols, .int .i64 cw, .int .i64 ch, .int .i64 back, .int .i64 quota] 64) = X := ⟨_, rfl⟩
 have k1 : Kept (fun _ => False) w V1 := by rw [<- hV1]; exact (Kept.refl _ _).alloc _
 have b1 : V1.heap[w.heap.size]? = some (.cells #[.int .i64 rows, .int .i64 cols, .int .i64 cw, .int .i64 ch, .int .i64 back, .int .i64 quota] 64 (0, 0)) := by rw [<- hV1]; exact blk_new _ _
 have x0 : V1.cell? ⟨w.heap.size, 0, none⟩ = some (.int .i64 rows) := blk_cell b1 0
 have x1 : V1.cell? ⟨w.heap.size, 1, none⟩ = some (.int .i64 cols) := blk_cell b1 1
 have x2 : V1.cell? ⟨w.heap.size, 2, none⟩ = some (.int .i64 cw) := blk_cell b1 2
 have x3 : V1.cell? ⟨w.heap.size, 3, none⟩ = some (.int .i64 ch) := blk_cell b1 3
 have x4 : V1.cell? ⟨w.heap.size, 4, none⟩ = some (.int .i64 back) := blk_cell b1 4
 have x5 : V1.cell? ⟨w.heap.size, 5, none⟩ = some (.int .i64 quota) := blk_cell b1 5
 have HC := Lib.hid (check_any rows cols cw ch back quota hr ⟨hc.1, by omega⟩ hw hh hb hq V1)
 have H1 := Lib.hid (And.intro k1 b1)
 clear k1 b1
 go_enter Tryz.func55, Tryz.ntmps55
 go_wp2_with fail
 refine HC.out.mono ?_
 rintro e w2 ⟨rfl, hk2⟩
 obtain ⟨V2, hV2⟩ : ∃ X, w2.alloc (.cells (snz).toArray 178) = X := ⟨_, rfl⟩
 have H2 := Lib.hid hk2
 clear hk2 x0 x1 x2 x3 x4 x5
 have k2 : Kept (fun _ => False) w2 V2 := by rw [<- hV2]; exact (Kept.refl _ _).alloc _
 have s2 : SnR V2 w2.heap.size snz := ⟨rfl, by rw [<- hV2]; exact blk_new _ _⟩
 obtain ⟨WR, hWR⟩ : ∃ WR, WR = V2.drew := ⟨_, rfl⟩
 have kR : Kept (fun _ => False) V2 WR := by rw [hWR]; exact (Kept.refl _ _).drew
 have b2 := kR.blk (k2.blk (H2.out.blk H1.out.2 id) id) id
 have X0 := cell_regrown (show WR.cell? ⟨w.heap.size, 0, none⟩ = some (.int .i64 rows) from blk_cell b2 0)
 have X1 := cell_regrown (show WR.cell? ⟨w.heap.size, 1, none⟩ = some (.int .i64 cols) from blk_cell b2 1)
 have X4 := cell_regrown (show WR.cell? ⟨w.heap.size, 4, none⟩ = some (.int .i64 back) from blk_cell b2 4)
 obtain ⟨R7, hR7⟩ : ∃ R : Value -> World -> Prop, R = fun v w' => ∃ x, Kept (fun _ => False) WR x /\ GN x rows cols back v w' := ⟨_, rfl⟩
 have HR7 := Lib.hid hR7
 have HWR := Lib.hid hWR
 have H3 := Lib.hid (And.intro (s2.kept kR id) (And.intro b2 ((H1.out.1.then H2.out).then (k2.then kR))))
 have HG := Lib.hid (fun (x : World) => gnew_any rows cols back x hr ⟨hc.1, by omega⟩ hb)
 unfold snz at hV2
 clear k2 s2 kR b2 hR7 hWR
 go_wp2
 refine wp_region_grow #[0, 0, 2, 0, 8, 0, 32, 126, 254, 510, 510, 1, 2049, 7167, 15359] 14 [10] (fun i => if i = 7 then some R7 else none) (by kernel_rfl) rfl (by kernel_rfl) (fun i hi => by simp at hi; subst hi; rfl) (fun _ _ _ _ _ h => h) ?_
 rintro _ rfl
 rw [<- HWR.out]
 simp only [List.take_succ_cons, List.take_zero, List.drop_succ_cons, List.drop_zero, number, Nat.reduceAdd]
 iterate 7 (refine wpGrow_step (fun K hK => ?_); go_simp; refine hK _ _ ?_; clear hK K)
 refine wpGrow_step (fun K hK => ?_)
 go_simp
 refine ⟨fun w' hg => (HG.out w').mono (fun e w'' ⟨p, rp, lv, vs, he, h1, h2, h3, h4, h5, h6, h7⟩ => ⟨_, he, h6.k, by rw [HR7.out]; exact ⟨w', hg.old, p, rp, lv, vs, rfl, h1, h2, h3, h4, h5, h6, h7⟩⟩), fun v7 w7 hv7 _ => ?_⟩
 rw [HR7.out] at hv7
 obtain ⟨x7, hx7, g0, rp0, lv0, vs0, rfl, hgn⟩ := hv7
 have H7 := Lib.hid (And.intro hx7 hgn)
 clear hx7 hgn
 refine hK _ _ ?_; clear hK K
 iterate 6 (refine wpGrow_step (fun K hK => ?_); go_simp; refine hK _ _ ?_; clear hK K)
 refine wpGrow_nil ?_
 intro w10 hk10 hω
 have hk7 : Kept (fun _ => False) w7 w10 := hω 7
 obtain ⟨V11, u11, hV11, c11, f11, s11, k11⟩ := (H3.out.1.kept hk10 id).set 0 (by omega) (.pointer (some ⟨g0, 0, none⟩))
 have b11 := k11.blk (hk10.blk H3.out.2.1 id) (show ¬ w.heap.size = w2.heap.size by have := lt_of_blk (H2.out.blk H1.out.2 id); omega)
 obtain ⟨WS, hWS⟩ : ∃ WS, WS = V11.drew := ⟨_, rfl⟩
 have kS : Kept (fun _ => False) V11 WS := by rw [hWS]; exact (Kept.refl _ _).drew
 have b12 := kS.blk b11 id
 have Y0 := cell_regrown (show WS.cell? ⟨w.heap.size, 0, none⟩ = some (.int .i64 rows) from blk_cell b12 0)
 have Y1 := cell_regrown (show WS.cell? ⟨w.heap.size, 1, none⟩ = some (.int .i64 cols) from blk_cell b12 1)
 obtain ⟨R5, hR5⟩ : ∃ R : Value -> World -> Prop, R = fun v w' => ∃ x, Kept (fun _ => False) WS x /\ GN x rows cols 0 v w' := ⟨_, rfl⟩
 have HR5 := Lib.hid hR5
 have HWS := Lib.hid hWS
 have H11 := Lib.hid (And.intro (s11.kept kS id) (And.intro hk10 (And.intro hk7 (And.intro k11 kS))))
 have HG5 := Lib.hid (fun (x : World) => show Calls Tryz.prog 94 #[.int .i64 rows, .int .i64 cols, .int .i64 0] x _ from gnew_any rows cols 0 x hr ⟨hc.1, by omega⟩ (by omega))
 clear hk10 hω hk7 s11 k11 b11 kS b12 hR5 hWS X0 X1 X4
 go_wp2
 refine wp_region_grow #[0, 0, 2, 0, 8, 30, 62, 126, 126, 1, 513, 1791, 3839] 12 [8] (fun i => if i = 5 then some R5 else none) (by kernel_rfl) rfl (by kernel_rfl) (fun i hi => by simp at hi; subst hi; rfl) (fun _ _ _ _ _ h => h) ?_
 rintro _ rfl
 rw [<- HWS.out]
 simp only [List.take_succ_cons, List.take_zero, List.drop_succ_cons, List.drop_zero, number, Nat.reduceAdd]
 iterate 5 (refine wpGrow_step (fun K hK => ?_); go_simp; refine hK _ _ ?_; clear hK K)
 refine wpGrow_step (fun K hK => ?_)
 go_simp
 refine ⟨fun w' hg => (HG5.out w').mono (fun e w'' ⟨p, rp, lv, vs, he, h1, h2, h3, h4, h5, h6, h7⟩ => ⟨_, he, h6.k, by rw [HR5.out]; exact ⟨w', hg.old, p, rp, lv, vs, rfl, h1, h2, h3, h4, h5, h6, h7⟩⟩), fun v5 w5 hv5 _ => ?_⟩
 rw [HR5.out] at hv5
 obtain ⟨x5, hx5, g1, rp1, lv1, vs1, rfl, hgn⟩ := hv5
 have H5 := Lib.hid (And.intro hx5 hgn)
 clear hx5 hgn
 refine hK _ _ ?_; clear hK K
 iterate 6 (refine wpGrow_step (fun K hK => ?_); go_simp; refine hK _ _ ?_; clear hK K)
 refine wpGrow_nil ?_
 intro w20 hk20 hω
 have hk5 : Kept (fun _ => False) w5 w20 := hω 5
 obtain ⟨V21, u21, hV21, c21, f21, s21, k21⟩ := (H11.out.1.kept hk20 id).set 1 (by omega) (.pointer (some ⟨g1, 0, none⟩))
 have hpW : w2.heap.size < WR.heap.size := lt_of_blk H3.out.1.2
 have hp7 : w2.heap.size < x7.heap.size := Nat.lt_of_lt_of_le hpW H7.out.1.size
 have hgp : ∀ j, x7.heap.size <= j -> ¬ j = w2.heap.size := fun j hj => by omega
 have hp5 : w2.heap.size < x5.heap.size := Nat.lt_of_lt_of_le (lt_of_blk H11.out.1.2) H5.out.1.size
 have K0 : Kept (fun i => i = w2.heap.size) w7 V21 := ((H11.out.2.2.1.mono fun _ _ h => h.elim).then (H11.out.2.2.2.1.then ((H11.out.2.2.2.2.mono fun _ _ h => h.elim).then (hk20.mono fun _ _ h => h.elim)))).then k21
 have K1 : Kept (fun i => i = w2.heap.size) w5 V21 := (hk5.mono fun _ _ h => h.elim).then k21
 have G0 := K0.blk H7.out.2.2.2.2.1 (hgp g0 H7.out.2.1)
 have HF := Lib.hid (fresh_any w2.heap.size g0 g1 rp0 rows cols lv0 0 V21 s21 G0 hc)
 have H21 := Lib.hid (And.intro K0 (And.intro K1 (And.intro hp7 (And.intro hp5 (And.intro hk20 k21)))))
 clear hpW hp7 hgp hp5 K0 K1 G0 hk20 hω hk5 s21 k21 Y0 Y1
 go_wp2_with fail
 refine HF.out.mono ?_
 rintro e w30 ⟨⟨x30, rfl⟩, md, pv, st, tb, hf⟩
 have H30 := Lib.hid hf
 clear hf
 go_wp2
 refine bodyPost_ret (v := .tuple #[.pointer (some ⟨w2.heap.size, 0, none⟩), .int .i64 0]) (by simp [results, Tryz.results55, go_sem]) rfl ⟨_, rfl, ?_⟩
 obtain ⟨hs, hm1, hm2, hst, hmt, hkf, hn1, hn2, hn3, hn4⟩ := H30.out
 have q0 : w.heap.size <= x7.heap.size := Nat.le_trans H3.out.2.2.size H7.out.1.size
 have q1 : x7.heap.size <= w7.heap.size := H7.out.2.2.2.2.2.2.1.k.size
 have q2 : w7.heap.size <= V21.heap.size := H21.out.1.size
 have hk0 := H21.out.1.then hkf
 have hk1 := H21.out.2.1.then hkf
 have hp7 := H21.out.2.2.1
 have hp5 := H21.out.2.2.2.1
 obtain ⟨z1, z2, z3, z4, z5, z6, z7, z8⟩ := H7.out.2
 obtain ⟨y1, y2, y3, y4, y5, y6, y7, y8⟩ := H5.out.2
 have hw75 : w7.heap.size <= x5.heap.size := Nat.le_trans (Nat.le_trans H11.out.2.2.1.size (Nat.le_trans H11.out.2.2.2.1.size H11.out.2.2.2.2.size)) H5.out.1.size
 have hg0 := lt_of_blk z4
 have hr0 := lt_of_blk z5
 refine ⟨g0, rp0, lv0, vs0, g1, rp1, lv1, vs1, md, pv, st, tb, hs, hm1, hm2, hst, hmt, hk0.blk z4 (show ¬ g0 = w2.heap.size by omega), hk0.blk z5 (show ¬ rp0 = w2.heap.size by omega), hk1.blk y4 (show ¬ g1 = w2.heap.size by omega), hk1.blk y5 (show ¬ rp1 = w2.heap.size by omega), ?_, ?_, ?_, ?_, by omega, by omega, ⟨x5.heap.size, ⟨by omega, by omega, fun b hb => by have := z6.own.lt b hb; omega, fun u hu b hb => by have := (z6.all u hu).1.lt b hb; omega⟩, y1, y2, y6.new, fun u hu => (y6.all u hu).2⟩, ⟨by omega, by omega, fun b hb => by have := z6.new b hb; omega, fun u hu b hb => by have := (z6.all u hu).2 b hb; omega⟩, ⟨by omega, by omega, fun b hb => by have := y6.new b hb; omega, fun u hu b hb => by have := (y6.all u hu).2 b hb; omega⟩, by omega, by omega, by omega, by omega⟩
 ·exact ⟨z6.own.kept hk0 (fun b hb => show ¬ b = w2.heap.size by have := z6.new b hb; omega), z6.len, fun u hu => (z6.all u hu).1.kept hk0 (fun b hb => show ¬ b = w2.heap.size by have := (z6.all u hu).2 b hb; omega)⟩
 ·exact ⟨y6.own.kept hk1 (fun b hb => show ¬ b = w2.heap.size by have := y6.new b hb; omega), y6.len, fun u hu => (y6.all u hu).1.kept hk1 (fun b hb => show ¬ b = w2.heap.size by have := (y6.all u hu).2 b hb; omega)⟩
 ·have hz := (H1.out.1.then H2.out).size
  exact (H3.out.2.2.then (H7.out.1.then z6.k)).trans (hk0.mono fun i _ h => Or.inr (by have h9 : i = w2.heap.size := h; omega))
 ·exact (H1.out.1.then H2.out).size
end Go.Proofs.YtmplpcmcbliadaaGreatDoor
namespace Go.Proofs.YtmplpcmcbliadaaGreatDoor
open Go.RowKit Go.Sort Pl
theorem SnB.at {w : World} {p : Nat} {s : Sn} (h : SnB w p s) (i : Nat) (hi : i < 13) (u : Value) (s' : Sn) (hl : s.lo.set i u = s'.lo) (hv : s.v = s'.v) (hh : s.hi = s'.hi) : ∃ V, w.setCell ⟨p, i, none⟩ u = V /\ (∃ x, w.cell? ⟨p, i, none⟩ = some x) /\ w.frozen? ⟨p, i, none⟩ = false /\ SnB V p s' /\ Kept (fun i => i = p) w V := by
 refine ⟨_, rfl, ?_, h.free i, h.putLo i hi u hl hv hh, (Kept.refl (fun i => i = p) w).setCell (p := ⟨p, i, none⟩) (.inl rfl) _⟩
 rw [h.lo hi]
 exact ⟨_, List.getElem?_eq_getElem (by simpa using hi)⟩
theorem SnB.atH {w : World} {p : Nat} {s : Sn} (h : SnB w p s) (i : Nat) (hi : i < 7) (u : Value) (s' : Sn) (hl : s.lo = s'.lo) (hv : s.v = s'.v) (hh : s.hi.set i u = s'.hi) : ∃ V, w.setCell ⟨p, 35 + i, none⟩ u = V /\ (∃ x, w.cell? ⟨p, 35 + i, none⟩ = some x) /\ w.frozen? ⟨p, 35 + i, none⟩ = false /\ SnB V p s' /\ Kept (fun i => i = p) w V := by
 refine ⟨_, rfl, ?_, h.free _, h.putHi i hi u hl hv hh, (Kept.refl (fun i => i = p) w).setCell (p := ⟨p, 35 + i, none⟩) (.inl rfl) _⟩
 rw [h.hi hi]
 exact ⟨_, List.getElem?_eq_getElem (by simpa using hi)⟩
def Sn.to (s : Sn) (R C : Int) : Sn := { s with c := { s.c with row := R, col := C, wrap := false } }
set_option maxRecDepth 100000 in
theorem sto_any (p rp rows cols : Nat) (lv : Value) (top : Int) (s : Sn) (row col R C : Int) (w : World) (h : SnB w p s) (hg : GrB w s.g0 rp rows cols lv top) (hr : 1 <= rows /\ rows <= 1000) (hc : 1 <= cols /\ cols <= 1000) (hR : min (max row 0) ((rows : Int) - 1) = R) (hC : min (max col 0) ((cols : Int) - 1) = C) : Calls Tryz.prog 182 #[.pointer (some ⟨p, 0, none⟩), .int .i64 row, .int .i64 col] w fun e w' => (∃ x, e = .returned x) /\ SnB w' p (s.to R C) /\ Kept (fun i => i = p) w w' := by
 have HG := Lib.hid (ssize_any p rp rows cols lv top s w h hg)
 have w1 : IntKind.i64.wrap ((rows : Int) - 1) = (rows : Int) - 1 := IntWalk.i64_in _ (by omega)
 have w2 : IntKind.i64.wrap ((cols : Int) - 1) = (cols : Int) - 1 := IntWalk.i64_in _ (by omega)
 have HR := Lib.hid (fun (x : World) => show Calls Tryz.prog 254 #[.int .i64 row, .int .i64 0, .int .i64 ((rows : Int) - 1)] x fun e w' => e = .returned (.int .i64 R) /\ x = w' from by
  have h9 := scut_any row 0 ((rows : Int) - 1) x
  rw [hR] at h9
  exact h9)
 have HC := Lib.hid (fun (x : World) => show Calls Tryz.prog 254 #[.int .i64 col, .int .i64 0, .int .i64 ((cols : Int) - 1)] x fun e w' => e = .returned (.int .i64 C) /\ x = w' from by
  have h9 := scut_any col 0 ((cols : Int) - 1) x
  rw [hC] at h9
  exact h9)
 have HS := Lib.hid h
 clear h hg hR hC
 go_enter Tryz.func182, Tryz.ntmps182
 go_wp2_with fail
 refine HG.out.mono ?_
 rintro e w3 ⟨rfl, hk⟩
 obtain ⟨V1, e1, ⟨y1, c1⟩, f1, s1, k1⟩ := (HS.out.kept hk id).at 3 (by omega) (.int .i64 R) { s with c := { s.c with row := R } } rfl rfl rfl
 obtain ⟨V2, e2, ⟨y2, c2⟩, f2, s2, k2⟩ := s1.at 4 (by omega) (.int .i64 C) { s with c := { s.c with row := R, col := C } } rfl rfl rfl
 obtain ⟨V3, e3, ⟨y3, c3⟩, f3, s3, k3⟩ := s2.at 5 (by omega) (.bool false) (s.to R C) rfl rfl rfl
 have H3 := Lib.hid (And.intro s3 ((hk.mono fun _ _ h => h.elim).then (k1.then (k2.then k3))))
 clear hk s1 s2 s3 k1 k2 k3
 go_wp2_with fail
 refine (HR.out w3).mono ?_
 rintro e w4 ⟨rfl, rfl⟩
 go_wp2_with fail
 refine (HC.out w3).mono ?_
 rintro e w5 ⟨rfl, rfl⟩
 go_wp2
 go_end0
 exact ⟨⟨_, rfl⟩, H3.out⟩
set_option maxRecDepth 100000 in
theorem sblank_any (p : Nat) (s : Sn) (w : World) (h : SnB w p s) : Calls Tryz.prog 253 #[.pointer (some ⟨p, 0, none⟩)] w fun e w' => e = .returned (lookV ⟨0, s.c.a.bg, 0⟩) /\ Kept (fun _ => False) w w' := by
 have y := (h.kept (show Kept (fun _ => False) w (w.alloc (.cells #[.int .i64 0, .int .i64 0, .int .i64 0] 53)) from (Kept.refl _ _).alloc _) id).cells
 obtain ⟨-, -, -, -, -, -, -, y7, -⟩ := y
 clear h
 go_enter Tryz.func253, Tryz.ntmps253
 go_wp2
 obtain ⟨V, hV⟩ : ∃ X, w.alloc (.cells #[.int .i64 0, .int .i64 s.c.a.bg, .int .i64 0] 53) = X := ⟨_, rfl⟩
 have kV : Kept (fun _ => False) w V := by rw [<- hV]; exact (Kept.refl _ _).alloc _
 have bV : V.heap[w.heap.size]? = some (.cells #[.int .i64 0, .int .i64 s.c.a.bg, .int .i64 0] 53 (0, 0)) := by rw [<- hV]; exact blk_new _ _
 have l0 := blk_cell bV 0
 have l1 := blk_cell bV 1
 have l2 := blk_cell bV 2
 rw [hV]
 refine bodyPost_ret (v := lookV ⟨0, s.c.a.bg, 0⟩) (w := V) ?_ rfl ⟨rfl, kV⟩
 simp at l0 l1 l2
 simp [results, Tryz.results253, go_sem, l0, l1, l2, lookV]
attribute [local go_sem] growOp growUpon sameUpon
def LnsOk (G : Nat -> Prop) (w : World) (vs : List Value) (L : List (List Cl)) : Prop := vs.length = L.length /\ ∀ (i : Nat) (u : Value) (l : List Cl), vs[i]? = some u -> L[i]? = some l -> OwnC w u l /\ ∀ b, u.ownBlock = some b -> G b
theorem LnsOk.nil (G : Nat -> Prop) (w : World) : LnsOk G w [] [] := ⟨rfl, fun i u l h => by simp at h⟩
theorem LnsOk.kept {G S : Nat -> Prop} {w w' : World} {vs : List Value} {L : List (List Cl)} (h : LnsOk G w vs L) (hk : Kept S w w') (hn : ∀ i, G i -> ¬ S i) : LnsOk G w' vs L :=
 ⟨h.1, fun i u l hu hl => ⟨(h.2 i u l hu hl).1.kept hk (fun b hb => hn b ((h.2 i u l hu hl).2 b hb)), (h.2 i u l hu hl).2⟩⟩
theorem LnsOk.kept' {G S : Nat -> Prop} {w w' : World} {vs : List Value} {L : List (List Cl)} (h : LnsOk G w vs L) (hk : Kept S w w') (hn : ∀ i c, w.heap[i]? = some (.cells c 70 (0, 0)) -> ¬ S i) : LnsOk G w' vs L :=
 ⟨h.1, fun i u l hu hl => ⟨(h.2 i u l hu hl).1.kept hk (fun b hb => by obtain ⟨c, hc⟩ := ownC_blk (h.2 i u l hu hl).1 hb; exact hn b c hc), (h.2 i u l hu hl).2⟩⟩
theorem LnsOk.mono {G G' : Nat -> Prop} {w : World} {vs : List Value} {L : List (List Cl)} (h : LnsOk G w vs L) (hg : ∀ i, G i -> G' i) : LnsOk G' w vs L :=
 ⟨h.1, fun i u l hu hl => ⟨(h.2 i u l hu hl).1, fun b hb => hg b ((h.2 i u l hu hl).2 b hb)⟩⟩
theorem LnsOk.get {G : Nat -> Prop} {w : World} {vs : List Value} {L : List (List Cl)} (h : LnsOk G w vs L) {i : Nat} {l : List Cl} (hl : L[i]? = some l) : ∃ u, vs[i]? = some u /\ OwnC w u l /\ ∀ b, u.ownBlock = some b -> G b := by
 have hi : i < vs.length := by rw [h.1]; exact (List.getElem?_eq_some_iff.1 hl).1
 exact ⟨_, List.getElem?_eq_getElem hi, h.2 i _ l (List.getElem?_eq_getElem hi) hl⟩
theorem LnsOk.set {G : Nat -> Prop} {w : World} {vs : List Value} {L : List (List Cl)} (h : LnsOk G w vs L) (i : Nat) {u : Value} {l : List Cl} (hu : OwnC w u l) (hb : ∀ b, u.ownBlock = some b -> G b) : LnsOk G w (vs.set i u) (L.set i l) := by
 refine ⟨by simp [h.1], fun j x y hx hy => ?_⟩
 by_cases hij : i = j
 ·subst hij
  rw [List.getElem?_set_self' ] at hx hy
  cases hv : vs[i]? with
  | none => rw [hv] at hx; simp at hx
  | some _ =>
   rw [hv] at hx
   cases hL : L[i]? with
   | none => rw [hL] at hy; simp at hy
   | some _ =>
    rw [hL] at hy
    simp at hx hy
    subst hx; subst hy
    exact ⟨hu, hb⟩
 ·rw [List.getElem?_set_ne hij] at hx hy
  exact h.2 j x y hx hy
theorem LnsOk.append {G : Nat -> Prop} {w : World} {vs us : List Value} {L M : List (List Cl)} (h : LnsOk G w vs L) (h2 : LnsOk G w us M) : LnsOk G w (vs ++ us) (L ++ M) := by
 refine ⟨by simp [h.1, h2.1], fun j x y hx hy => ?_⟩
 by_cases hj : j < vs.length
 ·rw [List.getElem?_append_left hj] at hx
  rw [List.getElem?_append_left (by rw [<- h.1]; exact hj)] at hy
  exact h.2 j x y hx hy
 ·rw [List.getElem?_append_right (by omega)] at hx
  rw [List.getElem?_append_right (by rw [<- h.1]; omega), <- h.1] at hy
  exact h2.2 _ x y hx hy
theorem LnsOk.drop {G : Nat -> Prop} {w : World} {vs : List Value} {L : List (List Cl)} (h : LnsOk G w vs L) (k : Nat) : LnsOk G w (vs.drop k) (L.drop k) :=
 ⟨by simp [h.1], fun j x y hx hy => h.2 (k + j) x y (by rw [<- List.getElem?_drop]; exact hx) (by rw [<- List.getElem?_drop]; exact hy)⟩
theorem LnsOk.rep {G : Nat -> Prop} {w : World} {vs : List Value} {l : List Cl} {n : Nat} (hn : vs.length = n) (h : ∀ u ∈ vs, OwnC w u l /\ ∀ b, u.ownBlock = some b -> G b) : LnsOk G w vs (List.replicate n l) := by
 refine ⟨by simp [hn], fun j x y hx hy => ?_⟩
 have hy2 := List.mem_replicate.1 (List.mem_of_getElem? hy)
 obtain ⟨-, rfl⟩ := hy2
 exact h x (List.mem_of_getElem? hx)
theorem ownC_one {w : World} {u : Value} {l : List Cl} (h : OwnC w u l) : u.oneCell' = true := by
 obtain ⟨a, c, rfl, -⟩ := h.shape
 rfl
theorem LnsOk.one {G : Nat -> Prop} {w : World} {vs : List Value} {L : List (List Cl)} (h : LnsOk G w vs L) : ∀ u ∈ vs, u.oneCell' = true := by
 intro u hu
 obtain ⟨i, hi⟩ := List.getElem?_of_mem hu
 have hl : i < L.length := by rw [<- h.1]; exact (List.getElem?_eq_some_iff.1 hi).1
 exact ownC_one (h.2 i u _ hi (List.getElem?_eq_getElem hl)).1
structure GrK (G : Nat -> Prop) (w : World) (g rows cols most : Nat) (top : Int) (gone : Nat) (L B : List (List Cl)) (rp : Nat) (lv rv : Value) (vs rs : List Value) (at' : Nat) : Prop where
 gb : GrB w g rp rows cols lv top
 rb : RnA w rp most rv at' gone
 lo : OwnV 68 w lv vs
 ro : OwnV 68 w rv rs
 ll : LnsOk G w vs L
 rl : LnsOk G w (rs.drop at' ++ rs.take at') B
 ra : (at' = 0 /\ rs.length <= most) \/ (at' < rs.length /\ rs.length = most)
 gt : (gone : Int) <= top
 mx : most <= 65536
 gm : G g
 rm : G rp
 lm : ∀ b, lv.ownBlock = some b -> G b
 om : ∀ b, rv.ownBlock = some b -> G b
 ne : ∀ b, lv.ownBlock = some b -> rv.ownBlock ≠ some b
 nr : L.length = rows
 nc : ∀ l ∈ L, l.length = cols
 bc : ∀ l ∈ B, l.length = cols
 hr : 1 <= rows /\ rows <= 1000
 hc : 1 <= cols /\ cols <= 1000
section
variable {G S : Nat -> Prop} {w w' : World} {g rows cols most : Nat} {top : Int} {gone : Nat} {L B : List (List Cl)} {rp : Nat} {lv rv : Value} {vs rs : List Value} {at' : Nat}
theorem GrK.kept (h : GrK G w g rows cols most top gone L B rp lv rv vs rs at') (hk : Kept S w w') (hn : ∀ i, G i -> ¬ S i) : GrK G w' g rows cols most top gone L B rp lv rv vs rs at' :=
 ⟨hk.blk h.gb (hn _ h.gm), hk.blk h.rb (hn _ h.rm), h.lo.kept hk (fun b hb => hn b (h.lm b hb)), h.ro.kept hk (fun b hb => hn b (h.om b hb)), h.ll.kept hk hn, h.rl.kept hk hn, h.ra, h.gt, h.mx, h.gm, h.rm, h.lm, h.om, h.ne, h.nr, h.nc, h.bc, h.hr, h.hc⟩
theorem GrK.up (h : GrK G w g rows cols most top gone L B rp lv rv vs rs at') (hk : Kept (fun _ => False) w w') : GrK G w' g rows cols most top gone L B rp lv rv vs rs at' := h.kept hk (fun _ _ => id)
theorem GrK.mono {G' : Nat -> Prop} (h : GrK G w g rows cols most top gone L B rp lv rv vs rs at') (hg : ∀ i, G i -> G' i) : GrK G' w g rows cols most top gone L B rp lv rv vs rs at' :=
 ⟨h.gb, h.rb, h.lo, h.ro, h.ll.mono hg, h.rl.mono hg, h.ra, h.gt, h.mx, hg _ h.gm, hg _ h.rm, fun b hb => hg b (h.lm b hb), fun b hb => hg b (h.om b hb), h.ne, h.nr, h.nc, h.bc, h.hr, h.hc⟩
end
def Gn (G : Nat -> Prop) (w w' : World) (i : Nat) : Prop := G i \/ (w.heap.size <= i /\ i < w'.heap.size)
theorem Gn.of {G : Nat -> Prop} {w w' : World} : ∀ i, G i -> Gn G w w' i := fun _ h => .inl h
theorem Gn.new {G : Nat -> Prop} {w w' : World} : ∀ i, Gn G w w' i -> G i \/ w.heap.size <= i := fun i h => h.imp id (fun h => h.1)
theorem Gn.lt {G : Nat -> Prop} {w w' : World} (hz : w.heap.size <= w'.heap.size) (h : ∀ i, G i -> i < w.heap.size) : ∀ i, Gn G w w' i -> i < w'.heap.size := fun i hi => by
 rcases hi with h1 | h1
 ·have := h i h1; omega
 ·exact h1.2
theorem list_set_mem {α : Type} {P : α -> Prop} {l : List α} {i : Nat} {x : α} (h : ∀ y ∈ l, P y) (hx : P x) : ∀ y ∈ l.set i x, P y := fun y hy => by
 rcases List.mem_or_eq_of_mem_set hy with h1 | h1
 ·exact h y h1
 ·rw [h1]; exact hx
set_option maxRecDepth 100000 in
set_option maxHeartbeats 8000000 in
theorem gchange_any (G : Nat -> Prop) (g rows cols most : Nat) (top : Int) (gone : Nat) (L B : List (List Cl)) (rp : Nat) (lv rv : Value) (vs rs : List Value) (at' : Nat) (row : Nat) (pa pb pc : Value) (l l' : List Cl) (w : World)
  (h : GrK G w g rows cols most top gone L B rp lv rv vs rs at') (hl : L[row]? = some l) (hl' : l'.length = cols)
  (hf : ∀ (x : World) (bg c : Nat), Kept (fun _ => False) w x -> OwnC x (.slice (some ⟨bg, 0, none⟩) cols c) l -> Calls Tryz.prog 272 #[.slice (some ⟨bg, 0, none⟩) cols c, pa, pb, pc] x fun e x' => ∃ v, e = .returned v /\ MadeC x l' v x')
  (hz : ∀ (x : World) (bg c : Nat), OwnC x (.slice (some ⟨bg, 0, none⟩) cols c) l' -> Calls Tryz.prog 350 #[.slice (some ⟨bg, 0, none⟩) cols c, .int .i64 cols] x fun e x' => ∃ v, e = .returned v /\ MadeC x l' v x') :
  Calls Tryz.prog 271 #[.pointer (some ⟨g, 0, none⟩), .int .i64 row, .func (.func 272) #[] #[pa, pb, pc]] w fun e w' => (∃ x, e = .returned x) /\ (∃ us, GrK (Gn G w w') w' g rows cols most top gone (L.set row l') B rp lv rv us rs at') /\ Kept (fun i => lv.ownBlock = some i) w w' := by
 have hrow : row < rows := by rw [<- h.nr]; exact (List.getElem?_eq_some_iff.1 hl).1
 obtain ⟨x0, x1, x2, x3, x4⟩ := blk5c h.gb
 have HI := Lib.hid (fun (x : World) (k : GrB x g rp rows cols lv top) => show Calls Tryz.prog 102 #[.pointer (some ⟨g, 0, none⟩), .int .i64 row] x fun e w' => e = .returned (.bool true) /\ x = w' from by
  have h9 := gis_any g rp rows cols lv top row x k
  rw [show decide (row < rows) = true from decide_eq_true hrow] at h9
  exact h9)
 have HG := Lib.hid h
 have hvn : vs.length = rows := by rw [h.ll.1, h.nr]
 obtain ⟨al, cl, hlv, -, -, -, hsm, -⟩ := h.lo.shape
 rw [hvn] at hlv hsm
 subst hlv
 obtain ⟨lg, rfl⟩ := hsm (by omega)
 obtain ⟨u, hu, ho, hub⟩ := h.ll.get hl
 have hlc : l.length = cols := h.nc l (List.mem_of_getElem? hl)
 have hat := h.lo.at.2.2.2.1 row hrow
 rw [hu] at hat
 obtain ⟨ug, uc, cur, hue, -⟩ := ho.blk (by rw [hlc]; have := h.hc; omega)
 rw [hlc] at hue
 subst hue
 have HO := Lib.hid (And.intro ho (And.intro hub (And.intro hl' hl)))
 have i0 : (0 : Int) <= (row : Int) := by omega
 have i1 : (row : Int) < (rows : Int) := by omega
 have i2 : row < rows := hrow
 obtain ⟨WR, hWR⟩ : ∃ WR, WR = w.drew := ⟨_, rfl⟩
 have kR : Kept (fun _ => False) w WR := by rw [hWR]; exact (Kept.refl _ _).drew
 have X2 := cell_regrown (show WR.cell? ⟨g, 2, none⟩ = some (.int .i64 cols) from kR.cell x2 id)
 have X3 := cell_regrown (show WR.cell? ⟨g, 3, none⟩ = _ from kR.cell x3 id)
 have XA := cell_regrown (show WR.cell? ⟨lg, row, none⟩ = some (.slice (some ⟨ug, 0, none⟩) cols uc) from kR.cell (by simpa using hat) id)
 obtain ⟨R, hR⟩ : ∃ R : Value -> World -> Prop, R = fun v w' => ∃ b c, v = .slice (some ⟨b, 0, none⟩) cols c /\ OwnC w' (.slice (some ⟨b, 0, none⟩) cols c) l' /\ WR.heap.size <= b := ⟨_, rfl⟩
 have HRR := Lib.hid hR
 have HWR := Lib.hid (And.intro hWR kR)
 have HF := Lib.hid hf
 have HZ := Lib.hid hz
 have HMK := Lib.hid (fun (x x' : World) (v : Value) (hx : WR.heap.size <= x.heap.size) (hm : MadeC x l' v x') => show ∃ b c, v = .slice (some ⟨b, 0, none⟩) cols c /\ OwnC x' (.slice (some ⟨b, 0, none⟩) cols c) l' /\ WR.heap.size <= b from by
  obtain ⟨h1, h2, h3⟩ := hm
  obtain ⟨b, c, cur, hv, -⟩ := h1.blk (by rw [hl']; have := h.hc; omega)
  rw [hl'] at hv
  subst hv
  exact ⟨b, c, rfl, h1, Nat.le_trans hx (h3 b rfl)⟩)
 clear h x0 x1 x2 x3 x4 ho hub hl' hl hu hat hf hz hR hWR kR hsm hlc hvn hrow
 go_enter Tryz.func271, Tryz.ntmps271
 go_wp2_with fail
 refine (HI.out w HG.out.gb).mono ?_
 rintro e w1 ⟨rfl, rfl⟩
 go_wp2
 refine wp_region_grow #[0, 1, 3, 7, 0, 0, 0, 64, 192, 448, 0, 1984, 4032, 8160, 0, 16384, 49152, 114688, 262112, 524287, 1048575] 19 [] (fun i => if i = 13 then some R else if i = 18 then some R else none) (by kernel_rfl) rfl (by kernel_rfl) (fun i hi => by cases hi) (fun _ _ _ _ _ h => h) ?_
 rintro _ rfl
 rw [<- HWR.out.1]
 simp only [List.take_succ_cons, List.take_zero, List.drop_succ_cons, List.drop_zero, number, Nat.reduceAdd]
 iterate 13 (refine wpGrow_step (fun K hK => ?_); go_simp; refine hK _ _ ?_; clear hK K)
 refine wpGrow_step (fun K hK => ?_)
 go_simp
 refine ⟨fun w' hg => (HF.out w' ug uc (HWR.out.2.then hg.old) (HO.out.1.kept (HWR.out.2.then hg.old) (fun _ _ => id))).mono (fun e w'' ⟨v, he, hm⟩ => ⟨_, he, hm.2.1, by rw [HRR.out]; exact HMK.out w' w'' v hg.old.size hm⟩), fun v13 w13 hv13 _ => ?_⟩
 rw [HRR.out] at hv13
 obtain ⟨b13, c13, rfl, ho13⟩ := hv13
 have H13 := Lib.hid ho13
 clear ho13
 refine hK _ _ ?_; clear hK K
 iterate 4 (refine wpGrow_step (fun K hK => ?_); go_simp; refine hK _ _ ?_; clear hK K)
 refine wpGrow_step (fun K hK => ?_)
 go_simp
 refine ⟨fun w' hg => (HZ.out w' b13 c13 (H13.out.1.kept (hg.seen 13 (by kernel_rfl)) (fun _ _ => id))).mono (fun e w'' ⟨v, he, hm⟩ => ⟨_, he, hm.2.1, by rw [HRR.out]; exact HMK.out w' w'' v hg.old.size hm⟩), fun v18 w18 hv18 _ => ?_⟩
 rw [HRR.out] at hv18
 obtain ⟨b18, c18, rfl, ho18⟩ := hv18
 have H18 := Lib.hid ho18
 clear ho18
 refine hK _ _ ?_; clear hK K
 refine wpGrow_nil ?_
 intro w20 hk20 hω
 have hk18 : Kept (fun _ => False) w18 w20 := hω 18
 have hG20 := HG.out.up (HWR.out.2.then hk20)
 have ho20 := H18.out.1.kept hk18 (fun _ _ => id)
 have hz20 : WR.heap.size <= w20.heap.size := hk20.size
 have hb18 : b18 < w20.heap.size := ho20.lt b18 rfl
 obtain ⟨V, hV⟩ : ∃ V, w20.setCell ⟨lg, row, none⟩ (.slice (some ⟨b18, 0, none⟩) cols c18) = V := ⟨_, rfl⟩
 have kV : Kept (fun i => i = lg) w20 V := by rw [<- hV]; exact (Kept.refl (fun i => i = lg) w20).setCell (p := ⟨lg, row, none⟩) (.inl rfl) _
 have hlo := hG20.lo.set row (x := .slice (some ⟨b18, 0, none⟩) cols c18) rfl
 rw [hV] at hlo
 obtain ⟨cb, hcb⟩ := ownV_blk hG20.lo (b := lg) rfl
 have lb4 := hG20.lo.at.2.2.2.1 row i2
 have lb5 := hG20.lo.at.2.2.2.2 row
 have hun : ∃ y, vs[row]? = some y := ⟨_, List.getElem?_eq_getElem (by rw [hG20.ll.1, hG20.nr]; exact i2)⟩
 obtain ⟨y, hy⟩ := hun
 rw [hy] at lb4
 have hfin : GrK (Gn G w V) V g rows cols most top gone (L.set row l') B rp (.slice (some ⟨lg, 0, none⟩) rows cl) rv (vs.set row (.slice (some ⟨b18, 0, none⟩) cols c18)) rs at' := by
  have n70 : ∀ i c, w20.heap[i]? = some (.cells c 70 (0, 0)) -> ¬ (fun i => i = lg) i := fun i c hi e => by
   have e2 : i = lg := e
   subst e2
   exact blk_ty2 hi hcb (by decide)
  have hzV : w20.heap.size <= V.heap.size := kV.size
  have hz0 := HWR.out.2.size
  refine ⟨kV.blk hG20.gb (fun e => ?_), kV.blk hG20.rb (fun e => ?_), hlo, hG20.ro.kept kV (fun b hb e => ?_), ?_, (hG20.rl.kept' kV n70).mono Gn.of, hG20.ra, hG20.gt, hG20.mx, .inl hG20.gm, .inl hG20.rm, fun b hb => .inl (hG20.lm b hb), fun b hb => .inl (hG20.om b hb), hG20.ne, by rw [List.length_set]; exact hG20.nr, list_set_mem hG20.nc HO.out.2.2.1, hG20.bc, hG20.hr, hG20.hc⟩
  ·have e2 : g = lg := e
   subst e2
   exact blk_ty2 hG20.gb hcb (by decide)
  ·have e2 : rp = lg := e
   subst e2
   exact blk_ty2 hG20.rb hcb (by decide)
  ·have e2 : b = lg := e
   subst e2
   exact hG20.ne b rfl hb
  ·refine ((hG20.ll.kept' kV n70).mono Gn.of).set row (ho20.kept kV (fun b hb e => ?_)) (fun b hb => ?_)
   ·have e2 : b = lg := e
    cases hb
    have := H18.out.2
    obtain ⟨c9, hc9⟩ := ownC_blk ho20 (b := b18) rfl
    subst e2
    exact blk_ty2 hc9 hcb (by decide)
   ·cases hb
    exact .inr (show w.heap.size <= b18 /\ b18 < V.heap.size from ⟨by have := H18.out.2; omega, by omega⟩)
 have hkf : Kept (fun i => (Value.slice (some ⟨lg, 0, none⟩) rows cl).ownBlock = some i) w V := ((HWR.out.2.then hk20).mono fun _ _ h => h.elim).then (kV.mono fun i _ h => by have e2 : i = lg := h; rw [e2]; rfl)
 have HX := Lib.hid (And.intro hfin hkf)
 clear hfin hkf hlo hcb hG20 ho20 hk18 hω hk20 kV hz20 hb18 hy
 go_wp2_with fail
 refine (HI.out V HX.out.1.gb).mono ?_
 rintro e w30 ⟨rfl, rfl⟩
 go_wp2
 go_ret
 exact ⟨⟨_, rfl⟩, ⟨_, HX.out.1⟩, HX.out.2⟩
end Go.Proofs.YtmplpcmcbliadaaGreatDoor
namespace Go.Proofs.YtmplpcmcbliadaaGreatDoor
open Go.RowKit Go.Sort Pl
attribute [local go_sem] growOp growUpon sameUpon
set_option maxRecDepth 100000 in
set_option maxHeartbeats 8000000 in
theorem slay1_any (p : Nat) (s : Sn) (es : List MapEntry) (cols bg c : Nat) (l l' : List Cl) (r wd : Int) (b1 b2 b3 : Nat) (w : World) (h : SnB w p s) (hm : MpB w s.md es) (hno : Instr.findNow (.int .i64) (.int .i64 4) es 0 = some none)
  (h1 : w.heap[b1]? = some (.cells #[.pointer (some ⟨p, 0, none⟩)] 85 (0, 0))) (h2 : w.heap[b2]? = some (.cells #[.int .i64 wd] 3 (0, 0))) (h3 : w.heap[b3]? = some (.cells #[.int .i32 r] 21 (0, 0)))
  (hput : ∀ x, Kept (fun _ => False) w x -> Calls Tryz.prog 274 #[.slice (some ⟨bg, 0, none⟩) cols c, .int .i64 s.c.col, .int .i32 r, .int .i64 wd, lookV s.c.a] x fun e x' => ∃ v, e = .returned (.tuple #[v, .bool true]) /\ MadeC x l' v x') :
  Calls Tryz.prog 272 #[.slice (some ⟨bg, 0, none⟩) cols c, .pointer (some ⟨b1, 0, none⟩), .pointer (some ⟨b2, 0, none⟩), .pointer (some ⟨b3, 0, none⟩)] w fun e w' => ∃ v, e = .returned v /\ MadeC w l' v w' := by
 have hm0 := mapNo w s.md 4 es hm hno
 obtain ⟨WR, hWR⟩ : ∃ WR, WR = w.drew := ⟨_, rfl⟩
 have kR : Kept (fun _ => False) w WR := by rw [hWR]; exact (Kept.refl _ _).drew
 have z1 := blk_cell h1 0
 have z2 := blk_cell h2 0
 have z3 := blk_cell h3 0
 simp at z1 z2 z3
 obtain ⟨-, -, -, y3, y4, y5, y6, y7, y8, -⟩ := h.cells
 obtain ⟨x35, -⟩ := h.cells2
 have Z1 := cell_regrown (show WR.cell? ⟨b1, 0, none⟩ = _ from kR.cell z1 id)
 have Z2 := cell_regrown (show WR.cell? ⟨b2, 0, none⟩ = _ from kR.cell z2 id)
 have Z3 := cell_regrown (show WR.cell? ⟨b3, 0, none⟩ = _ from kR.cell z3 id)
 have Y4 := cell_regrown (show WR.cell? ⟨p, 4, none⟩ = _ from kR.cell y4 id)
 have Y6 := cell_regrown (show WR.cell? ⟨p, 6, none⟩ = _ from kR.cell y6 id)
 have Y7 := cell_regrown (show WR.cell? ⟨p, 7, none⟩ = _ from kR.cell y7 id)
 have Y8 := cell_regrown (show WR.cell? ⟨p, 8, none⟩ = _ from kR.cell y8 id)
 obtain ⟨R, hR⟩ : ∃ R : Value -> World -> Prop, R = fun v w' => ∃ u, v = .tuple #[u, .bool true] /\ OwnC w' u l' /\ ∀ b, u.ownBlock = some b -> WR.heap.size <= b := ⟨_, rfl⟩
 have HRR := Lib.hid hR
 have HWR := Lib.hid (And.intro hWR kR)
 unfold lookV at hput
 have HP := Lib.hid hput
 clear h hm hno h1 h2 h3 hput kR hWR hR y3 y4 y5 y6 y7 y8 z2 z3
 go_enter Tryz.func272, Tryz.ntmps272
 go_wp2
 refine wp_region_grow #[0, 0, 2, 6, 14, 30, 0, 0, 0, 256, 768, 1792, 3840, 8191, 16383, 32767, 32767, 65535] 18 [] (fun i => if i = 13 then some R else none) (by kernel_rfl) rfl (by kernel_rfl) (fun i hi => by cases hi) (fun _ _ _ _ _ h => h) ?_
 rintro _ rfl
 rw [<- HWR.out.1]
 simp only [List.take_succ_cons, List.take_zero, List.drop_succ_cons, List.drop_zero, number, Nat.reduceAdd]
 iterate 13 (refine wpGrow_step (fun K hK => ?_); go_simp; refine hK _ _ ?_; clear hK K)
 refine wpGrow_step (fun K hK => ?_)
 go_simp
 refine ⟨fun w' hg => (HP.out w' (HWR.out.2.then hg.old)).mono (fun e w'' ⟨v, he, hm⟩ => ⟨_, he, hm.2.1, by rw [HRR.out]; exact ⟨v, rfl, hm.1, fun b hb => Nat.le_trans hg.old.size (hm.2.2 b hb)⟩⟩), fun v13 w13 hv13 _ => ?_⟩
 rw [HRR.out] at hv13
 obtain ⟨u13, rfl, ho13⟩ := hv13
 have H13 := Lib.hid ho13
 clear ho13
 refine hK _ _ ?_; clear hK K
 iterate 4 (refine wpGrow_step (fun K hK => ?_); go_simp; refine hK _ _ ?_; clear hK K)
 refine wpGrow_nil ?_
 intro w20 hk20 hω
 have hk13 : Kept (fun _ => False) w13 w20 := hω 13
 have HX := Lib.hid (show MadeC w l' u13 w20 from ⟨H13.out.1.kept hk13 (fun _ _ => id), HWR.out.2.then hk20, fun b hb => Nat.le_trans HWR.out.2.size (H13.out.2 b hb)⟩)
 clear hk20 hk13 hω
 go_wp2
 go_ret
 exact ⟨_, rfl, HX.out⟩
end Go.Proofs.YtmplpcmcbliadaaGreatDoor
namespace Go.Proofs.YtmplpcmcbliadaaGreatDoor
open Go.RowKit Go.Sort Pl
def StoB (w : World) (q quota mb : Nat) : Prop := w.heap[q]? = some (.cells #[.int .i64 quota, .int .i64 0, .int .i64 0, .int .i64 0, .map (some mb)] 103 (0, 0)) /\ w.heap[mb]? = some (.map #[] 0)
def PtB (w : World) (q : Nat) : Prop := w.heap[q]? = some (.cells #[.slice none 0 0] 136 (0, 0))
set_option maxRecDepth 100000 in
theorem stnew_any (quota : Nat) (hq : quota <= 1073741824) (w : World) : Calls Tryz.prog 96 #[.int .i64 quota] w fun e w' => ∃ q mb, e = .returned (.tuple #[.pointer (some ⟨q, 0, none⟩), .int .i64 0]) /\ StoB w' q quota mb /\ w.heap.size <= q /\ w.heap.size <= mb /\ Kept (fun _ => False) w w' := by
 have g0 : decide ((quota : Int) < 0) = false := decide_eq_false (by omega)
 have g1 : decide ((1073741824 : Int) < (quota : Int)) = false := decide_eq_false (by omega)
 have g1' : decide (1073741824 < quota) = false := decide_eq_false (by omega)
 obtain ⟨V1, hV1⟩ : ∃ X, w.alloc (.map #[] 0) = X := ⟨_, rfl⟩
 have k1 : Kept (fun _ => False) w V1 := by rw [<- hV1]; exact (Kept.refl _ _).alloc _
 have hm1 : (Instr.makeMap 99 none).run Tryz.prog w = .ok (.map (some w.heap.size)) V1 := by rw [<- hV1]; exact run_makeMap 99 w
 go_enter Tryz.func96, Tryz.ntmps96
 go_wp2
 have b1 : V1.heap[w.heap.size]? = some (.map #[] 0) := by rw [<- hV1]; exact blk_new _ _
 exact bodyPost_ret (v := .tuple #[.pointer (some ⟨V1.heap.size, 0, none⟩), .int .i64 0]) (by simp [results, Tryz.results96, go_sem]) rfl ⟨_, w.heap.size, rfl, ⟨blk_new _ _, (show Kept (fun _ => False) V1 _ from (Kept.refl _ _).alloc _).blk b1 id⟩, k1.size, Nat.le_refl _, k1.alloc _⟩
set_option maxRecDepth 100000 in
theorem plnew_any (w : World) : Calls Tryz.prog 97 #[] w fun e w' => ∃ q, e = .returned (.pointer (some ⟨q, 0, none⟩)) /\ PtB w' q /\ w.heap.size <= q /\ Kept (fun _ => False) w w' := by
 go_enter Tryz.func97, Tryz.ntmps97
 go_wp2
 go_ret
 exact ⟨_, rfl, blk_new _ _, Nat.le_refl _, (Kept.refl _ _).alloc _⟩
def EnB (w : World) (q quota q1 q2 : Nat) (ld : Value) (ks : List Value) : Prop := ks.length = 22 /\ w.heap[q]? = some (.cells (([.int .i64 quota, .pointer (some ⟨q1, 0, none⟩), .pointer (some ⟨q2, 0, none⟩), ld] : List Value) ++ ks).toArray 152 (0, 0))
def kz : List Value := [.int .u8 0, .int .u8 0, .int .u8 0, .int .u8 0, .int .i64 0, .int .i64 0, .int .i64 0, .int .i64 0, .int .i64 0, .int .i64 0, .int .i64 0, .int .i64 0, .int .i64 0, .int .i64 0, .int .i64 0, .int .i64 0, .int .i64 0, .int .i64 0, .int .i64 0, .int .i64 0, .int .i64 0, .int .i64 0]
theorem EnB.cells {w : World} {q quota q1 q2 : Nat} {ld : Value} {ks : List Value} (h : EnB w q quota q1 q2 ld ks) : w.cell? ⟨q, 0, none⟩ = some (.int .i64 quota) /\ w.cell? ⟨q, 1, none⟩ = some (.pointer (some ⟨q1, 0, none⟩)) /\ w.cell? ⟨q, 2, none⟩ = some (.pointer (some ⟨q2, 0, none⟩)) /\ w.cell? ⟨q, 3, none⟩ = some ld := by
 refine ⟨?_, ?_, ?_, ?_⟩ <;> (rw [blk_cell h.2, List.getElem?_toArray, List.getElem?_append_left (by simp)]; rfl)
theorem EnB.kept {w w' : World} {q quota q1 q2 : Nat} {ld : Value} {ks : List Value} {S : Nat -> Prop} (h : EnB w q quota q1 q2 ld ks) (hk : Kept S w w') (hp : ¬ S q) : EnB w' q quota q1 q2 ld ks := ⟨h.1, hk.blk h.2 hp⟩
set_option maxRecDepth 100000 in
theorem knew_any (quota : Nat) (hq : quota <= 1073741824) (w : World) : Calls Tryz.prog 56 #[.int .i64 quota] w fun e w' => ∃ q q1 q2 mb, e = .returned (.tuple #[.pointer (some ⟨q, 0, none⟩), .int .i64 0]) /\ EnB w' q quota q1 q2 (.pointer none) kz /\ StoB w' q1 quota mb /\ PtB w' q2 /\ w.heap.size <= q /\ w.heap.size <= q1 /\ w.heap.size <= q2 /\ w.heap.size <= mb /\ Kept (fun _ => False) w w' := by
 have HS := Lib.hid (stnew_any quota hq w)
 go_enter Tryz.func56, Tryz.ntmps56
 go_wp2_with fail
 refine HS.out.mono ?_
 rintro e w1 ⟨q1, mb, rfl, hs, hq1, hmb, hk1⟩
 have H1 := Lib.hid (And.intro hs (And.intro hq1 (And.intro hmb hk1)))
 clear hs hq1 hmb hk1
 go_wp2_with fail
 refine (plnew_any w1).mono ?_
 rintro e w2 ⟨q2, rfl, hp, hq2, hk2⟩
 have H2 := Lib.hid (And.intro hp (And.intro hq2 hk2))
 clear hp hq2 hk2
 go_wp2
 refine bodyPost_ret (v := .tuple #[.pointer (some ⟨w2.heap.size, 0, none⟩), .int .i64 0]) (by simp [results, Tryz.results56, go_sem]) rfl ?_
 obtain ⟨hs, hq1, hmb, hk1⟩ := H1.out
 obtain ⟨hp, hq2, hk2⟩ := H2.out
 obtain ⟨V, hV⟩ : ∃ V, w2.alloc (.cells (([.int .i64 quota, .pointer (some ⟨q1, 0, none⟩), .pointer (some ⟨q2, 0, none⟩), .pointer none] : List Value) ++ kz).toArray 152) = V := ⟨_, rfl⟩
 have k3 : Kept (fun _ => False) w2 V := by rw [<- hV]; exact (Kept.refl _ _).alloc _
 have hb : V.heap[w2.heap.size]? = some (.cells (([.int .i64 quota, .pointer (some ⟨q1, 0, none⟩), .pointer (some ⟨q2, 0, none⟩), .pointer none] : List Value) ++ kz).toArray 152 (0, 0)) := by rw [<- hV]; exact blk_new _ _
 have hz1 := hk1.size
 have hz2 := hk2.size
 refine ⟨w2.heap.size, q1, q2, mb, rfl, ?_⟩
 suffices h : EnB V w2.heap.size quota q1 q2 (.pointer none) kz /\ StoB V q1 quota mb /\ PtB V q2 /\ w.heap.size <= w2.heap.size /\ w.heap.size <= q1 /\ w.heap.size <= q2 /\ w.heap.size <= mb /\ Kept (fun _ => False) w V by rw [<- hV] at h; exact h
 exact ⟨⟨rfl, hb⟩, ⟨(hk2.then k3).blk hs.1 id, (hk2.then k3).blk hs.2 id⟩, k3.blk hp id, by omega, hq1, by omega, hmb, hk1.then (hk2.then k3)⟩
def ps0 : PS := ⟨0, false, s0, 0, [], false, true, [], false, 0, []⟩
set_option maxRecDepth 100000 in
set_option maxHeartbeats 8000000 in
theorem utfnew_any (w : World) : Calls Tryz.prog 98 #[] w fun en w' => en = .returned (.pointer (some ⟨w.heap.size, 0, none⟩)) /\ w' = w.alloc (.cells #[.int .i32 0, .int .i64 0, .int .u8 0, .int .u8 0] 252) := by
 go_enter Tryz.func98, Tryz.ntmps98
 go_wp2
 go_ret
 exact ⟨rfl, rfl⟩
set_option maxRecDepth 100000 in
set_option maxHeartbeats 8000000 in
theorem psnew_any (W : World) : Calls Tryz.prog 57 #[] W fun r w' => ∃ p G, r = .returned (.pointer (some ⟨p, 0, none⟩)) /\ PQ G w' p ps0 /\ (∀ i, G i -> W.heap.size <= i) /\ Kept (fun _ => False) W w' := by
 obtain ⟨W1, hW1⟩ : ∃ W1, W.alloc (.cells #[.int .i32 0, .int .i64 0, .int .u8 0, .int .u8 0] 252) = W1 := ⟨_, rfl⟩
 have hk1 : Kept (fun _ => False) W W1 := by rw [<- hW1]; exact (Kept.refl _ _).alloc _
 have hb1 : W1.heap[W.heap.size]? = some (.cells #[.int .i32 0, .int .i64 0, .int .u8 0, .int .u8 0] 252 (0, 0)) := by rw [<- hW1]; exact blk_new W _
 obtain ⟨W2, hW2⟩ : ∃ W2, W1.alloc (.cells (PC ps0 W.heap.size (.slice none 0 0) (.slice none 0 0) (.slice none 0 0) (.func (.func 99) #[] #[])) 139) = W2 := ⟨_, rfl⟩
 have hk2 : Kept (fun _ => False) W1 W2 := by rw [<- hW2]; exact (Kept.refl _ _).alloc _
 have hb2 : W2.heap[W1.heap.size]? = some (.cells (PC ps0 W.heap.size (.slice none 0 0) (.slice none 0 0) (.slice none 0 0) (.func (.func 99) #[] #[])) 139 (0, 0)) := by rw [<- hW2]; exact blk_new W1 _
 have hz := hk1.size
 have HR := Lib.hid (show ∃ G : Nat -> Prop, PQ G W2 W1.heap.size ps0 /\ (∀ i, G i -> W.heap.size <= i) /\ Kept (fun _ => False) W W2 from ⟨fun i => i = W1.heap.size \/ i = W.heap.size, ⟨W.heap.size, .slice none 0 0, .slice none 0 0, .slice none 0 0, _, hb2, ⟨0, 0, 0, hk2.blk hb1 id, fun h => absurd h (by simp [ps0, s0]), ok0⟩, Own.nil _ _ _, Own.nil _ _ _, Own.nil _ _ _, (fun _ h => by cases h), ⟨by simp [ps0], by simp [ps0], by simp [ps0], by simp [ps0], by simp [ps0]⟩, fun i => ⟨fun h => by rcases h with h | h; exact .inl h; exact .inr (.inl h), fun h => by rcases h with h | h | h | h | h; exact .inl h; exact .inr h; cases h; cases h; cases h⟩⟩, fun i hi => by rcases hi with h | h <;> omega, hk1.then hk2⟩)
 unfold PC ps0 at hW2
 simp only at hW2
 clear hk1 hb1 hk2 hb2 hz
 go_enter Tryz.func57, Tryz.ntmps57
 go_wp2_with fail
 refine (utfnew_any W).mono ?_
 rintro r w1 ⟨rfl, rfl⟩
 rw [hW1]
 go_wp2
 go_ret
 obtain ⟨G, h1, h2, h3⟩ := HR.out
 exact ⟨_, G, rfl, h1, h2, h3⟩
structure SP where
 rows : Nat
 cols : Nat
 most : Nat
 L : List (List Cl)
 B : List (List Cl)
 top : Nat
 c : Cu
 ch : Int
 es : List MapEntry
def SP.sn (P : SP) (g0 g1 md pv st : Nat) : Sn := ⟨g0, g1, P.c, z22, md, pv, 0, P.rows, st, P.ch, .slice none 0 0⟩
structure ScrK (G : Nat -> Prop) (w : World) (p : Nat) (P : SP) (g0 g1 md pv st tb : Nat) (G0 G1 : Nat -> Prop) : Prop where
 sn : SnB w p (P.sn g0 g1 md pv st)
 m1 : MpB w md []
 m2 : MpB w pv P.es
 s1 : StB w st P.cols tb
 m3 : MpB w tb (tbm P.cols)
 k0 : ∃ gone rp lv rv vs rs at', GrK G0 w g0 P.rows P.cols P.most P.top gone P.L P.B rp lv rv vs rs at'
 k1 : ∃ gone rp lv rv vs L1, GrK G1 w g1 P.rows P.cols 0 0 gone L1 [] rp lv rv vs [] 0
 sub : ∀ i, G0 i \/ G1 i \/ (i = p \/ i = md \/ i = pv \/ i = st \/ i = tb) -> G i
 n01 : ∀ i, G0 i -> ¬ G1 i
 nm : ∀ i, (i = p \/ i = md \/ i = pv \/ i = st \/ i = tb) -> ¬ G0 i /\ ¬ G1 i
 mm : md ≠ pv /\ tb ≠ pv /\ md ≠ p /\ pv ≠ p /\ st ≠ p /\ tb ≠ p /\ st ≠ pv
 lt : ∀ i, G i -> i < w.heap.size
section
variable {G S : Nat -> Prop} {w w' : World} {p : Nat} {P : SP} {g0 g1 md pv st tb : Nat} {G0 G1 : Nat -> Prop}
theorem ScrK.kept (h : ScrK G w p P g0 g1 md pv st tb G0 G1) (hk : Kept S w w') (hn : ∀ i, G i -> ¬ S i) : ScrK G w' p P g0 g1 md pv st tb G0 G1 := by
 have n0 : ∀ i, G0 i -> ¬ S i := fun i hi => hn i (h.sub i (.inl hi))
 have n1 : ∀ i, G1 i -> ¬ S i := fun i hi => hn i (h.sub i (.inr (.inl hi)))
 have n2 : ∀ i, (i = p \/ i = md \/ i = pv \/ i = st \/ i = tb) -> ¬ S i := fun i hi => hn i (h.sub i (.inr (.inr hi)))
 obtain ⟨a1, a2, a3, a4, a5, a6, a7, hk0⟩ := h.k0
 obtain ⟨b1, b2, b3, b4, b5, b6, hk1⟩ := h.k1
 exact ⟨h.sn.kept hk (n2 p (by simp)), h.m1.kept hk (n2 md (by simp)), h.m2.kept hk (n2 pv (by simp)), hk.blk h.s1 (n2 st (by simp)), h.m3.kept hk (n2 tb (by simp)), ⟨a1, a2, a3, a4, a5, a6, a7, hk0.kept hk n0⟩, ⟨b1, b2, b3, b4, b5, b6, hk1.kept hk n1⟩, h.sub, h.n01, h.nm, h.mm, fun i hi => Nat.lt_of_lt_of_le (h.lt i hi) hk.size⟩
theorem ScrK.up (h : ScrK G w p P g0 g1 md pv st tb G0 G1) (hk : Kept (fun _ => False) w w') : ScrK G w' p P g0 g1 md pv st tb G0 G1 := h.kept hk (fun _ _ => id)
theorem ScrK.own (h : ScrK G w p P g0 g1 md pv st tb G0 G1) {c : Cu} {ch : Int} (hk : Kept (fun i => i = p) w w') (hs : SnB w' p (({ P with c := c, ch := ch } : SP).sn g0 g1 md pv st)) : ScrK G w' p { P with c := c, ch := ch } g0 g1 md pv st tb G0 G1 := by
 obtain ⟨a1, a2, a3, a4, a5, a6, a7, hk0⟩ := h.k0
 obtain ⟨b1, b2, b3, b4, b5, b6, hk1⟩ := h.k1
 have np := h.nm p (by simp)
 exact ⟨hs, h.m1.kept hk h.mm.2.2.1, h.m2.kept hk h.mm.2.2.2.1, hk.blk h.s1 h.mm.2.2.2.2.1, h.m3.kept hk h.mm.2.2.2.2.2.1, ⟨a1, a2, a3, a4, a5, a6, a7, hk0.kept hk (fun i hi e => np.1 (by have e2 : i = p := e; rw [<- e2]; exact hi))⟩, ⟨b1, b2, b3, b4, b5, b6, hk1.kept hk (fun i hi e => np.2 (by have e2 : i = p := e; rw [<- e2]; exact hi))⟩, h.sub, h.n01, h.nm, h.mm, fun i hi => Nat.lt_of_lt_of_le (h.lt i hi) hk.size⟩
theorem ScrK.grid (h : ScrK G w p P g0 g1 md pv st tb G0 G1) {L B : List (List Cl)} {top : Nat} (hk : Kept G0 w w') (hg : ∃ gone rp lv rv vs rs at', GrK (Gn G0 w w') w' g0 P.rows P.cols P.most top gone L B rp lv rv vs rs at') : ScrK (Gn G w w') w' p { P with L := L, B := B, top := top } g0 g1 md pv st tb (Gn G0 w w') G1 := by
 obtain ⟨b1, b2, b3, b4, b5, b6, hk1⟩ := h.k1
 have n2 : ∀ i, (i = p \/ i = md \/ i = pv \/ i = st \/ i = tb) -> ¬ G0 i := fun i hi => (h.nm i hi).1
 have hz := hk.size
 refine ⟨h.sn.kept hk (n2 p (by simp)), h.m1.kept hk (n2 md (by simp)), h.m2.kept hk (n2 pv (by simp)), hk.blk h.s1 (n2 st (by simp)), h.m3.kept hk (n2 tb (by simp)), hg, ⟨b1, b2, b3, b4, b5, b6, hk1.kept hk (fun i hi hS => h.n01 i hS hi)⟩, fun i hi => ?_, fun i hi h1 => ?_, fun i hi => ⟨fun h0 => ?_, (h.nm i hi).2⟩, h.mm, Gn.lt hz h.lt⟩
 ·rcases hi with (hi | hi) | hi | hi
  ·exact .inl (h.sub i (.inl hi))
  ·exact .inr hi
  ·exact .inl (h.sub i (.inr (.inl hi)))
  ·exact .inl (h.sub i (.inr (.inr hi)))
 ·rcases hi with hi | hi
  ·exact h.n01 i hi h1
  ·have := h.lt i (h.sub i (.inr (.inl h1))); omega
 ·rcases h0 with h0 | h0
  ·exact n2 i hi h0
  ·have := h.lt i (h.sub i (.inr (.inr hi))); omega
end
structure Cf where
 rows : Nat
 cols : Nat
 cw : Nat
 ch : Nat
 back : Nat
 quota : Nat
def Cf.val (c : Cf) : Value := .agg #[.int .i64 c.rows, .int .i64 c.cols, .int .i64 c.cw, .int .i64 c.ch, .int .i64 c.back, .int .i64 c.quota]
structure Tc where
 s : Nat
 e : Nat
 p : Nat
 d : Value
 cmd : Value
 lg : Bool
 rep : Value
 f0 : Int
 f1 : Int
def tmC (c : Cf) (t : Tc) : Array Value := #[.int .i64 c.rows, .int .i64 c.cols, .int .i64 c.cw, .int .i64 c.ch, .int .i64 c.back, .int .i64 c.quota, .pointer (some ⟨t.s, 0, none⟩), .pointer (some ⟨t.e, 0, none⟩), .pointer (some ⟨t.p, 0, none⟩), t.d, t.cmd, .bool t.lg, t.rep, .int .i64 t.f0, .int .i64 t.f1]
def TmB (w : World) (q : Nat) (c : Cf) (t : Tc) : Prop := w.heap[q]? = some (.cells (tmC c t) 91 (0, 0))
theorem TmB.cells {w : World} {q : Nat} {c : Cf} {t : Tc} (h : TmB w q c t) : w.cell? ⟨q, 0, none⟩ = some (.int .i64 c.rows) /\ w.cell? ⟨q, 1, none⟩ = some (.int .i64 c.cols) /\ w.cell? ⟨q, 2, none⟩ = some (.int .i64 c.cw) /\ w.cell? ⟨q, 3, none⟩ = some (.int .i64 c.ch) /\ w.cell? ⟨q, 4, none⟩ = some (.int .i64 c.back) /\ w.cell? ⟨q, 5, none⟩ = some (.int .i64 c.quota) /\ w.cell? ⟨q, 6, none⟩ = some (.pointer (some ⟨t.s, 0, none⟩)) /\ w.cell? ⟨q, 7, none⟩ = some (.pointer (some ⟨t.e, 0, none⟩)) /\ w.cell? ⟨q, 8, none⟩ = some (.pointer (some ⟨t.p, 0, none⟩)) /\ w.cell? ⟨q, 9, none⟩ = some t.d /\ w.cell? ⟨q, 10, none⟩ = some t.cmd /\ w.cell? ⟨q, 11, none⟩ = some (.bool t.lg) /\ w.cell? ⟨q, 12, none⟩ = some t.rep /\ w.cell? ⟨q, 13, none⟩ = some (.int .i64 t.f0) /\ w.cell? ⟨q, 14, none⟩ = some (.int .i64 t.f1) :=
 ⟨blk_cell h 0, blk_cell h 1, blk_cell h 2, blk_cell h 3, blk_cell h 4, blk_cell h 5, blk_cell h 6, blk_cell h 7, blk_cell h 8, blk_cell h 9, blk_cell h 10, blk_cell h 11, blk_cell h 12, blk_cell h 13, blk_cell h 14⟩
structure EngK (G : Nat -> Prop) (w : World) (e quota : Nat) : Prop where
 ex : ∃ q1 q2 mb, EnB w e quota q1 q2 (.pointer none) kz /\ StoB w q1 quota mb /\ PtB w q2 /\ G q1 /\ G q2 /\ G mb
 em : G e
 lt : ∀ i, G i -> i < w.heap.size
theorem EngK.kept {G S : Nat -> Prop} {w w' : World} {e quota : Nat} (h : EngK G w e quota) (hk : Kept S w w') (hn : ∀ i, G i -> ¬ S i) : EngK G w' e quota := by
 obtain ⟨q1, q2, mb, h1, h2, h3, g1, g2, g3⟩ := h.ex
 exact ⟨⟨q1, q2, mb, h1.kept hk (hn e h.em), ⟨hk.blk h2.1 (hn q1 g1), hk.blk h2.2 (hn mb g3)⟩, hk.blk h3 (hn q2 g2), g1, g2, g3⟩, h.em, fun i hi => Nat.lt_of_lt_of_le (h.lt i hi) hk.size⟩
structure TmK (G : Nat -> Prop) (w : World) (q : Nat) (c : Cf) (t : Tc) (P : SP) (R : List Int) (Gs Ge : Nat -> Prop) : Prop where
 tb : TmB w q c t
 sc : ∃ g0 g1 md pv st tb G0 G1, ScrK Gs w t.s P g0 g1 md pv st tb G0 G1
 en : EngK Ge w t.e c.quota
 ro : Own .u8 5 w t.rep R
 sub : ∀ i, Gs i \/ Ge i \/ i = q \/ t.rep.ownBlock = some i -> G i
 nse : ∀ i, Gs i -> ¬ Ge i
 nq : ¬ Gs q /\ ¬ Ge q
 nr : ∀ b, t.rep.ownBlock = some b -> ¬ Gs b /\ ¬ Ge b
 lt : ∀ i, G i -> i < w.heap.size
theorem TmK.nrq {G : Nat -> Prop} {w : World} {q : Nat} {c : Cf} {t : Tc} {P : SP} {R : List Int} {Gs Ge : Nat -> Prop} (h : TmK G w q c t P R Gs Ge) : ∀ b, t.rep.ownBlock = some b -> b ≠ q := fun b hb e => by
 obtain ⟨c, hc⟩ := own_blk h.ro hb
 subst e
 exact blk_ty2 hc h.tb (by decide)
theorem TmK.kept {G S : Nat -> Prop} {w w' : World} {q : Nat} {c : Cf} {t : Tc} {P : SP} {R : List Int} {Gs Ge : Nat -> Prop} (h : TmK G w q c t P R Gs Ge) (hk : Kept S w w') (hn : ∀ i, G i -> ¬ S i) : TmK G w' q c t P R Gs Ge := by
 obtain ⟨g0, g1, md, pv, st, tb, G0, G1, hs⟩ := h.sc
 exact ⟨hk.blk h.tb (hn q (h.sub q (.inr (.inr (.inl rfl))))), ⟨g0, g1, md, pv, st, tb, G0, G1, hs.kept hk (fun i hi => hn i (h.sub i (.inl hi)))⟩, h.en.kept hk (fun i hi => hn i (h.sub i (.inr (.inl hi)))), h.ro.kept hk (fun b hb => hn b (h.sub b (.inr (.inr (.inr hb))))), h.sub, h.nse, h.nq, h.nr, fun i hi => Nat.lt_of_lt_of_le (h.lt i hi) hk.size⟩
end Go.Proofs.YtmplpcmcbliadaaGreatDoor
namespace Go.Proofs.YtmplpcmcbliadaaGreatDoor
open Go.RowKit Go.Sort Pl
attribute [local go_sem] growOp growUpon sameUpon
theorem ownC_two {w : World} {u : Value} {l : List Cl} {b : Nat} (h : OwnC w u l) (hb : u.ownBlock = some b) {c : Array Value} {t : TypeId} (hc : w.heap[b]? = some (.cells c t (0, 0))) (ht : t ≠ 70) : False := by
 obtain ⟨d, hd⟩ := ownC_blk h hb
 exact blk_ty2 hc hd ht
theorem ownV_two {w : World} {u : Value} {l : List Value} {b : Nat} (h : OwnV 68 w u l) (hb : u.ownBlock = some b) {c : Array Value} {t : TypeId} (hc : w.heap[b]? = some (.cells c t (0, 0))) (ht : t ≠ 68) : False := by
 obtain ⟨d, hd⟩ := ownV_blk h hb
 exact blk_ty2 hc hd ht
theorem map_cells {w : World} {b : Nat} {c : Array Value} {t : TypeId} {es : List MapEntry} (hc : w.heap[b]? = some (.cells c t (0, 0))) (hm : MpB w b es) : False := by
 unfold MpB at hm
 rw [hc] at hm
 cases hm
theorem map_eq {w : World} {b : Nat} {es fs : List MapEntry} (hm : MpB w b es) (hf : MpB w b fs) : es.length = fs.length := by
 unfold MpB at hm hf
 rw [hm] at hf
 simp at hf
 exact hf.2
def sp0 (rows cols most : Nat) : SP := ⟨rows, cols, most, List.replicate rows (List.replicate cols ⟨0, 0, ⟨0, 0, 0⟩⟩), [], 0, cu0, -1, prv0⟩
theorem tbm_len (c : Nat) : (tbm c).length <= 1 := by unfold tbm; split <;> simp [tb8]
theorem scrK_new {w w' : World} {rows cols back p : Nat} (hr : 1 <= rows /\ rows <= 1000) (hc : 1 <= cols /\ cols <= 1000) (hbk : back <= 65536) (h : ScO w w' rows cols back p) : ∃ g0 g1 md pv st tb G0 G1, ScrK (fun i => w.heap.size <= i /\ i < w'.heap.size) w' p (sp0 rows cols back) g0 g1 md pv st tb G0 G1 := by
 obtain ⟨g0, rp0, lv0, vs0, g1, rp1, lv1, vs1, md, pv, st, tb, hs, hm1, hm2, hst, hmt, hg0, hrn0, hg1, hrn1, ⟨ho0, hl0, ha0⟩, ⟨ho1, hl1, ha1⟩, hk, hp, hgg, hrr, ⟨m, ⟨a1, a2, a3, a4⟩, b1, b2, b3, b4⟩, ⟨f1, f2, f3, f4⟩, ⟨e1, e2, e3, e4⟩, d1, d2, d3, d4⟩ := h
 have lp := lt_of_blk hs.2
 have lm1 : md < w'.heap.size := lt_of_blk hm1
 have lm2 : pv < w'.heap.size := lt_of_blk hm2
 have lst : st < w'.heap.size := lt_of_blk hst
 have ltb : tb < w'.heap.size := lt_of_blk hmt
 have lg0 := lt_of_blk hg0
 have lg1 := lt_of_blk hg1
 have lr0 := lt_of_blk hrn0
 have lr1 := lt_of_blk hrn1
 have hnil : ∀ b, (Value.slice none 0 0).ownBlock = some b -> False := fun b h => by cases h
 refine ⟨g0, g1, md, pv, st, tb, fun i => i = g0 \/ i = rp0 \/ lv0.ownBlock = some i \/ ∃ u ∈ vs0, u.ownBlock = some i, fun i => i = g1 \/ i = rp1 \/ lv1.ownBlock = some i \/ ∃ u ∈ vs1, u.ownBlock = some i, ?_⟩
 have K0 : GrK (fun i => i = g0 \/ i = rp0 \/ lv0.ownBlock = some i \/ ∃ u ∈ vs0, u.ownBlock = some i) w' g0 rows cols back 0 0 (List.replicate rows (List.replicate cols ⟨0, 0, ⟨0, 0, 0⟩⟩)) [] rp0 lv0 (.slice none 0 0) vs0 [] 0 :=
  ⟨hg0, hrn0, ho0, OwnV.nil _ _, LnsOk.rep hl0 (fun u hu => ⟨ha0 u hu, fun b hb => .inr (.inr (.inr ⟨u, hu, hb⟩))⟩), LnsOk.nil _ _, .inl ⟨rfl, Nat.zero_le _⟩, Int.le_refl _, hbk, .inl rfl, .inr (.inl rfl), fun b hb => .inr (.inr (.inl hb)), fun b hb => (hnil b hb).elim, fun b _ h => (hnil b h).elim, by simp, fun l hl => by rw [(List.mem_replicate.1 hl).2]; simp, (fun l hl => by cases hl), hr, hc⟩
 have K1 : GrK (fun i => i = g1 \/ i = rp1 \/ lv1.ownBlock = some i \/ ∃ u ∈ vs1, u.ownBlock = some i) w' g1 rows cols 0 0 0 (List.replicate rows (List.replicate cols ⟨0, 0, ⟨0, 0, 0⟩⟩)) [] rp1 lv1 (.slice none 0 0) vs1 [] 0 :=
  ⟨hg1, hrn1, ho1, OwnV.nil _ _, LnsOk.rep hl1 (fun u hu => ⟨ha1 u hu, fun b hb => .inr (.inr (.inr ⟨u, hu, hb⟩))⟩), LnsOk.nil _ _, .inl ⟨rfl, Nat.zero_le _⟩, Int.le_refl _, Nat.zero_le _, .inl rfl, .inr (.inl rfl), fun b hb => .inr (.inr (.inl hb)), fun b hb => (hnil b hb).elim, fun b _ h => (hnil b h).elim, by simp, fun l hl => by rw [(List.mem_replicate.1 hl).2]; simp, (fun l hl => by cases hl), hr, hc⟩
 have tg : ∀ i c t, w'.heap[i]? = some (.cells c t (0, 0)) -> t ≠ 189 -> t ≠ 256 -> t ≠ 68 -> t ≠ 70 -> ¬ (i = g0 \/ i = rp0 \/ lv0.ownBlock = some i \/ ∃ u ∈ vs0, u.ownBlock = some i) /\ ¬ (i = g1 \/ i = rp1 \/ lv1.ownBlock = some i \/ ∃ u ∈ vs1, u.ownBlock = some i) := by
  intro i c t hi t1 t2 t3 t4
  refine ⟨fun h => ?_, fun h => ?_⟩
  ·rcases h with rfl | rfl | h | ⟨u, hu, h⟩
   ·exact blk_ty2 hi hg0 t1
   ·exact blk_ty2 hi hrn0 t2
   ·exact ownV_two ho0 h hi t3
   ·exact ownC_two (ha0 u hu) h hi t4
  ·rcases h with rfl | rfl | h | ⟨u, hu, h⟩
   ·exact blk_ty2 hi hg1 t1
   ·exact blk_ty2 hi hrn1 t2
   ·exact ownV_two ho1 h hi t3
   ·exact ownC_two (ha1 u hu) h hi t4
 have tm : ∀ i es, MpB w' i es -> ¬ (i = g0 \/ i = rp0 \/ lv0.ownBlock = some i \/ ∃ u ∈ vs0, u.ownBlock = some i) /\ ¬ (i = g1 \/ i = rp1 \/ lv1.ownBlock = some i \/ ∃ u ∈ vs1, u.ownBlock = some i) := by
  intro i es hi
  refine ⟨fun h => ?_, fun h => ?_⟩
  ·rcases h with rfl | rfl | h | ⟨u, hu, h⟩
   ·exact map_cells hg0 hi
   ·exact map_cells hrn0 hi
   ·obtain ⟨c, hc⟩ := ownV_blk ho0 h; exact map_cells hc hi
   ·obtain ⟨c, hc⟩ := ownC_blk (ha0 u hu) h; exact map_cells hc hi
  ·rcases h with rfl | rfl | h | ⟨u, hu, h⟩
   ·exact map_cells hg1 hi
   ·exact map_cells hrn1 hi
   ·obtain ⟨c, hc⟩ := ownV_blk ho1 h; exact map_cells hc hi
   ·obtain ⟨c, hc⟩ := ownC_blk (ha1 u hu) h; exact map_cells hc hi
 refine ⟨hs, hm1, hm2, hst, hmt, ⟨0, rp0, lv0, _, vs0, [], 0, K0⟩, ⟨0, rp1, lv1, _, vs1, _, K1⟩, fun i hi => ?_, fun i h0 h1 => ?_, fun i hi => ?_, ⟨fun e => ?_, fun e => ?_, fun e => ?_, fun e => ?_, fun e => ?_, fun e => ?_, fun e => ?_⟩, fun i hi => hi.2⟩
 ·rcases hi with (rfl | rfl | h | ⟨u, hu, h⟩) | (rfl | rfl | h | ⟨u, hu, h⟩) | (rfl | rfl | rfl | rfl | rfl)
  ·exact ⟨f1, lg0⟩
  ·exact ⟨f2, lr0⟩
  ·exact ⟨f3 _ h, ho0.lt _ h⟩
  ·exact ⟨f4 u hu _ h, (ha0 u hu).lt _ h⟩
  ·exact ⟨e1, lg1⟩
  ·exact ⟨e2, lr1⟩
  ·exact ⟨e3 _ h, ho1.lt _ h⟩
  ·exact ⟨e4 u hu _ h, (ha1 u hu).lt _ h⟩
  ·exact ⟨hp, lp⟩
  ·exact ⟨d1, lm1⟩
  ·exact ⟨d2, lm2⟩
  ·exact ⟨d3, lst⟩
  ·exact ⟨d4, ltb⟩
 ·have i0 : i < m := by
   rcases h0 with rfl | rfl | h | ⟨u, hu, h⟩
   ·exact a1
   ·exact a2
   ·exact a3 _ h
   ·exact a4 u hu _ h
  have i1 : m <= i := by
   rcases h1 with rfl | rfl | h | ⟨u, hu, h⟩
   ·exact b1
   ·exact b2
   ·exact b3 _ h
   ·exact b4 u hu _ h
  omega
 ·rcases hi with rfl | rfl | rfl | rfl | rfl
  ·exact tg _ _ _ hs.2 (by decide) (by decide) (by decide) (by decide)
  ·exact tm _ _ hm1
  ·exact tm _ _ hm2
  ·exact tg _ _ _ hst (by decide) (by decide) (by decide) (by decide)
  ·exact tm _ _ hmt
 ·subst e; have := map_eq hm1 hm2; simp [prv0] at this
 ·subst e; have := map_eq hmt hm2; have h9 := tbm_len cols; rw [this] at h9; simp [prv0] at h9
 ·subst e; exact map_cells hs.2 hm1
 ·subst e; exact map_cells hs.2 hm2
 ·subst e; exact blk_ty2 hst hs.2 (by decide)
 ·subst e; exact map_cells hs.2 hmt
 ·subst e; exact map_cells hst hm2
set_option maxRecDepth 100000 in
set_option maxHeartbeats 8000000 in
theorem tmnew_any (c : Cf) (hr : 1 <= c.rows /\ c.rows <= 1000) (hc : 1 <= c.cols /\ c.cols <= 16) (hw : 1 <= c.cw /\ c.cw <= 64) (hh : 1 <= c.ch /\ c.ch <= 64) (hb : c.back <= 16384) (hq : c.quota <= 1073741824) (w : World) :
  Calls Tryz.prog 31 #[c.val] w fun e w' => ∃ q s en p G Gs Ge GP, e = .returned (.tuple #[.pointer (some ⟨q, 0, none⟩), .int .i64 0]) /\ TmK G w' q c ⟨s, en, p, .pointer none, .slice none 0 0, false, .slice none 0 0, 0, 0⟩ (sp0 c.rows c.cols c.back) [] Gs Ge /\ PQ GP w' p ps0 /\ (∀ i, GP i -> ¬ G i) /\ (∀ i, G i \/ GP i -> w.heap.size <= i) /\ Kept (fun _ => False) w w' := by
 obtain ⟨rows, cols, cw, ch, back, quota⟩ := c
 simp only at hr hc hw hh hb hq
 unfold Cf.val
 simp only
 obtain ⟨V1, hV1⟩ : ∃ X, w.alloc (.cells #[.int .i64 rows, .int .i64 cols, .int .i64 cw, .int .i64 ch, .int .i64 back, .int .i64 quota] 64) = X := ⟨_, rfl⟩
 have k1 : Kept (fun _ => False) w V1 := by rw [<- hV1]; exact (Kept.refl _ _).alloc _
 have b1 : V1.heap[w.heap.size]? = some (.cells #[.int .i64 rows, .int .i64 cols, .int .i64 cw, .int .i64 ch, .int .i64 back, .int .i64 quota] 64 (0, 0)) := by rw [<- hV1]; exact blk_new _ _
 have HC := Lib.hid (And.intro k1 b1)
 have x0 : V1.cell? ⟨w.heap.size, 0, none⟩ = some (.int .i64 rows) := blk_cell b1 0
 have x1 : V1.cell? ⟨w.heap.size, 1, none⟩ = some (.int .i64 cols) := blk_cell b1 1
 have x2 : V1.cell? ⟨w.heap.size, 2, none⟩ = some (.int .i64 cw) := blk_cell b1 2
 have x3 : V1.cell? ⟨w.heap.size, 3, none⟩ = some (.int .i64 ch) := blk_cell b1 3
 have x4 : V1.cell? ⟨w.heap.size, 4, none⟩ = some (.int .i64 back) := blk_cell b1 4
 have x5 : V1.cell? ⟨w.heap.size, 5, none⟩ = some (.int .i64 quota) := blk_cell b1 5
 have HS := Lib.hid (snew_any rows cols cw ch back quota hr hc hw hh hb hq V1)
 have HK := Lib.hid (fun (x : World) => knew_any quota hq x)
 have HR := Lib.hid (And.intro hr (And.intro hc hb))
 clear k1 b1
 go_enter Tryz.func31, Tryz.ntmps31
 go_wp2_with fail
 refine HS.out.mono ?_
 rintro e w2 ⟨s, rfl, hsc⟩
 have hk2 : Kept (fun _ => False) V1 w2 := by
  obtain ⟨_, _, _, _, _, _, _, _, _, _, _, _, _, _, _, _, _, _, _, _, _, _, _, hk, _⟩ := hsc
  exact hk
 obtain ⟨g0, g1, md, pv, st, tb, G0, G1, hK⟩ := scrK_new HR.out.1 ⟨HR.out.2.1.1, by have := HR.out.2.1.2; omega⟩ (by have := HR.out.2.2; omega) hsc
 have y5 : w2.cell? ⟨w.heap.size, 5, none⟩ = some (.int .i64 quota) := hk2.cell x5 id
 have H2 := Lib.hid (And.intro hk2 hK)
 have hb2 := hk2.blk HC.out.2 id
 clear hsc hk2 hK x0 x1 x2 x3 x4 x5
 go_wp2_with fail
 refine (HK.out w2).mono ?_
 rintro e w3 ⟨en, q1, q2, mb, rfl, he, hso, hpt, m1, m2, m3, m4, hk3⟩
 have hE : EngK (fun i => w2.heap.size <= i /\ i < w3.heap.size) w3 en quota := ⟨⟨q1, q2, mb, he, hso, hpt, ⟨m2, lt_of_blk hso.1⟩, ⟨m3, lt_of_blk hpt⟩, ⟨m4, lt_of_blk hso.2⟩⟩, ⟨m1, lt_of_blk he.2⟩, fun i hi => hi.2⟩
 obtain ⟨WR, hWR⟩ : ∃ WR, WR = w3.drew := ⟨_, rfl⟩
 have kR : Kept (fun _ => False) w3 WR := by rw [hWR]; exact (Kept.refl _ _).drew
 have hbR := (hk3.then kR).blk hb2 id
 have Y0 := cell_regrown (show WR.cell? ⟨w.heap.size, 0, none⟩ = some (.int .i64 rows) from blk_cell hbR 0)
 have Y1 := cell_regrown (show WR.cell? ⟨w.heap.size, 1, none⟩ = some (.int .i64 cols) from blk_cell hbR 1)
 have Y2 := cell_regrown (show WR.cell? ⟨w.heap.size, 2, none⟩ = some (.int .i64 cw) from blk_cell hbR 2)
 have Y3 := cell_regrown (show WR.cell? ⟨w.heap.size, 3, none⟩ = some (.int .i64 ch) from blk_cell hbR 3)
 have Y4 := cell_regrown (show WR.cell? ⟨w.heap.size, 4, none⟩ = some (.int .i64 back) from blk_cell hbR 4)
 have Y5 := cell_regrown (show WR.cell? ⟨w.heap.size, 5, none⟩ = some (.int .i64 quota) from blk_cell hbR 5)
 obtain ⟨R, hRR⟩ : ∃ R : Value -> World -> Prop, R = fun v w' => ∃ p GP, v = .pointer (some ⟨p, 0, none⟩) /\ PQ GP w' p ps0 /\ ∀ i, GP i -> WR.heap.size <= i := ⟨_, rfl⟩
 have HRR := Lib.hid hRR
 have HWR := Lib.hid (And.intro hWR kR)
 have H3 := Lib.hid (And.intro hE hk3)
 clear he hso hpt m1 m2 m3 m4 hk3 hE kR hRR hWR hbR hb2 y5
 go_wp2
 refine wp_region_grow #[0, 0, 0, 0, 15, 31, 63, 127] 5 [] (fun i => if i = 3 then some R else none) (by kernel_rfl) rfl (by kernel_rfl) (fun i hi => by cases hi) (fun _ _ _ _ _ h => h) ?_
 rintro _ rfl
 rw [<- HWR.out.1]
 simp only [List.take_succ_cons, List.take_zero, List.drop_succ_cons, List.drop_zero, number, Nat.reduceAdd]
 iterate 3 (refine wpGrow_step (fun K hK => ?_); go_simp; refine hK _ _ ?_; clear hK K)
 refine wpGrow_step (fun K hK => ?_)
 go_simp
 refine ⟨fun w' hg => (psnew_any w').mono (fun e w'' ⟨p, GP, he, hp, hn, hk⟩ => ⟨_, he, hk, by rw [HRR.out]; exact ⟨p, GP, rfl, hp, fun i hi => Nat.le_trans hg.old.size (hn i hi)⟩⟩), fun v3 w4 hv3 _ => ?_⟩
 rw [HRR.out] at hv3
 obtain ⟨p, GP, rfl, hp⟩ := hv3
 have H4 := Lib.hid hp
 clear hp
 refine hK _ _ ?_; clear hK K
 refine wpGrow_step (fun K hK => ?_)
 go_simp
 refine hK _ _ ?_; clear hK K
 refine wpGrow_nil ?_
 intro w5 hk5 hω
 have hk45 : Kept (fun _ => False) w4 w5 := hω 3
 have HX := Lib.hid (And.intro hk5 (H4.out.1.kept hk45 (fun _ _ => id)))
 clear hk5 hk45 hω
 go_wp2
 refine bodyPost_ret (v := .tuple #[.pointer (some ⟨w5.heap.size, 0, none⟩), .int .i64 0]) (by simp [results, Tryz.results31, go_sem]) rfl ?_
 obtain ⟨hk5, hpq⟩ := HX.out
 have hz1 := HC.out.1.size
 have hz2 := H2.out.1.size
 have hz3 := H3.out.2.size
 have hzR := HWR.out.2.size
 have hz5 := hk5.size
 obtain ⟨V, hV⟩ : ∃ V, w5.alloc (.cells (tmC ⟨rows, cols, cw, ch, back, quota⟩ ⟨s, en, p, .pointer none, .slice none 0 0, false, .slice none 0 0, 0, 0⟩) 91) = V := ⟨_, rfl⟩
 have kV : Kept (fun _ => False) w5 V := by rw [<- hV]; exact (Kept.refl _ _).alloc _
 have bV : V.heap[w5.heap.size]? = some (.cells (tmC ⟨rows, cols, cw, ch, back, quota⟩ ⟨s, en, p, .pointer none, .slice none 0 0, false, .slice none 0 0, 0, 0⟩) 91 (0, 0)) := by rw [<- hV]; exact blk_new _ _
 have hzV := lt_of_blk bV
 have kR5 := HWR.out.2.then (hk5.then kV)
 suffices h : TmK (fun i => (V1.heap.size <= i /\ i < w2.heap.size) \/ (w2.heap.size <= i /\ i < w3.heap.size) \/ i = w5.heap.size) V w5.heap.size ⟨rows, cols, cw, ch, back, quota⟩ ⟨s, en, p, .pointer none, .slice none 0 0, false, .slice none 0 0, 0, 0⟩ (sp0 rows cols back) [] (fun i => V1.heap.size <= i /\ i < w2.heap.size) (fun i => w2.heap.size <= i /\ i < w3.heap.size) /\ PQ GP V p ps0 /\ (∀ i, GP i -> ¬ ((V1.heap.size <= i /\ i < w2.heap.size) \/ (w2.heap.size <= i /\ i < w3.heap.size) \/ i = w5.heap.size)) /\ (∀ i, ((V1.heap.size <= i /\ i < w2.heap.size) \/ (w2.heap.size <= i /\ i < w3.heap.size) \/ i = w5.heap.size) \/ GP i -> w.heap.size <= i) /\ Kept (fun _ => False) w V by
  rw [<- hV] at h
  exact ⟨w5.heap.size, s, en, p, _, _, _, GP, rfl, h⟩
 have hnil : ∀ b, (Value.slice none 0 0).ownBlock = some b -> False := fun b h => by cases h
 have hpl := hpq.lt
 have hpm := H4.out.2
 refine ⟨⟨bV, ⟨g0, g1, md, pv, st, tb, G0, G1, H2.out.2.up ((H3.out.2).then kR5)⟩, H3.out.1.kept kR5 (fun _ _ => id), Own.nil _ _ _, fun i hi => ?_, fun i h1 h2 => ?_, ⟨fun h => ?_, fun h => ?_⟩, fun b hb => (hnil b hb).elim, fun i hi => ?_⟩, hpq.kept kV (fun _ _ => id), fun i hi h => ?_, fun i hi => ?_, HC.out.1.then (H2.out.1.then (H3.out.2.then kR5))⟩
 ·rcases hi with hi | hi | hi | hi
  ·exact .inl hi
  ·exact .inr (.inl hi)
  ·exact .inr (.inr hi)
  ·exact (hnil i hi).elim
 ·omega
 ·omega
 ·omega
 ·rcases hi with hi | hi | hi <;> omega
 ·have h3 := hpm i hi
  have h4 := hpl i hi
  rcases h with h | h | h <;> omega
 ·rcases hi with (hi | hi | hi) | hi
  ·omega
  ·omega
  ·omega
  ·have h3 := hpm i hi; omega
end Go.Proofs.YtmplpcmcbliadaaGreatDoor
