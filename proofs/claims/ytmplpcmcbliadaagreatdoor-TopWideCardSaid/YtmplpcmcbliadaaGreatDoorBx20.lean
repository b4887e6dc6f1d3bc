/- strings.Builder. -/
import Derived.Test.YtmplpcmcbliadaaGreatDoorBx18
import Derived.Test.YtmplpcmcbliadaaGreatDoorBx1
import Derived.Test.YtmplpcmcbliadaaGreatDoorBx5
import Derived.Lib.Builder
import Derived.Lib.UnsafeStr
import Derived.Lib.TrimByte
import Derived.Laws.Externs
import Derived.Shelf.RegionOpenPlain
set_option linter.unusedVariables false
set_option linter.unusedSimpArgs false
namespace Go.Proofs.YtmplpcmcbliadaaGreatDoor
open Go.RowKit Go.Sort Pl
theorem Kept.freeze {S : Nat -> Prop} {a w : World} (h : Kept S a w) {p : Addr} (hp : S p.block \/ a.heap.size <= p.block) (n : Nat) : Kept S a (w.freeze p n) := by
 unfold World.freeze
 split
 ·exact h
 ·refine ⟨h.os, h.tape, h.output, by simpa using h.size, fun k hk hn => ?_⟩
  have hne : p.block ≠ k := fun e => by
   rcases hp with hp | hp
   ·exact hn (e ▸ hp)
   ·omega
  simp only [Array.getElem?_modify, if_neg hne]
  exact h.block k hk hn
def BdP (us : Bool) (b : Nat) : Value := if us then .pointer (some ⟨b, 0, none⟩) else .pointer none
def BdB (w : World) (b : Nat) (us : Bool) (v : Value) : Prop := w.heap[b]? = some (.cells #[BdP us b, v] 125 (0, 0))
theorem blk2c {w : World} {b : Nat} {x y : Value} {t : TypeId} (h : w.heap[b]? = some (.cells #[x, y] t (0, 0))) :
  (w.cell? ⟨b, 0, none⟩ = some x /\ w.frozen? ⟨b, 0, none⟩ = false) /\ (w.cell? ⟨b, 1, none⟩ = some y /\ w.frozen? ⟨b, 1, none⟩ = false) := ⟨⟨blk_cell h 0, blk_free h 0⟩, ⟨blk_cell h 1, blk_free h 1⟩⟩
theorem info125 : ∃ j, Tryz.prog.info? 125 = some j /\ j.size = 2 := by
 have h : (Tryz.prog.info? 125).map (·.size) = some 2 := by kernel_rfl
 cases hj : Tryz.prog.info? 125 with
 | none => rw [hj] at h; cases h
 | some j => rw [hj] at h; simp at h; exact ⟨j, rfl, h⟩
theorem lies125 : liesAt Tryz.prog Tryz.prog.depth 125 (2 / Tryz.prog.cellsOf 125) 0 125 1 = true := by kernel_rfl
set_option maxRecDepth 100000 in
set_option maxHeartbeats 2000000 in
theorem bcheck_any (b : Nat) (us : Bool) (v : Value) (w : World) (h : BdB w b us v) : Calls Tryz.prog 106 #[.pointer (some ⟨b, 0, none⟩)] w fun e w' => e = .returned (.tuple #[]) /\ BdB w' b true v /\ Kept (fun i => i = b) w w' := by
 obtain ⟨j, hj, hjs⟩ := info125
 obtain ⟨⟨c0', f0⟩, -⟩ := blk2c h
 have hsh : w.shape? b = some (125, 2) := by simp [World.shape?, show w.heap[b]? = _ from h]
 have HK := Lib.hid (And.intro h (show Kept (fun i => i = b) w (w.setCell ⟨b, 0, none⟩ (.pointer (some ⟨b, 0, none⟩))) from (Kept.refl (fun i => i = b) w).setCell (p := ⟨b, 0, none⟩) (.inl rfl) _))
 cases us with
 | true =>
  have c0 : w.cell? ⟨b, 0, none⟩ = some (.pointer (some ⟨b, 0, none⟩)) := c0'
  clear h c0'
  go_enter Tryz.func106, Tryz.ntmps106
  go_wp2
  rw [Lib.run_neq_ptr_same _ _ Tryz.underlying123 hj]
  go_wp2
  go_end0
  exact ⟨rfl, HK.out.1, Kept.refl _ _⟩
 | false =>
  have c0 : w.cell? ⟨b, 0, none⟩ = some (.pointer none) := c0'
  clear h c0'
  go_enter Tryz.func106, Tryz.ntmps106
  go_wp2
  rw [Lib.run_to_unsafe w ⟨b, 0, none⟩ Tryz.underlying123 Tryz.underlying257 hj (by rw [hjs]; decide) hsh (Nat.zero_lt_succ 1)]
  simp only [Result.andThen]
  rw [Oper.upon_value]
  go_wp2
  rw [run_callFunc_extern Tryz.func161 (by kernel_rfl) (by kernel_rfl) (by kernel_rfl) (e := Extern.AbiNoEscape.same) (by kernel_rfl)]
  rw [Lib.run_noEscape]
  simp only [Result.andThen]
  rw [Oper.upon_value]
  go_wp2
  rw [Lib.run_from_unsafe w ⟨b, 0, none⟩ Tryz.underlying257 Tryz.underlying123 hj hsh lies125]
  simp only [Result.andThen]
  rw [Oper.upon_value]
  go_wp2
  go_end0
  exact ⟨rfl, blk_set HK.out.1 0 _, HK.out.2⟩
def Put (b : Nat) (v : Value) (xs : List Int) (w w' : World) : Prop := ∃ v', BdB w' b true v' /\ Own .u8 5 w' v' xs /\ Kept (fun i => i = b \/ v.ownBlock = some i) w w' /\ (v'.ownBlock = v.ownBlock \/ ∃ g, v'.ownBlock = some g /\ w.heap.size <= g)
theorem own_ne {w : World} {b : Nat} {v : Value} {cs : Array Value} {xs : List Int} (h : w.heap[b]? = some (.cells cs 125 (0, 0))) (ho : Own .u8 5 w v xs) : v.ownBlock ≠ some b := fun e => by
 obtain ⟨c, hc⟩ := own_blk ho e
 exact blk_ty2 hc h (by decide)
set_option maxRecDepth 100000 in
set_option maxHeartbeats 2000000 in
theorem bbyte_any (b : Nat) (us : Bool) (v : Value) (xs : List Int) (c : Int) (w : World) (h : BdB w b us v) (ho : Own .u8 5 w v xs) (hl : xs.length <= 1000000) : Calls Tryz.prog 64 #[.pointer (some ⟨b, 0, none⟩), .int .u8 c] w fun e w' => e = .returned .nilIface /\ Put b v (xs ++ [c]) w w' := by
 have hne := own_ne h ho
 have HC := Lib.hid (bcheck_any b us v w h)
 obtain ⟨i0, hi0, hi1, hi2, hi3⟩ := info_parts Tryz.infoByte
 have HI := Lib.hid (And.intro hi0 (And.intro hi1 (And.intro hi2 hi3)))
 have HH := Lib.hid (And.intro hne (And.intro h (And.intro ho hl)))
 clear h ho hl hi0 hi1 hi2 hi3 hne
 go_enter Tryz.func64, Tryz.ntmps64
 go_wp2_with fail
 refine HC.out.mono ?_
 rintro e w1 ⟨rfl, h1, hk1⟩
 obtain ⟨-, c1, f1⟩ := blk2c h1
 have HO := Lib.hid (HH.out.2.2.1.kept hk1 (fun x hx e => HH.out.1 (by rw [hx, show x = b from e])))
 obtain ⟨W, hW⟩ : ∃ W, w1.alloc (.cells #[.int .u8 c] 5) = W := ⟨_, rfl⟩
 have kW : Kept (fun _ => False) w1 W := by rw [<- hW]; exact (Kept.refl _ _).alloc _
 have bW : W.heap[w1.heap.size]? = some (.cells #[.int .u8 c] 5 (0, 0)) := by rw [<- hW]; exact blk_new _ _
 have sW := slAt_blk (k := .u8) (xs := [c]) bW rfl rfl
 have H1 := Lib.hid (And.intro h1 (And.intro hk1 (And.intro kW sW)))
 clear h1 hk1 kW bW sW
 go_wp2_with (at_builtin; refine wpList_appInts rfl (.tmp 11) (.tmp 13) 22 rfl 5 .u8 i0 (.int .u8 0) 1 Tryz.underlying22 HI.out.1 HI.out.2.1 HI.out.2.2.1 HI.out.2.2.2 rfl v xs rfl (HO.out.kept H1.out.2.2.1 (fun _ _ => id)) (some ⟨w1.heap.size, 0, none⟩) 1 1 [c] rfl (fun h => by cases h) H1.out.2.2.2 (by have := HH.out.2.2.2; omega) (by have := HH.out.2.2.2; unfold maxLen; omega) ?_; intro v5 w5 ho5 hk5 hpr5; have hb5 := hk5.blk (H1.out.2.2.1.blk H1.out.1 id) HH.out.1; obtain ⟨⟨d0, -⟩, d1, e1⟩ := blk2c hb5; obtain ⟨a5, cp5, hv5, -⟩ := ho5.shape; generalize (xs ++ [c]).length = n5 at hv5; subst hv5; have H5 := Lib.hid (And.intro ho5 (And.intro hk5 (And.intro hpr5 hb5))); clear ho5 hk5 hpr5 hb5 c1 f1)
 go_ret
 obtain ⟨ho5, hk5, hpr5, hb5⟩ := H5.out
 obtain ⟨h1, hk1, kW, sW⟩ := H1.out
 have hz1 := hk1.size
 have hzW := kW.size
 have hk15 : Kept (fun i => i = b \/ v.ownBlock = some i) w w5 := (hk1.mono fun i _ h => .inl h).then ((kW.mono fun i _ h => h.elim).then (hk5.mono fun i _ h => .inr h))
 have hv5 := own_ne hb5 ho5
 refine ⟨rfl, _, blk_set hb5 1 _, ho5.kept ((Kept.refl (fun i => i = b) w5).setCell (p := ⟨b, 1, none⟩) (.inl rfl) _) (fun x hx e => hv5 (by rw [hx, show x = b from e])), hk15.setCell (.inl (.inl rfl)) _, ?_⟩
 rcases hpr5 with hp | hp
 ·exact .inl hp
 ·exact .inr ⟨_, hp, by omega⟩
set_option maxRecDepth 100000 in
set_option maxHeartbeats 2000000 in
theorem bwrite_any (b : Nat) (us : Bool) (v : Value) (xs ys : List Int) (a : Option Addr) (n cap : Nat) (w : World) (h : BdB w b us v) (ho : Own .u8 5 w v xs) (hl : xs.length <= 1000000) (hs : SlAt .u8 w a n ys) (hn : n <= 1000000) (hnil : a = none -> n = 0 /\ cap = 0) (hab : ∀ x off, 0 < n -> a = some ⟨x, off, none⟩ -> x ≠ b) :
  Calls Tryz.prog 65 #[.pointer (some ⟨b, 0, none⟩), .slice a n cap] w fun e w' => e = .returned (.tuple #[.int .i64 n, .nilIface]) /\ Put b v (xs ++ ys) w w' := by
 have hne := own_ne h ho
 have HC := Lib.hid (bcheck_any b us v w h)
 obtain ⟨i0, hi0, hi1, hi2, hi3⟩ := info_parts Tryz.infoByte
 have HI := Lib.hid (And.intro hi0 (And.intro hi1 (And.intro hi2 hi3)))
 have HH := Lib.hid (And.intro hne (And.intro h (And.intro ho (And.intro hl (And.intro hs (And.intro hn (And.intro hnil hab)))))))
 clear h ho hl hi0 hi1 hi2 hi3 hne hs hn hnil hab
 go_enter Tryz.func65, Tryz.ntmps65
 go_wp2_with fail
 refine HC.out.mono ?_
 rintro e w1 ⟨rfl, h1, hk1⟩
 obtain ⟨-, c1, f1⟩ := blk2c h1
 have HO := Lib.hid (HH.out.2.2.1.kept hk1 (fun x hx e => HH.out.1 (by rw [hx, show x = b from e])))
 have HS := Lib.hid (HH.out.2.2.2.2.1.kept hk1 (fun x off h0 hx e => HH.out.2.2.2.2.2.2.2 x off h0 hx (show x = b from e)))
 have H1 := Lib.hid (And.intro h1 hk1)
 clear h1 hk1
 go_wp2_with (at_builtin; refine wpList_appInts rfl (.tmp 12) (.tmp 13) 22 rfl 5 .u8 i0 (.int .u8 0) 1 Tryz.underlying22 HI.out.1 HI.out.2.1 HI.out.2.2.1 HI.out.2.2.2 rfl v xs rfl HO.out a n cap ys rfl HH.out.2.2.2.2.2.2.1 HS.out (by have := HH.out.2.2.2.1; have := HH.out.2.2.2.2.2.1; omega) (by have := HH.out.2.2.2.1; have := HH.out.2.2.2.2.2.1; unfold maxLen; omega) ?_; intro v5 w5 ho5 hk5 hpr5; have hb5 := hk5.blk H1.out.1 HH.out.1; obtain ⟨⟨d0, -⟩, d1, e1⟩ := blk2c hb5; obtain ⟨a5, cp5, hv5, -⟩ := ho5.shape; generalize (xs ++ ys).length = n5 at hv5; subst hv5; have H5 := Lib.hid (And.intro ho5 (And.intro hk5 (And.intro hpr5 hb5))); clear ho5 hk5 hpr5 hb5 c1 f1)
 refine bodyPost_ret (v := .tuple #[.int .i64 n, .nilIface]) (by simp [results, Tryz.results65, go_sem]) rfl ?_
 obtain ⟨ho5, hk5, hpr5, hb5⟩ := H5.out
 obtain ⟨h1, hk1⟩ := H1.out
 have hz1 := hk1.size
 have hk15 : Kept (fun i => i = b \/ v.ownBlock = some i) w w5 := (hk1.mono fun i _ h => .inl h).then (hk5.mono fun i _ h => .inr h)
 have hv5 := own_ne hb5 ho5
 refine ⟨rfl, _, blk_set hb5 1 _, ho5.kept ((Kept.refl (fun i => i = b) w5).setCell (p := ⟨b, 1, none⟩) (.inl rfl) _) (fun x hx e => hv5 (by rw [hx, show x = b from e])), hk15.setCell (.inl (.inl rfl)) _, ?_⟩
 rcases hpr5 with hp | hp
 ·exact .inl hp
 ·exact .inr ⟨_, hp, by omega⟩
def u8s (xs : List Int) : List UInt8 := xs.map fun n => UInt8.ofNat n.toNat
set_option maxRecDepth 100000 in
set_option maxHeartbeats 2000000 in
theorem bstr_any (b : Nat) (us : Bool) (v : Value) (xs : List Int) (w : World) (h : BdB w b us v) (ho : Own .u8 5 w v xs) (h0 : 0 < xs.length) (hl : xs.length <= 1000000) (hby : ∀ x ∈ xs, 0 <= x /\ x < 256) : Calls Tryz.prog 68 #[.pointer (some ⟨b, 0, none⟩)] w fun e w' => e = .returned (.string (strOfNums xs)) /\ Kept (fun i => v.ownBlock = some i) w w' := by
 obtain ⟨g, cap, cur, rfl, hg, hnc, hcm, hcs, htake⟩ : ∃ g cap cur, v = .slice (some ⟨g, 0, none⟩) xs.length cap /\ w.heap[g]? = some (.cells cur 5 (0, 0)) /\ xs.length <= cap /\ cap <= maxLen /\ cur.size = cap * 1 /\ cur.toList.take (xs.length * 1) = xs.map (Value.int .u8) := by
  rcases ho.2 with ⟨_, hz⟩ | ⟨g, cap, cur, hv, -, r⟩
  ·exact absurd hz (by omega)
  ·exact ⟨g, cap, cur, hv, r⟩
 obtain ⟨-, c1', -⟩ := blk2c h
 have c1 : w.drew.cell? ⟨b, 1, none⟩ = some (.slice (some ⟨g, 0, none⟩) xs.length cap) := c1'
 have hSD : (Builtin.unsafeSliceData_ #[22] 199 #[.slice (some ⟨g, 0, none⟩) xs.length cap]).run Tryz.prog w.drew = .ok (.pointer (some ⟨g, 0, none⟩)) w.drew := Lib.run_unsafeSliceData_row _ _ _ _ _ _ (by omega)
 have hUS : (Builtin.unsafeString_ #[199, 3] 9 #[.pointer (some ⟨g, 0, none⟩), .int .i64 xs.length]).run Tryz.prog w.drew = .ok (.string (strOfNums xs)) (w.drew.freeze ⟨g, 0, none⟩ xs.length) := by
  have h9 := Lib.run_unsafeString_row w.drew 199 3 9 5 Tryz.underlying199 (by kernel_rfl) g cur.size (by simp [World.shape?, show w.drew.heap[g]? = _ from hg]) (u8s xs) (by unfold u8s; intro e; simp at e; subst e; simp at h0) (by unfold u8s; simp; omega) (by unfold u8s; simp; unfold maxLen at hcm; omega) (fun j x hx => by
   unfold u8s at hx
   rw [List.getElem?_map] at hx
   cases hx1 : xs[j]? with
   | none => rw [hx1] at hx; cases hx
   | some y =>
    rw [hx1] at hx
    simp at hx
    subst hx
    have hj := (List.getElem?_eq_some_iff.1 hx1).1
    have hy := hby y (List.mem_of_getElem? hx1)
    have h8 := ho.at.2.2.2.1 j hj
    rw [List.getD_eq_getElem?_getD, hx1] at h8
    have e1 : (UInt8.ofNat y.toNat).toNat = y.toNat := by simp [UInt8.toNat_ofNat']; omega
    rw [e1, show ((y.toNat : Nat) : Int) = y by omega]
    have e2 : (⟨g, 0, none⟩ : Addr).add j = ⟨g, j, none⟩ := by simp [Addr.add, eq_comm]
    rw [e2]
    exact h8)
  have e3 : (u8s xs).length = xs.length := by unfold u8s; simp
  rw [e3] at h9
  exact h9
 have HK := Lib.hid (show Kept (fun i => some g = some i) w (w.drew.freeze ⟨g, 0, none⟩ xs.length) from ((Kept.refl (fun i => some g = some i) w).drew).freeze (p := ⟨g, 0, none⟩) (.inl rfl) _)
 clear h ho hg hcs htake c1'
 go_enter Tryz.func68, Tryz.ntmps68
 go_wp2
 have mixed : Tryz.prog.follows Departure.mixedOrders = true := by kernel_rfl
 go_region_o
 all_goals (go_wp2; go_ret; exact ⟨rfl, HK.out⟩)
end Go.Proofs.YtmplpcmcbliadaaGreatDoor
