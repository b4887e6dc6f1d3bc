/- Bytes as text: Encode. -/
import Derived.RangeFuncNested
import Derived.RangeFuncBound
import Derived.RangeFuncCalls
import Derived.RangeFuncLeaves
import Derived.RangeFuncBox
import Derived.Shelf.Abstract
import Derived.Shelf.RegionOpen
import Derived.WalkKit
import Derived.OwnWalkIn
import Derived.TacticsInMore
import Derived.LoopNIn
import Derived.LoopIn
import Derived.Maps.AppendAt
import Derived.Laws.BitsAllLaws
import Derived.Test.YtgmbjebighhgkaaChunk
import Derived.Test.YtgmbjebighhgkaaWrite
namespace Go.Proofs.Ytgmbjebighhgkaa
open Go.RowKit Go.Shelf
attribute [local go_sem] Oper.semAt_some
attribute [-go_sem] Go.Builtin.append_
set_option linter.unusedVariables false
set_option linter.unusedSimpArgs false
/-- What the pieces of these numbers give. -/
def groups (bs : List Nat) (pre : List Nat) : List Nat := (pre.map fun k => group ((bs.drop (3 * k)).take 3)).flatten
theorem groups_snoc (bs pre : List Nat) (x : Nat) : groups bs (pre ++ [x]) = groups bs pre ++ group ((bs.drop (3 * x)).take 3) := by simp [groups]
theorem out_app {W w1 : World} {Bo : Nat} {v v' : Value} {k m : Nat} {xs ys : List Value} {tmp : Obj} (hv : Boxed W Bo 28 v) (hrow : W.ownsRow (Bo + 3) 5 1 v k xs) (hn : Bo + 3 ≤ W.heap.size) (hown' : w1.ownsRow (Bo + 3) 5 1 v' m ys) (hgrow : (W.alloc tmp).grownBy w1 v.ownBlock) :
    Boxed w1 Bo 28 v ∧ Boxed (w1.setCell ⟨Bo, 0, none⟩ v') Bo 28 v' ∧ (w1.setCell ⟨Bo, 0, none⟩ v').ownsRow (Bo + 3) 5 1 v' m ys ∧ KeepsOthers W (w1.setCell ⟨Bo, 0, none⟩ v') ∧ Kept (fun i => i = Bo ∨ Bo + 3 ≤ i) W (w1.setCell ⟨Bo, 0, none⟩ v') := by
  have hv1 : Boxed w1 Bo 28 v := (hv.alloc tmp).kept hgrow (hv.not_row (by decide) hrow)
  refine ⟨hv1, hv1.set v', hown'.kept (grownBy_setCell' w1 Bo v') (.inr (hv1.not_row (by decide) hown').symm), ?_, ?_⟩
  · refine ((KeepsOthers.alloc W tmp).trans (KeepsOthers.of_grownBy hgrow fun j o ej hj => ?_)).trans (KeepsOthers.setCell _ _ _)
    rcases (hrow.alloc tmp).2 with ⟨rfl, _⟩ | ⟨g, cap, cur, rfl, _, hgb, _⟩
    · simp [Value.ownBlock] at ej
    · obtain rfl : g = j := by simpa [Value.ownBlock] using ej
      rw [hgb] at hj; cases hj; rfl
  · refine ((((Kept.refl (fun i => i = Bo ∨ Bo + 3 ≤ i) W).alloc tmp).grown hgrow fun j ej => ?_)).setCell (p := ⟨Bo, 0, none⟩) (.inl (.inl rfl)) v'
    rcases hrow.2 with ⟨rfl, _⟩ | ⟨g, cap, cur, rfl, hb, _, _⟩
    · simp [Value.ownBlock] at ej
    · obtain rfl : g = j := by simpa [Value.ownBlock] using ej
      exact .inl (.inr hb)
theorem chunk_stops (F : Fence) (n : Nat) (h7 : F.fn 32) (hro : F.round = none) (hn : 1 ≤ n) (Bs Bn b off len cap Bo : Nat) (hl : len ≤ cap) (hlm : len ≤ 1000000) (hcm : cap ≤ 9223372036854775807) (hS : ¬ (Bs = Bo ∨ Bo + 3 ≤ Bs)) (hN : ¬ (Bn = Bo ∨ Bo + 3 ≤ Bn)) (w : World)
    (hs : w.cell? ⟨Bs, 0, none⟩ = some (.slice (some ⟨b, off, none⟩) len cap)) (hn3 : w.cell? ⟨Bn, 0, none⟩ = some (.int .i64 3)) :
    SeqStopsK F n Try.prog 32 #[.pointer (some ⟨Bs, 0, none⟩), .pointer (some ⟨Bn, 0, none⟩)] (fun k : Nat => #[piece b off len k]) (Kept (fun i => i = Bo ∨ Bo + 3 ≤ i)) (fun ys => ys = List.range ((len + 2) / 3)) (fun pre => pre <+: List.range ((len + 2) / 3)) ((len + 2) / 3) w := fun l J Jx W hW hJ _ hY h0 => by
  have hs' := (hW.cell (p := ⟨Bs, 0, none⟩) (lt_of_cell hs)).trans hs
  have hn' := (hW.cell (p := ⟨Bn, 0, none⟩) (lt_of_cell hn3)).trans hn3
  exact chunk1_in F n h7 hro hn l Bs Bn b off len cap _ hl hlm hcm (fun A B hk hc => hk.cell hc hS) (fun A B hk hc => hk.cell hc hN) J Jx
    (fun xs W hj => hJ xs W W.drew none hj ⟨rfl, rfl, rfl, Nat.le_refl _, fun _ _ _ => rfl⟩ (fun r e => by cases e)) hY W hs' hn' h0


theorem groups_all : ∀ bs : List Nat, groups bs (List.range ((bs.length + 2) / 3)) = enc bs
  | [] => rfl
  | [a] => by simp [groups, enc]
  | [a, b] => by simp [groups, enc]
  | a :: b :: c :: r => by
    have ih := groups_all r
    have e : ((a :: b :: c :: r).length + 2) / 3 = (r.length + 2) / 3 + 1 := by simp only [List.length_cons]; omega
    rw [e, List.range_succ_eq_map]
    have e2 : groups (a :: b :: c :: r) (0 :: List.map Nat.succ (List.range ((r.length + 2) / 3))) = group [a, b, c] ++ groups r (List.range ((r.length + 2) / 3)) := by
      simp only [groups, List.map_cons, List.flatten_cons, List.map_map]
      congr 1
    rw [e2, ih]
    rfl
/-- What Encode leaves. -/
def EPost (bs : List Nat) (w : World) (e : Ending) (W' : World) : Prop := ∃ u, e = .returned u ∧ Res W' w.heap.size u (ints (enc bs)) ∧ Kept (fun _ => False) w W'
theorem row_res {W : World} {B : Nat} {v : Value} {zs : List Nat} (h : W.ownsRow B 5 1 v zs.length ((ints zs).map (Value.int .u8))) : Res W B v (ints zs) := by
  have ho : Own .u8 5 W v (ints zs) := by
    obtain ⟨h1, h2⟩ := h
    rw [← ints_length zs] at h1 h2
    exact ⟨h1, h2.imp id (fun ⟨g, cap, cur, e, _, r⟩ => ⟨g, cap, cur, e, Nat.zero_le _, r⟩)⟩
  obtain ⟨a, cap, e, h1, h2, h3, h4, h5⟩ := ho.shape
  refine ⟨a, _, cap, e, h1, h2, by unfold maxLen at h3; omega, h4, fun g off hg => ?_⟩
  have := h5 g off hg
  exact (World.ownsRow.lt h g this).1
theorem tinfo5e : (Try.prog.info? 5).map (fun i => (i.zero, i.size, i.bytes)) = some (some (.int .u8 0), 1, 1) := by kernel_rfl
/-- Between two pieces. -/
def OutI (Bo : Nat) (bs : List Nat) (W2 : World) (pre : List Nat) (W : World) : Prop :=
  (∃ v, Boxed W Bo 28 v ∧ W.ownsRow (Bo + 3) 5 1 v (groups bs pre).length ((ints (groups bs pre)).map (Value.int .u8)) ∧ True) ∧ Kept (fun i => i = Bo ∨ Bo + 3 ≤ i) W2 W
theorem outI_own (Bo : Nat) (bs : List Nat) (W2 : World) (hB : W2.heap.size = Bo + 3) : OwnFrom W2.heap.size (OutI Bo bs W2) := by
  refine OwnFrom.and (Own.from (holdsRow_own (Bo + 3) Bo 28 5 1 (fun pre => (groups bs pre).length) (fun pre => (ints (groups bs pre)).map (Value.int .u8)) (fun _ _ => True)) _) ?_
  intro s W W' row hk hg hr
  exact hk.grown hg (fun k e => .inl (.inr (by have := (hr k e).1; omega)))
def Cut (A : Act) (W : World) (e : Exit) (a : Act) (w : World) : Prop := e = .normal ∧ a = A ∧ w = W
theorem Cut.mk (A : Act) (W : World) : Cut A W .normal A W := ⟨rfl, rfl, rfl⟩
theorem and63 {V : Nat} (h : V < 4294967296) (x : Int) (hx : x = (V : Int)) : bits BinOp.and .u32 x 63 = ((V % 64 : Nat) : Int) := by
  rw [hx, show (63 : Int) = ((63 : Nat) : Int) from rfl, u32_and_nat _ _ h (by omega), show (63 : Nat) = 2 ^ 6 - 1 from rfl, Nat.and_two_pow_sub_one_eq_mod]
theorem sign_all : (List.range 64).all (fun d => decide (((alphabet.map fun n => UInt8.ofNat n)[d]?.getD 0).toNat = sign d)) = true := by kernel_rfl
theorem sign_at {d : Nat} (h : d < 64) : ((alphabet.map fun n => UInt8.ofNat n)[d]?.getD 0).toNat = sign d := of_decide_eq_true (List.all_eq_true.1 sign_all d (by simp; omega))
theorem sign_ix {d : Nat} (h : d < 64) (s : ByteArray) (hs : s = ⟨(alphabet.map fun n => UInt8.ofNat n).toArray⟩) (hd : d < s.size) : (s[d]'hd).toNat = sign d := by
  subst hs
  rw [← sign_at h]
  show ((alphabet.map fun n => UInt8.ofNat n).toArray[d]'hd).toNat = _
  have hd' : d < (alphabet.map fun n => UInt8.ofNat n).length := hd
  rw [List.getElem?_eq_getElem hd']
  rfl
theorem emit (W : World) (Bo s : Nat) (v : Value) (zs : List Nat) (hv : Boxed W Bo 28 v) (hrow : W.ownsRow (Bo + 3) 5 1 v zs.length ((ints zs).map (Value.int .u8))) (hsz : Bo + 3 ≤ W.heap.size) (hl : zs.length ≤ 10000000) :
    ∃ v5 w5 X, (Builtin.append_ #[28, 28] 28 #[v, .slice (some ⟨W.heap.size, 0, none⟩) 1 1]).run Try.prog (W.alloc (.cells #[.int .u8 s] 5)) = .ok v5 w5 ∧ w5.setCell ⟨Bo, 0, none⟩ v5 = X ∧ (w5.cell? ⟨Bo, 0, none⟩ = some v ∧ w5.frozen? ⟨Bo, 0, none⟩ = false ∧ (W.alloc (.cells #[.int .u8 s] 5)).cell? ⟨Bo, 0, none⟩ = some v) ∧
      Boxed X Bo 28 v5 ∧ X.ownsRow (Bo + 3) 5 1 v5 (zs ++ [s]).length ((ints (zs ++ [s])).map (Value.int .u8)) ∧ KeepsOthers W X ∧ Kept (fun i => i = Bo ∨ Bo + 3 ≤ i) W X ∧ Bo + 3 ≤ X.heap.size ∧ ∃ g n cap, v5 = .slice (some ⟨g, 0, none⟩) n cap := by
  obtain ⟨i0, hi, hz0, hz1, hz2⟩ := info_parts tinfo5e
  obtain ⟨v5, w5, hrun, ho, hg, -⟩ := run_append_own (P := Try.prog) (w := W.alloc (.cells #[.int .u8 s] 5)) (Bo + 3) 28 28 5 i0 (.int .u8 0) 1 1 Try.underlying28 hi hz0 hz1 hz2 rfl (by omega) v zs.length _ (hrow.alloc _) ⟨W.heap.size, 0, none⟩ 1 1 [.int .u8 s] rfl (cell_one_new _ _ _) (by simp [Value.oneCell']) (by simp only [maxLen]; omega) (by omega) (by simp; omega)
  obtain ⟨h1, h2, h3, h4, h5⟩ := out_app hv hrow hsz ho hg
  refine ⟨v5, w5, _, hrun, rfl, ⟨h1.cell, h1.frozen, (hv.alloc _).cell⟩, h2, ?_, h4, h5, Nat.le_trans hsz h5.size, ?_⟩
  case refine_2 => obtain ⟨g, cap, rfl⟩ := ownsRow_succ ho; exact ⟨g, _, cap, rfl⟩
  rw [ints_append, List.map_append, List.length_append]
  exact h3
theorem emitD (W : World) (Bo s : Nat) (v : Value) (zs : List Nat) (hv : Boxed W Bo 28 v) (hrow : W.ownsRow (Bo + 3) 5 1 v zs.length ((ints zs).map (Value.int .u8))) (hsz : Bo + 3 ≤ W.heap.size) (hl : zs.length ≤ 10000000) :
    ∃ v5 w5 X, (Builtin.append_ #[28, 28] 28 #[v, .slice (some ⟨W.heap.size, 0, none⟩) 1 1]).run Try.prog ((W.alloc (.cells #[.int .u8 s] 5)).drew) = .ok v5 w5 ∧ w5.setCell ⟨Bo, 0, none⟩ v5 = X ∧ (w5.cell? ⟨Bo, 0, none⟩ = some v ∧ w5.frozen? ⟨Bo, 0, none⟩ = false ∧ (W.alloc (.cells #[.int .u8 s] 5)).cell? ⟨Bo, 0, none⟩ = some v) ∧
      Boxed X Bo 28 v5 ∧ X.ownsRow (Bo + 3) 5 1 v5 (zs ++ [s]).length ((ints (zs ++ [s])).map (Value.int .u8)) ∧ KeepsOthers W X ∧ Kept (fun i => i = Bo ∨ Bo + 3 ≤ i) W X ∧ Bo + 3 ≤ X.heap.size ∧ ∃ g n cap, v5 = .slice (some ⟨g, 0, none⟩) n cap := by
  obtain ⟨v5, w5, X, h1, h2, h3, h4, h5, h6, h7, h8, h9⟩ := emit W.drew Bo s v zs hv hrow hsz hl
  exact ⟨v5, w5, X, h1, h2, h3, h4, h5, ⟨h6.size, h6.same⟩, (Kept.refl _ W).drew.then h7, h8, h9⟩
theorem emit61 (W : World) (Bo : Nat) (v : Value) (zs : List Nat) (hv : Boxed W Bo 28 v) (hrow : W.ownsRow (Bo + 3) 5 1 v zs.length ((ints zs).map (Value.int .u8))) (hsz : Bo + 3 ≤ W.heap.size) (hl : zs.length ≤ 10000000) :
    ∃ v5 w5 X, (Builtin.append_ #[28, 28] 28 #[v, .slice (some ⟨W.heap.size, 0, none⟩) 1 1]).run Try.prog (W.alloc (.cells #[.int .u8 61] 5)) = .ok v5 w5 ∧ w5.setCell ⟨Bo, 0, none⟩ v5 = X ∧ (w5.cell? ⟨Bo, 0, none⟩ = some v ∧ w5.frozen? ⟨Bo, 0, none⟩ = false ∧ (W.alloc (.cells #[.int .u8 61] 5)).cell? ⟨Bo, 0, none⟩ = some v) ∧
      Boxed X Bo 28 v5 ∧ X.ownsRow (Bo + 3) 5 1 v5 (zs ++ [61]).length ((ints (zs ++ [61])).map (Value.int .u8)) ∧ KeepsOthers W X ∧ Kept (fun i => i = Bo ∨ Bo + 3 ≤ i) W X ∧ Bo + 3 ≤ X.heap.size ∧ ∃ g n cap, v5 = .slice (some ⟨g, 0, none⟩) n cap := emit W Bo 61 v zs hv hrow hsz hl
theorem group_len (x : List Nat) : (group x).length ≤ 7 := by
  simp [group, four, List.length_take]
  omega
theorem groups_len (bs pre : List Nat) : (groups bs pre).length ≤ 7 * pre.length := by
  induction pre with
  | nil => simp [groups]
  | cons k pre ih =>
    have := group_len ((bs.drop (3 * k)).take 3)
    have e : groups bs (k :: pre) = group ((bs.drop (3 * k)).take 3) ++ groups bs pre := by simp [groups]
    rw [e, List.length_append, List.length_cons]
    omega
theorem sign_lit {d : Nat} (h : d < 64) (hd : d < (⟨#[65, 66, 67, 68, 69, 70, 71, 72, 73, 74, 75, 76, 77, 78, 79, 80, 81, 82, 83, 84, 85, 86, 87, 88, 89, 90, 97, 98, 99, 100, 101, 102, 103, 104, 105, 106, 107, 108, 109, 110, 111, 112, 113, 114, 115, 116, 117, 118, 119, 120, 121, 122, 48, 49, 50, 51, 52, 53, 54, 55, 56, 57, 43, 47]⟩ : ByteArray).size) : ((⟨#[65, 66, 67, 68, 69, 70, 71, 72, 73, 74, 75, 76, 77, 78, 79, 80, 81, 82, 83, 84, 85, 86, 87, 88, 89, 90, 97, 98, 99, 100, 101, 102, 103, 104, 105, 106, 107, 108, 109, 110, 111, 112, 113, 114, 115, 116, 117, 118, 119, 120, 121, 122, 48, 49, 50, 51, 52, 53, 54, 55, 56, 57, 43, 47]⟩ : ByteArray)[d]'hd).toNat = sign d := sign_ix h _ (by rfl) hd
set_option maxRecDepth 100000 in
set_option maxHeartbeats 80000000 in
theorem encode_pos (F : Fence) (n : Nat) (h17 : F.fn 17) (h28 : F.fn 28) (h32 : F.fn 32) (hro : F.round = none) (hn : 4 ≤ n) (b off len cap : Nat) (bs : List Nat) (hl : len ≤ cap) (hlm : len ≤ 1000000) (hcm : cap ≤ 9223372036854775807) (w : World) (hs : SlAt .u8 w (some ⟨b, off, none⟩) len (ints bs)) (hby : ∀ c ∈ bs, c < 256) (hb : 0 < len → b < w.heap.size) :
    CallsIn F n Try.prog 17 #[.slice (some ⟨b, off, none⟩) len cap] w (EPost bs w) := by
  have h1 : 1 ≤ n := by omega
  obtain ⟨i0, hi, hz0, hz1, hz2⟩ := info_parts tinfo5e
  refine callsIn_of_wp_marks Try.func17 rfl h17 ?_ hro
  simp only [Try.ntmps17, List.size_toArray, List.length_cons, List.length_nil, Nat.reduceAdd, Nat.reduceSub, Array.replicate_succ, Array.replicate_zero, List.push_toArray, List.append_toArray, List.nil_append, List.cons_append]
  obtain ⟨Bo, hBo⟩ : ∃ Bo, w.heap.size = Bo := ⟨_, rfl⟩
  gi_wp2_with (gi_at_call 28; refine (chunk_in F (n - 1) h28 hro _ _ _ _).mono ?_; rintro e w' ⟨rfl, rfl⟩)
  have bO := Boxed.new w 28 (.slice none 0 0)
  have bS := Boxed.new (w.alloc (.cells #[.slice none 0 0] 28)) 28 (.slice (some ⟨b, off, none⟩) len cap)
  have bN := Boxed.new ((w.alloc (.cells #[.slice none 0 0] 28)).alloc (.cells #[.slice (some ⟨b, off, none⟩) len cap] 28)) 3 (.int .i64 3)
  simp only [World.size_alloc, hBo] at bO bS bN
  have kW : Kept (fun _ => False) w (((w.alloc (.cells #[.slice none 0 0] 28)).alloc (.cells #[.slice (some ⟨b, off, none⟩) len cap] 28)).alloc (.cells #[.int .i64 3] 3)) := (((Kept.refl _ w).alloc _).alloc _).alloc _
  have bO2 := (bO.alloc (.cells #[.slice (some ⟨b, off, none⟩) len cap] 28)).alloc (.cells #[.int .i64 3] 3)
  have bS2 := bS.alloc (.cells #[.int .i64 3] 3)
  have sW : (((w.alloc (.cells #[.slice none 0 0] 28)).alloc (.cells #[.slice (some ⟨b, off, none⟩) len cap] 28)).alloc (.cells #[.int .i64 3] 3)).heap.size = Bo + 3 := by simp [hBo]
  try simp only [hBo]
  obtain ⟨W2, hW2⟩ : ∃ W2, ((w.alloc (.cells #[.slice none 0 0] 28)).alloc (.cells #[.slice (some ⟨b, off, none⟩) len cap] 28)).alloc (.cells #[.int .i64 3] 3) = W2 := ⟨_, rfl⟩
  rw [hW2] at bO2 bS2 bN kW sW ⊢
  have hs2 := hs.kept kW (fun _ _ _ _ => id)
  clear bO bS hW2 hs
  refine wpIn_rangeFunc_ownG hro h1 (gf := 32) (lb := #[.pointer (some ⟨Bo + 1, 0, none⟩), .pointer (some ⟨Bo + 1 + 1, 0, none⟩)]) rfl h32 (enters_of Try.func32 (by kernel_rfl) rfl)
    (chunk_stops F (n - 1) h32 hro (by omega) (Bo + 1) (Bo + 1 + 1) b off len cap Bo hl hlm hcm (by omega) (by omega) W2 bS2.cell bN.cell) (fun h k => h.then k)
    (fun W l o o' hl _ _ _ => (Kept.refl _ W).grown (grownBy_putObj' W l o') (fun k e => by cases e; exact .inl (.inr (by omega)))) (Below.refl _ _) (fun _ => rfl)
    (OutI Bo bs W2) (fun _ _ _ => False) (outI_own Bo bs W2 sW) (fun _ _ _ _ _ hs _ _ => hs)
    ⟨⟨_, bO2, World.ownsRow_nil _ _ _ _, trivial⟩, Kept.refl _ _⟩
    (fun x => { tmps := #[.slice (some ⟨b, off, none⟩) len cap, undef, .slice none 0 0, .pointer (some ⟨Bo, 0, none⟩), piece b off len x, undef, undef, undef, .slice (some ⟨b, off, none⟩) len cap, .func (.func 32) #[] #[.pointer (some ⟨Bo + 1, 0, none⟩), .pointer (some ⟨Bo + 1 + 1, 0, none⟩)], piece b off len x, undef, undef, undef, undef, undef, undef, undef, undef, undef, undef, undef, undef, undef, undef, undef, undef, undef, undef, undef, undef, undef, undef, undef, undef, undef, undef, undef, undef, undef, undef, undef, undef, undef, undef, undef, undef, undef, undef, undef], defers := [] }) ?assign ?body ?done ?stop
  case assign =>
    intro l x W K hK
    gi_wp2
    exact hK
  case body =>
    rintro l pre x W ⟨⟨v, hv, hrow, -⟩, hkW⟩ hlt
    have hcell : ∀ j, j < min 3 (len - 3 * x) → W.cell? ⟨b, off + 3 * x + j, none⟩ = some (.int .u8 ((ints bs).getD (3 * x + j) 0)) := by
      intro j hj
      obtain ⟨b', off', e, hc⟩ := hs2.2.resolve_left (by omega)
      cases e
      have h2 := hc (3 * x + j) (by omega)
      have hbo := hb (by omega)
      rw [← Nat.add_assoc] at h2
      exact hkW.cell h2 (by show ¬ (b = Bo ∨ Bo + 3 ≤ b); omega)
    obtain ⟨ys, hys⟩ : ∃ ys, (bs.drop (3 * x)).take 3 = ys := ⟨_, rfl⟩
    have hlb : bs.length = len := by rw [← hs2.1, ints_length]
    have hyl : ys.length = min 3 (len - 3 * x) := by rw [← hys, List.length_take, List.length_drop, hlb]
    have hyc : ∀ j, (hj : j < ys.length) → (ints bs).getD (3 * x + j) 0 = (ys[j] : Nat) := by
      intro j hj
      subst hys
      simp at hj
      simp [ints, List.getElem?_eq_getElem (show 3 * x + j < bs.length by omega)]
    have hy256 : ∀ c ∈ ys, c < 256 := fun c hc => hby c (List.mem_of_mem_drop (List.mem_of_mem_take (by rw [hys]; exact hc)))
    rw [← hyl] at hcell
    have hpc : piece b off len x = .slice (some ⟨b, off + 3 * x, none⟩) ys.length ys.length := by unfold piece; rw [hyl]
    rw [hpc]
    have hgl : (groups bs pre).length ≤ 2400000 := by have := groups_len bs pre; omega
    clear hyl hpc hlt hs2
    match ys, hyc, hy256, hcell, hys with
    | [], hyc, hy256, hcell, hys =>
      simp only [List.getElem_cons_zero, List.getElem_cons_succ, Nat.add_zero, List.length_cons, List.length_nil] at  ⊢
      clear hcell hyc hy256
      have hmix : Try.prog.follows .mixedOrders = true := by kernel_rfl
      have z1 : IntKind.u32.wrap 0 = 0 := by decide
      have l0 : IntKind.i64.wrap 0 = 0 := by decide
      have l6 : IntKind.i64.wrap 6 = 6 := by decide
      have l12 : IntKind.i64.wrap 12 = 12 := by decide
      have l18 : IntKind.i64.wrap 18 = 18 := by decide
      have hVlt : (0 : Nat) < 16777216 := by omega
      have HV := Lib.hid (show 0 = word [] by rfl)
      obtain ⟨S0, hS0⟩ : ∃ S, sign 0 = S := ⟨_, rfl⟩
      have r0 : ∀ hd, ((⟨#[65, 66, 67, 68, 69, 70, 71, 72, 73, 74, 75, 76, 77, 78, 79, 80, 81, 82, 83, 84, 85, 86, 87, 88, 89, 90, 97, 98, 99, 100, 101, 102, 103, 104, 105, 106, 107, 108, 109, 110, 111, 112, 113, 114, 115, 116, 117, 118, 119, 120, 121, 122, 48, 49, 50, 51, 52, 53, 54, 55, 56, 57, 43, 47]⟩ : ByteArray)[0]'hd).toNat = S0 := fun hd => (sign_lit (by omega) hd).trans hS0
      have d0 : bits BinOp.and .u32 0 63 = 0 := by decide
      have hsz : Bo + 3 ≤ W.heap.size := by have := hkW.size; omega
      obtain ⟨v1, w1, X1, n1, x1, ⟨a1, f1, b1⟩, hv1, hrow1, ko1, kk1, hz1, g1, L1, cp1, rfl⟩ := emitD W Bo S0 _ (groups bs pre) hv hrow hsz (by omega)
      obtain ⟨v2, w2, X2, n2, x2, ⟨a2, f2, b2⟩, hv2, hrow2, ko2, kk2, hz2, g2, L2, cp2, rfl⟩ := emit61 X1 Bo  _ _ hv1 hrow1 hz1 (by simp; omega)
      obtain ⟨v3, w3, X3, n3, x3, ⟨a3, f3, b3⟩, hv3, hrow3, ko3, kk3, hz3, g3, L3, cp3, rfl⟩ := emit61 X2 Bo  _ _ hv2 hrow2 hz2 (by simp; omega)
      obtain ⟨v4, w4, X4, n4, x4, ⟨a4, f4, b4⟩, hv4, hrow4, ko4, kk4, hz4, g4, L4, cp4, rfl⟩ := emit61 X3 Bo  _ _ hv3 hrow3 hz3 (by simp; omega)
      have F0 := Lib.hid (And.intro n1 (And.intro x1 (And.intro a1 (And.intro f1 (And.intro b1 (hv.cell))))))
      have F1 := Lib.hid (And.intro n2 (And.intro x2 (And.intro a2 (And.intro f2 (And.intro b2 (hv1.cell))))))
      have F2 := Lib.hid (And.intro n3 (And.intro x3 (And.intro a3 (And.intro f3 (And.intro b3 (hv2.cell))))))
      have F3 := Lib.hid (And.intro n4 (And.intro x4 (And.intro a4 (And.intro f4 (And.intro b4 (hv3.cell))))))
      have HX := Lib.hid (And.intro hv4 (And.intro hrow4 (And.intro (((ko1.trans ko2).trans ko3).trans ko4) (((kk1.then kk2).then kk3).then kk4))))
      have HKW := Lib.hid hkW
      have HDS := Lib.hid (And.intro hS0 True.intro)
      clear hv hv1 hv2 hv3 hv4 hrow hrow1 hrow2 hrow3 hrow4 ko1 ko2 ko3 ko4 kk1 kk2 kk3 kk4 hkW n1 n2 n3 n4 x1 x2 x3 x4 a1 a2 a3 a4 f1 f2 f3 f4 b1 b2 b3 b4 hS0
      gi_wp2
      refine wpIn_loop_rounds 4 ?_
      rw [roundsIn_succ]
      gi_wp2
      rw [roundsIn_succ]
      gi_wp2
      rw [roundsIn_succ]
      gi_wp2
      rw [roundsIn_succ]
      gi_wp2
      refine wpIn_loop_rounds 5 ?_
      rw [roundsIn_succ]
      obtain ⟨n0, x0, a0, f0, b0, c0⟩ := F0.out
      gi_wp2
      refine Code.wpIn_mono (Q := Cut ?A0 ?W0) ?h0 ?i0
      case i0 =>
        gi_region_elder_o
        all_goals exact Cut.mk _ _
      rintro _ _ _ ⟨rfl, rfl, rfl⟩
      clear n0 x0 a0 f0 b0 c0 
      gi_wp2
      rw [roundsIn_succ]
      obtain ⟨n1, x1, a1, f1, b1, c1⟩ := F1.out
      gi_wp2
      clear n1 x1 a1 f1 b1 c1
      rw [roundsIn_succ]
      obtain ⟨n2, x2, a2, f2, b2, c2⟩ := F2.out
      gi_wp2
      clear n2 x2 a2 f2 b2 c2
      rw [roundsIn_succ]
      obtain ⟨n3, x3, a3, f3, b3, c3⟩ := F3.out
      gi_wp2
      clear n3 x3 a3 f3 b3 c3
      rw [roundsIn_succ]
      gi_wp2
      refine ⟨HX.out.2.2.1.from _, HX.out.2.2.2, ⟨⟨_, HX.out.1, ?_, trivial⟩, HKW.out.then HX.out.2.2.2⟩⟩
      have e : groups bs (pre ++ [x]) = groups bs pre ++ [S0, 61, 61, 61] := by
        rw [groups_snoc, hys]
        obtain ⟨rfl, -⟩ := HDS.out
        congr 1
      have e2 := HX.out.2.1
      simp only [List.append_assoc, List.cons_append, List.nil_append] at e2
      rw [e]
      exact e2
    | [p], hyc, hy256, hcell, hys =>
      have p0 := hcell 0 (by simp)
      rw [hyc 0 (by simp)] at p0
      have hp := hy256 p (by simp)
      simp only [List.getElem_cons_zero, List.getElem_cons_succ, Nat.add_zero, List.length_cons, List.length_nil] at p0 ⊢
      clear hcell hyc hy256
      have hmix : Try.prog.follows .mixedOrders = true := by kernel_rfl
      have z1 : IntKind.u32.wrap 0 = 0 := by decide
      have l0 : IntKind.i64.wrap 0 = 0 := by decide
      have l6 : IntKind.i64.wrap 6 = 6 := by decide
      have l12 : IntKind.i64.wrap 12 = 12 := by decide
      have l18 : IntKind.i64.wrap 18 = 18 := by decide
      have e0 : IntKind.u32.wrap (p : Int) = (p : Int) := by rw [IntKind.wrap_u32]; omega
      have o0 : bits BinOp.or .u32 0 (p : Int) = (p : Int) := by
        have := u32_or_nat 0 p (by omega) (by omega)
        rw [Nat.zero_or] at this
        exact this
      obtain ⟨T1, hT1⟩ : ∃ T, p * 256 = T := ⟨_, rfl⟩
      have s1 : IntKind.u32.wrap ((p : Int) * 256) = (T1 : Int) := by rw [IntKind.wrap_u32]; omega
      obtain ⟨T2, hT2⟩ : ∃ T, T1 * 256 = T := ⟨_, rfl⟩
      have s2 : IntKind.u32.wrap ((T1 : Int) * 256) = (T2 : Int) := by rw [IntKind.wrap_u32]; omega
      have hVlt : T2 < 16777216 := by omega
      have HV := Lib.hid (show T2 = word [p] by simp [word]; omega)
      clear hT1 hT2
      obtain ⟨D0, hD0⟩ : ∃ D, T2 / 262144 % 64 = D := ⟨_, rfl⟩
      have d0 : bits BinOp.and .u32 ((T2 : Int) / 262144) 63 = (D0 : Int) := by rw [and63 (V := T2 / 262144) (by omega) ((T2 : Int) / 262144) (by omega), hD0]
      have k0 : D0 < 64 := by omega
      have m0 : (D0 : Int) < 64 := by omega
      obtain ⟨S0, hS0⟩ : ∃ S, sign D0 = S := ⟨_, rfl⟩
      have Q0 := Lib.hid (fun hd => (sign_lit k0 hd).trans hS0)
      obtain ⟨D1, hD1⟩ : ∃ D, T2 / 4096 % 64 = D := ⟨_, rfl⟩
      have d1 : bits BinOp.and .u32 ((T2 : Int) / 4096) 63 = (D1 : Int) := by rw [and63 (V := T2 / 4096) (by omega) ((T2 : Int) / 4096) (by omega), hD1]
      have k1 : D1 < 64 := by omega
      have m1 : (D1 : Int) < 64 := by omega
      obtain ⟨S1, hS1⟩ : ∃ S, sign D1 = S := ⟨_, rfl⟩
      have Q1 := Lib.hid (fun hd => (sign_lit k1 hd).trans hS1)
      have hsz : Bo + 3 ≤ W.heap.size := by have := hkW.size; omega
      obtain ⟨v1, w1, X1, n1, x1, ⟨a1, f1, b1⟩, hv1, hrow1, ko1, kk1, hz1, g1, L1, cp1, rfl⟩ := emitD W Bo S0 _ (groups bs pre) hv hrow hsz (by omega)
      obtain ⟨v2, w2, X2, n2, x2, ⟨a2, f2, b2⟩, hv2, hrow2, ko2, kk2, hz2, g2, L2, cp2, rfl⟩ := emitD X1 Bo S1 _ _ hv1 hrow1 hz1 (by simp; omega)
      obtain ⟨v3, w3, X3, n3, x3, ⟨a3, f3, b3⟩, hv3, hrow3, ko3, kk3, hz3, g3, L3, cp3, rfl⟩ := emit61 X2 Bo  _ _ hv2 hrow2 hz2 (by simp; omega)
      obtain ⟨v4, w4, X4, n4, x4, ⟨a4, f4, b4⟩, hv4, hrow4, ko4, kk4, hz4, g4, L4, cp4, rfl⟩ := emit61 X3 Bo  _ _ hv3 hrow3 hz3 (by simp; omega)
      have F0 := Lib.hid (And.intro n1 (And.intro x1 (And.intro a1 (And.intro f1 (And.intro b1 (hv.cell))))))
      have F1 := Lib.hid (And.intro n2 (And.intro x2 (And.intro a2 (And.intro f2 (And.intro b2 (hv1.cell))))))
      have F2 := Lib.hid (And.intro n3 (And.intro x3 (And.intro a3 (And.intro f3 (And.intro b3 (hv2.cell))))))
      have F3 := Lib.hid (And.intro n4 (And.intro x4 (And.intro a4 (And.intro f4 (And.intro b4 (hv3.cell))))))
      have HX := Lib.hid (And.intro hv4 (And.intro hrow4 (And.intro (((ko1.trans ko2).trans ko3).trans ko4) (((kk1.then kk2).then kk3).then kk4))))
      have HKW := Lib.hid hkW
      have HDS := Lib.hid (And.intro (And.intro hD0 hS0) (And.intro (And.intro hD1 hS1) True.intro))
      clear hv hv1 hv2 hv3 hv4 hrow hrow1 hrow2 hrow3 hrow4 ko1 ko2 ko3 ko4 kk1 kk2 kk3 kk4 hkW n1 n2 n3 n4 x1 x2 x3 x4 a1 a2 a3 a4 f1 f2 f3 f4 b1 b2 b3 b4 hD0 hS0 hD1 hS1
      gi_wp2
      refine wpIn_loop_rounds 4 ?_
      rw [roundsIn_succ]
      gi_wp2
      rw [roundsIn_succ]
      gi_wp2
      rw [roundsIn_succ]
      gi_wp2
      rw [roundsIn_succ]
      gi_wp2
      refine wpIn_loop_rounds 5 ?_
      rw [roundsIn_succ]
      obtain ⟨n0, x0, a0, f0, b0, c0⟩ := F0.out
      have q0 := Q0.out
      gi_wp2
      refine Code.wpIn_mono (Q := Cut ?A10 ?W10) ?h10 ?i10
      case i10 =>
        gi_region_elder_o
        all_goals exact Cut.mk _ _
      rintro _ _ _ ⟨rfl, rfl, rfl⟩
      clear n0 x0 a0 f0 b0 c0 q0
      gi_wp2
      rw [roundsIn_succ]
      obtain ⟨n1, x1, a1, f1, b1, c1⟩ := F1.out
      have q1 := Q1.out
      gi_wp2
      refine Code.wpIn_mono (Q := Cut ?A11 ?W11) ?h11 ?i11
      case i11 =>
        gi_region_elder_o
        all_goals exact Cut.mk _ _
      rintro _ _ _ ⟨rfl, rfl, rfl⟩
      clear n1 x1 a1 f1 b1 c1 q1
      gi_wp2
      rw [roundsIn_succ]
      obtain ⟨n2, x2, a2, f2, b2, c2⟩ := F2.out
      gi_wp2
      clear n2 x2 a2 f2 b2 c2
      rw [roundsIn_succ]
      obtain ⟨n3, x3, a3, f3, b3, c3⟩ := F3.out
      gi_wp2
      clear n3 x3 a3 f3 b3 c3
      rw [roundsIn_succ]
      gi_wp2
      refine ⟨HX.out.2.2.1.from _, HX.out.2.2.2, ⟨⟨_, HX.out.1, ?_, trivial⟩, HKW.out.then HX.out.2.2.2⟩⟩
      have e : groups bs (pre ++ [x]) = groups bs pre ++ [S0, S1, 61, 61] := by
        rw [groups_snoc, hys]
        obtain ⟨⟨rfl, rfl⟩, ⟨rfl, rfl⟩, -⟩ := HDS.out
        rw [HV.out]
        congr 1
      have e2 := HX.out.2.1
      simp only [List.append_assoc, List.cons_append, List.nil_append] at e2
      rw [e]
      exact e2
    | [p, q], hyc, hy256, hcell, hys =>
      have p0 := hcell 0 (by simp)
      rw [hyc 0 (by simp)] at p0
      have hp := hy256 p (by simp)
      have p1 := hcell 1 (by simp)
      rw [hyc 1 (by simp)] at p1
      have hq := hy256 q (by simp)
      simp only [List.getElem_cons_zero, List.getElem_cons_succ, Nat.add_zero, List.length_cons, List.length_nil] at p0 p1 ⊢
      clear hcell hyc hy256
      have hmix : Try.prog.follows .mixedOrders = true := by kernel_rfl
      have z1 : IntKind.u32.wrap 0 = 0 := by decide
      have l0 : IntKind.i64.wrap 0 = 0 := by decide
      have l6 : IntKind.i64.wrap 6 = 6 := by decide
      have l12 : IntKind.i64.wrap 12 = 12 := by decide
      have l18 : IntKind.i64.wrap 18 = 18 := by decide
      have e0 : IntKind.u32.wrap (p : Int) = (p : Int) := by rw [IntKind.wrap_u32]; omega
      have e1 : IntKind.u32.wrap (q : Int) = (q : Int) := by rw [IntKind.wrap_u32]; omega
      have o0 : bits BinOp.or .u32 0 (p : Int) = (p : Int) := by
        have := u32_or_nat 0 p (by omega) (by omega)
        rw [Nat.zero_or] at this
        exact this
      obtain ⟨T1, hT1⟩ : ∃ T, p * 256 = T := ⟨_, rfl⟩
      have s1 : IntKind.u32.wrap ((p : Int) * 256) = (T1 : Int) := by rw [IntKind.wrap_u32]; omega
      obtain ⟨V1, hV1⟩ : ∃ T, T1 + q = T := ⟨_, rfl⟩
      have o1 : bits BinOp.or .u32 (T1 : Int) (q : Int) = (V1 : Int) := by rw [u32_or_nat _ _ (by omega) (by omega), nat_join 8 _ _ (by omega) (by omega), hV1]
      obtain ⟨T2, hT2⟩ : ∃ T, V1 * 256 = T := ⟨_, rfl⟩
      have s2 : IntKind.u32.wrap ((V1 : Int) * 256) = (T2 : Int) := by rw [IntKind.wrap_u32]; omega
      have hVlt : T2 < 16777216 := by omega
      have HV := Lib.hid (show T2 = word [p, q] by simp [word]; omega)
      clear hT1 hV1 hT2
      obtain ⟨D0, hD0⟩ : ∃ D, T2 / 262144 % 64 = D := ⟨_, rfl⟩
      have d0 : bits BinOp.and .u32 ((T2 : Int) / 262144) 63 = (D0 : Int) := by rw [and63 (V := T2 / 262144) (by omega) ((T2 : Int) / 262144) (by omega), hD0]
      have k0 : D0 < 64 := by omega
      have m0 : (D0 : Int) < 64 := by omega
      obtain ⟨S0, hS0⟩ : ∃ S, sign D0 = S := ⟨_, rfl⟩
      have Q0 := Lib.hid (fun hd => (sign_lit k0 hd).trans hS0)
      obtain ⟨D1, hD1⟩ : ∃ D, T2 / 4096 % 64 = D := ⟨_, rfl⟩
      have d1 : bits BinOp.and .u32 ((T2 : Int) / 4096) 63 = (D1 : Int) := by rw [and63 (V := T2 / 4096) (by omega) ((T2 : Int) / 4096) (by omega), hD1]
      have k1 : D1 < 64 := by omega
      have m1 : (D1 : Int) < 64 := by omega
      obtain ⟨S1, hS1⟩ : ∃ S, sign D1 = S := ⟨_, rfl⟩
      have Q1 := Lib.hid (fun hd => (sign_lit k1 hd).trans hS1)
      obtain ⟨D2, hD2⟩ : ∃ D, T2 / 64 % 64 = D := ⟨_, rfl⟩
      have d2 : bits BinOp.and .u32 ((T2 : Int) / 64) 63 = (D2 : Int) := by rw [and63 (V := T2 / 64) (by omega) ((T2 : Int) / 64) (by omega), hD2]
      have k2 : D2 < 64 := by omega
      have m2 : (D2 : Int) < 64 := by omega
      obtain ⟨S2, hS2⟩ : ∃ S, sign D2 = S := ⟨_, rfl⟩
      have Q2 := Lib.hid (fun hd => (sign_lit k2 hd).trans hS2)
      have hsz : Bo + 3 ≤ W.heap.size := by have := hkW.size; omega
      obtain ⟨v1, w1, X1, n1, x1, ⟨a1, f1, b1⟩, hv1, hrow1, ko1, kk1, hz1, g1, L1, cp1, rfl⟩ := emitD W Bo S0 _ (groups bs pre) hv hrow hsz (by omega)
      obtain ⟨v2, w2, X2, n2, x2, ⟨a2, f2, b2⟩, hv2, hrow2, ko2, kk2, hz2, g2, L2, cp2, rfl⟩ := emitD X1 Bo S1 _ _ hv1 hrow1 hz1 (by simp; omega)
      obtain ⟨v3, w3, X3, n3, x3, ⟨a3, f3, b3⟩, hv3, hrow3, ko3, kk3, hz3, g3, L3, cp3, rfl⟩ := emitD X2 Bo S2 _ _ hv2 hrow2 hz2 (by simp; omega)
      obtain ⟨v4, w4, X4, n4, x4, ⟨a4, f4, b4⟩, hv4, hrow4, ko4, kk4, hz4, g4, L4, cp4, rfl⟩ := emit61 X3 Bo  _ _ hv3 hrow3 hz3 (by simp; omega)
      have F0 := Lib.hid (And.intro n1 (And.intro x1 (And.intro a1 (And.intro f1 (And.intro b1 (hv.cell))))))
      have F1 := Lib.hid (And.intro n2 (And.intro x2 (And.intro a2 (And.intro f2 (And.intro b2 (hv1.cell))))))
      have F2 := Lib.hid (And.intro n3 (And.intro x3 (And.intro a3 (And.intro f3 (And.intro b3 (hv2.cell))))))
      have F3 := Lib.hid (And.intro n4 (And.intro x4 (And.intro a4 (And.intro f4 (And.intro b4 (hv3.cell))))))
      have HX := Lib.hid (And.intro hv4 (And.intro hrow4 (And.intro (((ko1.trans ko2).trans ko3).trans ko4) (((kk1.then kk2).then kk3).then kk4))))
      have HKW := Lib.hid hkW
      have HDS := Lib.hid (And.intro (And.intro hD0 hS0) (And.intro (And.intro hD1 hS1) (And.intro (And.intro hD2 hS2) True.intro)))
      clear hv hv1 hv2 hv3 hv4 hrow hrow1 hrow2 hrow3 hrow4 ko1 ko2 ko3 ko4 kk1 kk2 kk3 kk4 hkW n1 n2 n3 n4 x1 x2 x3 x4 a1 a2 a3 a4 f1 f2 f3 f4 b1 b2 b3 b4 hD0 hS0 hD1 hS1 hD2 hS2
      gi_wp2
      refine wpIn_loop_rounds 4 ?_
      rw [roundsIn_succ]
      gi_wp2
      rw [roundsIn_succ]
      gi_wp2
      rw [roundsIn_succ]
      gi_wp2
      rw [roundsIn_succ]
      gi_wp2
      refine wpIn_loop_rounds 5 ?_
      rw [roundsIn_succ]
      obtain ⟨n0, x0, a0, f0, b0, c0⟩ := F0.out
      have q0 := Q0.out
      gi_wp2
      refine Code.wpIn_mono (Q := Cut ?A20 ?W20) ?h20 ?i20
      case i20 =>
        gi_region_elder_o
        all_goals exact Cut.mk _ _
      rintro _ _ _ ⟨rfl, rfl, rfl⟩
      clear n0 x0 a0 f0 b0 c0 q0
      gi_wp2
      rw [roundsIn_succ]
      obtain ⟨n1, x1, a1, f1, b1, c1⟩ := F1.out
      have q1 := Q1.out
      gi_wp2
      refine Code.wpIn_mono (Q := Cut ?A21 ?W21) ?h21 ?i21
      case i21 =>
        gi_region_elder_o
        all_goals exact Cut.mk _ _
      rintro _ _ _ ⟨rfl, rfl, rfl⟩
      clear n1 x1 a1 f1 b1 c1 q1
      gi_wp2
      rw [roundsIn_succ]
      obtain ⟨n2, x2, a2, f2, b2, c2⟩ := F2.out
      have q2 := Q2.out
      gi_wp2
      refine Code.wpIn_mono (Q := Cut ?A22 ?W22) ?h22 ?i22
      case i22 =>
        gi_region_elder_o
        all_goals exact Cut.mk _ _
      rintro _ _ _ ⟨rfl, rfl, rfl⟩
      clear n2 x2 a2 f2 b2 c2 q2
      gi_wp2
      rw [roundsIn_succ]
      obtain ⟨n3, x3, a3, f3, b3, c3⟩ := F3.out
      gi_wp2
      clear n3 x3 a3 f3 b3 c3
      rw [roundsIn_succ]
      gi_wp2
      refine ⟨HX.out.2.2.1.from _, HX.out.2.2.2, ⟨⟨_, HX.out.1, ?_, trivial⟩, HKW.out.then HX.out.2.2.2⟩⟩
      have e : groups bs (pre ++ [x]) = groups bs pre ++ [S0, S1, S2, 61] := by
        rw [groups_snoc, hys]
        obtain ⟨⟨rfl, rfl⟩, ⟨rfl, rfl⟩, ⟨rfl, rfl⟩, -⟩ := HDS.out
        rw [HV.out]
        congr 1
      have e2 := HX.out.2.1
      simp only [List.append_assoc, List.cons_append, List.nil_append] at e2
      rw [e]
      exact e2
    | [p, q, r], hyc, hy256, hcell, hys =>
      have p0 := hcell 0 (by simp)
      rw [hyc 0 (by simp)] at p0
      have hp := hy256 p (by simp)
      have p1 := hcell 1 (by simp)
      rw [hyc 1 (by simp)] at p1
      have hq := hy256 q (by simp)
      have p2 := hcell 2 (by simp)
      rw [hyc 2 (by simp)] at p2
      have hr := hy256 r (by simp)
      simp only [List.getElem_cons_zero, List.getElem_cons_succ, Nat.add_zero, List.length_cons, List.length_nil] at p0 p1 p2 ⊢
      clear hcell hyc hy256
      have hmix : Try.prog.follows .mixedOrders = true := by kernel_rfl
      have z1 : IntKind.u32.wrap 0 = 0 := by decide
      have l0 : IntKind.i64.wrap 0 = 0 := by decide
      have l6 : IntKind.i64.wrap 6 = 6 := by decide
      have l12 : IntKind.i64.wrap 12 = 12 := by decide
      have l18 : IntKind.i64.wrap 18 = 18 := by decide
      have e0 : IntKind.u32.wrap (p : Int) = (p : Int) := by rw [IntKind.wrap_u32]; omega
      have e1 : IntKind.u32.wrap (q : Int) = (q : Int) := by rw [IntKind.wrap_u32]; omega
      have e2 : IntKind.u32.wrap (r : Int) = (r : Int) := by rw [IntKind.wrap_u32]; omega
      have o0 : bits BinOp.or .u32 0 (p : Int) = (p : Int) := by
        have := u32_or_nat 0 p (by omega) (by omega)
        rw [Nat.zero_or] at this
        exact this
      obtain ⟨T1, hT1⟩ : ∃ T, p * 256 = T := ⟨_, rfl⟩
      have s1 : IntKind.u32.wrap ((p : Int) * 256) = (T1 : Int) := by rw [IntKind.wrap_u32]; omega
      obtain ⟨V1, hV1⟩ : ∃ T, T1 + q = T := ⟨_, rfl⟩
      have o1 : bits BinOp.or .u32 (T1 : Int) (q : Int) = (V1 : Int) := by rw [u32_or_nat _ _ (by omega) (by omega), nat_join 8 _ _ (by omega) (by omega), hV1]
      obtain ⟨T2, hT2⟩ : ∃ T, V1 * 256 = T := ⟨_, rfl⟩
      have s2 : IntKind.u32.wrap ((V1 : Int) * 256) = (T2 : Int) := by rw [IntKind.wrap_u32]; omega
      obtain ⟨V2, hV2⟩ : ∃ T, T2 + r = T := ⟨_, rfl⟩
      have o2 : bits BinOp.or .u32 (T2 : Int) (r : Int) = (V2 : Int) := by rw [u32_or_nat _ _ (by omega) (by omega), nat_join 8 _ _ (by omega) (by omega), hV2]
      have hVlt : V2 < 16777216 := by omega
      have HV := Lib.hid (show V2 = word [p, q, r] by simp [word]; omega)
      clear hT1 hV1 hT2 hV2
      obtain ⟨D0, hD0⟩ : ∃ D, V2 / 262144 % 64 = D := ⟨_, rfl⟩
      have d0 : bits BinOp.and .u32 ((V2 : Int) / 262144) 63 = (D0 : Int) := by rw [and63 (V := V2 / 262144) (by omega) ((V2 : Int) / 262144) (by omega), hD0]
      have k0 : D0 < 64 := by omega
      have m0 : (D0 : Int) < 64 := by omega
      obtain ⟨S0, hS0⟩ : ∃ S, sign D0 = S := ⟨_, rfl⟩
      have Q0 := Lib.hid (fun hd => (sign_lit k0 hd).trans hS0)
      obtain ⟨D1, hD1⟩ : ∃ D, V2 / 4096 % 64 = D := ⟨_, rfl⟩
      have d1 : bits BinOp.and .u32 ((V2 : Int) / 4096) 63 = (D1 : Int) := by rw [and63 (V := V2 / 4096) (by omega) ((V2 : Int) / 4096) (by omega), hD1]
      have k1 : D1 < 64 := by omega
      have m1 : (D1 : Int) < 64 := by omega
      obtain ⟨S1, hS1⟩ : ∃ S, sign D1 = S := ⟨_, rfl⟩
      have Q1 := Lib.hid (fun hd => (sign_lit k1 hd).trans hS1)
      obtain ⟨D2, hD2⟩ : ∃ D, V2 / 64 % 64 = D := ⟨_, rfl⟩
      have d2 : bits BinOp.and .u32 ((V2 : Int) / 64) 63 = (D2 : Int) := by rw [and63 (V := V2 / 64) (by omega) ((V2 : Int) / 64) (by omega), hD2]
      have k2 : D2 < 64 := by omega
      have m2 : (D2 : Int) < 64 := by omega
      obtain ⟨S2, hS2⟩ : ∃ S, sign D2 = S := ⟨_, rfl⟩
      have Q2 := Lib.hid (fun hd => (sign_lit k2 hd).trans hS2)
      obtain ⟨D3, hD3⟩ : ∃ D, V2 % 64 = D := ⟨_, rfl⟩
      have d3 : bits BinOp.and .u32 ((V2 : Int)) 63 = (D3 : Int) := by rw [and63 (V := V2) (by omega) ((V2 : Int)) (by omega), hD3]
      have k3 : D3 < 64 := by omega
      have m3 : (D3 : Int) < 64 := by omega
      obtain ⟨S3, hS3⟩ : ∃ S, sign D3 = S := ⟨_, rfl⟩
      have Q3 := Lib.hid (fun hd => (sign_lit k3 hd).trans hS3)
      have hsz : Bo + 3 ≤ W.heap.size := by have := hkW.size; omega
      obtain ⟨v1, w1, X1, n1, x1, ⟨a1, f1, b1⟩, hv1, hrow1, ko1, kk1, hz1, g1, L1, cp1, rfl⟩ := emitD W Bo S0 _ (groups bs pre) hv hrow hsz (by omega)
      obtain ⟨v2, w2, X2, n2, x2, ⟨a2, f2, b2⟩, hv2, hrow2, ko2, kk2, hz2, g2, L2, cp2, rfl⟩ := emitD X1 Bo S1 _ _ hv1 hrow1 hz1 (by simp; omega)
      obtain ⟨v3, w3, X3, n3, x3, ⟨a3, f3, b3⟩, hv3, hrow3, ko3, kk3, hz3, g3, L3, cp3, rfl⟩ := emitD X2 Bo S2 _ _ hv2 hrow2 hz2 (by simp; omega)
      obtain ⟨v4, w4, X4, n4, x4, ⟨a4, f4, b4⟩, hv4, hrow4, ko4, kk4, hz4, g4, L4, cp4, rfl⟩ := emitD X3 Bo S3 _ _ hv3 hrow3 hz3 (by simp; omega)
      have F0 := Lib.hid (And.intro n1 (And.intro x1 (And.intro a1 (And.intro f1 (And.intro b1 (hv.cell))))))
      have F1 := Lib.hid (And.intro n2 (And.intro x2 (And.intro a2 (And.intro f2 (And.intro b2 (hv1.cell))))))
      have F2 := Lib.hid (And.intro n3 (And.intro x3 (And.intro a3 (And.intro f3 (And.intro b3 (hv2.cell))))))
      have F3 := Lib.hid (And.intro n4 (And.intro x4 (And.intro a4 (And.intro f4 (And.intro b4 (hv3.cell))))))
      have HX := Lib.hid (And.intro hv4 (And.intro hrow4 (And.intro (((ko1.trans ko2).trans ko3).trans ko4) (((kk1.then kk2).then kk3).then kk4))))
      have HKW := Lib.hid hkW
      have HDS := Lib.hid (And.intro (And.intro hD0 hS0) (And.intro (And.intro hD1 hS1) (And.intro (And.intro hD2 hS2) (And.intro (And.intro hD3 hS3) True.intro))))
      clear hv hv1 hv2 hv3 hv4 hrow hrow1 hrow2 hrow3 hrow4 ko1 ko2 ko3 ko4 kk1 kk2 kk3 kk4 hkW n1 n2 n3 n4 x1 x2 x3 x4 a1 a2 a3 a4 f1 f2 f3 f4 b1 b2 b3 b4 hD0 hS0 hD1 hS1 hD2 hS2 hD3 hS3
      gi_wp2
      refine wpIn_loop_rounds 4 ?_
      rw [roundsIn_succ]
      gi_wp2
      rw [roundsIn_succ]
      gi_wp2
      rw [roundsIn_succ]
      gi_wp2
      rw [roundsIn_succ]
      gi_wp2
      refine wpIn_loop_rounds 5 ?_
      rw [roundsIn_succ]
      obtain ⟨n0, x0, a0, f0, b0, c0⟩ := F0.out
      have q0 := Q0.out
      gi_wp2
      refine Code.wpIn_mono (Q := Cut ?A30 ?W30) ?h30 ?i30
      case i30 =>
        gi_region_elder_o
        all_goals exact Cut.mk _ _
      rintro _ _ _ ⟨rfl, rfl, rfl⟩
      clear n0 x0 a0 f0 b0 c0 q0
      gi_wp2
      rw [roundsIn_succ]
      obtain ⟨n1, x1, a1, f1, b1, c1⟩ := F1.out
      have q1 := Q1.out
      gi_wp2
      refine Code.wpIn_mono (Q := Cut ?A31 ?W31) ?h31 ?i31
      case i31 =>
        gi_region_elder_o
        all_goals exact Cut.mk _ _
      rintro _ _ _ ⟨rfl, rfl, rfl⟩
      clear n1 x1 a1 f1 b1 c1 q1
      gi_wp2
      rw [roundsIn_succ]
      obtain ⟨n2, x2, a2, f2, b2, c2⟩ := F2.out
      have q2 := Q2.out
      gi_wp2
      refine Code.wpIn_mono (Q := Cut ?A32 ?W32) ?h32 ?i32
      case i32 =>
        gi_region_elder_o
        all_goals exact Cut.mk _ _
      rintro _ _ _ ⟨rfl, rfl, rfl⟩
      clear n2 x2 a2 f2 b2 c2 q2
      gi_wp2
      rw [roundsIn_succ]
      obtain ⟨n3, x3, a3, f3, b3, c3⟩ := F3.out
      have q3 := Q3.out
      gi_wp2
      refine Code.wpIn_mono (Q := Cut ?A33 ?W33) ?h33 ?i33
      case i33 =>
        gi_region_elder_o
        all_goals exact Cut.mk _ _
      rintro _ _ _ ⟨rfl, rfl, rfl⟩
      clear n3 x3 a3 f3 b3 c3 q3
      gi_wp2
      rw [roundsIn_succ]
      gi_wp2
      refine ⟨HX.out.2.2.1.from _, HX.out.2.2.2, ⟨⟨_, HX.out.1, ?_, trivial⟩, HKW.out.then HX.out.2.2.2⟩⟩
      have e : groups bs (pre ++ [x]) = groups bs pre ++ [S0, S1, S2, S3] := by
        rw [groups_snoc, hys]
        obtain ⟨⟨rfl, rfl⟩, ⟨rfl, rfl⟩, ⟨rfl, rfl⟩, ⟨rfl, rfl⟩, -⟩ := HDS.out
        rw [HV.out]
        congr 1
      have e2 := HX.out.2.1
      simp only [List.append_assoc, List.cons_append, List.nil_append] at e2
      rw [e]
      exact e2
    | _ :: _ :: _ :: _ :: _, _, _, _, hys => exact absurd (congrArg List.length hys) (by rw [List.length_take]; simp only [List.length_cons]; omega)
  case done =>
    rintro D ys W hD rfl ⟨⟨v, hv, hrow, -⟩, hkW⟩ hK
    have hc := hv.cell
    gi_wp2
    refine ⟨by simp, .inl ⟨_, _, rfl, run_takeDeferred hK, ?_⟩⟩
    refine ⟨_, results_tmp rfl _ _ _, v, rfl, ?_, ?_⟩
    · have hlb : bs.length = len := by rw [← hs2.1, ints_length]
      have h2 := ownsRow_putObj hrow (o' := .deferred none) hK rfl
      rw [← hlb, groups_all] at h2
      exact (row_res h2).mono (by omega)
    · exact (kW.trans (hkW.mono fun i hi h => .inr (by rcases h with h | h <;> omega))).grown (grownBy_putObj' W D (.deferred none)) (fun k e => by cases e; exact .inr (by have := kW.size; omega))
  case stop =>
    rintro D c pre W _ _ h _
    exact h.elim

set_option maxRecDepth 100000 in
set_option maxHeartbeats 4000000 in
/-- Of a slice with nothing in it there is no piece. -/
theorem chunk0_in (F : Fence) (n : Nat) (h7 : F.fn 32) (hro : F.round = none) (l Bs Bn cap : Nat) (a0 : Option Addr) (J : List Nat → World → Prop) (W : World) (hBs : W.cell? ⟨Bs, 0, none⟩ = some (.slice a0 0 cap)) (h0 : J [] W) :
    CallsIn F n Try.prog 32 #[.func (.yield l) #[] #[], .pointer (some ⟨Bs, 0, none⟩), .pointer (some ⟨Bn, 0, none⟩)] W fun e W' => (∃ v, e = .returned v) ∧ J [] W' := by
  refine callsIn_of_wp Try.func32 rfl h7 ?_ hro
  simp only [Try.ntmps32, List.size_toArray, List.length_cons, List.length_nil, Nat.reduceAdd, Nat.reduceSub, Array.replicate_succ, Array.replicate_zero, List.push_toArray, List.append_toArray, List.nil_append, List.cons_append]
  gi_wp2
  refine wpIn_loop_rounds 1 ?_
  rw [roundsIn_succ]
  gi_wp2
  go_end0
  exact ⟨⟨_, rfl⟩, h0⟩
theorem chunk0_stops (F : Fence) (n : Nat) (h7 : F.fn 32) (hro : F.round = none) (Bs Bn cap : Nat) (a0 : Option Addr) (w : World)
    (hs : w.cell? ⟨Bs, 0, none⟩ = some (.slice a0 0 cap)) :
    SeqStopsK F n Try.prog 32 #[.pointer (some ⟨Bs, 0, none⟩), .pointer (some ⟨Bn, 0, none⟩)] (fun k : Nat => #[piece 0 0 0 k]) (Below w.heap.size) (fun ys => ys = []) (fun _ => False) 0 w := fun l J Jx W hW hJ _ hY h0 => by
  have hs' := (hW.cell (p := ⟨Bs, 0, none⟩) (lt_of_cell hs)).trans hs
  refine (chunk0_in F n h7 hro l Bs Bn cap a0 J W hs' h0).mono ?_
  rintro e W' ⟨h1, h2⟩
  exact ⟨h1, .inl ⟨[], rfl, h2⟩⟩
set_option maxRecDepth 100000 in
set_option maxHeartbeats 8000000 in
theorem encode_zero (F : Fence) (n : Nat) (h17 : F.fn 17) (h28 : F.fn 28) (h32 : F.fn 32) (hro : F.round = none) (hn : 4 ≤ n) (a0 : Option Addr) (cap : Nat) (w : World) :
    CallsIn F n Try.prog 17 #[.slice a0 0 cap] w (EPost [] w) := by
  have h1 : 1 ≤ n := by omega
  refine callsIn_of_wp_marks Try.func17 rfl h17 ?_ hro
  simp only [Try.ntmps17, List.size_toArray, List.length_cons, List.length_nil, Nat.reduceAdd, Nat.reduceSub, Array.replicate_succ, Array.replicate_zero, List.push_toArray, List.append_toArray, List.nil_append, List.cons_append]
  obtain ⟨Bo, hBo⟩ : ∃ Bo, w.heap.size = Bo := ⟨_, rfl⟩
  gi_wp2_with (gi_at_call 28; refine (chunk_in F (n - 1) h28 hro _ _ _ _).mono ?_; rintro e w' ⟨rfl, rfl⟩)
  have bO := Boxed.new w 28 (.slice none 0 0)
  have bS := Boxed.new (w.alloc (.cells #[.slice none 0 0] 28)) 28 (.slice a0 0 cap)
  simp only [World.size_alloc, hBo] at bO bS
  have kW : Kept (fun _ => False) w (((w.alloc (.cells #[.slice none 0 0] 28)).alloc (.cells #[.slice a0 0 cap] 28)).alloc (.cells #[.int .i64 3] 3)) := (((Kept.refl _ w).alloc _).alloc _).alloc _
  have bO2 := (bO.alloc (.cells #[.slice a0 0 cap] 28)).alloc (.cells #[.int .i64 3] 3)
  have bS2 := bS.alloc (.cells #[.int .i64 3] 3)
  have sW : (((w.alloc (.cells #[.slice none 0 0] 28)).alloc (.cells #[.slice a0 0 cap] 28)).alloc (.cells #[.int .i64 3] 3)).heap.size = Bo + 3 := by simp [hBo]
  try simp only [hBo]
  obtain ⟨W2, hW2⟩ : ∃ W2, ((w.alloc (.cells #[.slice none 0 0] 28)).alloc (.cells #[.slice a0 0 cap] 28)).alloc (.cells #[.int .i64 3] 3) = W2 := ⟨_, rfl⟩
  rw [hW2] at bO2 bS2 kW sW ⊢
  clear bO bS hW2
  refine wpIn_rangeFunc_ownG hro h1 (gf := 32) (lb := #[.pointer (some ⟨Bo + 1, 0, none⟩), .pointer (some ⟨Bo + 1 + 1, 0, none⟩)]) rfl h32 (enters_of Try.func32 (by kernel_rfl) rfl)
    (chunk0_stops F (n - 1) h32 hro (Bo + 1) (Bo + 1 + 1) cap a0 W2 bS2.cell) belowK_t (belowK_b (Nat.le_refl _)) (Below.refl _ _) (fun _ => rfl)
    (fun _ W => Boxed W Bo 28 (.slice none 0 0) ∧ Kept (fun _ => False) w W) (fun _ _ _ => False) (fun s W W' row hk hg hr => ⟨hk.1.kept hg (fun e => by have := (hr Bo e.symm).1; omega), hk.2.grown hg (fun k e => .inr (by have := (hr k e).1; have := kW.size; omega))⟩) (fun _ _ _ _ _ hs _ _ => hs)
    ⟨bO2, kW⟩
    (fun x => { tmps := #[.slice a0 0 cap, undef, .slice none 0 0, .pointer (some ⟨Bo, 0, none⟩), piece 0 0 0 x, undef, undef, undef, .slice a0 0 cap, .func (.func 32) #[] #[.pointer (some ⟨Bo + 1, 0, none⟩), .pointer (some ⟨Bo + 1 + 1, 0, none⟩)], piece 0 0 0 x, undef, undef, undef, undef, undef, undef, undef, undef, undef, undef, undef, undef, undef, undef, undef, undef, undef, undef, undef, undef, undef, undef, undef, undef, undef, undef, undef, undef, undef, undef, undef, undef, undef, undef, undef, undef, undef, undef, undef], defers := [] }) ?assign ?body ?done ?stop
  case assign =>
    intro l x W K hK
    gi_wp2
    exact hK
  case body =>
    rintro l pre x W _ hlt
    exact absurd hlt (Nat.not_lt_zero _)
  case done =>
    rintro D ys W hD rfl ⟨hv, hkW⟩ hK
    have hc := hv.cell
    gi_wp2
    refine ⟨by simp, .inl ⟨_, _, rfl, run_takeDeferred hK, ?_⟩⟩
    refine ⟨_, results_tmp rfl _ _ _, .slice none 0 0, rfl, Res.nil _ _, ?_⟩
    exact hkW.grown (grownBy_putObj' W D (.deferred none)) (fun k e => by cases e; exact .inr (by have := kW.size; omega))
  case stop =>
    rintro D c pre W _ h _ _
    exact h.elim
theorem encode_any (a0 : Option Addr) (len cap : Nat) (bs : List Nat) (w : World) (hl : len ≤ cap) (hlm : len ≤ 65536) (hs : SlAt .u8 w a0 len (ints bs)) (hby : ∀ c ∈ bs, c < 256) (hb : ∀ b off, 0 < len → a0 = some ⟨b, off, none⟩ → b < w.heap.size) (hcap : cap ≤ 9223372036854775807) :
    Calls Try.prog 17 #[.slice a0 len cap] w (EPost bs w) := by
  refine (callsIn_wide (n := 4)).1 ?_
  by_cases h0 : len = 0
  · subst h0
    have : bs = [] := List.eq_nil_of_length_eq_zero (by rw [← ints_length]; exact hs.1)
    subst this
    exact encode_zero Fence.wide 4 trivial trivial trivial rfl (by omega) a0 cap w
  · obtain ⟨b, off, rfl, -⟩ := hs.2.resolve_left h0
    exact encode_pos Fence.wide 4 trivial trivial trivial rfl (by omega) b off len cap bs hl (by omega) hcap w hs hby (fun h => hb b off h rfl)
end Go.Proofs.Ytgmbjebighhgkaa
