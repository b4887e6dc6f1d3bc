/- A ring by the list of what is there; the document's ring. -/
import Derived.Test.YtdfenlonlpjkfaaLPops
namespace Go.Proofs.Ytdfenlonlpjkfaa
open Go.RowKit
set_option linter.unusedVariables false
set_option linter.unusedSimpArgs false
attribute [local go_sem] growOp growUpon sameUpon
abbrev iv (L : List Int) : List Value := L.map (Value.int .i64)
/-- A ring that holds L, in order. -/
def Rg (w : World) (q most gone : Nat) (L : List Int) (o : Option Nat) : Prop :=
  ∃ at' xs, RAt 48 3 w q most at' gone xs o ∧ xs.drop at' ++ xs.take at' = iv L ∧ (at' = 0 ∨ at' < xs.length) ∧ (xs.length < most → at' = 0) ∧ xs.length ≤ most
theorem Rg.len {w : World} {q most gone : Nat} {L : List Int} {o : Option Nat} (h : Rg w q most gone L o) : L.length ≤ most := by
  obtain ⟨at', xs, -, h2, -, -, h5⟩ := h
  have := congrArg List.length h2
  simp at this; omega
theorem Rg.up {w w' : World} {q most gone : Nat} {L : List Int} {o : Option Nat} (h : Rg w q most gone L o) (hk : Kept (fun _ => False) w w') : Rg w' q most gone L o := by
  obtain ⟨at', xs, h1, h2⟩ := h
  exact ⟨at', xs, h1.up hk, h2⟩
theorem Rg.kept {S : Nat → Prop} {w w' : World} {q most gone : Nat} {L : List Int} {o : Option Nat} (h : Rg w q most gone L o) (hk : Kept S w w') (hq : ¬ S q) (ho : ∀ b, o = some b → ¬ S b) : Rg w' q most gone L o := by
  obtain ⟨at', xs, h1, h2⟩ := h
  exact ⟨at', xs, h1.kept hk hq ho, h2⟩
theorem Rg.lt {w : World} {q most gone : Nat} {L : List Int} {o : Option Nat} (h : Rg w q most gone L o) : q < w.heap.size ∧ ∀ b, o = some b → b < w.heap.size := by
  obtain ⟨at', xs, h1, -⟩ := h
  exact h1.lt
theorem iv_one (L : List Int) : ∀ u ∈ iv L, u.oneCell' = true := by
  intro u hu
  simp only [iv, List.mem_map] at hu
  obtain ⟨x, -, rfl⟩ := hu
  rfl
/-- What a push leaves, tells. -/
def pushL (most : Nat) (L : List Int) (t : Int) : List Int := if L.length < most then L ++ [t] else (L ++ [t]).tail
def pushG (most : Nat) (L : List Int) : Nat := if L.length < most then 0 else 1
def pushX (most : Nat) (L : List Int) (t : Int) : Int := if L.length < most then 0 else (L ++ [t]).getD 0 0
def pushB (most : Nat) (L : List Int) : Bool := !decide (L.length < most)
theorem rpush (q most gone : Nat) (L : List Int) (o : Option Nat) (t : Int) (w : World) (h : Rg w q most gone L o) (hm : most ≤ 65536) (hgo : gone ≤ 1000000) :
    Calls Try.prog 8 #[.pointer (some ⟨q, 0, none⟩), .int .i64 t] w fun e w' => e = .returned (.tuple #[.int .i64 (pushX most L t), .bool (pushB most L)]) ∧ ∃ o', Rg w' q most (gone + pushG most L) (pushL most L t) o' ∧ Ext w q o o' w' := by
  obtain ⟨at', xs, h1, h2, h3, h4, h5⟩ := h
  have hl : L.length = xs.length := by have := congrArg List.length h2; simp at this; omega
  by_cases h0 : most = 0
  · subst h0
    have hx : xs = [] := List.eq_nil_of_length_eq_zero (by omega)
    have hL : L = [] := List.eq_nil_of_length_eq_zero (by rw [hl, hx]; rfl)
    subst hx hL
    refine (ipush_zero q at' gone [] o (.int .i64 t) w h1 hgo).mono ?_
    rintro e w' ⟨rfl, hr, hk⟩
    exact ⟨rfl, o, ⟨at', [], hr, by simp [iv, pushL], h3, fun h => h4 h, Nat.le_refl _⟩, Ext.of hk⟩
  · by_cases hlt : xs.length < most
    · obtain rfl := h4 hlt
      have hx : xs = iv L := by simpa using h2
      refine (ipush_room q most gone xs o t w h1 hlt hm).mono ?_
      rintro e w' ⟨rfl, o', hr, hx'⟩
      have e1 : pushX most L t = 0 := by unfold pushX; rw [if_pos (by omega)]
      have e2 : pushB most L = false := by unfold pushB; rw [decide_eq_true (by omega)]; rfl
      have e3 : pushG most L = 0 := by unfold pushG; rw [if_pos (by omega)]
      have e4 : pushL most L t = L ++ [t] := by unfold pushL; rw [if_pos (by omega)]
      rw [e1, e2, e3, e4]
      exact ⟨rfl, o', ⟨0, _, hr, by simp [hx, iv], .inl rfl, fun _ => rfl, by simp; omega⟩, hx'⟩
    · have hat : at' < most := by rcases h3 with h | h <;> omega
      obtain ⟨y, L', rfl⟩ : ∃ y L', L = y :: L' := by cases L with
        | nil => simp at hl; omega
        | cons y L' => exact ⟨y, L', rfl⟩
      have hy : xs[at']? = some (.int .i64 y) := by
        have h9 := congrArg (fun l => l[0]?) h2
        simp only [iv, List.map_cons, List.getElem?_cons_zero] at h9
        rw [List.getElem?_append_left (by simp; omega), List.getElem?_drop, Nat.add_zero] at h9
        exact h9
      refine (ipush_full q most at' gone xs o t (.int .i64 y) w h1 (by omega) (by omega) hm hat hgo hy).mono ?_
      rintro e w' ⟨rfl, hr, hk⟩
      have e1 : pushX most (y :: L') t = y := by unfold pushX; rw [if_neg (by omega)]; rfl
      have e2 : pushB most (y :: L') = true := by unfold pushB; rw [decide_eq_false (by omega)]; rfl
      have e3 : pushG most (y :: L') = 1 := by unfold pushG; rw [if_neg (by omega)]
      have e4 : pushL most (y :: L') t = L' ++ [t] := by unfold pushL; rw [if_neg (by omega)]; rfl
      rw [e1, e2, e3, e4]
      obtain ⟨A, B, hAB, hA⟩ : ∃ A B, xs = A ++ (.int .i64 y) :: B ∧ A.length = at' := ⟨xs.take at', xs.drop (at' + 1), by
        have h8 : at' < xs.length := by omega
        have h9 : xs[at'] = .int .i64 y := by rw [List.getElem?_eq_getElem h8] at hy; exact Option.some.inj hy
        rw [← h9, List.getElem_cons_drop, List.take_append_drop], by simp; omega⟩
      subst hAB
      have h2' : B ++ A = iv L' := by
        rw [List.drop_append_of_le_length (by omega), List.drop_eq_nil_of_le (by omega), List.nil_append, List.take_append_of_le_length (by omega), List.take_of_length_le (by omega)] at h2
        simpa [iv] using h2
      have hset : (A ++ (.int .i64 y) :: B).set at' (.int .i64 t) = A ++ (.int .i64 t) :: B := by rw [← hA]; simp
      rw [hset] at hr
      simp only [List.length_append, List.length_cons] at hlt h5 hl
      have hms : most = A.length + (B.length + 1) := by omega
      refine ⟨rfl, o, ⟨(at' + 1) % most, _, hr, ?_, ?_, ?_, ?_⟩, ⟨hk, .inl rfl⟩⟩
      · by_cases hl2 : at' + 1 < most
        · rw [Nat.mod_eq_of_lt hl2]
          rw [show A ++ (.int .i64 t) :: B = (A ++ [.int .i64 t]) ++ B by simp]
          rw [List.drop_append_of_le_length (by simp; omega), List.drop_eq_nil_of_le (by simp; omega), List.nil_append, List.take_append_of_le_length (by simp; omega), List.take_of_length_le (by simp; omega), ← List.append_assoc, h2']
          simp [iv]
        · have hB : B = [] := List.eq_nil_of_length_eq_zero (by omega)
          subst hB
          rw [show (at' + 1) % most = 0 by rw [show at' + 1 = most by omega, Nat.mod_self]]
          rw [List.nil_append] at h2'
          simp [h2', iv]
      · have : (at' + 1) % most < most := Nat.mod_lt _ (by omega)
        simp; omega
      · intro h9; simp at h9; omega
      · simp; omega
/-- What a pop leaves, tells. -/
theorem rpop (q most gone : Nat) (L : List Int) (o : Option Nat) (w : World) (h : Rg w q most gone L o) (hm : most ≤ 65536) :
    Calls Try.prog 12 #[.pointer (some ⟨q, 0, none⟩)] w fun e w' => e = .returned (.tuple #[.int .i64 (L.getD (L.length - 1) 0), .bool (!decide (L.length = 0))]) ∧ ∃ o', Rg w' q most gone (L.take (L.length - 1)) o' ∧ Ext w q o o' w' := by
  obtain ⟨at', xs, h1, h2, h3, h4, h5⟩ := h
  have hl : L.length = xs.length := by have := congrArg List.length h2; simp at this; omega
  by_cases h0 : xs = []
  · subst h0
    have hL : L = [] := List.eq_nil_of_length_eq_zero (by simpa using hl)
    subst hL
    refine (pop_none q most at' gone o w h1).mono ?_
    rintro e w' ⟨rfl, rfl⟩
    exact ⟨rfl, o, ⟨at', [], h1, by simp [iv], h3, h4, Nat.zero_le _⟩, Ext.refl _ _ _⟩
  · have hp : 0 < xs.length := List.length_pos_iff.2 h0
    have h1' : ∀ u ∈ xs, u.oneCell' = true := mem_rot (at' := at') (by rw [h2]; exact iv_one _)
    refine (pop_some q most at' gone xs o (L.getD (L.length - 1) 0) w h1 (by rcases h3 with h | h <;> omega) (by omega) h1' (by rw [h2, ← hl]; simp only [iv, List.getElem?_map]; rw [List.getElem?_eq_getElem (by omega)]; simp [List.getElem?_eq_getElem (show L.length - 1 < L.length by omega)])).mono ?_
    rintro e w' ⟨rfl, o', hr, hx⟩
    rw [h2, ← hl] at hr
    have e1 : (!decide (L.length = 0)) = true := by rw [decide_eq_false (by omega)]; rfl
    rw [e1]
    refine ⟨rfl, o', ⟨0, _, hr, by simp [iv, List.map_take], .inl rfl, fun _ => rfl, by simp; omega⟩, hx⟩
set_option maxRecDepth 100000 in
set_option maxHeartbeats 4000000 in
theorem rclear (q most gone : Nat) (L : List Int) (o : Option Nat) (w : World) (h : Rg w q most gone L o) (hm : most ≤ 65536) (hgo : gone ≤ 1000000) :
    Calls Try.prog 16 #[.pointer (some ⟨q, 0, none⟩)] w fun e w' => e = .returned (.tuple #[]) ∧ Rg w' q most (gone + L.length) [] none ∧ Kept (fun i => i = q) w w' := by
  have hlen := h.len
  obtain ⟨at', xs, ⟨v, hb, ho, -, -⟩, h2, -⟩ := h
  have hl : L.length = xs.length := by have := congrArg List.length h2; simp at this; omega
  obtain ⟨a, cap, rfl, -⟩ := ho.shape
  rw [← hl] at hb
  obtain ⟨n, hn⟩ : ∃ n, L.length = n := ⟨_, rfl⟩
  rw [hn] at hb hlen ⊢
  obtain ⟨WR, hWR⟩ : ∃ WR, w.drew = WR := ⟨_, rfl⟩
  have kR : Kept (fun _ => False) w WR := by rw [← hWR]; exact (Kept.refl _ w).drew
  have hb0 := kR.blk hb id
  obtain ⟨⟨c0, -⟩, ⟨c1, c1'⟩, ⟨c2, c2'⟩, c3, c3'⟩ := blk4 hb0
  obtain ⟨V1, hV1⟩ : ∃ V, WR.setCell ⟨q, 3, none⟩ (.int .i64 ((gone : Int) + (n : Int))) = V := ⟨_, rfl⟩
  have b1 := blk_set hb0 3 (.int .i64 ((gone : Int) + (n : Int)))
  rw [hV1] at b1
  obtain ⟨-, ⟨d1, d1'⟩, -⟩ := blk4 b1
  obtain ⟨V2, hV2⟩ : ∃ V, V1.setCell ⟨q, 1, none⟩ (.slice none 0 0) = V := ⟨_, rfl⟩
  have b2 := blk_set b1 1 (.slice none 0 0)
  rw [hV2] at b2
  obtain ⟨-, -, ⟨e2, e2'⟩, -⟩ := blk4 b2
  obtain ⟨V3, hV3⟩ : ∃ V, V2.setCell ⟨q, 2, none⟩ (.int .i64 0) = V := ⟨_, rfl⟩
  have b3 : V3.heap[q]? = some (.cells #[.int .i64 most, .slice none 0 0, .int .i64 ((0 : Nat) : Int), .int .i64 ((gone + n : Nat) : Int)] 48 (0, 0)) := by rw [← hV3]; exact blk_set b2 2 _
  have hk : Kept (fun i => i = q) w V3 := by
    rw [← hV3, ← hV2, ← hV1]
    exact ((((kR.mono fun _ _ h => h.elim : Kept (fun i => i = q) w WR)).setCell (p := ⟨q, 3, none⟩) (.inl rfl) _).setCell (p := ⟨q, 1, none⟩) (.inl rfl) _).setCell (p := ⟨q, 2, none⟩) (.inl rfl) _
  have H3 := Lib.hid (show Rg V3 q most (gone + n) [] none from ⟨0, [], ⟨_, b3, OwnV.nil _ _, rfl, fun h => by cases h⟩, rfl, .inl rfl, fun _ => rfl, Nat.zero_le _⟩)
  have HK := Lib.hid hk
  have w1 : IntKind.i64.wrap ((gone : Int) + (n : Int)) = (gone : Int) + (n : Int) := IntWalk.i64_in _ (by omega)
  have w2 : IntKind.i64.wrap (n : Int) = (n : Int) := IntWalk.i64_in _ (by omega)
  clear hb ho hb0 b1 b2 b3 hk h2 hl hn kR
  go_enter Try.func16, Try.ntmps16
  go_wp2
  go_still_tail 12, (by kernel_rfl)
  change wpList _ _ _ _ _ w.drew
  rw [hWR]
  go_wp2
  go_end0
  exact ⟨rfl, H3.out, HK.out⟩
theorem rat_no (q most gone : Nat) (L : List Int) (o : Option Nat) (i : Int) (w : World) (h : Rg w q most gone L o) (hi : i < 0 ∨ (L.length : Int) ≤ i) : Calls Try.prog 10 #[.pointer (some ⟨q, 0, none⟩), .int .i64 i] w fun e w' => e = .returned (.tuple #[.int .i64 0, .bool false]) ∧ Kept (fun _ => False) w w' := by
  obtain ⟨at', xs, h1, h2, -⟩ := h
  have hl : L.length = xs.length := by have := congrArg List.length h2; simp at this; omega
  refine (iat_no q most at' gone xs o i w h1 (by omega)).mono ?_
  rintro e w' ⟨rfl, rfl⟩
  exact ⟨rfl, Kept.refl _ _⟩
theorem rat_yes (q most gone : Nat) (L : List Int) (o : Option Nat) (i : Nat) (w : World) (h : Rg w q most gone L o) (hi : i < L.length) (hm : most ≤ 65536) : Calls Try.prog 10 #[.pointer (some ⟨q, 0, none⟩), .int .i64 i] w fun e w' => e = .returned (.tuple #[.int .i64 (L.getD i 0), .bool true]) ∧ Kept (fun _ => False) w w' := by
  obtain ⟨at', xs, h1, h2, h3, -, h5⟩ := h
  have hl : L.length = xs.length := by have := congrArg List.length h2; simp at this; omega
  have hat : at' < xs.length := by rcases h3 with h | h <;> omega
  refine (iat_yes q most at' gone xs o i (.int .i64 (L.getD i 0)) w h1 (by omega) hat (by omega) ?_).mono fun e w' h => h
  have h9 := congrArg (fun l => l[i]?) h2
  simp only [iv, List.getElem?_map, List.getElem?_eq_getElem hi, Option.map_some] at h9
  rw [mod_two hat (by omega)]
  rw [show L.getD i 0 = L[i] by simp [hi], ← h9]
  split
  · rw [List.getElem?_append_left (by simp; omega), List.getElem?_drop]
  · rw [List.getElem?_append_right (by simp; omega), List.length_drop, List.getElem?_take, if_pos (by omega)]
    congr 1; omega
theorem rlen (q most gone : Nat) (L : List Int) (o : Option Nat) (w : World) (h : Rg w q most gone L o) : Calls Try.prog 9 #[.pointer (some ⟨q, 0, none⟩)] w fun e w' => e = .returned (.int .i64 (L.length : Int)) ∧ w' = w := by
  obtain ⟨at', xs, h1, h2, -⟩ := h
  have hl : L.length = xs.length := by have := congrArg List.length h2; simp at this; omega
  rw [hl]
  exact ilen_any q most at' gone xs o w h1
theorem rgone (q most gone : Nat) (L : List Int) (o : Option Nat) (w : World) (h : Rg w q most gone L o) : Calls Try.prog 11 #[.pointer (some ⟨q, 0, none⟩)] w fun e w' => e = .returned (.int .i64 gone) ∧ w' = w := by
  obtain ⟨at', xs, h1, -⟩ := h
  exact igone_any q most at' gone xs o w h1
/-- The document's ring. -/
def FAt (w : World) (p most gone : Nat) (L : List Int) (o : Option Nat) : Prop := ∃ v, w.heap[p]? = some (.cells #[.int .i64 most, v, .int .i64 gone] 51 (0, 0)) ∧ Own .i64 3 w v L ∧ v.ownBlock = o ∧ o ≠ some p
theorem FAt.kept {S : Nat → Prop} {w w' : World} {p most gone : Nat} {L : List Int} {o : Option Nat} (h : FAt w p most gone L o) (hk : Kept S w w') (hp : ¬ S p) (ho : ∀ b, o = some b → ¬ S b) : FAt w' p most gone L o := by
  obtain ⟨v, h1, h2, h3, h4⟩ := h
  exact ⟨v, hk.blk h1 hp, h2.kept hk (fun b hb => ho b (by rw [← h3, hb])), h3, h4⟩
theorem FAt.up {w w' : World} {p most gone : Nat} {L : List Int} {o : Option Nat} (h : FAt w p most gone L o) (hk : Kept (fun _ => False) w w') : FAt w' p most gone L o := h.kept hk id (fun _ _ => id)
theorem FAt.lt {w : World} {p most gone : Nat} {L : List Int} {o : Option Nat} (h : FAt w p most gone L o) : p < w.heap.size ∧ ∀ b, o = some b → b < w.heap.size := by
  obtain ⟨v, h1, h2, h3, h4⟩ := h
  exact ⟨lt_of_blk h1, fun b hb => h2.lt b (by rw [h3, hb])⟩
set_option maxRecDepth 100000 in
set_option maxHeartbeats 4000000 in
theorem fnew_yes (most : Nat) (w : World) (hm : most ≤ 65536) : Calls Try.prog 13 #[.int .i64 most] w fun e w' => e = .returned (.tuple #[.pointer (some ⟨w.heap.size, 0, none⟩), .int .i64 0]) ∧ FAt w' w.heap.size most 0 [] none ∧ Kept (fun _ => False) w w' := by
  obtain ⟨V, hV⟩ : ∃ V, w.alloc (.cells #[.int .i64 most, .slice none 0 0, .int .i64 0] 51) = V := ⟨_, rfl⟩
  have HR := Lib.hid (show FAt V w.heap.size most 0 [] none from ⟨.slice none 0 0, by rw [← hV]; exact blk_new _ _, Own.nil _ _ _, rfl, fun h => by cases h⟩)
  have HK := Lib.hid (show Kept (fun _ => False) w V by rw [← hV]; exact (Kept.refl _ w).alloc _)
  have g0 : decide ((most : Int) < 0) = false := decide_eq_false (by omega)
  have g1 : decide (65536 < (most : Int)) = false := decide_eq_false (by omega)
  go_enter Try.func13, Try.ntmps13
  go_wp2
  exact bodyPost_ret (v := .tuple #[.pointer (some ⟨w.heap.size, 0, none⟩), .int .i64 0]) (by simp [results, Try.results13, go_sem]) rfl ⟨rfl, HR.out, HK.out⟩
set_option maxRecDepth 100000 in
set_option maxHeartbeats 4000000 in
theorem fnew_no (most : Int) (w : World) (hm : most < 0 ∨ 65536 < most) : Calls Try.prog 13 #[.int .i64 most] w fun e w' => e = .returned (.tuple #[.pointer none, .int .i64 1]) ∧ w' = w := by
  by_cases h0 : most < 0
  · have g0 : decide (most < 0) = true := decide_eq_true h0
    go_enter Try.func13, Try.ntmps13
    go_wp2
    exact bodyPost_ret (v := .tuple #[.pointer none, .int .i64 1]) (by simp [results, Try.results13, go_sem]) rfl ⟨rfl, rfl⟩
  · have g0 : decide (most < 0) = false := decide_eq_false h0
    have g1 : decide (65536 < most) = true := decide_eq_true (by omega)
    go_enter Try.func13, Try.ntmps13
    go_wp2
    exact bodyPost_ret (v := .tuple #[.pointer none, .int .i64 1]) (by simp [results, Try.results13, go_sem]) rfl ⟨rfl, rfl⟩
set_option maxRecDepth 100000 in
set_option maxHeartbeats 4000000 in
theorem inew_no (most : Int) (w : World) (hm : most < 0 ∨ 65536 < most) : Calls Try.prog 7 #[.int .i64 most] w fun e w' => e = .returned (.tuple #[.pointer none, .int .i64 1]) ∧ w' = w := by
  by_cases h0 : most < 0
  · have g0 : decide (most < 0) = true := decide_eq_true h0
    go_enter Try.func7, Try.ntmps7
    go_wp2
    exact bodyPost_ret (v := .tuple #[.pointer none, .int .i64 1]) (by simp [results, Try.results7, go_sem]) rfl ⟨rfl, rfl⟩
  · have g0 : decide (most < 0) = false := decide_eq_false h0
    have g1 : decide (65536 < most) = true := decide_eq_true (by omega)
    go_enter Try.func7, Try.ntmps7
    go_wp2
    exact bodyPost_ret (v := .tuple #[.pointer none, .int .i64 1]) (by simp [results, Try.results7, go_sem]) rfl ⟨rfl, rfl⟩
set_option maxRecDepth 100000 in
set_option maxHeartbeats 4000000 in
theorem fclear (p most gone : Nat) (L : List Int) (o : Option Nat) (w : World) (h : FAt w p most gone L o) (hl : L.length ≤ 65536) (hgo : gone ≤ 1000000) :
    Calls Try.prog 17 #[.pointer (some ⟨p, 0, none⟩)] w fun e w' => e = .returned (.tuple #[]) ∧ FAt w' p most (gone + L.length) [] none ∧ Kept (fun i => i = p) w w' := by
  obtain ⟨v, hb, ho, -, -⟩ := h
  obtain ⟨a, cap, rfl, -⟩ := ho.shape
  obtain ⟨n, hn⟩ : ∃ n, L.length = n := ⟨_, rfl⟩
  rw [hn] at hb hl ⊢
  obtain ⟨WR, hWR⟩ : ∃ WR, w.drew = WR := ⟨_, rfl⟩
  have kR : Kept (fun _ => False) w WR := by rw [← hWR]; exact (Kept.refl _ w).drew
  have hb0 := kR.blk hb id
  obtain ⟨⟨c0, -⟩, ⟨c1, c1'⟩, c2, c2'⟩ := blk3 hb0
  obtain ⟨V1, hV1⟩ : ∃ V, WR.setCell ⟨p, 2, none⟩ (.int .i64 ((gone : Int) + (n : Int))) = V := ⟨_, rfl⟩
  have b1 := blk_set hb0 2 (.int .i64 ((gone : Int) + (n : Int)))
  rw [hV1] at b1
  obtain ⟨-, ⟨d1, d1'⟩, -⟩ := blk3 b1
  obtain ⟨V2, hV2⟩ : ∃ V, V1.setCell ⟨p, 1, none⟩ (.slice none 0 0) = V := ⟨_, rfl⟩
  have b2 := blk_set b1 1 (.slice none 0 0)
  rw [hV2] at b2
  have hk : Kept (fun i => i = p) w V2 := by
    rw [← hV2, ← hV1]
    exact (((kR.mono fun _ _ h => h.elim : Kept (fun i => i = p) w WR)).setCell (p := ⟨p, 2, none⟩) (.inl rfl) _).setCell (p := ⟨p, 1, none⟩) (.inl rfl) _
  have H3 := Lib.hid (show FAt V2 p most (gone + n) [] none from ⟨_, b2, Own.nil _ _ _, rfl, fun h => by cases h⟩)
  have HK := Lib.hid hk
  have w1 : IntKind.i64.wrap ((gone : Int) + (n : Int)) = (gone : Int) + (n : Int) := IntWalk.i64_in _ (by omega)
  clear hb ho hb0 b1 b2 hk hn kR
  go_enter Try.func17, Try.ntmps17
  go_wp2
  go_still_tail 13, (by kernel_rfl)
  change wpList _ _ _ _ _ w.drew
  rw [hWR]
  go_wp2
  go_end0
  exact ⟨rfl, H3.out, HK.out⟩
theorem field_new {k : IntKind} {e T : TypeId} {w w5 : World} {p i : Nat} {C : Array Value} {v5 : Value} {zs : List Int} (hb : w.heap[p]? = some (.cells C T (0, 0)))
    (hk : Kept (fun _ => False) w w5) (ho5 : Own k e w5 v5 zs) (hf : ∀ b, v5.ownBlock = some b → w.heap.size ≤ b) :
    (w5.setCell ⟨p, i, none⟩ v5).heap[p]? = some (.cells (C.setIfInBounds i v5) T (0, 0)) ∧ Own k e (w5.setCell ⟨p, i, none⟩ v5) v5 zs ∧ v5.ownBlock ≠ some p ∧ Kept (fun j => j = p) w (w5.setCell ⟨p, i, none⟩ v5) := by
  have hpw : p < w.heap.size := lt_of_blk hb
  have h5p : v5.ownBlock ≠ some p := fun h => by have := hf p h; omega
  exact ⟨blk_set (hk.blk hb id) i v5, ho5.kept (S := (· = p)) ((Kept.refl (· = p) w5).setCell (p := ⟨p, i, none⟩) (.inl rfl) _) (fun b hb hbp => h5p (by rw [hb]; exact congrArg some hbp)), h5p, (hk.mono (fun _ _ h => h.elim) : Kept (fun j => j = p) w w5).setCell (p := ⟨p, i, none⟩) (.inl rfl) _⟩
set_option maxRecDepth 100000 in
set_option maxHeartbeats 4000000 in
theorem fpop_none (p most gone : Nat) (o : Option Nat) (w : World) (h : FAt w p most gone [] o) :
    Calls Try.prog 15 #[.pointer (some ⟨p, 0, none⟩)] w fun e w' => e = .returned (.tuple #[.int .i64 0, .bool false]) ∧ w' = w := by
  obtain ⟨v, hb, ho, -, -⟩ := h
  obtain ⟨a, cap, rfl, -⟩ := ho.shape
  obtain ⟨⟨c0, -⟩, ⟨c1, -⟩, c2, -⟩ := blk3 hb
  clear hb ho
  go_enter Try.func15, Try.ntmps15
  go_wp2
  exact bodyPost_ret (v := .tuple #[.int .i64 0, .bool false]) (by simp [results, Try.results15, go_sem]) rfl ⟨rfl, rfl⟩
set_option maxRecDepth 100000 in
set_option maxHeartbeats 4000000 in
theorem fpop_some (p most gone n : Nat) (L : List Int) (o : Option Nat) (w : World) (h : FAt w p most gone L o) (hn : L.length = n + 1) (hl : n ≤ 65536) :
    Calls Try.prog 15 #[.pointer (some ⟨p, 0, none⟩)] w fun e w' => e = .returned (.tuple #[.int .i64 (L.getD n 0), .bool true]) ∧ ∃ o', FAt w' p most gone (L.take n) o' ∧ Ext w p o o' w' := by
  have HF := Lib.hid h
  obtain ⟨v, hb, ho, hvo, hop⟩ := h
  obtain ⟨g, cap, rfl, hcap, hcm⟩ : ∃ g cap, v = .slice (some ⟨g, 0, none⟩) (n + 1) cap ∧ n + 1 ≤ cap ∧ cap ≤ maxLen := by
    obtain ⟨h1, h2⟩ := ho
    rcases h2 with ⟨-, h3⟩ | ⟨g, cap, cur, rfl, -, hg, hn', hc, hcs, ht⟩
    · omega
    · exact ⟨g, cap, by rw [hn], by omega, hc⟩
  obtain ⟨i0, hi, hz0, hz1, hz2⟩ := info_parts tinfo3
  have HI := Lib.hid (And.intro hi (And.intro hz0 (And.intro hz1 hz2)))
  obtain ⟨⟨c0, -⟩, ⟨c1, c1'⟩, c2, -⟩ := blk3 hb
  have hcell := ho.at.2.2.2.1 n (by omega)
  obtain ⟨x, hx⟩ : ∃ x, L.getD n 0 = x := ⟨_, rfl⟩
  rw [hx] at hcell ⊢
  obtain ⟨W1, hW1⟩ : ∃ W, w.alloc (.cells #[] 3) = W := ⟨_, rfl⟩
  have k1 : Kept (fun _ => False) w W1 := by rw [← hW1]; exact (Kept.refl _ w).alloc _
  have HOn := Lib.hid (show Own .i64 3 W1 (.slice (some ⟨w.heap.size, 0, none⟩) 0 0) [] by rw [← hW1]; exact Own.new .i64 w)
  have hsl : SlAt .i64 W1 (some ⟨g, 0, none⟩) n (L.take n) := by
    have h9 := (ho.slAt.kept k1 (fun _ _ _ _ => id))
    refine ⟨by simp; omega, ?_⟩
    obtain ⟨b, off, he, hc⟩ := h9.2.resolve_left (by omega)
    exact .inr ⟨b, off, he, fun j hj => by rw [hc j (by omega)]; simp [hj]⟩
  obtain ⟨d0, d1, d2⟩ := blk3 (k1.blk hb id)
  have HS := Lib.hid hsl
  have HK1 := Lib.hid k1
  have HB := Lib.hid (And.intro hb (And.intro hvo hop))
  have w1 : IntKind.i64.wrap ((n : Int) + 1 - 1) = (n : Int) := by rw [show (n : Int) + 1 - 1 = (n : Int) by omega]; exact IntWalk.i64_in _ (by omega)
  have w2 : (n : Int) + 1 - 1 = (n : Int) := by omega
  have w3 : IntKind.i64.wrap (n : Int) = (n : Int) := IntWalk.i64_in _ (by omega)
  have e0 : ((n : Int) + 1 == 0) = false := by simp; omega
  have l1 : n < n + 1 := by omega
  have l1' : (n : Int) < (n : Int) + 1 := by omega
  have l2 : n ≤ cap := by omega
  clear hi hz0 hz1 hz2 hsl k1 hb ho hvo hop hx
  have hA1 : ([] : List Int).length + n ≤ maxLen := by simp [maxLen]; omega
  have hA2 : (([] : List Int).length + n) * 8 ≤ 140737488355328 := by simp; omega
  have HA := Lib.hid (And.intro hA1 hA2)
  clear hA1 hA2
  go_enter Try.func15, Try.ntmps15
  go_wp2_with (at_builtin; refine wpList_appInts rfl (.tmp 22) (.tmp 29) 22 rfl 3 .i64 i0 (.int .i64 0) 8 Try.underlying22 HI.out.1 HI.out.2.1 HI.out.2.2.1 HI.out.2.2.2 rfl (.slice (some ⟨w.heap.size, 0, none⟩) 0 0) [] rfl HOn.out (some ⟨g, 0, none⟩) n cap (L.take n) rfl (fun h => by cases h) HS.out HA.out.2 HA.out.1 ?_; intro v5 w5 ho5 hk5 hpr5; have hk05 : Kept (fun _ => False) w w5 := (HK1.out.trans (hk5.mono fun i _ hi => Or.inr (by have h9 : w.heap.size = i := Option.some.inj hi; omega))); have hf5 : ∃ b, v5.ownBlock = some b ∧ w.heap.size ≤ b := (hpr5.elim (fun h => ⟨w.heap.size, h, Nat.le_refl _⟩) (fun h => ⟨_, h, HK1.out.size⟩)); obtain ⟨-, ⟨y1, y1'⟩, -⟩ := blk3 (hk05.blk HB.out.1 id); rw [List.nil_append] at ho5; obtain ⟨a5, cap5, hv5, -⟩ := ho5.shape; rw [List.length_take, Nat.min_eq_left (by omega)] at hv5; subst hv5; have H5 := Lib.hid (And.intro ho5 (And.intro hk05 hf5)); clear ho5 hk05 hf5 hk5 hpr5)
  obtain ⟨r1, r2, r3, r4⟩ := field_new (i := 1) HB.out.1 H5.out.2.1 H5.out.1 (fun b hb => by obtain ⟨c, h1, h2⟩ := H5.out.2.2; rw [h1] at hb; cases hb; exact h2)
  exact bodyPost_ret (v := .tuple #[.int .i64 x, .bool true]) (by simp [results, Try.results15, go_sem]) rfl ⟨rfl, _, ⟨_, by simpa using r1, r2, rfl, r3⟩, r4.mono (fun _ _ h => .inl h), .inr H5.out.2.2⟩
set_option maxRecDepth 100000 in
set_option maxHeartbeats 4000000 in
theorem fpush (p most gone : Nat) (L : List Int) (o : Option Nat) (t : Int) (w : World) (h : FAt w p most gone L o) (hL : L.length ≤ most) (hm : most ≤ 65536) (hgo : gone ≤ 1000000) :
    Calls Try.prog 14 #[.pointer (some ⟨p, 0, none⟩), .int .i64 t] w fun e w' => e = .returned (.tuple #[.int .i64 (pushX most L t), .bool (pushB most L)]) ∧ ∃ o', FAt w' p most (gone + pushG most L) (pushL most L t) o' ∧ Ext w p o o' w' := by
  obtain ⟨v, hb, ho, hvo, hop⟩ := h
  obtain ⟨a, cap, rfl, -⟩ := ho.shape
  obtain ⟨i0, hi, hz0, hz1, hz2⟩ := info_parts tinfo3
  have HI := Lib.hid (And.intro hi (And.intro hz0 (And.intro hz1 hz2)))
  obtain ⟨n, hn⟩ : ∃ n, L.length = n := ⟨_, rfl⟩
  obtain ⟨⟨c0, -⟩, ⟨c1, -⟩, c2, -⟩ := blk3 hb
  obtain ⟨W, hW⟩ : ∃ W, w.alloc (.cells #[.int .i64 t] 3) = W := ⟨_, rfl⟩
  have kW : Kept (fun _ => False) w W := by rw [← hW]; exact (Kept.refl _ w).alloc _
  have HSL := Lib.hid (show SlAt .i64 W (some ⟨w.heap.size, 0, none⟩) 1 [t] by rw [← hW]; exact slAt_one w t 3)
  have HOW := Lib.hid (ho.kept kW (fun _ _ => id))
  have HB := Lib.hid hb
  have HKW := Lib.hid kW
  have HV := Lib.hid (And.intro hvo hop)
  have HN := Lib.hid hn
  rw [hn] at c1 hL
  have hA1 : L.length + 1 ≤ maxLen := by rw [hn]; simp [maxLen]; omega
  have hA2 : (L.length + 1) * 8 ≤ 140737488355328 := by rw [hn]; omega
  have HA := Lib.hid (And.intro hA1 hA2)
  have HR := Lib.hid (show (n < most → pushX most L t = 0 ∧ pushB most L = false ∧ pushG most L = 0 ∧ pushL most L t = L ++ [t]) ∧ (¬ n < most → pushX most L t = (L ++ [t]).getD 0 0 ∧ pushB most L = true ∧ pushG most L = 1 ∧ pushL most L t = (L ++ [t]).tail) from by
    unfold pushX pushB pushG pushL
    rw [hn]
    exact ⟨fun h => by simp [h], fun h => by simp [h]⟩)
  clear ho hi hz0 hz1 hz2 hb kW hn hvo hop hA1 hA2
  obtain ⟨X, hX⟩ : ∃ X, pushX most L t = X := ⟨_, rfl⟩
  obtain ⟨BB, hBB⟩ : ∃ X, pushB most L = X := ⟨_, rfl⟩
  rw [hX, hBB]
  have HXB := Lib.hid (And.intro hX hBB)
  clear hX hBB
  go_enter Try.func14, Try.ntmps14
  rw [HN.out] at HOW HB HV
  go_wp2_with (at_builtin; refine wpList_appInts rfl (.tmp 11) (.tmp 13) 22 rfl 3 .i64 i0 (.int .i64 0) 8 Try.underlying22 HI.out.1 HI.out.2.1 HI.out.2.2.1 HI.out.2.2.2 rfl (.slice a n cap) L rfl HOW.out (some ⟨w.heap.size, 0, none⟩) 1 1 [t] rfl (fun h => by cases h) HSL.out HA.out.2 HA.out.1 ?_; intro v5 w5 ho5 hk5 hpr5; obtain ⟨-, ⟨y1, y1'⟩, -⟩ := blk3 (hk5.blk (HKW.out.blk HB.out id) (fun hp => HV.out.2 (by rw [← HV.out.1]; exact hp))); obtain ⟨a5, cap5, hv5, -⟩ := ho5.shape; rw [List.length_append, HN.out, List.length_singleton] at hv5; subst hv5; have H5 := Lib.hid (And.intro ho5 (And.intro hk5 hpr5)); clear ho5 hk5 hpr5 c0 c1 c2)
  obtain ⟨V, hV⟩ : ∃ V, w5.setCell ⟨p, 1, none⟩ (.slice a5 (n + 1) cap5) = V := ⟨_, rfl⟩
  obtain ⟨r1, r2, r3, r4, r5⟩ := app_field (i := 1) HB.out HV.out.1 HV.out.2 HKW.out H5.out.1 H5.out.2.1 H5.out.2.2
  rw [hV] at r1 r2 r4 ⊢
  have hF : FAt V p most gone (L ++ [t]) (Value.slice a5 (n + 1) cap5).ownBlock := ⟨_, by simpa using r1, r2, rfl, r3⟩
  have hE : Ext w p o (Value.slice a5 (n + 1) cap5).ownBlock V := ⟨r4, r5⟩
  obtain ⟨ob, hob⟩ : ∃ ob, (Value.slice a5 (n + 1) cap5).ownBlock = ob := ⟨_, rfl⟩
  rw [hob] at hF hE r3
  have hb1 : V.heap[p]? = some (.cells #[.int .i64 most, .slice a5 (n + 1) cap5, .int .i64 gone] 51 (0, 0)) := by simpa using r1
  have HOV := Lib.hid (And.intro r2 (And.intro hb1 (And.intro hob r3)))
  have HF := Lib.hid hF
  have HE := Lib.hid hE
  clear r1 r2 r3 r4 r5 hF hE hV y1 y1' H5 HOW HSL hob
  obtain ⟨E1, hE1⟩ : ∃ E, V.drew = E := ⟨_, rfl⟩
  have kE1 : Kept (fun _ => False) V E1 := by rw [← hE1]; exact (Kept.refl _ V).drew
  have hbV : V.drew.heap[p]? = some (.cells #[.int .i64 most, .slice a5 (n + 1) cap5, .int .i64 gone] 51 (0, 0)) := hb1
  obtain ⟨⟨z0, -⟩, ⟨z1, -⟩, -⟩ := blk3 hb1
  obtain ⟨⟨d0, -⟩, ⟨d1, -⟩, -⟩ := blk3 hbV
  clear hb1 hbV
  by_cases hlt : n < most
  · have g1 : decide (n + 1 ≤ most) = true := decide_eq_true (by omega)
    have g1' : decide ((n : Int) + 1 ≤ (most : Int)) = true := decide_eq_true (by omega)
    have HRR := Lib.hid (HR.out.1 hlt)
    obtain ⟨⟨e0, -⟩, ⟨e1, -⟩, e2, -⟩ := blk3 (kE1.blk HOV.out.2.1 id)
    have HKE := Lib.hid kE1
    clear hlt kE1
    go_still (by kernel_rfl)
    rw [show (World.mk V.heap V.tape (V.drawn + 1) V.os V.output) = E1 from hE1]
    go_wp2
    exact bodyPost_ret (v := .tuple #[.int .i64 0, .bool false]) (by simp [results, Try.results14, go_sem]) rfl ⟨by rw [← HXB.out.1, ← HXB.out.2, HRR.out.1, HRR.out.2.1], ob, by rw [HRR.out.2.2.1, HRR.out.2.2.2]; exact HF.out.up HKE.out, HE.out.trans (Ext.same HKE.out)⟩
  · have g1 : decide (n + 1 ≤ most) = false := decide_eq_false (by omega)
    have g1' : decide ((n : Int) + 1 ≤ (most : Int)) = false := decide_eq_false (by omega)
    have HRR := Lib.hid (HR.out.2 hlt)
    clear hlt
    obtain ⟨g, rfl⟩ : ∃ g, a5 = some ⟨g, 0, none⟩ := by
      obtain ⟨h1, h2⟩ := HOV.out.1
      rcases h2 with ⟨h3, h4⟩ | ⟨g, cap', cur, h3, -⟩
      · simp at h4
      · simp only [Value.slice.injEq] at h3; exact ⟨g, h3.1⟩
    have hoE := HOV.out.1.kept kE1 (fun _ _ => id)
    have hcap := hoE.at.2.1
    have hcell := hoE.at.2.2.2.1 0 (by omega)
    obtain ⟨x, hx⟩ : ∃ x, (L ++ [t]).getD 0 0 = x := ⟨_, rfl⟩
    rw [hx] at hcell
    obtain ⟨U1, hU1⟩ : ∃ U, E1.alloc (.cells #[] 3) = U := ⟨_, rfl⟩
    have kU1 : Kept (fun _ => False) E1 U1 := by rw [← hU1]; exact (Kept.refl _ E1).alloc _
    have HOn := Lib.hid (show Own .i64 3 U1 (.slice (some ⟨E1.heap.size, 0, none⟩) 0 0) [] by rw [← hU1]; exact Own.new .i64 E1)
    have hsl : SlAt .i64 U1 (some ⟨g, 1, none⟩) n (L ++ [t]).tail := by
      obtain ⟨h1, -, -, h4, -⟩ := hoE.at
      refine ⟨by simp [HN.out], .inr ⟨g, 1, rfl, fun j hj => ?_⟩⟩
      rw [kU1.cell (h4 (1 + j) (by omega)) id]
      simp [Nat.add_comm 1 j]
    have hb1 := kE1.blk HOV.out.2.1 id
    obtain ⟨⟨e0, -⟩, ⟨e1, -⟩, e2, -⟩ := blk3 hb1
    obtain ⟨⟨f0, -⟩, ⟨f1, -⟩, f2, -⟩ := blk3 (kU1.blk hb1 id)
    have HBE := Lib.hid hb1
    have HS := Lib.hid hsl
    have HKU := Lib.hid kU1
    have HKE := Lib.hid kE1
    have HX := Lib.hid hx
    have l1 : 1 ≤ n + 1 := by omega
    have l2 : n + 1 ≤ cap5 := hcap
    have l3 : 1 ≤ cap5 := by omega
    have hA1 : ([] : List Int).length + n ≤ maxLen := by simp [maxLen]; omega
    have hA2 : (([] : List Int).length + n) * 8 ≤ 140737488355328 := by simp; omega
    have HA2 := Lib.hid (And.intro hA1 hA2)
    have w1 : IntKind.i64.wrap ((gone : Int) + 1) = (gone : Int) + 1 := IntWalk.i64_in _ (by omega)
    clear hoE hcap hsl hb1 kU1 kE1 hx hA1 hA2
    go_still (by kernel_rfl)
    rw [show (World.mk V.heap V.tape (V.drawn + 1) V.os V.output) = E1 from hE1]
    obtain ⟨a1, ha1⟩ : ∃ a1 : Option Addr, (if cap5 = 1 then some ⟨g, 0, none⟩ else some ⟨g, 1, none⟩) = a1 := ⟨_, rfl⟩
    have hsl2 : SlAt .i64 U1 a1 n (L ++ [t]).tail := by
      rw [← ha1]
      split
      · exact ⟨HS.out.1, .inl (by omega)⟩
      · exact HS.out
    have HS2 := Lib.hid hsl2
    have HNA := Lib.hid (show a1 = none → n = 0 ∧ cap5 - 1 = 0 from fun h => by rw [← ha1] at h; split at h <;> cases h)
    clear hsl2 HS
    by_cases hc1 : cap5 = 1
    · subst hc1
      rw [if_pos rfl] at ha1
      subst ha1
      obtain rfl : n = 0 := by omega
      simp only [Nat.zero_add] at *
      go_wp2_with (at_builtin; refine wpList_appInts rfl (.tmp 34) (.tmp 39) 22 rfl 3 .i64 i0 (.int .i64 0) 8 Try.underlying22 HI.out.1 HI.out.2.1 HI.out.2.2.1 HI.out.2.2.2 rfl (.slice (some ⟨E1.heap.size, 0, none⟩) 0 0) [] rfl HOn.out _ 0 0 (L ++ [t]).tail rfl (fun h => by cases h) HS2.out HA2.out.2 HA2.out.1 ?_; intro v6 w6 ho6 hk6 hpr6; have hk06 : Kept (fun _ => False) E1 w6 := (HKU.out.trans (hk6.mono fun i _ hi => Or.inr (by have h9 : E1.heap.size = i := Option.some.inj hi; omega))); have hf6 : ∃ b, v6.ownBlock = some b ∧ E1.heap.size ≤ b := (hpr6.elim (fun h => ⟨E1.heap.size, h, Nat.le_refl _⟩) (fun h => ⟨_, h, HKU.out.size⟩)); rw [List.nil_append] at ho6; obtain ⟨a6, cap6, hv6, -⟩ := ho6.shape; rw [show (L ++ [t]).tail.length = 0 from (by simp [HN.out])] at hv6; subst hv6; obtain ⟨r1, r2, r3, r4⟩ := field_new (i := 1) HBE.out hk06 ho6 (fun b hb => by obtain ⟨c, h1, h2⟩ := hf6; rw [h1] at hb; cases hb; exact h2); obtain ⟨-, ⟨u1, u1'⟩, -⟩ := blk3 (hk06.blk HBE.out id); obtain ⟨W7, hW7⟩ : ∃ W7, w6.setCell ⟨p, 1, none⟩ (.slice a6 0 cap6) = W7 := ⟨_, rfl⟩; rw [hW7] at r1 r2 r4; obtain ⟨-, -, x2, x2'⟩ := blk3 r1; have H7 := Lib.hid (And.intro r1 (And.intro r2 (And.intro r3 (And.intro r4 hf6)))); clear ho6 hk06 hf6 hk6 hpr6 r1 r2 r3 r4)
      obtain ⟨W8, hW8⟩ : ∃ W8, W7.setCell ⟨p, 2, none⟩ (.int .i64 ((gone : Int) + 1)) = W8 := ⟨_, rfl⟩
      have k8 : Kept (fun i => i = p) W7 W8 := by rw [← hW8]; exact (Kept.refl (fun i => i = p) W7).setCell (p := ⟨p, 2, none⟩) (.inl rfl) _
      have b8 := blk_set H7.out.1 2 (.int .i64 ((gone : Int) + 1))
      rw [hW8] at b8 ⊢
      exact bodyPost_ret (v := .tuple #[.int .i64 x, .bool true]) (by simp [results, Try.results14, go_sem]) rfl ⟨by rw [← HXB.out.1, ← HXB.out.2, HRR.out.1, HRR.out.2.1, HX.out], (Value.slice a6 0 cap6).ownBlock, by rw [HRR.out.2.2.1, HRR.out.2.2.2]; exact ⟨_, by simpa using b8, H7.out.2.1.kept k8 (fun b hb (hS : b = p) => H7.out.2.2.1 (by rw [hb, hS])), rfl, H7.out.2.2.1⟩, by obtain ⟨b, h1, h2⟩ := H7.out.2.2.2.2; exact HE.out.trans ⟨((HKE.out.mono fun _ _ h => h.elim : Kept (fun i => i = p ∨ ob = some i) V E1)).then ((H7.out.2.2.2.1.then k8).mono fun _ _ h => .inl h), .inr ⟨b, h1, Nat.le_trans HKE.out.size h2⟩⟩⟩
    · rw [if_neg hc1] at ha1
      subst ha1
      go_wp2_with (at_builtin; refine wpList_appInts rfl (.tmp 34) (.tmp 39) 22 rfl 3 .i64 i0 (.int .i64 0) 8 Try.underlying22 HI.out.1 HI.out.2.1 HI.out.2.2.1 HI.out.2.2.2 rfl (.slice (some ⟨E1.heap.size, 0, none⟩) 0 0) [] rfl HOn.out _ n (cap5 - 1) (L ++ [t]).tail rfl HNA.out HS2.out HA2.out.2 HA2.out.1 ?_; intro v6 w6 ho6 hk6 hpr6; have hk06 : Kept (fun _ => False) E1 w6 := (HKU.out.trans (hk6.mono fun i _ hi => Or.inr (by have h9 : E1.heap.size = i := Option.some.inj hi; omega))); have hf6 : ∃ b, v6.ownBlock = some b ∧ E1.heap.size ≤ b := (hpr6.elim (fun h => ⟨E1.heap.size, h, Nat.le_refl _⟩) (fun h => ⟨_, h, HKU.out.size⟩)); rw [List.nil_append] at ho6; obtain ⟨a6, cap6, hv6, -⟩ := ho6.shape; rw [show (L ++ [t]).tail.length = n from (by simp [HN.out])] at hv6; subst hv6; obtain ⟨r1, r2, r3, r4⟩ := field_new (i := 1) HBE.out hk06 ho6 (fun b hb => by obtain ⟨c, h1, h2⟩ := hf6; rw [h1] at hb; cases hb; exact h2); obtain ⟨-, ⟨u1, u1'⟩, -⟩ := blk3 (hk06.blk HBE.out id); obtain ⟨W7, hW7⟩ : ∃ W7, w6.setCell ⟨p, 1, none⟩ (.slice a6 n cap6) = W7 := ⟨_, rfl⟩; rw [hW7] at r1 r2 r4; obtain ⟨-, -, x2, x2'⟩ := blk3 r1; have H7 := Lib.hid (And.intro r1 (And.intro r2 (And.intro r3 (And.intro r4 hf6)))); clear ho6 hk06 hf6 hk6 hpr6 r1 r2 r3 r4)
      obtain ⟨W8, hW8⟩ : ∃ W8, W7.setCell ⟨p, 2, none⟩ (.int .i64 ((gone : Int) + 1)) = W8 := ⟨_, rfl⟩
      have k8 : Kept (fun i => i = p) W7 W8 := by rw [← hW8]; exact (Kept.refl (fun i => i = p) W7).setCell (p := ⟨p, 2, none⟩) (.inl rfl) _
      have b8 := blk_set H7.out.1 2 (.int .i64 ((gone : Int) + 1))
      rw [hW8] at b8 ⊢
      exact bodyPost_ret (v := .tuple #[.int .i64 x, .bool true]) (by simp [results, Try.results14, go_sem]) rfl ⟨by rw [← HXB.out.1, ← HXB.out.2, HRR.out.1, HRR.out.2.1, HX.out], (Value.slice a6 n cap6).ownBlock, by rw [HRR.out.2.2.1, HRR.out.2.2.2]; exact ⟨_, by simpa using b8, H7.out.2.1.kept k8 (fun b hb (hS : b = p) => H7.out.2.2.1 (by rw [hb, hS])), rfl, H7.out.2.2.1⟩, by obtain ⟨b, h1, h2⟩ := H7.out.2.2.2.2; exact HE.out.trans ⟨((HKE.out.mono fun _ _ h => h.elim : Kept (fun i => i = p ∨ ob = some i) V E1)).then ((H7.out.2.2.2.1.then k8).mono fun _ _ h => .inl h), .inr ⟨b, h1, Nat.le_trans HKE.out.size h2⟩⟩⟩
end Go.Proofs.Ytdfenlonlpjkfaa
