/- known: two places, one in view. -/
import Derived.Test.YtgbflcmageipdaaPutT
import Derived.Test.YtgbflcmageipdaaHas
import Derived.Test.YtgbflcmageipdaaOrd
namespace Go.Proofs.Ytgbflcmageipdaa
open Go.RowKit
set_option linter.unusedVariables false
set_option linter.unusedSimpArgs false
def P1 : Pl := ⟨1, 0, false, 3, 0, 2, 2, 0, 0, 1, 1, 0, 0, 0⟩
def P2 : Pl := ⟨2, 0, false, 9, 0, 1, 1, 0, 0, 1, 1, 0, 0, -1⟩
def V0 : Vw := ⟨false, 4, 3, 5, 0, 0⟩
def A0 : Ask := ⟨97, 0, 0, 0, 0, 0⟩
theorem may1 : mayB P1 = true := by kernel_rfl
theorem may2 : mayB P2 = true := by kernel_rfl
theorem put1 : putL [] P1 = [P1] := by unfold putL; rw [if_pos may1]; rfl
theorem put12 : putB P2 P1 = false := by kernel_rfl
theorem put2 : putL [P1] P2 = [P1, P2] := by unfold putL; rw [if_pos may2]; simp [put12]
theorem see1 : seenB V0 P1 = true := by kernel_rfl
theorem see2 : seenB V0 P2 = false := by kernel_rfl
theorem mat1 : matchB A0 P1 V0 = true := by kernel_rfl
theorem mat2 : matchB A0 P2 V0 = false := by kernel_rfl
theorem ord12 : [P1, P2].filter (seenB V0) = [P1] := by simp [see1, see2]
theorem del12 : [P1, P2].filter (fun p => matchB A0 p V0) = [P1] := by simp [mat1, mat2]
theorem del21 : [P1, P2].filter (fun p => !matchB A0 p V0) = [P2] := by simp [mat1, mat2]
set_option maxRecDepth 100000 in
set_option maxHeartbeats 16000000 in
theorem known_any (w : World) : Calls Try.prog 5 #[] w fun e w' => e = .returned (.bool true) ∧ Kept (fun _ => False) w w' := by
  have HN := Lib.hid (new_any w)
  obtain ⟨t, ht⟩ : ∃ t, w.heap.size = t := ⟨_, rfl⟩
  rw [ht] at HN
  have HT0 := Lib.hid ht
  go_enter Try.func5, Try.ntmps5
  go_wp2_with fail
  refine HN.out.mono ?_
  rintro e w1 ⟨rfl, hT1, hk1⟩
  have HP := Lib.hid (show Calls Try.prog 8 #[.pointer (some ⟨t, 0, none⟩), .agg #[.int .i64 1, .int .i64 0, .bool false, .int .i64 3, .int .i64 0, .int .i64 2, .int .i64 2, .int .i64 0, .int .i64 0, .int .i64 1, .int .i64 1, .int .i64 0, .int .i64 0, .int .i64 0]] w1 fun e w' => e = .returned (.int .i64 0) ∧ Tb t w' t [P1] ∧ Kept (fun i => t ≤ i) w1 w' from by
    have h := putt_any t t [] P1 w1 hT1 (by simp) (by have := hk1.size; omega)
    rw [if_pos may1, put1] at h; exact h)
  have H1 := Lib.hid hk1
  clear hT1 hk1
  go_wp2_with fail
  refine HP.out.mono ?_
  rintro e w2 ⟨rfl, hT2, hk2⟩
  have hk2' : Kept (fun i => t ≤ i) w w2 := (H1.out.mono (fun _ _ h => h.elim)).then hk2
  have HP2 := Lib.hid (show Calls Try.prog 8 #[.pointer (some ⟨t, 0, none⟩), .agg #[.int .i64 2, .int .i64 0, .bool false, .int .i64 9, .int .i64 0, .int .i64 1, .int .i64 1, .int .i64 0, .int .i64 0, .int .i64 1, .int .i64 1, .int .i64 0, .int .i64 0, .int .i64 (-1)]] w2 fun e w' => e = .returned (.int .i64 0) ∧ Tb t w' t [P1, P2] ∧ Kept (fun i => t ≤ i) w2 w' from by
    have h := putt_any t t [P1] P2 w2 hT2 (by simp) (by have := hk2'.size; have := HT0.out; omega)
    rw [if_pos may2, put2] at h; exact h)
  have H2 := Lib.hid hk2'
  clear hT2 hk2 hk2'
  go_wp2_with fail
  refine HP2.out.mono ?_
  rintro e w3 ⟨rfl, hT3, hk3⟩
  obtain ⟨W3, hW3⟩ : ∃ W, w3.alloc (.cells V0.cs 26) = W := ⟨_, rfl⟩
  have hbw : W3.heap[w3.heap.size]? = some (.cells V0.cs 26 (0, 0)) := by rw [← hW3]; exact blk_new w3 _
  obtain ⟨X4, hX4⟩ : ∃ X, W3.setCell ⟨w3.heap.size, 4, none⟩ (.int .i64 0) = X := ⟨_, rfl⟩
  obtain ⟨X5, hX5⟩ : ∃ X, X4.setCell ⟨w3.heap.size, 5, none⟩ (.int .i64 0) = X := ⟨_, rfl⟩
  have hb4 : X4.heap[w3.heap.size]? = some (.cells V0.cs 26 (0, 0)) := by rw [← hX4]; exact blk_set hbw 4 _
  have hb3 : X5.heap[w3.heap.size]? = some (.cells V0.cs 26 (0, 0)) := by rw [← hX5]; exact blk_set hb4 5 _
  have f4 := blk_free hbw 4
  have f5 := blk_free hb4 5
  have e4 : W3.cell? ⟨w3.heap.size, 4, none⟩ = some (.int .i64 0) := blk_cell hbw 4
  have e5 : X4.cell? ⟨w3.heap.size, 5, none⟩ = some (.int .i64 0) := blk_cell hb4 5
  have hkx : Kept (fun _ => False) w3 X5 := by rw [← hX5, ← hX4, ← hW3]; exact (((Kept.refl _ _).alloc _).setCell (p := ⟨w3.heap.size, 4, none⟩) (.inr (Nat.le_refl _)) _).setCell (p := ⟨w3.heap.size, 5, none⟩) (.inr (Nat.le_refl _)) _
  have hk3' : Kept (fun i => t ≤ i) w X5 := (H2.out.then hk3).then (hkx.mono (fun _ _ h => h.elim))
  have hT3' : Tb t X5 t [P1, P2] := hT3.up hkx
  have hzq : t < w3.heap.size := by exact lt_of_blk hT3.2.choose_spec.1
  have c0 : X5.cell? ⟨w3.heap.size, 0, none⟩ = some (.bool false) := blk_cell hb3 0
  have c1 : X5.cell? ⟨w3.heap.size, 1, none⟩ = some (.int .i64 4) := blk_cell hb3 1
  have c2 : X5.cell? ⟨w3.heap.size, 2, none⟩ = some (.int .i64 3) := blk_cell hb3 2
  have c3 : X5.cell? ⟨w3.heap.size, 3, none⟩ = some (.int .i64 5) := blk_cell hb3 3
  have c4 : X5.cell? ⟨w3.heap.size, 4, none⟩ = some (.int .i64 0) := blk_cell hb3 4
  have c5 : X5.cell? ⟨w3.heap.size, 5, none⟩ = some (.int .i64 0) := blk_cell hb3 5
  have HO := Lib.hid (show Calls Try.prog 13 #[.pointer (some ⟨t, 0, none⟩), .agg #[.bool false, .int .i64 4, .int .i64 3, .int .i64 5, .int .i64 0, .int .i64 0]] X5 fun e w' => ∃ a cap, e = .returned (.slice a 1 cap) ∧ SlP w' a 1 [P1] ∧ Tb t w' t [P1, P2] ∧ Kept (fun _ => False) X5 w' ∧ ∀ b off, a = some ⟨b, off, none⟩ → X5.heap.size ≤ b from by
    have h := order_any t t [P1, P2] V0 X5 hT3' (by simp) (by rw [ord12]; rfl)
    rw [ord12] at h; exact h)
  have hz5 := hkx.size
  have H3 := Lib.hid (And.intro hk3' (And.intro hb3 (And.intro hzq hz5)))
  have hW3' : w3.alloc (.cells #[.bool false, .int .i64 4, .int .i64 3, .int .i64 5, .int .i64 0, .int .i64 0] 26) = W3 := hW3
  clear hT3 hk3 hk3' hb3 hT3' hW3 hzq hbw hb4 hkx hz5
  go_wp2_with fail
  refine HO.out.mono ?_
  rintro e w4 ⟨oa, oc, rfl, hos, hT4, hk4, hob⟩
  have hb4 := hk4.blk H3.out.2.1 id
  have d0 : w4.cell? ⟨w3.heap.size, 0, none⟩ = some (.bool false) := blk_cell hb4 0
  have d1 : w4.cell? ⟨w3.heap.size, 1, none⟩ = some (.int .i64 4) := blk_cell hb4 1
  have d2 : w4.cell? ⟨w3.heap.size, 2, none⟩ = some (.int .i64 3) := blk_cell hb4 2
  have d3 : w4.cell? ⟨w3.heap.size, 3, none⟩ = some (.int .i64 5) := blk_cell hb4 3
  have d4 : w4.cell? ⟨w3.heap.size, 4, none⟩ = some (.int .i64 0) := blk_cell hb4 4
  have d5 : w4.cell? ⟨w3.heap.size, 5, none⟩ = some (.int .i64 0) := blk_cell hb4 5
  have HD := Lib.hid (show Calls Try.prog 10 #[.pointer (some ⟨t, 0, none⟩), .agg #[.int .u8 97, .int .i64 0, .int .i64 0, .int .i64 0, .int .i64 0, .int .i64 0], .agg #[.bool false, .int .i64 4, .int .i64 3, .int .i64 5, .int .i64 0, .int .i64 0]] w4 fun e w' => ∃ ad cap, e = .returned (.slice ad 1 cap) ∧ Tb t w' t [P2] ∧ Kept (fun i => i = t) w4 w' from by
    have h := del_any t t [P1, P2] A0 V0 w4 hT4 (by simp) (by have := (H3.out.1.then (hk4.mono (fun _ _ h => h.elim))).size; have := HT0.out; omega)
    refine h.mono ?_
    rintro e w' ⟨ad, n, cap, he, hn, -, h4, -, -, h7⟩
    rw [del12] at hn
    rw [del21] at h4
    subst hn
    exact ⟨ad, cap, he, h4, h7⟩)
  have H4 := Lib.hid (And.intro (H3.out.1.then (hk4.mono (fun _ _ h => h.elim))) (And.intro hos hob))
  clear hb4 hT4 hk4 hos hob
  go_wp2_with fail
  refine HD.out.mono ?_
  rintro e w5 ⟨da, dc, rfl, hT5, hk5⟩
  obtain ⟨b, off, hoa, hc9⟩ := H4.out.2.1.2.resolve_left (by omega)
  subst hoa
  have hbt : b ≠ t := by have h1 := H4.out.2.2 b off rfl; have h2 := H3.out.2.2.1; have h3 := H3.out.2.2.2; omega
  have o0 : w5.cell? ⟨b, off, none⟩ = some (.int .i64 1) := by
    have h := (hc9 0 P1 rfl).kept hk5 hbt 0 (by omega)
    rw [show off + 0 * 14 + 0 = off by omega] at h
    exact h
  have HH := Lib.hid (fun (im : Int) (w : World) (h : Tb t w t [P2]) => has_any t t [P2] im w h (by simp))
  have H5 := Lib.hid (And.intro hT5 (H4.out.1.then (hk5.mono (fun i _ h => by have h9 : i = t := h; show t ≤ i; omega))))
  clear hc9 hbt hT5 hk5
  have n1 : ([P2].any fun p => p.im == 1) = false := by kernel_rfl
  have n2 : ([P2].any fun p => p.im == 2) = true := by kernel_rfl
  go_wp2_with fail
  refine (HH.out 1 _ H5.out.1).mono ?_
  rintro e w6 ⟨rfl, hT6, hk6⟩
  have H6 := Lib.hid (And.intro hT6 (H5.out.2.then (hk6.mono (fun _ _ h => h.elim))))
  clear hT6 hk6
  rw [n1]
  go_wp2_with fail
  refine (HH.out 2 _ H6.out.1).mono ?_
  rintro e w7 ⟨rfl, hT7, hk7⟩
  have H7 := Lib.hid (H6.out.2.then (hk7.mono (fun _ _ h => h.elim)))
  clear hT7 hk7
  rw [n2]
  go_wp2
  go_ret
  exact ⟨rfl, H7.out.mono (fun i hi h => by have := HT0.out; have h9 : t ≤ i := h; omega)⟩
end Go.Proofs.Ytgbflcmageipdaa
