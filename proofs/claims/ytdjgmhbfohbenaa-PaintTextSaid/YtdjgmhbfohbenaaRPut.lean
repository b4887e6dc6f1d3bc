/- A pixel put in place, by the document. -/
import Derived.Test.YtdjgmhbfohbenaaPut
import Derived.Test.YtdjgmhbfohbenaaSolD
namespace Go.Proofs.Ytdjgmhbfohbenaa
open Go.RowKit Go.Sort
set_option linter.unusedVariables false
set_option linter.unusedSimpArgs false
set_option maxRecDepth 100000 in
set_option maxHeartbeats 4000000 in
theorem rput_any (W H x y : Nat) (p ys : List Int) (g n cap : Nat) (w : World) (hx : x < W) (hy : y < H) (hb : W * H ≤ 67108864) (hn : n = 4 * (W * H)) (ho : Own .u8 5 w (.slice (some ⟨g, 0, none⟩) n cap) p) (hW : W ≤ 16384) (hH : H ≤ 16384) (c0 c1 c2 c3 : Int) :
    Calls Try.prog 38 #[.agg #[.int .i64 W, .int .i64 H, .slice (some ⟨g, 0, none⟩) n cap], .int .i64 x, .int .i64 y, .agg #[.int .u8 c0, .int .u8 c1, .int .u8 c2, .int .u8 c3]] w fun e w' => e = .returned (.tuple #[]) ∧ Own .u8 5 w' (.slice (some ⟨g, 0, none⟩) n cap) (spl p (4 * (y * W + x)) [c0, c1, c2, c3]) ∧ Kept (fun i => i = g) w w' := by
  have hP := fit_idx hx hy
  have n1 : y * W ≤ 16384 * 16384 := Nat.mul_le_mul (by omega) (by omega)
  obtain ⟨M, hM⟩ : ∃ M, W * H = M := ⟨_, rfl⟩
  rw [hM] at hP hb hn
  obtain ⟨q, hq⟩ : ∃ q, y * W = q := ⟨_, rfl⟩
  rw [hq] at hP n1 ⊢
  subst hn
  have hpl := ho.at.1
  have hgw := ho.at.2.2.1
  have hcp := ho.at.2.1
  have v1 : (y : Int) * (W : Int) = (q : Int) := by rw [← hq]; simp
  obtain ⟨V, hV⟩ : ∃ V, (w.alloc (.cells #[.int .i64 W, .int .i64 H, .slice (some ⟨g, 0, none⟩) (4 * M) cap] 35)).alloc (.cells #[.int .u8 c0, .int .u8 c1, .int .u8 c2, .int .u8 c3] 65) = V := ⟨_, rfl⟩
  have kV : Kept (fun _ => False) w V := by rw [← hV]; exact ((Kept.refl _ w).alloc _).alloc _
  have HB0 := Lib.hid (show V.heap[w.heap.size]? = some (.cells #[.int .i64 W, .int .i64 H, .slice (some ⟨g, 0, none⟩) (4 * M) cap] 35 (0, 0)) by rw [← hV]; exact blk_alloc (blk_new _ _) _)
  have HB1 := Lib.hid (show V.heap[w.heap.size + 1]? = some (.cells #[.int .u8 c0, .int .u8 c1, .int .u8 c2, .int .u8 c3] 65 (0, 0)) by rw [← hV]; exact blk_at _ _ (by simp))
  have HO := Lib.hid (ho.kept kV (fun _ _ => id))
  have HK := Lib.hid kV
  obtain ⟨⟨a0, -⟩, ⟨a1, -⟩, a2, -⟩ := blk3 HB0.out
  have HPL := Lib.hid hpl
  clear ho kV hM hq hpl
  have q1 : decide ((x : Int) < 0) = false := decide_eq_false (by omega)
  have q2 : decide ((y : Int) < 0) = false := decide_eq_false (by omega)
  have q3 : decide ((W : Int) ≤ (x : Int)) = false := decide_eq_false (by omega)
  have q4 : decide ((H : Int) ≤ (y : Int)) = false := decide_eq_false (by omega)
  have q3' : decide (W ≤ x) = false := decide_eq_false (by omega)
  have q4' : decide (H ≤ y) = false := decide_eq_false (by omega)
  go_enter Try.func38, Try.ntmps38
  go_wp2
  clear hV a0 a1 a2
  go_loopg [9] 4 (fun gg i wr => ∃ k : Nat, k ≤ 4 ∧ 4 ≤ gg + k ∧ i = .int .i64 k ∧ Own .u8 5 wr (.slice (some ⟨g, 0, none⟩) (4 * M) cap) (spl p (4 * (q + x)) ([c0, c1, c2, c3].take k)) ∧ Kept (fun i => i = g) w wr ∧ wr.heap[w.heap.size]? = some (.cells #[.int .i64 W, .int .i64 H, .slice (some ⟨g, 0, none⟩) (4 * M) cap] 35 (0, 0)) ∧ wr.heap[w.heap.size + 1]? = some (.cells #[.int .u8 c0, .int .u8 c1, .int .u8 c2, .int .u8 c3] 65 (0, 0)))
  case atStart => exact ⟨0, by omega, by omega, rfl, by rw [List.take_zero, spl_full]; exact HO.out, HK.out.mono (fun _ _ h => h.elim), HB0.out, HB1.out⟩
  case round =>
    obtain ⟨k, hk, hgg, rfl, ho, hkr, hb0, hb1⟩ := hrel
    obtain ⟨⟨a0, -⟩, ⟨a1, -⟩, a2, -⟩ := blk3 hb0
    by_cases hk4 : k < 4
    · have gk' : decide ((k : Int) < 4) = true := decide_eq_true (by omega)
      obtain ⟨z, hz⟩ : ∃ z, [c0, c1, c2, c3].getD k 0 = z := ⟨_, rfl⟩
      have xk : wr.cell? ⟨w.heap.size + 1, k, none⟩ = some (.int .u8 z) := by
        rw [blk_cell hb1, ← hz]
        match k, hk4 with
        | 0, _ | 1, _ | 2, _ | 3, _ => rfl
      have d3 := ho.at.2.2.2.1 (4 * (q + x) + k) (by omega)
      have e3 := ho.at.2.2.2.2 (4 * (q + x) + k)
      obtain ⟨V2, hV2⟩ : ∃ V2, wr.setCell ⟨g, 4 * (q + x) + k, none⟩ (.int .u8 z) = V2 := ⟨_, rfl⟩
      have ho1 : Own .u8 5 V2 (.slice (some ⟨g, 0, none⟩) (4 * M) cap) (spl p (4 * (q + x)) ([c0, c1, c2, c3].take (k + 1))) := by
        have h := ho.set (show 4 * (q + x) + k < 4 * M by omega) z
        rw [hV2] at h
        have hl : ([c0, c1, c2, c3].take k).length = k := by simp; omega
        have hs := spl_set (xs := p) (ys := [c0, c1, c2, c3].take k) (o := 4 * (q + x)) (v := z) (by rw [hl]; have := HPL.out; omega)
        rw [hl] at hs
        rw [hs] at h
        have ht : [c0, c1, c2, c3].take (k + 1) = [c0, c1, c2, c3].take k ++ [z] := by
          rw [← hz]
          match k, hk4 with
          | 0, _ | 1, _ | 2, _ | 3, _ => rfl
        rw [ht]; exact h
      have kV2 : Kept (fun i => i = g) wr V2 := by rw [← hV2]; exact (Kept.refl (fun i => i = g) _).setCell (p := ⟨g, 4 * (q + x) + k, none⟩) (.inl rfl) _
      have HO2 := Lib.hid ho1
      have HK2 := Lib.hid (hkr.then kV2)
      have HB02 := Lib.hid (kV2.blk hb0 (fun (h : w.heap.size = g) => by omega))
      have HB12 := Lib.hid (kV2.blk hb1 (fun (h : w.heap.size + 1 = g) => by omega))
      have w1 : IntKind.i64.wrap (4 * ((q : Int) + (x : Int)) + (k : Int)) = 4 * ((q : Int) + (x : Int)) + (k : Int) := IntWalk.i64_in _ (by omega)
      have t1 : (4 * ((q : Int) + (x : Int)) + (k : Int)).toNat = 4 * (q + x) + k := by omega
      have l1 : 0 ≤ 4 * ((q : Int) + (x : Int)) + (k : Int) := by omega
      have l2 : 4 * ((q : Int) + (x : Int)) + (k : Int) < 4 * (M : Int) := by omega
      have l3 : (0 : Int) ≤ (k : Int) := by omega
      have l4 : (k : Int) < 4 := by omega
      clear ho hkr hb0 hb1 ho1 kV2 hz
      go_wp2
      go_still_tail 9, (by kernel_rfl)
      clear w1 t1 l1 l2
      change wpList _ _ _ _ _ wr.drew
      go_wp2
      go_roundg (gk - 1)
      case rel => exact ⟨k + 1, by omega, by omega, by go_num, HO2.out.kept (Kept.refl (fun _ => False) _).drew (fun _ _ => id), HK2.out.drew, HB02.out, HB12.out⟩
      case measure => omega
    · obtain rfl : k = 4 := by omega
      have gk' : decide (((4 : Nat) : Int) < 4) = false := by decide
      have HO2 := Lib.hid ho
      have HK2 := Lib.hid hkr
      clear ho hkr hb0 hb1 a0 a1 a2
      go_wp2
      go_end0
      exact ⟨rfl, HO2.out, HK2.out⟩
end Go.Proofs.Ytdjgmhbfohbenaa
