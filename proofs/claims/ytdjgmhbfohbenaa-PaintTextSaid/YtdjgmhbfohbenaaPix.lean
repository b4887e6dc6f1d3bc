/- Parts of a side; is there a pixel; the pixel; a pixel put; twins. -/
import Derived.Test.YtdjgmhbfohbenaaLFits
import Derived.WalkLawsBesides
import Derived.StillTailTactics
namespace Go.Proofs.Ytdjgmhbfohbenaa
open Go.RowKit Go.Sort
set_option linter.unusedVariables false
set_option linter.unusedSimpArgs false
def partS (at' n side : Int) : Int × Int := if n < 1 ∨ side ≤ at' ∨ at' ≤ -(min n 1048576) then (0, 0) else (max at' 0, min side (at' + min n 1048576))
theorem tup2 {a b c d : Int} (h1 : a = c) (h2 : b = d) : Ending.returned (.tuple #[.int .i64 a, .int .i64 b]) = .returned (.tuple #[.int .i64 c, .int .i64 d]) := by rw [h1, h2]
theorem partS_no {at' n side : Int} (h : n < 1 ∨ side ≤ at' ∨ at' ≤ -(min n 1048576)) : partS at' n side = (0, 0) := if_pos h
theorem partS_yes {at' n side : Int} (h : ¬ (n < 1 ∨ side ≤ at' ∨ at' ≤ -(min n 1048576))) : partS at' n side = (max at' 0, min side (at' + min n 1048576)) := if_neg h
theorem partS_bd (at' n side : Int) (hs : 0 ≤ side) : 0 ≤ (partS at' n side).1 ∧ (partS at' n side).2 ≤ side ∧ 0 ≤ (partS at' n side).2 ∧ (partS at' n side).1 ≤ side := by
  unfold partS; split
  · simp; exact hs
  · simp only; omega
set_option maxRecDepth 100000 in
set_option maxHeartbeats 4000000 in
theorem part_any (at' n side : Int) (w : World) (ha : I64 at') (hn : I64 n) (hs : 0 ≤ side ∧ side ≤ 16384) :
    Calls Try.prog 62 #[.int .i64 at', .int .i64 n, .int .i64 side] w fun e w' => e = .returned (.tuple #[.int .i64 (partS at' n side).1, .int .i64 (partS at' n side).2]) ∧ w = w' := by
  unfold I64 at ha hn
  obtain ⟨a1, a2⟩ := ha
  obtain ⟨n1, n2⟩ := hn
  obtain ⟨s1, s2⟩ := hs
  by_cases h1 : n < 1
  · have g1 : decide (n < 1) = true := decide_eq_true h1
    rw [partS_no (.inl h1)]
    clear h1
    go_enter Try.func62, Try.ntmps62
    go_wp2
    go_ret2
    exact ⟨rfl, rfl⟩
  have g1 : decide (n < 1) = false := decide_eq_false h1
  by_cases h2 : side ≤ at'
  · have g2 : decide (side ≤ at') = true := decide_eq_true h2
    rw [partS_no (.inr (.inl h2))]
    clear h1 h2
    go_enter Try.func62, Try.ntmps62
    go_wp2
    go_ret2
    exact ⟨rfl, rfl⟩
  have g2 : decide (side ≤ at') = false := decide_eq_false h2
  by_cases h3 : at' ≤ -(min n 1048576)
  · rw [partS_no (.inr (.inr h3))]
    by_cases h4 : at' = -9223372036854775808
    · subst h4
      clear a1 a2
      go_enter Try.func62, Try.ntmps62
      go_wp2
      all_goals go_ret2
      all_goals have hw : wrap64 9223372036854775808 = -9223372036854775808 := by unfold wrap64; rfl
      all_goals exact ⟨tup2 (by first | rfl | omega) (by first | rfl | omega), rfl⟩
    · have a3 : -9223372036854775807 ≤ at' := by omega
      go_enter Try.func62, Try.ntmps62
      go_wp2
      all_goals go_ret2
      all_goals exact ⟨tup2 (by first | rfl | omega) (by first | rfl | omega), rfl⟩
  · rw [partS_yes (by omega)]
    have a3 : -1048576 ≤ at' := by omega
    have h5 : -(min n 1048576) < at' := by omega
    clear a1 h3
    go_enter Try.func62, Try.ntmps62
    go_wp2
    all_goals go_ret2
    all_goals exact ⟨tup2 (by first | rfl | omega) (by first | rfl | omega), rfl⟩
set_option maxRecDepth 100000 in
set_option maxHeartbeats 4000000 in
theorem span_any (at' n side : Int) (w : World) (ha : I64 at') (hn : I64 n) (hs : 0 ≤ side ∧ side ≤ 16384) :
    Calls Try.prog 53 #[.int .i64 at', .int .i64 n, .int .i64 side] w fun e w' => e = .returned (.tuple #[.int .i64 (partS at' n side).1, .int .i64 (partS at' n side).2]) ∧ w = w' := by
  unfold I64 at ha hn
  obtain ⟨a1, a2⟩ := ha
  obtain ⟨n1, n2⟩ := hn
  obtain ⟨s1, s2⟩ := hs
  by_cases h1 : n < 1
  · have g1 : decide (n < 1) = true := decide_eq_true h1
    rw [partS_no (.inl h1)]
    clear h1
    go_enter Try.func53, Try.ntmps53
    go_wp2
    go_ret2
    exact ⟨rfl, rfl⟩
  have g1 : decide (n < 1) = false := decide_eq_false h1
  by_cases h2 : side ≤ at'
  · have g2 : decide (side ≤ at') = true := decide_eq_true h2
    rw [partS_no (.inr (.inl h2))]
    clear h1 h2
    go_enter Try.func53, Try.ntmps53
    go_wp2
    go_ret2
    exact ⟨rfl, rfl⟩
  have g2 : decide (side ≤ at') = false := decide_eq_false h2
  by_cases h3 : at' ≤ -(min n 1048576)
  · rw [partS_no (.inr (.inr h3))]
    by_cases h4 : at' = -9223372036854775808
    · subst h4
      clear a1 a2
      go_enter Try.func53, Try.ntmps53
      go_wp2
      all_goals go_ret2
      all_goals exact ⟨tup2 (by first | rfl | omega) (by first | rfl | omega), rfl⟩
    · have a3 : -9223372036854775807 ≤ at' := by omega
      go_enter Try.func53, Try.ntmps53
      go_wp2
      all_goals go_ret2
      all_goals exact ⟨tup2 (by first | rfl | omega) (by first | rfl | omega), rfl⟩
  · rw [partS_yes (by omega)]
    have a3 : -1048576 ≤ at' := by omega
    have h5 : -(min n 1048576) < at' := by omega
    clear a1 h3
    go_enter Try.func53, Try.ntmps53
    go_wp2
    all_goals go_ret2
    all_goals exact ⟨tup2 (by first | rfl | omega) (by first | rfl | omega), rfl⟩
theorem blk4 {w : World} {b : Nat} {x y z u : Value} {t : TypeId} (h : w.heap[b]? = some (.cells #[x, y, z, u] t (0, 0))) :
    (w.cell? ⟨b, 0, none⟩ = some x ∧ w.frozen? ⟨b, 0, none⟩ = false) ∧ (w.cell? ⟨b, 1, none⟩ = some y ∧ w.frozen? ⟨b, 1, none⟩ = false) ∧ (w.cell? ⟨b, 2, none⟩ = some z ∧ w.frozen? ⟨b, 2, none⟩ = false) ∧ (w.cell? ⟨b, 3, none⟩ = some u ∧ w.frozen? ⟨b, 3, none⟩ = false) :=
  ⟨⟨blk_cell h 0, blk_free h 0⟩, ⟨blk_cell h 1, blk_free h 1⟩, ⟨blk_cell h 2, blk_free h 2⟩, blk_cell h 3, blk_free h 3⟩
theorem store4 {w : World} {p : Nat} {x' y' z' u' : Value} {T : TypeId} (h : w.heap[p]? = some (.cells #[x', y', z', u'] T (0, 0))) (x y z u : Value) :
    ∃ V1 V2 V3 V4, w.setCell ⟨p, 0, none⟩ x = V1 ∧ V1.setCell ⟨p, 1, none⟩ y = V2 ∧ V2.setCell ⟨p, 2, none⟩ z = V3 ∧ V3.setCell ⟨p, 3, none⟩ u = V4 ∧ (w.cell? ⟨p, 0, none⟩ = some x' ∧ w.frozen? ⟨p, 0, none⟩ = false) ∧ (V1.cell? ⟨p, 1, none⟩ = some y' ∧ V1.frozen? ⟨p, 1, none⟩ = false) ∧
      (V2.cell? ⟨p, 2, none⟩ = some z' ∧ V2.frozen? ⟨p, 2, none⟩ = false) ∧ (V3.cell? ⟨p, 3, none⟩ = some u' ∧ V3.frozen? ⟨p, 3, none⟩ = false) ∧ V4.heap[p]? = some (.cells #[x, y, z, u] T (0, 0)) ∧ Kept (· = p) w V4 := by
  refine ⟨_, _, _, _, rfl, rfl, rfl, rfl, ⟨blk_cell h 0, blk_free h 0⟩, ⟨?_, ?_⟩, ⟨?_, ?_⟩, ⟨?_, ?_⟩, ?_, ?_⟩
  · exact blk_cell (blk_set h 0 _) 1
  · exact blk_free (blk_set h 0 _) 1
  · exact blk_cell (blk_set (blk_set h 0 _) 1 _) 2
  · exact blk_free (blk_set (blk_set h 0 _) 1 _) 2
  · exact blk_cell (blk_set (blk_set (blk_set h 0 _) 1 _) 2 _) 3
  · exact blk_free (blk_set (blk_set (blk_set h 0 _) 1 _) 2 _) 3
  · exact blk_set (blk_set (blk_set (blk_set h 0 _) 1 _) 2 _) 3 _
  · exact ((((Kept.refl (fun i => i = p) w).setCell (p := ⟨p, 0, none⟩) (.inl rfl) x).setCell (p := ⟨p, 1, none⟩) (.inl rfl) y).setCell (p := ⟨p, 2, none⟩) (.inl rfl) z).setCell (p := ⟨p, 3, none⟩) (.inl rfl) u
/-- The bytes of pixel number P. -/
def pixV (p : List Int) (P : Nat) : Value := .agg #[.int .u8 (p.getD (4 * P) 0), .int .u8 (p.getD (4 * P + 1) 0), .int .u8 (p.getD (4 * P + 2) 0), .int .u8 (p.getD (4 * P + 3) 0)]
set_option maxRecDepth 100000 in
set_option maxHeartbeats 4000000 in
theorem at_any (W H x y : Nat) (p : List Int) (a : Option Addr) (n cap : Nat) (w : World) (hx : x < W) (hy : y < H) (hb : W * H ≤ 67108864) (hn : n = 4 * (W * H)) (hs : SlAt .u8 w a n p) (hc : n ≤ cap) (hcm : cap ≤ 9223372036854775807) (hW : W ≤ 16384) (hH : H ≤ 16384) :
    Calls Try.prog 58 #[.agg #[.int .i64 W, .int .i64 H, .slice a n cap], .int .i64 x, .int .i64 y] w fun e w' => e = .returned (pixV p (y * W + x)) ∧ Kept (fun _ => False) w w' := by
  have hub := ub_of hs
  have hP := fit_idx hx hy
  have n1 : y * W ≤ 16384 * 16384 := Nat.mul_le_mul (by omega) (by omega)
  obtain ⟨M, hM⟩ : ∃ M, W * H = M := ⟨_, rfl⟩
  rw [hM] at hP hb hn
  obtain ⟨q, hq⟩ : ∃ q, y * W = q := ⟨_, rfl⟩
  rw [hq] at hP n1 ⊢
  subst hn
  obtain ⟨b, off, rfl, hcell⟩ := hs.2.resolve_left (by omega)
  have hbw := hub b off (by omega) rfl
  obtain ⟨V, hV⟩ : ∃ V, (w.alloc (.cells #[.int .i64 W, .int .i64 H, .slice (some ⟨b, off, none⟩) (4 * M) cap] 31)).alloc (.cells #[.int .u8 0, .int .u8 0, .int .u8 0, .int .u8 0] 66) = V := ⟨_, rfl⟩
  have kV : Kept (fun _ => False) w V := by rw [← hV]; exact ((Kept.refl _ w).alloc _).alloc _
  have b0 : V.heap[w.heap.size]? = some (.cells #[.int .i64 W, .int .i64 H, .slice (some ⟨b, off, none⟩) (4 * M) cap] 31 (0, 0)) := by rw [← hV]; exact blk_alloc (blk_new _ _) _
  have b1 : V.heap[w.heap.size + 1]? = some (.cells #[.int .u8 0, .int .u8 0, .int .u8 0, .int .u8 0] 66 (0, 0)) := by rw [← hV]; exact blk_at _ _ (by simp)
  have x0 := kV.cell (hcell (4 * (q + x)) (by omega)) id
  have x1 : V.cell? ⟨b, off + 4 * (q + x) + 1, none⟩ = some (.int .u8 (p.getD (4 * (q + x) + 1) 0)) := by rw [Nat.add_assoc]; exact kV.cell (hcell (4 * (q + x) + 1) (by omega)) id
  have x2 : V.cell? ⟨b, off + 4 * (q + x) + 2, none⟩ = some (.int .u8 (p.getD (4 * (q + x) + 2) 0)) := by rw [Nat.add_assoc]; exact kV.cell (hcell (4 * (q + x) + 2) (by omega)) id
  have x3 : V.cell? ⟨b, off + 4 * (q + x) + 3, none⟩ = some (.int .u8 (p.getD (4 * (q + x) + 3) 0)) := by rw [Nat.add_assoc]; exact kV.cell (hcell (4 * (q + x) + 3) (by omega)) id
  obtain ⟨⟨c0, -⟩, ⟨c1, -⟩, c2, -⟩ := blk3 b0
  have HB1 := Lib.hid b1
  have HK := Lib.hid kV
  have v1 : (y : Int) * (W : Int) = (q : Int) := by rw [← hq]; simp
  have l8 : (q : Int) + (x : Int) ≤ (M : Int) := by omega
  have hcap : ¬ (cap = 4 * (q + x)) := by omega
  have t1 : (4 * ((q : Int) + (x : Int))).toNat = 4 * (q + x) := by omega
  have ra : ∀ w, (Instr.arrayAt 66 (.slice (some ⟨b, off + 4 * (q + x), none⟩) (4 * M - 4 * (q + x)) (cap - 4 * (q + x)))).run Try.prog w = .ok (.pointer (some ⟨b, off + 4 * (q + x), none⟩)) w := fun w => run_arrayAt w 66 5 4 _ _ _ Try.underlying66 (by omega)
  obtain ⟨⟨d0, e0⟩, ⟨d1, e1⟩, ⟨d2, e2⟩, d3, e3⟩ := blk4 b1
  obtain ⟨y0, hy0⟩ : ∃ z, p.getD (4 * (q + x)) 0 = z := ⟨_, rfl⟩
  obtain ⟨y1, hy1⟩ : ∃ z, p.getD (4 * (q + x) + 1) 0 = z := ⟨_, rfl⟩
  obtain ⟨y2, hy2⟩ : ∃ z, p.getD (4 * (q + x) + 2) 0 = z := ⟨_, rfl⟩
  obtain ⟨y3, hy3⟩ : ∃ z, p.getD (4 * (q + x) + 3) 0 = z := ⟨_, rfl⟩
  rw [hy0] at x0
  rw [hy1] at x1
  rw [hy2] at x2
  rw [hy3] at x3
  obtain ⟨V1, V2, V3, V4, f1, f2, f3, f4, ⟨g0, g0'⟩, ⟨g1, g1'⟩, ⟨g2, g2'⟩, ⟨g3, g3'⟩, bV, kV4⟩ := store4 b1 (.int .u8 y0) (.int .u8 y1) (.int .u8 y2) (.int .u8 y3)
  obtain ⟨⟨m0, -⟩, ⟨m1, -⟩, ⟨m2, -⟩, m3, -⟩ := blk4 bV
  have HKV := Lib.hid (HK.out.trans (kV4.mono fun i _ hi => Or.inr (by have h9 : i = w.heap.size + 1 := hi; omega)))
  unfold pixV
  rw [hy0, hy1, hy2, hy3]
  clear b0 b1 kV hcell hs hub hM hq kV4 bV hy0 hy1 hy2 hy3
  go_enter Try.func58, Try.ntmps58
  go_wp2
  exact bodyPost_ret (v := .agg #[.int .u8 y0, .int .u8 y1, .int .u8 y2, .int .u8 y3]) (by simp [results, Try.results58, go_sem, m0, m1, m2, m3]) rfl ⟨rfl, HKV.out⟩
end Go.Proofs.Ytdjgmhbfohbenaa
