/- The first registers. -/
import Derived.Test.YtomcjdonacckfaaCols
import Derived.Deep.MidRow
namespace Go.Proofs.Ytomcjdonacckfaa
open Go.RowKit
set_option linter.unusedVariables false
set_option linter.unusedSimpArgs false
theorem setCells_lay (w : World) (t : TypeId) : ∀ (vs pre c0 : List Value), vs.length = c0.length → (w.alloc (.cells (pre ++ c0).toArray t (0, 0))).setCells w.heap.size pre.length vs = w.alloc (.cells (pre ++ vs).toArray t (0, 0))
  | [], pre, c0, h => by
    have : c0 = [] := by simpa using h.symm
    subst this; rfl
  | v :: r, pre, [], h => by simp at h
  | v :: r, pre, z :: c0, h => by
    rw [World.setCells, World.setCell_alloc_at _ _ _ _ _ rfl]
    have h1 := setCells_lay w t r (pre ++ [v]) c0 (by simpa using h)
    simp only [List.append_assoc, List.cons_append, List.nil_append, List.length_append, List.length_cons, List.length_nil] at h1
    rw [← h1]
    congr 4
    simp
/-- An array or a struct laid whole into a block just made. -/
theorem lay_store (P : Program) (ty : TypeId) (cs : Array Value) (w : World) (b : Nat) (c0 : Array Value) (hb : b = w.heap.size) (h0 : c0.size = cs.size) (hi : (P.info? ty).map (·.size) = some cs.size) (h1 : cs.all (·.oneCell') = true) :
    (Instr.storeAt ty (.pointer (some ⟨b, 0, none⟩)) (.agg cs)).run P (w.alloc (.cells c0 ty (0, 0))) = .ok () (w.alloc (.cells cs ty (0, 0))) := by
  subst hb
  rw [run_storeAt_mid (w.alloc (.cells c0 ty (0, 0))) w.heap.size 0 ty cs ?_ hi h1]
  · have := setCells_lay w ty cs.toList [] c0.toList (by simpa using h0.symm)
    simpa using this
  · intro j hj
    have h := blk_new w (.cells c0 ty (0, 0))
    rw [Nat.zero_add, blk_cell h j, blk_free h j]
    simp; omega
def tri (a b c : Int) : Value := .agg #[.int .u8 a, .int .u8 b, .int .u8 c]
def firsts : List Int := [0, 0, 0, 20, 20, 80, 80, 13, 13, 20, 80, 20, 80, 20, 80, 20, 80, 80, 80, 80, 20, 53, 53, 53, 26, 26, 26, 33, 33, 60, 60, 26, 26, 33, 60, 33, 60, 33, 60, 33, 60, 60, 60, 60, 33, 80, 80, 80]
/-- The block of the table. -/
def tabC : Array Value := (firsts.map (Value.int .i64)).toArray
theorem tab_store (w : World) (b : Nat) (c0 : Array Value) (hb : b = w.heap.size) (h0 : c0.size = 48) :
    (Instr.storeAt 69 (.pointer (some ⟨b, 0, none⟩)) (.agg #[.int .i64 0, .int .i64 0, .int .i64 0, .int .i64 20, .int .i64 20, .int .i64 80, .int .i64 80, .int .i64 13, .int .i64 13, .int .i64 20, .int .i64 80, .int .i64 20, .int .i64 80, .int .i64 20, .int .i64 80, .int .i64 20, .int .i64 80, .int .i64 80, .int .i64 80, .int .i64 80, .int .i64 20, .int .i64 53, .int .i64 53, .int .i64 53, .int .i64 26, .int .i64 26, .int .i64 26, .int .i64 33, .int .i64 33, .int .i64 60, .int .i64 60, .int .i64 26, .int .i64 26, .int .i64 33, .int .i64 60, .int .i64 33, .int .i64 60, .int .i64 33, .int .i64 60, .int .i64 33, .int .i64 60, .int .i64 60, .int .i64 60, .int .i64 60, .int .i64 33, .int .i64 80, .int .i64 80, .int .i64 80])).run Try.prog (w.alloc (.cells c0 69 (0, 0))) = .ok () (w.alloc (.cells tabC 69 (0, 0))) :=
  lay_store Try.prog 69 tabC w b c0 hb h0 (by kernel_rfl) (by kernel_rfl)
theorem storeAt_low (P : Program) (ty : TypeId) (x v : Value) (w : World) : (Instr.storeAt ty x v).run P w = (Instr.sureAddr x >>= fun a => storeVar ty a v).run P w := rfl
attribute [-go_sem] Go.Instr.storeAt
attribute [local go_sem low] storeAt_low
attribute [local go_sem] tab_store
def first (n : Int) : Value := if 0 ≤ n ∧ n < 16 then tri (pct (firsts.getD (3 * n.toNat) 0)) (pct (firsts.getD (3 * n.toNat + 1) 0)) (pct (firsts.getD (3 * n.toNat + 2) 0)) else tri 0 0 0
set_option maxRecDepth 100000 in
set_option maxHeartbeats 4000000 in
theorem first_low (n : Int) (w : World) (h1 : n < 0) : Calls Try.prog 15 #[.int .i64 n] w fun e w' => e = .returned (tri 0 0 0) ∧ Kept (fun _ => False) w w' := by
  have g1 : decide (n < 0) = true := decide_eq_true h1
  go_enter Try.func15, Try.ntmps15
  go_wp2
  refine bodyPost_ret (v := tri 0 0 0) (by simp [results, Try.results15, go_sem, tri]) rfl ⟨rfl, ?_⟩
  exact Kept.alloc (Kept.alloc (Kept.alloc (Kept.refl _ _) _) _) _
set_option maxRecDepth 100000 in
set_option maxHeartbeats 4000000 in
theorem first_in (n : Nat) (w : World) (h1 : n < 16) (a b c : Int) (ha : firsts.getD (3 * n) 0 = a) (hb : firsts.getD (3 * n + 1) 0 = b) (hc : firsts.getD (3 * n + 2) 0 = c) : Calls Try.prog 15 #[.int .i64 n] w fun e w' => e = .returned (tri (pct a) (pct b) (pct c)) ∧ Kept (fun _ => False) w w' := by
  have g1 : decide ((n : Int) < 0) = false := decide_eq_false (by omega)
  have g2 : decide ((16 : Int) ≤ (n : Int)) = false := decide_eq_false (by omega)
  obtain ⟨W, hW⟩ : ∃ W, ((w.alloc (.cells #[.int .u8 0, .int .u8 0, .int .u8 0] 23)).alloc (.cells tabC 69)).alloc (.cells #[.int .u8 0, .int .u8 0, .int .u8 0] 23) = W := ⟨_, rfl⟩
  have hT : W.heap[w.heap.size + 1]? = some (.cells tabC 69 (0, 0)) := by rw [← hW]; exact blk_alloc (blk_at _ _ (by simp)) _
  have hR : W.heap[w.heap.size + 1 + 1]? = some (.cells #[.int .u8 0, .int .u8 0, .int .u8 0] 23 (0, 0)) := by rw [← hW]; exact blk_at _ _ (by simp)
  have hO : W.heap[w.heap.size]? = some (.cells #[.int .u8 0, .int .u8 0, .int .u8 0] 23 (0, 0)) := by rw [← hW]; exact blk_alloc (blk_alloc (blk_at _ _ rfl) _) _
  have ht : ∀ j k : Nat, j < 3 → k = n * 3 + j → W.cell? ⟨w.heap.size + 1, k, none⟩ = some (.int .i64 (firsts.getD (3 * n + j) 0)) := by
    rintro j k hj rfl
    rw [blk_cell hT, show n * 3 + j = 3 * n + j by omega]
    have : 3 * n + j < firsts.length := by show _ < 48; omega
    simp [tabC, this]
  have t0 : W.cell? ⟨w.heap.size + 1, n * 3, none⟩ = some (.int .i64 a) := (ht 0 _ (by omega) rfl).trans (by rw [← ha]; rfl)
  have t1 : W.cell? ⟨w.heap.size + 1, n * 3 + 1, none⟩ = some (.int .i64 b) := (ht 1 _ (by omega) rfl).trans (by rw [← hb])
  have t2 : W.cell? ⟨w.heap.size + 1, n * 3 + 2, none⟩ = some (.int .i64 c) := (ht 2 _ (by omega) rfl).trans (by rw [← hc])
  have hk : Kept (fun _ => False) w W := by rw [← hW]; exact Kept.alloc (Kept.alloc (Kept.alloc (Kept.refl _ _) _) _) _
  have HW := Lib.hid hT
  clear hT ht
  obtain ⟨r0, f0⟩ := (blk3 hR).1
  obtain ⟨V1, hV1⟩ : ∃ V, W.setCell ⟨w.heap.size + 1 + 1, 0, none⟩ (.int .u8 (pct a)) = V := ⟨_, rfl⟩
  have hR1 : V1.heap[w.heap.size + 1 + 1]? = some (.cells #[.int .u8 (pct a), .int .u8 0, .int .u8 0] 23 (0, 0)) := by rw [← hV1]; exact blk_set hR 0 _
  obtain ⟨r1, f1⟩ := (blk3 hR1).2.1
  obtain ⟨V2, hV2⟩ : ∃ V, V1.setCell ⟨w.heap.size + 1 + 1, 1, none⟩ (.int .u8 (pct b)) = V := ⟨_, rfl⟩
  have hR2 : V2.heap[w.heap.size + 1 + 1]? = some (.cells #[.int .u8 (pct a), .int .u8 (pct b), .int .u8 0] 23 (0, 0)) := by rw [← hV2]; exact blk_set hR1 1 _
  obtain ⟨r2, f2⟩ := (blk3 hR2).2.2
  have u1 : V1.cell? ⟨w.heap.size + 1, n * 3 + 1, none⟩ = some (.int .i64 b) := by rw [← hV1]; exact cell_set_other t1 (by show w.heap.size + 1 ≠ w.heap.size + 1 + 1; omega) _
  have u2 : V2.cell? ⟨w.heap.size + 1, n * 3 + 2, none⟩ = some (.int .i64 c) := by rw [← hV2, ← hV1]; exact cell_set_other (cell_set_other t2 (by show w.heap.size + 1 ≠ w.heap.size + 1 + 1; omega) _) (by show w.heap.size + 1 ≠ w.heap.size + 1 + 1; omega) _
  obtain ⟨V3, hV3⟩ : ∃ V, V2.setCell ⟨w.heap.size + 1 + 1, 2, none⟩ (.int .u8 (pct c)) = V := ⟨_, rfl⟩
  have hR3 : V3.heap[w.heap.size + 1 + 1]? = some (.cells #[.int .u8 (pct a), .int .u8 (pct b), .int .u8 (pct c)] 23 (0, 0)) := by rw [← hV3]; exact blk_set hR2 2 _
  obtain ⟨⟨s0, -⟩, ⟨s1, -⟩, s2, -⟩ := blk3 hR3
  have hO3 : V3.heap[w.heap.size]? = some (.cells #[.int .u8 0, .int .u8 0, .int .u8 0] 23 (0, 0)) := by
    rw [← hV3, ← hV2, ← hV1]
    exact blk_set_other (blk_set_other (blk_set_other hO (by show w.heap.size ≠ w.heap.size + 1 + 1; omega) _) (by show w.heap.size ≠ w.heap.size + 1 + 1; omega) _) (by show w.heap.size ≠ w.heap.size + 1 + 1; omega) _
  have hk3 : Kept (fun _ => False) w V3 := by
    rw [← hV3, ← hV2, ← hV1]
    exact ((hk.setCell (Or.inr (by show w.heap.size ≤ w.heap.size + 1 + 1; omega)) _).setCell (Or.inr (by show w.heap.size ≤ w.heap.size + 1 + 1; omega)) _).setCell (Or.inr (by show w.heap.size ≤ w.heap.size + 1 + 1; omega)) _
  obtain ⟨V4, hV4⟩ : ∃ V, V3.setCell ⟨w.heap.size, 0, none⟩ (.int .u8 (pct a)) = V := ⟨_, rfl⟩
  have hO4 : V4.heap[w.heap.size]? = some (.cells #[.int .u8 (pct a), .int .u8 0, .int .u8 0] 23 (0, 0)) := by rw [← hV4]; exact blk_set hO3 0 _
  obtain ⟨V5, hV5⟩ : ∃ V, V4.setCell ⟨w.heap.size, 1, none⟩ (.int .u8 (pct b)) = V := ⟨_, rfl⟩
  have hO5 : V5.heap[w.heap.size]? = some (.cells #[.int .u8 (pct a), .int .u8 (pct b), .int .u8 0] 23 (0, 0)) := by rw [← hV5]; exact blk_set hO4 1 _
  obtain ⟨V6, hV6⟩ : ∃ V, V5.setCell ⟨w.heap.size, 2, none⟩ (.int .u8 (pct c)) = V := ⟨_, rfl⟩
  have hO6 : V6.heap[w.heap.size]? = some (.cells #[.int .u8 (pct a), .int .u8 (pct b), .int .u8 (pct c)] 23 (0, 0)) := by rw [← hV6]; exact blk_set hO5 2 _
  have hk6 : Kept (fun _ => False) w V6 := by
    rw [← hV6, ← hV5, ← hV4]
    exact ((hk3.setCell (Or.inr (Nat.le_refl _)) _).setCell (Or.inr (Nat.le_refl _)) _).setCell (Or.inr (Nat.le_refl _)) _
  obtain ⟨⟨p0, q0⟩, -, -⟩ := blk3 hO3
  obtain ⟨-, ⟨p1, q1⟩, -⟩ := blk3 hO4
  obtain ⟨-, -, p2, q2⟩ := blk3 hO5
  obtain ⟨⟨z0, -⟩, ⟨z1, -⟩, z2, -⟩ := blk3 hO6
  have HR := Lib.hid (And.intro hR (And.intro hO (And.intro hR1 (And.intro hR2 (And.intro hR3 (And.intro hO3 (And.intro hO4 (And.intro hO5 (And.intro hO6 hk3)))))))))
  have HK := Lib.hid hk6
  clear hR hO hR1 hR2 hR3 hO3 hO4 hO5 hO6 hk3 hk hk6
  have i0 : ∀ w, (Instr.index 66 (.agg #[.int .i64 a, .int .i64 b, .int .i64 c]) (.int .i64 0)).run Try.prog w = .ok (.int .i64 a) w := fun _ => by kernel_rfl
  have i1 : ∀ w, (Instr.index 66 (.agg #[.int .i64 a, .int .i64 b, .int .i64 c]) (.int .i64 1)).run Try.prog w = .ok (.int .i64 b) w := fun _ => by kernel_rfl
  have i2 : ∀ w, (Instr.index 66 (.agg #[.int .i64 a, .int .i64 b, .int .i64 c]) (.int .i64 2)).run Try.prog w = .ok (.int .i64 c) w := fun _ => by kernel_rfl
  go_enter Try.func15, Try.ntmps15
  go_wp2
  refine wp_loop_rounds 4 ?_
  rw [rounds_succ]
  go_wp2_with fail
  refine (percent_any a _).mono ?_; rintro e w1 ⟨rfl, rfl⟩
  go_wp2_with fail
  rw [rounds_succ]
  go_wp2_with fail
  refine (percent_any b _).mono ?_; rintro e w1 ⟨rfl, rfl⟩
  go_wp2_with fail
  rw [rounds_succ]
  go_wp2_with fail
  refine (percent_any c _).mono ?_; rintro e w1 ⟨rfl, rfl⟩
  go_wp2_with fail
  rw [rounds_succ]
  go_wp2
  refine bodyPost_ret (v := tri (pct a) (pct b) (pct c)) (by simp [results, Try.results15, go_sem, tri, z0, z1, z2]) rfl ⟨rfl, HK.out⟩

set_option maxRecDepth 100000 in
set_option maxHeartbeats 4000000 in
theorem first_high (n : Int) (w : World) (h1 : 16 ≤ n) : Calls Try.prog 15 #[.int .i64 n] w fun e w' => e = .returned (tri 0 0 0) ∧ Kept (fun _ => False) w w' := by
  have g1 : decide (n < 0) = false := decide_eq_false (by omega)
  have g2 : decide (16 ≤ n) = true := decide_eq_true (by omega)
  go_enter Try.func15, Try.ntmps15
  go_wp2
  refine bodyPost_ret (v := tri 0 0 0) (by simp [results, Try.results15, go_sem, tri]) rfl ⟨rfl, ?_⟩
  exact Kept.alloc (Kept.alloc (Kept.alloc (Kept.refl _ _) _) _) _
theorem first_any (n : Int) (w : World) : Calls Try.prog 15 #[.int .i64 n] w fun e w' => e = .returned (first n) ∧ Kept (fun _ => False) w w' := by
  unfold first
  by_cases h1 : n < 0
  · rw [if_neg (by omega)]; exact first_low n w h1
  by_cases h2 : 16 ≤ n
  · rw [if_neg (by omega)]; exact first_high n w h2
  rw [if_pos (by omega)]
  obtain ⟨k, rfl⟩ : ∃ k : Nat, n = k := ⟨n.toNat, by omega⟩
  exact first_in k w (by omega) _ _ _ rfl rfl rfl
set_option maxRecDepth 100000 in
set_option maxHeartbeats 4000000 in
theorem rfirst_low (n : Int) (w : World) (h1 : n < 0) : Calls Try.prog 16 #[.int .i64 n] w fun e w' => e = .returned (tri 0 0 0) ∧ Kept (fun _ => False) w w' := by
  have g1 : decide (n < 0) = true := decide_eq_true h1
  go_enter Try.func16, Try.ntmps16
  go_wp2
  refine bodyPost_ret (v := tri 0 0 0) (by simp [results, Try.results16, go_sem, tri]) rfl ⟨rfl, ?_⟩
  exact Kept.alloc (Kept.alloc (Kept.alloc (Kept.refl _ _) _) _) _
set_option maxRecDepth 100000 in
set_option maxHeartbeats 4000000 in
theorem rfirst_in (n : Nat) (w : World) (h1 : n < 16) (a b c : Int) (ha : firsts.getD (3 * n) 0 = a) (hb : firsts.getD (3 * n + 1) 0 = b) (hc : firsts.getD (3 * n + 2) 0 = c) : Calls Try.prog 16 #[.int .i64 n] w fun e w' => e = .returned (tri (pct a) (pct b) (pct c)) ∧ Kept (fun _ => False) w w' := by
  have g1 : decide ((n : Int) < 0) = false := decide_eq_false (by omega)
  have g2 : decide ((15 : Int) < (n : Int)) = false := decide_eq_false (by omega)
  obtain ⟨W, hW⟩ : ∃ W, ((w.alloc (.cells #[.int .u8 0, .int .u8 0, .int .u8 0] 23)).alloc (.cells tabC 69)).alloc (.cells #[.int .u8 0, .int .u8 0, .int .u8 0] 23) = W := ⟨_, rfl⟩
  have hT : W.heap[w.heap.size + 1]? = some (.cells tabC 69 (0, 0)) := by rw [← hW]; exact blk_alloc (blk_at _ _ (by simp)) _
  have hR : W.heap[w.heap.size + 1 + 1]? = some (.cells #[.int .u8 0, .int .u8 0, .int .u8 0] 23 (0, 0)) := by rw [← hW]; exact blk_at _ _ (by simp)
  have hO : W.heap[w.heap.size]? = some (.cells #[.int .u8 0, .int .u8 0, .int .u8 0] 23 (0, 0)) := by rw [← hW]; exact blk_alloc (blk_alloc (blk_at _ _ rfl) _) _
  have ht : ∀ j k : Nat, j < 3 → k = n * 3 + j → W.cell? ⟨w.heap.size + 1, k, none⟩ = some (.int .i64 (firsts.getD (3 * n + j) 0)) := by
    rintro j k hj rfl
    rw [blk_cell hT, show n * 3 + j = 3 * n + j by omega]
    have : 3 * n + j < firsts.length := by show _ < 48; omega
    simp [tabC, this]
  have t0 : W.cell? ⟨w.heap.size + 1, n * 3, none⟩ = some (.int .i64 a) := (ht 0 _ (by omega) rfl).trans (by rw [← ha]; rfl)
  have t1 : W.cell? ⟨w.heap.size + 1, n * 3 + 1, none⟩ = some (.int .i64 b) := (ht 1 _ (by omega) rfl).trans (by rw [← hb])
  have t2 : W.cell? ⟨w.heap.size + 1, n * 3 + 2, none⟩ = some (.int .i64 c) := (ht 2 _ (by omega) rfl).trans (by rw [← hc])
  have hk : Kept (fun _ => False) w W := by rw [← hW]; exact Kept.alloc (Kept.alloc (Kept.alloc (Kept.refl _ _) _) _) _
  have HW := Lib.hid hT
  clear hT ht
  obtain ⟨r0, f0⟩ := (blk3 hR).1
  obtain ⟨V1, hV1⟩ : ∃ V, W.setCell ⟨w.heap.size + 1 + 1, 0, none⟩ (.int .u8 (pct a)) = V := ⟨_, rfl⟩
  have hR1 : V1.heap[w.heap.size + 1 + 1]? = some (.cells #[.int .u8 (pct a), .int .u8 0, .int .u8 0] 23 (0, 0)) := by rw [← hV1]; exact blk_set hR 0 _
  obtain ⟨r1, f1⟩ := (blk3 hR1).2.1
  obtain ⟨V2, hV2⟩ : ∃ V, V1.setCell ⟨w.heap.size + 1 + 1, 1, none⟩ (.int .u8 (pct b)) = V := ⟨_, rfl⟩
  have hR2 : V2.heap[w.heap.size + 1 + 1]? = some (.cells #[.int .u8 (pct a), .int .u8 (pct b), .int .u8 0] 23 (0, 0)) := by rw [← hV2]; exact blk_set hR1 1 _
  obtain ⟨r2, f2⟩ := (blk3 hR2).2.2
  have u1 : V1.cell? ⟨w.heap.size + 1, n * 3 + 1, none⟩ = some (.int .i64 b) := by rw [← hV1]; exact cell_set_other t1 (by show w.heap.size + 1 ≠ w.heap.size + 1 + 1; omega) _
  have u2 : V2.cell? ⟨w.heap.size + 1, n * 3 + 2, none⟩ = some (.int .i64 c) := by rw [← hV2, ← hV1]; exact cell_set_other (cell_set_other t2 (by show w.heap.size + 1 ≠ w.heap.size + 1 + 1; omega) _) (by show w.heap.size + 1 ≠ w.heap.size + 1 + 1; omega) _
  obtain ⟨V3, hV3⟩ : ∃ V, V2.setCell ⟨w.heap.size + 1 + 1, 2, none⟩ (.int .u8 (pct c)) = V := ⟨_, rfl⟩
  have hR3 : V3.heap[w.heap.size + 1 + 1]? = some (.cells #[.int .u8 (pct a), .int .u8 (pct b), .int .u8 (pct c)] 23 (0, 0)) := by rw [← hV3]; exact blk_set hR2 2 _
  obtain ⟨⟨s0, -⟩, ⟨s1, -⟩, s2, -⟩ := blk3 hR3
  have hO3 : V3.heap[w.heap.size]? = some (.cells #[.int .u8 0, .int .u8 0, .int .u8 0] 23 (0, 0)) := by
    rw [← hV3, ← hV2, ← hV1]
    exact blk_set_other (blk_set_other (blk_set_other hO (by show w.heap.size ≠ w.heap.size + 1 + 1; omega) _) (by show w.heap.size ≠ w.heap.size + 1 + 1; omega) _) (by show w.heap.size ≠ w.heap.size + 1 + 1; omega) _
  have hk3 : Kept (fun _ => False) w V3 := by
    rw [← hV3, ← hV2, ← hV1]
    exact ((hk.setCell (Or.inr (by show w.heap.size ≤ w.heap.size + 1 + 1; omega)) _).setCell (Or.inr (by show w.heap.size ≤ w.heap.size + 1 + 1; omega)) _).setCell (Or.inr (by show w.heap.size ≤ w.heap.size + 1 + 1; omega)) _
  obtain ⟨V4, hV4⟩ : ∃ V, V3.setCell ⟨w.heap.size, 0, none⟩ (.int .u8 (pct a)) = V := ⟨_, rfl⟩
  have hO4 : V4.heap[w.heap.size]? = some (.cells #[.int .u8 (pct a), .int .u8 0, .int .u8 0] 23 (0, 0)) := by rw [← hV4]; exact blk_set hO3 0 _
  obtain ⟨V5, hV5⟩ : ∃ V, V4.setCell ⟨w.heap.size, 1, none⟩ (.int .u8 (pct b)) = V := ⟨_, rfl⟩
  have hO5 : V5.heap[w.heap.size]? = some (.cells #[.int .u8 (pct a), .int .u8 (pct b), .int .u8 0] 23 (0, 0)) := by rw [← hV5]; exact blk_set hO4 1 _
  obtain ⟨V6, hV6⟩ : ∃ V, V5.setCell ⟨w.heap.size, 2, none⟩ (.int .u8 (pct c)) = V := ⟨_, rfl⟩
  have hO6 : V6.heap[w.heap.size]? = some (.cells #[.int .u8 (pct a), .int .u8 (pct b), .int .u8 (pct c)] 23 (0, 0)) := by rw [← hV6]; exact blk_set hO5 2 _
  have hk6 : Kept (fun _ => False) w V6 := by
    rw [← hV6, ← hV5, ← hV4]
    exact ((hk3.setCell (Or.inr (Nat.le_refl _)) _).setCell (Or.inr (Nat.le_refl _)) _).setCell (Or.inr (Nat.le_refl _)) _
  obtain ⟨⟨p0, q0⟩, -, -⟩ := blk3 hO3
  obtain ⟨-, ⟨p1, q1⟩, -⟩ := blk3 hO4
  obtain ⟨-, -, p2, q2⟩ := blk3 hO5
  obtain ⟨⟨z0, -⟩, ⟨z1, -⟩, z2, -⟩ := blk3 hO6
  have HR := Lib.hid (And.intro hR (And.intro hO (And.intro hR1 (And.intro hR2 (And.intro hR3 (And.intro hO3 (And.intro hO4 (And.intro hO5 (And.intro hO6 hk3)))))))))
  have HK := Lib.hid hk6
  clear hR hO hR1 hR2 hR3 hO3 hO4 hO5 hO6 hk3 hk hk6
  have i0 : ∀ w, (Instr.index 66 (.agg #[.int .i64 a, .int .i64 b, .int .i64 c]) (.int .i64 0)).run Try.prog w = .ok (.int .i64 a) w := fun _ => by kernel_rfl
  have i1 : ∀ w, (Instr.index 66 (.agg #[.int .i64 a, .int .i64 b, .int .i64 c]) (.int .i64 1)).run Try.prog w = .ok (.int .i64 b) w := fun _ => by kernel_rfl
  have i2 : ∀ w, (Instr.index 66 (.agg #[.int .i64 a, .int .i64 b, .int .i64 c]) (.int .i64 2)).run Try.prog w = .ok (.int .i64 c) w := fun _ => by kernel_rfl
  go_enter Try.func16, Try.ntmps16
  go_wp2
  refine wp_loop_rounds 4 ?_
  rw [rounds_succ]
  go_wp2_with fail
  refine (rpercent_any a _).mono ?_; rintro e w1 ⟨rfl, rfl⟩
  go_wp2_with fail
  rw [rounds_succ]
  go_wp2_with fail
  refine (rpercent_any b _).mono ?_; rintro e w1 ⟨rfl, rfl⟩
  go_wp2_with fail
  rw [rounds_succ]
  go_wp2_with fail
  refine (rpercent_any c _).mono ?_; rintro e w1 ⟨rfl, rfl⟩
  go_wp2_with fail
  rw [rounds_succ]
  go_wp2
  refine bodyPost_ret (v := tri (pct a) (pct b) (pct c)) (by simp [results, Try.results16, go_sem, tri, z0, z1, z2]) rfl ⟨rfl, HK.out⟩

set_option maxRecDepth 100000 in
set_option maxHeartbeats 4000000 in
theorem rfirst_high (n : Int) (w : World) (h1 : 16 ≤ n) : Calls Try.prog 16 #[.int .i64 n] w fun e w' => e = .returned (tri 0 0 0) ∧ Kept (fun _ => False) w w' := by
  have g1 : decide (n < 0) = false := decide_eq_false (by omega)
  have g2 : decide (15 < n) = true := decide_eq_true (by omega)
  go_enter Try.func16, Try.ntmps16
  go_wp2
  refine bodyPost_ret (v := tri 0 0 0) (by simp [results, Try.results16, go_sem, tri]) rfl ⟨rfl, ?_⟩
  exact Kept.alloc (Kept.alloc (Kept.alloc (Kept.refl _ _) _) _) _
theorem rfirst_any (n : Int) (w : World) : Calls Try.prog 16 #[.int .i64 n] w fun e w' => e = .returned (first n) ∧ Kept (fun _ => False) w w' := by
  unfold first
  by_cases h1 : n < 0
  · rw [if_neg (by omega)]; exact rfirst_low n w h1
  by_cases h2 : 16 ≤ n
  · rw [if_neg (by omega)]; exact rfirst_high n w h2
  rw [if_pos (by omega)]
  obtain ⟨k, rfl⟩ : ∃ k : Nat, n = k := ⟨n.toNat, by omega⟩
  exact rfirst_in k w (by omega) _ _ _ rfl rfl rfl
end Go.Proofs.Ytomcjdonacckfaa
