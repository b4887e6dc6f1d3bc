/- Fit: a matrix of other sides; Same. -/
import Derived.Test.YtgejefhnoloebaaLMakes
namespace Go.Proofs.Ytgejefhnoloebaa
open Go.RowKit Go.Sort
set_option linter.unusedVariables false
set_option linter.unusedSimpArgs false
/-- A block of three cells stored into, cell by cell, each world by a name. -/
theorem store3 {w : World} {p : Nat} {x' y' z' : Value} {T : TypeId} (h : w.heap[p]? = some (.cells #[x', y', z'] T (0, 0))) (x y z : Value) :
    ∃ V1 V2 V3, w.setCell ⟨p, 0, none⟩ x = V1 ∧ V1.setCell ⟨p, 1, none⟩ y = V2 ∧ V2.setCell ⟨p, 2, none⟩ z = V3 ∧ (w.cell? ⟨p, 0, none⟩ = some x' ∧ w.frozen? ⟨p, 0, none⟩ = false) ∧ (V1.cell? ⟨p, 1, none⟩ = some y' ∧ V1.frozen? ⟨p, 1, none⟩ = false) ∧
      (V2.cell? ⟨p, 2, none⟩ = some z' ∧ V2.frozen? ⟨p, 2, none⟩ = false) ∧ V3.heap[p]? = some (.cells #[x, y, z] T (0, 0)) ∧ Kept (· = p) w V3 := by
  refine ⟨_, _, _, rfl, rfl, rfl, ⟨blk_cell h 0, blk_free h 0⟩, ⟨?_, ?_⟩, ⟨?_, ?_⟩, ?_, ?_⟩
  · exact blk_cell (blk_set h 0 _) 1
  · exact blk_free (blk_set h 0 _) 1
  · exact blk_cell (blk_set (blk_set h 0 _) 1 _) 2
  · exact blk_free (blk_set (blk_set h 0 _) 1 _) 2
  · exact blk_set (blk_set (blk_set h 0 _) 1 _) 2 _
  · exact (((Kept.refl (fun i => i = p) w).setCell (p := ⟨p, 0, none⟩) (.inl rfl) x).setCell (p := ⟨p, 1, none⟩) (.inl rfl) y).setCell (p := ⟨p, 2, none⟩) (.inl rfl) z
theorem spl_tab {n o : Nat} {f : Nat → Int} {ys : List Int} (h : o + ys.length ≤ n) : spl (tab n f) o ys = tab n (fun j => if o ≤ j ∧ j < o + ys.length then ys.getD (j - o) 0 else f j) := by
  refine list_ext (by rw [spl_length (by rw [tab_length]; exact h), tab_length, tab_length]) (fun j hj => ?_)
  rw [spl_length (by rw [tab_length]; exact h), tab_length] at hj
  rw [spl_get (by rw [tab_length]; exact h), tab_get (f := fun j => if o ≤ j ∧ j < o + ys.length then ys.getD (j - o) 0 else f j) hj, tab_get (f := f) hj]
/-- The pixel of the old matrix for the pixel number P of the new one. -/
def srcP (W H MW MH P : Nat) : Nat := P / W * MH / H * MW + P % W * MW / W
def fitF (W H MW MH : Nat) (p : List Int) (q : Nat) : Int := p.getD (4 * srcP W H MW MH (q / 4) + q % 4) 0
def fitK (W H MW MH : Nat) (p : List Int) (P q : Nat) : Int := if q < 4 * P then fitF W H MW MH p q else 0
theorem fit_idx {W H x y : Nat} (hx : x < W) (hy : y < H) : y * W + x < W * H := by
  have : (y + 1) * W ≤ H * W := Nat.mul_le_mul_right _ hy
  rw [Nat.mul_comm H W] at this
  have h2 : (y + 1) * W = y * W + W := Nat.succ_mul y W
  omega
theorem div_lt {a b c : Nat} (ha : a < b) (hb : 0 < c) : a * c / b < c := by
  apply Nat.div_lt_of_lt_mul
  rw [Nat.mul_comm b c, Nat.mul_comm a c]
  exact (Nat.mul_lt_mul_left hb).2 ha
theorem fit_src {W H MW MH x y : Nat} (hx : x < W) (hy : y < H) (h1 : 0 < MW) (h2 : 0 < MH) :
    srcP W H MW MH (y * W + x) = y * MH / H * MW + x * MW / W ∧ y * MH / H * MW + x * MW / W < MW * MH := by
  have hW : 0 < W := by omega
  have e1 : (y * W + x) / W = y := by rw [Nat.add_comm, Nat.mul_comm, Nat.add_mul_div_left _ _ hW, Nat.div_eq_of_lt hx]; omega
  have e2 : (y * W + x) % W = x := by rw [Nat.add_comm, Nat.mul_comm, Nat.add_mul_mod_self_left, Nat.mod_eq_of_lt hx]
  refine ⟨by unfold srcP; rw [e1, e2], ?_⟩
  have a1 := div_lt hy h2
  have a2 := div_lt hx h1
  exact fit_idx a2 a1
theorem fitK_s (W H MW MH : Nat) (p : List Int) (P n : Nat) (hP : 4 * P + 4 ≤ n) (Q : Nat) (hQ : srcP W H MW MH P = Q) (ys : List Int) (hl : ys.length = 4) (hy : ∀ j, j < 4 → ys.getD j 0 = p.getD (4 * Q + j) 0) :
    spl (tab n (fitK W H MW MH p P)) (4 * P) ys = tab n (fitK W H MW MH p (P + 1)) := by
  rw [spl_tab (by omega)]
  refine tab_ext fun j hj => ?_
  unfold fitK
  by_cases h1 : j < 4 * P
  · have h2 : ¬ (4 * P ≤ j ∧ j < 4 * P + ys.length) := by omega
    have h3 : j < 4 * (P + 1) := by omega
    simp only [h1, h2, h3, if_true, if_false]
  · by_cases h3 : j < 4 * (P + 1)
    · have h2 : 4 * P ≤ j ∧ j < 4 * P + ys.length := by omega
      rw [if_pos h2, if_pos h3, hy (j - 4 * P) (by omega)]
      unfold fitF
      have e1 : j / 4 = P := by omega
      have e2 : j % 4 = j - 4 * P := by omega
      rw [e1, e2, hQ]
    · have h2 : ¬ (4 * P ≤ j ∧ j < 4 * P + ys.length) := by omega
      simp only [h1, h2, h3, if_false]

set_option maxRecDepth 100000 in
set_option maxHeartbeats 8000000 in
theorem fit_yes (W H MW MH : Nat) (p : List Int) (a : Option Addr) (n cap : Nat) (w : World) (hs : sizeB W H = true) (hz : (W = 0 ↔ MW = 0)) (hr : rightM ⟨MW, MH, p⟩ = true) (hx : SlAt .u8 w a n p) (hc : n ≤ cap) (hcm : cap ≤ 9223372036854775807) :
    Calls Try.prog 28 #[.agg #[.int .i64 MW, .int .i64 MH, .slice a n cap], .int .i64 W, .int .i64 H] w fun e w' =>
      ∃ g k : Nat, k = 4 * (W * H) ∧ e = .returned (.tuple #[mat W H (some ⟨g, 0, none⟩) k k, .int .i64 0]) ∧ w.heap.size ≤ g ∧ Own .u8 5 w' (.slice (some ⟨g, 0, none⟩) k k) (tab k (fitF W H MW MH p)) ∧ Kept (fun _ => False) w w' := by
  have hub := ub_of hx
  obtain ⟨a1, a2, a3, a4, a5, a6, a7⟩ := sizeB_t hs
  have hr2 := hr
  unfold rightM at hr2
  rw [Bool.and_eq_true] at hr2
  have hr3 : sizeB MW MH = true := hr2.1
  have hr4 : decide ((p.length : Int) = 4 * (MW : Int) * (MH : Int)) = true := hr2.2
  obtain ⟨b1, b2, b3, b4, b5, b6, b7⟩ := sizeB_t hr3
  have hr5 : (p.length : Int) = 4 * (MW : Int) * (MH : Int) := of_decide_eq_true hr4
  have hwh : (W : Int) * (H : Int) = ((W * H : Nat) : Int) := by simp
  have hmm : (MW : Int) * (MH : Int) = ((MW * MH : Nat) : Int) := by simp
  rw [Int.mul_assoc, hmm] at hr5
  obtain ⟨M, hM⟩ : ∃ M, W * H = M := ⟨_, rfl⟩
  obtain ⟨MM, hMM⟩ : ∃ M, MW * MH = M := ⟨_, rfl⟩
  rw [hM] at hwh
  rw [hMM] at hmm hr5
  rw [hwh] at a5 a6
  rw [hmm] at b5 b6
  have hn : n = 4 * MM := by have h := hx.1; omega
  subst hn
  have hMb : M ≤ 67108864 := by omega
  have hMMb : MM ≤ 67108864 := by omega
  have c1 : W ≤ 16384 := by omega
  have c2 : H ≤ 16384 := by omega
  have c3 : MW ≤ 16384 := by omega
  have c4 : MH ≤ 16384 := by omega
  have HX := Lib.hid hx
  have HM := Lib.hid hM
  have HMM := Lib.hid hMM
  have HZ := Lib.hid (show (W = 0 → MW = 0) ∧ (1 ≤ W → 1 ≤ H ∧ 1 ≤ MW ∧ 1 ≤ MH) from ⟨hz.1, fun h => by
    have : ¬ MW = 0 := fun h2 => by have := hz.2 h2; omega
    omega⟩)
  have gz : ((W : Int) == 0) = ((MW : Int) == 0) := by
    by_cases h : W = 0
    · have h2 := hz.1 h; simp [h, h2]
    · have h2 : ¬ MW = 0 := fun h2 => h (hz.2 h2)
      have e1 : ((W : Int) == 0) = false := by simp; omega
      have e2 : ((MW : Int) == 0) = false := by simp; omega
      rw [e1, e2]
  have HR := Lib.hid (fun w => show Calls Try.prog 25 #[.agg #[.int .i64 MW, .int .i64 MH, .slice a (4 * MM) cap]] w fun e w' => e = .returned (.bool true) ∧ Kept (fun _ => False) w w' from by
    rw [← hr]; exact right_any ⟨MW, MH, p⟩ a (4 * MM) cap w (by unfold I64; simp only; omega) (by unfold I64; simp only; omega) hx.1 (by omega))
  have HNEW := Lib.hid (fun w => show Calls Try.prog 19 #[.int .i64 W, .int .i64 H] w fun e w' => ∃ g : Nat, e = .returned (.tuple #[.agg #[.int .i64 W, .int .i64 H, .slice (some ⟨g, 0, none⟩) (4 * M) (4 * M)], .int .i64 0]) ∧ w.heap.size ≤ g ∧ Own .u8 5 w' (.slice (some ⟨g, 0, none⟩) (4 * M) (4 * M)) (List.replicate (4 * M) 0) ∧ Kept (fun _ => False) w w' from
    (new_yes W H w hs).mono fun e w' ⟨g, k, hk, he, h1, h2, h3⟩ => by
      have hk' : k = 4 * M := by rw [Int.mul_assoc, hwh] at hk; omega
      subst hk'
      exact ⟨g, he, h1, h2, h3⟩)
  clear hs hz hr hr3 hr4 hr5 hx hwh hmm a1 a2 a3 a4 a5 a6 a7 b1 b2 b3 b4 b5 b6 b7 hM hMM
  obtain ⟨W0, hW0⟩ : ∃ V, (w.alloc (.cells #[.int .i64 MW, .int .i64 MH, .slice a (4 * MM) cap] 35)).alloc (.cells #[.int .i64 0, .int .i64 0, .slice none 0 0] 35) = V := ⟨_, rfl⟩
  have k0 : Kept (fun _ => False) w W0 := by rw [← hW0]; exact ((Kept.refl _ w).alloc _).alloc _
  have HBM := Lib.hid (show W0.heap[w.heap.size]? = some (.cells #[.int .i64 MW, .int .i64 MH, .slice a (4 * MM) cap] 35 (0, 0)) from by rw [← hW0]; exact blk_alloc (blk_new _ _) _)
  have HBR := Lib.hid (show W0.heap[w.heap.size + 1]? = some (.cells #[.int .i64 0, .int .i64 0, .slice none 0 0] 35 (0, 0)) from by rw [← hW0]; exact blk_at _ _ (by simp))
  have s0 : W0.heap.size = w.heap.size + 2 := by rw [← hW0]; simp
  have HK0 := Lib.hid k0
  clear k0
  go_enter Try.func28, Try.ntmps28
  go_wp2_with fail
  refine (HNEW.out _).mono ?_; rintro e w1 ⟨g, rfl, hg, ho, hk⟩
  obtain ⟨V, hV⟩ : ∃ V, w1.alloc (.cells #[.int .i64 W, .int .i64 H, .slice (some ⟨g, 0, none⟩) (4 * M) (4 * M)] 35) = V := ⟨_, rfl⟩
  obtain ⟨P0, hP0⟩ : ∃ P, w1.heap.size = P := ⟨_, rfl⟩
  have kV : Kept (fun _ => False) w1 V := by rw [← hV]; exact (Kept.refl _ _).alloc _
  have HBO := Lib.hid (show V.heap[P0]? = some (.cells #[.int .i64 W, .int .i64 H, .slice (some ⟨g, 0, none⟩) (4 * M) (4 * M)] 35 (0, 0)) from by rw [← hV, ← hP0]; exact blk_new _ _)
  have hP1 : w.heap.size + 2 ≤ P0 := by have := hk.size; omega
  have hg1 : w.heap.size + 2 ≤ g := by omega
  have hgP : g < P0 := by have := ho.at.2.2.1; omega
  have HO1 := Lib.hid (ho.kept kV (fun _ _ => id))
  have HK1 := Lib.hid ((HK0.out.then hk).then kV)
  have HBM := Lib.hid ((hk.then kV).blk HBM.out id)
  have HBR := Lib.hid ((hk.then kV).blk HBR.out id)
  obtain ⟨⟨x0, -⟩, ⟨x1, -⟩, x2, -⟩ := blk3 HBM.out
  have s1 : V.heap.size = P0 + 1 := by rw [← hV, ← hP0]; simp
  clear hk kV ho hg s0
  go_wp2_with fail
  refine (HR.out _).mono ?_; rintro e w2 ⟨rfl, hk⟩
  have HO2 := Lib.hid (HO1.out.kept hk (fun _ _ => id))
  have HK2 := Lib.hid (HK1.out.then hk)
  have HBM2 := Lib.hid (hk.blk HBM.out id)
  have HBR2 := Lib.hid (hk.blk HBR.out id)
  have HBO2 := Lib.hid (hk.blk HBO.out id)
  clear hk x0 x1 x2 hW0 hV hP0 s1
  go_wp2
  go_loopg [10, 11, 35, 38, 39] H (fun gg _ _ i _ _ wr => ∃ y : Nat, y ≤ H ∧ H ≤ gg + y ∧ i = .int .i64 y ∧ Own .u8 5 wr (.slice (some ⟨g, 0, none⟩) (4 * M) (4 * M)) (tab (4 * M) (fitK W H MW MH p (y * W))) ∧ Kept (fun _ => False) w wr ∧ wr.heap[w.heap.size]? = some (.cells #[.int .i64 MW, .int .i64 MH, .slice a (4 * MM) cap] 35 (0, 0)) ∧ wr.heap[w.heap.size + 1]? = some (.cells #[.int .i64 0, .int .i64 0, .slice none 0 0] 35 (0, 0)) ∧ wr.heap[P0]? = some (.cells #[.int .i64 W, .int .i64 H, .slice (some ⟨g, 0, none⟩) (4 * M) (4 * M)] 35 (0, 0)))
  case atStart => exact ⟨0, by omega, by omega, rfl, by have h := HO2.out; rw [tab_zero] at h; exact (tab_ext (n := 4 * M) (f := fun _ => 0) (g := fitK W H MW MH p (0 * W)) (fun j _ => by simp [fitK])) ▸ h, HK2.out, HBM2.out, HBR2.out, HBO2.out⟩
  case round =>
    obtain ⟨y, hy, hgg, rfl, ho, hkr, hbm, hbr, hbo⟩ := hrel
    by_cases hyH : y < H
    · have gy : decide (y < H) = true := decide_eq_true hyH
      have HO3 := Lib.hid ho
      have HK3 := Lib.hid hkr
      have HBM3 := Lib.hid hbm
      have HBR3 := Lib.hid hbr
      have HBO3 := Lib.hid hbo
      obtain ⟨gko, hgo⟩ : ∃ x, x = gk := ⟨_, rfl⟩
      subst hgo
      clear ho hkr hbm hbr hbo
      go_wp2
      go_loopg [11, 39] W (fun gg _ i wr => ∃ x : Nat, x ≤ W ∧ W ≤ gg + x ∧ i = .int .i64 x ∧ Own .u8 5 wr (.slice (some ⟨g, 0, none⟩) (4 * M) (4 * M)) (tab (4 * M) (fitK W H MW MH p (y * W + x))) ∧ Kept (fun _ => False) w wr ∧ wr.heap[w.heap.size]? = some (.cells #[.int .i64 MW, .int .i64 MH, .slice a (4 * MM) cap] 35 (0, 0)) ∧ wr.heap[w.heap.size + 1]? = some (.cells #[.int .i64 0, .int .i64 0, .slice none 0 0] 35 (0, 0)) ∧ wr.heap[P0]? = some (.cells #[.int .i64 W, .int .i64 H, .slice (some ⟨g, 0, none⟩) (4 * M) (4 * M)] 35 (0, 0)))
      case atStart => exact ⟨0, by omega, by omega, rfl, HO3.out, HK3.out, HBM3.out, HBR3.out, HBO3.out⟩
      case round =>
        obtain ⟨x, hx, hgx, rfl, ho, hkr, hbm, hbr, hbo⟩ := hrel
        by_cases hxW : x < W
        · have gx : decide (x < W) = true := decide_eq_true hxW
          obtain ⟨z1, z2, z3⟩ := HZ.out.2 (by omega)
          have hP := fit_idx hxW hyH
          rw [HM.out] at hP
          obtain ⟨hsrc, hQ⟩ := fit_src hxW hyH (show 0 < MW by omega) (show 0 < MH by omega)
          rw [HMM.out] at hQ
          have d1 := div_lt hyH (show 0 < MH by omega)
          have d2 := div_lt hxW (show 0 < MW by omega)
          have n1 : y * W ≤ 16384 * 16384 := Nat.mul_le_mul (by omega) (by omega)
          have n2 : y * MH ≤ 16384 * 16384 := Nat.mul_le_mul (by omega) (by omega)
          have n3 : x * MW ≤ 16384 * 16384 := Nat.mul_le_mul (by omega) (by omega)
          obtain ⟨p1, hp1⟩ : ∃ q, y * W = q := ⟨_, rfl⟩
          obtain ⟨q1, hq1⟩ : ∃ q, y * MH = q := ⟨_, rfl⟩
          obtain ⟨q2, hq2⟩ : ∃ q, q1 / H = q := ⟨_, rfl⟩
          obtain ⟨q3, hq3⟩ : ∃ q, q2 * MW = q := ⟨_, rfl⟩
          obtain ⟨q4, hq4⟩ : ∃ q, x * MW = q := ⟨_, rfl⟩
          obtain ⟨q5, hq5⟩ : ∃ q, q4 / W = q := ⟨_, rfl⟩
          have HP1 := Lib.hid hp1
          rw [hq1, hq2, hq3, hq4, hq5] at hsrc hQ
          rw [hp1] at hsrc hP n1 ho
          rw [hq1] at n2 d1
          rw [hq2] at d1
          rw [hq4] at n3 d2
          rw [hq5] at d2
          have v1 : IntKind.i64.wrap ((y : Int) * (W : Int)) = (p1 : Int) := by rw [show (y : Int) * (W : Int) = (p1 : Int) by rw [← hp1]; simp]; exact IntWalk.i64_in _ (by omega)
          have v2 : IntKind.i64.wrap ((p1 : Int) + (x : Int)) = (p1 : Int) + (x : Int) := IntWalk.i64_in _ (by omega)
          have v3 : IntKind.i64.wrap (4 * ((p1 : Int) + (x : Int))) = 4 * ((p1 : Int) + (x : Int)) := IntWalk.i64_in _ (by omega)
          have v4 : IntKind.i64.wrap ((y : Int) * (MH : Int)) = (q1 : Int) := by rw [show (y : Int) * (MH : Int) = (q1 : Int) by rw [← hq1]; simp]; exact IntWalk.i64_in _ (by omega)
          have v5 : (q1 : Int).tdiv (H : Int) = (q2 : Int) := by rw [Int.tdiv_eq_ediv_of_nonneg (by omega)]; omega
          have v5' : IntKind.i64.wrap (q2 : Int) = (q2 : Int) := IntWalk.i64_in _ (by omega)
          have n5 : q2 * MW ≤ 16384 * 16384 := Nat.mul_le_mul (by omega) (by omega)
          rw [hq3] at n5
          have v6 : IntKind.i64.wrap ((q2 : Int) * (MW : Int)) = (q3 : Int) := by rw [show (q2 : Int) * (MW : Int) = (q3 : Int) by rw [← hq3]; simp]; exact IntWalk.i64_in _ (by omega)
          have v7 : IntKind.i64.wrap ((x : Int) * (MW : Int)) = (q4 : Int) := by rw [show (x : Int) * (MW : Int) = (q4 : Int) by rw [← hq4]; simp]; exact IntWalk.i64_in _ (by omega)
          have v8 : (q4 : Int).tdiv (W : Int) = (q5 : Int) := by rw [Int.tdiv_eq_ediv_of_nonneg (by omega)]; omega
          have v8' : IntKind.i64.wrap (q5 : Int) = (q5 : Int) := IntWalk.i64_in _ (by omega)
          have v9 : IntKind.i64.wrap ((q3 : Int) + (q5 : Int)) = (q3 : Int) + (q5 : Int) := IntWalk.i64_in _ (by omega)
          have v10 : IntKind.i64.wrap (4 * ((q3 : Int) + (q5 : Int))) = 4 * ((q3 : Int) + (q5 : Int)) := IntWalk.i64_in _ (by omega)
          have w1' : ((H : Int) == 0) = false := by simp; omega
          have w2' : ((W : Int) == 0) = false := by simp; omega
          have w3' : ¬ (H : Int) = 0 := by omega
          have w5' : ¬ H = 0 := by omega
          have w6' : ¬ W = 0 := by omega
          have w4' : ¬ (W : Int) = 0 := by omega
          have t1 : (4 * ((p1 : Int) + (x : Int))).toNat = 4 * (p1 + x) := by omega
          have t2 : (4 * ((q3 : Int) + (q5 : Int))).toNat = 4 * (q3 + q5) := by omega
          have l1 : 0 ≤ 4 * ((p1 : Int) + (x : Int)) := by omega
          have l2 : 4 * ((p1 : Int) + (x : Int)) ≤ 4 * (M : Int) := by omega
          have l3 : 0 ≤ 4 * ((q3 : Int) + (q5 : Int)) := by omega
          have l4 : 4 * ((q3 : Int) + (q5 : Int)) ≤ 4 * (MM : Int) := by omega
          have l5 : 4 * ((q3 : Int) + (q5 : Int)) ≤ (cap : Int) := by omega
          have l6 : 4 * ((p1 : Int) + (x : Int)) ≤ ((4 * M : Nat) : Int) := by omega
          have l7 : 4 * ((q3 : Int) + (q5 : Int)) ≤ ((4 * MM : Nat) : Int) := by omega
          have l8 : (p1 : Int) + (x : Int) ≤ (M : Int) := by omega
          have l9 : (q3 : Int) + (q5 : Int) ≤ (MM : Int) := by omega
          have l10 : (4 : Int) ≤ ((cap - 4 * (q3 + q5) : Nat) : Int) := by omega
          have m1 : 4 * (p1 + x) ≤ 4 * M := by omega
          have m2 : 4 * (q3 + q5) ≤ 4 * MM := by omega
          have m3 : 4 * (q3 + q5) ≤ cap := by omega
          have hcap : ¬ (4 * M = 4 * (p1 + x)) := by omega
          have hcap2 : ¬ (cap = 4 * (q3 + q5)) := by omega
          obtain ⟨b, off, rfl, -⟩ := HX.out.2.resolve_left (by omega)
          have hbw := hub b off (by omega) rfl
          have HSL := Lib.hid ((HX.out.sub (at_ := 4 * (q3 + q5)) (n := 4) (by omega)).up hkr)
          have HO4 := Lib.hid ho
          have hmin := Lib.hid (show 4 = Nat.min 4 (4 * M - 4 * (p1 + x)) from (Nat.min_eq_left (show 4 ≤ 4 * M - 4 * (p1 + x) by omega)).symm)
          have HBM4 := Lib.hid hbm
          have HBR4 := Lib.hid hbr
          have HBO4 := Lib.hid hbo
          have HK4 := Lib.hid hkr
          obtain ⟨⟨x0, -⟩, ⟨x1, -⟩, x2, -⟩ := blk3 hbm
          obtain ⟨⟨y0, -⟩, ⟨y1, -⟩, y2, -⟩ := blk3 hbo
          have HS := Lib.hid (fun (ys : List Int) (hl : ys.length = 4) (hy : ∀ j, j < 4 → ys.getD j 0 = p.getD (4 * (q3 + q5) + j) 0) => fitK_s W H MW MH p (p1 + x) (4 * M) (by omega) (q3 + q5) hsrc ys hl hy)
          have HPL := Lib.hid hx
          clear ho hkr hbm hbr hbo hsrc hq1 hq2 hq3 hq4 hq5 hp1 d1 d2 z1 z2 z3
          go_wp2
          go_still_tail 30, (by kernel_rfl)
          clear v1 v2 v3 v4 v5 v5' v6 v7 v8 v8' v9 v10 t1 t2 l1 l2 l3 l4 l5 l6 l7 l8 l9 l10
          change wpList _ _ _ _ _ wr.drew
          refine wpList_cp rfl (.tmp 50) (.tmp 71) 33 33 rfl 5 .u8 Try.underlying33 Try.size5 g (4 * M) (4 * M) (4 * (p1 + x)) _ _ _ rfl (HO4.out.kept ((Kept.refl (fun _ => False) wr).drew) (fun _ _ => id)) (some ⟨b, off + 4 * (q3 + q5), none⟩) 4 _ _ rfl (HSL.out.up ((Kept.refl (fun _ => False) wr).drew)) 4 hmin.out (by omega) ?_
          intro w4 ho4 hk4
          rw [HS.out _ (by simp; have := HX.out.1; omega) (fun j hj => by rw [getD_take (by omega), getD_take (by omega), getD_drop])] at ho4
          have HO5 := Lib.hid ho4
          have HK5 := Lib.hid (HK4.out.drew.trans (hk4.mono fun i _ hi => Or.inr (by have h9 : i = g := hi; omega)))
          have HBM5 := Lib.hid (hk4.blk (show wr.drew.heap[w.heap.size]? = _ from HBM4.out) (fun (h : w.heap.size = g) => by omega))
          have HBR5 := Lib.hid (hk4.blk (show wr.drew.heap[w.heap.size + 1]? = _ from HBR4.out) (fun (h : w.heap.size + 1 = g) => by omega))
          have HBO5 := Lib.hid (hk4.blk (show wr.drew.heap[P0]? = _ from HBO4.out) (fun (h : P0 = g) => by omega))
          clear ho4 hk4
          go_wp2
          go_roundg (gk - 1)
          case rel => exact ⟨x + 1, by omega, by omega, by go_num, by rw [HP1.out]; exact HO5.out, HK5.out, HBM5.out, HBR5.out, HBO5.out⟩
          case measure => omega
        · obtain rfl : x = W := by omega
          have gx : decide (x < x) = false := decide_eq_false (by omega)
          rw [show y * x + x = (y + 1) * x from (Nat.succ_mul y x).symm] at ho
          have HO5 := Lib.hid ho
          have HK5 := Lib.hid hkr
          have HBM5 := Lib.hid hbm
          have HBR5 := Lib.hid hbr
          have HBO5 := Lib.hid hbo
          clear ho hkr hbm hbr hbo
          go_wp2
          go_roundg (gko - 1)
          case rel => exact ⟨y + 1, by omega, by omega, by go_num, HO5.out, HK5.out, HBM5.out, HBR5.out, HBO5.out⟩
          case measure => omega
    · obtain rfl : y = H := by omega
      have gy : decide (y < y) = false := decide_eq_false (by omega)
      have hM' : y * W = M := by rw [Nat.mul_comm]; exact HM.out
      rw [hM'] at ho
      have HO5 := Lib.hid ho
      have HK5 := Lib.hid hkr
      obtain ⟨⟨x0, -⟩, ⟨x1, -⟩, x2, -⟩ := blk3 hbo
      obtain ⟨U1, U2, U3, e1, e2, e3, ⟨r0, s0⟩, ⟨r1, s1⟩, ⟨r2, s2⟩, bU, kU⟩ := store3 hbr (.int .i64 W) (.int .i64 y) (.slice (some ⟨g, 0, none⟩) (4 * M) (4 * M))
      obtain ⟨⟨m0, -⟩, ⟨m1, -⟩, m2, -⟩ := blk3 bU
      have HKU := Lib.hid kU
      clear ho hkr hbm hbr hbo bU kU hM'
      go_wp2
      refine bodyPost_ret (v := .tuple #[mat W y (some ⟨g, 0, none⟩) (4 * M) (4 * M), .int .i64 0]) (by simp [results, Try.results28, go_sem, mat, m0, m1, m2]) rfl ⟨g, 4 * M, by rw [HM.out], rfl, by omega, ?_, ?_⟩
      · have h := HO5.out.kept HKU.out (fun b hb (h : b = w.heap.size + 1) => by cases hb; have h9 : g = w.heap.size + 1 := h; omega)
        exact (tab_ext (n := 4 * M) (f := fitK W y MW MH p M) (g := fitF W y MW MH p) (fun j hj => by unfold fitK; rw [if_pos hj])) ▸ h
      · exact HK5.out.trans (HKU.out.mono fun i _ hi => Or.inr (by have h9 : i = w.heap.size + 1 := hi; omega))

end Go.Proofs.Ytgejefhnoloebaa
