/- Matrices: the law's small functions, the document's New, Right, Same; held against one another. -/
import Derived.Test.YtdjgmhbfohbenaaKnown0
import Derived.Test.YtdjgmhbfohbenaaStr
import Derived.Test.YtdjgmhbfohbenaaOpen
import Derived.Lib.QuietBelow
import Derived.Deep.LoopGhost
namespace Go.Proofs.Ytdjgmhbfohbenaa
open Go.RowKit Go.Sort
set_option linter.unusedVariables false
set_option linter.unusedSimpArgs false
/-- A callee that makes memory and changes none, met in a region that draws its order. -/
theorem quietC {f : FuncId} {args : Array Value} {V : World} {d : Nat} {os : Array Obj} {v : Value} (h : ∀ V', Kept (fun _ => False) V V' → Calls Try.prog f args V' fun e w' => e = .returned v ∧ Kept (fun _ => False) V' w') :
    Calls Try.prog f args (grow (redrawn V d) os) fun e w'' => e = .returned v ∧ ∃ p : Regrown, w'' = grow (redrawn V p.d) p.os :=
  Calls.regrown_of ((h _ (Kept.of_below (below_regrown V d os) (fun i h1 h2 => by omega))).mono fun _ _ ⟨a, b⟩ => ⟨a, b.below⟩)
theorem kept_of_regrown {V : World} (d : Nat) (os : Array Obj) : Kept (fun _ => False) V (grow (redrawn V d) os) := Kept.of_below (below_regrown V d os) (fun i h1 h2 => by omega)
theorem SlAt.up {k : IntKind} {w w' : World} {a : Option Addr} {n : Nat} {xs : List Int} (h : SlAt k w a n xs) (hk : Kept (fun _ => False) w w') : SlAt k w' a n xs := h.kept hk (fun _ _ _ _ h => h)
def sameM (a b : Mx) : Bool := decide (a.w = b.w ∧ a.h = b.h ∧ a.p = b.p)
def rightM (m : Mx) : Bool := sizeB m.w m.h && decide ((m.p.length : Int) = 4 * m.w * m.h)
def I64 (x : Int) : Prop := -9223372036854775808 ≤ x ∧ x ≤ 9223372036854775807
set_option maxRecDepth 100000 in
set_option maxHeartbeats 2000000 in
theorem of_any (x y : Int) (a : Option Addr) (n cap : Nat) (w : World) :
    Calls Try.prog 22 #[.agg #[.int .i64 x, .int .i64 y, .slice a n cap]] w fun e w' => e = .returned (.agg #[.int .i64 x, .int .i64 y, .slice a n cap]) ∧ Kept (fun _ => False) w w' := by
  obtain ⟨W, hW⟩ : ∃ W, (w.alloc (.cells #[.int .i64 x, .int .i64 y, .slice a n cap] 31)).alloc (.cells #[.int .i64 x, .int .i64 y, .slice a n cap] 35) = W := ⟨_, rfl⟩
  have b0 : W.heap[w.heap.size + 1]? = some (.cells #[.int .i64 x, .int .i64 y, .slice a n cap] 35 (0, 0)) := by rw [← hW]; exact blk_at _ _ (by simp)
  have HK := Lib.hid (show Kept (fun _ => False) w W by rw [← hW]; exact ((Kept.refl _ w).alloc _).alloc _)
  obtain ⟨⟨c0, -⟩, ⟨c1, -⟩, c2, -⟩ := blk3 b0
  clear b0
  go_enter Try.func22, Try.ntmps22
  go_wp2
  first
  | exact bodyPost_ret (v := .agg #[.int .i64 x, .int .i64 y, .slice a n cap]) (by simp [results, Try.results22, go_sem, c0, c1, c2]) rfl ⟨rfl, HK.out⟩
  | (go_region
     all_goals go_wp2
     all_goals exact bodyPost_ret (v := .agg #[.int .i64 x, .int .i64 y, .slice a n cap]) (by simp [results, Try.results22, go_sem, c0, c1, c2]) rfl ⟨rfl, HK.out.drew⟩)
set_option maxRecDepth 100000 in
set_option maxHeartbeats 2000000 in
theorem few_any (x y : Int) (a : Option Addr) (n cap : Nat) (w : World) (hn : n ≤ 9223372036854775807) :
    Calls Try.prog 20 #[.agg #[.int .i64 x, .int .i64 y, .slice a n cap]] w fun e w' => e = .returned (.bool (decide (n ≤ 16384))) ∧ Kept (fun _ => False) w w' := by
  go_enter Try.func20, Try.ntmps20
  go_wp2
  all_goals
    go_ret
    exact ⟨ret_bool (by first | rfl | (simp; omega) | exact decide_eq_decide.2 (by omega)), (Kept.refl _ _).alloc _⟩
set_option maxRecDepth 100000 in
set_option maxHeartbeats 2000000 in
theorem rsame_any (m1 m2 : Mx) (a1 a2 : Option Addr) (n1 n2 c1 c2 : Nat) (w : World) (h1 : SlAt .u8 w a1 n1 m1.p) (h2 : SlAt .u8 w a2 n2 m2.p) (hb1 : IsBytes m1.p) (hb2 : IsBytes m2.p) :
    Calls Try.prog 42 #[mat m1.w m1.h a1 n1 c1, mat m2.w m2.h a2 n2 c2] w fun e w' => e = .returned (.bool (sameM m1 m2)) ∧ Kept (fun _ => False) w w' := by
  obtain ⟨w1, h1', p1⟩ := m1
  obtain ⟨w2, h2', p2⟩ := m2
  simp only at h1 h2 hb1 hb2
  unfold mat
  simp only
  obtain ⟨W, hW⟩ : ∃ W, (w.alloc (.cells #[.int .i64 w1, .int .i64 h1', .slice a1 n1 c1] 35)).alloc (.cells #[.int .i64 w2, .int .i64 h2', .slice a2 n2 c2] 35) = W := ⟨_, rfl⟩
  have kW : Kept (fun _ => False) w W := by rw [← hW]; exact ((Kept.refl _ w).alloc _).alloc _
  have b0 : W.heap[w.heap.size]? = some (.cells #[.int .i64 w1, .int .i64 h1', .slice a1 n1 c1] 35 (0, 0)) := by rw [← hW]; exact blk_alloc (blk_new _ _) _
  have b1 : W.heap[w.heap.size + 1]? = some (.cells #[.int .i64 w2, .int .i64 h2', .slice a2 n2 c2] 35 (0, 0)) := by rw [← hW]; exact blk_at _ _ (by simp)
  have s1 := run_str (P := Try.prog) (dst := 9) Try.underlying29 Try.underlying5 Try.underlying9 (cap := c1) (h1.up kW)
  have s2 := run_str (P := Try.prog) (dst := 9) Try.underlying29 Try.underlying5 Try.underlying9 (cap := c2) (h2.up kW)
  have HK := Lib.hid kW
  obtain ⟨⟨x0, -⟩, ⟨x1, -⟩, x2, -⟩ := blk3 b0
  obtain ⟨⟨y0, -⟩, ⟨y1, -⟩, y2, -⟩ := blk3 b1
  clear b0 b1 kW h1 h2
  by_cases z1 : w1 = w2
  · have g1 : (w1 == w2) = true := by simp [z1]
    by_cases z2 : h1' = h2'
    · have g2 : (h1' == h2') = true := by simp [z2]
      have e := str_eq hb1 hb2
      have HE : Hid (sameM ⟨w1, h1', p1⟩ ⟨w2, h2', p2⟩ = ((strOfNums p1).toList == (strOfNums p2).toList)) := by
        show sameM ⟨w1, h1', p1⟩ ⟨w2, h2', p2⟩ = ((strOfNums p1).toList == (strOfNums p2).toList)
        rw [e]; unfold sameM; simp [z1, z2]
      clear z1 z2 e hb1 hb2
      go_enter Try.func42, Try.ntmps42
      go_wp2
      go_ret
      exact ⟨ret_bool (by rw [HE.out]), HK.out⟩
    · have g2 : (h1' == h2') = false := by simp [z2]
      have HE := Lib.hid (show sameM ⟨w1, h1', p1⟩ ⟨w2, h2', p2⟩ = false from decide_eq_false (fun h => z2 h.2.1))
      clear z1 z2 hb1 hb2
      go_enter Try.func42, Try.ntmps42
      go_wp2
      go_ret
      exact ⟨ret_bool (by rw [HE.out]), HK.out⟩
  · have g1 : (w1 == w2) = false := by simp [z1]
    have HE := Lib.hid (show sameM ⟨w1, h1', p1⟩ ⟨w2, h2', p2⟩ = false from decide_eq_false (fun h => z1 h.1))
    clear z1 hb1 hb2
    go_enter Try.func42, Try.ntmps42
    go_wp2
    go_ret
    exact ⟨ret_bool (by rw [HE.out]), HK.out⟩
set_option maxRecDepth 100000 in
set_option maxHeartbeats 2000000 in
theorem alike_any (m1 m2 : Mx) (a1 a2 : Option Addr) (n1 n2 c1 c2 : Nat) (w : World) (h1 : SlAt .u8 w a1 n1 m1.p) (h2 : SlAt .u8 w a2 n2 m2.p) (hb1 : IsBytes m1.p) (hb2 : IsBytes m2.p) :
    Calls Try.prog 14 #[mat m1.w m1.h a1 n1 c1, mat m2.w m2.h a2 n2 c2] w fun e w' => e = .returned (.bool (sameM m1 m2)) ∧ Kept (fun _ => False) w w' := by
  unfold mat
  obtain ⟨W, hW⟩ : ∃ W, (w.alloc (.cells #[.int .i64 m1.w, .int .i64 m1.h, .slice a1 n1 c1] 31)).alloc (.cells #[.int .i64 m2.w, .int .i64 m2.h, .slice a2 n2 c2] 35) = W := ⟨_, rfl⟩
  have kW : Kept (fun _ => False) w W := by rw [← hW]; exact ((Kept.refl _ w).alloc _).alloc _
  have b0 : W.heap[w.heap.size]? = some (.cells #[.int .i64 m1.w, .int .i64 m1.h, .slice a1 n1 c1] 31 (0, 0)) := by rw [← hW]; exact blk_alloc (blk_new _ _) _
  have b1 : W.heap[w.heap.size + 1]? = some (.cells #[.int .i64 m2.w, .int .i64 m2.h, .slice a2 n2 c2] 35 (0, 0)) := by rw [← hW]; exact blk_at _ _ (by simp)
  have D1 := Lib.hid (fun (V' : World) (hk : Kept (fun _ => False) W V') => of_any m1.w m1.h a1 n1 c1 V')
  have D2 := Lib.hid (fun (V' : World) (hk : Kept (fun _ => False) W V') => show Calls Try.prog 42 #[.agg #[.int .i64 m1.w, .int .i64 m1.h, .slice a1 n1 c1], .agg #[.int .i64 m2.w, .int .i64 m2.h, .slice a2 n2 c2]] V' fun e w' => e = .returned (.bool (sameM m1 m2)) ∧ Kept (fun _ => False) V' w' from rsame_any m1 m2 a1 a2 n1 n2 c1 c2 V' (h1.up (kW.then hk)) (h2.up (kW.then hk)) hb1 hb2)
  have HK := Lib.hid kW
  obtain ⟨⟨x0, -⟩, ⟨x1, -⟩, x2, -⟩ := blk3 b0
  obtain ⟨⟨y0, -⟩, ⟨y1, -⟩, y2, -⟩ := blk3 b1
  have X0 := cell_regrown x0
  have X1 := cell_regrown x1
  have X2 := cell_regrown x2
  have Y0 := cell_regrown y0
  have Y1 := cell_regrown y1
  have Y2 := cell_regrown y2
  clear b0 b1 kW h1 h2 x0 x1 x2 y0 y1 y2
  go_enter Try.func14, Try.ntmps14
  go_wp2
  refine wp_region_quiet_below (by kernel_rfl) (by kernel_rfl) ?_
  repeat (quiet_step (first | with_reducible exact quietC D1.out | with_reducible exact quietC D2.out))
  refine wpQuiet_nil ?_
  rintro _ ⟨⟨dd, os⟩, rfl⟩
  go_wp2
  go_ret
  exact ⟨rfl, HK.out.then (kept_of_regrown dd os)⟩
set_option maxRecDepth 100000 in
set_option maxHeartbeats 2000000 in
theorem right_any (m : Mx) (a : Option Addr) (n cap : Nat) (w : World) (hw : I64 m.w) (hh : I64 m.h) (hn : m.p.length = n) (hn2 : n ≤ 9223372036854775807) :
    Calls Try.prog 63 #[.agg #[.int .i64 m.w, .int .i64 m.h, .slice a n cap]] w fun e w' => e = .returned (.bool (rightM m)) ∧ Kept (fun _ => False) w w' := by
  obtain ⟨x, y, p⟩ := m
  simp only at hw hh hn ⊢
  cases hs : sizeB x y with
  | false =>
    obtain ⟨W, hW⟩ : ∃ W, w.alloc (.cells #[.int .i64 x, .int .i64 y, .slice a n cap] 31) = W := ⟨_, rfl⟩
    have kW : Kept (fun _ => False) w W := by rw [← hW]; exact (Kept.refl _ w).alloc _
    have b0 : W.heap[w.heap.size]? = some (.cells #[.int .i64 x, .int .i64 y, .slice a n cap] 31 (0, 0)) := by rw [← hW]; exact blk_new _ _
    have HC := Lib.hid (fun w => show Calls Try.prog 65 #[.int .i64 x, .int .i64 y] w fun e w' => e = .returned (.bool false) ∧ w = w' from by have h := size_any x y w hw hh; rw [hs] at h; exact h)
    obtain ⟨⟨x0, -⟩, ⟨x1, -⟩, x2, -⟩ := blk3 b0
    have HK := Lib.hid kW
    clear b0 kW
    have HE := Lib.hid (show rightM ⟨x, y, p⟩ = false by unfold rightM; rw [hs]; rfl)
    clear hs hn hw hh
    go_enter Try.func63, Try.ntmps63
    go_wp2_with (go_at_call 65; refine (HC.out _).mono ?_; rintro e w' ⟨rfl, rfl⟩)
    go_ret
    exact ⟨ret_bool (by rw [HE.out]), HK.out⟩
  | true =>
    obtain ⟨W, hW⟩ : ∃ W, w.alloc (.cells #[.int .i64 x, .int .i64 y, .slice a n cap] 31) = W := ⟨_, rfl⟩
    have kW : Kept (fun _ => False) w W := by rw [← hW]; exact (Kept.refl _ w).alloc _
    have b0 : W.heap[w.heap.size]? = some (.cells #[.int .i64 x, .int .i64 y, .slice a n cap] 31 (0, 0)) := by rw [← hW]; exact blk_new _ _
    have HC := Lib.hid (fun w => show Calls Try.prog 65 #[.int .i64 x, .int .i64 y] w fun e w' => e = .returned (.bool true) ∧ w = w' from by have h := size_any x y w hw hh; rw [hs] at h; exact h)
    obtain ⟨⟨x0, -⟩, ⟨x1, -⟩, x2, -⟩ := blk3 b0
    have HK := Lib.hid kW
    clear b0 kW
    obtain ⟨a1, a2, a3, a4, a5, a6, -⟩ := sizeB_t hs
    have hp : 4 * x * y = 4 * (x * y) := Int.mul_assoc ..
    obtain ⟨q, hq⟩ : ∃ q, 4 * x * y = q := ⟨_, rfl⟩
    have q1 : 0 ≤ q := by omega
    have q2 : q ≤ 268435456 := by omega
    have HE := Lib.hid (show rightM ⟨x, y, p⟩ = decide ((n : Int) = q) by unfold rightM; simp only; rw [hs, hn, hq]; rfl)
    clear hs hn hp a5 a6 hw hh
    by_cases hz : (n : Int) = q
    · have gz : ((n : Int) == q) = true := by simp [hz]
      have HZ := Lib.hid hz
      clear hz
      go_enter Try.func63, Try.ntmps63
      go_wp2_with (go_at_call 65; refine (HC.out _).mono ?_; rintro e w' ⟨rfl, rfl⟩)
      go_ret
      exact ⟨ret_bool (by rw [HE.out]; exact (decide_eq_true HZ.out).symm), HK.out⟩
    · have gz : ((n : Int) == q) = false := by simp [hz]
      have HZ := Lib.hid hz
      clear hz
      go_enter Try.func63, Try.ntmps63
      go_wp2_with (go_at_call 65; refine (HC.out _).mono ?_; rintro e w' ⟨rfl, rfl⟩)
      go_ret
      exact ⟨ret_bool (by rw [HE.out]; exact (decide_eq_false HZ.out).symm), HK.out⟩
set_option maxRecDepth 100000 in
set_option maxHeartbeats 2000000 in
theorem rright_any (m : Mx) (a : Option Addr) (n cap : Nat) (w : World) (hw : I64 m.w) (hh : I64 m.h) (hn : m.p.length = n) (hn2 : n ≤ 9223372036854775807) :
    Calls Try.prog 21 #[.agg #[.int .i64 m.w, .int .i64 m.h, .slice a n cap]] w fun e w' => e = .returned (.bool (rightM m)) ∧ Kept (fun _ => False) w w' := by
  obtain ⟨x, y, p⟩ := m
  simp only at hw hh hn ⊢
  cases hs : sizeB x y with
  | false =>
    obtain ⟨W, hW⟩ : ∃ W, w.alloc (.cells #[.int .i64 x, .int .i64 y, .slice a n cap] 35) = W := ⟨_, rfl⟩
    have kW : Kept (fun _ => False) w W := by rw [← hW]; exact (Kept.refl _ w).alloc _
    have b0 : W.heap[w.heap.size]? = some (.cells #[.int .i64 x, .int .i64 y, .slice a n cap] 35 (0, 0)) := by rw [← hW]; exact blk_new _ _
    have HC := Lib.hid (fun w => show Calls Try.prog 51 #[.int .i64 x, .int .i64 y] w fun e w' => e = .returned (.bool false) ∧ w = w' from by have h := refSize_any x y w hw hh; rw [hs] at h; exact h)
    obtain ⟨⟨x0, -⟩, ⟨x1, -⟩, x2, -⟩ := blk3 b0
    have HK := Lib.hid kW
    clear b0 kW
    have HE := Lib.hid (show rightM ⟨x, y, p⟩ = false by unfold rightM; rw [hs]; rfl)
    clear hs hn hw hh
    go_enter Try.func21, Try.ntmps21
    go_wp2_with (go_at_call 51; refine (HC.out _).mono ?_; rintro e w' ⟨rfl, rfl⟩)
    go_ret
    exact ⟨ret_bool (by rw [HE.out]), HK.out⟩
  | true =>
    obtain ⟨W, hW⟩ : ∃ W, w.alloc (.cells #[.int .i64 x, .int .i64 y, .slice a n cap] 35) = W := ⟨_, rfl⟩
    have kW : Kept (fun _ => False) w W := by rw [← hW]; exact (Kept.refl _ w).alloc _
    have b0 : W.heap[w.heap.size]? = some (.cells #[.int .i64 x, .int .i64 y, .slice a n cap] 35 (0, 0)) := by rw [← hW]; exact blk_new _ _
    have HC := Lib.hid (fun w => show Calls Try.prog 51 #[.int .i64 x, .int .i64 y] w fun e w' => e = .returned (.bool true) ∧ w = w' from by have h := refSize_any x y w hw hh; rw [hs] at h; exact h)
    obtain ⟨⟨x0, -⟩, ⟨x1, -⟩, x2, -⟩ := blk3 b0
    have HK := Lib.hid kW
    clear b0 kW
    obtain ⟨a1, a2, a3, a4, a5, a6, -⟩ := sizeB_t hs
    have hp : 4 * x * y = 4 * (x * y) := Int.mul_assoc ..
    obtain ⟨q, hq⟩ : ∃ q, 4 * x * y = q := ⟨_, rfl⟩
    have q1 : 0 ≤ q := by omega
    have q2 : q ≤ 268435456 := by omega
    have HE := Lib.hid (show rightM ⟨x, y, p⟩ = decide ((n : Int) = q) by unfold rightM; simp only; rw [hs, hn, hq]; rfl)
    clear hs hn hp a5 a6 hw hh
    by_cases hz : (n : Int) = q
    · have gz : ((n : Int) == q) = true := by simp [hz]
      have HZ := Lib.hid hz
      clear hz
      go_enter Try.func21, Try.ntmps21
      go_wp2_with (go_at_call 51; refine (HC.out _).mono ?_; rintro e w' ⟨rfl, rfl⟩)
      go_ret
      exact ⟨ret_bool (by rw [HE.out]; exact (decide_eq_true HZ.out).symm), HK.out⟩
    · have gz : ((n : Int) == q) = false := by simp [hz]
      have HZ := Lib.hid hz
      clear hz
      go_enter Try.func21, Try.ntmps21
      go_wp2_with (go_at_call 51; refine (HC.out _).mono ?_; rintro e w' ⟨rfl, rfl⟩)
      go_ret
      exact ⟨ret_bool (by rw [HE.out]; exact (decide_eq_false HZ.out).symm), HK.out⟩
end Go.Proofs.Ytdjgmhbfohbenaa
