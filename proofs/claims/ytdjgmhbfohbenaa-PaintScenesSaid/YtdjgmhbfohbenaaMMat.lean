/- Several texts in one: Mat, LFits, Pix, Twin, DrawP, Put, RAt, RDraw. -/
import Derived.Test.YtdjgmhbfohbenaaMOne
import Derived.Lib.QuietBelow
import Derived.Deep.LoopGhost
import Derived.StillTailTactics
import Derived.Deep.RegionHeld3
import Derived.WalkLawsBesides
import Derived.WalkSpells
namespace Go.Proofs.Ytdjgmhbfohbenaa
open Go.RowKit Go.Sort
set_option linter.unusedVariables false
set_option linter.unusedSimpArgs false
/-- A callee that makes memory and changes none, met in a region that draws its order. -/
theorem quietC {f : FuncId} {args : Array Value} {V : World} {d : Nat} {os : Array Obj} {v : Value} (h : ∀ V', Kept (fun _ => False) V V' → Calls Try.prog f args V' fun e w' => e = .returned v ∧ Kept (fun _ => False) V' w') :
    Calls Try.prog f args (grow (redrawn V d) os) fun e w'' => e = .returned v ∧ ∃ p : Regrown, w'' = grow (redrawn V p.d) p.os :=
  Calls.regrown_of ((h _ (Kept.of_below (below_regrown V d os) (fun i h1 h2 => by omega))).mono fun _ _ ⟨a, b⟩ => ⟨a, b.below⟩)
theorem kept_of_regrown {V : World} (d : Nat) (os : Array Obj) : Kept (fun _ => False) V (grow (redrawn V d) os) := Kept.of_below (below_regrown V d os) (fun i h1 h2 => by omega)
theorem SlAt.up {k : IntKind} {w w' : World} {a : Option Addr} {n : Nat} {xs : List Int} (h : SlAt k w a n xs) (hk : Kept (fun _ => False) w w') : SlAt k w' a n xs := h.kept hk (fun _ _ _ _ h => h)
def sameM (a b : Mx) : Bool := decide (a.w = b.w ∧ a.h = b.h ∧ a.p = b.p)
def rightM (m : Mx) : Bool := sizeB m.w m.h && decide ((m.p.length : Int) = 4 * m.w * m.h)
def I64 (x : Int) : Prop := -9223372036854775808 ≤ x ∧ x ≤ 9223372036854775807
set_option maxRecDepth 100000 in
set_option maxHeartbeats 2000000 in
theorem of_any (x y : Int) (a : Option Addr) (n cap : Nat) (w : World) :
    Calls Try.prog 22 #[.agg #[.int .i64 x, .int .i64 y, .slice a n cap]] w fun e w' => e = .returned (.agg #[.int .i64 x, .int .i64 y, .slice a n cap]) ∧ Kept (fun _ => False) w w' := by
  obtain ⟨W, hW⟩ : ∃ W, (w.alloc (.cells #[.int .i64 x, .int .i64 y, .slice a n cap] 31)).alloc (.cells #[.int .i64 x, .int .i64 y, .slice a n cap] 35) = W := ⟨_, rfl⟩
  have b0 : W.heap[w.heap.size + 1]? = some (.cells #[.int .i64 x, .int .i64 y, .slice a n cap] 35 (0, 0)) := by rw [← hW]; exact blk_at _ _ (by simp)
  have HK := Lib.hid (show Kept (fun _ => False) w W by rw [← hW]; exact ((Kept.refl _ w).alloc _).alloc _)
  obtain ⟨⟨c0, -⟩, ⟨c1, -⟩, c2, -⟩ := blk3 b0
  clear b0
  go_enter Try.func22, Try.ntmps22
  go_wp2
  first
  | exact bodyPost_ret (v := .agg #[.int .i64 x, .int .i64 y, .slice a n cap]) (by simp [results, Try.results22, go_sem, c0, c1, c2]) rfl ⟨rfl, HK.out⟩
  | (go_region
     all_goals go_wp2
     all_goals exact bodyPost_ret (v := .agg #[.int .i64 x, .int .i64 y, .slice a n cap]) (by simp [results, Try.results22, go_sem, c0, c1, c2]) rfl ⟨rfl, HK.out.drew⟩)
set_option maxRecDepth 100000 in
set_option maxHeartbeats 2000000 in
theorem few_any (x y : Int) (a : Option Addr) (n cap : Nat) (w : World) (hn : n ≤ 9223372036854775807) :
    Calls Try.prog 20 #[.agg #[.int .i64 x, .int .i64 y, .slice a n cap]] w fun e w' => e = .returned (.bool (decide (n ≤ 16384))) ∧ Kept (fun _ => False) w w' := by
  go_enter Try.func20, Try.ntmps20
  go_wp2
  all_goals
    go_ret
    exact ⟨ret_bool (by first | rfl | (simp; omega) | exact decide_eq_decide.2 (by omega)), (Kept.refl _ _).alloc _⟩
set_option maxRecDepth 100000 in
set_option maxHeartbeats 2000000 in
theorem rsame_any (m1 m2 : Mx) (a1 a2 : Option Addr) (n1 n2 c1 c2 : Nat) (w : World) (h1 : SlAt .u8 w a1 n1 m1.p) (h2 : SlAt .u8 w a2 n2 m2.p) (hb1 : IsBytes m1.p) (hb2 : IsBytes m2.p) :
    Calls Try.prog 42 #[mat m1.w m1.h a1 n1 c1, mat m2.w m2.h a2 n2 c2] w fun e w' => e = .returned (.bool (sameM m1 m2)) ∧ Kept (fun _ => False) w w' := by
  obtain ⟨w1, h1', p1⟩ := m1
  obtain ⟨w2, h2', p2⟩ := m2
  simp only at h1 h2 hb1 hb2
  unfold mat
  simp only
  obtain ⟨W, hW⟩ : ∃ W, (w.alloc (.cells #[.int .i64 w1, .int .i64 h1', .slice a1 n1 c1] 35)).alloc (.cells #[.int .i64 w2, .int .i64 h2', .slice a2 n2 c2] 35) = W := ⟨_, rfl⟩
  have kW : Kept (fun _ => False) w W := by rw [← hW]; exact ((Kept.refl _ w).alloc _).alloc _
  have b0 : W.heap[w.heap.size]? = some (.cells #[.int .i64 w1, .int .i64 h1', .slice a1 n1 c1] 35 (0, 0)) := by rw [← hW]; exact blk_alloc (blk_new _ _) _
  have b1 : W.heap[w.heap.size + 1]? = some (.cells #[.int .i64 w2, .int .i64 h2', .slice a2 n2 c2] 35 (0, 0)) := by rw [← hW]; exact blk_at _ _ (by simp)
  have s1 := run_str (P := Try.prog) (dst := 9) Try.underlying29 Try.underlying5 Try.underlying9 (cap := c1) (h1.up kW)
  have s2 := run_str (P := Try.prog) (dst := 9) Try.underlying29 Try.underlying5 Try.underlying9 (cap := c2) (h2.up kW)
  have HK := Lib.hid kW
  obtain ⟨⟨x0, -⟩, ⟨x1, -⟩, x2, -⟩ := blk3 b0
  obtain ⟨⟨y0, -⟩, ⟨y1, -⟩, y2, -⟩ := blk3 b1
  clear b0 b1 kW h1 h2
  by_cases z1 : w1 = w2
  · have g1 : (w1 == w2) = true := by simp [z1]
    by_cases z2 : h1' = h2'
    · have g2 : (h1' == h2') = true := by simp [z2]
      have e := str_eq hb1 hb2
      have HE : Hid (sameM ⟨w1, h1', p1⟩ ⟨w2, h2', p2⟩ = ((strOfNums p1).toList == (strOfNums p2).toList)) := by
        show sameM ⟨w1, h1', p1⟩ ⟨w2, h2', p2⟩ = ((strOfNums p1).toList == (strOfNums p2).toList)
        rw [e]; unfold sameM; simp [z1, z2]
      clear z1 z2 e hb1 hb2
      go_enter Try.func42, Try.ntmps42
      go_wp2
      go_ret
      exact ⟨ret_bool (by rw [HE.out]), HK.out⟩
    · have g2 : (h1' == h2') = false := by simp [z2]
      have HE := Lib.hid (show sameM ⟨w1, h1', p1⟩ ⟨w2, h2', p2⟩ = false from decide_eq_false (fun h => z2 h.2.1))
      clear z1 z2 hb1 hb2
      go_enter Try.func42, Try.ntmps42
      go_wp2
      go_ret
      exact ⟨ret_bool (by rw [HE.out]), HK.out⟩
  · have g1 : (w1 == w2) = false := by simp [z1]
    have HE := Lib.hid (show sameM ⟨w1, h1', p1⟩ ⟨w2, h2', p2⟩ = false from decide_eq_false (fun h => z1 h.1))
    clear z1 hb1 hb2
    go_enter Try.func42, Try.ntmps42
    go_wp2
    go_ret
    exact ⟨ret_bool (by rw [HE.out]), HK.out⟩
set_option maxRecDepth 100000 in
set_option maxHeartbeats 2000000 in
theorem alike_any (m1 m2 : Mx) (a1 a2 : Option Addr) (n1 n2 c1 c2 : Nat) (w : World) (h1 : SlAt .u8 w a1 n1 m1.p) (h2 : SlAt .u8 w a2 n2 m2.p) (hb1 : IsBytes m1.p) (hb2 : IsBytes m2.p) :
    Calls Try.prog 14 #[mat m1.w m1.h a1 n1 c1, mat m2.w m2.h a2 n2 c2] w fun e w' => e = .returned (.bool (sameM m1 m2)) ∧ Kept (fun _ => False) w w' := by
  unfold mat
  obtain ⟨W, hW⟩ : ∃ W, (w.alloc (.cells #[.int .i64 m1.w, .int .i64 m1.h, .slice a1 n1 c1] 31)).alloc (.cells #[.int .i64 m2.w, .int .i64 m2.h, .slice a2 n2 c2] 35) = W := ⟨_, rfl⟩
  have kW : Kept (fun _ => False) w W := by rw [← hW]; exact ((Kept.refl _ w).alloc _).alloc _
  have b0 : W.heap[w.heap.size]? = some (.cells #[.int .i64 m1.w, .int .i64 m1.h, .slice a1 n1 c1] 31 (0, 0)) := by rw [← hW]; exact blk_alloc (blk_new _ _) _
  have b1 : W.heap[w.heap.size + 1]? = some (.cells #[.int .i64 m2.w, .int .i64 m2.h, .slice a2 n2 c2] 35 (0, 0)) := by rw [← hW]; exact blk_at _ _ (by simp)
  have D1 := Lib.hid (fun (V' : World) (hk : Kept (fun _ => False) W V') => of_any m1.w m1.h a1 n1 c1 V')
  have D2 := Lib.hid (fun (V' : World) (hk : Kept (fun _ => False) W V') => show Calls Try.prog 42 #[.agg #[.int .i64 m1.w, .int .i64 m1.h, .slice a1 n1 c1], .agg #[.int .i64 m2.w, .int .i64 m2.h, .slice a2 n2 c2]] V' fun e w' => e = .returned (.bool (sameM m1 m2)) ∧ Kept (fun _ => False) V' w' from rsame_any m1 m2 a1 a2 n1 n2 c1 c2 V' (h1.up (kW.then hk)) (h2.up (kW.then hk)) hb1 hb2)
  have HK := Lib.hid kW
  obtain ⟨⟨x0, -⟩, ⟨x1, -⟩, x2, -⟩ := blk3 b0
  obtain ⟨⟨y0, -⟩, ⟨y1, -⟩, y2, -⟩ := blk3 b1
  have X0 := cell_regrown x0
  have X1 := cell_regrown x1
  have X2 := cell_regrown x2
  have Y0 := cell_regrown y0
  have Y1 := cell_regrown y1
  have Y2 := cell_regrown y2
  clear b0 b1 kW h1 h2 x0 x1 x2 y0 y1 y2
  go_enter Try.func14, Try.ntmps14
  go_wp2
  refine wp_region_quiet_below (by kernel_rfl) (by kernel_rfl) ?_
  repeat (quiet_step (first | with_reducible exact quietC D1.out | with_reducible exact quietC D2.out))
  refine wpQuiet_nil ?_
  rintro _ ⟨⟨dd, os⟩, rfl⟩
  go_wp2
  go_ret
  exact ⟨rfl, HK.out.then (kept_of_regrown dd os)⟩
set_option maxRecDepth 100000 in
set_option maxHeartbeats 2000000 in
theorem right_any (m : Mx) (a : Option Addr) (n cap : Nat) (w : World) (hw : I64 m.w) (hh : I64 m.h) (hn : m.p.length = n) (hn2 : n ≤ 9223372036854775807) :
    Calls Try.prog 63 #[.agg #[.int .i64 m.w, .int .i64 m.h, .slice a n cap]] w fun e w' => e = .returned (.bool (rightM m)) ∧ Kept (fun _ => False) w w' := by
  obtain ⟨x, y, p⟩ := m
  simp only at hw hh hn ⊢
  cases hs : sizeB x y with
  | false =>
    obtain ⟨W, hW⟩ : ∃ W, w.alloc (.cells #[.int .i64 x, .int .i64 y, .slice a n cap] 31) = W := ⟨_, rfl⟩
    have kW : Kept (fun _ => False) w W := by rw [← hW]; exact (Kept.refl _ w).alloc _
    have b0 : W.heap[w.heap.size]? = some (.cells #[.int .i64 x, .int .i64 y, .slice a n cap] 31 (0, 0)) := by rw [← hW]; exact blk_new _ _
    have HC := Lib.hid (fun w => show Calls Try.prog 65 #[.int .i64 x, .int .i64 y] w fun e w' => e = .returned (.bool false) ∧ w = w' from by have h := size_any x y w hw hh; rw [hs] at h; exact h)
    obtain ⟨⟨x0, -⟩, ⟨x1, -⟩, x2, -⟩ := blk3 b0
    have HK := Lib.hid kW
    clear b0 kW
    have HE := Lib.hid (show rightM ⟨x, y, p⟩ = false by unfold rightM; rw [hs]; rfl)
    clear hs hn hw hh
    go_enter Try.func63, Try.ntmps63
    go_wp2_with (go_at_call 65; refine (HC.out _).mono ?_; rintro e w' ⟨rfl, rfl⟩)
    go_ret
    exact ⟨ret_bool (by rw [HE.out]), HK.out⟩
  | true =>
    obtain ⟨W, hW⟩ : ∃ W, w.alloc (.cells #[.int .i64 x, .int .i64 y, .slice a n cap] 31) = W := ⟨_, rfl⟩
    have kW : Kept (fun _ => False) w W := by rw [← hW]; exact (Kept.refl _ w).alloc _
    have b0 : W.heap[w.heap.size]? = some (.cells #[.int .i64 x, .int .i64 y, .slice a n cap] 31 (0, 0)) := by rw [← hW]; exact blk_new _ _
    have HC := Lib.hid (fun w => show Calls Try.prog 65 #[.int .i64 x, .int .i64 y] w fun e w' => e = .returned (.bool true) ∧ w = w' from by have h := size_any x y w hw hh; rw [hs] at h; exact h)
    obtain ⟨⟨x0, -⟩, ⟨x1, -⟩, x2, -⟩ := blk3 b0
    have HK := Lib.hid kW
    clear b0 kW
    obtain ⟨a1, a2, a3, a4, a5, a6, -⟩ := sizeB_t hs
    have hp : 4 * x * y = 4 * (x * y) := Int.mul_assoc ..
    obtain ⟨q, hq⟩ : ∃ q, 4 * x * y = q := ⟨_, rfl⟩
    have q1 : 0 ≤ q := by omega
    have q2 : q ≤ 268435456 := by omega
    have HE := Lib.hid (show rightM ⟨x, y, p⟩ = decide ((n : Int) = q) by unfold rightM; simp only; rw [hs, hn, hq]; rfl)
    clear hs hn hp a5 a6 hw hh
    by_cases hz : (n : Int) = q
    · have gz : ((n : Int) == q) = true := by simp [hz]
      have HZ := Lib.hid hz
      clear hz
      go_enter Try.func63, Try.ntmps63
      go_wp2_with (go_at_call 65; refine (HC.out _).mono ?_; rintro e w' ⟨rfl, rfl⟩)
      go_ret
      exact ⟨ret_bool (by rw [HE.out]; exact (decide_eq_true HZ.out).symm), HK.out⟩
    · have gz : ((n : Int) == q) = false := by simp [hz]
      have HZ := Lib.hid hz
      clear hz
      go_enter Try.func63, Try.ntmps63
      go_wp2_with (go_at_call 65; refine (HC.out _).mono ?_; rintro e w' ⟨rfl, rfl⟩)
      go_ret
      exact ⟨ret_bool (by rw [HE.out]; exact (decide_eq_false HZ.out).symm), HK.out⟩
set_option maxRecDepth 100000 in
set_option maxHeartbeats 2000000 in
theorem rright_any (m : Mx) (a : Option Addr) (n cap : Nat) (w : World) (hw : I64 m.w) (hh : I64 m.h) (hn : m.p.length = n) (hn2 : n ≤ 9223372036854775807) :
    Calls Try.prog 21 #[.agg #[.int .i64 m.w, .int .i64 m.h, .slice a n cap]] w fun e w' => e = .returned (.bool (rightM m)) ∧ Kept (fun _ => False) w w' := by
  obtain ⟨x, y, p⟩ := m
  simp only at hw hh hn ⊢
  cases hs : sizeB x y with
  | false =>
    obtain ⟨W, hW⟩ : ∃ W, w.alloc (.cells #[.int .i64 x, .int .i64 y, .slice a n cap] 35) = W := ⟨_, rfl⟩
    have kW : Kept (fun _ => False) w W := by rw [← hW]; exact (Kept.refl _ w).alloc _
    have b0 : W.heap[w.heap.size]? = some (.cells #[.int .i64 x, .int .i64 y, .slice a n cap] 35 (0, 0)) := by rw [← hW]; exact blk_new _ _
    have HC := Lib.hid (fun w => show Calls Try.prog 51 #[.int .i64 x, .int .i64 y] w fun e w' => e = .returned (.bool false) ∧ w = w' from by have h := refSize_any x y w hw hh; rw [hs] at h; exact h)
    obtain ⟨⟨x0, -⟩, ⟨x1, -⟩, x2, -⟩ := blk3 b0
    have HK := Lib.hid kW
    clear b0 kW
    have HE := Lib.hid (show rightM ⟨x, y, p⟩ = false by unfold rightM; rw [hs]; rfl)
    clear hs hn hw hh
    go_enter Try.func21, Try.ntmps21
    go_wp2_with (go_at_call 51; refine (HC.out _).mono ?_; rintro e w' ⟨rfl, rfl⟩)
    go_ret
    exact ⟨ret_bool (by rw [HE.out]), HK.out⟩
  | true =>
    obtain ⟨W, hW⟩ : ∃ W, w.alloc (.cells #[.int .i64 x, .int .i64 y, .slice a n cap] 35) = W := ⟨_, rfl⟩
    have kW : Kept (fun _ => False) w W := by rw [← hW]; exact (Kept.refl _ w).alloc _
    have b0 : W.heap[w.heap.size]? = some (.cells #[.int .i64 x, .int .i64 y, .slice a n cap] 35 (0, 0)) := by rw [← hW]; exact blk_new _ _
    have HC := Lib.hid (fun w => show Calls Try.prog 51 #[.int .i64 x, .int .i64 y] w fun e w' => e = .returned (.bool true) ∧ w = w' from by have h := refSize_any x y w hw hh; rw [hs] at h; exact h)
    obtain ⟨⟨x0, -⟩, ⟨x1, -⟩, x2, -⟩ := blk3 b0
    have HK := Lib.hid kW
    clear b0 kW
    obtain ⟨a1, a2, a3, a4, a5, a6, -⟩ := sizeB_t hs
    have hp : 4 * x * y = 4 * (x * y) := Int.mul_assoc ..
    obtain ⟨q, hq⟩ : ∃ q, 4 * x * y = q := ⟨_, rfl⟩
    have q1 : 0 ≤ q := by omega
    have q2 : q ≤ 268435456 := by omega
    have HE := Lib.hid (show rightM ⟨x, y, p⟩ = decide ((n : Int) = q) by unfold rightM; simp only; rw [hs, hn, hq]; rfl)
    clear hs hn hp a5 a6 hw hh
    by_cases hz : (n : Int) = q
    · have gz : ((n : Int) == q) = true := by simp [hz]
      have HZ := Lib.hid hz
      clear hz
      go_enter Try.func21, Try.ntmps21
      go_wp2_with (go_at_call 51; refine (HC.out _).mono ?_; rintro e w' ⟨rfl, rfl⟩)
      go_ret
      exact ⟨ret_bool (by rw [HE.out]; exact (decide_eq_true HZ.out).symm), HK.out⟩
    · have gz : ((n : Int) == q) = false := by simp [hz]
      have HZ := Lib.hid hz
      clear hz
      go_enter Try.func21, Try.ntmps21
      go_wp2_with (go_at_call 51; refine (HC.out _).mono ?_; rintro e w' ⟨rfl, rfl⟩)
      go_ret
      exact ⟨ret_bool (by rw [HE.out]; exact (decide_eq_false HZ.out).symm), HK.out⟩
end Go.Proofs.Ytdjgmhbfohbenaa
namespace Go.Proofs.Ytdjgmhbfohbenaa
open Go.RowKit 
set_option linter.unusedVariables false
set_option linter.unusedSimpArgs false
theorem tab_set {n : Nat} {f : Nat → Int} {i : Nat} (h : i < n) (v : Int) : (tab n f).set i v = tab n (fun j => if j = i then v else f j) := by
  refine list_ext (by simp [tab_length]) (fun j hj => ?_)
  simp only [List.length_set, tab_length] at hj
  rw [getD_set (by rw [tab_length]; exact h), tab_get (f := f) hj, tab_get (f := fun j => if j = i then v else f j) hj]
set_option maxRecDepth 100000 in
set_option maxHeartbeats 4000000 in
theorem rnew_no (w h : Int) (wd : World) (hw : I64 w) (hh : I64 h) (hs : sizeB w h = false) :
    Calls Try.prog 35 #[.int .i64 w, .int .i64 h] wd fun e w' => e = .returned (.tuple #[mat0, .int .i64 1]) ∧ Kept (fun _ => False) wd w' := by
  have HC := Lib.hid (fun wd => show Calls Try.prog 51 #[.int .i64 w, .int .i64 h] wd fun e w' => e = .returned (.bool false) ∧ wd = w' from by have h := refSize_any w h wd hw hh; rw [hs] at h; exact h)
  clear hs hw hh
  go_enter Try.func35, Try.ntmps35
  go_wp2_with (go_at_call 51; refine (HC.out _).mono ?_; rintro e w' ⟨rfl, rfl⟩)
  refine bodyPost_ret (v := .tuple #[mat0, .int .i64 1]) (by simp [results, Try.results35, go_sem, mat0, mat]) rfl ⟨rfl, ?_⟩
  repeat (first | apply Kept.alloc | apply Kept.drew)
  exact Kept.refl _ _

set_option maxRecDepth 100000 in
set_option maxHeartbeats 4000000 in
theorem rnew_yes (w h : Int) (wd : World) (hs : sizeB w h = true) :
    Calls Try.prog 35 #[.int .i64 w, .int .i64 h] wd fun e w' => ∃ g n : Nat, (n : Int) = 4 * w * h ∧ e = .returned (.tuple #[mat w h (some ⟨g, 0, none⟩) n n, .int .i64 0]) ∧ wd.heap.size ≤ g ∧ Own .u8 5 w' (.slice (some ⟨g, 0, none⟩) n n) (List.replicate n 0) ∧ Kept (fun _ => False) wd w' := by
  obtain ⟨a1, a2, a3, a4, a5, a6, -⟩ := sizeB_t hs
  obtain ⟨i0, hi, hz0, hz1, hz2⟩ := info_parts Try.info5
  have hp : 4 * w * h = 4 * (w * h) := Int.mul_assoc ..
  obtain ⟨n, hn⟩ : ∃ n : Nat, (n : Int) = 4 * w * h := ⟨(4 * w * h).toNat, by omega⟩
  have hnb : n ≤ 268435456 := by omega
  have HN := Lib.hid hn
  have hn' : 4 * w * h = (n : Int) := hn.symm
  clear hn hp
  go_enter Try.func35, Try.ntmps35
  go_wp2_with (first
    | (go_at_call 51; refine (refSize_any _ _ _ (by omega) (by omega)).mono ?_; rw [hs]; rintro e w' ⟨rfl, rfl⟩)
    | (refine wpList_makeInts rfl (.tmp 16) (.tmp 16) 29 rfl 5 .u8 i0 1 Try.underlying29 hi hz0 hz1 hz2 .i64 .i64 _ _ n rfl rfl rfl rfl (by omega) (by simp [maxLen]; omega) ?_; intro w2 ho2 hk2 hs2; have hb2 := hk2.blk (blk_new wd _) id; obtain ⟨⟨c0, f0⟩, ⟨c1, f1⟩, c2, f2⟩ := blk3 hb2; have HO := Lib.hid ho2; clear ho2 hb2))
  have ho := HO.out
  rw [World.size_alloc] at ho hs2
  refine bodyPost_ret (v := .tuple #[mat w h (some ⟨wd.heap.size + 1, 0, none⟩) n n, .int .i64 0]) (by simp [results, Try.results35, go_sem, mat, c0, c1, c2]) rfl ⟨wd.heap.size + 1, n, HN.out, rfl, by omega, ?_, ?_⟩
  · refine ho.kept (S := fun k => k = wd.heap.size) ?_ (fun b h => by cases h; exact Nat.succ_ne_self _)
    repeat (refine Kept.setCell ?_ (Or.inl (by rfl)) _)
    exact Kept.refl _ _
  · repeat (refine Kept.setCell ?_ (Or.inr (by exact Nat.le_refl _)) _)
    exact (Kept.trans ((Kept.refl _ wd).alloc _) (hk2.mono (fun _ _ h => h.elim)))

def newS (w h : Int) : Mx × Int := if sizeB w h = true then (⟨w, h, List.replicate (4 * w * h).toNat 0⟩, 0) else (⟨0, 0, []⟩, 1)
theorem new_any (w h : Int) (wd : World) (hw : I64 w) (hh : I64 h) :
    Calls Try.prog 33 #[.int .i64 w, .int .i64 h] wd fun e w' => ∃ v, e = .returned (.tuple #[v, .int .i64 (newS w h).2]) ∧ IsMx wd.heap.size w' v (newS w h).1 ∧ Kept (fun _ => False) wd w' := by
  unfold newS
  by_cases hs : sizeB w h = true
  · rw [if_pos hs]
    refine (new_yes w h wd hs).mono fun e w' ⟨g, n, hn, he, hg, ho, hk⟩ => ⟨_, he, ?_, hk⟩
    rw [show (4 * w * h).toNat = n by omega]
    exact IsMx.of_own ho hg
  · rw [if_neg hs]
    exact (new_no w h wd hw hh (by simpa using hs)).mono fun e w' ⟨he, hk⟩ => ⟨_, he, isMx0 _ _, hk⟩
theorem rnew_any (w h : Int) (wd : World) (hw : I64 w) (hh : I64 h) :
    Calls Try.prog 35 #[.int .i64 w, .int .i64 h] wd fun e w' => ∃ v, e = .returned (.tuple #[v, .int .i64 (newS w h).2]) ∧ IsMx wd.heap.size w' v (newS w h).1 ∧ Kept (fun _ => False) wd w' := by
  unfold newS
  by_cases hs : sizeB w h = true
  · rw [if_pos hs]
    refine (rnew_yes w h wd hs).mono fun e w' ⟨g, n, hn, he, hg, ho, hk⟩ => ⟨_, he, ?_, hk⟩
    rw [show (4 * w * h).toNat = n by omega]
    exact IsMx.of_own ho hg
  · rw [if_neg hs]
    exact (rnew_no w h wd hw hh (by simpa using hs)).mono fun e w' ⟨he, hk⟩ => ⟨_, he, isMx0 _ _, hk⟩

theorem newS_bytes (w h : Int) : IsBytes (newS w h).1.p := by
  unfold newS
  split
  · intro n hn; simp at hn; omega
  · intro n hn; cases hn
theorem getD_byte {xs : List Int} (h : IsBytes xs) (j : Nat) : 0 ≤ xs.getD j 0 ∧ xs.getD j 0 < 256 := by
  by_cases hj : j < xs.length
  · rw [List.getD_eq_getElem?_getD, List.getElem?_eq_getElem hj]; exact h _ (List.getElem_mem _)
  · rw [List.getD_eq_getElem?_getD, List.getElem?_eq_none (by omega)]; simp
theorem sameM_self (m : Mx) : sameM m m = true := decide_eq_true ⟨rfl, rfl, rfl⟩
theorem ub_of {k : IntKind} {w : World} {a : Option Addr} {n : Nat} {xs : List Int} (h : SlAt k w a n xs) : ∀ b off, 0 < n → a = some ⟨b, off, none⟩ → b < w.heap.size := by
  intro b off h0 he
  obtain ⟨b', o', he', hc⟩ := h.2.resolve_left (by omega)
  rw [he] at he'; cases he'
  exact lt_of_cell (hc 0 h0)

theorem spl_tab {n o : Nat} {f : Nat → Int} {ys : List Int} (h : o + ys.length ≤ n) : spl (tab n f) o ys = tab n (fun j => if o ≤ j ∧ j < o + ys.length then ys.getD (j - o) 0 else f j) := by
  refine list_ext (by rw [spl_length (by rw [tab_length]; exact h), tab_length, tab_length]) (fun j hj => ?_)
  rw [spl_length (by rw [tab_length]; exact h), tab_length] at hj
  rw [spl_get (by rw [tab_length]; exact h), tab_get (f := fun j => if o ≤ j ∧ j < o + ys.length then ys.getD (j - o) 0 else f j) hj, tab_get (f := f) hj]
/-- The pixel of the old matrix for the pixel number P of the new one. -/
def srcP (W H MW MH P : Nat) : Nat := P / W * MH / H * MW + P % W * MW / W
def fitF (W H MW MH : Nat) (p : List Int) (q : Nat) : Int := p.getD (4 * srcP W H MW MH (q / 4) + q % 4) 0
def fitK (W H MW MH : Nat) (p : List Int) (P q : Nat) : Int := if q < 4 * P then fitF W H MW MH p q else 0
theorem fit_idx {W H x y : Nat} (hx : x < W) (hy : y < H) : y * W + x < W * H := by
  have : (y + 1) * W ≤ H * W := Nat.mul_le_mul_right _ hy
  rw [Nat.mul_comm H W] at this
  have h2 : (y + 1) * W = y * W + W := Nat.succ_mul y W
  omega
theorem div_lt {a b c : Nat} (ha : a < b) (hb : 0 < c) : a * c / b < c := by
  apply Nat.div_lt_of_lt_mul
  rw [Nat.mul_comm b c, Nat.mul_comm a c]
  exact (Nat.mul_lt_mul_left hb).2 ha
theorem fit_src {W H MW MH x y : Nat} (hx : x < W) (hy : y < H) (h1 : 0 < MW) (h2 : 0 < MH) :
    srcP W H MW MH (y * W + x) = y * MH / H * MW + x * MW / W ∧ y * MH / H * MW + x * MW / W < MW * MH := by
  have hW : 0 < W := by omega
  have e1 : (y * W + x) / W = y := by rw [Nat.add_comm, Nat.mul_comm, Nat.add_mul_div_left _ _ hW, Nat.div_eq_of_lt hx]; omega
  have e2 : (y * W + x) % W = x := by rw [Nat.add_comm, Nat.mul_comm, Nat.add_mul_mod_self_left, Nat.mod_eq_of_lt hx]
  refine ⟨by unfold srcP; rw [e1, e2], ?_⟩
  have a1 := div_lt hy h2
  have a2 := div_lt hx h1
  exact fit_idx a2 a1
theorem fitK_s (W H MW MH : Nat) (p : List Int) (P n : Nat) (hP : 4 * P + 4 ≤ n) (Q : Nat) (hQ : srcP W H MW MH P = Q) (ys : List Int) (hl : ys.length = 4) (hy : ∀ j, j < 4 → ys.getD j 0 = p.getD (4 * Q + j) 0) :
    spl (tab n (fitK W H MW MH p P)) (4 * P) ys = tab n (fitK W H MW MH p (P + 1)) := by
  rw [spl_tab (by omega)]
  refine tab_ext fun j hj => ?_
  unfold fitK
  by_cases h1 : j < 4 * P
  · have h2 : ¬ (4 * P ≤ j ∧ j < 4 * P + ys.length) := by omega
    have h3 : j < 4 * (P + 1) := by omega
    simp only [h1, h2, h3, if_true, if_false]
  · by_cases h3 : j < 4 * (P + 1)
    · have h2 : 4 * P ≤ j ∧ j < 4 * P + ys.length := by omega
      rw [if_pos h2, if_pos h3, hy (j - 4 * P) (by omega)]
      unfold fitF
      have e1 : j / 4 = P := by omega
      have e2 : j % 4 = j - 4 * P := by omega
      rw [e1, e2, hQ]
    · have h2 : ¬ (4 * P ≤ j ∧ j < 4 * P + ys.length) := by omega
      simp only [h1, h2, h3, if_false]

theorem same_str {xs ys : List Int} (hx : IsBytes xs) (hy : IsBytes ys) : ((strOfNums xs).toList == (strOfNums ys).toList) = decide (xs = ys) := str_eq hx hy

set_option maxRecDepth 100000 in
set_option maxHeartbeats 8000000 in
theorem equal_any (xs ys : List Int) (a1 a2 : Option Addr) (n1 n2 c1 c2 : Nat) (w : World) (h1 : SlAt .u8 w a1 n1 xs) (h2 : SlAt .u8 w a2 n2 ys) (hb1 : IsBytes xs) (hb2 : IsBytes ys) :
    Calls Try.prog 61 #[.slice a1 n1 c1, .slice a2 n2 c2] w fun e w' => e = .returned (.bool (decide (xs = ys))) ∧ w = w' := by
  have s1 := run_str (P := Try.prog) (dst := 9) Try.underlying29 Try.underlying5 Try.underlying9 (cap := c1) h1
  have s2 := run_str (P := Try.prog) (dst := 9) Try.underlying29 Try.underlying5 Try.underlying9 (cap := c2) h2
  have HE := Lib.hid (str_eq hb1 hb2)
  clear h1 h2 hb1 hb2
  go_enter Try.func61, Try.ntmps61
  go_wp2
  go_ret
  exact ⟨ret_bool HE.out, rfl⟩

set_option maxRecDepth 100000 in
set_option maxHeartbeats 8000000 in
theorem same_any (m1 m2 : Mx) (a1 a2 : Option Addr) (n1 n2 c1 c2 : Nat) (w : World) (h1 : SlAt .u8 w a1 n1 m1.p) (h2 : SlAt .u8 w a2 n2 m2.p) (hb1 : IsBytes m1.p) (hb2 : IsBytes m2.p) :
    Calls Try.prog 29 #[.agg #[.int .i64 m1.w, .int .i64 m1.h, .slice a1 n1 c1], .agg #[.int .i64 m2.w, .int .i64 m2.h, .slice a2 n2 c2]] w fun e w' => e = .returned (.bool (sameM m1 m2)) ∧ Kept (fun _ => False) w w' := by
  obtain ⟨w1, h1', p1⟩ := m1
  obtain ⟨w2, h2', p2⟩ := m2
  simp only at h1 h2 hb1 hb2 ⊢
  obtain ⟨W, hW⟩ : ∃ W, (w.alloc (.cells #[.int .i64 w1, .int .i64 h1', .slice a1 n1 c1] 31)).alloc (.cells #[.int .i64 w2, .int .i64 h2', .slice a2 n2 c2] 31) = W := ⟨_, rfl⟩
  have kW : Kept (fun _ => False) w W := by rw [← hW]; exact ((Kept.refl _ w).alloc _).alloc _
  have b0 : W.heap[w.heap.size]? = some (.cells #[.int .i64 w1, .int .i64 h1', .slice a1 n1 c1] 31 (0, 0)) := by rw [← hW]; exact blk_alloc (blk_new _ _) _
  have b1 : W.heap[w.heap.size + 1]? = some (.cells #[.int .i64 w2, .int .i64 h2', .slice a2 n2 c2] 31 (0, 0)) := by rw [← hW]; exact blk_at _ _ (by simp)
  have HC := Lib.hid (equal_any p1 p2 a1 a2 n1 n2 c1 c2 W (h1.up kW) (h2.up kW) hb1 hb2)
  have HK := Lib.hid kW
  obtain ⟨⟨x0, -⟩, ⟨x1, -⟩, x2, -⟩ := blk3 b0
  obtain ⟨⟨y0, -⟩, ⟨y1, -⟩, y2, -⟩ := blk3 b1
  clear b0 b1 kW h1 h2 hb1 hb2
  by_cases z1 : w1 = w2
  · have g1 : (w1 == w2) = true := by simp [z1]
    by_cases z2 : h1' = h2'
    · have g2 : (h1' == h2') = true := by simp [z2]
      have HE := Lib.hid (show sameM ⟨w1, h1', p1⟩ ⟨w2, h2', p2⟩ = decide (p1 = p2) by unfold sameM; simp [z1, z2])
      clear z1 z2
      go_enter Try.func29, Try.ntmps29
      go_wp2_with (go_at_call 61; refine HC.out.mono ?_; rintro e w' ⟨rfl, rfl⟩)
      go_ret
      exact ⟨ret_bool (by rw [HE.out]), HK.out⟩
    · have g2 : (h1' == h2') = false := by simp [z2]
      have HE := Lib.hid (show sameM ⟨w1, h1', p1⟩ ⟨w2, h2', p2⟩ = false from decide_eq_false (fun h => z2 h.2.1))
      clear z1 z2
      go_enter Try.func29, Try.ntmps29
      go_wp2
      go_ret
      exact ⟨ret_bool (by rw [HE.out]), HK.out⟩
  · have g1 : (w1 == w2) = false := by simp [z1]
    have HE := Lib.hid (show sameM ⟨w1, h1', p1⟩ ⟨w2, h2', p2⟩ = false from decide_eq_false (fun h => z1 h.1))
    clear z1
    go_enter Try.func29, Try.ntmps29
    go_wp2
    go_ret
    exact ⟨ret_bool (by rw [HE.out]), HK.out⟩
/-! ### the plain law -/
theorem fitF_bytes (W H MW MH k : Nat) {p : List Int} (hp : IsBytes p) : IsBytes (tab k (fitF W H MW MH p)) := by
  intro n hn
  simp only [tab, List.mem_map] at hn
  obtain ⟨q, -, rfl⟩ := hn
  exact getD_byte hp _

end Go.Proofs.Ytdjgmhbfohbenaa
namespace Go.Proofs.Ytdjgmhbfohbenaa
open Go.RowKit Go.Sort
set_option linter.unusedVariables false
set_option linter.unusedSimpArgs false
def partS (at' n side : Int) : Int × Int := if n < 1 ∨ side ≤ at' ∨ at' ≤ -(min n 1048576) then (0, 0) else (max at' 0, min side (at' + min n 1048576))
theorem tup2 {a b c d : Int} (h1 : a = c) (h2 : b = d) : Ending.returned (.tuple #[.int .i64 a, .int .i64 b]) = .returned (.tuple #[.int .i64 c, .int .i64 d]) := by rw [h1, h2]
theorem partS_no {at' n side : Int} (h : n < 1 ∨ side ≤ at' ∨ at' ≤ -(min n 1048576)) : partS at' n side = (0, 0) := if_pos h
theorem partS_yes {at' n side : Int} (h : ¬ (n < 1 ∨ side ≤ at' ∨ at' ≤ -(min n 1048576))) : partS at' n side = (max at' 0, min side (at' + min n 1048576)) := if_neg h
theorem partS_bd (at' n side : Int) (hs : 0 ≤ side) : 0 ≤ (partS at' n side).1 ∧ (partS at' n side).2 ≤ side ∧ 0 ≤ (partS at' n side).2 ∧ (partS at' n side).1 ≤ side := by
  unfold partS; split
  · simp; exact hs
  · simp only; omega
set_option maxRecDepth 100000 in
set_option maxHeartbeats 4000000 in
theorem part_any (at' n side : Int) (w : World) (ha : I64 at') (hn : I64 n) (hs : 0 ≤ side ∧ side ≤ 16384) :
    Calls Try.prog 62 #[.int .i64 at', .int .i64 n, .int .i64 side] w fun e w' => e = .returned (.tuple #[.int .i64 (partS at' n side).1, .int .i64 (partS at' n side).2]) ∧ w = w' := by
  unfold I64 at ha hn
  obtain ⟨a1, a2⟩ := ha
  obtain ⟨n1, n2⟩ := hn
  obtain ⟨s1, s2⟩ := hs
  by_cases h1 : n < 1
  · have g1 : decide (n < 1) = true := decide_eq_true h1
    rw [partS_no (.inl h1)]
    clear h1
    go_enter Try.func62, Try.ntmps62
    go_wp2
    go_ret2
    exact ⟨rfl, rfl⟩
  have g1 : decide (n < 1) = false := decide_eq_false h1
  by_cases h2 : side ≤ at'
  · have g2 : decide (side ≤ at') = true := decide_eq_true h2
    rw [partS_no (.inr (.inl h2))]
    clear h1 h2
    go_enter Try.func62, Try.ntmps62
    go_wp2
    go_ret2
    exact ⟨rfl, rfl⟩
  have g2 : decide (side ≤ at') = false := decide_eq_false h2
  by_cases h3 : at' ≤ -(min n 1048576)
  · rw [partS_no (.inr (.inr h3))]
    by_cases h4 : at' = -9223372036854775808
    · subst h4
      clear a1 a2
      go_enter Try.func62, Try.ntmps62
      go_wp2
      all_goals go_ret2
      all_goals have hw : wrap64 9223372036854775808 = -9223372036854775808 := by unfold wrap64; rfl
      all_goals exact ⟨tup2 (by first | rfl | omega) (by first | rfl | omega), rfl⟩
    · have a3 : -9223372036854775807 ≤ at' := by omega
      go_enter Try.func62, Try.ntmps62
      go_wp2
      all_goals go_ret2
      all_goals exact ⟨tup2 (by first | rfl | omega) (by first | rfl | omega), rfl⟩
  · rw [partS_yes (by omega)]
    have a3 : -1048576 ≤ at' := by omega
    have h5 : -(min n 1048576) < at' := by omega
    clear a1 h3
    go_enter Try.func62, Try.ntmps62
    go_wp2
    all_goals go_ret2
    all_goals exact ⟨tup2 (by first | rfl | omega) (by first | rfl | omega), rfl⟩
set_option maxRecDepth 100000 in
set_option maxHeartbeats 4000000 in
theorem span_any (at' n side : Int) (w : World) (ha : I64 at') (hn : I64 n) (hs : 0 ≤ side ∧ side ≤ 16384) :
    Calls Try.prog 53 #[.int .i64 at', .int .i64 n, .int .i64 side] w fun e w' => e = .returned (.tuple #[.int .i64 (partS at' n side).1, .int .i64 (partS at' n side).2]) ∧ w = w' := by
  unfold I64 at ha hn
  obtain ⟨a1, a2⟩ := ha
  obtain ⟨n1, n2⟩ := hn
  obtain ⟨s1, s2⟩ := hs
  by_cases h1 : n < 1
  · have g1 : decide (n < 1) = true := decide_eq_true h1
    rw [partS_no (.inl h1)]
    clear h1
    go_enter Try.func53, Try.ntmps53
    go_wp2
    go_ret2
    exact ⟨rfl, rfl⟩
  have g1 : decide (n < 1) = false := decide_eq_false h1
  by_cases h2 : side ≤ at'
  · have g2 : decide (side ≤ at') = true := decide_eq_true h2
    rw [partS_no (.inr (.inl h2))]
    clear h1 h2
    go_enter Try.func53, Try.ntmps53
    go_wp2
    go_ret2
    exact ⟨rfl, rfl⟩
  have g2 : decide (side ≤ at') = false := decide_eq_false h2
  by_cases h3 : at' ≤ -(min n 1048576)
  · rw [partS_no (.inr (.inr h3))]
    by_cases h4 : at' = -9223372036854775808
    · subst h4
      clear a1 a2
      go_enter Try.func53, Try.ntmps53
      go_wp2
      all_goals go_ret2
      all_goals exact ⟨tup2 (by first | rfl | omega) (by first | rfl | omega), rfl⟩
    · have a3 : -9223372036854775807 ≤ at' := by omega
      go_enter Try.func53, Try.ntmps53
      go_wp2
      all_goals go_ret2
      all_goals exact ⟨tup2 (by first | rfl | omega) (by first | rfl | omega), rfl⟩
  · rw [partS_yes (by omega)]
    have a3 : -1048576 ≤ at' := by omega
    have h5 : -(min n 1048576) < at' := by omega
    clear a1 h3
    go_enter Try.func53, Try.ntmps53
    go_wp2
    all_goals go_ret2
    all_goals exact ⟨tup2 (by first | rfl | omega) (by first | rfl | omega), rfl⟩
theorem blk4 {w : World} {b : Nat} {x y z u : Value} {t : TypeId} (h : w.heap[b]? = some (.cells #[x, y, z, u] t (0, 0))) :
    (w.cell? ⟨b, 0, none⟩ = some x ∧ w.frozen? ⟨b, 0, none⟩ = false) ∧ (w.cell? ⟨b, 1, none⟩ = some y ∧ w.frozen? ⟨b, 1, none⟩ = false) ∧ (w.cell? ⟨b, 2, none⟩ = some z ∧ w.frozen? ⟨b, 2, none⟩ = false) ∧ (w.cell? ⟨b, 3, none⟩ = some u ∧ w.frozen? ⟨b, 3, none⟩ = false) :=
  ⟨⟨blk_cell h 0, blk_free h 0⟩, ⟨blk_cell h 1, blk_free h 1⟩, ⟨blk_cell h 2, blk_free h 2⟩, blk_cell h 3, blk_free h 3⟩
theorem store4 {w : World} {p : Nat} {x' y' z' u' : Value} {T : TypeId} (h : w.heap[p]? = some (.cells #[x', y', z', u'] T (0, 0))) (x y z u : Value) :
    ∃ V1 V2 V3 V4, w.setCell ⟨p, 0, none⟩ x = V1 ∧ V1.setCell ⟨p, 1, none⟩ y = V2 ∧ V2.setCell ⟨p, 2, none⟩ z = V3 ∧ V3.setCell ⟨p, 3, none⟩ u = V4 ∧ (w.cell? ⟨p, 0, none⟩ = some x' ∧ w.frozen? ⟨p, 0, none⟩ = false) ∧ (V1.cell? ⟨p, 1, none⟩ = some y' ∧ V1.frozen? ⟨p, 1, none⟩ = false) ∧
      (V2.cell? ⟨p, 2, none⟩ = some z' ∧ V2.frozen? ⟨p, 2, none⟩ = false) ∧ (V3.cell? ⟨p, 3, none⟩ = some u' ∧ V3.frozen? ⟨p, 3, none⟩ = false) ∧ V4.heap[p]? = some (.cells #[x, y, z, u] T (0, 0)) ∧ Kept (· = p) w V4 := by
  refine ⟨_, _, _, _, rfl, rfl, rfl, rfl, ⟨blk_cell h 0, blk_free h 0⟩, ⟨?_, ?_⟩, ⟨?_, ?_⟩, ⟨?_, ?_⟩, ?_, ?_⟩
  · exact blk_cell (blk_set h 0 _) 1
  · exact blk_free (blk_set h 0 _) 1
  · exact blk_cell (blk_set (blk_set h 0 _) 1 _) 2
  · exact blk_free (blk_set (blk_set h 0 _) 1 _) 2
  · exact blk_cell (blk_set (blk_set (blk_set h 0 _) 1 _) 2 _) 3
  · exact blk_free (blk_set (blk_set (blk_set h 0 _) 1 _) 2 _) 3
  · exact blk_set (blk_set (blk_set (blk_set h 0 _) 1 _) 2 _) 3 _
  · exact ((((Kept.refl (fun i => i = p) w).setCell (p := ⟨p, 0, none⟩) (.inl rfl) x).setCell (p := ⟨p, 1, none⟩) (.inl rfl) y).setCell (p := ⟨p, 2, none⟩) (.inl rfl) z).setCell (p := ⟨p, 3, none⟩) (.inl rfl) u
/-- The bytes of pixel number P. -/
def pixV (p : List Int) (P : Nat) : Value := .agg #[.int .u8 (p.getD (4 * P) 0), .int .u8 (p.getD (4 * P + 1) 0), .int .u8 (p.getD (4 * P + 2) 0), .int .u8 (p.getD (4 * P + 3) 0)]
set_option maxRecDepth 100000 in
set_option maxHeartbeats 4000000 in
theorem at_any (W H x y : Nat) (p : List Int) (a : Option Addr) (n cap : Nat) (w : World) (hx : x < W) (hy : y < H) (hb : W * H ≤ 67108864) (hn : n = 4 * (W * H)) (hs : SlAt .u8 w a n p) (hc : n ≤ cap) (hcm : cap ≤ 9223372036854775807) (hW : W ≤ 16384) (hH : H ≤ 16384) :
    Calls Try.prog 58 #[.agg #[.int .i64 W, .int .i64 H, .slice a n cap], .int .i64 x, .int .i64 y] w fun e w' => e = .returned (pixV p (y * W + x)) ∧ Kept (fun _ => False) w w' := by
  have hub := ub_of hs
  have hP := fit_idx hx hy
  have n1 : y * W ≤ 16384 * 16384 := Nat.mul_le_mul (by omega) (by omega)
  obtain ⟨M, hM⟩ : ∃ M, W * H = M := ⟨_, rfl⟩
  rw [hM] at hP hb hn
  obtain ⟨q, hq⟩ : ∃ q, y * W = q := ⟨_, rfl⟩
  rw [hq] at hP n1 ⊢
  subst hn
  obtain ⟨b, off, rfl, hcell⟩ := hs.2.resolve_left (by omega)
  have hbw := hub b off (by omega) rfl
  obtain ⟨V, hV⟩ : ∃ V, (w.alloc (.cells #[.int .i64 W, .int .i64 H, .slice (some ⟨b, off, none⟩) (4 * M) cap] 31)).alloc (.cells #[.int .u8 0, .int .u8 0, .int .u8 0, .int .u8 0] 66) = V := ⟨_, rfl⟩
  have kV : Kept (fun _ => False) w V := by rw [← hV]; exact ((Kept.refl _ w).alloc _).alloc _
  have b0 : V.heap[w.heap.size]? = some (.cells #[.int .i64 W, .int .i64 H, .slice (some ⟨b, off, none⟩) (4 * M) cap] 31 (0, 0)) := by rw [← hV]; exact blk_alloc (blk_new _ _) _
  have b1 : V.heap[w.heap.size + 1]? = some (.cells #[.int .u8 0, .int .u8 0, .int .u8 0, .int .u8 0] 66 (0, 0)) := by rw [← hV]; exact blk_at _ _ (by simp)
  have x0 := kV.cell (hcell (4 * (q + x)) (by omega)) id
  have x1 : V.cell? ⟨b, off + 4 * (q + x) + 1, none⟩ = some (.int .u8 (p.getD (4 * (q + x) + 1) 0)) := by rw [Nat.add_assoc]; exact kV.cell (hcell (4 * (q + x) + 1) (by omega)) id
  have x2 : V.cell? ⟨b, off + 4 * (q + x) + 2, none⟩ = some (.int .u8 (p.getD (4 * (q + x) + 2) 0)) := by rw [Nat.add_assoc]; exact kV.cell (hcell (4 * (q + x) + 2) (by omega)) id
  have x3 : V.cell? ⟨b, off + 4 * (q + x) + 3, none⟩ = some (.int .u8 (p.getD (4 * (q + x) + 3) 0)) := by rw [Nat.add_assoc]; exact kV.cell (hcell (4 * (q + x) + 3) (by omega)) id
  obtain ⟨⟨c0, -⟩, ⟨c1, -⟩, c2, -⟩ := blk3 b0
  have HB1 := Lib.hid b1
  have HK := Lib.hid kV
  have v1 : (y : Int) * (W : Int) = (q : Int) := by rw [← hq]; simp
  have l8 : (q : Int) + (x : Int) ≤ (M : Int) := by omega
  have hcap : ¬ (cap = 4 * (q + x)) := by omega
  have t1 : (4 * ((q : Int) + (x : Int))).toNat = 4 * (q + x) := by omega
  have ra : ∀ w, (Instr.arrayAt 66 (.slice (some ⟨b, off + 4 * (q + x), none⟩) (4 * M - 4 * (q + x)) (cap - 4 * (q + x)))).run Try.prog w = .ok (.pointer (some ⟨b, off + 4 * (q + x), none⟩)) w := fun w => run_arrayAt w 66 5 4 _ _ _ Try.underlying66 (by omega)
  obtain ⟨⟨d0, e0⟩, ⟨d1, e1⟩, ⟨d2, e2⟩, d3, e3⟩ := blk4 b1
  obtain ⟨y0, hy0⟩ : ∃ z, p.getD (4 * (q + x)) 0 = z := ⟨_, rfl⟩
  obtain ⟨y1, hy1⟩ : ∃ z, p.getD (4 * (q + x) + 1) 0 = z := ⟨_, rfl⟩
  obtain ⟨y2, hy2⟩ : ∃ z, p.getD (4 * (q + x) + 2) 0 = z := ⟨_, rfl⟩
  obtain ⟨y3, hy3⟩ : ∃ z, p.getD (4 * (q + x) + 3) 0 = z := ⟨_, rfl⟩
  rw [hy0] at x0
  rw [hy1] at x1
  rw [hy2] at x2
  rw [hy3] at x3
  obtain ⟨V1, V2, V3, V4, f1, f2, f3, f4, ⟨g0, g0'⟩, ⟨g1, g1'⟩, ⟨g2, g2'⟩, ⟨g3, g3'⟩, bV, kV4⟩ := store4 b1 (.int .u8 y0) (.int .u8 y1) (.int .u8 y2) (.int .u8 y3)
  obtain ⟨⟨m0, -⟩, ⟨m1, -⟩, ⟨m2, -⟩, m3, -⟩ := blk4 bV
  have HKV := Lib.hid (HK.out.trans (kV4.mono fun i _ hi => Or.inr (by have h9 : i = w.heap.size + 1 := hi; omega)))
  unfold pixV
  rw [hy0, hy1, hy2, hy3]
  clear b0 b1 kV hcell hs hub hM hq kV4 bV hy0 hy1 hy2 hy3
  go_enter Try.func58, Try.ntmps58
  go_wp2
  exact bodyPost_ret (v := .agg #[.int .u8 y0, .int .u8 y1, .int .u8 y2, .int .u8 y3]) (by simp [results, Try.results58, go_sem, m0, m1, m2, m3]) rfl ⟨rfl, HKV.out⟩
end Go.Proofs.Ytdjgmhbfohbenaa
namespace Go.Proofs.Ytdjgmhbfohbenaa
open Go.RowKit Go.Sort
set_option linter.unusedVariables false
set_option linter.unusedSimpArgs false
/-- A slice that a call made: its bytes, its block. -/
def Made (w : World) (p : List Int) (v : Value) (w' : World) : Prop := Own .u8 5 w' v p ∧ Kept (fun _ => False) w w' ∧ ∀ b, v.ownBlock = some b → w.heap.size ≤ b
theorem Own.retag {k : IntKind} {e : TypeId} {w : World} {v : Value} {xs ys : List Int} (h : Own k e w v xs) (hy : ys = xs) : Own k e w v ys := hy ▸ h
set_option maxRecDepth 100000 in
set_option maxHeartbeats 4000000 in
theorem clone_any (a : Option Addr) (n cap : Nat) (p : List Int) (w : World) (hs : SlAt .u8 w a n p) (hn : n ≤ 16384) (hnil : a = none → n = 0 ∧ cap = 0) :
    Calls Try.prog 104 #[.slice a n cap] w fun e w' => ∃ v, e = .returned v ∧ Made w p v w' := by
  obtain ⟨i0, hi, hz0, hz1, hz2⟩ := info_parts Try.info5
  have HI := Lib.hid (And.intro hi (And.intro hz0 (And.intro hz1 hz2)))
  clear hi hz0 hz1 hz2
  cases a with
  | none =>
    obtain ⟨rfl, rfl⟩ := hnil rfl
    have hp : p = [] := List.eq_nil_of_length_eq_zero hs.1
    subst hp
    clear hs
    have qn := fun w => Lib.run_eql_slice_nil (P := Try.prog) w 29 5 none 0 0 0 0 Try.underlying29
    go_enter Try.func104, Try.ntmps104
    go_wp2
    go_ret
    exact ⟨_, rfl, Own.nil _ _ _, Kept.refl _ _, fun b h => by cases h⟩
  | some x =>
    have HS := Lib.hid (hs.up ((Kept.refl (fun _ => False) w).alloc (.cells #[] 5)))
    clear hs
    have qn := fun w => Lib.run_eql_slice_nil (P := Try.prog) w 29 5 (some x) n cap 0 0 Try.underlying29
    go_enter Try.func104, Try.ntmps104
    go_wp2_with (at_builtin; refine wpList_appInts rfl (.tmp 5) (.tmp 6) 29 rfl 5 .u8 i0 (.int .u8 0) 1 Try.underlying29 HI.out.1 HI.out.2.1 HI.out.2.2.1 HI.out.2.2.2 rfl (.slice (some ⟨w.heap.size, 0, none⟩) 0 0) [] rfl (Own.new _ _) (some x) n cap p rfl (fun h => by cases h) HS.out (by simp; omega) (by simp [maxLen]; omega) ?_; intro v5 w5 ho5 hk5 hpr5; have HO5 := Lib.hid ho5; have HK5 := Lib.hid hk5; have HP5 := Lib.hid hpr5; clear ho5 hk5 hpr5)
    go_ret
    refine ⟨v5, rfl, HO5.out, ((Kept.refl _ w).alloc _).trans (HK5.out.mono fun i _ hi => Or.inr (by cases hi; exact Nat.le_refl _)), fun b hb => ?_⟩
    rcases HP5.out with h | h
    · rw [h] at hb; cases hb; exact Nat.le_refl _
    · rw [h] at hb; have h9 := Option.some.inj hb; simp at h9; omega
theorem Made.kept {w w' w2 : World} {p : List Int} {v : Value} (h : Made w p v w') (hk : Kept (fun i => i < w.heap.size) w' w2) (hk2 : Kept (fun _ => False) w w2) : Made w p v w2 :=
  ⟨h.1.kept hk (fun b hb hS => by have := h.2.2 b hb; have h9 : b < w.heap.size := hS; omega), hk2, h.2.2⟩
set_option maxRecDepth 100000 in
set_option maxHeartbeats 4000000 in
theorem twin_any (W H : Int) (a : Option Addr) (n cap : Nat) (p : List Int) (w : World) (hs : SlAt .u8 w a n p) (hn : n ≤ 16384) (hnil : a = none → n = 0 ∧ cap = 0) :
    Calls Try.prog 103 #[.agg #[.int .i64 W, .int .i64 H, .slice a n cap]] w fun e w' => ∃ v, e = .returned (.agg #[.int .i64 W, .int .i64 H, v]) ∧ Made w p v w' := by
  obtain ⟨V, hV⟩ : ∃ V, (w.alloc (.cells #[.int .i64 W, .int .i64 H, .slice a n cap] 31)).alloc (.cells #[.int .i64 0, .int .i64 0, .slice none 0 0] 31) = V := ⟨_, rfl⟩
  have kV : Kept (fun _ => False) w V := by rw [← hV]; exact ((Kept.refl _ w).alloc _).alloc _
  have b0 : V.heap[w.heap.size]? = some (.cells #[.int .i64 W, .int .i64 H, .slice a n cap] 31 (0, 0)) := by rw [← hV]; exact blk_alloc (blk_new _ _) _
  have b1 : V.heap[w.heap.size + 1]? = some (.cells #[.int .i64 0, .int .i64 0, .slice none 0 0] 31 (0, 0)) := by rw [← hV]; exact blk_at _ _ (by simp)
  have sV : V.heap.size = w.heap.size + 2 := by rw [← hV]; simp
  have HC := Lib.hid (clone_any a n cap p V (hs.up kV) hn hnil)
  obtain ⟨⟨c0, -⟩, ⟨c1, -⟩, c2, -⟩ := blk3 b0
  have HB0 := Lib.hid b0
  have HB1 := Lib.hid b1
  have HK := Lib.hid kV
  clear hs b0 b1 kV hnil
  go_enter Try.func103, Try.ntmps103
  go_wp2_with fail
  refine HC.out.mono ?_; rintro e w1 ⟨v, rfl, ho, hk, hf⟩
  obtain ⟨av, cv, rfl, -⟩ := ho.shape
  have d0 := hk.blk HB0.out id
  have d1 := hk.blk HB1.out id
  obtain ⟨U, hU⟩ : ∃ U, w1.setCell ⟨w.heap.size, 2, none⟩ (.slice av p.length cv) = U := ⟨_, rfl⟩
  have kU : Kept (fun i => i = w.heap.size) w1 U := by rw [← hU]; exact (Kept.refl (fun i => i = w.heap.size) _).setCell (p := ⟨w.heap.size, 2, none⟩) (.inl rfl) _
  have u0 : U.heap[w.heap.size]? = some (.cells #[.int .i64 W, .int .i64 H, (.slice av p.length cv)] 31 (0, 0)) := by rw [← hU]; exact blk_set d0 2 _
  have u1 := kU.blk d1 (fun (h : w.heap.size + 1 = w.heap.size) => by omega)
  obtain ⟨⟨x0, y0⟩, ⟨x1, y1⟩, x2, y2⟩ := blk3 d0
  obtain ⟨⟨p0, -⟩, ⟨p1, -⟩, p2, -⟩ := blk3 u0
  obtain ⟨V1, V2, V3, f1, f2, f3, ⟨g0, g0'⟩, ⟨g1, g1'⟩, ⟨g2, g2'⟩, bV, kV3⟩ := store3 u1 (.int .i64 W) (.int .i64 H) (.slice av p.length cv)
  obtain ⟨⟨m0, -⟩, ⟨m1, -⟩, m2, -⟩ := blk3 bV
  have kk : Kept (fun i => i = w.heap.size ∨ i = w.heap.size + 1) w1 V3 := (kU.mono fun i _ h => Or.inl h).then (kV3.mono fun i _ h => Or.inr h)
  have HO := Lib.hid (ho.kept kk (fun b hb hS => by have := hf b hb; rcases hS with h | h <;> omega))
  have HKK := Lib.hid ((HK.out.then hk).trans (kk.mono fun i _ hi => Or.inr (by rcases hi with h | h <;> omega)))
  have HF := Lib.hid hf
  clear ho hk hf d0 d1 kU u0 u1 bV kV3 kk c0 c1 c2
  go_wp2
  exact bodyPost_ret (v := .agg #[.int .i64 W, .int .i64 H, (.slice av p.length cv)]) (by simp [results, Try.results103, go_sem, m0, m1, m2]) rfl ⟨_, rfl, HO.out, HKK.out, fun b hb => by have := HF.out b hb; omega⟩
set_option maxRecDepth 100000 in
set_option maxHeartbeats 4000000 in
theorem rtwin_any (W H : Int) (a : Option Addr) (n cap : Nat) (p : List Int) (w : World) (hs : SlAt .u8 w a n p) (hn : n ≤ 16384) (hnil : a = none → n = 0 ∧ cap = 0) :
    Calls Try.prog 52 #[.agg #[.int .i64 W, .int .i64 H, .slice a n cap]] w fun e w' => ∃ v, e = .returned (.agg #[.int .i64 W, .int .i64 H, v]) ∧ Made w p v w' := by
  obtain ⟨i0, hi, hz0, hz1, hz2⟩ := info_parts Try.info5
  have HI := Lib.hid (And.intro hi (And.intro hz0 (And.intro hz1 hz2)))
  clear hi hz0 hz1 hz2
  obtain ⟨V, hV⟩ : ∃ V, (w.alloc (.cells #[.int .i64 W, .int .i64 H, .slice a n cap] 35)).alloc (.cells #[.int .i64 0, .int .i64 0, .slice none 0 0] 35) = V := ⟨_, rfl⟩
  have kV : Kept (fun _ => False) w V := by rw [← hV]; exact ((Kept.refl _ w).alloc _).alloc _
  have b0 : V.heap[w.heap.size]? = some (.cells #[.int .i64 W, .int .i64 H, .slice a n cap] 35 (0, 0)) := by rw [← hV]; exact blk_alloc (blk_new _ _) _
  have b1 : V.heap[w.heap.size + 1]? = some (.cells #[.int .i64 0, .int .i64 0, .slice none 0 0] 35 (0, 0)) := by rw [← hV]; exact blk_at _ _ (by simp)
  have sV : w.heap.size + 2 ≤ V.heap.size := by rw [← hV]; simp
  obtain ⟨⟨c0, -⟩, ⟨c1, -⟩, c2, -⟩ := blk3 b0
  have kA := (((Kept.refl (fun _ => False) V).alloc (.cells #[] 5)).drew)
  have HS := Lib.hid ((hs.up kV).up kA)
  have HOW := Lib.hid (show Own .u8 5 ((V.alloc (.cells #[] 5)).drew) (.slice (some ⟨V.heap.size, 0, none⟩) 0 0) [] from (Own.new .u8 V).kept ((Kept.refl (fun _ => False) _).drew) (fun _ _ => id))
  have HNIL := Lib.hid hnil
  have HB0 := Lib.hid (kA.blk b0 id)
  have HB1 := Lib.hid (kA.blk b1 id)
  have HKA := Lib.hid (kV.then kA)
  clear hs b0 b1 kV hnil kA
  go_enter Try.func52, Try.ntmps52
  go_wp2
  go_region_held3 (fun w' => w'.cell? ⟨w.heap.size, 0, none⟩ = some (.int .i64 W) ∧ w'.cell? ⟨w.heap.size, 1, none⟩ = some (.int .i64 H) ∧ w'.cell? ⟨w.heap.size, 2, none⟩ = some (.slice a n cap)) (first | ((go_keep; done)) | (go_split_ands; all_goals go_keep))
    ((refine step_appInts rfl (.tmp 7) (.tmp 9) 29 rfl 5 .u8 i0 (.int .u8 0) 1 Try.underlying29 HI.out.1 HI.out.2.1 HI.out.2.2.1 HI.out.2.2.2 rfl (.slice (some ⟨V.heap.size, 0, none⟩) 0 0) [] (by rfl) HOW.out a n cap p (by rfl) HNIL.out HS.out (by simp; omega) (by simp [maxLen]; omega) ?_; intro v5 w5 ho5 hk5 hpr5; rw [List.nil_append] at ho5; obtain ⟨av, cv, rfl, -⟩ := ho5.shape; have hf : ∀ b, (Value.slice av p.length cv).ownBlock = some b → w.heap.size + 2 ≤ b := (fun b hb => by (rcases hpr5 with h | h; (rw [h] at hb; have h9 : V.heap.size = b := Option.some.inj hb; omega); (rw [h] at hb; have h9 : V.heap.size + 1 = b := (by have h7 := Option.some.inj hb; simpa using h7); omega))); have kk := (HKA.out.trans (hk5.mono fun i _ hi => Or.inr (by have h9 : V.heap.size = i := Option.some.inj hi; omega))); have d0 := hk5.blk HB0.out (fun (h : some V.heap.size = some w.heap.size) => by have h9 := Option.some.inj h; omega); have d1 := hk5.blk HB1.out (fun (h : some V.heap.size = some (w.heap.size + 1)) => by have h9 := Option.some.inj h; omega); obtain ⟨⟨x0, -⟩, ⟨x1, -⟩, x2, -⟩ := blk3 d0; obtain ⟨V1, V2, V3, f1, f2, f3, ⟨g0, g0'⟩, ⟨g1, g1'⟩, ⟨g2, g2'⟩, bV, kV3⟩ := store3 d1 (.int .i64 W) (.int .i64 H) (.slice av p.length cv); obtain ⟨⟨m0, -⟩, ⟨m1, -⟩, m2, -⟩ := blk3 bV; obtain ⟨⟨r0, -⟩, ⟨r1, -⟩, r2, -⟩ := blk3 (kV3.blk d0 (fun (h : w.heap.size = w.heap.size + 1) => by omega)); have HO := Lib.hid (ho5.kept kV3 (fun b hb (hS : b = w.heap.size + 1) => by have := hf b hb; omega)); have HK := Lib.hid (kk.trans (kV3.mono fun i _ hi => Or.inr (by have h9 : i = w.heap.size + 1 := hi; omega))); have HF := Lib.hid hf; clear ho5 hk5 hpr5 hf kk d0 d1 bV kV3))
  go_wp2
  exact bodyPost_ret (v := .agg #[.int .i64 W, .int .i64 H, .slice av p.length cv]) (by simp [results, Try.results52, go_sem, m0, m1, m2]) rfl ⟨_, rfl, HO.out, HK.out, fun b hb => by have := HF.out b hb; omega⟩
end Go.Proofs.Ytdjgmhbfohbenaa
namespace Go.Proofs.Ytdjgmhbfohbenaa
open Go.RowKit Go.Sort
set_option linter.unusedVariables false
set_option linter.unusedSimpArgs false
/-- What is drawn where: sides, the place, the part that lies within. -/
structure Spot where
  W : Nat
  SW : Nat
  x : Int
  y : Int
  x0 : Nat
  x1 : Nat
  y0 : Nat
  y1 : Nat
def Spot.inside (t : Spot) (P : Nat) : Prop := t.x0 ≤ P % t.W ∧ P % t.W < t.x1 ∧ t.y0 ≤ P / t.W ∧ P / t.W < t.y1
instance (t : Spot) (P : Nat) : Decidable (t.inside P) := by unfold Spot.inside; exact inferInstance
def Spot.src (t : Spot) (P : Nat) : Nat := (((P / t.W : Nat) : Int) - t.y).toNat * t.SW + (((P % t.W : Nat) : Int) - t.x).toNat
def overK (p s : List Int) (P Q k : Nat) : Int := if k = 3 then 255 else ov (p.getD (4 * P + k) 0) (s.getD (4 * Q + k) 0) (s.getD (4 * Q + 3) 0)
def Spot.done (t : Spot) (Y X P : Nat) : Prop := P / t.W < Y ∨ (P / t.W = Y ∧ P % t.W < X)
instance (t : Spot) (Y X P : Nat) : Decidable (t.done Y X P) := by unfold Spot.done; exact inferInstance
def drawD (t : Spot) (p s : List Int) (Y X q : Nat) : Int := if t.inside (q / 4) ∧ t.done Y X (q / 4) then overK p s (q / 4) (t.src (q / 4)) (q % 4) else p.getD q 0
def drawF (t : Spot) (p s : List Int) (q : Nat) : Int := if t.inside (q / 4) then overK p s (q / 4) (t.src (q / 4)) (q % 4) else p.getD q 0
theorem drawD_start (t : Spot) (p s : List Int) (n : Nat) (hp : p.length = n) : tab n (drawD t p s t.y0 t.x0) = p := by
  refine list_ext (by rw [tab_length, hp]) (fun j hj => ?_)
  rw [tab_length] at hj
  rw [tab_get hj]
  unfold drawD
  rw [if_neg]
  rintro ⟨h1, h2⟩
  unfold Spot.inside at h1
  unfold Spot.done at h2
  omega
theorem drawD_end (t : Spot) (p s : List Int) (n X Y : Nat) (hY : t.y1 ≤ Y) : tab n (drawD t p s Y X) = tab n (drawF t p s) := by
  refine tab_ext fun j hj => ?_
  unfold drawD drawF
  by_cases h : t.inside (j / 4)
  · have h2 : t.done Y X (j / 4) := by unfold Spot.inside at h; unfold Spot.done; omega
    rw [if_pos ⟨h, h2⟩, if_pos h]
  · rw [if_neg (fun h2 => h h2.1), if_neg h]
theorem drawD_row (t : Spot) (p s : List Int) (n X Y : Nat) (hX : t.x1 ≤ X) : tab n (drawD t p s Y X) = tab n (drawD t p s (Y + 1) t.x0) := by
  refine tab_ext fun j hj => ?_
  unfold drawD
  by_cases h : t.inside (j / 4)
  · by_cases h2 : t.done Y X (j / 4)
    · have h3 : t.done (Y + 1) t.x0 (j / 4) := by unfold Spot.inside at h; unfold Spot.done at *; omega
      rw [if_pos ⟨h, h2⟩, if_pos ⟨h, h3⟩]
    · have h3 : ¬ t.done (Y + 1) t.x0 (j / 4) := by unfold Spot.inside at h; unfold Spot.done at *; omega
      rw [if_neg (fun h4 => h2 h4.2), if_neg (fun h4 => h3 h4.2)]
  · rw [if_neg (fun h2 => h h2.1), if_neg (fun h2 => h h2.1)]
theorem pos_of {W x y : Nat} (hx : x < W) : (y * W + x) / W = y ∧ (y * W + x) % W = x := by
  have hW : 0 < W := by omega
  exact ⟨by rw [Nat.add_comm, Nat.mul_comm, Nat.add_mul_div_left _ _ hW, Nat.div_eq_of_lt hx]; omega, by rw [Nat.add_comm, Nat.mul_comm, Nat.add_mul_mod_self_left, Nat.mod_eq_of_lt hx]⟩
theorem unpos {W P : Nat} {Y X : Nat} (h1 : P / W = Y) (h2 : P % W = X) : P = Y * W + X := by
  rw [← h1, ← h2, Nat.mul_comm]; exact (Nat.div_add_mod P W).symm
theorem drawD_get (t : Spot) (p s : List Int) (n X Y k : Nat) (hX : X < t.W) (hk : k < 4) (hn : 4 * (Y * t.W + X) + 4 ≤ n) : (tab n (drawD t p s Y X)).getD (4 * (Y * t.W + X) + k) 0 = p.getD (4 * (Y * t.W + X) + k) 0 := by
  rw [tab_get (by omega)]
  unfold drawD
  obtain ⟨e1, e2⟩ := pos_of (y := Y) hX
  rw [show (4 * (Y * t.W + X) + k) / 4 = Y * t.W + X by omega]
  rw [if_neg]
  rintro ⟨-, h⟩
  unfold Spot.done at h
  rw [e1, e2] at h
  omega
theorem drawD_step (t : Spot) (p s : List Int) (n X Y : Nat) (hX : X < t.W) (h0 : t.x0 ≤ X) (h1 : X < t.x1) (h2 : t.y0 ≤ Y) (h3 : Y < t.y1) (hn : 4 * (Y * t.W + X) + 4 ≤ n) (Q : Nat) (hQ : Q = ((Y : Int) - t.y).toNat * t.SW + ((X : Int) - t.x).toNat) (ys : List Int) (hl : ys.length = 4)
    (hy : ∀ k, k < 4 → ys.getD k 0 = overK p s (Y * t.W + X) Q k) :
    spl (tab n (drawD t p s Y X)) (4 * (Y * t.W + X)) ys = tab n (drawD t p s Y (X + 1)) := by
  rw [spl_tab (by omega)]
  obtain ⟨e1, e2⟩ := pos_of (y := Y) hX
  have hsrc : t.src (Y * t.W + X) = Q := by unfold Spot.src; rw [e1, e2, hQ]
  refine tab_ext fun j hj => ?_
  by_cases hj4 : j / 4 = Y * t.W + X
  · rw [if_pos (by omega), hy _ (by omega)]
    unfold drawD
    rw [hj4, hsrc, if_pos]
    · congr 1; omega
    · unfold Spot.inside Spot.done; rw [e1, e2]; omega
  · rw [if_neg (by omega)]
    unfold drawD
    by_cases hi : t.inside (j / 4)
    · by_cases hd : t.done Y X (j / 4)
      · have hd2 : t.done Y (X + 1) (j / 4) := by unfold Spot.done at *; omega
        rw [if_pos ⟨hi, hd⟩, if_pos ⟨hi, hd2⟩]
      · have hd2 : ¬ t.done Y (X + 1) (j / 4) := by
          intro h
          apply hj4
          unfold Spot.done at h hd
          exact unpos (by omega) (by omega)
        rw [if_neg (fun h => hd h.2), if_neg (fun h => hd2 h.2)]
    · rw [if_neg (fun h => hi h.1), if_neg (fun h => hi h.1)]
end Go.Proofs.Ytdjgmhbfohbenaa
namespace Go.Proofs.Ytdjgmhbfohbenaa
open Go.RowKit Go.Sort
set_option linter.unusedVariables false
set_option linter.unusedSimpArgs false
theorem spl_full (xs : List Int) (o : Nat) : spl xs o [] = xs := by unfold spl; simp
theorem spl_set {xs ys : List Int} {o : Nat} {v : Int} (h : o + ys.length < xs.length) : (spl xs o ys).set (o + ys.length) v = spl xs o (ys ++ [v]) := by
  refine list_ext (by rw [List.length_set, spl_length (by omega), spl_length (by simp; omega)]) (fun j hj => ?_)
  rw [List.length_set, spl_length (by omega)] at hj
  rw [getD_set (by rw [spl_length (by omega)]; omega), spl_get (by omega), spl_get (by simp; omega)]
  simp only [List.length_append, List.length_singleton]
  by_cases h1 : j = o + ys.length
  · rw [if_pos h1, if_pos (by omega), List.getD_eq_getElem?_getD, List.getElem?_append_right (by omega), show j - o - ys.length = 0 by omega]; rfl
  · rw [if_neg h1]
    by_cases h2 : o ≤ j ∧ j < o + ys.length
    · rw [if_pos h2, if_pos (by omega), List.getD_eq_getElem?_getD, List.getD_eq_getElem?_getD, List.getElem?_append_left (by omega)]
    · rw [if_neg h2, if_neg (by omega)]
set_option maxRecDepth 100000 in
set_option maxHeartbeats 4000000 in
theorem put_any (W H x y : Nat) (p ys : List Int) (g n cap : Nat) (w : World) (hx : x < W) (hy : y < H) (hb : W * H ≤ 67108864) (hn : n = 4 * (W * H)) (ho : Own .u8 5 w (.slice (some ⟨g, 0, none⟩) n cap) p) (hW : W ≤ 16384) (hH : H ≤ 16384) (c0 c1 c2 c3 : Int) :
    Calls Try.prog 54 #[.agg #[.int .i64 W, .int .i64 H, .slice (some ⟨g, 0, none⟩) n cap], .int .i64 x, .int .i64 y, .agg #[.int .u8 c0, .int .u8 c1, .int .u8 c2, .int .u8 c3]] w fun e w' => e = .returned (.tuple #[]) ∧ Own .u8 5 w' (.slice (some ⟨g, 0, none⟩) n cap) (spl p (4 * (y * W + x)) [c0, c1, c2, c3]) ∧ Kept (fun i => i = g) w w' := by
  have hP := fit_idx hx hy
  have n1 : y * W ≤ 16384 * 16384 := Nat.mul_le_mul (by omega) (by omega)
  obtain ⟨M, hM⟩ : ∃ M, W * H = M := ⟨_, rfl⟩
  rw [hM] at hP hb hn
  obtain ⟨q, hq⟩ : ∃ q, y * W = q := ⟨_, rfl⟩
  rw [hq] at hP n1 ⊢
  subst hn
  have hpl := ho.at.1
  have hgw := ho.at.2.2.1
  have hcp := ho.at.2.1
  have v1 : (y : Int) * (W : Int) = (q : Int) := by rw [← hq]; simp
  obtain ⟨V, hV⟩ : ∃ V, (w.alloc (.cells #[.int .i64 W, .int .i64 H, .slice (some ⟨g, 0, none⟩) (4 * M) cap] 35)).alloc (.cells #[.int .u8 c0, .int .u8 c1, .int .u8 c2, .int .u8 c3] 65) = V := ⟨_, rfl⟩
  have kV : Kept (fun _ => False) w V := by rw [← hV]; exact ((Kept.refl _ w).alloc _).alloc _
  have HB0 := Lib.hid (show V.heap[w.heap.size]? = some (.cells #[.int .i64 W, .int .i64 H, .slice (some ⟨g, 0, none⟩) (4 * M) cap] 35 (0, 0)) by rw [← hV]; exact blk_alloc (blk_new _ _) _)
  have HB1 := Lib.hid (show V.heap[w.heap.size + 1]? = some (.cells #[.int .u8 c0, .int .u8 c1, .int .u8 c2, .int .u8 c3] 65 (0, 0)) by rw [← hV]; exact blk_at _ _ (by simp))
  have HO := Lib.hid (ho.kept kV (fun _ _ => id))
  have HK := Lib.hid kV
  obtain ⟨⟨a0, -⟩, ⟨a1, -⟩, a2, -⟩ := blk3 HB0.out
  have HPL := Lib.hid hpl
  clear ho kV hM hq hpl
  go_enter Try.func54, Try.ntmps54
  go_wp2
  clear hV a0 a1 a2
  go_loopg [9] 4 (fun gg i wr => ∃ k : Nat, k ≤ 4 ∧ 4 ≤ gg + k ∧ i = .int .i64 k ∧ Own .u8 5 wr (.slice (some ⟨g, 0, none⟩) (4 * M) cap) (spl p (4 * (q + x)) ([c0, c1, c2, c3].take k)) ∧ Kept (fun i => i = g) w wr ∧ wr.heap[w.heap.size]? = some (.cells #[.int .i64 W, .int .i64 H, .slice (some ⟨g, 0, none⟩) (4 * M) cap] 35 (0, 0)) ∧ wr.heap[w.heap.size + 1]? = some (.cells #[.int .u8 c0, .int .u8 c1, .int .u8 c2, .int .u8 c3] 65 (0, 0)))
  case atStart => exact ⟨0, by omega, by omega, rfl, by rw [List.take_zero, spl_full]; exact HO.out, HK.out.mono (fun _ _ h => h.elim), HB0.out, HB1.out⟩
  case round =>
    obtain ⟨k, hk, hgg, rfl, ho, hkr, hb0, hb1⟩ := hrel
    obtain ⟨⟨a0, -⟩, ⟨a1, -⟩, a2, -⟩ := blk3 hb0
    by_cases hk4 : k < 4
    · have gk' : decide ((k : Int) < 4) = true := decide_eq_true (by omega)
      obtain ⟨z, hz⟩ : ∃ z, [c0, c1, c2, c3].getD k 0 = z := ⟨_, rfl⟩
      have xk : wr.cell? ⟨w.heap.size + 1, k, none⟩ = some (.int .u8 z) := by
        rw [blk_cell hb1, ← hz]
        match k, hk4 with
        | 0, _ | 1, _ | 2, _ | 3, _ => rfl
      have d3 := ho.at.2.2.2.1 (4 * (q + x) + k) (by omega)
      have e3 := ho.at.2.2.2.2 (4 * (q + x) + k)
      obtain ⟨V2, hV2⟩ : ∃ V2, wr.setCell ⟨g, 4 * (q + x) + k, none⟩ (.int .u8 z) = V2 := ⟨_, rfl⟩
      have ho1 : Own .u8 5 V2 (.slice (some ⟨g, 0, none⟩) (4 * M) cap) (spl p (4 * (q + x)) ([c0, c1, c2, c3].take (k + 1))) := by
        have h := ho.set (show 4 * (q + x) + k < 4 * M by omega) z
        rw [hV2] at h
        have hl : ([c0, c1, c2, c3].take k).length = k := by simp; omega
        have hs := spl_set (xs := p) (ys := [c0, c1, c2, c3].take k) (o := 4 * (q + x)) (v := z) (by rw [hl]; have := HPL.out; omega)
        rw [hl] at hs
        rw [hs] at h
        have ht : [c0, c1, c2, c3].take (k + 1) = [c0, c1, c2, c3].take k ++ [z] := by
          rw [← hz]
          match k, hk4 with
          | 0, _ | 1, _ | 2, _ | 3, _ => rfl
        rw [ht]; exact h
      have kV2 : Kept (fun i => i = g) wr V2 := by rw [← hV2]; exact (Kept.refl (fun i => i = g) _).setCell (p := ⟨g, 4 * (q + x) + k, none⟩) (.inl rfl) _
      have HO2 := Lib.hid ho1
      have HK2 := Lib.hid (hkr.then kV2)
      have HB02 := Lib.hid (kV2.blk hb0 (fun (h : w.heap.size = g) => by omega))
      have HB12 := Lib.hid (kV2.blk hb1 (fun (h : w.heap.size + 1 = g) => by omega))
      have w1 : IntKind.i64.wrap (4 * ((q : Int) + (x : Int)) + (k : Int)) = 4 * ((q : Int) + (x : Int)) + (k : Int) := IntWalk.i64_in _ (by omega)
      have t1 : (4 * ((q : Int) + (x : Int)) + (k : Int)).toNat = 4 * (q + x) + k := by omega
      have l1 : 0 ≤ 4 * ((q : Int) + (x : Int)) + (k : Int) := by omega
      have l2 : 4 * ((q : Int) + (x : Int)) + (k : Int) < 4 * (M : Int) := by omega
      have l3 : (0 : Int) ≤ (k : Int) := by omega
      have l4 : (k : Int) < 4 := by omega
      clear ho hkr hb0 hb1 ho1 kV2 hz
      go_wp2
      go_still_tail 9, (by kernel_rfl)
      clear w1 t1 l1 l2
      change wpList _ _ _ _ _ wr.drew
      go_wp2
      go_roundg (gk - 1)
      case rel => exact ⟨k + 1, by omega, by omega, by go_num, HO2.out.kept (Kept.refl (fun _ => False) _).drew (fun _ _ => id), HK2.out.drew, HB02.out, HB12.out⟩
      case measure => omega
    · obtain rfl : k = 4 := by omega
      have gk' : decide (((4 : Nat) : Int) < 4) = false := by decide
      have HO2 := Lib.hid ho
      have HK2 := Lib.hid hkr
      clear ho hkr hb0 hb1 a0 a1 a2
      go_wp2
      go_end0
      exact ⟨rfl, HO2.out, HK2.out⟩
end Go.Proofs.Ytdjgmhbfohbenaa
namespace Go.Proofs.Ytdjgmhbfohbenaa
open Go.RowKit Go.Sort
set_option linter.unusedVariables false
set_option linter.unusedSimpArgs false
def inB (W H x y : Int) : Bool := decide (0 ≤ x ∧ x < W ∧ 0 ≤ y ∧ y < H)

set_option maxRecDepth 100000 in
set_option maxHeartbeats 4000000 in
theorem rin_any (W H x y : Int) (a : Option Addr) (n cap : Nat) (w : World) : Calls Try.prog 82 #[.agg #[.int .i64 W, .int .i64 H, .slice a n cap], .int .i64 x, .int .i64 y] w fun e w' => e = .returned (.bool (inB W H x y)) ∧ Kept (fun _ => False) w w' := by
  obtain ⟨V, hV⟩ : ∃ V, w.alloc (.cells #[.int .i64 W, .int .i64 H, .slice a n cap] 35) = V := ⟨_, rfl⟩
  have kV : Kept (fun _ => False) w V := by rw [← hV]; exact (Kept.refl _ w).alloc _
  have b0 : V.heap[w.heap.size]? = some (.cells #[.int .i64 W, .int .i64 H, .slice a n cap] 35 (0, 0)) := by rw [← hV]; exact blk_new _ _
  obtain ⟨⟨c0, -⟩, ⟨c1, -⟩, c2, -⟩ := blk3 b0
  have HK := Lib.hid kV
  clear b0 kV
  by_cases h0 : ¬ (0 ≤ x)
  · have g0 : decide (0 ≤ x) = false := decide_eq_false h0
    have HE := Lib.hid (show inB W H x y = false from decide_eq_false (by omega))
    clear h0
    go_enter Try.func82, Try.ntmps82
    go_wp2
    go_ret
    exact ⟨ret_bool (by rw [HE.out]), HK.out⟩
  have g0 : decide (0 ≤ x) = true := decide_eq_true (by omega)
  by_cases h1 : ¬ (0 ≤ y)
  · have g1 : decide (0 ≤ y) = false := decide_eq_false h1
    have HE := Lib.hid (show inB W H x y = false from decide_eq_false (by omega))
    clear h1
    go_enter Try.func82, Try.ntmps82
    go_wp2
    go_ret
    exact ⟨ret_bool (by rw [HE.out]), HK.out⟩
  have g1 : decide (0 ≤ y) = true := decide_eq_true (by omega)
  by_cases h2 : ¬ (x < W)
  · have g2 : decide (x < W) = false := decide_eq_false h2
    have HE := Lib.hid (show inB W H x y = false from decide_eq_false (by omega))
    clear h2
    go_enter Try.func82, Try.ntmps82
    go_wp2
    go_ret
    exact ⟨ret_bool (by rw [HE.out]), HK.out⟩
  have g2 : decide (x < W) = true := decide_eq_true (by omega)
  by_cases h3 : ¬ (y < H)
  · have g3 : decide (y < H) = false := decide_eq_false h3
    have HE := Lib.hid (show inB W H x y = false from decide_eq_false (by omega))
    clear h3
    go_enter Try.func82, Try.ntmps82
    go_wp2
    go_ret
    exact ⟨ret_bool (by rw [HE.out]), HK.out⟩
  have g3 : decide (y < H) = true := decide_eq_true (by omega)
  have HE := Lib.hid (show inB W H x y = true from decide_eq_true (by omega))
  clear h0 h1 h2 h3
  go_enter Try.func82, Try.ntmps82
  go_wp2
  go_ret
  exact ⟨ret_bool (by rw [HE.out]), HK.out⟩

set_option maxRecDepth 100000 in
set_option maxHeartbeats 4000000 in
theorem rat_no (W H x y : Int) (a : Option Addr) (n cap : Nat) (w : World) (h : inB W H x y = false) : Calls Try.prog 76 #[.agg #[.int .i64 W, .int .i64 H, .slice a n cap], .int .i64 x, .int .i64 y] w fun e w' => e = .returned (.tuple #[.agg #[.int .u8 0, .int .u8 0, .int .u8 0, .int .u8 0], .bool false]) ∧ Kept (fun _ => False) w w' := by
  obtain ⟨V, hV⟩ : ∃ V, (w.alloc (.cells #[.int .i64 W, .int .i64 H, .slice a n cap] 35)).alloc (.cells #[.int .u8 0, .int .u8 0, .int .u8 0, .int .u8 0] 65) = V := ⟨_, rfl⟩
  have kV : Kept (fun _ => False) w V := by rw [← hV]; exact ((Kept.refl _ w).alloc _).alloc _
  have b0 : V.heap[w.heap.size]? = some (.cells #[.int .i64 W, .int .i64 H, .slice a n cap] 35 (0, 0)) := by rw [← hV]; exact blk_alloc (blk_new _ _) _
  have b1 : V.heap[w.heap.size + 1]? = some (.cells #[.int .u8 0, .int .u8 0, .int .u8 0, .int .u8 0] 65 (0, 0)) := by rw [← hV]; exact blk_at _ _ (by simp)
  have HI := Lib.hid (fun w => show Calls Try.prog 82 #[.agg #[.int .i64 W, .int .i64 H, .slice a n cap], .int .i64 x, .int .i64 y] w fun e w' => e = .returned (.bool false) ∧ Kept (fun _ => False) w w' from by rw [← h]; exact rin_any W H x y a n cap w)
  obtain ⟨⟨c0, -⟩, ⟨c1, -⟩, c2, -⟩ := blk3 b0
  have HB1 := Lib.hid b1
  have HK := Lib.hid kV
  clear b0 b1 kV h
  go_enter Try.func76, Try.ntmps76
  go_wp2_with fail
  refine (HI.out _).mono ?_; rintro e w1 ⟨rfl, hk⟩
  obtain ⟨V1, V2, V3, V4, f1, f2, f3, f4, ⟨g0, g0'⟩, ⟨g1, g1'⟩, ⟨g2, g2'⟩, ⟨g3, g3'⟩, bV, kV4⟩ := store4 (hk.blk HB1.out id) (.int .u8 0) (.int .u8 0) (.int .u8 0) (.int .u8 0)
  obtain ⟨⟨m0, -⟩, ⟨m1, -⟩, ⟨m2, -⟩, m3, -⟩ := blk4 bV
  have HKV := Lib.hid ((HK.out.then hk).trans (kV4.mono fun i _ hi => Or.inr (by have h9 : i = w.heap.size + 1 := hi; omega)))
  clear hk bV kV4
  go_wp2
  exact bodyPost_ret (v := .tuple #[.agg #[.int .u8 0, .int .u8 0, .int .u8 0, .int .u8 0], .bool false]) (by simp [results, Try.results76, go_sem, m0, m1, m2, m3]) rfl ⟨rfl, HKV.out⟩

set_option maxRecDepth 100000 in
set_option maxHeartbeats 4000000 in
theorem rat_yes (W H x y : Nat) (p : List Int) (a : Option Addr) (n cap : Nat) (w : World) (hx : x < W) (hy : y < H) (hb : W * H ≤ 67108864) (hn : n = 4 * (W * H)) (hs : SlAt .u8 w a n p) (hW : W ≤ 16384) (hH : H ≤ 16384) :
    Calls Try.prog 76 #[.agg #[.int .i64 W, .int .i64 H, .slice a n cap], .int .i64 x, .int .i64 y] w fun e w' => e = .returned (.tuple #[pixV p (y * W + x), .bool true]) ∧ Kept (fun _ => False) w w' := by
  have hub := ub_of hs
  have hP := fit_idx hx hy
  have n1 : y * W ≤ 16384 * 16384 := Nat.mul_le_mul (by omega) (by omega)
  obtain ⟨M, hM⟩ : ∃ M, W * H = M := ⟨_, rfl⟩
  rw [hM] at hP hb hn
  obtain ⟨q, hq⟩ : ∃ q, y * W = q := ⟨_, rfl⟩
  rw [hq] at hP n1 ⊢
  subst hn
  obtain ⟨b, off, rfl, hcell⟩ := hs.2.resolve_left (by omega)
  obtain ⟨V, hV⟩ : ∃ V, (w.alloc (.cells #[.int .i64 W, .int .i64 H, .slice (some ⟨b, off, none⟩) (4 * M) cap] 35)).alloc (.cells #[.int .u8 0, .int .u8 0, .int .u8 0, .int .u8 0] 65) = V := ⟨_, rfl⟩
  have kV : Kept (fun _ => False) w V := by rw [← hV]; exact ((Kept.refl _ w).alloc _).alloc _
  have HB0 := Lib.hid (show V.heap[w.heap.size]? = some (.cells #[.int .i64 W, .int .i64 H, .slice (some ⟨b, off, none⟩) (4 * M) cap] 35 (0, 0)) by rw [← hV]; exact blk_alloc (blk_new _ _) _)
  have HB1 := Lib.hid (show V.heap[w.heap.size + 1]? = some (.cells #[.int .u8 0, .int .u8 0, .int .u8 0, .int .u8 0] 65 (0, 0)) by rw [← hV]; exact blk_at _ _ (by simp))
  have HI := Lib.hid (fun w => show Calls Try.prog 82 #[.agg #[.int .i64 W, .int .i64 H, .slice (some ⟨b, off, none⟩) (4 * M) cap], .int .i64 x, .int .i64 y] w fun e w' => e = .returned (.bool true) ∧ Kept (fun _ => False) w w' from by
    have h := rin_any W H x y (some ⟨b, off, none⟩) (4 * M) cap w
    rw [show inB W H x y = true from decide_eq_true (by omega)] at h; exact h)
  obtain ⟨⟨c0, -⟩, ⟨c1, -⟩, c2, -⟩ := blk3 HB0.out
  have HK := Lib.hid kV
  have v1 : (y : Int) * (W : Int) = (q : Int) := by rw [← hq]; simp
  have HC := Lib.hid hcell
  clear kV hcell hs hM hq
  go_enter Try.func76, Try.ntmps76
  go_wp2_with fail
  refine (HI.out _).mono ?_; rintro e w1 ⟨rfl, hk⟩
  obtain ⟨⟨c0, -⟩, ⟨c1, -⟩, c2, -⟩ := blk3 (hk.blk HB0.out id)
  have kk := HK.out.then hk
  have x0 := kk.cell (HC.out (4 * (q + x)) (by omega)) id
  have x1 := kk.cell (HC.out (4 * (q + x) + 1) (by omega)) id
  have x2 := kk.cell (HC.out (4 * (q + x) + 2) (by omega)) id
  have x3 := kk.cell (HC.out (4 * (q + x) + 3) (by omega)) id
  obtain ⟨y0, hy0⟩ : ∃ z, p.getD (4 * (q + x)) 0 = z := ⟨_, rfl⟩
  obtain ⟨y1, hy1⟩ : ∃ z, p.getD (4 * (q + x) + 1) 0 = z := ⟨_, rfl⟩
  obtain ⟨y2, hy2⟩ : ∃ z, p.getD (4 * (q + x) + 2) 0 = z := ⟨_, rfl⟩
  obtain ⟨y3, hy3⟩ : ∃ z, p.getD (4 * (q + x) + 3) 0 = z := ⟨_, rfl⟩
  rw [hy0] at x0
  rw [hy1] at x1
  rw [hy2] at x2
  rw [hy3] at x3
  have HE := Lib.hid (show pixV p (q + x) = .agg #[.int .u8 y0, .int .u8 y1, .int .u8 y2, .int .u8 y3] by unfold pixV; rw [hy0, hy1, hy2, hy3])
  obtain ⟨V1, V2, V3, V4, f1, f2, f3, f4, ⟨g0, g0'⟩, ⟨g1, g1'⟩, ⟨g2, g2'⟩, ⟨g3, g3'⟩, bV, kV4⟩ := store4 (hk.blk HB1.out id) (.int .u8 y0) (.int .u8 y1) (.int .u8 y2) (.int .u8 y3)
  obtain ⟨⟨m0, -⟩, ⟨m1, -⟩, ⟨m2, -⟩, m3, -⟩ := blk4 bV
  have HKV := Lib.hid ((HK.out.then hk).trans (kV4.mono fun i _ hi => Or.inr (by have h9 : i = w.heap.size + 1 := hi; omega)))
  have t0 : (4 * ((q : Int) + (x : Int))).toNat = 4 * (q + x) := by omega
  have t1 : (4 * ((q : Int) + (x : Int)) + 1).toNat = 4 * (q + x) + 1 := by omega
  have t2 : (4 * ((q : Int) + (x : Int)) + 2).toNat = 4 * (q + x) + 2 := by omega
  have t3 : (4 * ((q : Int) + (x : Int)) + 3).toNat = 4 * (q + x) + 3 := by omega
  have w1' : IntKind.i64.wrap (4 * ((q : Int) + (x : Int)) + 1) = 4 * ((q : Int) + (x : Int)) + 1 := IntWalk.i64_in _ (by omega)
  have w2' : IntKind.i64.wrap (4 * ((q : Int) + (x : Int)) + 2) = 4 * ((q : Int) + (x : Int)) + 2 := IntWalk.i64_in _ (by omega)
  have w3' : IntKind.i64.wrap (4 * ((q : Int) + (x : Int)) + 3) = 4 * ((q : Int) + (x : Int)) + 3 := IntWalk.i64_in _ (by omega)
  have l0 : 0 ≤ 4 * ((q : Int) + (x : Int)) := by omega
  have l1 : 0 ≤ 4 * ((q : Int) + (x : Int)) + 1 := by omega
  have l2 : 0 ≤ 4 * ((q : Int) + (x : Int)) + 2 := by omega
  have l3 : 0 ≤ 4 * ((q : Int) + (x : Int)) + 3 := by omega
  have l4 : 4 * ((q : Int) + (x : Int)) < 4 * (M : Int) := by omega
  have l5 : 4 * ((q : Int) + (x : Int)) + 1 < 4 * (M : Int) := by omega
  have l6 : 4 * ((q : Int) + (x : Int)) + 2 < 4 * (M : Int) := by omega
  have l7 : 4 * ((q : Int) + (x : Int)) + 3 < 4 * (M : Int) := by omega
  have l8 : (q : Int) + (x : Int) < (M : Int) := by omega
  clear hk bV kV4 kk hy0 hy1 hy2 hy3 hV
  go_wp2
  go_still_tail 24, (by kernel_rfl)
  clear t0 t1 t2 t3 w1' w2' w3' l0 l1 l2 l3 l4 l5 l6 l7
  change wpList _ _ _ _ _ w1.drew
  go_wp2
  exact bodyPost_ret (v := .tuple #[.agg #[.int .u8 y0, .int .u8 y1, .int .u8 y2, .int .u8 y3], .bool true]) (by simp [results, Try.results76, go_sem, m0, m1, m2, m3]) rfl ⟨by rw [HE.out], HKV.out.drew⟩

end Go.Proofs.Ytdjgmhbfohbenaa
namespace Go.Proofs.Ytdjgmhbfohbenaa
open Go.RowKit Go.Sort
set_option linter.unusedVariables false
set_option linter.unusedSimpArgs false
theorem Own.form {k : IntKind} {e : TypeId} {w : World} {a : Option Addr} {n c : Nat} {xs : List Int} (h : Own k e w (.slice a n c) xs) (h0 : 0 < n) : ∃ g, a = some ⟨g, 0, none⟩ := by
  obtain ⟨h1, h2⟩ := h
  rcases h2 with ⟨h3, h4⟩ | ⟨g', cap', cur, h3, -⟩
  · cases h3; omega
  · cases h3; exact ⟨g', rfl⟩
def spotOf (W H SW SH : Nat) (x y : Int) : Spot := ⟨W, SW, x, y, (partS x SW W).1.toNat, (partS x SW W).2.toNat, (partS y SH H).1.toNat, (partS y SH H).2.toNat⟩
theorem part_in {at' : Int} {n side k : Nat} (h0 : (partS at' n side).1 ≤ k) (h1 : (k : Int) < (partS at' n side).2) : at' ≤ k ∧ (k : Int) - at' < n ∧ k < side := by
  unfold partS at h0 h1
  split at h0
  · rename_i h; rw [if_pos h] at h1; simp at h0 h1; omega
  · rename_i h; rw [if_neg h] at h1; simp only at h0 h1; omega
/-- What holds of memory while one matrix is drawn over another. -/
def DrawInv (w : World) (P9 T : Nat) (W H SW SH : Nat) (sa : Option Addr) (sn scap : Nat) (av : Option Addr) (n cv : Nat) (L : List Int) (wr : World) : Prop :=
  Own .u8 5 wr (.slice av n cv) L ∧ Kept (fun _ => False) w wr ∧ wr.heap[w.heap.size + 1]? = some (.cells #[.int .i64 SW, .int .i64 SH, .slice sa sn scap] T (0, 0)) ∧ wr.heap[w.heap.size + 1 + 1]? = some (.cells #[.int .i64 0, .int .i64 0, .slice none 0 0] T (0, 0)) ∧ wr.heap[P9]? = some (.cells #[.int .i64 W, .int .i64 H, .slice av n cv] T (0, 0))
theorem DrawInv.kept {w : World} {P9 T W H SW SH : Nat} {sa : Option Addr} {sn scap : Nat} {av : Option Addr} {n cv : Nat} {L : List Int} {wr w2 : World} (h : DrawInv w P9 T W H SW SH sa sn scap av n cv L wr) (hk : Kept (fun _ => False) wr w2) : DrawInv w P9 T W H SW SH sa sn scap av n cv L w2 :=
  ⟨h.1.kept hk (fun _ _ => id), h.2.1.then hk, hk.blk h.2.2.1 id, hk.blk h.2.2.2.1 id, hk.blk h.2.2.2.2 id⟩
theorem DrawInv.put {w : World} {P9 T W H SW SH : Nat} {sa : Option Addr} {sn scap : Nat} {av : Option Addr} {n cv : Nat} {L L' : List Int} {wr w2 : World} {g : Nat} (h : DrawInv w P9 T W H SW SH sa sn scap av n cv L wr) (ho : Own .u8 5 w2 (.slice av n cv) L') (hk : Kept (fun i => i = g) wr w2) (hg : w.heap.size + 3 ≤ g) (hgP : g < P9) : DrawInv w P9 T W H SW SH sa sn scap av n cv L' w2 :=
  ⟨ho, h.2.1.trans (hk.mono fun i _ hi => Or.inr (by have h9 : i = g := hi; omega)), hk.blk h.2.2.1 (fun (h : w.heap.size + 1 = g) => by omega), hk.blk h.2.2.2.1 (fun (h : w.heap.size + 1 + 1 = g) => by omega), hk.blk h.2.2.2.2 (fun (h : P9 = g) => by omega)⟩

set_option maxRecDepth 100000 in
set_option maxHeartbeats 8000000 in
theorem rdraw_any (W H SW SH : Nat) (x y : Int) (p s : List Int) (a sa : Option Addr) (n cap sn scap : Nat) (w : World) (hxx : I64 x) (hyy : I64 y)
    (hW : W ≤ 16384) (hH : H ≤ 16384) (hSW : SW ≤ 16384) (hSH : SH ≤ 16384) (hn : n = 4 * (W * H)) (hsn : sn = 4 * (SW * SH)) (hn2 : n ≤ 16384) (hsn2 : sn ≤ 16384)
    (hp : SlAt .u8 w a n p) (hs : SlAt .u8 w sa sn s) (hpb : IsBytes p) (hsb : IsBytes s) (hnil : a = none → n = 0 ∧ cap = 0) :
    Calls Try.prog 69 #[.agg #[.int .i64 W, .int .i64 H, .slice a n cap], .agg #[.int .i64 SW, .int .i64 SH, .slice sa sn scap], .int .i64 x, .int .i64 y] w fun e w' => ∃ v, e = .returned (.agg #[.int .i64 W, .int .i64 H, v]) ∧ Made w (tab n (drawF (spotOf W H SW SH x y) p s)) v w' := by
  have hpl := hp.1
  obtain ⟨t, ht⟩ : ∃ t, spotOf W H SW SH x y = t := ⟨_, rfl⟩
  have bx := partS_bd x SW W (by omega)
  have by' := partS_bd y SH H (by omega)
  obtain ⟨x0, hx0⟩ : ∃ k : Nat, (partS x SW W).1 = (k : Int) := ⟨_, Int.eq_ofNat_of_zero_le bx.1 |>.choose_spec⟩
  obtain ⟨x1, hx1⟩ : ∃ k : Nat, (partS x SW W).2 = (k : Int) := ⟨_, Int.eq_ofNat_of_zero_le bx.2.2.1 |>.choose_spec⟩
  obtain ⟨y0, hy0⟩ : ∃ k : Nat, (partS y SH H).1 = (k : Int) := ⟨_, Int.eq_ofNat_of_zero_le by'.1 |>.choose_spec⟩
  obtain ⟨y1, hy1⟩ : ∃ k : Nat, (partS y SH H).2 = (k : Int) := ⟨_, Int.eq_ofNat_of_zero_le by'.2.2.1 |>.choose_spec⟩
  have PX := Lib.hid (fun (k : Nat) (h0 : x0 ≤ k) (h1 : k < x1) => part_in (at' := x) (n := SW) (side := W) (k := k) (by omega) (by omega))
  have PY := Lib.hid (fun (k : Nat) (h0 : y0 ≤ k) (h1 : k < y1) => part_in (at' := y) (n := SH) (side := H) (k := k) (by omega) (by omega))
  have HSX := Lib.hid (fun w => show Calls Try.prog 53 #[.int .i64 x, .int .i64 SW, .int .i64 W] w fun e w' => e = .returned (.tuple #[.int .i64 x0, .int .i64 x1]) ∧ w = w' from by rw [← hx0, ← hx1]; exact span_any x SW W w hxx (by unfold I64; omega) (by omega))
  have HSY := Lib.hid (fun w => show Calls Try.prog 53 #[.int .i64 y, .int .i64 SH, .int .i64 H] w fun e w' => e = .returned (.tuple #[.int .i64 y0, .int .i64 y1]) ∧ w = w' from by rw [← hy0, ← hy1]; exact span_any y SH H w hyy (by unfold I64; omega) (by omega))
  have htt : t = ⟨W, SW, x, y, x0, x1, y0, y1⟩ := by rw [← ht]; unfold spotOf; rw [hx0, hx1, hy0, hy1]; simp
  have hx1W : x1 ≤ W := by have := bx.2.1; omega
  have hy1H : y1 ≤ H := by have := by'.2.1; omega
  have hx0W : x0 ≤ W := by have := bx.2.2.2; omega
  have hy0H : y0 ≤ H := by have := by'.2.2.2; omega
  have TW : t.W = W := by rw [htt]
  have TX0 : t.x0 = x0 := by rw [htt]
  have TX1 : t.x1 = x1 := by rw [htt]
  have TY0 : t.y0 = y0 := by rw [htt]
  have TY1 : t.y1 = y1 := by rw [htt]
  have HSTEP := Lib.hid (fun (X Y : Nat) (hX : X < W) (h0 : x0 ≤ X) (h1 : X < x1) (h2 : y0 ≤ Y) (h3 : Y < y1) (hn' : 4 * (Y * W + X) + 4 ≤ n) => show _ from by
    have h := drawD_step t p s n X Y (by rw [TW]; exact hX) (by rw [TX0]; exact h0) (by rw [TX1]; exact h1) (by rw [TY0]; exact h2) (by rw [TY1]; exact h3) (by rw [TW]; exact hn')
    rw [TW] at h
    rw [show t.y = y by rw [htt], show t.x = x by rw [htt], show t.SW = SW by rw [htt]] at h
    exact h)
  have HGET := Lib.hid (fun (X Y k : Nat) (hX : X < W) (hk : k < 4) (hn' : 4 * (Y * W + X) + 4 ≤ n) => show _ from by
    have h := drawD_get t p s n X Y k (by rw [TW]; exact hX) hk (by rw [TW]; exact hn')
    rw [TW] at h
    exact h)
  have HSTART := Lib.hid (show tab n (drawD t p s y0 x0) = p from by have h := drawD_start t p s n hpl; rw [TX0, TY0] at h; exact h)
  have HEND := Lib.hid (fun (X Y : Nat) (h : y1 ≤ Y) => drawD_end t p s n X Y (by rw [TY1]; exact h))
  have HROW := Lib.hid (fun (X Y : Nat) (h : x1 ≤ X) => show tab n (drawD t p s Y X) = tab n (drawD t p s (Y + 1) x0) from by have h := drawD_row t p s n X Y (by rw [TX1]; exact h); rw [TX0] at h; exact h)
  have HN := Lib.hid hn
  have HSN := Lib.hid hsn
  have HP := Lib.hid hp
  have HS := Lib.hid hs
  have HPB := Lib.hid hpb
  have HSB := Lib.hid hsb
  have HT := Lib.hid ht
  clear bx by' hx0 hx1 hy0 hy1 htt TW TX0 TX1 TY0 TY1 hpl ht hn hsn
  obtain ⟨V, hV⟩ : ∃ V, ((w.alloc (.cells #[.int .i64 W, .int .i64 H, .slice a n cap] 35)).alloc (.cells #[.int .i64 SW, .int .i64 SH, .slice sa sn scap] 35)).alloc (.cells #[.int .i64 0, .int .i64 0, .slice none 0 0] 35) = V := ⟨_, rfl⟩
  have kV : Kept (fun _ => False) w V := by rw [← hV]; exact (((Kept.refl _ w).alloc _).alloc _).alloc _
  have HB0 := Lib.hid (show V.heap[w.heap.size]? = some (.cells #[.int .i64 W, .int .i64 H, .slice a n cap] 35 (0, 0)) by rw [← hV]; exact blk_alloc (blk_alloc (blk_new _ _) _) _)
  have HB1 := Lib.hid (show V.heap[w.heap.size + 1]? = some (.cells #[.int .i64 SW, .int .i64 SH, .slice sa sn scap] 35 (0, 0)) by rw [← hV]; exact blk_alloc (blk_at _ _ (by simp)) _)
  have HB2 := Lib.hid (show V.heap[w.heap.size + 1 + 1]? = some (.cells #[.int .i64 0, .int .i64 0, .slice none 0 0] 35 (0, 0)) by rw [← hV]; exact blk_at _ _ (by simp))
  have sV : w.heap.size + 3 ≤ V.heap.size := by rw [← hV]; simp
  have HTW := Lib.hid (rtwin_any W H a n cap p V (hp.up kV) hn2 hnil)
  have HKV := Lib.hid kV
  obtain ⟨⟨c0, -⟩, ⟨c1, -⟩, c2, -⟩ := blk3 HB0.out
  clear kV hp hs hpb hsb hnil
  go_enter Try.func69, Try.ntmps69
  go_wp2_with fail
  refine HTW.out.mono ?_; rintro e w1 ⟨v, rfl, ho, hk, hf⟩
  obtain ⟨av, cv, rfl, -⟩ := ho.shape
  have hpl2 : p.length = n := HP.out.1
  rw [hpl2] at ho hf ⊢
  obtain ⟨U, hU⟩ : ∃ U, w1.alloc (.cells #[.int .i64 W, .int .i64 H, .slice av n cv] 35) = U := ⟨_, rfl⟩
  obtain ⟨P9, hP9⟩ : ∃ P, w1.heap.size = P := ⟨_, rfl⟩
  have kU : Kept (fun _ => False) w1 U := by rw [← hU]; exact (Kept.refl _ _).alloc _
  have hP9l : V.heap.size ≤ P9 := by have := hk.size; omega
  have HBU := Lib.hid (show U.heap[P9]? = some (.cells #[.int .i64 W, .int .i64 H, .slice av n cv] 35 (0, 0)) by rw [← hU, ← hP9]; exact blk_new _ _)
  have HB0 := Lib.hid ((hk.then kU).blk HB0.out id)
  have HB1 := Lib.hid ((hk.then kU).blk HB1.out id)
  have HB2 := Lib.hid ((hk.then kU).blk HB2.out id)
  have HOU := Lib.hid (ho.kept kU (fun _ _ => id))
  have HKU := Lib.hid ((HKV.out.then hk).then kU)
  have HF := Lib.hid (show ∀ b, (Value.slice av n cv).ownBlock = some b → w.heap.size + 3 ≤ b ∧ b < P9 from fun b hb => ⟨by have := hf b hb; omega, by have := Own.lt ho b hb; omega⟩)
  clear hk kU ho hf c0 c1 c2 hpl2
  obtain ⟨⟨c0, -⟩, ⟨c1, -⟩, c2, -⟩ := blk3 HB0.out
  obtain ⟨⟨d0, -⟩, ⟨d1, -⟩, d2, -⟩ := blk3 HB1.out
  go_wp2_with (go_at_call 53; first | ((with_reducible refine (HSX.out _).mono ?_); rintro e w' ⟨rfl, rfl⟩) | ((with_reducible refine (HSY.out _).mono ?_); rintro e w' ⟨rfl, rfl⟩))
  clear hU hP9 hV c0 c1 c2 d0 d1 d2
  have HINV := Lib.hid (show DrawInv w P9 35 W H SW SH sa sn scap av n cv (tab n (drawD t p s y0 x0)) U from ⟨by rw [HSTART.out]; exact HOU.out, HKU.out, HB1.out, HB2.out, HBU.out⟩)
  go_loopg [14, 15, 16, 17, 18, 19] y1 (fun gg yv _ _ _ _ _ wr => ∃ Y : Nat, y0 ≤ Y ∧ y1 ≤ gg + Y ∧ Y ≤ H ∧ yv = .int .i64 Y ∧ DrawInv w P9 35 W H SW SH sa sn scap av n cv (tab n (drawD t p s Y x0)) wr)
  case atStart => exact ⟨y0, by omega, by omega, by omega, rfl, HINV.out⟩
  case round =>
    obtain ⟨Y, hY0, hgg, hYH, rfl, hinv⟩ := hrel
    by_cases hY1 : Y < y1
    · have gy : decide (Y < y1) = true := decide_eq_true hY1
      have HI := Lib.hid hinv
      obtain ⟨gko, hgo⟩ : ∃ x, x = gk := ⟨_, rfl⟩
      subst hgo
      clear hinv
      go_wp2
      go_loopg [15, 16, 17, 18, 19] x1 (fun gg xv _ _ _ _ wr => ∃ X : Nat, x0 ≤ X ∧ x1 ≤ gg + X ∧ X ≤ W ∧ xv = .int .i64 X ∧ DrawInv w P9 35 W H SW SH sa sn scap av n cv (tab n (drawD t p s Y X)) wr)
      case atStart => exact ⟨x0, by omega, by omega, by omega, rfl, HI.out⟩
      case round =>
        obtain ⟨X, hX0, hgx, hXW', rfl, hinv⟩ := hrel
        by_cases hX1 : X < x1
        · have gx : decide (X < x1) = true := decide_eq_true hX1
          obtain ⟨px1, px2, hXW⟩ := PX.out X hX0 hX1
          obtain ⟨py1, py2, hYHl⟩ := PY.out Y hY0 hY1
          obtain ⟨QX, hqx⟩ : ∃ q : Nat, (X : Int) - x = (q : Int) := ⟨((X : Int) - x).toNat, by omega⟩
          obtain ⟨QY, hqy⟩ : ∃ q : Nat, (Y : Int) - y = (q : Int) := ⟨((Y : Int) - y).toNat, by omega⟩
          have hPn := fit_idx hXW hYHl
          have hn4 : 4 * (Y * W + X) + 4 ≤ n := by have := HN.out; omega
          have hQn := fit_idx (W := SW) (H := SH) (x := QX) (y := QY) (by omega) (by omega)
          have hM1 : W * H ≤ 67108864 := by have := HN.out; omega
          have hM2 : SW * SH ≤ 67108864 := by have := HSN.out; omega
          obtain ⟨g, hg⟩ := hinv.1.form (by omega)
          have hgF := HF.out g (by rw [hg]; rfl)
          obtain ⟨PP, hPP⟩ : ∃ q, Y * W + X = q := ⟨_, rfl⟩
          obtain ⟨QQ, hQQ⟩ : ∃ q, QY * SW + QX = q := ⟨_, rfl⟩
          obtain ⟨s0, hs0⟩ : ∃ z, s.getD (4 * QQ) 0 = z := ⟨_, rfl⟩
          obtain ⟨s1, hs1⟩ : ∃ z, s.getD (4 * QQ + 1) 0 = z := ⟨_, rfl⟩
          obtain ⟨s2, hs2⟩ : ∃ z, s.getD (4 * QQ + 2) 0 = z := ⟨_, rfl⟩
          obtain ⟨s3, hs3⟩ : ∃ z, s.getD (4 * QQ + 3) 0 = z := ⟨_, rfl⟩
          obtain ⟨p0, hp0⟩ : ∃ z, p.getD (4 * PP) 0 = z := ⟨_, rfl⟩
          obtain ⟨p1, hp1⟩ : ∃ z, p.getD (4 * PP + 1) 0 = z := ⟨_, rfl⟩
          obtain ⟨p2, hp2⟩ : ∃ z, p.getD (4 * PP + 2) 0 = z := ⟨_, rfl⟩
          obtain ⟨p3, hp3⟩ : ∃ z, p.getD (4 * PP + 3) 0 = z := ⟨_, rfl⟩
          have bs0 := getD_byte HSB.out (4 * QQ)
          have bs1 := getD_byte HSB.out (4 * QQ + 1)
          have bs2 := getD_byte HSB.out (4 * QQ + 2)
          have bs3 := getD_byte HSB.out (4 * QQ + 3)
          have bp0 := getD_byte HPB.out (4 * PP)
          have bp1 := getD_byte HPB.out (4 * PP + 1)
          have bp2 := getD_byte HPB.out (4 * PP + 2)
          rw [hs0] at bs0; rw [hs1] at bs1; rw [hs2] at bs2; rw [hs3] at bs3; rw [hp0] at bp0; rw [hp1] at bp1; rw [hp2] at bp2
          have HR1 := Lib.hid (fun (V' : World) (hk : Kept (fun _ => False) w V') => show Calls Try.prog 76 #[.agg #[.int .i64 SW, .int .i64 SH, .slice sa sn scap], .int .i64 QX, .int .i64 QY] V' fun e w' => e = .returned (.tuple #[.agg #[.int .u8 s0, .int .u8 s1, .int .u8 s2, .int .u8 s3], .bool true]) ∧ Kept (fun _ => False) V' w' from by
            have h := rat_yes SW SH QX QY s sa sn scap V' (by omega) (by omega) hM2 HSN.out (HS.out.up hk) hSW hSH
            rw [hQQ] at h
            unfold pixV at h
            rw [hs0, hs1, hs2, hs3] at h
            exact h)
          have HR2 := Lib.hid (fun (V' : World) (hi : DrawInv w P9 35 W H SW SH sa sn scap av n cv (tab n (drawD t p s Y X)) V') => show Calls Try.prog 76 #[.agg #[.int .i64 W, .int .i64 H, .slice av n cv], .int .i64 X, .int .i64 Y] V' fun e w' => e = .returned (.tuple #[.agg #[.int .u8 p0, .int .u8 p1, .int .u8 p2, .int .u8 p3], .bool true]) ∧ Kept (fun _ => False) V' w' from by
            have hsl : SlAt .u8 V' av n (tab n (drawD t p s Y X)) := by have h := hi.1; rw [hg] at h ⊢; exact h.slAt
            have h := rat_yes W H X Y (tab n (drawD t p s Y X)) av n cv V' hXW hYHl hM1 HN.out hsl hW hH
            have e0 := HGET.out X Y 0 hXW (by omega) hn4
            have e1 := HGET.out X Y 1 hXW (by omega) hn4
            have e2 := HGET.out X Y 2 hXW (by omega) hn4
            have e3 := HGET.out X Y 3 hXW (by omega) hn4
            rw [hPP] at h e0 e1 e2 e3
            unfold pixV at h
            rw [Nat.add_zero] at e0
            rw [e0, e1, e2, e3, hp0, hp1, hp2, hp3] at h
            exact h)
          have HOV := Lib.hid (fun w => show Calls Try.prog 77 #[.agg #[.int .u8 p0, .int .u8 p1, .int .u8 p2, .int .u8 p3], .agg #[.int .u8 s0, .int .u8 s1, .int .u8 s2, .int .u8 s3]] w fun e w' => e = .returned (.agg #[.int .u8 (ov p0 s0 s3), .int .u8 (ov p1 s1 s3), .int .u8 (ov p2 s2 s3), .int .u8 255]) ∧ Kept (fun _ => False) w w' from
            refOver_any p0 p1 p2 p3 s0 s1 s2 s3 w (by omega) (by omega) (by omega) (by omega) (by omega) (by omega) (by omega))
          have HPUT := Lib.hid (fun (V' : World) (hi : DrawInv w P9 35 W H SW SH sa sn scap av n cv (tab n (drawD t p s Y X)) V') => show Calls Try.prog 54 #[.agg #[.int .i64 W, .int .i64 H, .slice av n cv], .int .i64 X, .int .i64 Y, .agg #[.int .u8 (ov p0 s0 s3), .int .u8 (ov p1 s1 s3), .int .u8 (ov p2 s2 s3), .int .u8 255]] V' fun e w' => e = .returned (.tuple #[]) ∧ DrawInv w P9 35 W H SW SH sa sn scap av n cv (tab n (drawD t p s Y (X + 1))) w' ∧ Kept (fun i => i = g) V' w' from by
            have ho := hi.1
            rw [hg] at ho ⊢
            refine (put_any W H X Y _ [] g n cv V' hXW hYHl hM1 HN.out ho hW hH _ _ _ _).mono ?_
            rintro e w' ⟨rfl, ho', hk'⟩
            have hst := HSTEP.out X Y hXW hX0 hX1 hY0 hY1 hn4 QQ (by rw [← hQQ, hqx, hqy]; rfl) [ov p0 s0 s3, ov p1 s1 s3, ov p2 s2 s3, 255] rfl (fun k hk => by
              unfold overK
              match k, hk with
              | 0, _ => rw [hPP]; simp only [Nat.add_zero]; rw [hp0, hs0, hs3]; rfl
              | 1, _ => rw [hPP, hp1, hs1, hs3]; rfl
              | 2, _ => rw [hPP, hp2, hs2, hs3]; rfl
              | 3, _ => rfl)
            rw [hst] at ho'
            refine ⟨rfl, ?_, hk'⟩
            have h := hi.put (L' := tab n (drawD t p s Y (X + 1))) (by rw [hg]; exact ho') hk' hgF.1 hgF.2
            rw [hg] at h
            exact h)
          have HI := Lib.hid hinv
          obtain ⟨⟨d0, -⟩, ⟨d1, -⟩, d2, -⟩ := blk3 hinv.2.2.1
          have HPXY := Lib.hid (And.intro hXW hYHl)
          clear hinv hs0 hs1 hs2 hs3 hp0 hp1 hp2 hp3 hPP hQQ hPn hQn hM1 hM2 hn4 hg
          go_wp2_with fail
          refine (HR1.out _ HI.out.2.1).mono ?_; rintro e w2 ⟨rfl, hk2⟩
          obtain ⟨V2, hV2⟩ : ∃ V, w2.alloc (.cells #[.int .u8 s0, .int .u8 s1, .int .u8 s2, .int .u8 s3] 65) = V := ⟨_, rfl⟩
          have kV2 : Kept (fun _ => False) w2 V2 := by rw [← hV2]; exact (Kept.refl _ _).alloc _
          have HB16 := Lib.hid (show V2.heap[w2.heap.size]? = some (.cells #[.int .u8 s0, .int .u8 s1, .int .u8 s2, .int .u8 s3] 65 (0, 0)) by rw [← hV2]; exact blk_new _ _)
          have HI2 := Lib.hid ((HI.out.kept hk2).kept kV2)
          obtain ⟨⟨c0, -⟩, ⟨c1, -⟩, c2, -⟩ := blk3 HI2.out.2.2.2.2
          have hP92 : P9 < w2.heap.size := by have := lt_of_blk (HI.out.kept hk2).2.2.2.2; exact this
          clear hk2 kV2 d0 d1 d2
          go_wp2_with fail
          refine (HR2.out _ HI2.out).mono ?_; rintro e w3 ⟨rfl, hk3⟩
          obtain ⟨V3, hV3⟩ : ∃ V, w3.alloc (.cells #[.int .u8 p0, .int .u8 p1, .int .u8 p2, .int .u8 p3] 65) = V := ⟨_, rfl⟩
          have kV3 : Kept (fun _ => False) w3 V3 := by rw [← hV3]; exact (Kept.refl _ _).alloc _
          have b18 : V3.heap[w3.heap.size]? = some (.cells #[.int .u8 p0, .int .u8 p1, .int .u8 p2, .int .u8 p3] 65 (0, 0)) := by rw [← hV3]; exact blk_new _ _
          have b16 := (hk3.then kV3).blk HB16.out id
          have hi3 := (HI2.out.kept hk3).kept kV3
          have HI3 := Lib.hid hi3
          have HB18 := Lib.hid b18
          have HB16' := Lib.hid b16
          have hP93 : P9 < w3.heap.size := by have := lt_of_blk (HI2.out.kept hk3).2.2.2.2; exact this
          obtain ⟨⟨c0, -⟩, ⟨c1, -⟩, c2, -⟩ := blk3 hi3.2.2.2.2
          obtain ⟨⟨m0, -⟩, ⟨m1, -⟩, ⟨m2, -⟩, m3, -⟩ := blk4 b16
          obtain ⟨⟨r0, -⟩, ⟨r1, -⟩, ⟨r2, -⟩, r3, -⟩ := blk4 b18
          have hne1 : w2.heap.size ≠ g := by omega
          have hne2 : w3.heap.size ≠ g := by omega
          clear hk3 kV3 b16 b18 hi3 hV2
          go_wp2
          clear hV3
          go_region_held3 (fun w' => w'.cell? ⟨P9, 0, none⟩ = some (.int .i64 W) ∧ w'.cell? ⟨P9, 1, none⟩ = some (.int .i64 H) ∧ w'.cell? ⟨P9, 2, none⟩ = some (.slice av n cv) ∧ w'.cell? ⟨w2.heap.size, 0, none⟩ = some (.int .u8 s0) ∧ w'.cell? ⟨w2.heap.size, 1, none⟩ = some (.int .u8 s1) ∧ w'.cell? ⟨w2.heap.size, 2, none⟩ = some (.int .u8 s2) ∧ w'.cell? ⟨w2.heap.size, 3, none⟩ = some (.int .u8 s3) ∧ w'.cell? ⟨w3.heap.size, 0, none⟩ = some (.int .u8 p0) ∧ w'.cell? ⟨w3.heap.size, 1, none⟩ = some (.int .u8 p1) ∧ w'.cell? ⟨w3.heap.size, 2, none⟩ = some (.int .u8 p2) ∧ w'.cell? ⟨w3.heap.size, 3, none⟩ = some (.int .u8 p3)) (first | ((go_keep; done)) | (go_split_ands; all_goals go_keep)) (first
            | (go_at_call 77; refine Calls.mono (HOV.out _) ?_; rintro e w5 ⟨rfl, h5⟩; have k5 := ((Kept.refl (fun _ => False) V3).drew).then h5; have HI5 := Lib.hid (HI3.out.kept k5); obtain ⟨⟨c0, -⟩, ⟨c1, -⟩, c2, -⟩ := blk3 HI5.out.2.2.2.2; have HB16'' := Lib.hid (k5.blk HB16'.out id); have HB18'' := Lib.hid (k5.blk HB18.out id); obtain ⟨⟨m0, -⟩, ⟨m1, -⟩, ⟨m2, -⟩, m3, -⟩ := blk4 HB16''.out; obtain ⟨⟨r0, -⟩, ⟨r1, -⟩, ⟨r2, -⟩, r3, -⟩ := blk4 HB18''.out; clear h5 k5)
            | (go_at_call 54; refine Calls.mono (HPUT.out _ HI5.out) ?_; rintro e w6 ⟨rfl, hi6, hk6⟩; have HI6 := Lib.hid hi6; obtain ⟨⟨c0, -⟩, ⟨c1, -⟩, c2, -⟩ := blk3 hi6.2.2.2.2; obtain ⟨⟨m0, -⟩, ⟨m1, -⟩, ⟨m2, -⟩, m3, -⟩ := blk4 (hk6.blk HB16''.out (fun h => hne1 h)); obtain ⟨⟨r0, -⟩, ⟨r1, -⟩, ⟨r2, -⟩, r3, -⟩ := blk4 (hk6.blk HB18''.out (fun h => hne2 h)); clear hi6 hk6))
          have hXW2 := HPXY.out.1
          go_wp2
          go_roundg (gk - 1)
          case rel => exact ⟨X + 1, by omega, by omega, by omega, by go_num, HI6.out⟩
          case measure => omega
        · have gx : decide (X < x1) = false := decide_eq_false hX1
          have hrow := HROW.out X Y (by omega)
          rw [hrow] at hinv
          have HI := Lib.hid hinv
          clear hinv hrow
          go_wp2
          go_roundg (gko - 1)
          case rel => exact ⟨Y + 1, by omega, by omega, by omega, by go_num, HI.out⟩
          case measure => omega
    · have gy : decide (Y < y1) = false := decide_eq_false hY1
      have hend := HEND.out x0 Y (by omega)
      rw [hend] at hinv
      obtain ⟨⟨c0, -⟩, ⟨c1, -⟩, c2, -⟩ := blk3 hinv.2.2.2.2
      obtain ⟨V1, V2, V3, f1, f2, f3, ⟨g0, g0'⟩, ⟨g1, g1'⟩, ⟨g2, g2'⟩, bV, kV3⟩ := store3 hinv.2.2.2.1 (.int .i64 W) (.int .i64 H) (.slice av n cv)
      obtain ⟨⟨m0, -⟩, ⟨m1, -⟩, m2, -⟩ := blk3 bV
      have HO := Lib.hid (hinv.1.kept kV3 (fun b hb (hS : b = w.heap.size + 1 + 1) => by have := HF.out b hb; omega))
      have HK := Lib.hid (hinv.2.1.trans (kV3.mono fun i _ hi => Or.inr (by have h9 : i = w.heap.size + 1 + 1 := hi; omega)))
      clear hinv hend bV kV3
      go_wp2
      exact bodyPost_ret (v := .agg #[.int .i64 W, .int .i64 H, .slice av n cv]) (by simp [results, Try.results69, go_sem, m0, m1, m2]) rfl ⟨_, rfl, by rw [HT.out]; exact HO.out, HK.out, fun b hb => by have := HF.out b hb; omega⟩

end Go.Proofs.Ytdjgmhbfohbenaa
