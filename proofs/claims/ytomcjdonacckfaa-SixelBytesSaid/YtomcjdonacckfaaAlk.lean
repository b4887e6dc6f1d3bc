/- Two pictures alike; size, bytes; New's error. -/
import Derived.Test.YtomcjdonacckfaaKnown
import Derived.Test.YtomcjdonacckfaaReg
import Derived.Test.YtomcjdonacckfaaWf
import Derived.Test.YtomcjdonacckfaaNewDR
import Derived.Lib.QuietBelow
namespace Go.Proofs.Ytomcjdonacckfaa
open Go.RowKit Go.Sort
set_option linter.unusedVariables false
set_option linter.unusedSimpArgs false
theorem quietC {f : FuncId} {args : Array Value} {V : World} {d : Nat} {os : Array Obj} {v : Value} (h : ∀ V', Kept (fun _ => False) V V' → Calls Try.prog f args V' fun e w' => e = .returned v ∧ Kept (fun _ => False) V' w') :
    Calls Try.prog f args (grow (redrawn V d) os) fun e w'' => e = .returned v ∧ ∃ p : Regrown, w'' = grow (redrawn V p.d) p.os :=
  Calls.regrown_of ((h _ (Kept.of_below (below_regrown V d os) (fun i h1 h2 => by omega))).mono fun _ _ ⟨a, b⟩ => ⟨a, b.below⟩)
theorem kept_of_regrown {V : World} (d : Nat) (os : Array Obj) : Kept (fun _ => False) V (grow (redrawn V d) os) := Kept.of_below (below_regrown V d os) (fun i h1 h2 => by omega)
set_option maxRecDepth 100000 in
set_option maxHeartbeats 2000000 in
theorem of_any (x y : Int) (a : Option Addr) (n cap : Nat) (w : World) :
    Calls Try.prog 37 #[.agg #[.int .i64 x, .int .i64 y, .slice a n cap]] w fun e w' => e = .returned (.agg #[.int .i64 x, .int .i64 y, .slice a n cap]) ∧ Kept (fun _ => False) w w' := by
  obtain ⟨W, hW⟩ : ∃ W, (w.alloc (.cells #[.int .i64 x, .int .i64 y, .slice a n cap] 38)).alloc (.cells #[.int .i64 x, .int .i64 y, .slice a n cap] 61) = W := ⟨_, rfl⟩
  have b0 : W.heap[w.heap.size + 1]? = some (.cells #[.int .i64 x, .int .i64 y, .slice a n cap] 61 (0, 0)) := by rw [← hW]; exact blk_at _ _ (by simp)
  have HK := Lib.hid (show Kept (fun _ => False) w W by rw [← hW]; exact ((Kept.refl _ w).alloc _).alloc _)
  obtain ⟨⟨c0, -⟩, ⟨c1, -⟩, c2, -⟩ := blk3 b0
  clear b0
  go_enter Try.func37, Try.ntmps37
  go_wp2
  first
  | exact bodyPost_ret (v := .agg #[.int .i64 x, .int .i64 y, .slice a n cap]) (by simp [results, Try.results37, go_sem, c0, c1, c2]) rfl ⟨rfl, HK.out⟩
  | (go_region
     all_goals go_wp2
     all_goals exact bodyPost_ret (v := .agg #[.int .i64 x, .int .i64 y, .slice a n cap]) (by simp [results, Try.results37, go_sem, c0, c1, c2]) rfl ⟨rfl, HK.out.drew⟩)
set_option maxRecDepth 100000 in
set_option maxHeartbeats 2000000 in
theorem same_any (x y : Int) (p : List Int) (a1 a2 : Option Addr) (n1 n2 c1 c2 : Nat) (w : World) (h1 : SlAt .u8 w a1 n1 p) (h2 : SlAt .u8 w a2 n2 p) :
    Calls Try.prog 36 #[.agg #[.int .i64 x, .int .i64 y, .slice a1 n1 c1], .agg #[.int .i64 x, .int .i64 y, .slice a2 n2 c2]] w fun e w' => e = .returned (.bool true) ∧ Kept (fun _ => False) w w' := by
  obtain ⟨W, hW⟩ : ∃ W, (w.alloc (.cells #[.int .i64 x, .int .i64 y, .slice a1 n1 c1] 61)).alloc (.cells #[.int .i64 x, .int .i64 y, .slice a2 n2 c2] 61) = W := ⟨_, rfl⟩
  have kW : Kept (fun _ => False) w W := by rw [← hW]; exact ((Kept.refl _ w).alloc _).alloc _
  have b0 : W.heap[w.heap.size]? = some (.cells #[.int .i64 x, .int .i64 y, .slice a1 n1 c1] 61 (0, 0)) := by rw [← hW]; exact blk_alloc (blk_new _ _) _
  have b1 : W.heap[w.heap.size + 1]? = some (.cells #[.int .i64 x, .int .i64 y, .slice a2 n2 c2] 61 (0, 0)) := by rw [← hW]; exact blk_at _ _ (by simp)
  obtain ⟨SX, hSX⟩ : ∃ S, strOfNums p = S := ⟨_, rfl⟩
  have cv1 := run_str (P := Try.prog) Try.underlying30 Try.underlying5 Try.underlying9 (h1.kept kW (fun _ _ _ _ => id)) (len := n1) (cap := c1)
  have cv2 := run_str (P := Try.prog) Try.underlying30 Try.underlying5 Try.underlying9 (h2.kept kW (fun _ _ _ _ => id)) (len := n2) (cap := c2)
  rw [hSX] at cv1 cv2
  have HK := Lib.hid kW
  obtain ⟨⟨x0, -⟩, ⟨x1, -⟩, x2, -⟩ := blk3 b0
  obtain ⟨⟨y0, -⟩, ⟨y1, -⟩, y2, -⟩ := blk3 b1
  clear b0 b1 kW h1 h2 hSX
  go_enter Try.func36, Try.ntmps36
  go_wp2
  go_ret
  exact ⟨rfl, HK.out⟩
set_option maxRecDepth 100000 in
set_option maxHeartbeats 2000000 in
theorem alike_any (x y : Int) (p : List Int) (a1 a2 : Option Addr) (n1 n2 c1 c2 : Nat) (w : World) (h1 : SlAt .u8 w a1 n1 p) (h2 : SlAt .u8 w a2 n2 p) :
    Calls Try.prog 29 #[.agg #[.int .i64 x, .int .i64 y, .slice a1 n1 c1], .agg #[.int .i64 x, .int .i64 y, .slice a2 n2 c2]] w fun e w' => e = .returned (.bool true) ∧ Kept (fun _ => False) w w' := by
  obtain ⟨W, hW⟩ : ∃ W, (w.alloc (.cells #[.int .i64 x, .int .i64 y, .slice a1 n1 c1] 38)).alloc (.cells #[.int .i64 x, .int .i64 y, .slice a2 n2 c2] 61) = W := ⟨_, rfl⟩
  have kW : Kept (fun _ => False) w W := by rw [← hW]; exact ((Kept.refl _ w).alloc _).alloc _
  have b0 : W.heap[w.heap.size]? = some (.cells #[.int .i64 x, .int .i64 y, .slice a1 n1 c1] 38 (0, 0)) := by rw [← hW]; exact blk_alloc (blk_new _ _) _
  have b1 : W.heap[w.heap.size + 1]? = some (.cells #[.int .i64 x, .int .i64 y, .slice a2 n2 c2] 61 (0, 0)) := by rw [← hW]; exact blk_at _ _ (by simp)
  have D1 := Lib.hid (fun (V' : World) (hk : Kept (fun _ => False) W V') => of_any x y a1 n1 c1 V')
  have D2 := Lib.hid (fun (V' : World) (hk : Kept (fun _ => False) W V') => same_any x y p a1 a2 n1 n2 c1 c2 V' (h1.kept (kW.then hk) (fun _ _ _ _ => id)) (h2.kept (kW.then hk) (fun _ _ _ _ => id)))
  have HK := Lib.hid kW
  obtain ⟨⟨x0, -⟩, ⟨x1, -⟩, x2, -⟩ := blk3 b0
  obtain ⟨⟨y0, -⟩, ⟨y1, -⟩, y2, -⟩ := blk3 b1
  have X0 := cell_regrown x0
  have X1 := cell_regrown x1
  have X2 := cell_regrown x2
  have Y0 := cell_regrown y0
  have Y1 := cell_regrown y1
  have Y2 := cell_regrown y2
  clear b0 b1 kW h1 h2 x0 x1 x2 y0 y1 y2
  go_enter Try.func29, Try.ntmps29
  go_wp2
  refine wp_region_quiet_below (by kernel_rfl) (by kernel_rfl) ?_
  repeat (quiet_step (first | with_reducible exact quietC D1.out | with_reducible exact quietC D2.out))
  refine wpQuiet_nil ?_
  rintro _ ⟨⟨dd, os⟩, rfl⟩
  go_wp2
  go_ret
  exact ⟨rfl, HK.out.then (kept_of_regrown dd os)⟩
set_option maxRecDepth 100000 in
set_option maxHeartbeats 2000000 in
theorem psize_any (G : Nat → Prop) (d : Dec) (W : World) (a : Nat) (h : DOwn G W a d) : Calls Try.prog 25 #[.pointer (some ⟨a, 0, none⟩)] W fun e w' => e = .returned (.tuple #[.int .i64 d.w, .int .i64 d.h]) ∧ Kept (fun _ => False) W w' := by
  obtain ⟨pv, nv, hb, -⟩ := h
  obtain ⟨E1, hE1⟩ : ∃ D, W.drew = D := ⟨_, rfl⟩
  have k1 : Kept (fun _ => False) W E1 := by rw [← hE1]; exact (Kept.refl _ W).drew
  have hb1 := hb.kept k1 id
  obtain ⟨c1, -⟩ := hb.fw
  obtain ⟨c2, -⟩ := hb.fh
  obtain ⟨d1, -⟩ := hb1.fw
  obtain ⟨d2, -⟩ := hb1.fh
  have HK := Lib.hid k1
  clear hb hb1 k1
  go_enter Try.func25, Try.ntmps25
  go_wp2
  go_still (by kernel_rfl)
  rw [show (World.mk W.heap W.tape (W.drawn + 1) W.os W.output) = E1 from hE1]
  go_wp2
  exact bodyPost_ret (v := .tuple #[.int .i64 d.w, .int .i64 d.h]) (by simp [results, Try.results25, go_sem]) rfl ⟨rfl, HK.out⟩
set_option maxRecDepth 100000 in
set_option maxHeartbeats 2000000 in
theorem bytes_any (G : Nat → Prop) (d : Dec) (W : World) (a : Nat) (h : DOwn G W a d) : Calls Try.prog 27 #[.pointer (some ⟨a, 0, none⟩)] W fun e w' => e = .returned (.int .i64 (IntKind.i64.wrap (IntKind.i64.wrap (4 * d.w) * d.h))) ∧ Kept (fun _ => False) W w' := by
  obtain ⟨pv, nv, hb, -⟩ := h
  obtain ⟨E1, hE1⟩ : ∃ D, W.drew = D := ⟨_, rfl⟩
  have k1 : Kept (fun _ => False) W E1 := by rw [← hE1]; exact (Kept.refl _ W).drew
  have hb1 := hb.kept k1 id
  obtain ⟨c1, -⟩ := hb.fw
  obtain ⟨c2, -⟩ := hb.fh
  obtain ⟨d1, -⟩ := hb1.fw
  obtain ⟨d2, -⟩ := hb1.fh
  obtain ⟨p, hp⟩ : ∃ p, IntKind.i64.wrap (4 * d.w) = p := ⟨_, rfl⟩
  obtain ⟨q, hq⟩ : ∃ q, IntKind.i64.wrap (p * d.h) = q := ⟨_, rfl⟩
  rw [hp, hq]
  have HK := Lib.hid k1
  clear hb hb1 k1
  go_enter Try.func27, Try.ntmps27
  go_wp2
  go_still (by kernel_rfl)
  rw [show (World.mk W.heap W.tape (W.drawn + 1) W.os W.output) = E1 from hE1]
  go_wp2
  go_ret
  exact ⟨rfl, HK.out⟩
set_option maxRecDepth 100000 in
set_option maxHeartbeats 2000000 in
theorem new_bad (clear : Bool) (M : Int) (W : World) (hM : M < 0 ∨ 1073741824 < M) :
    Calls Try.prog 17 #[.bool clear, .int .i64 M] W fun e w' => e = .returned (.tuple #[.pointer none, .int .i64 1]) ∧ Kept (fun _ => False) W w' := by
  cases h0 : decide (M < 0) with
  | true =>
    clear hM
    go_enter Try.func17, Try.ntmps17
    go_wp2
    exact bodyPost_ret (v := .tuple #[.pointer none, .int .i64 1]) (by simp [results, Try.results17, go_sem]) rfl ⟨rfl, Kept.refl _ _⟩
  | false =>
    have h1 : decide (1073741824 < M) = true := decide_eq_true (by rcases hM with h | h; exact absurd h (of_decide_eq_false h0); exact h)
    clear hM
    go_enter Try.func17, Try.ntmps17
    go_wp2
    exact bodyPost_ret (v := .tuple #[.pointer none, .int .i64 1]) (by simp [results, Try.results17, go_sem]) rfl ⟨rfl, Kept.refl _ _⟩
set_option maxRecDepth 100000 in
set_option maxHeartbeats 2000000 in
theorem R.new_bad (clear : Bool) (M : Int) (W : World) (hM : M < 0 ∨ 1073741824 < M) :
    Calls Try.prog 23 #[.bool clear, .int .i64 M] W fun e w' => e = .returned (.tuple #[.pointer none, .int .i64 1]) ∧ Kept (fun _ => False) W w' := by
  cases h0 : decide (M < 0) with
  | true =>
    clear hM
    go_enter Try.func23, Try.ntmps23
    go_wp2
    exact bodyPost_ret (v := .tuple #[.pointer none, .int .i64 1]) (by simp [results, Try.results23, go_sem]) rfl ⟨rfl, Kept.refl _ _⟩
  | false =>
    have h1 : decide (1073741824 < M) = true := decide_eq_true (by rcases hM with h | h; exact absurd h (of_decide_eq_false h0); exact h)
    clear hM
    go_enter Try.func23, Try.ntmps23
    go_wp2
    exact bodyPost_ret (v := .tuple #[.pointer none, .int .i64 1]) (by simp [results, Try.results23, go_sem]) rfl ⟨rfl, Kept.refl _ _⟩
end Go.Proofs.Ytomcjdonacckfaa
