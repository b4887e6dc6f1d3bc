/- What stands behind 38, 48: the program's. -/
import Derived.Test.YtdcbaobipogmnaaLook
namespace Go.Proofs.Ytdcbaobipogmnaa
open Go.RowKit Pl
set_option linter.unusedVariables false
/-- A list of numbers that came in: below block B. -/
def Arg (B : Nat) (w : World) (a : Option Addr) (len cap : Nat) (l : List Int) : Prop :=
  SlAt .i64 w a len l ∧ len ≤ cap ∧ cap ≤ 9223372036854775807 ∧ (∀ b off, 0 < len → a = some ⟨b, off, none⟩ → b < B) ∧ ∀ n ∈ l, In n
theorem Arg.kept {B : Nat} {S : Nat → Prop} {w w' : World} {a : Option Addr} {len cap : Nat} {l : List Int} (h : Arg B w a len cap l) (hk : Kept S w w') (hs : ∀ i, S i → B ≤ i) : Arg B w' a len cap l := by
  obtain ⟨h1, h2, h3, h4, h5⟩ := h
  exact ⟨h1.kept hk (fun b off h0 he hS => by have := hs b hS; have := h4 b off h0 he; omega), h2, h3, h4, h5⟩
theorem Arg.nil (B : Nat) (w : World) : Arg B w none 0 0 [] := ⟨⟨rfl, .inl rfl⟩, by omega, by omega, fun _ _ h => absurd h (by omega), fun n h => by cases h⟩
theorem Arg.drop {B : Nat} {w : World} {b off len cap : Nat} {l : List Int} (h : Arg B w (some ⟨b, off, none⟩) len cap l) (k : Nat) (hk : k ≤ len) :
    Arg B w (if cap = k then some ⟨b, off, none⟩ else some ⟨b, off + k, none⟩) (len - k) (cap - k) (l.drop k) := by
  obtain ⟨h1, h2, h3, h4, h5⟩ := h
  have hl := h1.1
  refine ⟨⟨by simp; omega, ?_⟩, by omega, by omega, ?_, fun n hn => h5 n (List.mem_of_mem_drop hn)⟩
  · by_cases h0 : len = k
    · left; omega
    · right
      rw [if_neg (by omega)]
      obtain ⟨b', o', he, hc⟩ := h1.2.resolve_left (by omega)
      cases he
      refine ⟨b, off + k, rfl, fun j hj => ?_⟩
      rw [Nat.add_assoc, hc (k + j) (by omega)]
      simp [List.getD_eq_getElem?_getD, List.getElem?_drop]
  · intro b' o' h0 he
    split at he <;> cases he <;> exact h4 b off (by omega) rfl
theorem Arg.drop0 {B : Nat} {w : World} {b off len cap : Nat} {l : List Int} (h : Arg B w (some ⟨b, off, none⟩) len cap l) (k : Nat) (hk : k ≤ len) (hc : cap = k) : Arg B w (some ⟨b, off, none⟩) (len - k) 0 (l.drop k) := by
  have h1 := h.drop k hk
  rw [if_pos hc, show cap - k = 0 by omega] at h1
  exact h1
theorem Arg.drop1 {B : Nat} {w : World} {b off len cap : Nat} {l : List Int} (h : Arg B w (some ⟨b, off, none⟩) len cap l) (k : Nat) (hk : k ≤ len) (hc : ¬ cap = k) : Arg B w (some ⟨b, off + k, none⟩) (len - k) (cap - k) (l.drop k) := by
  have h1 := h.drop k hk
  rw [if_neg hc] at h1
  exact h1
def FarPost (B p : Nat) (a' : Look) (l' : List Int) (w : World) (e : Ending) (w' : World) : Prop :=
  ∃ ad len cap, e = .returned (.slice ad len cap) ∧ Arg B w' ad len cap l' ∧ w'.heap[p]? = some (.cells (cells3 a') 23 (0, 0)) ∧ Kept (· = p) w w'

set_option maxRecDepth 100000 in
set_option maxHeartbeats 1000000 in
theorem far0_A (B p b off len cap : Nat) (x y z : Int) (l : List Int) (w : World) (hp : B ≤ p) (hb : w.heap[p]? = some (.cells #[.int .i64 x, .int .i64 y, .int .i64 z] 23 (0, 0))) (h : Arg B w (some ⟨b, off, none⟩) len cap l) (v : Int) (r : List Int) (hl : l = 5 :: v :: r) :
    Calls Try.prog 21 #[.pointer (some ⟨p, 0, none⟩), .slice (some ⟨b, off, none⟩) len cap] w (FarPost B p ⟨if byteB v = true then 16777216 + v else x, y, z⟩ r w) := by
  subst hl
  have hlen : 2 ≤ len := by have := h.1.1; simp at this; omega
  have hlc := h.2.1
  have hcm := h.2.2.1
  have hll := h.1.1
  have hall := h.2.2.2.2
  obtain ⟨b', o', he, hc⟩ := h.1.2.resolve_left (by omega)
  cases he
  have HA := Lib.hid h
  have hbB := h.2.2.2.1 b off (by omega) rfl
  have x0 := hc 0 (by omega)
  have x1 := hc 1 (by omega)
  have hv := hall v (by simp)
  simp only [Nat.add_zero, List.getD_cons_zero, List.getD_cons_succ] at x0 x1
  have HD0 := Lib.hid (h.drop0 2 hlen)
  have HD1 := Lib.hid (h.drop1 2 hlen)
  obtain ⟨⟨c0, f0⟩, ⟨c1, f1⟩, c2, f2⟩ := blk3 hb
  have HB := Lib.hid hb
  have g1 : decide (2 ≤ (len : Int)) = true := decide_eq_true (by omega)
  have hbp : b ≠ p := by omega
  have t0 : 0 < len := by omega
  have t1 : 1 < len := by omega
  unfold In at hv
  clear h hb hc hall hll
  cases hy : byteB v with
  | false =>
    have hC : ∀ w, Calls Try.prog 29 #[.int .i64 v] w fun e w' => e = .returned (.bool false) ∧ w = w' := fun w => by have h := byte_any v w; rw [hy] at h; exact h
    have HC := Lib.hid hC
    clear hC hy
    go_enter Try.func21, Try.ntmps21
    go_wp2_with fail
    refine (HC.out _).mono ?_; rintro e w' ⟨rfl, rfl⟩
    go_wp2
    all_goals
      go_ret
      exact ⟨_, _, _, rfl, (by first | exact HD0.out (by assumption) | exact HD1.out (by assumption)), HB.out, Kept.refl _ _⟩
  | true =>
    have hC : ∀ w, Calls Try.prog 29 #[.int .i64 v] w fun e w' => e = .returned (.bool true) ∧ w = w' := fun w => by have h := byte_any v w; rw [hy] at h; exact h
    have hv2 : 0 ≤ v ∧ v ≤ 255 := of_decide_eq_true hy
    have HC := Lib.hid hC
    clear hC hy
    go_enter Try.func21, Try.ntmps21
    go_wp2_with fail
    refine (HC.out _).mono ?_; rintro e w' ⟨rfl, rfl⟩
    go_wp2
    all_goals
      go_ret
      have hk : Kept (fun i => i = p) w (w.setCell ⟨p, 0, none⟩ (.int .i64 (16777216 + v))) := (Kept.refl (fun i => i = p) w).setCell (p := ⟨p, 0, none⟩) (.inl rfl) _
      exact ⟨_, _, _, rfl, (by first | exact (HD0.out (by assumption)).kept hk (fun i hi => by have h9 : i = p := hi; omega) | exact (HD1.out (by assumption)).kept hk (fun i hi => by have h9 : i = p := hi; omega)), by simpa [cells3] using blk_set HB.out 0 (.int .i64 (16777216 + v)), hk⟩
set_option maxRecDepth 100000 in
set_option maxHeartbeats 2000000 in
theorem far0_B (B p b off len cap : Nat) (x y z : Int) (l : List Int) (w : World) (hp : B ≤ p) (hb : w.heap[p]? = some (.cells #[.int .i64 x, .int .i64 y, .int .i64 z] 23 (0, 0))) (h : Arg B w (some ⟨b, off, none⟩) len cap l) (r g bb : Int) (t : List Int) (hl : l = 2 :: r :: g :: bb :: t) :
    Calls Try.prog 21 #[.pointer (some ⟨p, 0, none⟩), .slice (some ⟨b, off, none⟩) len cap] w (FarPost B p ⟨if byteB r = true ∧ byteB g = true ∧ byteB bb = true then 33554432 + r * 65536 + g * 256 + bb else x, y, z⟩ t w) := by
  subst hl
  have hlen : 4 ≤ len := by have := h.1.1; simp at this; omega
  have hlc := h.2.1
  have hcm := h.2.2.1
  have hll := h.1.1
  have hall := h.2.2.2.2
  obtain ⟨b', o', he, hc⟩ := h.1.2.resolve_left (by omega)
  cases he
  have HA := Lib.hid h
  have hbB := h.2.2.2.1 b off (by omega) rfl
  have x0 := hc 0 (by omega)
  have x1 := hc 1 (by omega)
  have x2 := hc 2 (by omega)
  have x3 := hc 3 (by omega)
  have hr := hall r (by simp)
  have hg := hall g (by simp)
  have hbb := hall bb (by simp)
  simp only [Nat.add_zero, List.getD_cons_zero, List.getD_cons_succ] at x0 x1 x2 x3
  have HD0 := Lib.hid (h.drop0 4 hlen)
  have HD1 := Lib.hid (h.drop1 4 hlen)
  obtain ⟨⟨c0, f0⟩, ⟨c1, f1⟩, c2, f2⟩ := blk3 hb
  have HB := Lib.hid hb
  have g1 : decide (2 ≤ (len : Int)) = true := decide_eq_true (by omega)
  have g2 : decide (4 ≤ (len : Int)) = true := decide_eq_true (by omega)
  have hbp : b ≠ p := by omega
  have t0 : 0 < len := by omega
  have t1 : 1 < len := by omega
  have t2 : 2 < len := by omega
  have t3 : 3 < len := by omega
  unfold In at hr hg hbb
  clear h hb hc hall hll
  cases hyr : byteB r with
  | false =>
    have hCr : ∀ w, Calls Try.prog 29 #[.int .i64 r] w fun e w' => e = .returned (.bool false) ∧ w = w' := fun w => by have h := byte_any r w; rw [hyr] at h; exact h
    have Hr := Lib.hid hCr
    clear hCr
    clear hyr
    rw [if_neg (by simp)]
    go_enter Try.func21, Try.ntmps21
    go_wp2_with fail
    refine (Hr.out _).mono ?_; rintro e w' ⟨rfl, rfl⟩
    go_wp2
    all_goals
      go_ret
      exact ⟨_, _, _, rfl, (by first | exact HD0.out (by assumption) | exact HD1.out (by assumption)), HB.out, Kept.refl _ _⟩
  | true =>
    have hr2 : 0 ≤ r ∧ r ≤ 255 := of_decide_eq_true hyr
    have hCr : ∀ w, Calls Try.prog 29 #[.int .i64 r] w fun e w' => e = .returned (.bool true) ∧ w = w' := fun w => by have h := byte_any r w; rw [hyr] at h; exact h
    have Hr := Lib.hid hCr
    clear hCr
    cases hyg : byteB g with
    | false =>
      have hCg : ∀ w, Calls Try.prog 29 #[.int .i64 g] w fun e w' => e = .returned (.bool false) ∧ w = w' := fun w => by have h := byte_any g w; rw [hyg] at h; exact h
      have Hg := Lib.hid hCg
      clear hCg
      clear hyr hyg
      rw [if_neg (by simp)]
      go_enter Try.func21, Try.ntmps21
      go_wp2_with fail
      refine (Hr.out _).mono ?_; rintro e w' ⟨rfl, rfl⟩
      go_wp2_with fail
      refine (Hg.out _).mono ?_; rintro e w' ⟨rfl, rfl⟩
      go_wp2
      all_goals
        go_ret
        exact ⟨_, _, _, rfl, (by first | exact HD0.out (by assumption) | exact HD1.out (by assumption)), HB.out, Kept.refl _ _⟩
    | true =>
      have hg2 : 0 ≤ g ∧ g ≤ 255 := of_decide_eq_true hyg
      have hCg : ∀ w, Calls Try.prog 29 #[.int .i64 g] w fun e w' => e = .returned (.bool true) ∧ w = w' := fun w => by have h := byte_any g w; rw [hyg] at h; exact h
      have Hg := Lib.hid hCg
      clear hCg
      cases hyb : byteB bb with
      | false =>
        have hCb : ∀ w, Calls Try.prog 29 #[.int .i64 bb] w fun e w' => e = .returned (.bool false) ∧ w = w' := fun w => by have h := byte_any bb w; rw [hyb] at h; exact h
        have Hb := Lib.hid hCb
        clear hCb
        clear hyr hyg hyb
        rw [if_neg (by simp)]
        go_enter Try.func21, Try.ntmps21
        go_wp2_with fail
        refine (Hr.out _).mono ?_; rintro e w' ⟨rfl, rfl⟩
        go_wp2_with fail
        refine (Hg.out _).mono ?_; rintro e w' ⟨rfl, rfl⟩
        go_wp2_with fail
        refine (Hb.out _).mono ?_; rintro e w' ⟨rfl, rfl⟩
        go_wp2
        all_goals
          go_ret
          exact ⟨_, _, _, rfl, (by first | exact HD0.out (by assumption) | exact HD1.out (by assumption)), HB.out, Kept.refl _ _⟩
      | true =>
        have hb2 : 0 ≤ bb ∧ bb ≤ 255 := of_decide_eq_true hyb
        have hCb : ∀ w, Calls Try.prog 29 #[.int .i64 bb] w fun e w' => e = .returned (.bool true) ∧ w = w' := fun w => by have h := byte_any bb w; rw [hyb] at h; exact h
        have Hb := Lib.hid hCb
        clear hCb
        clear hyr hyg hyb
        rw [if_pos (by simp)]
        have e1 : IntKind.i64.wrap (r * 65536) = r * 65536 := IntWalk.i64_in _ (by omega)
        have e2 : IntKind.i64.wrap (g * 256) = g * 256 := IntWalk.i64_in _ (by omega)
        have e3 : IntKind.i64.wrap (33554432 + r * 65536) = 33554432 + r * 65536 := IntWalk.i64_in _ (by omega)
        have e4 : IntKind.i64.wrap (33554432 + r * 65536 + g * 256) = 33554432 + r * 65536 + g * 256 := IntWalk.i64_in _ (by omega)
        have e5 : IntKind.i64.wrap (33554432 + r * 65536 + g * 256 + bb) = 33554432 + r * 65536 + g * 256 + bb := IntWalk.i64_in _ (by omega)
        have e6 : min 16 64 = 16 := rfl
        have e7 : min 8 64 = 8 := rfl
        go_enter Try.func21, Try.ntmps21
        go_wp2_with fail
        refine (Hr.out _).mono ?_; rintro e w' ⟨rfl, rfl⟩
        go_wp2_with fail
        refine (Hg.out _).mono ?_; rintro e w' ⟨rfl, rfl⟩
        go_wp2_with fail
        refine (Hb.out _).mono ?_; rintro e w' ⟨rfl, rfl⟩
        go_wp2
        go_region
        all_goals go_wp2
        all_goals
          go_ret
          have hk : Kept (fun i => i = p) w (w.setCell ⟨p, 0, none⟩ (.int .i64 (33554432 + r * 65536 + g * 256 + bb))).drew := ((Kept.refl (fun i => i = p) w).setCell (p := ⟨p, 0, none⟩) (.inl rfl) _).drew
          exact ⟨_, _, _, rfl, (by first | exact (HD0.out (by assumption)).kept hk (fun i hi => by have h9 : i = p := hi; omega) | exact (HD1.out (by assumption)).kept hk (fun i hi => by have h9 : i = p := hi; omega)), (show (w.setCell ⟨p, 0, none⟩ (.int .i64 (33554432 + r * 65536 + g * 256 + bb))).heap[p]? = _ by simpa [cells3] using blk_set HB.out 0 (.int .i64 (33554432 + r * 65536 + g * 256 + bb))), hk⟩
set_option maxRecDepth 100000 in
set_option maxHeartbeats 2000000 in
theorem far0_C (B p len cap : Nat) (a : Option Addr) (x y z : Int) (l : List Int) (w : World) (hb : w.heap[p]? = some (.cells #[.int .i64 x, .int .i64 y, .int .i64 z] 23 (0, 0))) (h : Arg B w a len cap l)
    (hl : len < 2 ∨ (len < 4 ∧ l.getD 0 0 ≠ 5) ∨ (l.getD 0 0 ≠ 5 ∧ l.getD 0 0 ≠ 2)) :
    Calls Try.prog 21 #[.pointer (some ⟨p, 0, none⟩), .slice a len cap] w (FarPost B p ⟨x, y, z⟩ [] w) := by
  have hlc := h.2.1
  have hcm := h.2.2.1
  have HB := Lib.hid hb
  by_cases h2 : len < 2
  · have g1 : decide (2 ≤ (len : Int)) = false := decide_eq_false (by omega)
    have g2 : decide (4 ≤ (len : Int)) = false := decide_eq_false (by omega)
    clear hl h hb
    go_enter Try.func21, Try.ntmps21
    go_wp2
    go_ret
    exact ⟨_, _, _, rfl, Arg.nil _ _, HB.out, Kept.refl _ _⟩
  · have g1 : decide (2 ≤ (len : Int)) = true := decide_eq_true (by omega)
    obtain ⟨b, off, rfl, hc⟩ := h.1.2.resolve_left (by omega)
    have x0 := hc 0 (by omega)
    obtain ⟨q, hq⟩ : ∃ q, l.getD 0 0 = q := ⟨_, rfl⟩
    rw [Nat.add_zero, hq] at x0
    rw [hq] at hl
    have n5 : (q == 5) = false := by simp; omega
    have t0 : 0 < len := by omega
    clear hq hc h hb
    by_cases h4 : len < 4
    · have g2 : decide (4 ≤ (len : Int)) = false := decide_eq_false (by omega)
      clear hl
      go_enter Try.func21, Try.ntmps21
      go_wp2
      go_ret
      exact ⟨_, _, _, rfl, Arg.nil _ _, HB.out, Kept.refl _ _⟩
    · have g2 : decide (4 ≤ (len : Int)) = true := decide_eq_true (by omega)
      have n2 : (q == 2) = false := by simp; omega
      clear hl
      go_enter Try.func21, Try.ntmps21
      go_wp2
      go_ret
      exact ⟨_, _, _, rfl, Arg.nil _ _, HB.out, Kept.refl _ _⟩
theorem far0_any (B p len cap : Nat) (a : Option Addr) (x y z : Int) (l : List Int) (w : World) (hp : B ≤ p) (hb : w.heap[p]? = some (.cells #[.int .i64 x, .int .i64 y, .int .i64 z] 23 (0, 0))) (h : Arg B w a len cap l) :
    Calls Try.prog 21 #[.pointer (some ⟨p, 0, none⟩), .slice a len cap] w (FarPost B p ⟨(far x l).1, y, z⟩ (far x l).2 w) := by
  have hl := h.1.1
  unfold far
  split
  · obtain ⟨b, off, rfl, -⟩ := h.1.2.resolve_left (by simp at hl; omega)
    exact far0_A B p b off len cap x y z _ w hp hb h _ _ rfl
  · obtain ⟨b, off, rfl, -⟩ := h.1.2.resolve_left (by simp at hl; omega)
    exact far0_B B p b off len cap x y z _ w hp hb h _ _ _ _ rfl
  · rename_i n1 n2
    refine far0_C B p len cap a x y z l w hb h ?_
    match l, hl with
    | [], hl => left; simp at hl; omega
    | [_], hl => left; simp at hl; omega
    | [u, v], hl => right; left; exact ⟨by simp at hl; omega, fun e => n1 v [] (by simp at e; rw [e])⟩
    | [u, v, t], hl => right; left; exact ⟨by simp at hl; omega, fun e => n1 v [t] (by simp at e; rw [e])⟩
    | u :: v :: t :: s :: r, hl => right; right; exact ⟨fun e => n1 v (t :: s :: r) (by simp at e; rw [e]), fun e => n2 v t s r (by simp at e; rw [e])⟩
set_option maxRecDepth 100000 in
set_option maxHeartbeats 1000000 in
theorem far1_A (B p b off len cap : Nat) (x y z : Int) (l : List Int) (w : World) (hp : B ≤ p) (hb : w.heap[p]? = some (.cells #[.int .i64 x, .int .i64 y, .int .i64 z] 23 (0, 0))) (h : Arg B w (some ⟨b, off, none⟩) len cap l) (v : Int) (r : List Int) (hl : l = 5 :: v :: r) :
    Calls Try.prog 21 #[.pointer (some ⟨p, 1, none⟩), .slice (some ⟨b, off, none⟩) len cap] w (FarPost B p ⟨x, if byteB v = true then 16777216 + v else y, z⟩ r w) := by
  subst hl
  have hlen : 2 ≤ len := by have := h.1.1; simp at this; omega
  have hlc := h.2.1
  have hcm := h.2.2.1
  have hll := h.1.1
  have hall := h.2.2.2.2
  obtain ⟨b', o', he, hc⟩ := h.1.2.resolve_left (by omega)
  cases he
  have HA := Lib.hid h
  have hbB := h.2.2.2.1 b off (by omega) rfl
  have x0 := hc 0 (by omega)
  have x1 := hc 1 (by omega)
  have hv := hall v (by simp)
  simp only [Nat.add_zero, List.getD_cons_zero, List.getD_cons_succ] at x0 x1
  have HD0 := Lib.hid (h.drop0 2 hlen)
  have HD1 := Lib.hid (h.drop1 2 hlen)
  obtain ⟨⟨c0, f0⟩, ⟨c1, f1⟩, c2, f2⟩ := blk3 hb
  have HB := Lib.hid hb
  have g1 : decide (2 ≤ (len : Int)) = true := decide_eq_true (by omega)
  have hbp : b ≠ p := by omega
  have t0 : 0 < len := by omega
  have t1 : 1 < len := by omega
  unfold In at hv
  clear h hb hc hall hll
  cases hy : byteB v with
  | false =>
    have hC : ∀ w, Calls Try.prog 29 #[.int .i64 v] w fun e w' => e = .returned (.bool false) ∧ w = w' := fun w => by have h := byte_any v w; rw [hy] at h; exact h
    have HC := Lib.hid hC
    clear hC hy
    go_enter Try.func21, Try.ntmps21
    go_wp2_with fail
    refine (HC.out _).mono ?_; rintro e w' ⟨rfl, rfl⟩
    go_wp2
    all_goals
      go_ret
      exact ⟨_, _, _, rfl, (by first | exact HD0.out (by assumption) | exact HD1.out (by assumption)), HB.out, Kept.refl _ _⟩
  | true =>
    have hC : ∀ w, Calls Try.prog 29 #[.int .i64 v] w fun e w' => e = .returned (.bool true) ∧ w = w' := fun w => by have h := byte_any v w; rw [hy] at h; exact h
    have hv2 : 0 ≤ v ∧ v ≤ 255 := of_decide_eq_true hy
    have HC := Lib.hid hC
    clear hC hy
    go_enter Try.func21, Try.ntmps21
    go_wp2_with fail
    refine (HC.out _).mono ?_; rintro e w' ⟨rfl, rfl⟩
    go_wp2
    all_goals
      go_ret
      have hk : Kept (fun i => i = p) w (w.setCell ⟨p, 1, none⟩ (.int .i64 (16777216 + v))) := (Kept.refl (fun i => i = p) w).setCell (p := ⟨p, 1, none⟩) (.inl rfl) _
      exact ⟨_, _, _, rfl, (by first | exact (HD0.out (by assumption)).kept hk (fun i hi => by have h9 : i = p := hi; omega) | exact (HD1.out (by assumption)).kept hk (fun i hi => by have h9 : i = p := hi; omega)), by simpa [cells3] using blk_set HB.out 1 (.int .i64 (16777216 + v)), hk⟩
set_option maxRecDepth 100000 in
set_option maxHeartbeats 2000000 in
theorem far1_B (B p b off len cap : Nat) (x y z : Int) (l : List Int) (w : World) (hp : B ≤ p) (hb : w.heap[p]? = some (.cells #[.int .i64 x, .int .i64 y, .int .i64 z] 23 (0, 0))) (h : Arg B w (some ⟨b, off, none⟩) len cap l) (r g bb : Int) (t : List Int) (hl : l = 2 :: r :: g :: bb :: t) :
    Calls Try.prog 21 #[.pointer (some ⟨p, 1, none⟩), .slice (some ⟨b, off, none⟩) len cap] w (FarPost B p ⟨x, if byteB r = true ∧ byteB g = true ∧ byteB bb = true then 33554432 + r * 65536 + g * 256 + bb else y, z⟩ t w) := by
  subst hl
  have hlen : 4 ≤ len := by have := h.1.1; simp at this; omega
  have hlc := h.2.1
  have hcm := h.2.2.1
  have hll := h.1.1
  have hall := h.2.2.2.2
  obtain ⟨b', o', he, hc⟩ := h.1.2.resolve_left (by omega)
  cases he
  have HA := Lib.hid h
  have hbB := h.2.2.2.1 b off (by omega) rfl
  have x0 := hc 0 (by omega)
  have x1 := hc 1 (by omega)
  have x2 := hc 2 (by omega)
  have x3 := hc 3 (by omega)
  have hr := hall r (by simp)
  have hg := hall g (by simp)
  have hbb := hall bb (by simp)
  simp only [Nat.add_zero, List.getD_cons_zero, List.getD_cons_succ] at x0 x1 x2 x3
  have HD0 := Lib.hid (h.drop0 4 hlen)
  have HD1 := Lib.hid (h.drop1 4 hlen)
  obtain ⟨⟨c0, f0⟩, ⟨c1, f1⟩, c2, f2⟩ := blk3 hb
  have HB := Lib.hid hb
  have g1 : decide (2 ≤ (len : Int)) = true := decide_eq_true (by omega)
  have g2 : decide (4 ≤ (len : Int)) = true := decide_eq_true (by omega)
  have hbp : b ≠ p := by omega
  have t0 : 0 < len := by omega
  have t1 : 1 < len := by omega
  have t2 : 2 < len := by omega
  have t3 : 3 < len := by omega
  unfold In at hr hg hbb
  clear h hb hc hall hll
  cases hyr : byteB r with
  | false =>
    have hCr : ∀ w, Calls Try.prog 29 #[.int .i64 r] w fun e w' => e = .returned (.bool false) ∧ w = w' := fun w => by have h := byte_any r w; rw [hyr] at h; exact h
    have Hr := Lib.hid hCr
    clear hCr
    clear hyr
    rw [if_neg (by simp)]
    go_enter Try.func21, Try.ntmps21
    go_wp2_with fail
    refine (Hr.out _).mono ?_; rintro e w' ⟨rfl, rfl⟩
    go_wp2
    all_goals
      go_ret
      exact ⟨_, _, _, rfl, (by first | exact HD0.out (by assumption) | exact HD1.out (by assumption)), HB.out, Kept.refl _ _⟩
  | true =>
    have hr2 : 0 ≤ r ∧ r ≤ 255 := of_decide_eq_true hyr
    have hCr : ∀ w, Calls Try.prog 29 #[.int .i64 r] w fun e w' => e = .returned (.bool true) ∧ w = w' := fun w => by have h := byte_any r w; rw [hyr] at h; exact h
    have Hr := Lib.hid hCr
    clear hCr
    cases hyg : byteB g with
    | false =>
      have hCg : ∀ w, Calls Try.prog 29 #[.int .i64 g] w fun e w' => e = .returned (.bool false) ∧ w = w' := fun w => by have h := byte_any g w; rw [hyg] at h; exact h
      have Hg := Lib.hid hCg
      clear hCg
      clear hyr hyg
      rw [if_neg (by simp)]
      go_enter Try.func21, Try.ntmps21
      go_wp2_with fail
      refine (Hr.out _).mono ?_; rintro e w' ⟨rfl, rfl⟩
      go_wp2_with fail
      refine (Hg.out _).mono ?_; rintro e w' ⟨rfl, rfl⟩
      go_wp2
      all_goals
        go_ret
        exact ⟨_, _, _, rfl, (by first | exact HD0.out (by assumption) | exact HD1.out (by assumption)), HB.out, Kept.refl _ _⟩
    | true =>
      have hg2 : 0 ≤ g ∧ g ≤ 255 := of_decide_eq_true hyg
      have hCg : ∀ w, Calls Try.prog 29 #[.int .i64 g] w fun e w' => e = .returned (.bool true) ∧ w = w' := fun w => by have h := byte_any g w; rw [hyg] at h; exact h
      have Hg := Lib.hid hCg
      clear hCg
      cases hyb : byteB bb with
      | false =>
        have hCb : ∀ w, Calls Try.prog 29 #[.int .i64 bb] w fun e w' => e = .returned (.bool false) ∧ w = w' := fun w => by have h := byte_any bb w; rw [hyb] at h; exact h
        have Hb := Lib.hid hCb
        clear hCb
        clear hyr hyg hyb
        rw [if_neg (by simp)]
        go_enter Try.func21, Try.ntmps21
        go_wp2_with fail
        refine (Hr.out _).mono ?_; rintro e w' ⟨rfl, rfl⟩
        go_wp2_with fail
        refine (Hg.out _).mono ?_; rintro e w' ⟨rfl, rfl⟩
        go_wp2_with fail
        refine (Hb.out _).mono ?_; rintro e w' ⟨rfl, rfl⟩
        go_wp2
        all_goals
          go_ret
          exact ⟨_, _, _, rfl, (by first | exact HD0.out (by assumption) | exact HD1.out (by assumption)), HB.out, Kept.refl _ _⟩
      | true =>
        have hb2 : 0 ≤ bb ∧ bb ≤ 255 := of_decide_eq_true hyb
        have hCb : ∀ w, Calls Try.prog 29 #[.int .i64 bb] w fun e w' => e = .returned (.bool true) ∧ w = w' := fun w => by have h := byte_any bb w; rw [hyb] at h; exact h
        have Hb := Lib.hid hCb
        clear hCb
        clear hyr hyg hyb
        rw [if_pos (by simp)]
        have e1 : IntKind.i64.wrap (r * 65536) = r * 65536 := IntWalk.i64_in _ (by omega)
        have e2 : IntKind.i64.wrap (g * 256) = g * 256 := IntWalk.i64_in _ (by omega)
        have e3 : IntKind.i64.wrap (33554432 + r * 65536) = 33554432 + r * 65536 := IntWalk.i64_in _ (by omega)
        have e4 : IntKind.i64.wrap (33554432 + r * 65536 + g * 256) = 33554432 + r * 65536 + g * 256 := IntWalk.i64_in _ (by omega)
        have e5 : IntKind.i64.wrap (33554432 + r * 65536 + g * 256 + bb) = 33554432 + r * 65536 + g * 256 + bb := IntWalk.i64_in _ (by omega)
        have e6 : min 16 64 = 16 := rfl
        have e7 : min 8 64 = 8 := rfl
        go_enter Try.func21, Try.ntmps21
        go_wp2_with fail
        refine (Hr.out _).mono ?_; rintro e w' ⟨rfl, rfl⟩
        go_wp2_with fail
        refine (Hg.out _).mono ?_; rintro e w' ⟨rfl, rfl⟩
        go_wp2_with fail
        refine (Hb.out _).mono ?_; rintro e w' ⟨rfl, rfl⟩
        go_wp2
        go_region
        all_goals go_wp2
        all_goals
          go_ret
          have hk : Kept (fun i => i = p) w (w.setCell ⟨p, 1, none⟩ (.int .i64 (33554432 + r * 65536 + g * 256 + bb))).drew := ((Kept.refl (fun i => i = p) w).setCell (p := ⟨p, 1, none⟩) (.inl rfl) _).drew
          exact ⟨_, _, _, rfl, (by first | exact (HD0.out (by assumption)).kept hk (fun i hi => by have h9 : i = p := hi; omega) | exact (HD1.out (by assumption)).kept hk (fun i hi => by have h9 : i = p := hi; omega)), (show (w.setCell ⟨p, 1, none⟩ (.int .i64 (33554432 + r * 65536 + g * 256 + bb))).heap[p]? = _ by simpa [cells3] using blk_set HB.out 1 (.int .i64 (33554432 + r * 65536 + g * 256 + bb))), hk⟩
set_option maxRecDepth 100000 in
set_option maxHeartbeats 2000000 in
theorem far1_C (B p len cap : Nat) (a : Option Addr) (x y z : Int) (l : List Int) (w : World) (hb : w.heap[p]? = some (.cells #[.int .i64 x, .int .i64 y, .int .i64 z] 23 (0, 0))) (h : Arg B w a len cap l)
    (hl : len < 2 ∨ (len < 4 ∧ l.getD 0 0 ≠ 5) ∨ (l.getD 0 0 ≠ 5 ∧ l.getD 0 0 ≠ 2)) :
    Calls Try.prog 21 #[.pointer (some ⟨p, 1, none⟩), .slice a len cap] w (FarPost B p ⟨x, y, z⟩ [] w) := by
  have hlc := h.2.1
  have hcm := h.2.2.1
  have HB := Lib.hid hb
  by_cases h2 : len < 2
  · have g1 : decide (2 ≤ (len : Int)) = false := decide_eq_false (by omega)
    have g2 : decide (4 ≤ (len : Int)) = false := decide_eq_false (by omega)
    clear hl h hb
    go_enter Try.func21, Try.ntmps21
    go_wp2
    go_ret
    exact ⟨_, _, _, rfl, Arg.nil _ _, HB.out, Kept.refl _ _⟩
  · have g1 : decide (2 ≤ (len : Int)) = true := decide_eq_true (by omega)
    obtain ⟨b, off, rfl, hc⟩ := h.1.2.resolve_left (by omega)
    have x0 := hc 0 (by omega)
    obtain ⟨q, hq⟩ : ∃ q, l.getD 0 0 = q := ⟨_, rfl⟩
    rw [Nat.add_zero, hq] at x0
    rw [hq] at hl
    have n5 : (q == 5) = false := by simp; omega
    have t0 : 0 < len := by omega
    clear hq hc h hb
    by_cases h4 : len < 4
    · have g2 : decide (4 ≤ (len : Int)) = false := decide_eq_false (by omega)
      clear hl
      go_enter Try.func21, Try.ntmps21
      go_wp2
      go_ret
      exact ⟨_, _, _, rfl, Arg.nil _ _, HB.out, Kept.refl _ _⟩
    · have g2 : decide (4 ≤ (len : Int)) = true := decide_eq_true (by omega)
      have n2 : (q == 2) = false := by simp; omega
      clear hl
      go_enter Try.func21, Try.ntmps21
      go_wp2
      go_ret
      exact ⟨_, _, _, rfl, Arg.nil _ _, HB.out, Kept.refl _ _⟩
theorem far1_any (B p len cap : Nat) (a : Option Addr) (x y z : Int) (l : List Int) (w : World) (hp : B ≤ p) (hb : w.heap[p]? = some (.cells #[.int .i64 x, .int .i64 y, .int .i64 z] 23 (0, 0))) (h : Arg B w a len cap l) :
    Calls Try.prog 21 #[.pointer (some ⟨p, 1, none⟩), .slice a len cap] w (FarPost B p ⟨x, (far y l).1, z⟩ (far y l).2 w) := by
  have hl := h.1.1
  unfold far
  split
  · obtain ⟨b, off, rfl, -⟩ := h.1.2.resolve_left (by simp at hl; omega)
    exact far1_A B p b off len cap x y z _ w hp hb h _ _ rfl
  · obtain ⟨b, off, rfl, -⟩ := h.1.2.resolve_left (by simp at hl; omega)
    exact far1_B B p b off len cap x y z _ w hp hb h _ _ _ _ rfl
  · rename_i n1 n2
    refine far1_C B p len cap a x y z l w hb h ?_
    match l, hl with
    | [], hl => left; simp at hl; omega
    | [_], hl => left; simp at hl; omega
    | [u, v], hl => right; left; exact ⟨by simp at hl; omega, fun e => n1 v [] (by simp at e; rw [e])⟩
    | [u, v, t], hl => right; left; exact ⟨by simp at hl; omega, fun e => n1 v [t] (by simp at e; rw [e])⟩
    | u :: v :: t :: s :: r, hl => right; right; exact ⟨fun e => n1 v (t :: s :: r) (by simp at e; rw [e]), fun e => n2 v t s r (by simp at e; rw [e])⟩
end Go.Proofs.Ytdcbaobipogmnaa
