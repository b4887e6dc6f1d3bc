/- in, between, meets: what they tell. -/
import Derived.Test.YtgbflcmageipdaaEq
import Derived.Deep.RegionLaw
namespace Go.Proofs.Ytgbflcmageipdaa
open Go.RowKit
set_option linter.unusedVariables false
set_option linter.unusedSimpArgs false
def inB (v lo hi : Int) : Bool := decide (lo ≤ v) && decide (v ≤ hi)
set_option maxRecDepth 100000 in
set_option maxHeartbeats 4000000 in
theorem in_any (v lo hi : Int) (w : World) : Calls Try.prog 15 #[.int .i64 v, .int .i64 lo, .int .i64 hi] w fun e w' => e = .returned (.bool (inB v lo hi)) ∧ w' = w := by
  cases c1 : decide (lo ≤ v) with
  | false =>
    rw [show inB v lo hi = false by unfold inB; rw [c1]; rfl]
    go_enter Try.func15, Try.ntmps15
    go_wp2
    go_ret
    exact ⟨rfl, rfl⟩
  | true =>
    cases c2 : decide (v ≤ hi) with
    | false =>
      rw [show inB v lo hi = false by unfold inB; rw [c1, c2]; rfl]
      go_enter Try.func15, Try.ntmps15
      go_wp2
      go_ret
      exact ⟨rfl, rfl⟩
    | true =>
      rw [show inB v lo hi = true by unfold inB; rw [c1, c2]; rfl]
      go_enter Try.func15, Try.ntmps15
      go_wp2
      go_ret
      exact ⟨rfl, rfl⟩
set_option maxRecDepth 100000 in
set_option maxHeartbeats 4000000 in
theorem between_any (v lo hi : Int) (w : World) : Calls Try.prog 27 #[.int .i64 v, .int .i64 lo, .int .i64 hi] w fun e w' => e = .returned (.bool (inB v lo hi)) ∧ w' = w := by
  cases c1 : decide (lo ≤ v) with
  | false =>
    rw [show inB v lo hi = false by unfold inB; rw [c1]; rfl]
    go_enter Try.func27, Try.ntmps27
    go_wp2
    go_ret
    exact ⟨rfl, rfl⟩
  | true =>
    cases c2 : decide (v ≤ hi) with
    | false =>
      rw [show inB v lo hi = false by unfold inB; rw [c1, c2]; rfl]
      go_enter Try.func27, Try.ntmps27
      go_wp2
      go_ret
      exact ⟨rfl, rfl⟩
    | true =>
      rw [show inB v lo hi = true by unfold inB; rw [c1, c2]; rfl]
      go_enter Try.func27, Try.ntmps27
      go_wp2
      go_ret
      exact ⟨rfl, rfl⟩
def meetsB (p : Pl) (LN RW fr past : Int) : Bool :=
  decide (0 < RW) && (decide (fr < past) && (decide (LN < IntKind.i64.wrap (p.line + p.rows)) && (decide (IntKind.i64.wrap (p.line - LN) < RW) && (decide (p.col < past) && decide (fr < IntKind.i64.wrap (p.col + p.cols))))))
set_option maxRecDepth 100000 in
set_option maxHeartbeats 4000000 in
theorem meets_any (p : Pl) (LN RW fr past : Int) (w : World) : Calls Try.prog 21 #[p.val, .int .i64 LN, .int .i64 RW, .int .i64 fr, .int .i64 past] w fun e w' => e = .returned (.bool (meetsB p LN RW fr past)) ∧ Kept (fun _ => False) w w' := by
  obtain ⟨W, hW⟩ : ∃ W, w.alloc (.cells p.cs 34) = W := ⟨_, rfl⟩
  have hk : Kept (fun _ => False) w W := by rw [← hW]; exact (Kept.refl _ _).alloc _
  have hb : W.heap[w.heap.size]? = some (.cells p.cs 34 (0, 0)) := by rw [← hW]; exact blk_new w _
  obtain ⟨u0, u1, u2, u3, u4, u5, u6, u7, u8, u9, u10, u11, u12, u13⟩ := blk14 hb
  obtain ⟨n1, h1⟩ : ∃ x, IntKind.i64.wrap (p.line + p.rows) = x := ⟨_, rfl⟩
  obtain ⟨n2, h2⟩ : ∃ x, IntKind.i64.wrap (p.line - LN) = x := ⟨_, rfl⟩
  obtain ⟨n3, h3⟩ : ∃ x, IntKind.i64.wrap (p.col + p.cols) = x := ⟨_, rfl⟩
  obtain ⟨B, hB⟩ : ∃ B, meetsB p LN RW fr past = B := ⟨_, rfl⟩
  have hB' := hB
  unfold meetsB at hB'
  rw [h1, h2, h3] at hB'
  have HK := Lib.hid hk
  rw [hB]
  obtain ⟨im, id, alt, line, col, rows, cols, x, y, w, h, dx, dy, z⟩ := p
  unfold Pl.cs at hW
  unfold Pl.val
  clear hk hb hB
  simp only at *
  cases c0 : decide (0 < RW) with
  | false =>
    obtain rfl : false = B := by rw [← hB', c0]; rfl
    clear hB'
    go_enter Try.func21, Try.ntmps21
    go_wp2
    go_ret
    exact ⟨rfl, HK.out⟩
  | true =>
    cases c1 : decide (fr < past) with
    | false =>
      obtain rfl : false = B := by rw [← hB', c0, c1]; rfl
      clear hB'
      go_enter Try.func21, Try.ntmps21
      go_wp2
      go_ret
      exact ⟨rfl, HK.out⟩
    | true =>
      cases c2 : decide (LN < n1) with
      | false =>
        obtain rfl : false = B := by rw [← hB', c0, c1, c2]; rfl
        clear hB'
        go_enter Try.func21, Try.ntmps21
        go_wp2
        go_ret
        exact ⟨rfl, HK.out⟩
      | true =>
        cases c3 : decide (n2 < RW) with
        | false =>
          obtain rfl : false = B := by rw [← hB', c0, c1, c2, c3]; rfl
          clear hB'
          go_enter Try.func21, Try.ntmps21
          go_wp2
          go_ret
          exact ⟨rfl, HK.out⟩
        | true =>
          cases c4 : decide (col < past) with
          | false =>
            obtain rfl : false = B := by rw [← hB', c0, c1, c2, c3, c4]; rfl
            clear hB'
            go_enter Try.func21, Try.ntmps21
            go_wp2
            go_ret
            exact ⟨rfl, HK.out⟩
          | true =>
            cases c5 : decide (fr < n3) with
            | false =>
              obtain rfl : false = B := by rw [← hB', c0, c1, c2, c3, c4, c5]; rfl
              clear hB'
              go_enter Try.func21, Try.ntmps21
              go_wp2
              go_ret
              exact ⟨rfl, HK.out⟩
            | true =>
              obtain rfl : true = B := by rw [← hB', c0, c1, c2, c3, c4, c5]; rfl
              clear hB'
              go_enter Try.func21, Try.ntmps21
              go_wp2
              go_ret
              exact ⟨rfl, HK.out⟩
end Go.Proofs.Ytgbflcmageipdaa
