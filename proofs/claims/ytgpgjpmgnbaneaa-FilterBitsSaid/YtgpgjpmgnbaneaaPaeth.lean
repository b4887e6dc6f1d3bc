/- Paeth, and what a filter says of a byte. -/
import Derived.Test.YtgpgjpmgnbaneaaInts
namespace Go.Proofs.Ytgpgjpmgnbaneaa
open Go.RowKit Pl
set_option linter.unusedVariables false
def Bt (a : Int) : Prop := 0 ≤ a ∧ a < 256
set_option maxRecDepth 100000 in
set_option maxHeartbeats 8000000 in
theorem paeth_any (a b c : Int) (w : World) (ha : Bt a) (hb : Bt b) (hc : Bt c) : Calls Try.prog 9 #[.int .u8 a, .int .u8 b, .int .u8 c] w fun e w' => e = .returned (.int .u8 (paethI a b c)) ∧ Kept (fun _ => False) w w' := by
  have hmf : ∀ (fn : Fn) (first cap : Array Value) (w : World), (Instr.makeFunc fn first cap).run Try.prog w = .ok (.func fn first cap) w := fun _ _ _ _ => rfl
  have hk3 : Kept (fun _ => False) w (((w.alloc (.cells #[.int .u8 a] 5)).alloc (.cells #[.int .u8 b] 5)).alloc (.cells #[.int .u8 c] 5)) := (((Kept.refl (fun _ => False) w).alloc _).alloc _).alloc _
  have c1 : (((w.alloc (.cells #[.int .u8 a] 5)).alloc (.cells #[.int .u8 b] 5)).alloc (.cells #[.int .u8 c] 5)).cell? ⟨w.heap.size, 0, none⟩ = some (.int .u8 a) := blk_cell (blk_alloc (blk_alloc (blk_new w _) _) _) 0
  have c2 : (((w.alloc (.cells #[.int .u8 a] 5)).alloc (.cells #[.int .u8 b] 5)).alloc (.cells #[.int .u8 c] 5)).cell? ⟨w.heap.size + 1, 0, none⟩ = some (.int .u8 b) := blk_cell (blk_alloc (blk_at (w.alloc (.cells #[.int .u8 a] 5)) _ (by simp)) _) 0
  have c3 : (((w.alloc (.cells #[.int .u8 a] 5)).alloc (.cells #[.int .u8 b] 5)).alloc (.cells #[.int .u8 c] 5)).cell? ⟨w.heap.size + 1 + 1, 0, none⟩ = some (.int .u8 c) := blk_cell (blk_at _ _ (by simp)) 0
  by_cases h1 : nearI a b c a ≤ nearI a b c b
  · have g1 : decide (nearI a b c a ≤ nearI a b c b) = true := decide_eq_true h1
    by_cases h2 : nearI a b c a ≤ nearI a b c c
    · have g2 : decide (nearI a b c a ≤ nearI a b c c) = true := decide_eq_true h2
      have e0 : paethI a b c = a := by unfold paethI; rw [if_pos ⟨h1, h2⟩]
      have HE := Lib.hid e0
      clear e0
      go_enter Try.func9, Try.ntmps9
      go_wp2
      go_quiet ((go_at_call 22; exact Calls.quiet_of_same ((near_any a b c _ _ _ _ _ ha hb hc (by first | exact ha | exact hb | exact hc) (by exact c1) (by exact c2) (by exact c3)).mono fun _ _ h => ⟨h.1, h.2.symm⟩)))
      go_wp2
      go_ret
      exact ⟨ret_int HE.out.symm, hk3.drewN _⟩
    have g2 : decide (nearI a b c a ≤ nearI a b c c) = false := decide_eq_false h2
    by_cases h3 : nearI a b c b ≤ nearI a b c c
    · have g3 : decide (nearI a b c b ≤ nearI a b c c) = true := decide_eq_true h3
      have e0 : paethI a b c = b := by unfold paethI; rw [if_neg (fun h => h2 h.2), if_pos h3]
      have HE := Lib.hid e0
      clear e0
      go_enter Try.func9, Try.ntmps9
      go_wp2
      go_quiet ((go_at_call 22; exact Calls.quiet_of_same ((near_any a b c _ _ _ _ _ ha hb hc (by first | exact ha | exact hb | exact hc) (by exact c1) (by exact c2) (by exact c3)).mono fun _ _ h => ⟨h.1, h.2.symm⟩)))
      go_wp2
      generalize hwd : World.drewN _ _ = wd
      have hkd : Kept (fun _ => False) w wd := by rw [← hwd]; exact hk3.drewN _
      have d1 : wd.cell? ⟨w.heap.size, 0, none⟩ = some (.int .u8 a) := by rw [← hwd]; exact c1
      have d2 : wd.cell? ⟨w.heap.size + 1, 0, none⟩ = some (.int .u8 b) := by rw [← hwd]; exact c2
      have d3 : wd.cell? ⟨w.heap.size + 1 + 1, 0, none⟩ = some (.int .u8 c) := by rw [← hwd]; exact c3
      clear hwd c1 c2 c3
      go_quiet ((go_at_call 22; exact Calls.quiet_of_same ((near_any a b c _ _ _ _ _ ha hb hc (by first | exact ha | exact hb | exact hc) (by exact d1) (by exact d2) (by exact d3)).mono fun _ _ h => ⟨h.1, h.2.symm⟩)))
      go_wp2
      go_ret
      exact ⟨ret_int HE.out.symm, hkd.drewN _⟩
    · have g3 : decide (nearI a b c b ≤ nearI a b c c) = false := decide_eq_false h3
      have e0 : paethI a b c = c := by unfold paethI; rw [if_neg (fun h => h2 h.2), if_neg h3]
      have HE := Lib.hid e0
      clear e0
      go_enter Try.func9, Try.ntmps9
      go_wp2
      go_quiet ((go_at_call 22; exact Calls.quiet_of_same ((near_any a b c _ _ _ _ _ ha hb hc (by first | exact ha | exact hb | exact hc) (by exact c1) (by exact c2) (by exact c3)).mono fun _ _ h => ⟨h.1, h.2.symm⟩)))
      go_wp2
      generalize hwd : World.drewN _ _ = wd
      have hkd : Kept (fun _ => False) w wd := by rw [← hwd]; exact hk3.drewN _
      have d1 : wd.cell? ⟨w.heap.size, 0, none⟩ = some (.int .u8 a) := by rw [← hwd]; exact c1
      have d2 : wd.cell? ⟨w.heap.size + 1, 0, none⟩ = some (.int .u8 b) := by rw [← hwd]; exact c2
      have d3 : wd.cell? ⟨w.heap.size + 1 + 1, 0, none⟩ = some (.int .u8 c) := by rw [← hwd]; exact c3
      clear hwd c1 c2 c3
      go_quiet ((go_at_call 22; exact Calls.quiet_of_same ((near_any a b c _ _ _ _ _ ha hb hc (by first | exact ha | exact hb | exact hc) (by exact d1) (by exact d2) (by exact d3)).mono fun _ _ h => ⟨h.1, h.2.symm⟩)))
      go_wp2
      go_ret
      exact ⟨ret_int HE.out.symm, hkd.drewN _⟩
  · have g1 : decide (nearI a b c a ≤ nearI a b c b) = false := decide_eq_false h1
    by_cases h3 : nearI a b c b ≤ nearI a b c c
    · have g3 : decide (nearI a b c b ≤ nearI a b c c) = true := decide_eq_true h3
      have e0 : paethI a b c = b := by unfold paethI; rw [if_neg (fun h => h1 h.1), if_pos h3]
      have HE := Lib.hid e0
      clear e0
      go_enter Try.func9, Try.ntmps9
      go_wp2
      go_quiet ((go_at_call 22; exact Calls.quiet_of_same ((near_any a b c _ _ _ _ _ ha hb hc (by first | exact ha | exact hb | exact hc) (by exact c1) (by exact c2) (by exact c3)).mono fun _ _ h => ⟨h.1, h.2.symm⟩)))
      go_wp2
      generalize hwd : World.drewN _ _ = wd
      have hkd : Kept (fun _ => False) w wd := by rw [← hwd]; exact hk3.drewN _
      have d1 : wd.cell? ⟨w.heap.size, 0, none⟩ = some (.int .u8 a) := by rw [← hwd]; exact c1
      have d2 : wd.cell? ⟨w.heap.size + 1, 0, none⟩ = some (.int .u8 b) := by rw [← hwd]; exact c2
      have d3 : wd.cell? ⟨w.heap.size + 1 + 1, 0, none⟩ = some (.int .u8 c) := by rw [← hwd]; exact c3
      clear hwd c1 c2 c3
      go_quiet ((go_at_call 22; exact Calls.quiet_of_same ((near_any a b c _ _ _ _ _ ha hb hc (by first | exact ha | exact hb | exact hc) (by exact d1) (by exact d2) (by exact d3)).mono fun _ _ h => ⟨h.1, h.2.symm⟩)))
      go_wp2
      go_ret
      exact ⟨ret_int HE.out.symm, hkd.drewN _⟩
    · have g3 : decide (nearI a b c b ≤ nearI a b c c) = false := decide_eq_false h3
      have e0 : paethI a b c = c := by unfold paethI; rw [if_neg (fun h => h1 h.1), if_neg h3]
      have HE := Lib.hid e0
      clear e0
      go_enter Try.func9, Try.ntmps9
      go_wp2
      go_quiet ((go_at_call 22; exact Calls.quiet_of_same ((near_any a b c _ _ _ _ _ ha hb hc (by first | exact ha | exact hb | exact hc) (by exact c1) (by exact c2) (by exact c3)).mono fun _ _ h => ⟨h.1, h.2.symm⟩)))
      go_wp2
      generalize hwd : World.drewN _ _ = wd
      have hkd : Kept (fun _ => False) w wd := by rw [← hwd]; exact hk3.drewN _
      have d1 : wd.cell? ⟨w.heap.size, 0, none⟩ = some (.int .u8 a) := by rw [← hwd]; exact c1
      have d2 : wd.cell? ⟨w.heap.size + 1, 0, none⟩ = some (.int .u8 b) := by rw [← hwd]; exact c2
      have d3 : wd.cell? ⟨w.heap.size + 1 + 1, 0, none⟩ = some (.int .u8 c) := by rw [← hwd]; exact c3
      clear hwd c1 c2 c3
      go_quiet ((go_at_call 22; exact Calls.quiet_of_same ((near_any a b c _ _ _ _ _ ha hb hc (by first | exact ha | exact hb | exact hc) (by exact d1) (by exact d2) (by exact d3)).mono fun _ _ h => ⟨h.1, h.2.symm⟩)))
      go_wp2
      go_ret
      exact ⟨ret_int HE.out.symm, hkd.drewN _⟩
set_option maxRecDepth 100000 in
set_option maxHeartbeats 4000000 in
theorem refPaeth_any (a b c : Int) (w : World) (ha : Bt a) (hb : Bt b) (hc : Bt c) : Calls Try.prog 10 #[.int .u8 a, .int .u8 b, .int .u8 c] w fun e w' => e = .returned (.int .u8 (paethI a b c)) ∧ w = w' := by
  unfold Bt at ha hb hc
  have na := near_far a b c a
  have nb := near_far a b c b
  have nc := near_far a b c c
  by_cases h1 : farI (a + b - c) a ≤ farI (a + b - c) b
  · have g1 : decide (farI (a + b - c) a ≤ farI (a + b - c) b) = true := decide_eq_true h1
    by_cases h2 : farI (a + b - c) a ≤ farI (a + b - c) c
    · have g2 : decide (farI (a + b - c) a ≤ farI (a + b - c) c) = true := decide_eq_true h2
      have e0 : paethI a b c = a := by unfold paethI; rw [na, nb, nc, if_pos ⟨h1, h2⟩]
      have HE := Lib.hid e0
      clear e0 na nb nc
      go_enter Try.func10, Try.ntmps10
      go_wp2_with (go_at_call 23; refine (far_any _ _ _ (by omega) (by omega)).mono ?_; rintro e w' ⟨rfl, rfl⟩)
      go_ret
      exact ⟨ret_int HE.out.symm, rfl⟩
    have g2 : decide (farI (a + b - c) a ≤ farI (a + b - c) c) = false := decide_eq_false h2
    by_cases h3 : farI (a + b - c) b ≤ farI (a + b - c) c
    · have g3 : decide (farI (a + b - c) b ≤ farI (a + b - c) c) = true := decide_eq_true h3
      have e0 : paethI a b c = b := by unfold paethI; rw [na, nb, nc, if_neg (fun h => h2 h.2), if_pos h3]
      have HE := Lib.hid e0
      clear e0 na nb nc
      go_enter Try.func10, Try.ntmps10
      go_wp2_with (go_at_call 23; refine (far_any _ _ _ (by omega) (by omega)).mono ?_; rintro e w' ⟨rfl, rfl⟩)
      go_ret
      exact ⟨ret_int HE.out.symm, rfl⟩
    · have g3 : decide (farI (a + b - c) b ≤ farI (a + b - c) c) = false := decide_eq_false h3
      have e0 : paethI a b c = c := by unfold paethI; rw [na, nb, nc, if_neg (fun h => h2 h.2), if_neg h3]
      have HE := Lib.hid e0
      clear e0 na nb nc
      go_enter Try.func10, Try.ntmps10
      go_wp2_with (go_at_call 23; refine (far_any _ _ _ (by omega) (by omega)).mono ?_; rintro e w' ⟨rfl, rfl⟩)
      go_ret
      exact ⟨ret_int HE.out.symm, rfl⟩
  · have g1 : decide (farI (a + b - c) a ≤ farI (a + b - c) b) = false := decide_eq_false h1
    by_cases h3 : farI (a + b - c) b ≤ farI (a + b - c) c
    · have g3 : decide (farI (a + b - c) b ≤ farI (a + b - c) c) = true := decide_eq_true h3
      have e0 : paethI a b c = b := by unfold paethI; rw [na, nb, nc, if_neg (fun h => h1 h.1), if_pos h3]
      have HE := Lib.hid e0
      clear e0 na nb nc
      go_enter Try.func10, Try.ntmps10
      go_wp2_with (go_at_call 23; refine (far_any _ _ _ (by omega) (by omega)).mono ?_; rintro e w' ⟨rfl, rfl⟩)
      go_ret
      exact ⟨ret_int HE.out.symm, rfl⟩
    · have g3 : decide (farI (a + b - c) b ≤ farI (a + b - c) c) = false := decide_eq_false h3
      have e0 : paethI a b c = c := by unfold paethI; rw [na, nb, nc, if_neg (fun h => h1 h.1), if_neg h3]
      have HE := Lib.hid e0
      clear e0 na nb nc
      go_enter Try.func10, Try.ntmps10
      go_wp2_with (go_at_call 23; refine (far_any _ _ _ (by omega) (by omega)).mono ?_; rintro e w' ⟨rfl, rfl⟩)
      go_ret
      exact ⟨ret_int HE.out.symm, rfl⟩
end Go.Proofs.Ytgpgjpmgnbaneaa
