/- known: the examples of the chapter. -/
import Derived.Test.YtgeknkpbjokafaaOf
import Derived.Lib.SlBytesConst
namespace Go.Proofs.Ytgeknkpbjokafaa
open Go.RowKit Pl
set_option linter.unusedVariables false
def n9 : List Int := [49, 50, 51, 52, 53, 54, 55, 56, 57]
def n4 : List Int := [49, 50, 51, 52]
def n5 : List Int := [53, 54, 55, 56, 57]
theorem k_e : ((crcV 4294967295 : Nat) : Int) = 0 := by decide +kernel
theorem k_c : ((crcV (crcs 4294967295 (nats n9)) : Nat) : Int) = 3421780262 := by decide +kernel
theorem k_a : ((adlV (1, 0) : Nat) : Int) = 1 := by decide +kernel
theorem k_o (a b : Option Addr) (c d : Nat) : ((adlV (adls (1, 0) (joined [⟨a, 4, c, n4⟩, ⟨b, 5, d, n5⟩])) : Nat) : Int) = 152961502 := by
  have : joined [⟨a, 4, c, n4⟩, ⟨b, 5, d, n5⟩] = nats (n4 ++ n5) := by simp [joined, nats]
  rw [this]; decide +kernel
theorem b9 : Bytes n9 := by unfold Bytes n9; decide
theorem b4 : Bytes n4 := by unfold Bytes n4; decide
theorem b5 : Bytes n5 := by unfold Bytes n5; decide
theorem newCrc' (w : World) : Calls Try.prog 7 #[] w fun e w' => ∃ p, e = .returned (.pointer (some ⟨p, 0, none⟩)) ∧ w.heap.size ≤ p ∧ p < w'.heap.size ∧ w'.heap[p]? = some (crcBlk 4294967295) ∧ Kept (fun _ => False) w w' :=
  (newCrc w).mono fun e w' ⟨he, hw⟩ => ⟨_, he, Nat.le_refl _, by rw [← hw]; simp, by rw [← hw]; exact blk_new _ _, by rw [← hw]; exact (Kept.refl _ _).alloc _⟩
theorem newAdler' (w : World) : Calls Try.prog 8 #[] w fun e w' => ∃ p, e = .returned (.pointer (some ⟨p, 0, none⟩)) ∧ w.heap.size ≤ p ∧ p < w'.heap.size ∧ w'.heap[p]? = some (adlBlk (1, 0)) ∧ Kept (fun _ => False) w w' :=
  (newAdler w).mono fun e w' ⟨he, hw⟩ => ⟨_, he, Nat.le_refl _, by rw [← hw]; simp, by rw [← hw]; exact blk_new _ _, by rw [← hw]; exact (Kept.refl _ _).alloc _⟩
theorem kc1 (w : World) (o : Obj) (C : Array Value) (n c : Nat) : (convert 22 22 (.slice (some ⟨w.heap.size + 1, 0, none⟩) n c)).run Try.prog ((w.alloc o).alloc (.cells C 5)) =
    .ok (.slice (some ⟨w.heap.size + 1, 0, none⟩) n c) ((w.alloc o).alloc (.cells C 5 (C.size, C.size + 1))) := by
  have h := Lib.run_convert_bytes_const (P := Try.prog) (w.alloc o) 22 5 C n c Try.underlying22 Try.underlying5
  rw [World.size_alloc] at h
  exact h
set_option maxHeartbeats 1000000 in
theorem known_any (w : World) : Calls Try.prog 6 #[] w fun e w' => e = .returned (.bool true) ∧ Kept (fun _ => False) w w' := by
  have K1 := k_e
  have K3 := k_a
  go_enter Try.func6, Try.ntmps6
  go_wp2_with fail
  refine (newCrc' _).mono ?_; rintro e w1 ⟨p, rfl, hp0, hp1, hpb, hk1⟩
  have HPB := Lib.hid hpb; clear hpb
  go_wp2_with fail
  refine (newAdler' _).mono ?_; rintro e w2 ⟨q, rfl, hq0, hq1, hqb, hk2⟩
  have HPB := Lib.hid (hk2.blk HPB.out id)
  have HQB := Lib.hid hqb; clear hqb
  go_wp2_with fail
  refine (crcSum p _ _ HPB.out (by decide)).mono ?_; rintro e w' ⟨rfl, rfl⟩
  have kc := fun (w : World) (C : Array Value) (n c : Nat) => Lib.run_convert_bytes_const (P := Try.prog) w 22 5 C n c Try.underlying22 Try.underlying5
  go_wp2_with fail
  have hz2 := hk2.size
  have hz1 := hk1.size
  refine (crcWrite p _ 9 9 _ n9 _ (blk_alloc HPB.out _) (by decide) (slAt_blk (blk_new _ _) rfl rfl) (by decide) b9 (fun b off _ h => by cases h; omega)).mono ?_
  rintro e w3 ⟨rfl, hpb, hk3⟩
  have hqb := hk3.blk (blk_alloc HQB.out _) (by omega)
  have hk4 : Kept (fun _ => False) w w3 := ((hk1.then hk2).alloc _).trans (hk3.mono (by omega))
  have HPB := Lib.hid hpb; clear hpb
  have HQB := Lib.hid hqb; clear hqb
  have hz3 := hk3.size
  clear hk1 hk2 hk3
  have K2 := k_c
  go_wp2_with fail
  refine (crcSum p _ _ HPB.out (crcs_lt _ (by decide) b9.nats)).mono ?_; rintro e w' ⟨rfl, rfl⟩
  go_wp2_with fail
  refine (adlerSum q _ _ HQB.out (by decide) (by decide)).mono ?_; rintro e w4 ⟨rfl, hm⟩
  have hk5 : Kept (fun _ => False) w3 w4 := by obtain ⟨m, rfl⟩ := hm; exact (Kept.refl _ _).drewN _
  clear hm
  have HQB := Lib.hid (hk5.blk HQB.out id)
  have hk6 := hk4.then hk5
  have hz5 := hk5.size
  clear hk4 hk5 HPB
  have hq3 : q < w4.heap.size := lt_of_blk HQB.out
  have K4 := k_o (some ⟨w4.heap.size, 0, none⟩) (some ⟨w4.heap.size + 1, 0, none⟩) 4 5
  have kc' := kc1
  go_wp2_with fail
  refine (adlerOf q 2 2 _ _ [⟨some ⟨w4.heap.size, 0, none⟩, 4, 4, n4⟩, ⟨some ⟨w4.heap.size + 1, 0, none⟩, 5, 5, n5⟩] _ (blk_alloc (blk_alloc (blk_alloc HQB.out _) _) _) (by decide) (by decide) rfl (by decide) (.inr ⟨_, 0, rfl, by omega, ?_⟩) ?_).mono ?_
  · intro j hj
    rw [blk_cell (b := w4.heap.size + 1 + 1) (blk_at _ _ (by simp))]
    rcases j with _ | _ | j
    · rfl
    · rfl
    · omega
  · intro q' hq'
    simp only [List.mem_cons, List.not_mem_nil, or_false] at hq'
    rcases hq' with rfl | rfl
    · exact ⟨slAt_blk (blk_alloc (blk_alloc (blk_new _ _) _) _) rfl rfl, by show 4 ≤ 9223372036854775807; omega, b4, by intro b off _ h; cases h; omega⟩
    · exact ⟨slAt_blk (blk_alloc (blk_at _ _ (by simp)) _) rfl rfl, by show 5 ≤ 9223372036854775807; omega, b5, by intro b off _ h; cases h; omega⟩
  rintro e w5 ⟨rfl, -, hk7⟩
  have hk8 : Kept (fun _ => False) w w5 := (((hk6.alloc _).alloc _).alloc _).trans (hk7.mono (by omega))
  clear hk7 hk6
  go_wp2
  go_ret
  exact ⟨rfl, hk8⟩
end Go.Proofs.Ytgeknkpbjokafaa
