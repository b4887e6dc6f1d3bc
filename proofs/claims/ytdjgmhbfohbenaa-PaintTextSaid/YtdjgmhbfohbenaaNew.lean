/- Sizes and new matrices: what these functions compute. -/
import Derived.Test.YtdjgmhbfohbenaaNum
import Derived.Test.YtdjgmhbfohbenaaOwn
namespace Go.Proofs.Ytdjgmhbfohbenaa
open Go.RowKit
set_option linter.unusedVariables false
/-- May a matrix have these sides? -/
def sizeB (w h : Int) : Bool := decide (w = 0 ∧ h = 0 ∨ 1 ≤ w ∧ w ≤ 16384 ∧ 1 ≤ h ∧ h ≤ 16384 ∧ w * h ≤ 67108864)
theorem sizeB_t {w h : Int} (hh : sizeB w h = true) : 0 ≤ w ∧ w ≤ 16384 ∧ 0 ≤ h ∧ h ≤ 16384 ∧ 0 ≤ w * h ∧ w * h ≤ 67108864 ∧ (w = 0 ∧ h = 0 ∨ 1 ≤ w ∧ 1 ≤ h) := by
  unfold sizeB at hh
  have h1 := of_decide_eq_true hh
  rcases h1 with ⟨rfl, rfl⟩ | h1
  · omega
  · have := Int.mul_nonneg (show 0 ≤ w by omega) (show 0 ≤ h by omega)
    omega
set_option maxRecDepth 100000 in
set_option maxHeartbeats 1000000 in
theorem size_any (w h : Int) (wd : World) (hw : -9223372036854775808 ≤ w ∧ w ≤ 9223372036854775807) (hh : -9223372036854775808 ≤ h ∧ h ≤ 9223372036854775807) :
    Calls Try.prog 65 #[.int .i64 w, .int .i64 h] wd fun e w' => e = .returned (.bool (sizeB w h)) ∧ wd = w' := by
  by_cases h1 : w = 0
  · subst h1
    by_cases h2 : h = 0
    · subst h2
      go_enter Try.func65, Try.ntmps65
      go_wp2
      go_ret
      exact ⟨ret_bool rfl, rfl⟩
    · go_enter Try.func65, Try.ntmps65
      go_wp2
      go_ret
      exact ⟨ret_bool (by unfold sizeB; rw [decide_eq_false (by omega)]; simpa using h2), rfl⟩
  · by_cases h2 : 1 ≤ w ∧ w ≤ 16384 ∧ 1 ≤ h ∧ h ≤ 16384
    · have h3 : 0 ≤ w * h := Int.mul_nonneg (by omega) (by omega)
      have h4 : w * h ≤ 16384 * h := Int.mul_le_mul_of_nonneg_right (by omega) (by omega)
      obtain ⟨a, b, c, d⟩ := h2
      have e : sizeB w h = decide (w * h ≤ 67108864) := decide_eq_decide.2 (by omega)
      rw [e]
      go_enter Try.func65, Try.ntmps65
      go_wp2
      go_ret
      exact ⟨rfl, rfl⟩
    · have e : sizeB w h = false := decide_eq_false (by omega)
      rw [e]
      by_cases ha : 1 ≤ w
      · by_cases hb : w ≤ 16384
        · by_cases hc : 1 ≤ h
          · have hd : 16384 < h := by omega
            clear h2 e
            go_enter Try.func65, Try.ntmps65
            go_wp2
            go_ret
            exact ⟨rfl, rfl⟩
          · clear h2 e
            go_enter Try.func65, Try.ntmps65
            go_wp2
            go_ret
            exact ⟨rfl, rfl⟩
        · clear h2 e
          go_enter Try.func65, Try.ntmps65
          go_wp2
          go_ret
          exact ⟨rfl, rfl⟩
      · clear h2 e
        go_enter Try.func65, Try.ntmps65
        go_wp2
        go_ret
        exact ⟨rfl, rfl⟩
set_option maxRecDepth 100000 in
set_option maxHeartbeats 1000000 in
theorem refSize_any (w h : Int) (wd : World) (hw : -9223372036854775808 ≤ w ∧ w ≤ 9223372036854775807) (hh : -9223372036854775808 ≤ h ∧ h ≤ 9223372036854775807) :
    Calls Try.prog 51 #[.int .i64 w, .int .i64 h] wd fun e w' => e = .returned (.bool (sizeB w h)) ∧ wd = w' := by
  by_cases h1 : w = 0
  · subst h1
    by_cases h2 : h = 0
    · subst h2
      go_enter Try.func51, Try.ntmps51
      go_wp2
      go_ret
      exact ⟨ret_bool rfl, rfl⟩
    · go_enter Try.func51, Try.ntmps51
      go_wp2
      go_ret
      exact ⟨ret_bool (by unfold sizeB; rw [decide_eq_false (by omega)]; simpa using h2), rfl⟩
  · by_cases h2 : 1 ≤ w ∧ w ≤ 16384 ∧ 1 ≤ h ∧ h ≤ 16384
    · have h3 : 0 ≤ w * h := Int.mul_nonneg (by omega) (by omega)
      have h4 : w * h ≤ 16384 * h := Int.mul_le_mul_of_nonneg_right (by omega) (by omega)
      obtain ⟨a, b, c, d⟩ := h2
      have e : sizeB w h = decide (w * h ≤ 67108864) := decide_eq_decide.2 (by omega)
      rw [e]
      go_enter Try.func51, Try.ntmps51
      go_wp2
      go_ret
      exact ⟨rfl, rfl⟩
    · have e : sizeB w h = false := decide_eq_false (by omega)
      rw [e]
      by_cases ha : 1 ≤ w
      · by_cases hb : w ≤ 16384
        · by_cases hc : 1 ≤ h
          · have hd : 16384 < h := by omega
            clear h2 e
            go_enter Try.func51, Try.ntmps51
            go_wp2
            go_ret
            exact ⟨rfl, rfl⟩
          · clear h2 e
            go_enter Try.func51, Try.ntmps51
            go_wp2
            go_ret
            exact ⟨rfl, rfl⟩
        · clear h2 e
          go_enter Try.func51, Try.ntmps51
          go_wp2
          go_ret
          exact ⟨rfl, rfl⟩
      · clear h2 e
        go_enter Try.func51, Try.ntmps51
        go_wp2
        go_ret
        exact ⟨rfl, rfl⟩
theorem Try.info5 : (Try.prog.info? 5).map (fun i => (i.zero, i.size, i.bytes)) = some (some (.int .u8 0), 1, 1) := by kernel_rfl
/-- A matrix as a value. -/
def mat (w h : Int) (a : Option Addr) (n cap : Nat) : Value := .agg #[.int .i64 w, .int .i64 h, .slice a n cap]
def mat0 : Value := mat 0 0 none 0 0
set_option maxRecDepth 100000 in
set_option maxHeartbeats 1000000 in
theorem new_no (w h : Int) (wd : World) (hw : -9223372036854775808 ≤ w ∧ w ≤ 9223372036854775807) (hh : -9223372036854775808 ≤ h ∧ h ≤ 9223372036854775807) (hs : sizeB w h = false) :
    Calls Try.prog 33 #[.int .i64 w, .int .i64 h] wd fun e w' => e = .returned (.tuple #[mat0, .int .i64 1]) ∧ Kept (fun _ => False) wd w' := by
  go_enter Try.func33, Try.ntmps33
  go_wp2_with (go_at_call 65; refine (size_any _ _ _ hw hh).mono ?_; rw [hs]; rintro e w' ⟨rfl, rfl⟩)
  refine bodyPost_ret (v := .tuple #[mat0, .int .i64 1]) (by simp [results, Try.results33, go_sem, mat0, mat]) rfl ⟨rfl, ?_⟩
  repeat (first | apply Kept.alloc | apply Kept.drew)
  exact Kept.refl _ _
set_option maxRecDepth 100000 in
set_option maxHeartbeats 1000000 in
theorem new_yes (w h : Int) (wd : World) (hs : sizeB w h = true) :
    Calls Try.prog 33 #[.int .i64 w, .int .i64 h] wd fun e w' => ∃ g n : Nat, (n : Int) = 4 * w * h ∧ e = .returned (.tuple #[mat w h (some ⟨g, 0, none⟩) n n, .int .i64 0]) ∧ wd.heap.size ≤ g ∧ Own .u8 5 w' (.slice (some ⟨g, 0, none⟩) n n) (List.replicate n 0) ∧ Kept (fun _ => False) wd w' := by
  obtain ⟨a1, a2, a3, a4, a5, a6, -⟩ := sizeB_t hs
  obtain ⟨i0, hi, hz0, hz1, hz2⟩ := info_parts Try.info5
  have hp : 4 * w * h = 4 * (w * h) := Int.mul_assoc ..
  obtain ⟨n, hn⟩ : ∃ n : Nat, (n : Int) = 4 * w * h := ⟨(4 * w * h).toNat, by omega⟩
  have hnb : n ≤ 268435456 := by omega
  have HN := Lib.hid hn
  have hn' : 4 * w * h = (n : Int) := hn.symm
  clear hn hp
  go_enter Try.func33, Try.ntmps33
  go_wp2_with (first
    | (go_at_call 65; refine (size_any _ _ _ (by omega) (by omega)).mono ?_; rw [hs]; rintro e w' ⟨rfl, rfl⟩)
    | (refine wpList_makeInts rfl (.tmp 16) (.tmp 16) 29 rfl 5 .u8 i0 1 Try.underlying29 hi hz0 hz1 hz2 .i64 .i64 _ _ n rfl rfl rfl rfl (by omega) (by simp [maxLen]; omega) ?_; intro w2 ho2 hk2 hs2; have hb2 := hk2.blk (blk_new wd _) id; obtain ⟨⟨c0, f0⟩, ⟨c1, f1⟩, c2, f2⟩ := blk3 hb2; have HO := Lib.hid ho2; have HB := Lib.hid hb2; clear ho2 hb2))
  have ho := HO.out
  rw [World.size_alloc] at ho hs2
  refine bodyPost_ret (v := .tuple #[mat w h (some ⟨wd.heap.size + 1, 0, none⟩) n n, .int .i64 0]) (by simp [results, Try.results33, go_sem, mat, c0, c1, c2]) rfl ⟨wd.heap.size + 1, n, HN.out, rfl, by omega, ?_, ?_⟩
  · refine ho.kept (S := fun k => k = wd.heap.size) ?_ (fun b h => by cases h; exact Nat.succ_ne_self _)
    repeat (refine Kept.setCell ?_ (Or.inl (by rfl)) _)
    exact Kept.refl _ _
  · repeat (refine Kept.setCell ?_ (Or.inr (by exact Nat.le_refl _)) _)
    exact (Kept.trans ((Kept.refl _ wd).alloc _) (hk2.mono (fun _ _ h => h.elim)))
end Go.Proofs.Ytdjgmhbfohbenaa
