/- Fittings that may not be; all fittings in one. -/
import Derived.Test.YtgejefhnoloebaaRFit
namespace Go.Proofs.Ytgejefhnoloebaa
open Go.RowKit Go.Sort
set_option linter.unusedVariables false
set_option linter.unusedSimpArgs false

set_option maxRecDepth 100000 in
set_option maxHeartbeats 8000000 in
theorem rfit_no (w h : Int) (mx my : Int) (a : Option Addr) (n cap : Nat) (wd : World) (hw : I64 w) (hh : I64 h) (hs : sizeB w h = false) :
    Calls Try.prog 41 #[.agg #[.int .i64 mx, .int .i64 my, .slice a n cap], .int .i64 w, .int .i64 h] wd fun e w' => e = .returned (.tuple #[mat0, .int .i64 1]) ∧ Kept (fun _ => False) wd w' := by
  have HSZ := Lib.hid (fun wd => show Calls Try.prog 43 #[.int .i64 w, .int .i64 h] wd fun e w' => e = .returned (.bool false) ∧ wd = w' from by have h9 := refSize_any w h wd hw hh; rw [hs] at h9; exact h9)
  obtain ⟨W0, hW0⟩ : ∃ V, (wd.alloc (.cells #[.int .i64 mx, .int .i64 my, .slice a n cap] 41)).alloc (.cells #[.int .i64 0, .int .i64 0, .slice none 0 0] 41) = V := ⟨_, rfl⟩
  have k0 : Kept (fun _ => False) wd W0 := by rw [← hW0]; exact ((Kept.refl _ wd).alloc _).alloc _
  have b0 : W0.heap[wd.heap.size]? = some (.cells #[.int .i64 mx, .int .i64 my, .slice a n cap] 41 (0, 0)) := by rw [← hW0]; exact blk_alloc (blk_new _ _) _
  have b1 : W0.heap[wd.heap.size + 1]? = some (.cells #[.int .i64 0, .int .i64 0, .slice none 0 0] 41 (0, 0)) := by rw [← hW0]; exact blk_at _ _ (by simp)
  obtain ⟨⟨x0, -⟩, ⟨x1, -⟩, x2, -⟩ := blk3 b0
  obtain ⟨V1, V2, V3, f1, f2, f3, ⟨g0, g0'⟩, ⟨g1, g1'⟩, ⟨g2, g2'⟩, bV, kV3⟩ := store3 b1 (.int .i64 0) (.int .i64 0) (.slice none 0 0)
  obtain ⟨⟨m0, -⟩, ⟨m1, -⟩, m2, -⟩ := blk3 bV
  have HK := Lib.hid (k0.trans (kV3.mono fun i _ hi => Or.inr (by have h9 : i = wd.heap.size + 1 := hi; omega)))
  clear b0 b1 k0 bV kV3
  clear hs hw hh
  go_enter Try.func41, Try.ntmps41
  go_wp2_with (go_at_call 43; refine (HSZ.out _).mono ?_; rintro e w' ⟨rfl, rfl⟩)
  exact bodyPost_ret (v := .tuple #[mat0, .int .i64 1]) (by simp [results, Try.results41, go_sem, mat0, mat, m0, m1, m2]) rfl ⟨rfl, HK.out⟩

set_option maxRecDepth 100000 in
set_option maxHeartbeats 8000000 in
theorem rfit_mis (w h : Int) (mx my : Int) (a : Option Addr) (n cap : Nat) (wd : World) (hw : I64 w) (hh : I64 h) (hs : sizeB w h = true) (b : Bool) (h1 : (mx == 0) = b) (h2 : (w == 0) = !b) :
    Calls Try.prog 41 #[.agg #[.int .i64 mx, .int .i64 my, .slice a n cap], .int .i64 w, .int .i64 h] wd fun e w' => e = .returned (.tuple #[mat0, .int .i64 1]) ∧ Kept (fun _ => False) wd w' := by
  have HSZ := Lib.hid (fun wd => show Calls Try.prog 43 #[.int .i64 w, .int .i64 h] wd fun e w' => e = .returned (.bool true) ∧ wd = w' from by have h9 := refSize_any w h wd hw hh; rw [hs] at h9; exact h9)
  obtain ⟨W0, hW0⟩ : ∃ V, (wd.alloc (.cells #[.int .i64 mx, .int .i64 my, .slice a n cap] 41)).alloc (.cells #[.int .i64 0, .int .i64 0, .slice none 0 0] 41) = V := ⟨_, rfl⟩
  have k0 : Kept (fun _ => False) wd W0 := by rw [← hW0]; exact ((Kept.refl _ wd).alloc _).alloc _
  have b0 : W0.heap[wd.heap.size]? = some (.cells #[.int .i64 mx, .int .i64 my, .slice a n cap] 41 (0, 0)) := by rw [← hW0]; exact blk_alloc (blk_new _ _) _
  have b1 : W0.heap[wd.heap.size + 1]? = some (.cells #[.int .i64 0, .int .i64 0, .slice none 0 0] 41 (0, 0)) := by rw [← hW0]; exact blk_at _ _ (by simp)
  obtain ⟨⟨x0, -⟩, ⟨x1, -⟩, x2, -⟩ := blk3 b0
  obtain ⟨V1, V2, V3, f1, f2, f3, ⟨g0, g0'⟩, ⟨g1, g1'⟩, ⟨g2, g2'⟩, bV, kV3⟩ := store3 b1 (.int .i64 0) (.int .i64 0) (.slice none 0 0)
  obtain ⟨⟨m0, -⟩, ⟨m1, -⟩, m2, -⟩ := blk3 bV
  have HK := Lib.hid (k0.trans (kV3.mono fun i _ hi => Or.inr (by have h9 : i = wd.heap.size + 1 := hi; omega)))
  clear b0 b1 k0 bV kV3
  clear hs hw hh
  cases b
  all_goals
    simp only [Bool.not_true, Bool.not_false] at h2
    go_enter Try.func41, Try.ntmps41
    go_wp2_with (go_at_call 43; refine (HSZ.out _).mono ?_; rintro e w' ⟨rfl, rfl⟩)
    exact bodyPost_ret (v := .tuple #[mat0, .int .i64 1]) (by simp [results, Try.results41, go_sem, mat0, mat, m0, m1, m2]) rfl ⟨rfl, HK.out⟩

set_option maxRecDepth 100000 in
set_option maxHeartbeats 8000000 in
theorem fit_mis (w h : Int) (mx my : Int) (a : Option Addr) (n cap : Nat) (wd : World) (hs : sizeB w h = true) (b : Bool) (h1 : (mx == 0) = b) (h2 : (w == 0) = !b) :
    Calls Try.prog 28 #[.agg #[.int .i64 mx, .int .i64 my, .slice a n cap], .int .i64 w, .int .i64 h] wd fun e w' => e = .returned (.tuple #[mat0, .int .i64 1]) ∧ Kept (fun _ => False) wd w' := by
  obtain ⟨W0, hW0⟩ : ∃ V, (wd.alloc (.cells #[.int .i64 mx, .int .i64 my, .slice a n cap] 35)).alloc (.cells #[.int .i64 0, .int .i64 0, .slice none 0 0] 35) = V := ⟨_, rfl⟩
  have k0 : Kept (fun _ => False) wd W0 := by rw [← hW0]; exact ((Kept.refl _ wd).alloc _).alloc _
  have HBM := Lib.hid (show W0.heap[wd.heap.size]? = some (.cells #[.int .i64 mx, .int .i64 my, .slice a n cap] 35 (0, 0)) from by rw [← hW0]; exact blk_alloc (blk_new _ _) _)
  have HBR := Lib.hid (show W0.heap[wd.heap.size + 1]? = some (.cells #[.int .i64 0, .int .i64 0, .slice none 0 0] 35 (0, 0)) from by rw [← hW0]; exact blk_at _ _ (by simp))
  have HN := Lib.hid (new_yes w h)
  have HSZ := Lib.hid hs
  have HK0 := Lib.hid k0
  clear k0 hs
  go_enter Try.func28, Try.ntmps28
  go_wp2_with fail
  refine (HN.out _ HSZ.out).mono ?_; rintro e w1 ⟨g, k, hk', rfl, hg, ho, hk⟩
  obtain ⟨V, hV⟩ : ∃ V, w1.alloc (.cells #[.int .i64 w, .int .i64 h, .slice (some ⟨g, 0, none⟩) k k] 35) = V := ⟨_, rfl⟩
  have kV : Kept (fun _ => False) w1 V := by rw [← hV]; exact (Kept.refl _ _).alloc _
  obtain ⟨⟨x0, -⟩, ⟨x1, -⟩, x2, -⟩ := blk3 ((hk.then kV).blk HBM.out id)
  obtain ⟨U1, U2, U3, e1, e2, e3, ⟨r0, s0⟩, ⟨r1, s1⟩, ⟨r2, s2⟩, bU, kU⟩ := store3 ((hk.then kV).blk HBR.out id) (.int .i64 0) (.int .i64 0) (.slice none 0 0)
  obtain ⟨⟨m0, -⟩, ⟨m1, -⟩, m2, -⟩ := blk3 bU
  have HK := Lib.hid (((HK0.out.then hk).then kV).trans (kU.mono fun i _ hi => Or.inr (by have h9 : i = wd.heap.size + 1 := hi; omega)))
  clear hk kV kU bU ho hg hk'
  unfold mat
  cases b
  all_goals
    simp only [Bool.not_true, Bool.not_false] at h2
    go_wp2
    exact bodyPost_ret (v := .tuple #[mat0, .int .i64 1]) (by simp [results, Try.results28, go_sem, mat0, mat, m0, m1, m2]) rfl ⟨rfl, HK.out⟩

/-- Both sides fit alike: what sides, what error, what bytes. -/
theorem fit_all (w h : Int) (MW MH : Nat) (p : List Int) (hw : I64 w) (hh : I64 h) (hsm : smallB w h = true) (hr : rightM ⟨MW, MH, p⟩ = true) (hb : IsBytes p) (n : Nat) (hn : p.length = n) :
    ∃ (fw fh ec : Int) (fl : List Int), IsBytes fl ∧ (∀ (a : Option Addr) (cap : Nat) (wd : World), SlAt .u8 wd a n p → n ≤ cap → cap ≤ 9223372036854775807 → Calls Try.prog 28 #[.agg #[.int .i64 MW, .int .i64 MH, .slice a n cap], .int .i64 w, .int .i64 h] wd fun e w' => ∃ v, e = .returned (.tuple #[.agg #[.int .i64 fw, .int .i64 fh, v], .int .i64 ec]) ∧ Made wd fl v w') ∧
      (∀ (a : Option Addr) (cap : Nat) (wd : World), SlAt .u8 wd a n p → Calls Try.prog 41 #[.agg #[.int .i64 MW, .int .i64 MH, .slice a n cap], .int .i64 w, .int .i64 h] wd fun e w' => ∃ v, e = .returned (.tuple #[.agg #[.int .i64 fw, .int .i64 fh, v], .int .i64 ec]) ∧ Made wd fl v w') := by
  have nil : ∀ {wd w' : World}, Kept (fun _ => False) wd w' → Made wd [] (.slice none 0 0) w' := fun hk => ⟨Own.nil _ _ _, hk, fun b hb => by cases hb⟩
  cases hs : sizeB w h with
  | false =>
    exact ⟨0, 0, 1, [], (fun n hn => by cases hn), fun a cap wd _ _ _ => (fit_no w h MW MH a n cap wd hw hh hs).mono fun e w' ⟨he, hk⟩ => ⟨_, he, nil hk⟩, fun a cap wd _ => (rfit_no w h MW MH a n cap wd hw hh hs).mono fun e w' ⟨he, hk⟩ => ⟨_, he, nil hk⟩⟩
  | true =>
    obtain ⟨a1, a2, a3, a4, a5, a6, a7⟩ := sizeB_t hs
    obtain ⟨W, rfl⟩ : ∃ W : Nat, w = W := ⟨w.toNat, by omega⟩
    obtain ⟨H, rfl⟩ : ∃ H : Nat, h = H := ⟨h.toNat, by omega⟩
    by_cases hz : (W = 0 ↔ MW = 0)
    · have hwh : (W : Int) * (H : Int) = ((W * H : Nat) : Int) := by simp
      have hWH : W * H ≤ 4096 := by
        unfold smallB at hsm
        have h9 := of_decide_eq_true hsm
        rw [hwh] at h9
        rcases h9 with h | h | h | h | h
        · have : W = 0 := by omega
          rw [this]; simp
        · have : H = 0 := by omega
          rw [this]; simp
        · omega
        · omega
        · omega
      refine ⟨W, H, 0, tab (4 * (W * H)) (fitF W H MW MH p), ?_, fun a cap wd hs' hc hcm => (fit_yes W H MW MH p a n cap wd hs hz hr hs' hc hcm).mono fun e w' ⟨g, k, hk, he, hg, ho, hkk⟩ => ⟨_, he, by rw [← hk]; exact ho, hkk, fun b hb => by have h9 : g = b := Option.some.inj hb; omega⟩,
        fun a cap wd hs' => (rfit_yes W H MW MH p a n cap wd hs hz hr hs' hWH).mono fun e w' ⟨g, k, hk, he, hg, ho, hkk⟩ => ⟨_, he, by rw [← hk]; exact ho, hkk, fun b hb => by have h9 : g = b := Option.some.inj hb; omega⟩⟩
      intro x hx
      simp only [tab, List.mem_map, List.mem_range] at hx
      obtain ⟨q, -, rfl⟩ := hx
      exact getD_byte hb _
    · obtain ⟨b, h1, h2⟩ : ∃ b, ((MW : Int) == 0) = b ∧ ((W : Int) == 0) = !b := by
        by_cases h1 : W = 0
        · have h2 : ¬ MW = 0 := fun h2 => hz ⟨fun _ => h2, fun _ => h1⟩
          exact ⟨false, by simp; omega, by simp [h1]⟩
        · have h2 : MW = 0 := Decidable.byContradiction fun h2 => hz ⟨fun h => absurd h h1, fun h => absurd h h2⟩
          exact ⟨true, by simp [h2], by simp; omega⟩
      exact ⟨0, 0, 1, [], (fun n hn => by cases hn), fun a cap wd _ _ _ => (fit_mis W H MW MH a n cap wd hs b h1 h2).mono fun e w' ⟨he, hk⟩ => ⟨_, he, nil hk⟩, fun a cap wd _ => (rfit_mis W H MW MH a n cap wd hw hh hs b h1 h2).mono fun e w' ⟨he, hk⟩ => ⟨_, he, nil hk⟩⟩

end Go.Proofs.Ytgejefhnoloebaa
