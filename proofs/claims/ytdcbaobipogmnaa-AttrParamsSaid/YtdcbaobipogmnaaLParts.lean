/- The law of parameters that are parted, walked. -/
import Derived.Test.YtdcbaobipogmnaaLAttr
namespace Go.Proofs.Ytdcbaobipogmnaa
open Go.RowKit Pl Go.Sort
set_option linter.unusedVariables false
set_option linter.unusedSimpArgs false
theorem Arg.take {B : Nat} {w : World} {ad : Option Addr} {len cap : Nat} {l : List Int} (h : Arg B w ad len cap l) (k : Nat) (hk : k ≤ len) : Arg B w ad k cap (l.take k) := by
  obtain ⟨h1, h2, h3, h4, h5⟩ := h
  have hl := h1.1
  refine ⟨⟨by simp; omega, ?_⟩, by omega, h3, fun b off h0 he => h4 b off (by omega) he, fun n hn => h5 n (List.mem_of_mem_take hn)⟩
  by_cases h0 : k = 0
  · exact .inl h0
  · right
    obtain ⟨b, off, rfl, hc⟩ := h1.2.resolve_left (by omega)
    refine ⟨b, off, rfl, fun j hj => ?_⟩
    rw [hc j (by omega)]
    simp [List.getD_eq_getElem?_getD, List.getElem?_take_of_lt hj]
theorem Pl.ap_append : ∀ (l r : List Int) (a : Look), (∀ x ∈ l, x ≠ 38 ∧ x ≠ 48) → ap a (l ++ r) = ap (ap a l) r := by
  intro l
  induction l with
  | nil => intro r a _; rw [ap_nil]; rfl
  | cons x l ih =>
    intro r a h
    have hx := h x (by simp)
    have e : ∀ l, stp a x l = (one a x, l) := fun l => by unfold stp; rw [if_neg hx.1, if_neg hx.2]
    rw [List.cons_append, ap_cons, ap_cons, e, e]
    exact ih r _ (fun y hy => h y (by simp [hy]))
theorem Pl.apply_parts (a : Look) (l : List Int) (k : Nat) (h0 : 0 < k) (h1 : k < l.length) (h : ∀ x ∈ l, x ≠ 38 ∧ x ≠ 48) : apply (apply a (l.take k)) (l.drop k) = apply a l := by
  unfold apply
  rw [if_neg (show ¬ l.take k = [] by intro e; have := congrArg List.length e; rw [List.length_take, List.length_nil] at this; omega), if_neg (show ¬ l.drop k = [] by intro e; have := congrArg List.length e; rw [List.length_drop, List.length_nil] at this; omega), if_neg (show ¬ l = [] by intro e; rw [e] at h1; simp at h1)]
  rw [← Pl.ap_append (l.take k) (l.drop k) a (fun x hx => h x (List.mem_of_mem_take hx)), List.take_append_drop]
set_option maxRecDepth 100000 in
set_option maxHeartbeats 2000000 in
theorem parts_early (a : Look) (ad : Option Addr) (len cap : Nat) (at' : Int) (w : World) (h : 200 < len ∨ at' < 1 ∨ (len : Int) ≤ at') (hm : len ≤ 9223372036854775807) :
    Calls Try.prog 5 #[.agg #[.int .i64 a.fg, .int .i64 a.bg, .int .i64 a.fl], .slice ad len cap, .int .i64 at'] w fun e w' => e = .returned (.bool true) ∧ Kept (fun _ => False) w w' := by
  by_cases h1 : 200 < len
  · have g1 : decide ((200 : Int) < len) = true := decide_eq_true (by omega)
    clear h
    go_enter Try.func5, Try.ntmps5
    go_wp2_with fail
    refine (known_any _).mono ?_; rintro e w1 ⟨rfl, hk⟩
    have k1 := ((Kept.refl (fun _ => False) w).alloc _).then hk
    clear hk
    go_wp2
    go_ret
    exact ⟨rfl, k1⟩
  have g1 : decide ((200 : Int) < len) = false := decide_eq_false (by omega)
  by_cases h2 : at' < 1
  · have g2 : decide (at' < 1) = true := decide_eq_true h2
    clear h
    go_enter Try.func5, Try.ntmps5
    go_wp2_with fail
    refine (known_any _).mono ?_; rintro e w1 ⟨rfl, hk⟩
    have k1 := ((Kept.refl (fun _ => False) w).alloc _).then hk
    clear hk
    go_wp2
    go_ret
    exact ⟨rfl, k1⟩
  have g2 : decide (at' < 1) = false := decide_eq_false h2
  have g3 : decide ((len : Int) ≤ at') = true := decide_eq_true (by omega)
  clear h
  go_enter Try.func5, Try.ntmps5
  go_wp2_with fail
  refine (known_any _).mono ?_; rintro e w1 ⟨rfl, hk⟩
  have k1 := ((Kept.refl (fun _ => False) w).alloc _).then hk
  clear hk
  go_wp2
  go_ret
  exact ⟨rfl, k1⟩
set_option maxRecDepth 100000 in
set_option maxHeartbeats 4000000 in
theorem parts_go (a : Look) (ha : a.In) (b off len cap k : Nat) (l : List Int) (w : World) (h : Arg w.heap.size w (some ⟨b, off, none⟩) len cap l) (hl : len ≤ 200) (h0 : 0 < k) (h1 : k < len) :
    Calls Try.prog 5 #[.agg #[.int .i64 a.fg, .int .i64 a.bg, .int .i64 a.fl], .slice (some ⟨b, off, none⟩) len cap, .int .i64 k] w fun e w' => e = .returned (.bool true) ∧ Kept (fun _ => False) w w' := by
  have g1 : decide ((200 : Int) < len) = false := decide_eq_false (by omega)
  have g2 : decide ((k : Int) < 1) = false := decide_eq_false (by omega)
  have g3 : decide (len ≤ k) = false := decide_eq_false (by omega)
  have hlc := h.2.1
  have hcm := h.2.2.1
  have HA := Lib.hid h
  clear h
  go_enter Try.func5, Try.ntmps5
  go_wp2_with fail
  refine (known_any _).mono ?_; rintro e V ⟨rfl, hk⟩
  have b0 := hk.blk (blk_new w _) id
  have k1 := ((Kept.refl (fun _ => False) w).alloc _).then hk
  have HV := Lib.hid (HA.out.up k1)
  have HK := Lib.hid k1
  have HB := Lib.hid b0
  clear hk b0 k1
  go_wp2
  go_loop [7] (fun v => ∃ i : Nat, v = .int .i64 i ∧ i ≤ len ∧ ∀ x ∈ l.take i, x ≠ 38 ∧ x ≠ 48) (fun v => len - (intOf v).toNat)
  case atStart => exact ⟨0, rfl, by omega, by simp⟩
  case round =>
    obtain ⟨i, rfl, hi, hx⟩ := hrel
    have HX := Lib.hid hx
    clear hx
    by_cases hlt : i < len
    · have gl : decide (i < len) = true := decide_eq_true hlt
      have cn := (HV.out.cellAt i hlt).1
      obtain ⟨n, hn⟩ : ∃ n, l.getD i 0 = n := ⟨_, rfl⟩
      rw [hn] at cn
      have hll : l.length = len := HV.out.1.1
      have HN := Lib.hid hn
      clear hn
      by_cases z1 : n = 38
      · have q1 : (n == 38) = true := by simp [z1]
        clear z1 hll
        go_wp2
        go_ret
        exact ⟨rfl, HK.out⟩
      have q1 : (n == 38) = false := by simp [z1]
      by_cases z2 : n = 48
      · have q2 : (n == 48) = true := by simp [z2]
        clear z1 z2 hll
        go_wp2
        go_ret
        exact ⟨rfl, HK.out⟩
      have q2 : (n == 48) = false := by simp [z2]
      have HX' := Lib.hid (show ∀ x ∈ l.take (i + 1), x ≠ 38 ∧ x ≠ 48 from by
        intro x hx
        rw [List.take_succ_eq_append_getElem (by omega), List.mem_append] at hx
        rcases hx with hx | hx
        · exact HX.out x hx
        · simp at hx
          have e : n = l[i] := by rw [← HN.out, List.getD_eq_getElem?_getD, List.getElem?_eq_getElem (by omega)]; rfl
          rw [hx, ← e]; exact ⟨z1, z2⟩)
      clear z1 z2 hll
      go_wp2
      go_round
      case rel => exact ⟨i + 1, by go_num, by omega, HX'.out⟩
      case measure => simp [intOf]; omega
    · have gl : decide (i < len) = false := decide_eq_false hlt
      have hll : l.length = len := HV.out.1.1
      have hx' : ∀ x ∈ l, x ≠ 38 ∧ x ≠ 48 := by
        have h := HX.out
        rw [List.take_of_length_le (by omega)] at h
        exact h
      have hlaw := Pl.apply_parts a l k h0 (by omega) hx'
      obtain ⟨Y, hY⟩ : ∃ Y, apply a (l.take k) = Y := ⟨_, rfl⟩
      obtain ⟨X, hX⟩ : ∃ X, apply a l = X := ⟨_, rfl⟩
      rw [hY, hX] at hlaw
      have hYin : Y.In := by rw [← hY]; exact Pl.apply_In ha _ (fun n hn => HV.out.2.2.2.2 n (List.mem_of_mem_take hn))
      have D1 := Lib.hid (QA (HV.out.take k (by omega)) ha Y hY)
      have hdrop := HV.out.drop1 k (by omega) (by omega)
      have D2 := Lib.hid (QA hdrop hYin X hlaw)
      have D3 := Lib.hid (QA HV.out ha X hX)
      clear hlaw hY hX hYin hdrop hx' hll
      obtain ⟨⟨c0, f0⟩, ⟨c1, f1⟩, c2, f2⟩ := blk3 HB.out
      have d0 := cell_regrown c0
      have d1 := cell_regrown c1
      have d2 := cell_regrown c2
      have q1 := run_eqLook X X
      have q3 := @run_eqGuard_agg Try.prog
      have i0 : (0 : Int) ≤ (k : Int) := by omega
      have i1 : (k : Int) ≤ (len : Int) := by omega
      have i2 : (k : Int) ≤ (cap : Int) := by omega
      have i3 : ¬ cap = k := by omega
      clear c0 c1 c2 f0 f1 f2
      go_wp2
      refine wp_region_quiet_below (by kernel_rfl) (by kernel_rfl) ?_
      repeat (quiet_step (first | with_reducible exact quietC D1.out | with_reducible exact quietC D2.out | with_reducible exact quietC D3.out))
      refine wpQuiet_nil ?_
      rintro _ ⟨⟨dd, os⟩, rfl⟩
      go_wp2
      go_ret
      exact ⟨rfl, HK.out.then (kept_of_regrown dd os)⟩
theorem law_parts {x y z : Int} {ad : Option Addr} {len cap : Nat} {zs : List Int} {k : Int} {w : World} (f0 : (Lit.int .i64 x).wf = true ∧ (Lit.int .i64 y).wf = true ∧ (Lit.int .i64 z).wf = true) (f1 : IsRow .i64 w ad len cap zs) (f2 : (Lit.int .i64 k).wf = true) :
    Calls Try.prog 5 #[.agg #[.int .i64 x, .int .i64 y, .int .i64 z], .slice ad len cap, .int .i64 k] w fun e w' => e = .returned (.bool true) ∧ Below w.heap.size w w' := by
  refine Calls.mono (R := fun e w' => e = .returned (.bool true) ∧ Kept (fun _ => False) w w') ?_ fun _ _ h => ⟨h.1, h.2.below⟩
  have hA := argOf f1
  by_cases h : 200 < len ∨ k < 1 ∨ (len : Int) ≤ k
  · exact parts_early ⟨x, y, z⟩ ad len cap k w h (by have := hA.2.1; have := hA.2.2.1; omega)
  · obtain ⟨j, rfl⟩ := Int.eq_ofNat_of_zero_le (show 0 ≤ k by omega)
    obtain ⟨b, off, rfl, -⟩ := hA.1.2.resolve_left (by omega)
    exact parts_go ⟨x, y, z⟩ ⟨in_of_wf f0.1, in_of_wf f0.2.1, in_of_wf f0.2.2⟩ b off len cap j _ w hA (by omega) (by omega) (by omega)
end Go.Proofs.Ytdcbaobipogmnaa
