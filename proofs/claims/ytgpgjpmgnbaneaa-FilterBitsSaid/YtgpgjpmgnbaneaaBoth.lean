/- The reference's filter, both ways. -/
import Derived.Test.YtgpgjpmgnbaneaaUndo
namespace Go.Proofs.Ytgpgjpmgnbaneaa
open Go.RowKit Pl
set_option linter.unusedVariables false
set_option maxRecDepth 100000 in
set_option maxHeartbeats 2000000 in
theorem both_no (kind step : Int) (undo : Bool) (ra aa : Option Addr) (rl rc al ac : Nat) (w : World) (hc : chkB kind rl al step = false) :
    Calls Try.prog 20 #[.int .i64 kind, .slice ra rl rc, .slice aa al ac, .int .i64 step, .bool undo] w fun e w' => e = .returned (.tuple #[.slice none 0 0, .int .i64 1]) ∧ w = w' := by
  by_cases h1 : kind < 0
  · have gh1 : decide (kind < 0) = true := decide_eq_true h1
    go_enter Try.func20, Try.ntmps20
    go_wp2
    go_ret2
    exact ⟨rfl, rfl⟩
  have gh1 : decide (kind < 0) = false := decide_eq_false h1
  by_cases h2 : 4 < kind
  · have gh2 : decide (4 < kind) = true := decide_eq_true h2
    go_enter Try.func20, Try.ntmps20
    go_wp2
    go_ret2
    exact ⟨rfl, rfl⟩
  have gh2 : decide (4 < kind) = false := decide_eq_false h2
  by_cases h3 : step < 1
  · have gh3 : decide (step < 1) = true := decide_eq_true h3
    go_enter Try.func20, Try.ntmps20
    go_wp2
    go_ret2
    exact ⟨rfl, rfl⟩
  have gh3 : decide (step < 1) = false := decide_eq_false h3
  by_cases h4 : 8 < step
  · have gh4 : decide (8 < step) = true := decide_eq_true h4
    go_enter Try.func20, Try.ntmps20
    go_wp2
    go_ret2
    exact ⟨rfl, rfl⟩
  have gh4 : decide (8 < step) = false := decide_eq_false h4
  have hc' := of_decide_eq_false hc
  have k1 : ((al : Int) != 0) = true := by simp; omega
  have k2 : ((al : Int) != (rl : Int)) = true := by simp; omega
  clear hc hc'
  go_enter Try.func20, Try.ntmps20
  go_wp2
  go_ret2
  exact ⟨rfl, rfl⟩
set_option maxRecDepth 100000 in
set_option maxHeartbeats 8000000 in
theorem both_true (kind : Int) (step : Nat) (ra aa : Option Addr) (rl rc al ac : Nat) (xs ys : List Int) (w : World) (hs : SlAt .u8 w ra rl xs) (ha : SlAt .u8 w aa al ys) (hl : rl ≤ 2048) (hbx : Pl.Bytes xs) (hby : Pl.Bytes ys) (hc : chkB kind rl al step = true) :
    Calls Try.prog 20 #[.int .i64 kind, .slice ra rl rc, .slice aa al ac, .int .i64 step, .bool true] w fun e w' => ∃ v, e = .returned (.tuple #[v, .int .i64 0]) ∧ Own .u8 5 w' v (undoL kind xs ys step rl) ∧ Kept (fun _ => False) w w' ∧ ∀ b, v.ownBlock = some b → w.heap.size ≤ b := by
  have hcc := of_decide_eq_true hc
  have HXL := Lib.hid hs.1
  have HYL := Lib.hid ha.1
  have HS := Lib.hid hs
  have HA := Lib.hid ha
  have h1 : 1 ≤ step := by omega
  have h8 : step ≤ 8 := by omega
  have hal : al = 0 ∨ al = rl := hcc.2.2.2.2
  have c1 : decide (kind < 0) = false := decide_eq_false (by omega)
  have c2 : decide (4 < kind) = false := decide_eq_false (by omega)
  have c3 : decide ((step : Int) < 1) = false := decide_eq_false (by omega)
  have c4 : decide (8 < (step : Int)) = false := decide_eq_false (by omega)
  clear hs ha hcc hc
  obtain ⟨i0, hi, hz0, hz1, hz2⟩ := info_parts Try.infoByte
  have HI := Lib.hid (And.intro hi (And.intro hz0 (And.intro hz1 hz2)))
  clear hi hz0 hz1 hz2
  have main : ∀ (wm : World), True := fun _ => trivial
  clear main
  rcases hal with hal | hal
  · subst hal
    go_enter Try.func20, Try.ntmps20
    go_wp2_with (first
      | (refine wpList_makeInts rfl (.tmp 45) (.tmp 45) 25 rfl 5 .u8 i0 1 Try.underlying25 HI.out.1 HI.out.2.1 HI.out.2.2.1 HI.out.2.2.2 .i64 .i64 _ _ rl rfl rfl rfl rfl (by omega) (by simp [maxLen]; omega) ?_; intro w1 ho1 hk1 hz1))
    have HO1 := Lib.hid ho1
    clear ho1
    obtain ⟨g, hg⟩ : ∃ g, w.heap.size = g := ⟨_, rfl⟩
    rw [hg] at HO1 hz1 ⊢
    have HG := Lib.hid hg
    clear hg
    go_loopw [13] (fun i wr => ∃ k : Nat, k ≤ rl ∧ i = .int .i64 k ∧ Own .u8 5 wr (.slice (some ⟨g, 0, none⟩) rl rl) (undoL kind xs ys step k ++ List.replicate (rl - k) 0) ∧ Kept (fun _ => False) w wr) (fun i _ => rl - (intOf i).toNat)
    case atStart => exact ⟨0, by omega, rfl, by simpa [undoL] using HO1.out, hk1⟩
    case round =>
      obtain ⟨k, hk, rfl, ho, hkr⟩ := hrel
      have HO := Lib.hid ho
      by_cases hkn : k < rl
      · obtain ⟨-, -, hglt, hyc, hyf⟩ := ho.at
        obtain ⟨rb, roff, rfl, hrc⟩ := HS.out.2.resolve_left (by omega)
        have hrow : ∀ j, j < rl → wr.cell? ⟨rb, roff + j, none⟩ = some (.int .u8 (xs.getD j 0)) := fun j hj => hkr.cell (hrc j hj) id
        clear hrc
        have hahead : True := trivial
        by_cases hsi : step ≤ k
        · obtain ⟨j, hj⟩ : ∃ j, k - step = j := ⟨_, rfl⟩
          have hsub : (k : Int) - step = (j : Int) := by omega
          have gs : decide ((step : Int) ≤ (k : Int)) = true := decide_eq_true (by omega)
          have xj := hrow j (by omega)
          have zj := hyc j (by omega)
          rw [getD_left (by rw [undoL_length]; omega)] at zj
          obtain ⟨a, hae⟩ : ∃ a, (undoL kind xs ys step k).getD j 0 = a := ⟨_, rfl⟩
          have ea : back (undoL kind xs ys step k) step k = a := by unfold back; rw [if_pos hsi, hj, hae]
          have ha : Bt a := by rw [← hae]; exact getB (undoL_bytes _ _ _ _ _) j
          rw [hae] at zj
          have gl : decide ((0 : Int) < ((0 : Nat) : Int)) = false := decide_eq_false (by omega)
          have hy0 : ys = [] := List.eq_nil_of_length_eq_zero (by have := HYL.out; omega)
          have hbe : ys.getD k 0 = 0 := by rw [hy0]; rfl
          have ec : back ys step k = 0 := by unfold back; rw [hy0]; split <;> rfl
          have hb : Bt 0 := ⟨by omega, by omega⟩
          have hc : Bt 0 := ⟨by omega, by omega⟩
          clear hy0
          clear hj
          have eg : gAt kind (undoL kind xs ys step k) ys step k = guessI kind a 0 0 := by unfold gAt; rw [ea, hbe, ec]
          have hgb := guess_byte (kind := kind) ha hb hc
          obtain ⟨q, hq⟩ : ∃ q, guessI kind a 0 0 = q := ⟨_, rfl⟩
          have hcall := fun w => refGuess_any kind a 0 0 w ha hb hc
          rw [hq] at eg hgb
          have HCALL := Lib.hid hcall
          have HQ := Lib.hid hq
          obtain ⟨x, hx⟩ : ∃ x, xs.getD k 0 = x := ⟨_, rfl⟩
          have hby0 := getB hbx k
          have hlk : undoL kind xs ys step (k + 1) = undoL kind xs ys step k ++ [(x + q) % 256] := by simp only [undoL]; rw [hx, eg]
          have xk := hrow k (by omega)
          rw [hx] at xk hby0
          unfold Bt at hby0
          obtain ⟨u, hu⟩ : ∃ u, (x + q) % 256 = u := ⟨_, rfl⟩
          rw [hu] at hlk
          have HLK := Lib.hid hlk
          have HU := Lib.hid hu
          have HKN := Lib.hid hkn
          have s5 : (0 : Int) ≤ (k : Int) := by omega
          have s6 : (k : Int) < (rl : Int) := by omega
          clear hlk hu hx hq eg ea hbe ec hcall hrow hahead hyc hyf ho hae
          go_wp2_with fail
          refine (HCALL.out _).mono ?_
          rw [HQ.out]
          rintro e w4 ⟨rfl, hk4⟩
          have HO4 := Lib.hid (HO.out.kept hk4 (fun _ _ => id))
          have f4 := (HO4.out.at).2.2.2.2 k
          have o4 := (HO4.out.at).2.2.2.1 k HKN.out
          have xk := hk4.cell xk id
          clear xj zj
          go_wp2
          go_roundw
          case rel =>
            have h9 := HO4.out.set HKN.out u
            refine ⟨k + 1, by omega, by go_num, ?_, (hkr.then hk4).setCell (p := ⟨g, k, none⟩) (.inr (by rw [HG.out]; exact Nat.le_refl _)) _⟩
            obtain ⟨t, ht⟩ : ∃ t, rl - k = t + 1 := ⟨rl - k - 1, by have := HKN.out; omega⟩
            have hset := set_fill (undoL kind xs ys step k) t u
            rw [undoL_length, ← HLK.out, ← ht, show t = rl - (k + 1) by omega] at hset
            have h10 := h9.retag hset.symm
            first | exact h10 | (rw [HU.out]; exact h10)
          case measure => simp [intOf]; omega
        · have gs : decide ((step : Int) ≤ (k : Int)) = false := decide_eq_false (by omega)
          have ea : back (undoL kind xs ys step k) step k = 0 := by unfold back; rw [if_neg hsi]
          have ha : Bt 0 := ⟨by omega, by omega⟩
          have gl : decide ((0 : Int) < ((0 : Nat) : Int)) = false := decide_eq_false (by omega)
          have hy0 : ys = [] := List.eq_nil_of_length_eq_zero (by have := HYL.out; omega)
          have hbe : ys.getD k 0 = 0 := by rw [hy0]; rfl
          have ec : back ys step k = 0 := by unfold back; rw [hy0]; split <;> rfl
          have hb : Bt 0 := ⟨by omega, by omega⟩
          have hc : Bt 0 := ⟨by omega, by omega⟩
          clear hy0
          have eg : gAt kind (undoL kind xs ys step k) ys step k = guessI kind 0 0 0 := by unfold gAt; rw [ea, hbe, ec]
          have hgb := guess_byte (kind := kind) ha hb hc
          obtain ⟨q, hq⟩ : ∃ q, guessI kind 0 0 0 = q := ⟨_, rfl⟩
          have hcall := fun w => refGuess_any kind 0 0 0 w ha hb hc
          rw [hq] at eg hgb
          have HCALL := Lib.hid hcall
          have HQ := Lib.hid hq
          obtain ⟨x, hx⟩ : ∃ x, xs.getD k 0 = x := ⟨_, rfl⟩
          have hby0 := getB hbx k
          have hlk : undoL kind xs ys step (k + 1) = undoL kind xs ys step k ++ [(x + q) % 256] := by simp only [undoL]; rw [hx, eg]
          have xk := hrow k (by omega)
          rw [hx] at xk hby0
          unfold Bt at hby0
          obtain ⟨u, hu⟩ : ∃ u, (x + q) % 256 = u := ⟨_, rfl⟩
          rw [hu] at hlk
          have HLK := Lib.hid hlk
          have HU := Lib.hid hu
          have HKN := Lib.hid hkn
          have s5 : (0 : Int) ≤ (k : Int) := by omega
          have s6 : (k : Int) < (rl : Int) := by omega
          clear hlk hu hx hq eg ea hbe ec hcall hrow hahead hyc hyf ho
          go_wp2_with fail
          refine (HCALL.out _).mono ?_
          rw [HQ.out]
          rintro e w4 ⟨rfl, hk4⟩
          have HO4 := Lib.hid (HO.out.kept hk4 (fun _ _ => id))
          have f4 := (HO4.out.at).2.2.2.2 k
          have o4 := (HO4.out.at).2.2.2.1 k HKN.out
          have xk := hk4.cell xk id
          clear gs
          go_wp2
          go_roundw
          case rel =>
            have h9 := HO4.out.set HKN.out u
            refine ⟨k + 1, by omega, by go_num, ?_, (hkr.then hk4).setCell (p := ⟨g, k, none⟩) (.inr (by rw [HG.out]; exact Nat.le_refl _)) _⟩
            obtain ⟨t, ht⟩ : ∃ t, rl - k = t + 1 := ⟨rl - k - 1, by have := HKN.out; omega⟩
            have hset := set_fill (undoL kind xs ys step k) t u
            rw [undoL_length, ← HLK.out, ← ht, show t = rl - (k + 1) by omega] at hset
            have h10 := h9.retag hset.symm
            first | exact h10 | (rw [HU.out]; exact h10)
          case measure => simp [intOf]; omega
      · obtain rfl : k = rl := by omega
        clear ho
        go_wp2
        go_ret2
        refine ⟨_, rfl, HO.out.retag (by simp), hkr, fun b hb => ?_⟩
        have h9 := Option.some.inj hb; have h8 : g = b := h9; rw [HG.out, h8]; exact Nat.le_refl _
  · have hal' : al = rl := hal
    by_cases hz : al = 0
    · have hr0 : rl = 0 := by omega
      subst hz
      subst hr0
      go_enter Try.func20, Try.ntmps20
      go_wp2_with (first
        | (refine wpList_makeInts rfl (.tmp 45) (.tmp 45) 25 rfl 5 .u8 i0 1 Try.underlying25 HI.out.1 HI.out.2.1 HI.out.2.2.1 HI.out.2.2.2 .i64 .i64 _ _ 0 rfl rfl rfl rfl (by omega) (by simp [maxLen]) ?_; intro w1 ho1 hk1 hz1))
      have HO1 := Lib.hid ho1
      clear ho1
      obtain ⟨g, hg⟩ : ∃ g, w.heap.size = g := ⟨_, rfl⟩
      rw [hg] at HO1 hz1 ⊢
      have HG := Lib.hid hg
      clear hg
      go_loopw [13] (fun i wr => i = .int .i64 0 ∧ wr = w1) (fun i _ => 0)
      case atStart => exact ⟨rfl, rfl⟩
      case round =>
        obtain ⟨rfl, rfl⟩ := hrel
        go_wp2
        go_ret2
        refine ⟨_, rfl, HO1.out, hk1, fun b hb => ?_⟩
        have h9 := Option.some.inj hb; have h8 : g = b := h9; rw [HG.out, h8]; exact Nat.le_refl _
    have c5 : ((al : Int) != 0) = true := by simp; omega
    have c6 : ((al : Int) != (rl : Int)) = false := by simp; omega
    go_enter Try.func20, Try.ntmps20
    go_wp2_with (first
      | (refine wpList_makeInts rfl (.tmp 45) (.tmp 45) 25 rfl 5 .u8 i0 1 Try.underlying25 HI.out.1 HI.out.2.1 HI.out.2.2.1 HI.out.2.2.2 .i64 .i64 _ _ rl rfl rfl rfl rfl (by omega) (by simp [maxLen]; omega) ?_; intro w1 ho1 hk1 hz1))
    have HO1 := Lib.hid ho1
    clear ho1
    obtain ⟨g, hg⟩ : ∃ g, w.heap.size = g := ⟨_, rfl⟩
    rw [hg] at HO1 hz1 ⊢
    have HG := Lib.hid hg
    clear hg
    go_loopw [13] (fun i wr => ∃ k : Nat, k ≤ rl ∧ i = .int .i64 k ∧ Own .u8 5 wr (.slice (some ⟨g, 0, none⟩) rl rl) (undoL kind xs ys step k ++ List.replicate (rl - k) 0) ∧ Kept (fun _ => False) w wr) (fun i _ => rl - (intOf i).toNat)
    case atStart => exact ⟨0, by omega, rfl, by simpa [undoL] using HO1.out, hk1⟩
    case round =>
      obtain ⟨k, hk, rfl, ho, hkr⟩ := hrel
      have HO := Lib.hid ho
      by_cases hkn : k < rl
      · obtain ⟨-, -, hglt, hyc, hyf⟩ := ho.at
        obtain ⟨rb, roff, rfl, hrc⟩ := HS.out.2.resolve_left (by omega)
        have hrow : ∀ j, j < rl → wr.cell? ⟨rb, roff + j, none⟩ = some (.int .u8 (xs.getD j 0)) := fun j hj => hkr.cell (hrc j hj) id
        clear hrc
        obtain ⟨ab, aoff, rfl, hac⟩ := HA.out.2.resolve_left (by omega)
        have hahead : ∀ j, j < rl → wr.cell? ⟨ab, aoff + j, none⟩ = some (.int .u8 (ys.getD j 0)) := fun j hj => hkr.cell (hac j (by omega)) id
        clear hac
        by_cases hsi : step ≤ k
        · obtain ⟨j, hj⟩ : ∃ j, k - step = j := ⟨_, rfl⟩
          have hsub : (k : Int) - step = (j : Int) := by omega
          have gs : decide ((step : Int) ≤ (k : Int)) = true := decide_eq_true (by omega)
          have xj := hrow j (by omega)
          have zj := hyc j (by omega)
          rw [getD_left (by rw [undoL_length]; omega)] at zj
          obtain ⟨a, hae⟩ : ∃ a, (undoL kind xs ys step k).getD j 0 = a := ⟨_, rfl⟩
          have ea : back (undoL kind xs ys step k) step k = a := by unfold back; rw [if_pos hsi, hj, hae]
          have ha : Bt a := by rw [← hae]; exact getB (undoL_bytes _ _ _ _ _) j
          rw [hae] at zj
          have gl : decide ((0 : Int) < (al : Int)) = true := decide_eq_true (by omega)
          have bk := hahead k (by omega)
          obtain ⟨b, hbe⟩ : ∃ b, ys.getD k 0 = b := ⟨_, rfl⟩
          have hb : Bt b := by rw [← hbe]; exact getB hby k
          rw [hbe] at bk
          have bj := hahead j (by omega)
          obtain ⟨c, hce⟩ : ∃ c, ys.getD j 0 = c := ⟨_, rfl⟩
          have hc : Bt c := by rw [← hce]; exact getB hby j
          have ec : back ys step k = c := by unfold back; rw [if_pos hsi, hj, hce]
          rw [hce] at bj
          clear hj
          have eg : gAt kind (undoL kind xs ys step k) ys step k = guessI kind a b c := by unfold gAt; rw [ea, hbe, ec]
          have hgb := guess_byte (kind := kind) ha hb hc
          obtain ⟨q, hq⟩ : ∃ q, guessI kind a b c = q := ⟨_, rfl⟩
          have hcall := fun w => refGuess_any kind a b c w ha hb hc
          rw [hq] at eg hgb
          have HCALL := Lib.hid hcall
          have HQ := Lib.hid hq
          obtain ⟨x, hx⟩ : ∃ x, xs.getD k 0 = x := ⟨_, rfl⟩
          have hby0 := getB hbx k
          have hlk : undoL kind xs ys step (k + 1) = undoL kind xs ys step k ++ [(x + q) % 256] := by simp only [undoL]; rw [hx, eg]
          have xk := hrow k (by omega)
          rw [hx] at xk hby0
          unfold Bt at hby0
          obtain ⟨u, hu⟩ : ∃ u, (x + q) % 256 = u := ⟨_, rfl⟩
          rw [hu] at hlk
          have HLK := Lib.hid hlk
          have HU := Lib.hid hu
          have HKN := Lib.hid hkn
          have s5 : (0 : Int) ≤ (k : Int) := by omega
          have s6 : (k : Int) < (rl : Int) := by omega
          clear hlk hu hx hq eg ea hbe ec hcall hrow hahead hyc hyf ho hae
          go_wp2_with fail
          refine (HCALL.out _).mono ?_
          rw [HQ.out]
          rintro e w4 ⟨rfl, hk4⟩
          have HO4 := Lib.hid (HO.out.kept hk4 (fun _ _ => id))
          have f4 := (HO4.out.at).2.2.2.2 k
          have o4 := (HO4.out.at).2.2.2.1 k HKN.out
          have xk := hk4.cell xk id
          clear xj zj bk bj
          go_wp2
          go_roundw
          case rel =>
            have h9 := HO4.out.set HKN.out u
            refine ⟨k + 1, by omega, by go_num, ?_, (hkr.then hk4).setCell (p := ⟨g, k, none⟩) (.inr (by rw [HG.out]; exact Nat.le_refl _)) _⟩
            obtain ⟨t, ht⟩ : ∃ t, rl - k = t + 1 := ⟨rl - k - 1, by have := HKN.out; omega⟩
            have hset := set_fill (undoL kind xs ys step k) t u
            rw [undoL_length, ← HLK.out, ← ht, show t = rl - (k + 1) by omega] at hset
            have h10 := h9.retag hset.symm
            first | exact h10 | (rw [HU.out]; exact h10)
          case measure => simp [intOf]; omega
        · have gs : decide ((step : Int) ≤ (k : Int)) = false := decide_eq_false (by omega)
          have ea : back (undoL kind xs ys step k) step k = 0 := by unfold back; rw [if_neg hsi]
          have ha : Bt 0 := ⟨by omega, by omega⟩
          have gl : decide ((0 : Int) < (al : Int)) = true := decide_eq_true (by omega)
          have bk := hahead k (by omega)
          obtain ⟨b, hbe⟩ : ∃ b, ys.getD k 0 = b := ⟨_, rfl⟩
          have hb : Bt b := by rw [← hbe]; exact getB hby k
          rw [hbe] at bk
          have ec : back ys step k = 0 := by unfold back; rw [if_neg hsi]
          have hc : Bt 0 := ⟨by omega, by omega⟩
          have eg : gAt kind (undoL kind xs ys step k) ys step k = guessI kind 0 b 0 := by unfold gAt; rw [ea, hbe, ec]
          have hgb := guess_byte (kind := kind) ha hb hc
          obtain ⟨q, hq⟩ : ∃ q, guessI kind 0 b 0 = q := ⟨_, rfl⟩
          have hcall := fun w => refGuess_any kind 0 b 0 w ha hb hc
          rw [hq] at eg hgb
          have HCALL := Lib.hid hcall
          have HQ := Lib.hid hq
          obtain ⟨x, hx⟩ : ∃ x, xs.getD k 0 = x := ⟨_, rfl⟩
          have hby0 := getB hbx k
          have hlk : undoL kind xs ys step (k + 1) = undoL kind xs ys step k ++ [(x + q) % 256] := by simp only [undoL]; rw [hx, eg]
          have xk := hrow k (by omega)
          rw [hx] at xk hby0
          unfold Bt at hby0
          obtain ⟨u, hu⟩ : ∃ u, (x + q) % 256 = u := ⟨_, rfl⟩
          rw [hu] at hlk
          have HLK := Lib.hid hlk
          have HU := Lib.hid hu
          have HKN := Lib.hid hkn
          have s5 : (0 : Int) ≤ (k : Int) := by omega
          have s6 : (k : Int) < (rl : Int) := by omega
          clear hlk hu hx hq eg ea hbe ec hcall hrow hahead hyc hyf ho
          go_wp2_with fail
          refine (HCALL.out _).mono ?_
          rw [HQ.out]
          rintro e w4 ⟨rfl, hk4⟩
          have HO4 := Lib.hid (HO.out.kept hk4 (fun _ _ => id))
          have f4 := (HO4.out.at).2.2.2.2 k
          have o4 := (HO4.out.at).2.2.2.1 k HKN.out
          have xk := hk4.cell xk id
          clear gs bk
          go_wp2
          go_roundw
          case rel =>
            have h9 := HO4.out.set HKN.out u
            refine ⟨k + 1, by omega, by go_num, ?_, (hkr.then hk4).setCell (p := ⟨g, k, none⟩) (.inr (by rw [HG.out]; exact Nat.le_refl _)) _⟩
            obtain ⟨t, ht⟩ : ∃ t, rl - k = t + 1 := ⟨rl - k - 1, by have := HKN.out; omega⟩
            have hset := set_fill (undoL kind xs ys step k) t u
            rw [undoL_length, ← HLK.out, ← ht, show t = rl - (k + 1) by omega] at hset
            have h10 := h9.retag hset.symm
            first | exact h10 | (rw [HU.out]; exact h10)
          case measure => simp [intOf]; omega
      · obtain rfl : k = rl := by omega
        clear ho
        go_wp2
        go_ret2
        refine ⟨_, rfl, HO.out.retag (by simp), hkr, fun b hb => ?_⟩
        have h9 := Option.some.inj hb; have h8 : g = b := h9; rw [HG.out, h8]; exact Nat.le_refl _

set_option maxRecDepth 100000 in
set_option maxHeartbeats 8000000 in
theorem both_false (kind : Int) (step : Nat) (ra aa : Option Addr) (rl rc al ac : Nat) (xs ys : List Int) (w : World) (hs : SlAt .u8 w ra rl xs) (ha : SlAt .u8 w aa al ys) (hl : rl ≤ 2048) (hbx : Pl.Bytes xs) (hby : Pl.Bytes ys) (hc : chkB kind rl al step = true) :
    Calls Try.prog 20 #[.int .i64 kind, .slice ra rl rc, .slice aa al ac, .int .i64 step, .bool false] w fun e w' => ∃ v, e = .returned (.tuple #[v, .int .i64 0]) ∧ Own .u8 5 w' v (doL kind xs ys step rl) ∧ Kept (fun _ => False) w w' ∧ ∀ b, v.ownBlock = some b → w.heap.size ≤ b := by
  have hcc := of_decide_eq_true hc
  have HXL := Lib.hid hs.1
  have HYL := Lib.hid ha.1
  have HS := Lib.hid hs
  have HA := Lib.hid ha
  have h1 : 1 ≤ step := by omega
  have h8 : step ≤ 8 := by omega
  have hal : al = 0 ∨ al = rl := hcc.2.2.2.2
  have c1 : decide (kind < 0) = false := decide_eq_false (by omega)
  have c2 : decide (4 < kind) = false := decide_eq_false (by omega)
  have c3 : decide ((step : Int) < 1) = false := decide_eq_false (by omega)
  have c4 : decide (8 < (step : Int)) = false := decide_eq_false (by omega)
  clear hs ha hcc hc
  obtain ⟨i0, hi, hz0, hz1, hz2⟩ := info_parts Try.infoByte
  have HI := Lib.hid (And.intro hi (And.intro hz0 (And.intro hz1 hz2)))
  clear hi hz0 hz1 hz2
  have main : ∀ (wm : World), True := fun _ => trivial
  clear main
  rcases hal with hal | hal
  · subst hal
    go_enter Try.func20, Try.ntmps20
    go_wp2_with (first
      | (refine wpList_makeInts rfl (.tmp 45) (.tmp 45) 25 rfl 5 .u8 i0 1 Try.underlying25 HI.out.1 HI.out.2.1 HI.out.2.2.1 HI.out.2.2.2 .i64 .i64 _ _ rl rfl rfl rfl rfl (by omega) (by simp [maxLen]; omega) ?_; intro w1 ho1 hk1 hz1))
    have HO1 := Lib.hid ho1
    clear ho1
    obtain ⟨g, hg⟩ : ∃ g, w.heap.size = g := ⟨_, rfl⟩
    rw [hg] at HO1 hz1 ⊢
    have HG := Lib.hid hg
    clear hg
    go_loopw [13] (fun i wr => ∃ k : Nat, k ≤ rl ∧ i = .int .i64 k ∧ Own .u8 5 wr (.slice (some ⟨g, 0, none⟩) rl rl) (doL kind xs ys step k ++ List.replicate (rl - k) 0) ∧ Kept (fun _ => False) w wr) (fun i _ => rl - (intOf i).toNat)
    case atStart => exact ⟨0, by omega, rfl, by simpa [doL] using HO1.out, hk1⟩
    case round =>
      obtain ⟨k, hk, rfl, ho, hkr⟩ := hrel
      have HO := Lib.hid ho
      by_cases hkn : k < rl
      · obtain ⟨-, -, hglt, hyc, hyf⟩ := ho.at
        obtain ⟨rb, roff, rfl, hrc⟩ := HS.out.2.resolve_left (by omega)
        have hrow : ∀ j, j < rl → wr.cell? ⟨rb, roff + j, none⟩ = some (.int .u8 (xs.getD j 0)) := fun j hj => hkr.cell (hrc j hj) id
        clear hrc
        have hahead : True := trivial
        by_cases hsi : step ≤ k
        · obtain ⟨j, hj⟩ : ∃ j, k - step = j := ⟨_, rfl⟩
          have hsub : (k : Int) - step = (j : Int) := by omega
          have gs : decide ((step : Int) ≤ (k : Int)) = true := decide_eq_true (by omega)
          have xj := hrow j (by omega)
          obtain ⟨a, hae⟩ : ∃ a, xs.getD j 0 = a := ⟨_, rfl⟩
          have ea : back xs step k = a := by unfold back; rw [if_pos hsi, hj, hae]
          have ha : Bt a := by rw [← hae]; exact getB hbx j
          rw [hae] at xj
          have gl : decide ((0 : Int) < ((0 : Nat) : Int)) = false := decide_eq_false (by omega)
          have hy0 : ys = [] := List.eq_nil_of_length_eq_zero (by have := HYL.out; omega)
          have hbe : ys.getD k 0 = 0 := by rw [hy0]; rfl
          have ec : back ys step k = 0 := by unfold back; rw [hy0]; split <;> rfl
          have hb : Bt 0 := ⟨by omega, by omega⟩
          have hc : Bt 0 := ⟨by omega, by omega⟩
          clear hy0
          clear hj
          have eg : gAt kind xs ys step k = guessI kind a 0 0 := by unfold gAt; rw [ea, hbe, ec]
          have hgb := guess_byte (kind := kind) ha hb hc
          obtain ⟨q, hq⟩ : ∃ q, guessI kind a 0 0 = q := ⟨_, rfl⟩
          have hcall := fun w => refGuess_any kind a 0 0 w ha hb hc
          rw [hq] at eg hgb
          have HCALL := Lib.hid hcall
          have HQ := Lib.hid hq
          obtain ⟨x, hx⟩ : ∃ x, xs.getD k 0 = x := ⟨_, rfl⟩
          have hby0 := getB hbx k
          have hlk : doL kind xs ys step (k + 1) = doL kind xs ys step k ++ [(x - q) % 256] := by simp only [doL]; rw [hx, eg]
          have xk := hrow k (by omega)
          rw [hx] at xk hby0
          unfold Bt at hby0
          obtain ⟨u, hu⟩ : ∃ u, (x - q) % 256 = u := ⟨_, rfl⟩
          rw [hu] at hlk
          have HLK := Lib.hid hlk
          have HU := Lib.hid hu
          have HKN := Lib.hid hkn
          have s5 : (0 : Int) ≤ (k : Int) := by omega
          have s6 : (k : Int) < (rl : Int) := by omega
          clear hlk hu hx hq eg ea hbe ec hcall hrow hahead hyc hyf ho hae
          go_wp2_with fail
          refine (HCALL.out _).mono ?_
          rw [HQ.out]
          rintro e w4 ⟨rfl, hk4⟩
          have HO4 := Lib.hid (HO.out.kept hk4 (fun _ _ => id))
          have f4 := (HO4.out.at).2.2.2.2 k
          have o4 := (HO4.out.at).2.2.2.1 k HKN.out
          have xk := hk4.cell xk id
          clear xj
          go_wp2
          go_roundw
          case rel =>
            have h9 := HO4.out.set HKN.out u
            refine ⟨k + 1, by omega, by go_num, ?_, (hkr.then hk4).setCell (p := ⟨g, k, none⟩) (.inr (by rw [HG.out]; exact Nat.le_refl _)) _⟩
            obtain ⟨t, ht⟩ : ∃ t, rl - k = t + 1 := ⟨rl - k - 1, by have := HKN.out; omega⟩
            have hset := set_fill (doL kind xs ys step k) t u
            rw [doL_length, ← HLK.out, ← ht, show t = rl - (k + 1) by omega] at hset
            have h10 := h9.retag hset.symm
            first | exact h10 | (rw [HU.out]; exact h10)
          case measure => simp [intOf]; omega
        · have gs : decide ((step : Int) ≤ (k : Int)) = false := decide_eq_false (by omega)
          have ea : back xs step k = 0 := by unfold back; rw [if_neg hsi]
          have ha : Bt 0 := ⟨by omega, by omega⟩
          have gl : decide ((0 : Int) < ((0 : Nat) : Int)) = false := decide_eq_false (by omega)
          have hy0 : ys = [] := List.eq_nil_of_length_eq_zero (by have := HYL.out; omega)
          have hbe : ys.getD k 0 = 0 := by rw [hy0]; rfl
          have ec : back ys step k = 0 := by unfold back; rw [hy0]; split <;> rfl
          have hb : Bt 0 := ⟨by omega, by omega⟩
          have hc : Bt 0 := ⟨by omega, by omega⟩
          clear hy0
          have eg : gAt kind xs ys step k = guessI kind 0 0 0 := by unfold gAt; rw [ea, hbe, ec]
          have hgb := guess_byte (kind := kind) ha hb hc
          obtain ⟨q, hq⟩ : ∃ q, guessI kind 0 0 0 = q := ⟨_, rfl⟩
          have hcall := fun w => refGuess_any kind 0 0 0 w ha hb hc
          rw [hq] at eg hgb
          have HCALL := Lib.hid hcall
          have HQ := Lib.hid hq
          obtain ⟨x, hx⟩ : ∃ x, xs.getD k 0 = x := ⟨_, rfl⟩
          have hby0 := getB hbx k
          have hlk : doL kind xs ys step (k + 1) = doL kind xs ys step k ++ [(x - q) % 256] := by simp only [doL]; rw [hx, eg]
          have xk := hrow k (by omega)
          rw [hx] at xk hby0
          unfold Bt at hby0
          obtain ⟨u, hu⟩ : ∃ u, (x - q) % 256 = u := ⟨_, rfl⟩
          rw [hu] at hlk
          have HLK := Lib.hid hlk
          have HU := Lib.hid hu
          have HKN := Lib.hid hkn
          have s5 : (0 : Int) ≤ (k : Int) := by omega
          have s6 : (k : Int) < (rl : Int) := by omega
          clear hlk hu hx hq eg ea hbe ec hcall hrow hahead hyc hyf ho
          go_wp2_with fail
          refine (HCALL.out _).mono ?_
          rw [HQ.out]
          rintro e w4 ⟨rfl, hk4⟩
          have HO4 := Lib.hid (HO.out.kept hk4 (fun _ _ => id))
          have f4 := (HO4.out.at).2.2.2.2 k
          have o4 := (HO4.out.at).2.2.2.1 k HKN.out
          have xk := hk4.cell xk id
          clear gs
          go_wp2
          go_roundw
          case rel =>
            have h9 := HO4.out.set HKN.out u
            refine ⟨k + 1, by omega, by go_num, ?_, (hkr.then hk4).setCell (p := ⟨g, k, none⟩) (.inr (by rw [HG.out]; exact Nat.le_refl _)) _⟩
            obtain ⟨t, ht⟩ : ∃ t, rl - k = t + 1 := ⟨rl - k - 1, by have := HKN.out; omega⟩
            have hset := set_fill (doL kind xs ys step k) t u
            rw [doL_length, ← HLK.out, ← ht, show t = rl - (k + 1) by omega] at hset
            have h10 := h9.retag hset.symm
            first | exact h10 | (rw [HU.out]; exact h10)
          case measure => simp [intOf]; omega
      · obtain rfl : k = rl := by omega
        clear ho
        go_wp2
        go_ret2
        refine ⟨_, rfl, HO.out.retag (by simp), hkr, fun b hb => ?_⟩
        have h9 := Option.some.inj hb; have h8 : g = b := h9; rw [HG.out, h8]; exact Nat.le_refl _
  · have hal' : al = rl := hal
    by_cases hz : al = 0
    · have hr0 : rl = 0 := by omega
      subst hz
      subst hr0
      go_enter Try.func20, Try.ntmps20
      go_wp2_with (first
        | (refine wpList_makeInts rfl (.tmp 45) (.tmp 45) 25 rfl 5 .u8 i0 1 Try.underlying25 HI.out.1 HI.out.2.1 HI.out.2.2.1 HI.out.2.2.2 .i64 .i64 _ _ 0 rfl rfl rfl rfl (by omega) (by simp [maxLen]) ?_; intro w1 ho1 hk1 hz1))
      have HO1 := Lib.hid ho1
      clear ho1
      obtain ⟨g, hg⟩ : ∃ g, w.heap.size = g := ⟨_, rfl⟩
      rw [hg] at HO1 hz1 ⊢
      have HG := Lib.hid hg
      clear hg
      go_loopw [13] (fun i wr => i = .int .i64 0 ∧ wr = w1) (fun i _ => 0)
      case atStart => exact ⟨rfl, rfl⟩
      case round =>
        obtain ⟨rfl, rfl⟩ := hrel
        go_wp2
        go_ret2
        refine ⟨_, rfl, HO1.out, hk1, fun b hb => ?_⟩
        have h9 := Option.some.inj hb; have h8 : g = b := h9; rw [HG.out, h8]; exact Nat.le_refl _
    have c5 : ((al : Int) != 0) = true := by simp; omega
    have c6 : ((al : Int) != (rl : Int)) = false := by simp; omega
    go_enter Try.func20, Try.ntmps20
    go_wp2_with (first
      | (refine wpList_makeInts rfl (.tmp 45) (.tmp 45) 25 rfl 5 .u8 i0 1 Try.underlying25 HI.out.1 HI.out.2.1 HI.out.2.2.1 HI.out.2.2.2 .i64 .i64 _ _ rl rfl rfl rfl rfl (by omega) (by simp [maxLen]; omega) ?_; intro w1 ho1 hk1 hz1))
    have HO1 := Lib.hid ho1
    clear ho1
    obtain ⟨g, hg⟩ : ∃ g, w.heap.size = g := ⟨_, rfl⟩
    rw [hg] at HO1 hz1 ⊢
    have HG := Lib.hid hg
    clear hg
    go_loopw [13] (fun i wr => ∃ k : Nat, k ≤ rl ∧ i = .int .i64 k ∧ Own .u8 5 wr (.slice (some ⟨g, 0, none⟩) rl rl) (doL kind xs ys step k ++ List.replicate (rl - k) 0) ∧ Kept (fun _ => False) w wr) (fun i _ => rl - (intOf i).toNat)
    case atStart => exact ⟨0, by omega, rfl, by simpa [doL] using HO1.out, hk1⟩
    case round =>
      obtain ⟨k, hk, rfl, ho, hkr⟩ := hrel
      have HO := Lib.hid ho
      by_cases hkn : k < rl
      · obtain ⟨-, -, hglt, hyc, hyf⟩ := ho.at
        obtain ⟨rb, roff, rfl, hrc⟩ := HS.out.2.resolve_left (by omega)
        have hrow : ∀ j, j < rl → wr.cell? ⟨rb, roff + j, none⟩ = some (.int .u8 (xs.getD j 0)) := fun j hj => hkr.cell (hrc j hj) id
        clear hrc
        obtain ⟨ab, aoff, rfl, hac⟩ := HA.out.2.resolve_left (by omega)
        have hahead : ∀ j, j < rl → wr.cell? ⟨ab, aoff + j, none⟩ = some (.int .u8 (ys.getD j 0)) := fun j hj => hkr.cell (hac j (by omega)) id
        clear hac
        by_cases hsi : step ≤ k
        · obtain ⟨j, hj⟩ : ∃ j, k - step = j := ⟨_, rfl⟩
          have hsub : (k : Int) - step = (j : Int) := by omega
          have gs : decide ((step : Int) ≤ (k : Int)) = true := decide_eq_true (by omega)
          have xj := hrow j (by omega)
          obtain ⟨a, hae⟩ : ∃ a, xs.getD j 0 = a := ⟨_, rfl⟩
          have ea : back xs step k = a := by unfold back; rw [if_pos hsi, hj, hae]
          have ha : Bt a := by rw [← hae]; exact getB hbx j
          rw [hae] at xj
          have gl : decide ((0 : Int) < (al : Int)) = true := decide_eq_true (by omega)
          have bk := hahead k (by omega)
          obtain ⟨b, hbe⟩ : ∃ b, ys.getD k 0 = b := ⟨_, rfl⟩
          have hb : Bt b := by rw [← hbe]; exact getB hby k
          rw [hbe] at bk
          have bj := hahead j (by omega)
          obtain ⟨c, hce⟩ : ∃ c, ys.getD j 0 = c := ⟨_, rfl⟩
          have hc : Bt c := by rw [← hce]; exact getB hby j
          have ec : back ys step k = c := by unfold back; rw [if_pos hsi, hj, hce]
          rw [hce] at bj
          clear hj
          have eg : gAt kind xs ys step k = guessI kind a b c := by unfold gAt; rw [ea, hbe, ec]
          have hgb := guess_byte (kind := kind) ha hb hc
          obtain ⟨q, hq⟩ : ∃ q, guessI kind a b c = q := ⟨_, rfl⟩
          have hcall := fun w => refGuess_any kind a b c w ha hb hc
          rw [hq] at eg hgb
          have HCALL := Lib.hid hcall
          have HQ := Lib.hid hq
          obtain ⟨x, hx⟩ : ∃ x, xs.getD k 0 = x := ⟨_, rfl⟩
          have hby0 := getB hbx k
          have hlk : doL kind xs ys step (k + 1) = doL kind xs ys step k ++ [(x - q) % 256] := by simp only [doL]; rw [hx, eg]
          have xk := hrow k (by omega)
          rw [hx] at xk hby0
          unfold Bt at hby0
          obtain ⟨u, hu⟩ : ∃ u, (x - q) % 256 = u := ⟨_, rfl⟩
          rw [hu] at hlk
          have HLK := Lib.hid hlk
          have HU := Lib.hid hu
          have HKN := Lib.hid hkn
          have s5 : (0 : Int) ≤ (k : Int) := by omega
          have s6 : (k : Int) < (rl : Int) := by omega
          clear hlk hu hx hq eg ea hbe ec hcall hrow hahead hyc hyf ho hae
          go_wp2_with fail
          refine (HCALL.out _).mono ?_
          rw [HQ.out]
          rintro e w4 ⟨rfl, hk4⟩
          have HO4 := Lib.hid (HO.out.kept hk4 (fun _ _ => id))
          have f4 := (HO4.out.at).2.2.2.2 k
          have o4 := (HO4.out.at).2.2.2.1 k HKN.out
          have xk := hk4.cell xk id
          clear xj bk bj
          go_wp2
          go_roundw
          case rel =>
            have h9 := HO4.out.set HKN.out u
            refine ⟨k + 1, by omega, by go_num, ?_, (hkr.then hk4).setCell (p := ⟨g, k, none⟩) (.inr (by rw [HG.out]; exact Nat.le_refl _)) _⟩
            obtain ⟨t, ht⟩ : ∃ t, rl - k = t + 1 := ⟨rl - k - 1, by have := HKN.out; omega⟩
            have hset := set_fill (doL kind xs ys step k) t u
            rw [doL_length, ← HLK.out, ← ht, show t = rl - (k + 1) by omega] at hset
            have h10 := h9.retag hset.symm
            first | exact h10 | (rw [HU.out]; exact h10)
          case measure => simp [intOf]; omega
        · have gs : decide ((step : Int) ≤ (k : Int)) = false := decide_eq_false (by omega)
          have ea : back xs step k = 0 := by unfold back; rw [if_neg hsi]
          have ha : Bt 0 := ⟨by omega, by omega⟩
          have gl : decide ((0 : Int) < (al : Int)) = true := decide_eq_true (by omega)
          have bk := hahead k (by omega)
          obtain ⟨b, hbe⟩ : ∃ b, ys.getD k 0 = b := ⟨_, rfl⟩
          have hb : Bt b := by rw [← hbe]; exact getB hby k
          rw [hbe] at bk
          have ec : back ys step k = 0 := by unfold back; rw [if_neg hsi]
          have hc : Bt 0 := ⟨by omega, by omega⟩
          have eg : gAt kind xs ys step k = guessI kind 0 b 0 := by unfold gAt; rw [ea, hbe, ec]
          have hgb := guess_byte (kind := kind) ha hb hc
          obtain ⟨q, hq⟩ : ∃ q, guessI kind 0 b 0 = q := ⟨_, rfl⟩
          have hcall := fun w => refGuess_any kind 0 b 0 w ha hb hc
          rw [hq] at eg hgb
          have HCALL := Lib.hid hcall
          have HQ := Lib.hid hq
          obtain ⟨x, hx⟩ : ∃ x, xs.getD k 0 = x := ⟨_, rfl⟩
          have hby0 := getB hbx k
          have hlk : doL kind xs ys step (k + 1) = doL kind xs ys step k ++ [(x - q) % 256] := by simp only [doL]; rw [hx, eg]
          have xk := hrow k (by omega)
          rw [hx] at xk hby0
          unfold Bt at hby0
          obtain ⟨u, hu⟩ : ∃ u, (x - q) % 256 = u := ⟨_, rfl⟩
          rw [hu] at hlk
          have HLK := Lib.hid hlk
          have HU := Lib.hid hu
          have HKN := Lib.hid hkn
          have s5 : (0 : Int) ≤ (k : Int) := by omega
          have s6 : (k : Int) < (rl : Int) := by omega
          clear hlk hu hx hq eg ea hbe ec hcall hrow hahead hyc hyf ho
          go_wp2_with fail
          refine (HCALL.out _).mono ?_
          rw [HQ.out]
          rintro e w4 ⟨rfl, hk4⟩
          have HO4 := Lib.hid (HO.out.kept hk4 (fun _ _ => id))
          have f4 := (HO4.out.at).2.2.2.2 k
          have o4 := (HO4.out.at).2.2.2.1 k HKN.out
          have xk := hk4.cell xk id
          clear gs bk
          go_wp2
          go_roundw
          case rel =>
            have h9 := HO4.out.set HKN.out u
            refine ⟨k + 1, by omega, by go_num, ?_, (hkr.then hk4).setCell (p := ⟨g, k, none⟩) (.inr (by rw [HG.out]; exact Nat.le_refl _)) _⟩
            obtain ⟨t, ht⟩ : ∃ t, rl - k = t + 1 := ⟨rl - k - 1, by have := HKN.out; omega⟩
            have hset := set_fill (doL kind xs ys step k) t u
            rw [doL_length, ← HLK.out, ← ht, show t = rl - (k + 1) by omega] at hset
            have h10 := h9.retag hset.symm
            first | exact h10 | (rw [HU.out]; exact h10)
          case measure => simp [intOf]; omega
      · obtain rfl : k = rl := by omega
        clear ho
        go_wp2
        go_ret2
        refine ⟨_, rfl, HO.out.retag (by simp), hkr, fun b hb => ?_⟩
        have h9 := Option.some.inj hb; have h8 : g = b := h9; rw [HG.out, h8]; exact Nat.le_refl _

end Go.Proofs.Ytgpgjpmgnbaneaa
