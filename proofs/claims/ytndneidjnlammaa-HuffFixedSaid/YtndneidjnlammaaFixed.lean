/- The fixed codes' lengths, on both sides. -/
import Derived.Test.YtndneidjnlammaaKnown
namespace Go.Proofs.Ytndneidjnlammaa
open Go.RowKit Pl
set_option linter.unusedVariables false
set_option linter.unusedSimpArgs false
attribute [local go_sem] growOp growUpon sameUpon
def fixF (i : Nat) : Nat := if i < 144 then 8 else if i < 256 then 9 else if i < 280 then 7 else 8
def upTo (n : Nat) (F : Nat → Nat) (i : Nat) : List Nat := (List.range n).map (fun j => if j < i then F j else 0)
theorem upTo_len (n : Nat) (F : Nat → Nat) (i : Nat) : (upTo n F i).length = n := by simp [upTo]
theorem upTo_set {n : Nat} {F : Nat → Nat} {i : Nat} (h : i < n) : (ints (upTo n F i)).set i ((F i : Nat) : Int) = ints (upTo n F (i + 1)) := by
  apply List.ext_getElem?
  intro j
  by_cases hj : j < n
  · rw [List.getElem?_set]
    by_cases h1 : i = j
    · subst h1
      rw [if_pos rfl, if_pos (by rw [ints_length, upTo_len]; exact hj)]
      simp [ints, upTo, hj]
    · rw [if_neg h1]
      simp only [ints, upTo, List.map_map, List.getElem?_map, List.getElem?_range hj, Option.map_some, Function.comp]
      by_cases h2 : j < i
      · rw [if_pos h2, if_pos (by omega)]
      · rw [if_neg h2, if_neg (by omega)]
  · rw [List.getElem?_eq_none (by rw [List.length_set, ints_length, upTo_len]; omega), List.getElem?_eq_none (by rw [ints_length, upTo_len]; omega)]
theorem upTo_zero (n : Nat) (F : Nat → Nat) : ints (upTo n F 0) = List.replicate n 0 := by
  apply List.ext_getElem?
  intro j
  by_cases hj : j < n
  · simp [ints, upTo, hj]
  · rw [List.getElem?_eq_none (by rw [ints_length, upTo_len]; omega), List.getElem?_eq_none (by rw [List.length_replicate]; omega)]
def fixL : List Nat := upTo 288 fixF 288
def fixD : List Nat := upTo 30 (fun _ => 5) 30
theorem own_two {k : IntKind} {e : TypeId} {w : World} {g n m c d : Nat} {xs ys : List Int} (h1 : Own k e w (.slice (some ⟨g, 0, none⟩) n c) xs) (h2 : Own k e w (.slice (some ⟨g, 0, none⟩) m d) ys) (hcd : c ≠ d) : False := by
  obtain ⟨-, h1⟩ := h1
  obtain ⟨-, h2⟩ := h2
  rcases h1 with ⟨h3, -⟩ | ⟨g1, cap1, cur1, h3, -, hg1, hn1, hcm1, hcs1, ht1⟩
  · cases h3
  · cases h3
    rcases h2 with ⟨h4, -⟩ | ⟨g2, cap2, cur2, h4, -, hg2, hn2, hcm2, hcs2, ht2⟩
    · cases h4
    · cases h4
      rw [hg1] at hg2
      cases hg2
      omega
def FixPost (W : World) (e : Ending) (w' : World) : Prop := ∃ m q, e = .returned (.tuple #[.slice (some ⟨m, 0, none⟩) 288 288, .slice (some ⟨q, 0, none⟩) 30 30]) ∧ Own .u8 5 w' (.slice (some ⟨m, 0, none⟩) 288 288) (ints fixL) ∧ Own .u8 5 w' (.slice (some ⟨q, 0, none⟩) 30 30) (ints fixD) ∧ Kept (fun _ => False) W w'
theorem make_row (n : Nat) (hn : n ≤ 1000) (W : World) : ∃ w', (Instr.makeSlice 22 (.int .i64 (n : Int)) (.int .i64 (n : Int))).run Try.prog W = .ok (.slice (some ⟨W.heap.size, 0, none⟩) n n) w' ∧ Own .u8 5 w' (.slice (some ⟨W.heap.size, 0, none⟩) n n) (List.replicate n 0) ∧ Kept (fun _ => False) W w' := by
  obtain ⟨i0, hi0, hz0, hz1, hz2⟩ := info_parts Try.infoByte
  obtain ⟨w3, hr, h1, h2⟩ := run_make_full (P := Try.prog) W 0 22 5 i0 (.int .u8 0) 1 Try.underlying22 hi0 hz0 hz1 .i64 .i64 n (by rw [hz2]; omega) (by simp [maxLen]; omega) (Nat.zero_le _)
  have e1 : (madeCells (Value.int .u8 0).cells (n * 1)).toList = (List.replicate n (0 : Int)).map (Value.int .u8) := by
    rw [Nat.mul_one, List.map_replicate]; exact toList_madeCells_one _ _
  rw [e1] at h1
  exact ⟨w3, hr, by unfold Own; rw [List.length_replicate]; exact h1, (Kept.refl _ _).grown h2 (fun k h => by cases h)⟩
set_option maxRecDepth 100000 in
set_option maxHeartbeats 8000000 in
theorem rfixed_any (W : World) : Calls Try.prog 25 #[] W fun e w' => FixPost W e w' := by
  obtain ⟨w1, hm0, ho0, hk0⟩ := make_row 288 (by omega) W
  have hm : (Instr.makeSlice 22 (.int .i64 288) (.int .i64 288)).run Try.prog W = .ok (.slice (some ⟨W.heap.size, 0, none⟩) 288 288) w1 := hm0
  obtain ⟨p, hp⟩ : ∃ p, W.heap.size = p := ⟨_, rfl⟩
  rw [hp] at hm ho0
  have HO := Lib.hid (And.intro ho0 (And.intro hk0 hp))
  clear ho0 hk0 hm0 hp
  go_enter Try.func25, Try.ntmps25
  go_wp2
  go_loopg [3] 289 (fun gg iv wr => ∃ i : Nat, 289 ≤ gg + i ∧ i ≤ 288 ∧ iv = .int .i64 (i : Int) ∧ Own .u8 5 wr (.slice (some ⟨p, 0, none⟩) 288 288) (ints (upTo 288 fixF i)) ∧ Kept (fun _ => False) W wr)
  case atStart => exact ⟨0, by omega, by omega, rfl, by rw [upTo_zero]; exact HO.out.1, HO.out.2.1⟩
  case round =>
    obtain ⟨i, hgg, hi, rfl, ho, hk⟩ := hrel
    by_cases hl : i < 288
    · have gi : decide ((i : Int) < 288) = true := decide_eq_true (by omega)
      have gi' : decide (i < 288) = true := decide_eq_true hl
      have l1 : (i : Int) < 288 := by omega
      have wi : IntKind.i64.wrap ((i : Int) + 1) = (i : Int) + 1 := IntWalk.i64_in _ (by omega)
      obtain ⟨y1, y2⟩ := own_cell ho i hl
      rw [show (ints (upTo 288 fixF i)).getD i 0 = 0 by simp [ints, upTo, hl]] at y1
      have hset := ho.set hl ((fixF i : Nat) : Int)
      rw [upTo_set hl] at hset
      have hks : Kept (fun _ => False) W (wr.setCell ⟨p, i, none⟩ (.int .u8 ((fixF i : Nat) : Int))) := hk.setCell (p := ⟨p, i, none⟩) (.inr (by rw [HO.out.2.2]; exact Nat.le_refl _)) _
      have HS := Lib.hid (And.intro hset hks)
      clear ho hk hset hks
      by_cases c1 : i < 144
      · have g1 : decide ((i : Int) < 144) = true := decide_eq_true (by omega)
        have g1' : decide (i < 144) = true := decide_eq_true c1
        have e : fixF i = 8 := by unfold fixF; rw [if_pos c1]
        rw [e] at HS
        go_wp2
        go_roundg (gk - 1)
        case rel => exact ⟨i + 1, by omega, by omega, by simp, HS.out.1, HS.out.2⟩
        case measure => omega
      have g1 : decide ((i : Int) < 144) = false := decide_eq_false (by omega)
      have g1' : decide (i < 144) = false := decide_eq_false c1
      by_cases c2 : i < 256
      · have g2 : decide ((i : Int) < 256) = true := decide_eq_true (by omega)
        have g2' : decide (i < 256) = true := decide_eq_true c2
        have e : fixF i = 9 := by unfold fixF; rw [if_neg c1, if_pos c2]
        rw [e] at HS
        go_wp2
        go_roundg (gk - 1)
        case rel => exact ⟨i + 1, by omega, by omega, by simp, HS.out.1, HS.out.2⟩
        case measure => omega
      have g2 : decide ((i : Int) < 256) = false := decide_eq_false (by omega)
      have g2' : decide (i < 256) = false := decide_eq_false c2
      by_cases c3 : i < 280
      · have g3 : decide ((i : Int) < 280) = true := decide_eq_true (by omega)
        have g3' : decide (i < 280) = true := decide_eq_true c3
        have e : fixF i = 7 := by unfold fixF; rw [if_neg c1, if_neg c2, if_pos c3]
        rw [e] at HS
        go_wp2
        go_roundg (gk - 1)
        case rel => exact ⟨i + 1, by omega, by omega, by simp, HS.out.1, HS.out.2⟩
        case measure => omega
      have g3 : decide ((i : Int) < 280) = false := decide_eq_false (by omega)
      have g3' : decide (i < 280) = false := decide_eq_false c3
      have e : fixF i = 8 := by unfold fixF; rw [if_neg c1, if_neg c2, if_neg c3]
      rw [e] at HS
      go_wp2
      go_roundg (gk - 1)
      case rel => exact ⟨i + 1, by omega, by omega, by simp, HS.out.1, HS.out.2⟩
      case measure => omega
    · obtain rfl : i = 288 := by omega
      obtain ⟨w2, hm0, ho2, hk2⟩ := make_row 30 (by omega) wr
      have hm2 : (Instr.makeSlice 22 (.int .i64 30) (.int .i64 30)).run Try.prog wr = .ok (.slice (some ⟨wr.heap.size, 0, none⟩) 30 30) w2 := hm0
      obtain ⟨q, hq⟩ : ∃ q, wr.heap.size = q := ⟨_, rfl⟩
      have hpq := ho.lt p rfl
      rw [hq] at hm2 ho2 hpq
      have H2 := Lib.hid (And.intro ho2 (And.intro (ho.kept hk2 (fun _ _ => id)) (And.intro (hk.then hk2) (And.intro hpq (show W.heap.size ≤ q by rw [← hq]; exact hk.size)))))
      clear ho2 hk2 hm0 hq ho hk hpq
      go_wp2
      go_loopg [5] 31 (fun gg iv wr => ∃ i : Nat, 31 ≤ gg + i ∧ i ≤ 30 ∧ iv = .int .i64 (i : Int) ∧ Own .u8 5 wr (.slice (some ⟨q, 0, none⟩) 30 30) (ints (upTo 30 (fun _ => 5) i)) ∧ Own .u8 5 wr (.slice (some ⟨p, 0, none⟩) 288 288) (ints fixL) ∧ Kept (fun _ => False) W wr)
      case atStart => exact ⟨0, by omega, by omega, rfl, by rw [upTo_zero]; exact H2.out.1, H2.out.2.1, H2.out.2.2.1⟩
      case round =>
        obtain ⟨i, hgg2, hi2, rfl, ho, hop, hk⟩ := hrel
        by_cases hl2 : i < 30
        · have gi : decide ((i : Int) < 30) = true := decide_eq_true (by omega)
          have gi' : decide (i < 30) = true := decide_eq_true hl2
          have l1 : (i : Int) < 30 := by omega
          have wi : IntKind.i64.wrap ((i : Int) + 1) = (i : Int) + 1 := IntWalk.i64_in _ (by omega)
          obtain ⟨y1, y2⟩ := own_cell ho i hl2
          rw [show (ints (upTo 30 (fun _ => 5) i)).getD i 0 = 0 by simp [ints, upTo, hl2]] at y1
          have hset := ho.set hl2 ((5 : Nat) : Int)
          rw [upTo_set (F := fun _ => 5) hl2] at hset
          have hkq : Kept (fun j => j = q) wr (wr.setCell ⟨q, i, none⟩ (.int .u8 ((5 : Nat) : Int))) := (Kept.refl (fun j => j = q) wr).setCell (p := ⟨q, i, none⟩) (.inl rfl) _
          have hop2 := hop.kept hkq (fun b hb (h : b = q) => by have : some p = some b := hb; cases this; have := H2.out.2.2.2.1; omega)
          have hks : Kept (fun _ => False) W (wr.setCell ⟨q, i, none⟩ (.int .u8 ((5 : Nat) : Int))) := hk.setCell (p := ⟨q, i, none⟩) (.inr H2.out.2.2.2.2) _
          have HS := Lib.hid (And.intro hset (And.intro hop2 hks))
          clear ho hk hset hks hop hop2 hkq
          go_wp2
          go_roundg (gk - 1)
          case rel => exact ⟨i + 1, by omega, by omega, by simp, HS.out.1, HS.out.2.1, HS.out.2.2⟩
          case measure => omega
        · obtain rfl : i = 30 := by omega
          have HF := Lib.hid (And.intro ho (And.intro hop hk))
          clear ho hop hk
          go_wp2
          exact bodyPost_ret (v := .tuple #[.slice (some ⟨p, 0, none⟩) 288 288, .slice (some ⟨q, 0, none⟩) 30 30]) (by simp [results, Try.results25, go_sem]) rfl ⟨p, q, rfl, HF.out.2.1, HF.out.1, HF.out.2.2⟩
set_option maxRecDepth 100000 in
set_option maxHeartbeats 8000000 in
theorem fixed_any (W : World) : Calls Try.prog 24 #[] W fun e w' => FixPost W e w' := by
  obtain ⟨WR, hWR⟩ : ∃ WR, WR = W.drew := ⟨_, rfl⟩
  have hkR : Kept (fun _ => False) W WR := by rw [hWR]; exact (Kept.refl _ _).drew
  obtain ⟨RA, hRA⟩ : ∃ R : Value → World → Prop, R = fun v w' => ∃ p, v = .slice (some ⟨p, 0, none⟩) 288 288 ∧ Own .u8 5 w' (.slice (some ⟨p, 0, none⟩) 288 288) (List.replicate 288 0) ∧ W.heap.size ≤ p := ⟨_, rfl⟩
  obtain ⟨RB, hRB⟩ : ∃ R : Value → World → Prop, R = fun v w' => ∃ p, v = .slice (some ⟨p, 0, none⟩) 30 30 ∧ Own .u8 5 w' (.slice (some ⟨p, 0, none⟩) 30 30) (List.replicate 30 0) ∧ W.heap.size ≤ p := ⟨_, rfl⟩
  have HRA := Lib.hid hRA
  have HRB := Lib.hid hRB
  have HWR := Lib.hid hWR
  have HKR := Lib.hid hkR
  clear hWR hkR hRA hRB
  go_enter Try.func24, Try.ntmps24
  go_wp2
  refine wp_region_grow #[0, 0, 1, 7] 4 [] (fun i => if i = 0 then some RA else if i = 1 then some RB else none) (by kernel_rfl) rfl (by kernel_rfl) (fun i hi => by cases hi) (fun _ _ _ _ _ h => h) ?_
  rintro _ rfl
  rw [← HWR.out]
  simp only [List.take_succ_cons, List.take_zero, List.drop_succ_cons, List.drop_zero, number, Nat.reduceAdd]
  refine wpGrow_step (fun K hK => ?_)
  refine growOp_told rfl rfl (fun w' hg => ?_) (fun v wv0 hv _ => ?_)
  · obtain ⟨w3, hr, h1, h2⟩ := make_row 288 (by omega) w'
    refine upon_make (.const (.int .i64 288)) (.const (.int .i64 288)) 22 rfl rfl rfl hr h2 ?_
    rw [HRA.out]
    exact ⟨_, rfl, h1, (HKR.out.then hg.old).size⟩
  rw [HRA.out] at hv
  obtain ⟨p, rfl, hvp⟩ := hv
  have HVP := Lib.hid hvp
  clear hvp
  go_simp
  refine hK _ _ ?_; clear hK K
  refine wpGrow_step (fun K hK => ?_)
  refine growOp_told rfl rfl (fun w' hg => ?_) (fun v wv1 hv _ => ?_)
  · obtain ⟨w3, hr, h1, h2⟩ := make_row 30 (by omega) w'
    refine upon_make (.const (.int .i64 30)) (.const (.int .i64 30)) 22 rfl rfl rfl hr h2 ?_
    rw [HRB.out]
    exact ⟨_, rfl, h1, (HKR.out.then hg.old).size⟩
  rw [HRB.out] at hv
  obtain ⟨q, rfl, hvq⟩ := hv
  have HVQ := Lib.hid hvq
  clear hvq
  go_simp
  refine hK _ _ ?_; clear hK K
  refine wpGrow_step (fun K hK => ?_); go_simp; refine hK _ _ ?_; clear hK K
  refine wpGrow_step (fun K hK => ?_); go_simp; refine hK _ _ ?_; clear hK K
  refine wpGrow_nil ?_
  intro w9 hk9 hω
  have hk0 : Kept (fun _ => False) wv0 w9 := hω 0
  have hk1 : Kept (fun _ => False) wv1 w9 := hω 1
  have HO : RowKit.Hid (Own .u8 5 w9 (.slice (some ⟨p, 0, none⟩) 288 288) (List.replicate 288 0) ∧ Own .u8 5 w9 (.slice (some ⟨q, 0, none⟩) 30 30) (List.replicate 30 0) ∧ Kept (fun _ => False) W w9 ∧ p ≠ q ∧ W.heap.size ≤ p ∧ W.heap.size ≤ q) := Lib.hid (by
    have o1 := HVP.out.1.kept hk0 (fun _ _ => id)
    have o2 := HVQ.out.1.kept hk1 (fun _ _ => id)
    refine ⟨o1, o2, HKR.out.then hk9, fun h => ?_, HVP.out.2, HVQ.out.2⟩
    subst h
    exact own_two o1 o2 (by omega))
  clear hk0 hk1 hω hk9
  go_wp2
  go_loopg [4, 10] 289 (fun gg _ iv wr => ∃ i : Nat, 289 ≤ gg + i ∧ i ≤ 288 ∧ iv = .int .i64 (i : Int) ∧ Own .u8 5 wr (.slice (some ⟨p, 0, none⟩) 288 288) (ints (upTo 288 fixF i)) ∧ Own .u8 5 wr (.slice (some ⟨q, 0, none⟩) 30 30) (List.replicate 30 0) ∧ Kept (fun _ => False) W wr)
  case atStart => exact ⟨0, by omega, by omega, rfl, by rw [upTo_zero]; exact HO.out.1, HO.out.2.1, HO.out.2.2.1⟩
  case round =>
    obtain ⟨i, hgg, hi, rfl, ho, hoq, hk⟩ := hrel
    by_cases hl : i < 288
    · have gi : decide ((i : Int) < 288) = true := decide_eq_true (by omega)
      have gi' : decide (i < 288) = true := decide_eq_true hl
      have l1 : (i : Int) < 288 := by omega
      have wi : IntKind.i64.wrap ((i : Int) + 1) = (i : Int) + 1 := IntWalk.i64_in _ (by omega)
      obtain ⟨y1, y2⟩ := own_cell ho i hl
      rw [show (ints (upTo 288 fixF i)).getD i 0 = 0 by simp [ints, upTo, hl]] at y1
      have hset := ho.set hl ((fixF i : Nat) : Int)
      rw [upTo_set hl] at hset
      have hks : Kept (fun _ => False) W (wr.setCell ⟨p, i, none⟩ (.int .u8 ((fixF i : Nat) : Int))) := hk.setCell (p := ⟨p, i, none⟩) (.inr (by exact HO.out.2.2.2.2.1)) _
      have hkp : Kept (fun j => j = p) wr (wr.setCell ⟨p, i, none⟩ (.int .u8 ((fixF i : Nat) : Int))) := (Kept.refl (fun j => j = p) wr).setCell (p := ⟨p, i, none⟩) (.inl rfl) _
      have hoq2 := hoq.kept hkp (fun b hb (h : b = p) => by have : some q = some b := hb; cases this; have := HO.out.2.2.2.1; omega)
      have HS := Lib.hid (And.intro hset (And.intro hoq2 hks))
      clear ho hk hset hks hoq hoq2 hkp
      by_cases c1 : i < 144
      · have g1 : decide ((i : Int) < 144) = true := decide_eq_true (by omega)
        have g1' : decide (i < 144) = true := decide_eq_true c1
        have e : fixF i = 8 := by unfold fixF; rw [if_pos c1]
        rw [e] at HS
        go_wp2
        go_roundg (gk - 1)
        case rel => exact ⟨i + 1, by omega, by omega, by simp, HS.out.1, HS.out.2.1, HS.out.2.2⟩
        case measure => omega
      have g1 : decide ((i : Int) < 144) = false := decide_eq_false (by omega)
      have g1' : decide (i < 144) = false := decide_eq_false c1
      by_cases c2 : i < 256
      · have g2 : decide ((i : Int) < 256) = true := decide_eq_true (by omega)
        have g2' : decide (i < 256) = true := decide_eq_true c2
        have e : fixF i = 9 := by unfold fixF; rw [if_neg c1, if_pos c2]
        rw [e] at HS
        go_wp2
        go_roundg (gk - 1)
        case rel => exact ⟨i + 1, by omega, by omega, by simp, HS.out.1, HS.out.2.1, HS.out.2.2⟩
        case measure => omega
      have g2 : decide ((i : Int) < 256) = false := decide_eq_false (by omega)
      have g2' : decide (i < 256) = false := decide_eq_false c2
      by_cases c3 : i < 280
      · have g3 : decide ((i : Int) < 280) = true := decide_eq_true (by omega)
        have g3' : decide (i < 280) = true := decide_eq_true c3
        have e : fixF i = 7 := by unfold fixF; rw [if_neg c1, if_neg c2, if_pos c3]
        rw [e] at HS
        go_wp2
        go_roundg (gk - 1)
        case rel => exact ⟨i + 1, by omega, by omega, by simp, HS.out.1, HS.out.2.1, HS.out.2.2⟩
        case measure => omega
      have g3 : decide ((i : Int) < 280) = false := decide_eq_false (by omega)
      have g3' : decide (i < 280) = false := decide_eq_false c3
      have e : fixF i = 8 := by unfold fixF; rw [if_neg c1, if_neg c2, if_neg c3]
      rw [e] at HS
      go_wp2
      go_roundg (gk - 1)
      case rel => exact ⟨i + 1, by omega, by omega, by simp, HS.out.1, HS.out.2.1, HS.out.2.2⟩
      case measure => omega
    · obtain rfl : i = 288 := by omega
      have H2 := Lib.hid (And.intro ho (And.intro hk hoq))
      clear ho hk hoq
      go_wp2
      go_loopg [5, 37] 31 (fun gg _ iv wr => ∃ i : Nat, 31 ≤ gg + i ∧ i ≤ 30 ∧ iv = .int .i64 (i : Int) ∧ Own .u8 5 wr (.slice (some ⟨q, 0, none⟩) 30 30) (ints (upTo 30 (fun _ => 5) i)) ∧ Own .u8 5 wr (.slice (some ⟨p, 0, none⟩) 288 288) (ints fixL) ∧ Kept (fun _ => False) W wr)
      case atStart => exact ⟨0, by omega, by omega, rfl, by rw [upTo_zero]; exact H2.out.2.2, H2.out.1, H2.out.2.1⟩
      case round =>
        obtain ⟨i, hgg2, hi2, rfl, ho, hop, hk⟩ := hrel
        by_cases hl2 : i < 30
        · have gi : decide ((i : Int) < 30) = true := decide_eq_true (by omega)
          have gi' : decide (i < 30) = true := decide_eq_true hl2
          have l1 : (i : Int) < 30 := by omega
          have wi : IntKind.i64.wrap ((i : Int) + 1) = (i : Int) + 1 := IntWalk.i64_in _ (by omega)
          obtain ⟨y1, y2⟩ := own_cell ho i hl2
          rw [show (ints (upTo 30 (fun _ => 5) i)).getD i 0 = 0 by simp [ints, upTo, hl2]] at y1
          have hset := ho.set hl2 ((5 : Nat) : Int)
          rw [upTo_set (F := fun _ => 5) hl2] at hset
          have hkq : Kept (fun j => j = q) wr (wr.setCell ⟨q, i, none⟩ (.int .u8 ((5 : Nat) : Int))) := (Kept.refl (fun j => j = q) wr).setCell (p := ⟨q, i, none⟩) (.inl rfl) _
          have hop2 := hop.kept hkq (fun b hb (h : b = q) => by have : some p = some b := hb; cases this; have := HO.out.2.2.2.1; omega)
          have hks : Kept (fun _ => False) W (wr.setCell ⟨q, i, none⟩ (.int .u8 ((5 : Nat) : Int))) := hk.setCell (p := ⟨q, i, none⟩) (.inr HO.out.2.2.2.2.2) _
          have HS := Lib.hid (And.intro hset (And.intro hop2 hks))
          clear ho hk hset hks hop hop2 hkq
          go_wp2
          go_roundg (gk - 1)
          case rel => exact ⟨i + 1, by omega, by omega, by simp, HS.out.1, HS.out.2.1, HS.out.2.2⟩
          case measure => omega
        · obtain rfl : i = 30 := by omega
          have HF := Lib.hid (And.intro ho (And.intro hop hk))
          clear ho hop hk
          go_wp2
          exact bodyPost_ret (v := .tuple #[.slice (some ⟨p, 0, none⟩) 288 288, .slice (some ⟨q, 0, none⟩) 30 30]) (by simp [results, Try.results24, go_sem]) rfl ⟨p, q, rfl, HF.out.2.1, HF.out.1, HF.out.2.2⟩
end Go.Proofs.Ytndneidjnlammaa
