/- The law ParseParams. -/
import Derived.Test.YtnaoobgghgnflaaParP
import Derived.Test.YtnaoobgghgnflaaKnown
import Derived.Test.YtnaoobgghgnflaaLEnds
import Derived.Deep.DeepCutAuto
import Derived.Lib.SlBytesConst
namespace Go.Proofs.Ytnaoobgghgnflaa
open Go.RowKit Pl
set_option linter.unusedVariables false
set_option linter.unusedSimpArgs false
theorem sl_atG {k : IntKind} {w : World} {b off n : Nat} {xs : List Int} (h : SlAt k w (some ⟨b, off, none⟩) n xs) {j : Nat} {c : Int} (hc : xs[j]? = some c) : w.cell? ⟨b, off + j, none⟩ = some (.int k c) := by
  obtain ⟨h1, h2⟩ := h
  have hk : j < xs.length := (List.getElem?_eq_some_iff.1 hc).1
  obtain ⟨b', off', he, hcell⟩ := h2.resolve_left (by omega)
  cases he
  rw [hcell j (by omega), List.getD_eq_getElem?_getD, hc]
  rfl
theorem decimal0 (w : World) : Calls Try.prog 11 #[.int .i64 0] w fun e w' => e = .returned (.string (nstr (digs 0))) ∧ Kept (fun _ => False) w w' := decimal_any 0 (by omega) w
def bB (xs : List Int) (k : Nat) : List Int := [27, 91] ++ ints (pb ((xs.take k).map nv))
theorem bB_0 (xs : List Int) : bB xs 0 = [27, 91] := by simp [bB, pb, ints]
theorem bB_succ {xs : List Int} {k : Nat} {x : Int} (h : xs[k]? = some x) (n : Nat) (hn : nv x = n) : bB xs (k + 1) = (if k = 0 then bB xs k else bB xs k ++ [59]) ++ ints (digs n) := by
  have hk : k < xs.length := (List.getElem?_eq_some_iff.1 h).1
  unfold bB
  rw [List.take_add_one, h]
  simp only [Option.toList_some, List.map_append, List.map_cons, List.map_nil, hn]
  rw [pb_snoc]
  by_cases h0 : k = 0
  · subst h0; simp [pb, ints]
  · rw [if_neg h0, if_neg (show ¬ ((xs.take k).map nv).length = 0 by rw [List.length_map, List.length_take]; omega)]; simp [ints]
theorem bB_len (xs : List Int) (k : Nat) (h : k ≤ 60) : (bB xs k).length ≤ 662 := by
  have h1 := pb_len ((xs.take k).map nv) (by intro n hn; obtain ⟨x, -, rfl⟩ := List.mem_map.1 hn; exact nv_le x)
  have h2 : (xs.take k).length ≤ k := List.length_take_le k xs
  unfold bB
  simp [ints] at h1 ⊢
  omega
set_option maxRecDepth 100000 in
set_option maxHeartbeats 16000000 in
theorem params_go (a0 : Option Addr) (len0 cap0 : Nat) (xs : List Int) (c : Int) (hc : 0 ≤ c ∧ c < 256) (W : World) (hs0 : SlAt .i64 W a0 len0 xs) :
    Calls Try.prog 4 #[.slice a0 len0 cap0, .int .u8 c] W fun e w' => e = .returned (.bool true) ∧ Below W.heap.size W w' := by
  have hxl := hs0.1
  have kc := fun (w : World) (C : Array Value) (n c : Nat) => Lib.run_convert_bytes_const (P := Try.prog) w 22 5 C n c Try.underlying22 Try.underlying5
  have m0 : (c : Int).tmod 63 = c % 63 := by rw [Int.tmod_eq_emod_of_nonneg hc.1]
  have m1 : IntKind.u8.wrap (64 + c % 63) = 64 + c % 63 := IntWalk.u8_in _ (by omega)
  obtain ⟨F, hF⟩ : ∃ F, 64 + c % 63 = F := ⟨_, rfl⟩
  have hF2 : 64 ≤ F ∧ F ≤ 126 := by omega
  obtain ⟨r63, hr63⟩ : ∃ r, c % 63 = r := ⟨_, rfl⟩
  rw [hr63] at m0 m1 hF
  rw [hF] at m1
  have m2 : (64 + r63) % 256 = F := by omega
  have HF0 := Lib.hid hF2
  have HS := Lib.hid (And.intro hs0 hxl)
  clear hF hF2 hr63 hc hs0 hxl
  go_enter Try.func4, Try.ntmps4
  go_wp2_with fail
  refine (known_any W).mono ?_
  rintro e w1 ⟨rfl, hk1⟩
  by_cases c1 : 60 < len0
  · have g1 : decide ((60 : Int) < (len0 : Int)) = true := decide_eq_true (by omega)
    have g1' : decide (60 < len0) = true := decide_eq_true c1
    have HK1 := Lib.hid hk1
    clear hk1
    go_wp2
    exact bodyPost_ret (v := .bool true) (by simp [results, Try.results4, go_sem]) rfl ⟨rfl, HK1.out.below⟩
  have g1 : decide ((60 : Int) < (len0 : Int)) = false := decide_eq_false (by omega)
  have g1' : decide (60 < len0) = false := decide_eq_false c1
  have h60 : len0 ≤ 60 := by omega
  obtain ⟨W2, hW2⟩ : ∃ W2, w1.alloc (.cells #[.int .u8 27, .int .u8 91] 5 (2, 3)) = W2 := ⟨_, rfl⟩
  have hk2 : Kept (fun _ => False) w1 W2 := by rw [← hW2]; exact (Kept.refl _ _).alloc _
  have hb2 : W2.heap[w1.heap.size]? = some (.cells #[.int .u8 27, .int .u8 91] 5 (2, 3)) := by rw [← hW2]; exact blk_new w1 _
  have ho2 : OX W2 (.slice (some ⟨w1.heap.size, 0, none⟩) 2 2) [27, 91] := .inr ⟨w1.heap.size, 2, _, (2, 3), rfl, hb2, (fun i hi h => by simp at hi; simp only at h; omega), by simp, by simp [maxLen], by rfl, by rfl⟩
  have hz1 := hk1.size
  have H2 := Lib.hid (And.intro ho2 (And.intro (hk1.then hk2) hz1))
  obtain ⟨i0, hi, hz, hsz, hby⟩ := info_parts Try.infoByte
  have HI := Lib.hid (And.intro hi (And.intro hz (And.intro hsz hby)))
  have h63 : (9223372036854775807 : Nat) = maxLen := rfl
  clear hi hz hsz hby hk1 hk2 hb2 ho2 hz1 c1
  go_wp2
  try rw [hW2]
  try simp only [m2]
  clear hW2 kc
  go_loopg [5, 6, 7] len0 (fun gg b0 kv n0 wr => ∃ (k : Nat) (bv nv0 : Value), bv = b0 ∧ nv0 = n0 ∧ len0 ≤ gg + k ∧ k ≤ len0 ∧ kv = .int .i64 (k : Int) ∧ OX wr bv (bB xs k) ∧ bv.ownBlock ≠ none ∧ (∀ b, bv.ownBlock = some b → W.heap.size ≤ b) ∧ Kept (fun _ => False) W wr)
  case atStart => exact ⟨0, _, _, rfl, rfl, by omega, by omega, rfl, by rw [bB_0]; exact H2.out.1, (by simp [Value.ownBlock]), (fun b h => by cases h; exact H2.out.2.2), H2.out.2.1⟩
  case round =>
    obtain ⟨k, bv, nv0, rfl, rfl, hgg, hkn, rfl, hob, hnn, hbw, hk⟩ := hrel
    have HG := Lib.hid (And.intro hob (And.intro hnn (And.intro hbw hk)))
    by_cases hk1 : k < len0
    · have g3 : decide (k < len0) = true := decide_eq_true hk1
      have g3' : decide ((k : Int) < (len0 : Int)) = true := decide_eq_true (by omega)
      have wk : IntKind.i64.wrap ((k : Int) + 1) = (k : Int) + 1 := IntWalk.i64_in _ (by omega)
      have hky : k < xs.length := by rw [HS.out.2]; exact hk1
      obtain ⟨x, hx⟩ : ∃ c, xs[k]? = some c := ⟨_, List.getElem?_eq_getElem hky⟩
      obtain ⟨b, off, rfl, -⟩ := HS.out.1.2.resolve_left (by omega)
      have hcx := sl_atG (HS.out.1.kept hk (fun _ _ _ _ => id)) hx
      have HX := Lib.hid hx
      have HKN := Lib.hid (bB_len xs k (by omega))
      clear hky hx hob hnn hbw hk
      by_cases c2 : x < 0
      · skip
        have t2 : decide (x < 0) = true := decide_eq_true c2
        by_cases c0 : k = 0
        · skip
          have HV := Lib.hid (show nv x = 0 from by unfold nv; rw [if_pos (.inl c2)])
          have HD := Lib.hid (fun w => decimal0 w)
          have HDL := Lib.hid (digs_len 0 (by omega))
          have gk0 : decide ((0 : Int) < (k : Int)) = false := decide_eq_false (by omega)
          have gk0' : decide (0 < k) = false := decide_eq_false (by omega)
          have HC0 := Lib.hid c0
          clear c0
          go_wp2_with fail
          refine (HD.out _).mono ?_
          rintro r5 w5 ⟨rfl, hk5⟩
          have H5 := Lib.hid (And.intro (HG.out.1.kept hk5 (fun _ _ => id)) (And.intro HG.out.2.1 (And.intro (HG.out.2.2.2.then hk5) HG.out.2.2.1)))
          clear hk5
          go_wp2_with (first
            | (at_builtin; refine wpList_addS rfl _ _ rfl i0 HI.out.1 HI.out.2.1 HI.out.2.2.1 HI.out.2.2.2 bv _ rfl H5.out.1 H5.out.2.1 _ (ints (digs 0)) (strCells_nstr _ (digs_256 0)) rfl (by have := HKN.out; have := HDL.out; simp [ints]; omega) ?_; intro v6 w6 ho6 hk6 hpr6 hn6; have H6 := Lib.hid (And.intro ho6 (And.intro hk6 (And.intro hpr6 hn6))); clear ho6 hk6 hpr6 hn6))
          go_roundg (gk - 1)
          case rel =>
            obtain ⟨ho6, hk6, hpr6, hn6⟩ := H6.out
            have hzz := H5.out.2.2.1.size
            refine ⟨k + 1, v6, _, rfl, rfl, by omega, by omega, by simp, by rw [bB_succ HX.out 0 HV.out, if_pos HC0.out]; exact ho6, hn6, fun b hb => ?_, H5.out.2.2.1.trans (hk6.mono fun i _ h => Or.inr (H5.out.2.2.2 i h))⟩
            rcases hpr6 with h | h
            · exact H5.out.2.2.2 b (by rw [← h]; exact hb)
            · rw [hb] at h; cases h; exact hzz
          case measure => omega
        · skip
          have HV := Lib.hid (show nv x = 0 from by unfold nv; rw [if_pos (.inl c2)])
          have HD := Lib.hid (fun w => decimal0 w)
          have HDL := Lib.hid (digs_len 0 (by omega))
          have gk0 : decide ((0 : Int) < (k : Int)) = true := decide_eq_true (by omega)
          have gk0' : decide (0 < k) = true := decide_eq_true (by omega)
          have HC0 := Lib.hid c0
          clear c0
          obtain ⟨W3, hW3⟩ : ∃ W3, wr.alloc (.cells #[.int .u8 59] 5) = W3 := ⟨_, rfl⟩
          have hk3 : Kept (fun _ => False) wr W3 := by rw [← hW3]; exact (Kept.refl _ _).alloc _
          have hs3 : SlAt .u8 W3 (some ⟨wr.heap.size, 0, none⟩) 1 [59] := by rw [← hW3]; exact slAt_one wr 59 5
          have H3 := Lib.hid (And.intro (HG.out.1.kept hk3 (fun _ _ => id)) (And.intro hs3 (HG.out.2.2.2.then hk3)))
          clear hk3 hs3
          go_wp2_with (first
            | (at_builtin; refine wpList_addX rfl _ _ rfl i0 HI.out.1 HI.out.2.1 HI.out.2.2.1 HI.out.2.2.2 bv _ rfl H3.out.1 (some ⟨wr.heap.size, 0, none⟩) 1 1 [59] rfl (fun h => by cases h) H3.out.2.1 (fun q hq => by cases hq; exact ⟨_, _, rfl⟩) (by have := HKN.out; omega) ?_; intro v4 w4 ho4 hk4 hpr4 hn4; have H4 := Lib.hid (And.intro ho4 (And.intro hk4 (And.intro hpr4 (hn4 HG.out.2.1)))); clear ho4 hk4 hpr4 hn4))
          refine (HD.out _).mono ?_
          rintro r5 w5 ⟨rfl, hk5⟩
          have q4 : ∀ b, v4.ownBlock = some b → W.heap.size ≤ b := fun b hb => by
            have hz := H3.out.2.2.size
            rcases H4.out.2.2.1 with h | h
            · exact HG.out.2.2.1 b (by rw [← h]; exact hb)
            · rw [hb] at h; cases h; exact hz
          have H5 := Lib.hid (And.intro (H4.out.1.kept hk5 (fun _ _ => id)) (And.intro H4.out.2.2.2 (And.intro ((H3.out.2.2.trans (H4.out.2.1.mono fun i _ h => .inr (HG.out.2.2.1 i h))).then hk5) q4)))
          clear hk5 q4 hW3
          go_wp2_with (first
            | (at_builtin; refine wpList_addS rfl _ _ rfl i0 HI.out.1 HI.out.2.1 HI.out.2.2.1 HI.out.2.2.2 v4 _ rfl H5.out.1 H5.out.2.1 _ (ints (digs 0)) (strCells_nstr _ (digs_256 0)) rfl (by have := HKN.out; have := HDL.out; simp [ints]; omega) ?_; intro v6 w6 ho6 hk6 hpr6 hn6; have H6 := Lib.hid (And.intro ho6 (And.intro hk6 (And.intro hpr6 hn6))); clear ho6 hk6 hpr6 hn6))
          go_roundg (gk - 1)
          case rel =>
            obtain ⟨ho6, hk6, hpr6, hn6⟩ := H6.out
            have hzz := H5.out.2.2.1.size
            refine ⟨k + 1, v6, _, rfl, rfl, by omega, by omega, by simp, by rw [bB_succ HX.out 0 HV.out, if_neg HC0.out]; exact ho6, hn6, fun b hb => ?_, H5.out.2.2.1.trans (hk6.mono fun i _ h => Or.inr (H5.out.2.2.2 i h))⟩
            rcases hpr6 with h | h
            · exact H5.out.2.2.2 b (by rw [← h]; exact hb)
            · rw [hb] at h; cases h; exact hzz
          case measure => omega
      · skip
        have t2 : decide (x < 0) = false := decide_eq_false c2
        by_cases c3 : 1073741824 < x
        · skip
          have t3 : decide (1073741824 < x) = true := decide_eq_true c3
          by_cases c0 : k = 0
          · skip
            have HV := Lib.hid (show nv x = 0 from by unfold nv; rw [if_pos (.inr c3)])
            have HD := Lib.hid (fun w => decimal0 w)
            have HDL := Lib.hid (digs_len 0 (by omega))
            have gk0 : decide ((0 : Int) < (k : Int)) = false := decide_eq_false (by omega)
            have gk0' : decide (0 < k) = false := decide_eq_false (by omega)
            have HC0 := Lib.hid c0
            clear c0
            go_wp2_with fail
            refine (HD.out _).mono ?_
            rintro r5 w5 ⟨rfl, hk5⟩
            have H5 := Lib.hid (And.intro (HG.out.1.kept hk5 (fun _ _ => id)) (And.intro HG.out.2.1 (And.intro (HG.out.2.2.2.then hk5) HG.out.2.2.1)))
            clear hk5
            go_wp2_with (first
              | (at_builtin; refine wpList_addS rfl _ _ rfl i0 HI.out.1 HI.out.2.1 HI.out.2.2.1 HI.out.2.2.2 bv _ rfl H5.out.1 H5.out.2.1 _ (ints (digs 0)) (strCells_nstr _ (digs_256 0)) rfl (by have := HKN.out; have := HDL.out; simp [ints]; omega) ?_; intro v6 w6 ho6 hk6 hpr6 hn6; have H6 := Lib.hid (And.intro ho6 (And.intro hk6 (And.intro hpr6 hn6))); clear ho6 hk6 hpr6 hn6))
            go_roundg (gk - 1)
            case rel =>
              obtain ⟨ho6, hk6, hpr6, hn6⟩ := H6.out
              have hzz := H5.out.2.2.1.size
              refine ⟨k + 1, v6, _, rfl, rfl, by omega, by omega, by simp, by rw [bB_succ HX.out 0 HV.out, if_pos HC0.out]; exact ho6, hn6, fun b hb => ?_, H5.out.2.2.1.trans (hk6.mono fun i _ h => Or.inr (H5.out.2.2.2 i h))⟩
              rcases hpr6 with h | h
              · exact H5.out.2.2.2 b (by rw [← h]; exact hb)
              · rw [hb] at h; cases h; exact hzz
            case measure => omega
          · skip
            have HV := Lib.hid (show nv x = 0 from by unfold nv; rw [if_pos (.inr c3)])
            have HD := Lib.hid (fun w => decimal0 w)
            have HDL := Lib.hid (digs_len 0 (by omega))
            have gk0 : decide ((0 : Int) < (k : Int)) = true := decide_eq_true (by omega)
            have gk0' : decide (0 < k) = true := decide_eq_true (by omega)
            have HC0 := Lib.hid c0
            clear c0
            obtain ⟨W3, hW3⟩ : ∃ W3, wr.alloc (.cells #[.int .u8 59] 5) = W3 := ⟨_, rfl⟩
            have hk3 : Kept (fun _ => False) wr W3 := by rw [← hW3]; exact (Kept.refl _ _).alloc _
            have hs3 : SlAt .u8 W3 (some ⟨wr.heap.size, 0, none⟩) 1 [59] := by rw [← hW3]; exact slAt_one wr 59 5
            have H3 := Lib.hid (And.intro (HG.out.1.kept hk3 (fun _ _ => id)) (And.intro hs3 (HG.out.2.2.2.then hk3)))
            clear hk3 hs3
            go_wp2_with (first
              | (at_builtin; refine wpList_addX rfl _ _ rfl i0 HI.out.1 HI.out.2.1 HI.out.2.2.1 HI.out.2.2.2 bv _ rfl H3.out.1 (some ⟨wr.heap.size, 0, none⟩) 1 1 [59] rfl (fun h => by cases h) H3.out.2.1 (fun q hq => by cases hq; exact ⟨_, _, rfl⟩) (by have := HKN.out; omega) ?_; intro v4 w4 ho4 hk4 hpr4 hn4; have H4 := Lib.hid (And.intro ho4 (And.intro hk4 (And.intro hpr4 (hn4 HG.out.2.1)))); clear ho4 hk4 hpr4 hn4))
            refine (HD.out _).mono ?_
            rintro r5 w5 ⟨rfl, hk5⟩
            have q4 : ∀ b, v4.ownBlock = some b → W.heap.size ≤ b := fun b hb => by
              have hz := H3.out.2.2.size
              rcases H4.out.2.2.1 with h | h
              · exact HG.out.2.2.1 b (by rw [← h]; exact hb)
              · rw [hb] at h; cases h; exact hz
            have H5 := Lib.hid (And.intro (H4.out.1.kept hk5 (fun _ _ => id)) (And.intro H4.out.2.2.2 (And.intro ((H3.out.2.2.trans (H4.out.2.1.mono fun i _ h => .inr (HG.out.2.2.1 i h))).then hk5) q4)))
            clear hk5 q4 hW3
            go_wp2_with (first
              | (at_builtin; refine wpList_addS rfl _ _ rfl i0 HI.out.1 HI.out.2.1 HI.out.2.2.1 HI.out.2.2.2 v4 _ rfl H5.out.1 H5.out.2.1 _ (ints (digs 0)) (strCells_nstr _ (digs_256 0)) rfl (by have := HKN.out; have := HDL.out; simp [ints]; omega) ?_; intro v6 w6 ho6 hk6 hpr6 hn6; have H6 := Lib.hid (And.intro ho6 (And.intro hk6 (And.intro hpr6 hn6))); clear ho6 hk6 hpr6 hn6))
            go_roundg (gk - 1)
            case rel =>
              obtain ⟨ho6, hk6, hpr6, hn6⟩ := H6.out
              have hzz := H5.out.2.2.1.size
              refine ⟨k + 1, v6, _, rfl, rfl, by omega, by omega, by simp, by rw [bB_succ HX.out 0 HV.out, if_neg HC0.out]; exact ho6, hn6, fun b hb => ?_, H5.out.2.2.1.trans (hk6.mono fun i _ h => Or.inr (H5.out.2.2.2 i h))⟩
              rcases hpr6 with h | h
              · exact H5.out.2.2.2 b (by rw [← h]; exact hb)
              · rw [hb] at h; cases h; exact hzz
            case measure => omega
        · skip
          obtain ⟨m, rfl⟩ : ∃ m : Nat, x = m := ⟨x.toNat, by omega⟩
          have t3 : decide ((1073741824 : Int) < (m : Int)) = false := decide_eq_false c3
          have t3' : decide (1073741824 < m) = false := decide_eq_false (by omega)
          by_cases c0 : k = 0
          · skip
            have HV := Lib.hid (show nv (m : Int) = m from by unfold nv; rw [if_neg (by omega)]; omega)
            have HD := Lib.hid (fun w => decimal_any m (by omega) w)
            have HDL := Lib.hid (digs_len m (by omega))
            have gk0 : decide ((0 : Int) < (k : Int)) = false := decide_eq_false (by omega)
            have gk0' : decide (0 < k) = false := decide_eq_false (by omega)
            have HC0 := Lib.hid c0
            clear c0
            go_wp2_with fail
            refine (HD.out _).mono ?_
            rintro r5 w5 ⟨rfl, hk5⟩
            have H5 := Lib.hid (And.intro (HG.out.1.kept hk5 (fun _ _ => id)) (And.intro HG.out.2.1 (And.intro (HG.out.2.2.2.then hk5) HG.out.2.2.1)))
            clear hk5
            go_wp2_with (first
              | (at_builtin; refine wpList_addS rfl _ _ rfl i0 HI.out.1 HI.out.2.1 HI.out.2.2.1 HI.out.2.2.2 bv _ rfl H5.out.1 H5.out.2.1 _ (ints (digs m)) (strCells_nstr _ (digs_256 m)) rfl (by have := HKN.out; have := HDL.out; simp [ints]; omega) ?_; intro v6 w6 ho6 hk6 hpr6 hn6; have H6 := Lib.hid (And.intro ho6 (And.intro hk6 (And.intro hpr6 hn6))); clear ho6 hk6 hpr6 hn6))
            go_roundg (gk - 1)
            case rel =>
              obtain ⟨ho6, hk6, hpr6, hn6⟩ := H6.out
              have hzz := H5.out.2.2.1.size
              refine ⟨k + 1, v6, _, rfl, rfl, by omega, by omega, by simp, by rw [bB_succ HX.out m HV.out, if_pos HC0.out]; exact ho6, hn6, fun b hb => ?_, H5.out.2.2.1.trans (hk6.mono fun i _ h => Or.inr (H5.out.2.2.2 i h))⟩
              rcases hpr6 with h | h
              · exact H5.out.2.2.2 b (by rw [← h]; exact hb)
              · rw [hb] at h; cases h; exact hzz
            case measure => omega
          · skip
            have HV := Lib.hid (show nv (m : Int) = m from by unfold nv; rw [if_neg (by omega)]; omega)
            have HD := Lib.hid (fun w => decimal_any m (by omega) w)
            have HDL := Lib.hid (digs_len m (by omega))
            have gk0 : decide ((0 : Int) < (k : Int)) = true := decide_eq_true (by omega)
            have gk0' : decide (0 < k) = true := decide_eq_true (by omega)
            have HC0 := Lib.hid c0
            clear c0
            obtain ⟨W3, hW3⟩ : ∃ W3, wr.alloc (.cells #[.int .u8 59] 5) = W3 := ⟨_, rfl⟩
            have hk3 : Kept (fun _ => False) wr W3 := by rw [← hW3]; exact (Kept.refl _ _).alloc _
            have hs3 : SlAt .u8 W3 (some ⟨wr.heap.size, 0, none⟩) 1 [59] := by rw [← hW3]; exact slAt_one wr 59 5
            have H3 := Lib.hid (And.intro (HG.out.1.kept hk3 (fun _ _ => id)) (And.intro hs3 (HG.out.2.2.2.then hk3)))
            clear hk3 hs3
            go_wp2_with (first
              | (at_builtin; refine wpList_addX rfl _ _ rfl i0 HI.out.1 HI.out.2.1 HI.out.2.2.1 HI.out.2.2.2 bv _ rfl H3.out.1 (some ⟨wr.heap.size, 0, none⟩) 1 1 [59] rfl (fun h => by cases h) H3.out.2.1 (fun q hq => by cases hq; exact ⟨_, _, rfl⟩) (by have := HKN.out; omega) ?_; intro v4 w4 ho4 hk4 hpr4 hn4; have H4 := Lib.hid (And.intro ho4 (And.intro hk4 (And.intro hpr4 (hn4 HG.out.2.1)))); clear ho4 hk4 hpr4 hn4))
            refine (HD.out _).mono ?_
            rintro r5 w5 ⟨rfl, hk5⟩
            have q4 : ∀ b, v4.ownBlock = some b → W.heap.size ≤ b := fun b hb => by
              have hz := H3.out.2.2.size
              rcases H4.out.2.2.1 with h | h
              · exact HG.out.2.2.1 b (by rw [← h]; exact hb)
              · rw [hb] at h; cases h; exact hz
            have H5 := Lib.hid (And.intro (H4.out.1.kept hk5 (fun _ _ => id)) (And.intro H4.out.2.2.2 (And.intro ((H3.out.2.2.trans (H4.out.2.1.mono fun i _ h => .inr (HG.out.2.2.1 i h))).then hk5) q4)))
            clear hk5 q4 hW3
            go_wp2_with (first
              | (at_builtin; refine wpList_addS rfl _ _ rfl i0 HI.out.1 HI.out.2.1 HI.out.2.2.1 HI.out.2.2.2 v4 _ rfl H5.out.1 H5.out.2.1 _ (ints (digs m)) (strCells_nstr _ (digs_256 m)) rfl (by have := HKN.out; have := HDL.out; simp [ints]; omega) ?_; intro v6 w6 ho6 hk6 hpr6 hn6; have H6 := Lib.hid (And.intro ho6 (And.intro hk6 (And.intro hpr6 hn6))); clear ho6 hk6 hpr6 hn6))
            go_roundg (gk - 1)
            case rel =>
              obtain ⟨ho6, hk6, hpr6, hn6⟩ := H6.out
              have hzz := H5.out.2.2.1.size
              refine ⟨k + 1, v6, _, rfl, rfl, by omega, by omega, by simp, by rw [bB_succ HX.out m HV.out, if_neg HC0.out]; exact ho6, hn6, fun b hb => ?_, H5.out.2.2.1.trans (hk6.mono fun i _ h => Or.inr (H5.out.2.2.2 i h))⟩
              rcases hpr6 with h | h
              · exact H5.out.2.2.2 b (by rw [← h]; exact hb)
              · rw [hb] at h; cases h; exact hzz
            case measure => omega
    · obtain rfl : k = len0 := by omega
      have g3 : decide (k < k) = false := decide_eq_false hk1
      have g3' : decide ((k : Int) < (k : Int)) = false := decide_eq_false (by omega)
      have hall : xs.take k = xs := List.take_of_length_le (Nat.le_of_eq HS.out.2)
      obtain ⟨L, hL⟩ : ∃ L, xs.map nv = L := ⟨_, rfl⟩
      have hB : bB xs k = [27, 91] ++ ints (pb L) := by unfold bB; rw [hall, hL]
      have hpl := pb_len L (by intro n hn; rw [← hL] at hn; obtain ⟨x, -, rfl⟩ := List.mem_map.1 hn; exact nv_le x)
      have hLl : L.length = k := by rw [← hL]; simp [HS.out.2]
      rw [hB] at hob
      obtain ⟨S, hS1, hS2⟩ := fed_par L F HF0.out
      have HZ := Lib.hid (And.intro hob (And.intro hnn (And.intro hbw (And.intro hk (And.intro hL (And.intro hpl (And.intro hLl (And.intro hS1 hS2))))))))
      clear hall hL hB hpl hLl hob hnn hbw hk HG hS1 hS2
      go_wp2_with fail
      refine (new_any wr).mono ?_
      rintro r9 w2 ⟨p, G, rfl, hP2, hG2, hk2⟩
      obtain ⟨W3, hW3⟩ : ∃ W3, w2.alloc (.cells #[.int .u8 F] 5) = W3 := ⟨_, rfl⟩
      have hk3 : Kept (fun _ => False) w2 W3 := by rw [← hW3]; exact (Kept.refl _ _).alloc _
      have hs3 : SlAt .u8 W3 (some ⟨w2.heap.size, 0, none⟩) 1 [F] := by rw [← hW3]; exact slAt_one w2 F 5
      have H3 := Lib.hid (And.intro (HZ.out.1.kept (hk2.then hk3) (fun _ _ => id)) (And.intro hs3 (And.intro hP2 (And.intro hG2 (And.intro hk2 hk3)))))
      clear hk3 hs3 hP2 hG2 hk2
      go_wp2_with (first
        | (at_builtin; refine wpList_addX rfl _ _ rfl i0 HI.out.1 HI.out.2.1 HI.out.2.2.1 HI.out.2.2.2 bv _ rfl H3.out.1 (some ⟨w2.heap.size, 0, none⟩) 1 1 [F] rfl (fun h => by cases h) H3.out.2.1 (fun q hq => by cases hq; exact ⟨_, _, rfl⟩) (by have := HZ.out.2.2.2.2.2.1; have := HZ.out.2.2.2.2.2.2.1; simp [ints]; omega) ?_; intro v5 w5 ho5 hk5 hpr5 hn5; have H5 := Lib.hid (And.intro ho5 (And.intro hk5 hpr5)); clear ho5 hk5 hpr5 hn5))
      obtain ⟨a5, c5, hv5, hs5, hl5, -, hnil5, hob5⟩ := H5.out.1.shape
      have hxe : ([27, 91] ++ ints (pb L) ++ [F] : List Int) = 27 :: 91 :: (ints (pb L) ++ [F]) := by simp
      have hxl : ([27, 91] ++ ints (pb L) ++ [F] : List Int).length = (pb L).length + 3 := by simp [ints]
      rw [hxl] at hv5 hs5 hl5 hnil5
      rw [hxe] at hs5
      have hGlt : ∀ i, G i → i < w2.heap.size := H3.out.2.2.1.lt
      have hG2 := H3.out.2.2.2.1
      have hbw := HZ.out.2.2.1
      have hol := HZ.out.1.lt
      have hz23 := H3.out.2.2.2.2.2.size
      have q5 : ∀ b, v5.ownBlock = some b → W.heap.size ≤ b ∧ (¬ G b) ∧ b < w5.heap.size := fun b hb => by
        refine ⟨?_, ?_, H5.out.1.lt b hb⟩
        · rcases H5.out.2.2 with h | h
          · exact hbw b (by rw [← h]; exact hb)
          · rw [hb] at h; cases h; have h1 := H3.out.2.2.2.2.1.size; have h2 := HZ.out.2.2.2.1.size; omega
        · intro hg
          have h1 := hGlt b hg
          have h2 := hG2 b hg
          rcases H5.out.2.2 with h | h
          · have h3 := hol b (by rw [← h]; exact hb); omega
          · rw [hb] at h; cases h; omega
      have k25 : Kept (fun i => bv.ownBlock = some i) w2 w5 := (H3.out.2.2.2.2.2.mono (fun _ _ h => h.elim)).then H5.out.2.1
      have hP5 : PQ G w5 p ps0 := H3.out.2.2.1.kept k25 (fun i hg h => by have h1 := hol i h; have h2 := hG2 i hg; omega)
      have hk5 : Kept (fun _ => False) W w5 := (HZ.out.2.2.2.1.then H3.out.2.2.2.2.1).trans (k25.mono fun i _ h => .inr (hbw i h))
      have hby5 : ∀ x ∈ (27 :: 91 :: (ints (pb L) ++ [F]) : List Int), 0 ≤ x ∧ x < 256 := by
        intro x hx
        simp only [List.mem_cons, List.mem_append, ints, List.mem_map, List.not_mem_nil, or_false] at hx
        have h1 := HF0.out
        rcases hx with h | h | ⟨c, hc, h⟩ | h
        · omega
        · omega
        · have := pb_byte L c hc; omega
        · omega
      have HFD := Lib.hid (feed_any G w5 p ps0 a5 ((pb L).length + 3) c5 (27 :: 91 :: (ints (pb L) ++ [F])) hP5 hs5 hby5 hnil5 hl5 (by have := HZ.out.2.2.2.2.2.1; have := HZ.out.2.2.2.2.2.2.1; omega) (fun b off h0 h => (q5 b (hob5 b off h)).2))
      obtain ⟨n5, hn5⟩ : ∃ n, (pb L).length + 3 = n := ⟨_, rfl⟩
      rw [hn5] at hv5 HFD
      subst hv5
      have hWr := HZ.out.2.2.2.1.size
      have HX := Lib.hid (And.intro hk5 (And.intro hG2 hn5))
      clear hs5 hl5 hnil5 hob5 hxe hxl hGlt hG2 hbw hol hz23 q5 k25 hP5 hk5 hby5 hn5 hW3
      go_wp2_with fail
      refine HFD.out.mono ?_
      rintro r w6 ⟨v6, G6, rfl, hev6, hP6, hG6, hk6⟩
      obtain ⟨Vs6, ho6, hel6, hm6⟩ := hev6
      have hfd := HZ.out.2.2.2.2.2.2.2.1
      rw [HX.out.2.2] at hfd
      rw [hfd] at hel6 hP6
      have hl6 := hel6.length
      simp only [List.length_cons, List.length_nil] at hl6
      obtain ⟨a6, c6, hv6, hs6, -⟩ := ho6.shape
      rw [hl6] at hv6 hs6
      subst hv6
      have HP := Lib.hid (And.intro hP6 (HX.out.1.trans (hk6.mono fun i _ h => Or.inr (Nat.le_trans hWr (HX.out.2.1 i h)))))
      have HGR := Lib.hid (show ∀ wx, Kept (fun _ => False) w6 wx → Calls Try.prog 10 #[.pointer (some ⟨p, 0, none⟩)] wx fun r w' => r = .returned (.bool true) ∧ w' = wx from fun wx hkx => by
        have h := isground_any G6 wx p _ (HP.out.1.kept hkx (fun _ _ h => h))
        rw [HZ.out.2.2.2.2.2.2.2.2] at h
        exact h)
      obtain ⟨u0, hu0⟩ : ∃ u, Vs6[0]? = some u := ⟨_, List.getElem?_eq_getElem (by omega)⟩
      obtain ⟨b6, o6, rfl, p0⟩ := pat_of hs6 hu0
      obtain ⟨e0, he0, ht0⟩ := hel6.get hu0
      simp at he0
      subst he0
      have z0 : u0.k = 4 := ht0.1
      have z2 : u0.b = F := ht0.2.2.1
      have z3 : u0.pv = 0 := ht0.2.2.2.1
      have z4 : u0.s = strOfNums [] := ht0.2.2.2.2.1
      have zp : SlAt .i64 w6 u0.ap u0.np ((L.map mn).take 16) := ht0.2.2.2.2.2.1
      obtain ⟨d0, -, d2, d3, d4, d5, -⟩ := p0.cells
      rw [z0] at d0
      rw [z2] at d2
      rw [z3] at d3
      rw [z4] at d4
      rw [show o6 + 0 * 7 = o6 by omega] at d0 d2 d3 d4 d5
      have d4' : w6.cell? ⟨b6, o6 + 4, none⟩ = some (.string { data := #[] }) := d4
      obtain ⟨n, hn⟩ : ∃ n, min k 16 = n := ⟨_, rfl⟩
      have hnp : u0.np = n := by rw [← zp.1, List.length_take, List.length_map, HZ.out.2.2.2.2.2.2.1, ← hn]; omega
      obtain ⟨P, hP⟩ : ∃ P, (L.map mn).take 16 = P := ⟨_, rfl⟩
      rw [hnp] at d5 zp
      rw [hP] at zp
      obtain ⟨pa, hpa⟩ : ∃ pa, u0.ap = pa := ⟨_, rfl⟩
      rw [hpa] at d5 zp
      have hn16 : n ≤ 16 := by omega
      have hnk : n ≤ k := by omega
      have HPP := Lib.hid (And.intro hP (And.intro zp (show ∀ i, i < n → ∀ x, xs[i]? = some x → P[i]? = some (mn (nv x)) from fun i hi x hx => by
        rw [← hP, List.getElem?_take_of_lt (by omega), List.getElem?_map, ← HZ.out.2.2.2.2.1, List.getElem?_map, hx]; rfl)))
      have HC := Lib.hid (And.intro d0 d5)
      have gnn : ((n : Int) != (n : Int)) = false := by simp
      have hsx : SlAt .i64 w6 a0 k xs := by
        have h := HS.out.1
        exact h.kept HP.out.2 (fun _ _ _ _ => id)
      have HSX := Lib.hid hsx
      clear ho6 hel6 hm6 hP6 hG6 hk6 hs6 hl6 hfd hWr hu0 p0 ht0 z0 z2 z3 z4 zp hnp hP d4 hpa hsx hn16
      by_cases c16 : 16 < k
      · have gw : decide ((16 : Int) < (k : Int)) = true := decide_eq_true (by omega)
        have gw' : decide (16 < k) = true := decide_eq_true (by omega)
        obtain rfl : n = 16 := by omega
        clear hn c16
        go_wp2
        go_loopg [11, 12] 16 (fun gg iv x0 wx => ∃ (i : Nat) (xv : Value), xv = x0 ∧ 16 ≤ gg + i ∧ i ≤ 16 ∧ iv = .int .i64 (i : Int) ∧ Kept (fun _ => False) w6 wx)
        case atStart => exact ⟨0, _, rfl, by omega, by omega, rfl, Kept.refl _ _⟩
        case round =>
          obtain ⟨i, xv, rfl, hgi, hin, rfl, hki⟩ := hrel
          by_cases hi1 : i < 16
          · have g4 : decide (i < 16) = true := decide_eq_true hi1
            have g4' : decide ((i : Int) < (16 : Int)) = true := decide_eq_true (by omega)
            have wi : IntKind.i64.wrap ((i : Int) + 1) = (i : Int) + 1 := IntWalk.i64_in _ (by omega)
            have hix : i < xs.length := by rw [HS.out.2]; omega
            obtain ⟨x, hx⟩ : ∃ x, xs[i]? = some x := ⟨_, List.getElem?_eq_getElem hix⟩
            have hPx := HPP.out.2.2 i hi1 x hx
            obtain ⟨b0, o0, ha0, -⟩ := HSX.out.2.resolve_left (by omega)
            obtain ⟨bp, op, hpa, -⟩ := HPP.out.2.1.2.resolve_left (by omega)
            have q0 := HSX.out
            rw [ha0] at q0
            have q1 := HPP.out.2.1
            rw [hpa] at q1
            have cx := sl_atG (q0.kept hki (fun _ _ _ _ => id)) hx
            have cp := sl_atG (q1.kept hki (fun _ _ _ _ => id)) hPx
            have dx0 := hki.cell HC.out.2 id
            rw [hpa] at dx0
            subst ha0
            have HKI := Lib.hid hki
            by_cases c2 : x < 0
            · have t2 : decide (x < 0) = true := decide_eq_true c2
              have hv : mn (nv x) = 0 := by unfold mn nv; rw [if_pos (.inl c2)]; rfl
              rw [hv] at cp
              clear hv hPx hx q0 q1 hix hki c2
              go_wp2
              go_roundg (gk - 1)
              case rel => exact ⟨i + 1, _, rfl, by omega, by omega, by simp, HKI.out⟩
              case measure => omega
            · have t2 : decide (x < 0) = false := decide_eq_false c2
              by_cases c3 : 1073741824 < x
              · have t3 : decide (1073741824 < x) = true := decide_eq_true c3
                have hv : mn (nv x) = 0 := by unfold mn nv; rw [if_pos (.inr c3)]; rfl
                rw [hv] at cp
                clear hv hPx hx q0 q1 hix hki c2 c3
                go_wp2
                go_roundg (gk - 1)
                case rel => exact ⟨i + 1, _, rfl, by omega, by omega, by simp, HKI.out⟩
                case measure => omega
              · have t3 : decide (1073741824 < x) = false := decide_eq_false c3
                by_cases c4 : 65535 < x
                · have t4 : decide (65535 < x) = true := decide_eq_true c4
                  have hv : mn (nv x) = 65535 := by unfold mn nv; rw [if_neg (by omega)]; omega
                  rw [hv] at cp
                  clear hv hPx hx q0 q1 hix hki c2 c3 c4
                  go_wp2
                  go_roundg (gk - 1)
                  case rel => exact ⟨i + 1, _, rfl, by omega, by omega, by simp, HKI.out⟩
                  case measure => omega
                · have t4 : decide (65535 < x) = false := decide_eq_false c4
                  have hv : mn (nv x) = x := by unfold mn nv; rw [if_neg (by omega)]; omega
                  rw [hv] at cp
                  clear hv hPx hx q0 q1 hix hki c2 c3 c4
                  go_wp2
                  go_roundg (gk - 1)
                  case rel => exact ⟨i + 1, _, rfl, by omega, by omega, by simp, HKI.out⟩
                  case measure => omega
          · obtain rfl : i = 16 := by omega
            have g4 : decide ((16 : Nat) < 16) = false := decide_eq_false (by omega)
            have HKZ := Lib.hid (HP.out.2.then hki)
            have HG2 := Lib.hid (HGR.out _ hki)
            clear hki hgi hi1
            go_wp2_with fail
            refine HG2.out.mono ?_
            rintro r7 w7 ⟨rfl, rfl⟩
            go_wp2
            exact bodyPost_ret (v := .bool true) (by simp [results, Try.results4, go_sem]) rfl ⟨rfl, HKZ.out.below⟩
      · have gw : decide ((16 : Int) < (k : Int)) = false := decide_eq_false (by omega)
        have gw' : decide (16 < k) = false := decide_eq_false (by omega)
        obtain rfl : n = k := by omega
        clear hn c16
        go_wp2
        go_loopg [11, 12] n (fun gg iv x0 wx => ∃ (i : Nat) (xv : Value), xv = x0 ∧ n ≤ gg + i ∧ i ≤ n ∧ iv = .int .i64 (i : Int) ∧ Kept (fun _ => False) w6 wx)
        case atStart => exact ⟨0, _, rfl, by omega, by omega, rfl, Kept.refl _ _⟩
        case round =>
          obtain ⟨i, xv, rfl, hgi, hin, rfl, hki⟩ := hrel
          by_cases hi1 : i < n
          · have g4 : decide (i < n) = true := decide_eq_true hi1
            have g4' : decide ((i : Int) < (n : Int)) = true := decide_eq_true (by omega)
            have wi : IntKind.i64.wrap ((i : Int) + 1) = (i : Int) + 1 := IntWalk.i64_in _ (by omega)
            have hix : i < xs.length := by rw [HS.out.2]; omega
            obtain ⟨x, hx⟩ : ∃ x, xs[i]? = some x := ⟨_, List.getElem?_eq_getElem hix⟩
            have hPx := HPP.out.2.2 i hi1 x hx
            obtain ⟨b0, o0, ha0, -⟩ := HSX.out.2.resolve_left (by omega)
            obtain ⟨bp, op, hpa, -⟩ := HPP.out.2.1.2.resolve_left (by omega)
            have q0 := HSX.out
            rw [ha0] at q0
            have q1 := HPP.out.2.1
            rw [hpa] at q1
            have cx := sl_atG (q0.kept hki (fun _ _ _ _ => id)) hx
            have cp := sl_atG (q1.kept hki (fun _ _ _ _ => id)) hPx
            have dx0 := hki.cell HC.out.2 id
            rw [hpa] at dx0
            subst ha0
            have HKI := Lib.hid hki
            by_cases c2 : x < 0
            · have t2 : decide (x < 0) = true := decide_eq_true c2
              have hv : mn (nv x) = 0 := by unfold mn nv; rw [if_pos (.inl c2)]; rfl
              rw [hv] at cp
              clear hv hPx hx q0 q1 hix hki c2
              go_wp2
              go_roundg (gk - 1)
              case rel => exact ⟨i + 1, _, rfl, by omega, by omega, by simp, HKI.out⟩
              case measure => omega
            · have t2 : decide (x < 0) = false := decide_eq_false c2
              by_cases c3 : 1073741824 < x
              · have t3 : decide (1073741824 < x) = true := decide_eq_true c3
                have hv : mn (nv x) = 0 := by unfold mn nv; rw [if_pos (.inr c3)]; rfl
                rw [hv] at cp
                clear hv hPx hx q0 q1 hix hki c2 c3
                go_wp2
                go_roundg (gk - 1)
                case rel => exact ⟨i + 1, _, rfl, by omega, by omega, by simp, HKI.out⟩
                case measure => omega
              · have t3 : decide (1073741824 < x) = false := decide_eq_false c3
                by_cases c4 : 65535 < x
                · have t4 : decide (65535 < x) = true := decide_eq_true c4
                  have hv : mn (nv x) = 65535 := by unfold mn nv; rw [if_neg (by omega)]; omega
                  rw [hv] at cp
                  clear hv hPx hx q0 q1 hix hki c2 c3 c4
                  go_wp2
                  go_roundg (gk - 1)
                  case rel => exact ⟨i + 1, _, rfl, by omega, by omega, by simp, HKI.out⟩
                  case measure => omega
                · have t4 : decide (65535 < x) = false := decide_eq_false c4
                  have hv : mn (nv x) = x := by unfold mn nv; rw [if_neg (by omega)]; omega
                  rw [hv] at cp
                  clear hv hPx hx q0 q1 hix hki c2 c3 c4
                  go_wp2
                  go_roundg (gk - 1)
                  case rel => exact ⟨i + 1, _, rfl, by omega, by omega, by simp, HKI.out⟩
                  case measure => omega
          · obtain rfl : i = n := by omega
            have g4 : decide ((i : Nat) < i) = false := decide_eq_false (by omega)
            have HKZ := Lib.hid (HP.out.2.then hki)
            have HG2 := Lib.hid (HGR.out _ hki)
            clear hki hgi hi1
            go_wp2_with fail
            refine HG2.out.mono ?_
            rintro r7 w7 ⟨rfl, rfl⟩
            go_wp2
            exact bodyPost_ret (v := .bool true) (by simp [results, Try.results4, go_sem]) rfl ⟨rfl, HKZ.out.below⟩
theorem law_params {a0 : Option Addr} {l0 c0 : Nat} {z0 : List Int} {c : Int} {w : World} (f0 : IsRow .i64 w a0 l0 c0 z0) (f1 : (Lit.int .u8 c).wf = true) :
    Calls Try.prog 4 #[.slice a0 l0 c0, .int .u8 c] w fun e w' => e = .returned (.bool true) ∧ Below w.heap.size w w' := by
  obtain ⟨k1, k2, k3, k4, k5, k6⟩ := f0.slAt
  simp [Lit.wf, IntKind.min, IntKind.max, IntKind.signed, IntKind.bits] at f1
  exact params_go a0 l0 c0 (z0.take l0) c (by omega) w k1
end Go.Proofs.Ytnaoobgghgnflaa
