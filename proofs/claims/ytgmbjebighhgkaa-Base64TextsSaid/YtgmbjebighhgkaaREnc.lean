/- The document's Encode. -/
import Derived.Test.YtgmbjebighhgkaaREnd
import Derived.Test.YtgmbjebighhgkaaKnown
import Derived.Test.YtgmbjebighhgkaaCuts
namespace Go.Proofs.Ytgmbjebighhgkaa
open Go.RowKit
set_option linter.unusedVariables false
set_option linter.unusedSimpArgs false
theorem group_four (p : List Nat) (V : Nat) (hV : word p = V) (h1 : 1 ≤ p.length) (h3 : p.length ≤ 3) :
    group p = [sign (V / 262144 % 64), sign (V / 4096 % 64), if 2 ≤ p.length then sign (V / 64 % 64) else 61, if 3 ≤ p.length then sign (V % 64) else 61] := by
  subst hV
  match p, h1, h3 with
  | [a], _, _ => simp [group, four]
  | [a, b], _, _ => simp [group, four]
  | [a, b, c], _, _ => simp [group, four]
set_option maxRecDepth 100000 in
set_option maxHeartbeats 16000000 in
theorem rencode_any (a0 : Option Addr) (len cap : Nat) (bs : List Nat) (w : World) (hl : len ≤ cap) (hlm : len ≤ 65536) (hs : SlAt .u8 w a0 len (ints bs)) (hby : ∀ c ∈ bs, c < 256) (hb : ∀ b off, 0 < len → a0 = some ⟨b, off, none⟩ → b < w.heap.size) (hcap : cap ≤ 9223372036854775807) :
    Calls Try.prog 20 #[.slice a0 len cap] w (EPost bs w) := by
  obtain ⟨i0, hi, hz0, hz1, hz2⟩ := info_parts tinfo5
  have HI := Lib.hid (And.intro hi (And.intro hz0 (And.intro hz1 hz2)))
  clear hi hz0 hz1 hz2
  have hlen : bs.length = len := by rw [← hs.1, ints_length]
  have HS := Lib.hid hs
  have HBY := Lib.hid hby
  have HB := Lib.hid hb
  have HLN := Lib.hid hlen
  clear hs hby hb hlen
  obtain ⟨M, hM⟩ : ∃ M, (len + 2) / 3 = M := ⟨_, rfl⟩
  have HM := Lib.hid hM
  have hM2 : M ≤ 21846 := by omega
  clear hM
  have HM2 := Lib.hid hM2
  go_enter Try.func20, Try.ntmps20
  go_wp2
  go_loopg [4, 5, 6, 7, 8] M (fun gg ov' iv _ _ _ wr => ∃ (j : Nat) (ov : Value), ov = ov' ∧ M ≤ gg + j ∧ j ≤ M ∧ iv = .int .i64 (3 * j : Nat) ∧ Own .u8 5 wr ov (ints (groups bs (List.range j))) ∧ Kept (fun _ => False) w wr ∧ Fresh w ov)
  case atStart => exact ⟨0, _, rfl, by omega, by omega, rfl, Own.nil _ _ _, Kept.refl _ _, .inl rfl⟩
  case round =>
    obtain ⟨j, ov, rfl, hgg, hjM, rfl, ho, hk, hf⟩ := hrel
    have HO := Lib.hid ho
    have HK := Lib.hid hk
    have HF := Lib.hid hf
    have hG0 := groups_len bs (List.range j)
    rw [List.length_range] at hG0
    obtain ⟨G, hG⟩ : ∃ G, groups bs (List.range j) = G := ⟨_, rfl⟩
    rw [hG] at HO hG0
    have HG := Lib.hid hG
    obtain ⟨I, hI⟩ : ∃ I, 3 * j = I := ⟨_, rfl⟩
    rw [hI]
    clear ho hk hf hG
    have hIM : I ≤ 65538 := by omega
    by_cases h0 : I < len
    · have g0 : decide (I < len) = true := decide_eq_true h0
      have hjlt : j < M := by have := HM.out; omega
      obtain ⟨b, off, rfl, hc⟩ := HS.out.2.resolve_left (by omega)
      have hk := HK.out
      have cell : ∀ k, I + k < len → ∃ x : Nat, x < 256 ∧ wr.cell? ⟨b, off + (I + k), none⟩ = some (.int .u8 (x : Int)) ∧ bs[I + k]? = some x := by
        intro k hk2
        have hlt : I + k < bs.length := by rw [HLN.out]; exact hk2
        refine ⟨bs[I + k], HBY.out _ (List.getElem_mem hlt), ?_, List.getElem?_eq_getElem hlt⟩
        have := hk.cell (hc (I + k) hk2) id
        rw [this]
        simp [ints, List.getElem?_eq_getElem hlt]
      clear hc hk
      obtain ⟨p, hp⟩ : ∃ p, (bs.drop I).take 3 = p := ⟨_, rfl⟩
      have hpl : p.length = min 3 (len - I) := by rw [← hp, List.length_take, List.length_drop, HLN.out]
      have hpk : ∀ k, k < 3 → p[k]? = bs[I + k]? := by intro k hk; rw [← hp, List.getElem?_take_of_lt hk, List.getElem?_drop]
      have hgr : groups bs (List.range (j + 1)) = G ++ group p := by rw [List.range_succ, groups_snoc, HG.out, hI, hp]
      have HGR := Lib.hid hgr
      clear hp hgr
      have w1 : IntKind.i64.wrap ((I : Int) + 1) = (I : Int) + 1 := IntWalk.i64_in _ (by omega)
      have w2 : IntKind.i64.wrap ((I : Int) + 2) = (I : Int) + 2 := IntWalk.i64_in _ (by omega)
      have w3 : IntKind.i64.wrap ((I : Int) + 3) = (I : Int) + 3 := IntWalk.i64_in _ (by omega)
      have t1 : ((I : Int) + 1).toNat = I + 1 := by omega
      have t2 : ((I : Int) + 2).toNat = I + 2 := by omega
      have u1 : 0 ≤ (I : Int) + 1 := by omega
      have u2 : 0 ≤ (I : Int) + 2 := by omega
      have l0 : IntKind.i64.wrap 0 = 0 := by decide
      have l1 : IntKind.i64.wrap 1 = 1 := by decide
      have l2 : IntKind.i64.wrap 2 = 2 := by decide
      have l3 : IntKind.i64.wrap 3 = 3 := by decide
      have l4 : IntKind.i64.wrap 4 = 4 := by decide
      have l6 : IntKind.i64.wrap 6 = 6 := by decide
      have l12 : IntKind.i64.wrap 12 = 12 := by decide
      have l18 : IntKind.i64.wrap 18 = 18 := by decide
      have m18 : min 18 64 = 18 := by decide
      obtain ⟨x0, hx0, k0, e0⟩ := cell 0 (by omega)
      rw [Nat.add_zero] at k0
      have c0 : IntKind.i64.wrap (x0 : Int) = (x0 : Int) := IntWalk.i64_in _ (by omega)
      have s0 : IntKind.i64.wrap ((x0 : Int) * 65536) = (x0 : Int) * 65536 := IntWalk.i64_in _ (by omega)
      by_cases h1 : I + 1 < len
      · have g1 : decide ((I : Int) + 1 < (len : Int)) = true := decide_eq_true (by omega)
        have q1 : (I : Int) + 1 < (len : Int) := by omega
        obtain ⟨x1, hx1, k1, e1⟩ := cell 1 h1
        have c1 : IntKind.i64.wrap (x1 : Int) = (x1 : Int) := IntWalk.i64_in _ (by omega)
        have s1 : IntKind.i64.wrap ((x1 : Int) * 256) = (x1 : Int) * 256 := IntWalk.i64_in _ (by omega)
        have a1 : IntKind.i64.wrap ((x0 : Int) * 65536 + (x1 : Int) * 256) = (x0 : Int) * 65536 + (x1 : Int) * 256 := IntWalk.i64_in _ (by omega)
        by_cases h2 : I + 2 < len
        · have g2 : decide ((I : Int) + 2 < (len : Int)) = true := decide_eq_true (by omega)
          have q2 : (I : Int) + 2 < (len : Int) := by omega
          obtain ⟨x2, hx2, k2, e2⟩ := cell 2 h2
          have c2 : IntKind.i64.wrap (x2 : Int) = (x2 : Int) := IntWalk.i64_in _ (by omega)
          obtain ⟨V, hV⟩ : ∃ V : Nat, x0 * 65536 + x1 * 256 + x2 = V := ⟨_, rfl⟩
          have hVi : (x0 : Int) * 65536 + (x1 : Int) * 256 + (x2 : Int) = (V : Int) := by omega
          have hVl : V < 16777216 := by omega
          have a2 : IntKind.i64.wrap ((x0 : Int) * 65536 + (x1 : Int) * 256 + (x2 : Int)) = (V : Int) := by rw [hVi]; exact IntWalk.i64_in _ (by omega)
          have HGR2 := Lib.hid (show group p = _ from group_four p V (by
            have hp3 : p = [x0, x1, x2] := by
              apply List.ext_getElem?
              intro k
              rcases k with _ | k
              · rw [hpk 0 (by omega), e0]; rfl
              rcases k with _ | k
              · rw [hpk 1 (by omega), e1]; rfl
              rcases k with _ | k
              · rw [hpk 2 (by omega), e2]; rfl
              · rw [List.getElem?_eq_none (by rw [hpl]; omega), List.getElem?_eq_none (by simp only [List.length_cons, List.length_nil]; omega)]
            rw [hp3]; simp [word]; omega) (by rw [hpl]; omega) (by rw [hpl]; omega))
          have hpn : p.length = 3 := by rw [hpl]; omega
          rw [hpn] at HGR2
          simp only [Nat.reduceLeDiff, if_true, if_false, Nat.le_refl] at HGR2
          obtain ⟨D0, hD0⟩ : ∃ D, V / 262144 % 64 = D := ⟨_, rfl⟩
          have d0 : ((V : Int) / 262144).tmod 64 = (D0 : Int) := by rw [Int.tmod_eq_emod_of_nonneg (by omega)]; omega
          have z0 : D0 < 64 := by omega
          have zi0 : (D0 : Int) < 64 := by omega
          have y0 : IntKind.i64.wrap (D0 : Int) = (D0 : Int) := IntWalk.i64_in _ (by omega)
          obtain ⟨S0, hS0⟩ : ∃ S, sign D0 = S := ⟨_, rfl⟩
          have Q0 := Lib.hid (fun hd => (sign_lit z0 hd).trans hS0)
          have f0 : IntKind.i64.wrap ((V : Int) / 262144) = (V : Int) / 262144 := IntWalk.i64_in _ (by omega)
          obtain ⟨D1, hD1⟩ : ∃ D, V / 4096 % 64 = D := ⟨_, rfl⟩
          have d1 : ((V : Int) / 4096).tmod 64 = (D1 : Int) := by rw [Int.tmod_eq_emod_of_nonneg (by omega)]; omega
          have z1 : D1 < 64 := by omega
          have zi1 : (D1 : Int) < 64 := by omega
          have y1 : IntKind.i64.wrap (D1 : Int) = (D1 : Int) := IntWalk.i64_in _ (by omega)
          obtain ⟨S1, hS1⟩ : ∃ S, sign D1 = S := ⟨_, rfl⟩
          have Q1 := Lib.hid (fun hd => (sign_lit z1 hd).trans hS1)
          have f1 : IntKind.i64.wrap ((V : Int) / 4096) = (V : Int) / 4096 := IntWalk.i64_in _ (by omega)
          obtain ⟨D2, hD2⟩ : ∃ D, V / 64 % 64 = D := ⟨_, rfl⟩
          have d2 : ((V : Int) / 64).tmod 64 = (D2 : Int) := by rw [Int.tmod_eq_emod_of_nonneg (by omega)]; omega
          have z2 : D2 < 64 := by omega
          have zi2 : (D2 : Int) < 64 := by omega
          have y2 : IntKind.i64.wrap (D2 : Int) = (D2 : Int) := IntWalk.i64_in _ (by omega)
          obtain ⟨S2, hS2⟩ : ∃ S, sign D2 = S := ⟨_, rfl⟩
          have Q2 := Lib.hid (fun hd => (sign_lit z2 hd).trans hS2)
          have f2 : IntKind.i64.wrap ((V : Int) / 64) = (V : Int) / 64 := IntWalk.i64_in _ (by omega)
          obtain ⟨D3, hD3⟩ : ∃ D, V % 64 = D := ⟨_, rfl⟩
          have d3 : ((V : Int)).tmod 64 = (D3 : Int) := by rw [Int.tmod_eq_emod_of_nonneg (by omega)]; omega
          have z3 : D3 < 64 := by omega
          have zi3 : (D3 : Int) < 64 := by omega
          have y3 : IntKind.i64.wrap (D3 : Int) = (D3 : Int) := IntWalk.i64_in _ (by omega)
          obtain ⟨S3, hS3⟩ : ∃ S, sign D3 = S := ⟨_, rfl⟩
          have Q3 := Lib.hid (fun hd => (sign_lit z3 hd).trans hS3)
          have fV : IntKind.i64.wrap (V : Int) = (V : Int) := IntWalk.i64_in _ (by omega)
          have HDS := Lib.hid (And.intro (And.intro hD0 hS0) (And.intro (And.intro hD1 hS1) (And.intro (And.intro hD2 hS2) (And.intro (And.intro hD3 hS3) True.intro))))
          have HAL := Lib.hid (show group p = [S0, S1, S2, S3] from by rw [HGR2.out, hD0, hS0, hD1, hS1, hD2, hS2, hD3, hS3])
          clear HGR2 hV hpk hpl hpn cell hD0 hS0 z0 hD1 hS1 z1 hD2 hS2 z2 hD3 hS3 z3 e0 e1 e2
          clear hVi
          have HK0 := HK
          have HF0 := HF
          have HL0 := Lib.hid (show (ints G).length ≤ 160000 from by rw [ints_length]; omega)
          go_wp2
          refine wp_loop_rounds 5 ?_
          rw [rounds_succ]
          have hs0 : SlAt .u8 (wr.alloc (.cells #[.int .u8 (S0 : Int)] 5)) (some ⟨wr.heap.size, 0, none⟩) 1 [(S0 : Int)] := slAt_blk (blk_new _ _) rfl rfl
          have ho0 : Own .u8 5 (wr.alloc (.cells #[.int .u8 (S0 : Int)] 5)) ov (ints G) := HO.out.kept ((Kept.refl (fun _ => False) _).alloc _) (fun _ _ => id)
          have HB0 := Lib.hid (And.intro hs0 (And.intro ho0 (And.intro (show ((ints G).length + 1) * 1 ≤ 140737488355328 from by have := HL0.out; simp; omega) (show (ints G).length + 1 ≤ maxLen from by have := HL0.out; simp [maxLen]; omega))))
          have ka0 : Kept (fun _ => False) w (wr.alloc (.cells #[.int .u8 (S0 : Int)] 5)) := HK0.out.alloc _
          have KA0 := Lib.hid ka0
          clear hs0 ho0 ka0
          have q0 := Q0.out
          go_wp2_with (at_builtin; refine wpList_appInts rfl (.tmp 55) (.tmp 65) 28 rfl 5 .u8 i0 (.int .u8 0) 1 Try.underlying28 HI.out.1 HI.out.2.1 HI.out.2.2.1 HI.out.2.2.2 rfl ov _ rfl HB0.out.2.1 (some ⟨wr.heap.size, 0, none⟩) 1 1 [(S0 : Int)] rfl (fun h => by cases h) HB0.out.1 HB0.out.2.2.1 HB0.out.2.2.2 ?_; intro v0 w0x o0 k0x p0x)
          have HO1 := Lib.hid o0
          have HK1 := Lib.hid (Fresh.app KA0.out HF0.out k0x p0x).1
          have HF1 := Lib.hid (Fresh.app KA0.out HF0.out k0x p0x).2
          clear o0 k0x p0x q0
          go_wp2
          rw [rounds_succ]
          have hs1 : SlAt .u8 (w0x.alloc (.cells #[.int .u8 (S1 : Int)] 5)) (some ⟨w0x.heap.size, 0, none⟩) 1 [(S1 : Int)] := slAt_blk (blk_new _ _) rfl rfl
          have ho1 : Own .u8 5 (w0x.alloc (.cells #[.int .u8 (S1 : Int)] 5)) v0 (ints G ++ [(S0 : Int)]) := HO1.out.kept ((Kept.refl (fun _ => False) _).alloc _) (fun _ _ => id)
          have HB1 := Lib.hid (And.intro hs1 (And.intro ho1 (And.intro (show ((ints G ++ [(S0 : Int)]).length + 1) * 1 ≤ 140737488355328 from by have := HL0.out; simp; omega) (show (ints G ++ [(S0 : Int)]).length + 1 ≤ maxLen from by have := HL0.out; simp [maxLen]; omega))))
          have ka1 : Kept (fun _ => False) w (w0x.alloc (.cells #[.int .u8 (S1 : Int)] 5)) := HK1.out.alloc _
          have KA1 := Lib.hid ka1
          clear hs1 ho1 ka1
          have q1 := Q1.out
          go_wp2_with (at_builtin; refine wpList_appInts rfl (.tmp 55) (.tmp 65) 28 rfl 5 .u8 i0 (.int .u8 0) 1 Try.underlying28 HI.out.1 HI.out.2.1 HI.out.2.2.1 HI.out.2.2.2 rfl v0 _ rfl HB1.out.2.1 (some ⟨w0x.heap.size, 0, none⟩) 1 1 [(S1 : Int)] rfl (fun h => by cases h) HB1.out.1 HB1.out.2.2.1 HB1.out.2.2.2 ?_; intro v1 w1x o1 k1x p1x)
          have HO2 := Lib.hid o1
          have HK2 := Lib.hid (Fresh.app KA1.out HF1.out k1x p1x).1
          have HF2 := Lib.hid (Fresh.app KA1.out HF1.out k1x p1x).2
          clear o1 k1x p1x q1
          go_wp2
          rw [rounds_succ]
          have hs2 : SlAt .u8 (w1x.alloc (.cells #[.int .u8 (S2 : Int)] 5)) (some ⟨w1x.heap.size, 0, none⟩) 1 [(S2 : Int)] := slAt_blk (blk_new _ _) rfl rfl
          have ho2 : Own .u8 5 (w1x.alloc (.cells #[.int .u8 (S2 : Int)] 5)) v1 (ints G ++ [(S0 : Int)] ++ [(S1 : Int)]) := HO2.out.kept ((Kept.refl (fun _ => False) _).alloc _) (fun _ _ => id)
          have HB2 := Lib.hid (And.intro hs2 (And.intro ho2 (And.intro (show ((ints G ++ [(S0 : Int)] ++ [(S1 : Int)]).length + 1) * 1 ≤ 140737488355328 from by have := HL0.out; simp; omega) (show (ints G ++ [(S0 : Int)] ++ [(S1 : Int)]).length + 1 ≤ maxLen from by have := HL0.out; simp [maxLen]; omega))))
          have ka2 : Kept (fun _ => False) w (w1x.alloc (.cells #[.int .u8 (S2 : Int)] 5)) := HK2.out.alloc _
          have KA2 := Lib.hid ka2
          clear hs2 ho2 ka2
          have q2 := Q2.out
          go_wp2_with (at_builtin; refine wpList_appInts rfl (.tmp 55) (.tmp 65) 28 rfl 5 .u8 i0 (.int .u8 0) 1 Try.underlying28 HI.out.1 HI.out.2.1 HI.out.2.2.1 HI.out.2.2.2 rfl v1 _ rfl HB2.out.2.1 (some ⟨w1x.heap.size, 0, none⟩) 1 1 [(S2 : Int)] rfl (fun h => by cases h) HB2.out.1 HB2.out.2.2.1 HB2.out.2.2.2 ?_; intro v2 w2x o2 k2x p2x)
          have HO3 := Lib.hid o2
          have HK3 := Lib.hid (Fresh.app KA2.out HF2.out k2x p2x).1
          have HF3 := Lib.hid (Fresh.app KA2.out HF2.out k2x p2x).2
          clear o2 k2x p2x q2
          go_wp2
          rw [rounds_succ]
          have hs3 : SlAt .u8 (w2x.alloc (.cells #[.int .u8 (S3 : Int)] 5)) (some ⟨w2x.heap.size, 0, none⟩) 1 [(S3 : Int)] := slAt_blk (blk_new _ _) rfl rfl
          have ho3 : Own .u8 5 (w2x.alloc (.cells #[.int .u8 (S3 : Int)] 5)) v2 (ints G ++ [(S0 : Int)] ++ [(S1 : Int)] ++ [(S2 : Int)]) := HO3.out.kept ((Kept.refl (fun _ => False) _).alloc _) (fun _ _ => id)
          have HB3 := Lib.hid (And.intro hs3 (And.intro ho3 (And.intro (show ((ints G ++ [(S0 : Int)] ++ [(S1 : Int)] ++ [(S2 : Int)]).length + 1) * 1 ≤ 140737488355328 from by have := HL0.out; simp; omega) (show (ints G ++ [(S0 : Int)] ++ [(S1 : Int)] ++ [(S2 : Int)]).length + 1 ≤ maxLen from by have := HL0.out; simp [maxLen]; omega))))
          have ka3 : Kept (fun _ => False) w (w2x.alloc (.cells #[.int .u8 (S3 : Int)] 5)) := HK3.out.alloc _
          have KA3 := Lib.hid ka3
          clear hs3 ho3 ka3
          have q3 := Q3.out
          go_wp2_with (at_builtin; refine wpList_appInts rfl (.tmp 55) (.tmp 65) 28 rfl 5 .u8 i0 (.int .u8 0) 1 Try.underlying28 HI.out.1 HI.out.2.1 HI.out.2.2.1 HI.out.2.2.2 rfl v2 _ rfl HB3.out.2.1 (some ⟨w2x.heap.size, 0, none⟩) 1 1 [(S3 : Int)] rfl (fun h => by cases h) HB3.out.1 HB3.out.2.2.1 HB3.out.2.2.2 ?_; intro v3 w3x o3 k3x p3x)
          have HO4 := Lib.hid o3
          have HK4 := Lib.hid (Fresh.app KA3.out HF3.out k3x p3x).1
          have HF4 := Lib.hid (Fresh.app KA3.out HF3.out k3x p3x).2
          clear o3 k3x p3x q3
          go_wp2
          rw [rounds_succ]
          go_wp2
          go_roundg (gk - 1)
          case rel =>
            refine ⟨j + 1, _, rfl, by omega, by omega, by simp; omega, ?_, HK4.out, HF4.out⟩
            rw [HGR.out, HAL.out, ints_append]
            have := HO4.out
            simp only [List.append_assoc, List.cons_append, List.nil_append] at this
            exact this
          case measure => omega
        · have g2 : decide ((I : Int) + 2 < (len : Int)) = false := decide_eq_false (by omega)
          obtain ⟨V, hV⟩ : ∃ V : Nat, x0 * 65536 + x1 * 256 = V := ⟨_, rfl⟩
          have hVi : (x0 : Int) * 65536 + (x1 : Int) * 256 = (V : Int) := by omega
          have hVl : V < 16777216 := by omega
          have a1' : IntKind.i64.wrap ((x0 : Int) * 65536 + (x1 : Int) * 256) = (V : Int) := by rw [hVi]; exact IntWalk.i64_in _ (by omega)
          clear a1
          have HGR2 := Lib.hid (show group p = _ from group_four p V (by
            have hp3 : p = [x0, x1] := by
              apply List.ext_getElem?
              intro k
              rcases k with _ | k
              · rw [hpk 0 (by omega), e0]; rfl
              rcases k with _ | k
              · rw [hpk 1 (by omega), e1]; rfl
              · rw [List.getElem?_eq_none (by rw [hpl]; omega), List.getElem?_eq_none (by simp only [List.length_cons, List.length_nil]; omega)]
            rw [hp3]; simp [word]; omega) (by rw [hpl]; omega) (by rw [hpl]; omega))
          have hpn : p.length = 2 := by rw [hpl]; omega
          rw [hpn] at HGR2
          simp only [Nat.reduceLeDiff, if_true, if_false, Nat.le_refl] at HGR2
          obtain ⟨D0, hD0⟩ : ∃ D, V / 262144 % 64 = D := ⟨_, rfl⟩
          have d0 : ((V : Int) / 262144).tmod 64 = (D0 : Int) := by rw [Int.tmod_eq_emod_of_nonneg (by omega)]; omega
          have z0 : D0 < 64 := by omega
          have zi0 : (D0 : Int) < 64 := by omega
          have y0 : IntKind.i64.wrap (D0 : Int) = (D0 : Int) := IntWalk.i64_in _ (by omega)
          obtain ⟨S0, hS0⟩ : ∃ S, sign D0 = S := ⟨_, rfl⟩
          have Q0 := Lib.hid (fun hd => (sign_lit z0 hd).trans hS0)
          have f0 : IntKind.i64.wrap ((V : Int) / 262144) = (V : Int) / 262144 := IntWalk.i64_in _ (by omega)
          obtain ⟨D1, hD1⟩ : ∃ D, V / 4096 % 64 = D := ⟨_, rfl⟩
          have d1 : ((V : Int) / 4096).tmod 64 = (D1 : Int) := by rw [Int.tmod_eq_emod_of_nonneg (by omega)]; omega
          have z1 : D1 < 64 := by omega
          have zi1 : (D1 : Int) < 64 := by omega
          have y1 : IntKind.i64.wrap (D1 : Int) = (D1 : Int) := IntWalk.i64_in _ (by omega)
          obtain ⟨S1, hS1⟩ : ∃ S, sign D1 = S := ⟨_, rfl⟩
          have Q1 := Lib.hid (fun hd => (sign_lit z1 hd).trans hS1)
          have f1 : IntKind.i64.wrap ((V : Int) / 4096) = (V : Int) / 4096 := IntWalk.i64_in _ (by omega)
          obtain ⟨D2, hD2⟩ : ∃ D, V / 64 % 64 = D := ⟨_, rfl⟩
          have d2 : ((V : Int) / 64).tmod 64 = (D2 : Int) := by rw [Int.tmod_eq_emod_of_nonneg (by omega)]; omega
          have z2 : D2 < 64 := by omega
          have zi2 : (D2 : Int) < 64 := by omega
          have y2 : IntKind.i64.wrap (D2 : Int) = (D2 : Int) := IntWalk.i64_in _ (by omega)
          obtain ⟨S2, hS2⟩ : ∃ S, sign D2 = S := ⟨_, rfl⟩
          have Q2 := Lib.hid (fun hd => (sign_lit z2 hd).trans hS2)
          have f2 : IntKind.i64.wrap ((V : Int) / 64) = (V : Int) / 64 := IntWalk.i64_in _ (by omega)
          have fV : IntKind.i64.wrap (V : Int) = (V : Int) := IntWalk.i64_in _ (by omega)
          have HDS := Lib.hid (And.intro (And.intro hD0 hS0) (And.intro (And.intro hD1 hS1) (And.intro (And.intro hD2 hS2) True.intro)))
          have HAL := Lib.hid (show group p = [S0, S1, S2, 61] from by rw [HGR2.out, hD0, hS0, hD1, hS1, hD2, hS2])
          clear HGR2 hV hpk hpl hpn cell hD0 hS0 z0 hD1 hS1 z1 hD2 hS2 z2 e0 e1
          clear hVi
          have HK0 := HK
          have HF0 := HF
          have HL0 := Lib.hid (show (ints G).length ≤ 160000 from by rw [ints_length]; omega)
          go_wp2
          refine wp_loop_rounds 5 ?_
          rw [rounds_succ]
          have hs0 : SlAt .u8 (wr.alloc (.cells #[.int .u8 (S0 : Int)] 5)) (some ⟨wr.heap.size, 0, none⟩) 1 [(S0 : Int)] := slAt_blk (blk_new _ _) rfl rfl
          have ho0 : Own .u8 5 (wr.alloc (.cells #[.int .u8 (S0 : Int)] 5)) ov (ints G) := HO.out.kept ((Kept.refl (fun _ => False) _).alloc _) (fun _ _ => id)
          have HB0 := Lib.hid (And.intro hs0 (And.intro ho0 (And.intro (show ((ints G).length + 1) * 1 ≤ 140737488355328 from by have := HL0.out; simp; omega) (show (ints G).length + 1 ≤ maxLen from by have := HL0.out; simp [maxLen]; omega))))
          have ka0 : Kept (fun _ => False) w (wr.alloc (.cells #[.int .u8 (S0 : Int)] 5)) := HK0.out.alloc _
          have KA0 := Lib.hid ka0
          clear hs0 ho0 ka0
          have q0 := Q0.out
          go_wp2_with (at_builtin; refine wpList_appInts rfl (.tmp 55) (.tmp 65) 28 rfl 5 .u8 i0 (.int .u8 0) 1 Try.underlying28 HI.out.1 HI.out.2.1 HI.out.2.2.1 HI.out.2.2.2 rfl ov _ rfl HB0.out.2.1 (some ⟨wr.heap.size, 0, none⟩) 1 1 [(S0 : Int)] rfl (fun h => by cases h) HB0.out.1 HB0.out.2.2.1 HB0.out.2.2.2 ?_; intro v0 w0x o0 k0x p0x)
          have HO1 := Lib.hid o0
          have HK1 := Lib.hid (Fresh.app KA0.out HF0.out k0x p0x).1
          have HF1 := Lib.hid (Fresh.app KA0.out HF0.out k0x p0x).2
          clear o0 k0x p0x q0
          go_wp2
          rw [rounds_succ]
          have hs1 : SlAt .u8 (w0x.alloc (.cells #[.int .u8 (S1 : Int)] 5)) (some ⟨w0x.heap.size, 0, none⟩) 1 [(S1 : Int)] := slAt_blk (blk_new _ _) rfl rfl
          have ho1 : Own .u8 5 (w0x.alloc (.cells #[.int .u8 (S1 : Int)] 5)) v0 (ints G ++ [(S0 : Int)]) := HO1.out.kept ((Kept.refl (fun _ => False) _).alloc _) (fun _ _ => id)
          have HB1 := Lib.hid (And.intro hs1 (And.intro ho1 (And.intro (show ((ints G ++ [(S0 : Int)]).length + 1) * 1 ≤ 140737488355328 from by have := HL0.out; simp; omega) (show (ints G ++ [(S0 : Int)]).length + 1 ≤ maxLen from by have := HL0.out; simp [maxLen]; omega))))
          have ka1 : Kept (fun _ => False) w (w0x.alloc (.cells #[.int .u8 (S1 : Int)] 5)) := HK1.out.alloc _
          have KA1 := Lib.hid ka1
          clear hs1 ho1 ka1
          have q1 := Q1.out
          go_wp2_with (at_builtin; refine wpList_appInts rfl (.tmp 55) (.tmp 65) 28 rfl 5 .u8 i0 (.int .u8 0) 1 Try.underlying28 HI.out.1 HI.out.2.1 HI.out.2.2.1 HI.out.2.2.2 rfl v0 _ rfl HB1.out.2.1 (some ⟨w0x.heap.size, 0, none⟩) 1 1 [(S1 : Int)] rfl (fun h => by cases h) HB1.out.1 HB1.out.2.2.1 HB1.out.2.2.2 ?_; intro v1 w1x o1 k1x p1x)
          have HO2 := Lib.hid o1
          have HK2 := Lib.hid (Fresh.app KA1.out HF1.out k1x p1x).1
          have HF2 := Lib.hid (Fresh.app KA1.out HF1.out k1x p1x).2
          clear o1 k1x p1x q1
          go_wp2
          rw [rounds_succ]
          have hs2 : SlAt .u8 (w1x.alloc (.cells #[.int .u8 (S2 : Int)] 5)) (some ⟨w1x.heap.size, 0, none⟩) 1 [(S2 : Int)] := slAt_blk (blk_new _ _) rfl rfl
          have ho2 : Own .u8 5 (w1x.alloc (.cells #[.int .u8 (S2 : Int)] 5)) v1 (ints G ++ [(S0 : Int)] ++ [(S1 : Int)]) := HO2.out.kept ((Kept.refl (fun _ => False) _).alloc _) (fun _ _ => id)
          have HB2 := Lib.hid (And.intro hs2 (And.intro ho2 (And.intro (show ((ints G ++ [(S0 : Int)] ++ [(S1 : Int)]).length + 1) * 1 ≤ 140737488355328 from by have := HL0.out; simp; omega) (show (ints G ++ [(S0 : Int)] ++ [(S1 : Int)]).length + 1 ≤ maxLen from by have := HL0.out; simp [maxLen]; omega))))
          have ka2 : Kept (fun _ => False) w (w1x.alloc (.cells #[.int .u8 (S2 : Int)] 5)) := HK2.out.alloc _
          have KA2 := Lib.hid ka2
          clear hs2 ho2 ka2
          have q2 := Q2.out
          go_wp2_with (at_builtin; refine wpList_appInts rfl (.tmp 55) (.tmp 65) 28 rfl 5 .u8 i0 (.int .u8 0) 1 Try.underlying28 HI.out.1 HI.out.2.1 HI.out.2.2.1 HI.out.2.2.2 rfl v1 _ rfl HB2.out.2.1 (some ⟨w1x.heap.size, 0, none⟩) 1 1 [(S2 : Int)] rfl (fun h => by cases h) HB2.out.1 HB2.out.2.2.1 HB2.out.2.2.2 ?_; intro v2 w2x o2 k2x p2x)
          have HO3 := Lib.hid o2
          have HK3 := Lib.hid (Fresh.app KA2.out HF2.out k2x p2x).1
          have HF3 := Lib.hid (Fresh.app KA2.out HF2.out k2x p2x).2
          clear o2 k2x p2x q2
          go_wp2
          rw [rounds_succ]
          have hs3 : SlAt .u8 (w2x.alloc (.cells #[.int .u8 61] 5)) (some ⟨w2x.heap.size, 0, none⟩) 1 [61] := slAt_blk (blk_new _ _) rfl rfl
          have ho3 : Own .u8 5 (w2x.alloc (.cells #[.int .u8 61] 5)) v2 (ints G ++ [(S0 : Int)] ++ [(S1 : Int)] ++ [(S2 : Int)]) := HO3.out.kept ((Kept.refl (fun _ => False) _).alloc _) (fun _ _ => id)
          have HB3 := Lib.hid (And.intro hs3 (And.intro ho3 (And.intro (show ((ints G ++ [(S0 : Int)] ++ [(S1 : Int)] ++ [(S2 : Int)]).length + 1) * 1 ≤ 140737488355328 from by have := HL0.out; simp; omega) (show (ints G ++ [(S0 : Int)] ++ [(S1 : Int)] ++ [(S2 : Int)]).length + 1 ≤ maxLen from by have := HL0.out; simp [maxLen]; omega))))
          have ka3 : Kept (fun _ => False) w (w2x.alloc (.cells #[.int .u8 61] 5)) := HK3.out.alloc _
          have KA3 := Lib.hid ka3
          clear hs3 ho3 ka3
          go_wp2_with (at_builtin; refine wpList_appInts rfl (.tmp 67) (.tmp 68) 28 rfl 5 .u8 i0 (.int .u8 0) 1 Try.underlying28 HI.out.1 HI.out.2.1 HI.out.2.2.1 HI.out.2.2.2 rfl v2 _ rfl HB3.out.2.1 (some ⟨w2x.heap.size, 0, none⟩) 1 1 [61] rfl (fun h => by cases h) HB3.out.1 HB3.out.2.2.1 HB3.out.2.2.2 ?_; intro v3 w3x o3 k3x p3x)
          have HO4 := Lib.hid o3
          have HK4 := Lib.hid (Fresh.app KA3.out HF3.out k3x p3x).1
          have HF4 := Lib.hid (Fresh.app KA3.out HF3.out k3x p3x).2
          clear o3 k3x p3x
          go_wp2
          rw [rounds_succ]
          go_wp2
          go_roundg (gk - 1)
          case rel =>
            refine ⟨j + 1, _, rfl, by omega, by omega, by simp; omega, ?_, HK4.out, HF4.out⟩
            rw [HGR.out, HAL.out, ints_append]
            have := HO4.out
            simp only [List.append_assoc, List.cons_append, List.nil_append] at this
            exact this
          case measure => omega
      · have g1 : decide ((I : Int) + 1 < (len : Int)) = false := decide_eq_false (by omega)
        have g2 : decide ((I : Int) + 2 < (len : Int)) = false := decide_eq_false (by omega)
        obtain ⟨V, hV⟩ : ∃ V : Nat, x0 * 65536 = V := ⟨_, rfl⟩
        have hVi : (x0 : Int) * 65536 = (V : Int) := by omega
        have hVl : V < 16777216 := by omega
        have s0' : IntKind.i64.wrap ((x0 : Int) * 65536) = (V : Int) := by rw [hVi]; exact IntWalk.i64_in _ (by omega)
        clear s0
        have HGR2 := Lib.hid (show group p = _ from group_four p V (by
          have hp3 : p = [x0] := by
            apply List.ext_getElem?
            intro k
            rcases k with _ | k
            · rw [hpk 0 (by omega), e0]; rfl
            · rw [List.getElem?_eq_none (by rw [hpl]; omega), List.getElem?_eq_none (by simp only [List.length_cons, List.length_nil]; omega)]
          rw [hp3]; simp [word]; omega) (by rw [hpl]; omega) (by rw [hpl]; omega))
        have hpn : p.length = 1 := by rw [hpl]; omega
        rw [hpn] at HGR2
        simp only [Nat.reduceLeDiff, if_true, if_false, Nat.le_refl] at HGR2
        obtain ⟨D0, hD0⟩ : ∃ D, V / 262144 % 64 = D := ⟨_, rfl⟩
        have d0 : ((V : Int) / 262144).tmod 64 = (D0 : Int) := by rw [Int.tmod_eq_emod_of_nonneg (by omega)]; omega
        have z0 : D0 < 64 := by omega
        have zi0 : (D0 : Int) < 64 := by omega
        have y0 : IntKind.i64.wrap (D0 : Int) = (D0 : Int) := IntWalk.i64_in _ (by omega)
        obtain ⟨S0, hS0⟩ : ∃ S, sign D0 = S := ⟨_, rfl⟩
        have Q0 := Lib.hid (fun hd => (sign_lit z0 hd).trans hS0)
        have f0 : IntKind.i64.wrap ((V : Int) / 262144) = (V : Int) / 262144 := IntWalk.i64_in _ (by omega)
        obtain ⟨D1, hD1⟩ : ∃ D, V / 4096 % 64 = D := ⟨_, rfl⟩
        have d1 : ((V : Int) / 4096).tmod 64 = (D1 : Int) := by rw [Int.tmod_eq_emod_of_nonneg (by omega)]; omega
        have z1 : D1 < 64 := by omega
        have zi1 : (D1 : Int) < 64 := by omega
        have y1 : IntKind.i64.wrap (D1 : Int) = (D1 : Int) := IntWalk.i64_in _ (by omega)
        obtain ⟨S1, hS1⟩ : ∃ S, sign D1 = S := ⟨_, rfl⟩
        have Q1 := Lib.hid (fun hd => (sign_lit z1 hd).trans hS1)
        have f1 : IntKind.i64.wrap ((V : Int) / 4096) = (V : Int) / 4096 := IntWalk.i64_in _ (by omega)
        have fV : IntKind.i64.wrap (V : Int) = (V : Int) := IntWalk.i64_in _ (by omega)
        have HDS := Lib.hid (And.intro (And.intro hD0 hS0) (And.intro (And.intro hD1 hS1) True.intro))
        have HAL := Lib.hid (show group p = [S0, S1, 61, 61] from by rw [HGR2.out, hD0, hS0, hD1, hS1])
        clear HGR2 hV hpk hpl hpn cell hD0 hS0 z0 hD1 hS1 z1 e0
        clear hVi
        have HK0 := HK
        have HF0 := HF
        have HL0 := Lib.hid (show (ints G).length ≤ 160000 from by rw [ints_length]; omega)
        go_wp2
        refine wp_loop_rounds 5 ?_
        rw [rounds_succ]
        have hs0 : SlAt .u8 (wr.alloc (.cells #[.int .u8 (S0 : Int)] 5)) (some ⟨wr.heap.size, 0, none⟩) 1 [(S0 : Int)] := slAt_blk (blk_new _ _) rfl rfl
        have ho0 : Own .u8 5 (wr.alloc (.cells #[.int .u8 (S0 : Int)] 5)) ov (ints G) := HO.out.kept ((Kept.refl (fun _ => False) _).alloc _) (fun _ _ => id)
        have HB0 := Lib.hid (And.intro hs0 (And.intro ho0 (And.intro (show ((ints G).length + 1) * 1 ≤ 140737488355328 from by have := HL0.out; simp; omega) (show (ints G).length + 1 ≤ maxLen from by have := HL0.out; simp [maxLen]; omega))))
        have ka0 : Kept (fun _ => False) w (wr.alloc (.cells #[.int .u8 (S0 : Int)] 5)) := HK0.out.alloc _
        have KA0 := Lib.hid ka0
        clear hs0 ho0 ka0
        have q0 := Q0.out
        go_wp2_with (at_builtin; refine wpList_appInts rfl (.tmp 55) (.tmp 65) 28 rfl 5 .u8 i0 (.int .u8 0) 1 Try.underlying28 HI.out.1 HI.out.2.1 HI.out.2.2.1 HI.out.2.2.2 rfl ov _ rfl HB0.out.2.1 (some ⟨wr.heap.size, 0, none⟩) 1 1 [(S0 : Int)] rfl (fun h => by cases h) HB0.out.1 HB0.out.2.2.1 HB0.out.2.2.2 ?_; intro v0 w0x o0 k0x p0x)
        have HO1 := Lib.hid o0
        have HK1 := Lib.hid (Fresh.app KA0.out HF0.out k0x p0x).1
        have HF1 := Lib.hid (Fresh.app KA0.out HF0.out k0x p0x).2
        clear o0 k0x p0x q0
        go_wp2
        rw [rounds_succ]
        have hs1 : SlAt .u8 (w0x.alloc (.cells #[.int .u8 (S1 : Int)] 5)) (some ⟨w0x.heap.size, 0, none⟩) 1 [(S1 : Int)] := slAt_blk (blk_new _ _) rfl rfl
        have ho1 : Own .u8 5 (w0x.alloc (.cells #[.int .u8 (S1 : Int)] 5)) v0 (ints G ++ [(S0 : Int)]) := HO1.out.kept ((Kept.refl (fun _ => False) _).alloc _) (fun _ _ => id)
        have HB1 := Lib.hid (And.intro hs1 (And.intro ho1 (And.intro (show ((ints G ++ [(S0 : Int)]).length + 1) * 1 ≤ 140737488355328 from by have := HL0.out; simp; omega) (show (ints G ++ [(S0 : Int)]).length + 1 ≤ maxLen from by have := HL0.out; simp [maxLen]; omega))))
        have ka1 : Kept (fun _ => False) w (w0x.alloc (.cells #[.int .u8 (S1 : Int)] 5)) := HK1.out.alloc _
        have KA1 := Lib.hid ka1
        clear hs1 ho1 ka1
        have q1 := Q1.out
        go_wp2_with (at_builtin; refine wpList_appInts rfl (.tmp 55) (.tmp 65) 28 rfl 5 .u8 i0 (.int .u8 0) 1 Try.underlying28 HI.out.1 HI.out.2.1 HI.out.2.2.1 HI.out.2.2.2 rfl v0 _ rfl HB1.out.2.1 (some ⟨w0x.heap.size, 0, none⟩) 1 1 [(S1 : Int)] rfl (fun h => by cases h) HB1.out.1 HB1.out.2.2.1 HB1.out.2.2.2 ?_; intro v1 w1x o1 k1x p1x)
        have HO2 := Lib.hid o1
        have HK2 := Lib.hid (Fresh.app KA1.out HF1.out k1x p1x).1
        have HF2 := Lib.hid (Fresh.app KA1.out HF1.out k1x p1x).2
        clear o1 k1x p1x q1
        go_wp2
        rw [rounds_succ]
        have hs2 : SlAt .u8 (w1x.alloc (.cells #[.int .u8 61] 5)) (some ⟨w1x.heap.size, 0, none⟩) 1 [61] := slAt_blk (blk_new _ _) rfl rfl
        have ho2 : Own .u8 5 (w1x.alloc (.cells #[.int .u8 61] 5)) v1 (ints G ++ [(S0 : Int)] ++ [(S1 : Int)]) := HO2.out.kept ((Kept.refl (fun _ => False) _).alloc _) (fun _ _ => id)
        have HB2 := Lib.hid (And.intro hs2 (And.intro ho2 (And.intro (show ((ints G ++ [(S0 : Int)] ++ [(S1 : Int)]).length + 1) * 1 ≤ 140737488355328 from by have := HL0.out; simp; omega) (show (ints G ++ [(S0 : Int)] ++ [(S1 : Int)]).length + 1 ≤ maxLen from by have := HL0.out; simp [maxLen]; omega))))
        have ka2 : Kept (fun _ => False) w (w1x.alloc (.cells #[.int .u8 61] 5)) := HK2.out.alloc _
        have KA2 := Lib.hid ka2
        clear hs2 ho2 ka2
        go_wp2_with (at_builtin; refine wpList_appInts rfl (.tmp 67) (.tmp 68) 28 rfl 5 .u8 i0 (.int .u8 0) 1 Try.underlying28 HI.out.1 HI.out.2.1 HI.out.2.2.1 HI.out.2.2.2 rfl v1 _ rfl HB2.out.2.1 (some ⟨w1x.heap.size, 0, none⟩) 1 1 [61] rfl (fun h => by cases h) HB2.out.1 HB2.out.2.2.1 HB2.out.2.2.2 ?_; intro v2 w2x o2 k2x p2x)
        have HO3 := Lib.hid o2
        have HK3 := Lib.hid (Fresh.app KA2.out HF2.out k2x p2x).1
        have HF3 := Lib.hid (Fresh.app KA2.out HF2.out k2x p2x).2
        clear o2 k2x p2x
        go_wp2
        rw [rounds_succ]
        have hs3 : SlAt .u8 (w2x.alloc (.cells #[.int .u8 61] 5)) (some ⟨w2x.heap.size, 0, none⟩) 1 [61] := slAt_blk (blk_new _ _) rfl rfl
        have ho3 : Own .u8 5 (w2x.alloc (.cells #[.int .u8 61] 5)) v2 (ints G ++ [(S0 : Int)] ++ [(S1 : Int)] ++ [61]) := HO3.out.kept ((Kept.refl (fun _ => False) _).alloc _) (fun _ _ => id)
        have HB3 := Lib.hid (And.intro hs3 (And.intro ho3 (And.intro (show ((ints G ++ [(S0 : Int)] ++ [(S1 : Int)] ++ [61]).length + 1) * 1 ≤ 140737488355328 from by have := HL0.out; simp; omega) (show (ints G ++ [(S0 : Int)] ++ [(S1 : Int)] ++ [61]).length + 1 ≤ maxLen from by have := HL0.out; simp [maxLen]; omega))))
        have ka3 : Kept (fun _ => False) w (w2x.alloc (.cells #[.int .u8 61] 5)) := HK3.out.alloc _
        have KA3 := Lib.hid ka3
        clear hs3 ho3 ka3
        go_wp2_with (at_builtin; refine wpList_appInts rfl (.tmp 67) (.tmp 68) 28 rfl 5 .u8 i0 (.int .u8 0) 1 Try.underlying28 HI.out.1 HI.out.2.1 HI.out.2.2.1 HI.out.2.2.2 rfl v2 _ rfl HB3.out.2.1 (some ⟨w2x.heap.size, 0, none⟩) 1 1 [61] rfl (fun h => by cases h) HB3.out.1 HB3.out.2.2.1 HB3.out.2.2.2 ?_; intro v3 w3x o3 k3x p3x)
        have HO4 := Lib.hid o3
        have HK4 := Lib.hid (Fresh.app KA3.out HF3.out k3x p3x).1
        have HF4 := Lib.hid (Fresh.app KA3.out HF3.out k3x p3x).2
        clear o3 k3x p3x
        go_wp2
        rw [rounds_succ]
        go_wp2
        go_roundg (gk - 1)
        case rel =>
          refine ⟨j + 1, _, rfl, by omega, by omega, by simp; omega, ?_, HK4.out, HF4.out⟩
          rw [HGR.out, HAL.out, ints_append]
          have := HO4.out
          simp only [List.append_assoc, List.cons_append, List.nil_append] at this
          exact this
        case measure => omega
    · have g0 : decide (I < len) = false := decide_eq_false h0
      have hjM2 : j = M := by have := HM.out; omega
      go_wp2
      refine bodyPost_ret (v := ov) (by simp [results, Try.results20, go_sem]) rfl ?_
      refine ⟨ov, rfl, ?_, HK.out⟩
      have e : G = enc bs := by rw [← HG.out, hjM2, ← HM.out, ← HLN.out]; exact groups_all bs
      rw [← e]
      exact Res.of_own HO.out HF.out
end Go.Proofs.Ytgmbjebighhgkaa
