/- The law ParseStrings, the way dcs. -/
import Derived.Test.YtnaoobgghgnflaaStrP
import Derived.Test.YtnaoobgghgnflaaKnown
import Derived.Test.YtnaoobgghgnflaaMark3
import Derived.Test.YtnaoobgghgnflaaLEnds
import Derived.Deep.DeepCutAuto
namespace Go.Proofs.Ytnaoobgghgnflaa
open Go.RowKit Pl
set_option linter.unusedVariables false
set_option linter.unusedSimpArgs false
set_option maxRecDepth 100000 in
set_option maxHeartbeats 16000000 in
theorem strings_dcs (kd : Int) (fk : bits BinOp.and .i64 kd 3 = 1) (q0 : Option Addr) (len1 cap1 : Nat) (ys : List Int) (W : World) (hs1 : SlAt .u8 W q0 len1 ys) (hby1 : ∀ x ∈ ys, 0 ≤ x ∧ x < 256) (hbl1 : ∀ b off, 0 < len1 → q0 = some ⟨b, off, none⟩ → b < W.heap.size) :
    Calls Try.prog 5 #[.int .i64 kd, .slice q0 len1 cap1] W fun e w' => e = .returned (.bool true) ∧ Below W.heap.size W w' := by
  have hyl := hs1.1
  have FK := Lib.hid fk
  clear fk
  go_enter Try.func5, Try.ntmps5
  go_wp2_with fail
  refine (known_any W).mono ?_
  rintro e w1 ⟨rfl, hk1⟩
  have HK1 := Lib.hid hk1
  clear hk1
  by_cases c2 : 4096 < len1
  · have g2 : decide ((4096 : Int) < (len1 : Int)) = true := decide_eq_true (by omega)
    have g2' : decide (4096 < len1) = true := decide_eq_true c2
    go_wp2
    exact bodyPost_ret (v := .bool true) (by simp [results, Try.results5, go_sem]) rfl ⟨rfl, HK1.out.below⟩
  have g2 : decide ((4096 : Int) < (len1 : Int)) = false := decide_eq_false (by omega)
  have g2' : decide (4096 < len1) = false := decide_eq_false c2
  have HB := Lib.hid (And.intro hs1 (And.intro hby1 (And.intro hbl1 hyl)))
  clear hs1 hby1 hbl1 hyl
  obtain ⟨i0, hi, hz, hsz, hby⟩ := info_parts Try.infoByte
  have HI := Lib.hid (And.intro hi (And.intro hz (And.intro hsz hby)))
  have h63 : (9223372036854775807 : Nat) = maxLen := rfl
  clear hi hz hsz hby
  go_wp2
  go_loopg [5, 6] len1 (fun gg g0 kv wr => ∃ (k : Nat) (gv : Value), gv = g0 ∧ len1 ≤ gg + k ∧ k ≤ len1 ∧ kv = .int .i64 (k : Int) ∧ Own .u8 5 wr gv ((ys.take k).filter keepB) ∧ (∀ b, gv.ownBlock = some b → W.heap.size ≤ b) ∧ Kept (fun _ => False) W wr)
  case atStart => exact ⟨0, _, rfl, by omega, by omega, rfl, Own.nil _ _ _, (fun _ h => by cases h), HK1.out⟩
  case round =>
    obtain ⟨k, gv, rfl, hgg, hkn, rfl, hog, hgb, hk⟩ := hrel
    have HG := Lib.hid (And.intro hog (And.intro hgb hk))
    by_cases hk1 : k < len1
    · have g3 : decide (k < len1) = true := decide_eq_true hk1
      have g3' : decide ((k : Int) < (len1 : Int)) = true := decide_eq_true (by omega)
      have wk : IntKind.i64.wrap ((k : Int) + 1) = (k : Int) + 1 := IntWalk.i64_in _ (by omega)
      have hky : k < ys.length := by rw [HB.out.2.2.2]; exact hk1
      obtain ⟨c, hc⟩ : ∃ c, ys[k]? = some c := ⟨_, List.getElem?_eq_getElem hky⟩
      obtain ⟨b, off, rfl, -⟩ := HB.out.1.2.resolve_left (by omega)
      have hcx := sl_at (HB.out.1.kept hk (fun _ _ _ _ => id)) hc
      have HC := Lib.hid hc
      clear hky hc hog hgb hk
      cases t0 : (c != 24) with
      | false =>
        have HP := Lib.hid (show keepB c = false by unfold keepB; simp only [t0, Bool.true_and, Bool.false_and])
        go_wp2
        go_roundg (gk - 1)
        case rel => exact ⟨k + 1, gv, rfl, by omega, by omega, by simp, by rw [filtK_no HC.out HP.out]; exact HG.out.1, HG.out.2.1, HG.out.2.2⟩
        case measure => omega
      | true =>
        cases t1 : (c != 26) with
        | false =>
          have HP := Lib.hid (show keepB c = false by unfold keepB; simp only [t0, t1, Bool.true_and, Bool.false_and])
          go_wp2
          go_roundg (gk - 1)
          case rel => exact ⟨k + 1, gv, rfl, by omega, by omega, by simp, by rw [filtK_no HC.out HP.out]; exact HG.out.1, HG.out.2.1, HG.out.2.2⟩
          case measure => omega
        | true =>
          cases t2 : (c != 27) with
          | false =>
            have HP := Lib.hid (show keepB c = false by unfold keepB; simp only [t0, t1, t2, Bool.true_and, Bool.false_and])
            go_wp2
            go_roundg (gk - 1)
            case rel => exact ⟨k + 1, gv, rfl, by omega, by omega, by simp, by rw [filtK_no HC.out HP.out]; exact HG.out.1, HG.out.2.1, HG.out.2.2⟩
            case measure => omega
          | true =>
            cases t3 : (c != 7) with
            | false =>
              have HP := Lib.hid (show keepB c = false by unfold keepB; simp only [t0, t1, t2, t3, Bool.true_and, Bool.false_and])
              go_wp2
              go_roundg (gk - 1)
              case rel => exact ⟨k + 1, gv, rfl, by omega, by omega, by simp, by rw [filtK_no HC.out HP.out]; exact HG.out.1, HG.out.2.1, HG.out.2.2⟩
              case measure => omega
            | true =>
              cases t4 : (c != 127) with
              | false =>
                have HP := Lib.hid (show keepB c = false by unfold keepB; simp only [t0, t1, t2, t3, t4, Bool.true_and, Bool.false_and])
                go_wp2
                go_roundg (gk - 1)
                case rel => exact ⟨k + 1, gv, rfl, by omega, by omega, by simp, by rw [filtK_no HC.out HP.out]; exact HG.out.1, HG.out.2.1, HG.out.2.2⟩
                case measure => omega
              | true =>
                cases t5 : decide (32 ≤ c) with
                | false =>
                  have HP := Lib.hid (show keepB c = false by unfold keepB; simp only [t0, t1, t2, t3, t4, t5, Bool.true_and, Bool.false_and])
                  go_wp2
                  go_roundg (gk - 1)
                  case rel => exact ⟨k + 1, gv, rfl, by omega, by omega, by simp, by rw [filtK_no HC.out HP.out]; exact HG.out.1, HG.out.2.1, HG.out.2.2⟩
                  case measure => omega
                | true =>
                  have HP := Lib.hid (show keepB c = true by unfold keepB; simp only [t0, t1, t2, t3, t4, t5, Bool.true_and])
                  obtain ⟨ga, gc, hge, -⟩ := HG.out.1.shape
                  have hfl : ((ys.take k).filter keepB).length ≤ 4096 := by have h1 := List.length_filter_le keepB (ys.take k); have h2 := List.length_take_le k ys; omega
                  obtain ⟨gn, hgn⟩ : ∃ n, ((ys.take k).filter keepB).length = n := ⟨_, rfl⟩
                  rw [hgn] at hge hfl
                  subst hge
                  have HN := Lib.hid hgn
                  obtain ⟨W2, hW2⟩ : ∃ W2, wr.alloc (.cells #[.int .u8 c] 5) = W2 := ⟨_, rfl⟩
                  have hk2 : Kept (fun _ => False) wr W2 := by rw [← hW2]; exact (Kept.refl _ _).alloc _
                  have hs2 : SlAt .u8 W2 (some ⟨wr.heap.size, 0, none⟩) 1 [c] := by rw [← hW2]; exact slAt_one wr c 5
                  have HW := Lib.hid (And.intro (HG.out.1.kept hk2 (fun _ _ => id)) (And.intro hs2 (And.intro hk2 hk2.size)))
                  clear hk2 hs2 hgn
                  go_wp2_with (first
                    | (at_builtin; refine wpList_appInts rfl (.tmp 63) (.tmp 68) 22 rfl 5 .u8 i0 (.int .u8 0) 1 Try.underlying22 HI.out.1 HI.out.2.1 HI.out.2.2.1 HI.out.2.2.2 rfl (.slice ga gn gc) _ rfl HW.out.1 (some ⟨wr.heap.size, 0, none⟩) 1 1 [c] rfl (fun h => by cases h) HW.out.2.1 (by have := HN.out; omega) (by have := HN.out; omega) ?_; intro v8 w8 ho8 hk8 hpr8; have H8 := Lib.hid (And.intro ho8 (And.intro hk8 hpr8)); clear ho8 hk8 hpr8))
                  go_roundg (gk - 1)
                  case rel =>
                    obtain ⟨ho8, hk8, hpr8⟩ := H8.out
                    have hzz := HG.out.2.2.size
                    have hz2 := HW.out.2.2.2
                    refine ⟨k + 1, v8, rfl, by omega, by omega, by simp, by rw [filtK_yes HC.out HP.out]; exact ho8, fun b hb => ?_, (HG.out.2.2.then HW.out.2.2.1).trans (hk8.mono fun i _ h => Or.inr (HG.out.2.1 i h))⟩
                    rcases hpr8 with h | h
                    · exact HG.out.2.1 b (by rw [← h]; exact hb)
                    · rw [hb] at h; cases h; omega
                  case measure => omega
    · obtain rfl : k = len1 := by omega
      have g3 : decide (k < k) = false := decide_eq_false hk1
      have g3' : decide ((k : Int) < (k : Int)) = false := decide_eq_false (by omega)
      have hall : ys.take k = ys := List.take_of_length_le (Nat.le_of_eq HB.out.2.2.2)
      rw [hall] at hog
      obtain ⟨zs, hzs⟩ : ∃ z, ys.filter keepB = z := ⟨_, rfl⟩
      have hzl : zs.length ≤ 4096 := by rw [← hzs]; have h1 := List.length_filter_le keepB ys; have h2 := HB.out.2.2.2; omega
      have hzb : ∀ c ∈ zs, keepB c = true := by
        intro c hc
        rw [← hzs] at hc
        exact (List.mem_filter.1 hc).2
      have hz256 : ∀ c ∈ zs, 0 ≤ c ∧ c < 256 := by
        intro c hc
        rw [← hzs] at hc
        exact HB.out.2.1 c (List.mem_filter.1 hc).1
      rw [hzs] at hog
      have hol := hog.lt
      have hpl := own_pl hog
      obtain ⟨ga, gc, hge, hgs, hgl, -, hgnil, hgo⟩ := hog.shape
      obtain ⟨n5, hn5⟩ : ∃ n, zs.length = n := ⟨_, rfl⟩
      rw [hn5] at hge hgs hgl hgnil hzl
      subst hge
      obtain ⟨S, hS1, hS2⟩ := fed_dcs zs hzb
      have HZ := Lib.hid (And.intro hz256 (And.intro hn5 (And.intro hgs (And.intro hgnil (And.intro hk (And.intro hS1 (And.intro hS2 (And.intro hgo (And.intro hol (And.intro hgb (And.intro hpl hgl)))))))))))
      have HPL := Lib.hid (show ∀ q, ga = some q → ∃ b off, q = ⟨b, off, none⟩ from fun q hq => by
        rcases hpl with h | ⟨g, cp, h⟩
        · injection h with h; rw [hq] at h; cases h
        · injection h with h; rw [hq] at h; cases h; exact ⟨_, _, rfl⟩)
      have HPL3 := Lib.hid (show (ga = none ∧ n5 = 0 ∧ gc = 0) ∨ ∃ g, ga = some ⟨g, 0, none⟩ from by
        rcases hpl with h | ⟨g, cp, h⟩
        · injection h with h1 h2 h3; exact .inl ⟨h1, h2, h3⟩
        · injection h with h1 h2 h3; exact .inr ⟨g, h1⟩)
      have HPL2 := Lib.hid (show 0 < n5 → ∃ g, ga = some ⟨g, 0, none⟩ from fun h0 => by
        rcases HPL3.out with ⟨-, h, -⟩ | h
        · omega
        · exact h)
      have n5' : ¬ n5 > 4096 := by omega
      have FKo := FK.out
      clear hall hzs hzb hz256 hog hol hgs hgl hgnil hgo hn5 hgb hk HG hS1 hS2 hpl
      go_wp2_with fail
      refine (new_any wr).mono ?_
      rintro r9 w2 ⟨p, G, rfl, hP2, hG2, hk2⟩
      obtain ⟨w3, cap3, hcv, ho3, hk3, hz3⟩ := OX.conv w2 [27, 80, 53, 113] (by decide) { data := #[27, 80, 53, 113] } (by rfl) (by simp)
      have H3 := Lib.hid (And.intro ho3 (And.intro hk3 (And.intro hz3 (And.intro hP2 (And.intro hG2 (And.intro hk2 ((HZ.out.2.2.1.kept (hk2.then hk3) (fun _ _ _ _ => id)))))))))
      clear ho3 hk3 hz3 hP2 hG2 hk2
      go_wp2_with (first
        | (at_builtin; refine wpList_addX rfl _ _ rfl i0 HI.out.1 HI.out.2.1 HI.out.2.2.1 HI.out.2.2.2 (.slice (some ⟨w2.heap.size, 0, none⟩) 4 cap3) [27, 80, 53, 113] rfl H3.out.1 ga n5 gc zs rfl HZ.out.2.2.2.1 H3.out.2.2.2.2.2.2 (fun q hq => HPL.out q hq) (by simp; omega) ?_; intro v4 w4 ho4 hk4 hpr4 hn4; have H4 := Lib.hid (And.intro ho4 (And.intro hk4 (And.intro hpr4 (hn4 (by simp [Value.ownBlock]))))); clear ho4 hk4 hpr4 hn4)
        | (at_builtin; refine wpList_addS rfl _ _ rfl i0 HI.out.1 HI.out.2.1 HI.out.2.2.1 HI.out.2.2.2 v4 _ rfl H4.out.1 H4.out.2.2.2 _ [27, 92] (by rfl) rfl (by have := HZ.out.2.1; simp; omega) ?_; intro v5 w5 ho5 hk5 hpr5 hn5; have H5 := Lib.hid (And.intro ho5 (And.intro hk5 hpr5)); clear ho5 hk5 hpr5 hn5))
      obtain ⟨a5, c5, hv5, hs5, hl5, -, hnil5, hob5⟩ := H5.out.1.shape
      have hxe : ([27, 80, 53, 113] ++ zs ++ [27, 92] : List Int) = 27 :: 80 :: 53 :: 113 :: (zs ++ [27, 92]) := by simp
      have hxl : ([27, 80, 53, 113] ++ zs ++ [27, 92] : List Int).length = n5 + 6 := by have := HZ.out.2.1; simp; omega
      rw [hxl] at hv5 hs5 hl5 hnil5
      rw [hxe] at hs5
      have hGlt : ∀ i, G i → i < w2.heap.size := H3.out.2.2.2.1.lt
      have hG2 := H3.out.2.2.2.2.1
      have hz23 := H3.out.2.1.size
      have q4 : ∀ b, v4.ownBlock = some b → w2.heap.size ≤ b := fun b hb => by
        rcases H4.out.2.2.1 with h | h
        · have h9 : some b = some w2.heap.size := by rw [← hb, h]; rfl
          cases h9; omega
        · rw [hb] at h; cases h; omega
      have hz34 := H4.out.2.1.size
      have q5 : ∀ b, v5.ownBlock = some b → w2.heap.size ≤ b := fun b hb => by
        rcases H5.out.2.2 with h | h
        · exact q4 b (by rw [← h]; exact hb)
        · rw [hb] at h; cases h; omega
      have k25 : Kept (fun _ => False) w2 w5 := (H3.out.2.1.trans (H4.out.2.1.mono fun i _ h => .inr (by cases h; exact Nat.le_refl _))).trans (H5.out.2.1.mono fun i _ h => .inr (q4 i h))
      have hP5 : PQ G w5 p ps0 := H3.out.2.2.2.1.kept k25 (fun _ _ h => h)
      have hzw : SlAt .u8 w5 ga n5 zs := HZ.out.2.2.1.kept (H3.out.2.2.2.2.2.1.then k25) (fun _ _ _ _ => id)
      have hk5 : Kept (fun _ => False) W w5 := (HZ.out.2.2.2.2.1.then H3.out.2.2.2.2.2.1).then k25
      have hlt5 := H5.out.1.lt
      have hby5 : ∀ x ∈ (27 :: 80 :: 53 :: 113 :: (zs ++ [27, 92]) : List Int), 0 ≤ x ∧ x < 256 := by
        intro x hx
        simp at hx
        have h1 := HZ.out.1 x
        by_cases hxz : x ∈ zs
        · exact h1 hxz
        · simp [hxz] at hx; omega
      have HF := Lib.hid (feed_any G w5 p ps0 a5 (n5 + 6) c5 (27 :: 80 :: 53 :: 113 :: (zs ++ [27, 92])) hP5 hs5 hby5 hnil5 hl5 (by have := HZ.out.2.1; omega) (fun b off h0 h => ⟨fun hg => by have h1 := q5 b (hob5 b off h); have h2 := hGlt b hg; omega, hlt5 b (hob5 b off h)⟩))
      subst hv5
      have hWr := HZ.out.2.2.2.2.1.size
      have HX := Lib.hid (And.intro hzw (And.intro hk5 hG2))
      clear hs5 hl5 hnil5 hob5 hxe hxl hGlt hG2 hz23 q4 hz34 q5 k25 hP5 hzw hk5 hlt5 hby5
      go_wp2_with fail
      refine HF.out.mono ?_
      rintro r w6 ⟨v6, G6, rfl, hev6, hP6, hG6, hk6⟩
      obtain ⟨Vs6, ho6, hel6, hm6⟩ := hev6
      have hfd := HZ.out.2.2.2.2.2.1
      rw [HZ.out.2.1] at hfd
      rw [hfd] at hel6 hP6
      obtain ⟨n6, hn6⟩ : ∃ n, Vs6.length = n := ⟨_, rfl⟩
      have hl6 := hel6.length
      rw [hn6] at hl6
      have hl6' : n6 ≤ 3 := by rw [hl6]; show (Ldcs zs).length ≤ 3; unfold Ldcs; (try split); all_goals simp
      obtain ⟨a6, c6, hv6, hs6, -⟩ := ho6.shape
      rw [hn6] at hv6 hs6
      subst hv6
      have HJ := Lib.hid (join_any w6 a6 n6 c6 Vs6 _ hs6 (hel6.kept (Kept.refl (fun _ => False) w6) (fun _ _ h => h.elim) (fun _ h => h.elim)) (apart_dcs zs) (by omega) (small_dcs zs (by have := HZ.out.2.1; omega)))
      have hgz : ∀ b off, ga = some ⟨b, off, none⟩ → ¬ G b := fun b off h hg => by
        have h1 := HZ.out.2.2.2.2.2.2.2.2.1 b (HZ.out.2.2.2.2.2.2.2.1 b off h)
        have h2 := HX.out.2.2 b hg
        omega
      have HP := Lib.hid (And.intro hP6 (And.intro (HX.out.1.kept hk6 (fun b off _ h => hgz b off h)) (HX.out.2.1.trans (hk6.mono fun i _ h => Or.inr (Nat.le_trans hWr (HX.out.2.2 i h))))))
      have HL6 := Lib.hid hl6
      clear ho6 hel6 hm6 hP6 hG6 hk6 hs6 hn6 hgz hfd hWr hl6
      go_wp2_with fail
      refine HJ.out.mono ?_
      rintro r w7 ⟨a7, c7, Vs7, rfl, hs7, hel7, hb7, hk7⟩
      have HGR := Lib.hid (show Calls Try.prog 10 #[.pointer (some ⟨p, 0, none⟩)] w7 fun r w' => r = .returned (.bool true) ∧ w' = w7 from by
        have h := isground_any G6 w7 p _ (HP.out.1.kept hk7 (fun _ _ h => h))
        rw [HZ.out.2.2.2.2.2.2.1] at h
        exact h)
      have hzw7 := HP.out.2.1.kept hk7 (fun _ _ _ _ => id)
      have HKZ := Lib.hid (HP.out.2.2.then hk7)
      have H7 := Lib.hid (And.intro hs7 (And.intro hel7 hzw7))
      clear hs7 hel7 hb7 hk7 hzw7
      go_wp2_with fail
      refine HGR.out.mono ?_
      rintro r w8 ⟨rfl, rfl⟩
      have hl6 := HL6.out
      have hzl := HZ.out.2.1
      by_cases c5 : n5 = 0
      · have hz0 : zs = [] := List.eq_nil_of_length_eq_zero (by omega)
        unfold Ldcs at hl6
        rw [if_pos hz0] at hl6
        simp only [List.length_cons, List.length_nil] at hl6
        subst hl6
        have n5z : ((n5 : Int) == 0) = true := by simp; omega
        obtain ⟨hs7, hel7, hzw7⟩ := H7.out
        unfold Ldcs at hel7
        rw [if_pos hz0] at hel7
        have kE : Kept (fun _ => False) w8 w8 := Kept.refl _ _
        obtain ⟨u0, hu0⟩ : ∃ u, Vs7[0]? = some u := ⟨_, List.getElem?_eq_getElem (by rw [hs7.1]; omega)⟩
        obtain ⟨u1, hu1⟩ : ∃ u, Vs7[1]? = some u := ⟨_, List.getElem?_eq_getElem (by rw [hs7.1]; omega)⟩
        obtain ⟨b7, o7, rfl, p0⟩ := pat_of hs7 hu0
        obtain ⟨b7', o7', hq1, p1⟩ := pat_of hs7 hu1
        cases hq1
        obtain ⟨e0, he0, ht0⟩ := hel7.get hu0
        simp at he0
        subst he0
        have z0 : u0.k = 6 := ht0.1
        obtain ⟨d00, -, d02, -, -, -, d06⟩ := (p0.kept kE id).cells
        rw [z0] at d00
        obtain ⟨e1, he1, ht1⟩ := hel7.get hu1
        simp at he1
        subst he1
        have z1 : u1.k = 8 := ht1.1
        obtain ⟨d10, -, d12, -, -, -, d16⟩ := (p1.kept kE id).cells
        rw [z1] at d10
        have zb : u1.b = 1 := ht1.2.2.1
        rw [zb] at d12
        rw [show o7 + 0 * 7 = o7 by omega] at d00
        rw [show o7 + 1 * 7 = o7 + 7 by omega] at d10 d12
        clear d02 d06 d16
        have w1' : IntKind.i64.wrap 7 = 7 := IntWalk.i64_in _ (by omega)
        have w2' : IntKind.i64.wrap 8 = 8 := IntWalk.i64_in _ (by omega)
        have HKE := Lib.hid (HKZ.out.then kE)
        clear hs7 hel7 hzw7 hu0 p0 ht0 z0 hu1 p1 ht1 z1 zb kE hzl hz0 c5
        go_wp2
        exact bodyPost_ret (v := .bool true) (by simp [results, Try.results5, go_sem]) rfl ⟨rfl, HKE.out.below⟩
      · have hz0 : zs ≠ [] := fun h => by rw [h] at hzl; exact c5 (by simpa using hzl.symm)
        unfold Ldcs at hl6
        rw [if_neg hz0] at hl6
        simp only [List.length_cons, List.length_nil] at hl6
        subst hl6
        have n5z : ((n5 : Int) == 0) = false := by simp; omega
        obtain ⟨hs7, hel7, hzw7⟩ := H7.out
        unfold Ldcs at hel7
        rw [if_neg hz0] at hel7
        obtain ⟨E1, hE1⟩ : ∃ E, w8.drew = E := ⟨_, rfl⟩
        have kE : Kept (fun _ => False) w8 E1 := by rw [← hE1]; exact (Kept.refl _ _).drew
        obtain ⟨u0, hu0⟩ : ∃ u, Vs7[0]? = some u := ⟨_, List.getElem?_eq_getElem (by rw [hs7.1]; omega)⟩
        obtain ⟨u1, hu1⟩ : ∃ u, Vs7[1]? = some u := ⟨_, List.getElem?_eq_getElem (by rw [hs7.1]; omega)⟩
        obtain ⟨u2, hu2⟩ : ∃ u, Vs7[2]? = some u := ⟨_, List.getElem?_eq_getElem (by rw [hs7.1]; omega)⟩
        obtain ⟨b7, o7, rfl, p0⟩ := pat_of hs7 hu0
        obtain ⟨b7', o7', hq1, p1⟩ := pat_of hs7 hu1
        cases hq1
        obtain ⟨b7', o7', hq2, p2⟩ := pat_of hs7 hu2
        cases hq2
        obtain ⟨e0, he0, ht0⟩ := hel7.get hu0
        simp at he0
        subst he0
        have z0 : u0.k = 6 := ht0.1
        obtain ⟨d00, -, d02, -, -, -, d06⟩ := (p0.kept kE id).cells
        rw [z0] at d00
        obtain ⟨e1, he1, ht1⟩ := hel7.get hu1
        simp at he1
        subst he1
        have z1 : u1.k = 7 := ht1.1
        obtain ⟨d10, -, d12, -, -, -, d16⟩ := (p1.kept kE id).cells
        rw [z1] at d10
        obtain ⟨e2, he2, ht2⟩ := hel7.get hu2
        simp at he2
        subst he2
        have z2 : u2.k = 8 := ht2.1
        obtain ⟨d20, -, d22, -, -, -, d26⟩ := (p2.kept kE id).cells
        rw [z2] at d20
        have zb : u2.b = 1 := ht2.2.2.1
        rw [zb] at d22
        rw [show o7 + 0 * 7 = o7 by omega] at d00
        rw [show o7 + 1 * 7 = o7 + 7 by omega] at d10 d16
        rw [show o7 + 2 * 7 = o7 + 14 by omega] at d20 d22
        have zd : SlAt .u8 w8 u1.ad u1.nd zs := ht1.2.2.2.2.2.2.1
        have cvA := run_str (P := Try.prog) Try.underlying22 Try.underlying5 Try.underlying9 (zd.kept kE (fun _ _ _ _ => id)) (cap := u1.cd)
        have cvB := run_str (P := Try.prog) Try.underlying22 Try.underlying5 Try.underlying9 (hzw7.kept kE (fun _ _ _ _ => id)) (cap := gc)
        obtain ⟨Z, hZ⟩ : ∃ Z, strOfNums zs = Z := ⟨_, rfl⟩
        rw [hZ] at cvA cvB
        clear zd hZ d02 d06 d12 d26
        have w1' : IntKind.i64.wrap 7 = 7 := IntWalk.i64_in _ (by omega)
        have w2' : IntKind.i64.wrap 8 = 8 := IntWalk.i64_in _ (by omega)
        have HKE := Lib.hid (HKZ.out.then kE)
        clear hs7 hel7 hzw7 hu0 p0 ht0 z0 hu1 p1 ht1 z1 hu2 p2 ht2 z2 zb kE hzl hz0 c5
        go_wp2
        go_still (by kernel_rfl)
        try rw [show (World.mk w8.heap w8.tape (w8.drawn + 1) w8.os w8.output) = E1 from hE1]
        go_wp2
        exact bodyPost_ret (v := .bool true) (by simp [results, Try.results5, go_sem]) rfl ⟨rfl, HKE.out.below⟩
end Go.Proofs.Ytnaoobgghgnflaa
