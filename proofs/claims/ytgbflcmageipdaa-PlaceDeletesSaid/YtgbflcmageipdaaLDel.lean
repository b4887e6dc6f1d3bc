/- The law PlaceDeletes: behind a delete just those are gone of which Match says so; all others stay, in order. -/
import Derived.Test.YtgbflcmageipdaaKnown
import Derived.Test.YtgbflcmageipdaaPart
import Derived.Test.YtgbflcmageipdaaOp
import Derived.Deep.LoopGhost
import Derived.Deep.DeepCutAuto
import Derived.StillTailTactics
namespace Go.Proofs.Ytgbflcmageipdaa
open Go.RowKit
set_option linter.unusedVariables false
set_option linter.unusedSimpArgs false
set_option maxRecDepth 100000 in
set_option maxHeartbeats 16000000 in
theorem deletes_go (a : Ask) (v : Vw) (a0 : Option Addr) (len cap : Nat) (M : List Pl) (W : World) (hs : SlP W a0 len M) (hbl : ∀ b off, 0 < len → a0 = some ⟨b, off, none⟩ → b < W.heap.size) :
    Calls Try.prog 3 #[.slice a0 len cap, a.val, v.val] W fun e w' => e = .returned (.bool true) ∧ Below W.heap.size W w' := by
  obtain ⟨W1, hW1⟩ : ∃ W1, (W.alloc (.cells a.cs 24)).alloc (.cells v.cs 26) = W1 := ⟨_, rfl⟩
  have hk1 : Kept (fun _ => False) W W1 := by rw [← hW1]; exact ((Kept.refl _ _).alloc _).alloc _
  have hb4 : W1.heap[W.heap.size]? = some (.cells a.cs 24 (0, 0)) := by rw [← hW1]; exact blk_alloc (blk_new W _) _
  have hb5 : W1.heap[W.heap.size + 1]? = some (.cells v.cs 26 (0, 0)) := by rw [← hW1]; exact blk_at _ _ (by simp)
  have H := Lib.hid (And.intro hs (And.intro hbl (And.intro hk1 (And.intro hb4 hb5))))
  clear hs hbl hk1 hb4 hb5
  have HV := Lib.hid (fun w => lmay_any v a w)
  unfold Ask.cs Vw.cs at hW1
  unfold Ask.val Vw.val at HV ⊢
  go_enter Try.func3, Try.ntmps3
  go_wp2_with fail
  refine (known_any W1).mono ?_
  rintro e w2 ⟨rfl, hk2⟩
  have HK2 := Lib.hid (H.out.2.2.1.then hk2)
  have HB2 := Lib.hid (And.intro (hk2.blk H.out.2.2.2.1 id) (hk2.blk H.out.2.2.2.2 id))
  obtain ⟨y0, y1, y2, y3, y4, y5⟩ := blkA HB2.out.1
  obtain ⟨z0, z1, z2, z3, z4, z5⟩ := blkV HB2.out.2
  clear hk2
  by_cases c1 : 150 < len
  · have g1 : decide ((150 : Int) < (len : Int)) = true := decide_eq_true (by omega)
    have g1' : decide (150 < len) = true := decide_eq_true c1
    go_wp2
    exact bodyPost_ret (v := .bool true) (by simp [results, Try.results3, go_sem]) rfl ⟨rfl, HK2.out.below⟩
  have g1 : decide ((150 : Int) < (len : Int)) = false := decide_eq_false (by omega)
  have g1' : decide (150 < len) = false := decide_eq_false c1
  obtain ⟨bm, hbm⟩ : ∃ b, lmayB v a = b := ⟨_, rfl⟩
  have HVw := HV.out w2
  rw [hbm] at HVw
  have HV2 := Lib.hid HVw
  clear hbm HVw
  cases bm with
  | false =>
    go_wp2_with fail
    refine HV2.out.mono ?_
    rintro e w3 ⟨rfl, hk3⟩
    have HK3 := Lib.hid (HK2.out.then hk3)
    clear hk3
    go_wp2
    exact bodyPost_ret (v := .bool true) (by simp [results, Try.results3, go_sem]) rfl ⟨rfl, HK3.out.below⟩
  | true =>
  go_wp2_with fail
  refine HV2.out.mono ?_
  rintro e w3 ⟨rfl, hk3⟩
  have HK3 := Lib.hid (HK2.out.then hk3)
  have HB3 := Lib.hid (And.intro (hk3.blk HB2.out.1 id) (hk3.blk HB2.out.2 id))
  clear hk3 y0 y1 y2 y3 y4 y5 z0 z1 z2 z3 z4 z5
  go_wp2_with fail
  refine (new_any w3).mono ?_
  rintro e w4 ⟨rfl, hT4, hk4⟩
  have HK4 := Lib.hid (HK3.out.then hk4)
  have HB4 := Lib.hid (And.intro (hk4.blk HB3.out.1 id) (hk4.blk HB3.out.2 id))
  have hz34 := hk4.size
  obtain ⟨t, ht⟩ : ∃ t, w3.heap.size = t := ⟨_, rfl⟩
  rw [ht] at hT4 hz34 ⊢
  have hzW3 := HK3.out.size
  rw [ht] at hzW3
  have HT4 := Lib.hid (And.intro hT4 (And.intro hz34 hzW3))
  have hq4 : W.heap.size < t := by rw [← ht]; exact lt_of_blk HB3.out.1
  have hq5 : W.heap.size + 1 < t := by rw [← ht]; exact lt_of_blk HB3.out.2
  have HQ := Lib.hid (And.intro hq4 hq5)
  clear hT4 hk4 hz34 hzW3 ht hq4 hq5
  go_wp2
  go_loopg [8] len (fun gg iv wr => ∃ (k : Nat) (L : List Pl), len ≤ gg + k ∧ k ≤ len ∧ iv = .int .i64 (k : Int) ∧ L.length ≤ k ∧ Tb t wr t L ∧ Kept (fun i => t ≤ i) w4 wr)
  case atStart => exact ⟨0, [], by omega, by omega, rfl, by simp, HT4.out.1, Kept.refl _ _⟩
  case round =>
    obtain ⟨k, L, hgg, hkn, rfl, hLk, hT, hk⟩ := hrel
    have HT := Lib.hid (And.intro hT (And.intro hk hLk))
    have HKW := Lib.hid (show Kept (fun i => t ≤ i) W wr from (HK4.out.mono (fun _ _ h => h.elim)).then hk)
    clear hT hk hLk
    by_cases hk1 : k < len
    · have g2 : decide (k < len) = true := decide_eq_true hk1
      have g2' : decide ((k : Int) < (len : Int)) = true := decide_eq_true (by omega)
      have wk : IntKind.i64.wrap ((k : Int) + 1) = (k : Int) + 1 := IntWalk.i64_in _ (by omega)
      obtain ⟨b, off, rfl, hc9⟩ := H.out.1.2.resolve_left (by omega)
      have hkL : k < M.length := by rw [H.out.1.1]; exact hk1
      obtain ⟨p, hp⟩ : ∃ p, M[k]? = some p := ⟨_, List.getElem?_eq_getElem hkL⟩
      have hbW := H.out.2.1 b off (by omega) rfl
      obtain ⟨q0, q1, q2, q3, q4, q5, q6, q7, q8, q9, q10, q11, q12, q13⟩ := ((hc9 k p hp).kept HKW.out (by have := HT4.out.2.2; show ¬ t ≤ b; omega)).cells
      have hp0 := putt_any t t L p wr HT.out.1 (by have := HT.out.2.2; omega) (by have := HT.out.2.1.size; have := HT4.out.2.1; omega)
      obtain ⟨er, her⟩ : ∃ x : Int, (if mayB p = true then (0 : Int) else 1) = x := ⟨_, rfl⟩
      rw [her] at hp0
      have HP := Lib.hid hp0
      clear her hp0
      have HPL := Lib.hid (putL_length L p)
      unfold Pl.val at HP
      clear hc9 hp hbW hkL
      go_wp2_with fail
      refine HP.out.mono ?_
      rintro e w5 ⟨rfl, hT5, hk5⟩
      have H5 := Lib.hid (And.intro hT5 (HT.out.2.1.then hk5))
      clear hT5 hk5
      go_wp2
      go_roundg (gk - 1)
      case rel => exact ⟨k + 1, _, by omega, by omega, by simp, by have := HPL.out; have := HT.out.2.2; omega, H5.out.1, H5.out.2⟩
      case measure => omega
    · have g2 : decide (k < len) = false := decide_eq_false hk1
      have g2' : decide ((k : Int) < (len : Int)) = false := decide_eq_false (by omega)
      have hLl : L.length ≤ 150 := by have := HT.out.2.2; omega
      have HL := Lib.hid hLl
      have HA := Lib.hid (all_any t t L wr HT.out.1 (by omega))
      clear hLl hgg hkn hk1
      go_wp2_with fail
      refine HA.out.mono ?_
      rintro e w5 ⟨a1, c1', rfl, hs5, hT5, hk5, hb5⟩
      obtain ⟨n1, hn1⟩ : ∃ n, L.length = n := ⟨_, rfl⟩
      rw [hn1] at hs5 ⊢
      have HN1 := Lib.hid hn1
      have htw : t < wr.heap.size := lt_of_blk HT.out.1.2.choose_spec.1
      have H5 := Lib.hid (And.intro hs5 (And.intro hT5 (And.intro (HT.out.2.1.then (hk5.mono (fun _ _ h => h.elim))) (And.intro hb5 htw))))
      have HB5 := Lib.hid (And.intro (H5.out.2.2.1.blk HB4.out.1 (by have := HQ.out.1; show ¬ t ≤ _; omega)) (H5.out.2.2.1.blk HB4.out.2 (by have := HQ.out.2; show ¬ t ≤ _; omega)))
      obtain ⟨y0, y1, y2, y3, y4, y5⟩ := blkA HB5.out.1
      obtain ⟨z0, z1, z2, z3, z4, z5⟩ := blkV HB5.out.2
      have hz5 : t ≤ w5.heap.size := by have := hk5.size; omega
      have HD := Lib.hid (del_any t t L a v w5 hT5 (by have := HL.out; omega) hz5)
      unfold Ask.val Vw.val at HD
      clear hs5 hT5 hk5 hb5 htw hn1 hz5
      go_wp2_with fail
      refine HD.out.mono ?_
      rintro e w6 ⟨a2, n2, c2', rfl, hn2, hs6, hT6, hb6, hd6, hk6⟩
      have htw6 : t < w6.heap.size := lt_of_blk hT6.2.choose_spec.1
      have hs56 : SlP w6 a1 n1 L := H5.out.1.kept hk6 (fun b off _ h => by have := H5.out.2.2.2.1 b off h; have := H5.out.2.2.2.2; show ¬ b = t; omega)
      have H6 := Lib.hid (And.intro hn2 (And.intro hs6 (And.intro hT6 (And.intro hs56 (And.intro (H5.out.2.2.1.then (hk6.mono (fun i _ h => by have h9 : i = t := h; show t ≤ i; omega))) htw6)))))
      have HL2 := Lib.hid (show (L.filter fun p => !(fun p => matchB a p v) p).length ≤ 400 from by have h1 := List.length_filter_le (fun p => !(fun p => matchB a p v) p) L; have h2 := HL.out; omega)
      have HA2 := Lib.hid (all_any t t (L.filter fun p => !(fun p => matchB a p v) p) w6 hT6 HL2.out)
      clear hn2 hs6 hT6 hb6 hd6 hk6 htw6 hs56
      go_wp2_with fail
      refine HA2.out.mono ?_
      rintro e w7 ⟨a3, c3', rfl, hs7, hT7, hk7, hb7⟩
      obtain ⟨n3, hn3⟩ : ∃ n, (L.filter fun p => !(fun p => matchB a p v) p).length = n := ⟨_, rfl⟩
      rw [hn3] at hs7 ⊢
      have H7 := Lib.hid (And.intro hn3 (And.intro hs7 (And.intro hT7 (And.intro (H6.out.2.2.2.1.kept hk7 (fun _ _ _ _ => id)) (And.intro (H6.out.2.1.kept hk7 (fun _ _ _ _ => id)) (H6.out.2.2.2.2.1.then (hk7.mono (fun _ _ h => h.elim))))))))
      clear hn3 hs7 hT7 hk7 hb7
      have HB7 := Lib.hid (And.intro (H7.out.2.2.2.2.2.blk HB4.out.1 (by have := HQ.out.1; show ¬ t ≤ _; omega)) (H7.out.2.2.2.2.2.blk HB4.out.2 (by have := HQ.out.2; show ¬ t ≤ _; omega)))
      clear y0 y1 y2 y3 y4 y5 z0 z1 z2 z3 z4 z5
      go_wp2
      go_loopg [12, 13, 14] n1 (fun gg gv mv iv wr => ∃ (i g m : Nat), n1 ≤ gg + i ∧ i ≤ n1 ∧ gv = .int .i64 (g : Int) ∧ mv = .int .i64 (m : Int) ∧ iv = .int .i64 (i : Int) ∧ g = ((L.take i).filter (fun p => matchB a p v)).length ∧ m = ((L.take i).filter fun p => !(fun p => matchB a p v) p).length ∧ Kept (fun _ => False) w7 wr)
      case atStart => exact ⟨0, 0, 0, by omega, by omega, rfl, rfl, rfl, rfl, rfl, Kept.refl _ _⟩
      case round =>
        obtain ⟨i, g, m, hgg, hin, rfl, rfl, rfl, hg, hm, hk⟩ := hrel
        have HG := Lib.hid (And.intro hg (And.intro hm hk))
        have hn1 := HL.out
        have hg400 : g ≤ 150 := by rw [hg]; exact Nat.le_trans (List.length_filter_le _ _) (Nat.le_trans (List.length_take_le' _ _) hn1)
        have hm400 : m ≤ 150 := by rw [hm]; exact Nat.le_trans (List.length_filter_le _ _) (Nat.le_trans (List.length_take_le' _ _) hn1)
        clear hg hm hk hn1
        by_cases hi1 : i < n1
        · have g3 : decide (i < n1) = true := decide_eq_true hi1
          have g3' : decide ((i : Int) < (n1 : Int)) = true := decide_eq_true (by omega)
          have wi : IntKind.i64.wrap ((i : Int) + 1) = (i : Int) + 1 := IntWalk.i64_in _ (by have := HL.out; have := HN1.out; omega)
          obtain ⟨b1, o1, rfl, hc1⟩ := H7.out.2.2.2.1.2.resolve_left (by omega)
          have hiL : i < L.length := by rw [HN1.out]; exact hi1
          obtain ⟨p, hp⟩ : ∃ p, L[i]? = some p := ⟨_, List.getElem?_eq_getElem hiL⟩
          have HP := Lib.hid hp
          obtain ⟨E1, hE1⟩ : ∃ E, wr.drew = E := ⟨_, rfl⟩
          have kE : Kept (fun _ => False) wr E1 := by rw [← hE1]; exact (Kept.refl _ _).drew
          have HPA := Lib.hid ((hc1 i p hp).kept HG.out.2.2 id)
          obtain ⟨q0, q1, q2, q3, q4, q5, q6, q7, q8, q9, q10, q11, q12, q13⟩ := HPA.out.cells
          obtain ⟨r0, r1, r2, r3, r4, r5, r6, r7, r8, r9, r10, r11, r12, r13⟩ := (HPA.out.kept kE id).cells
          have HBr := Lib.hid (And.intro (HG.out.2.2.blk HB7.out.1 id) (HG.out.2.2.blk HB7.out.2 id))
          obtain ⟨y0, y1, y2, y3, y4, y5⟩ := blkA HBr.out.1
          obtain ⟨z0, z1, z2, z3, z4, z5⟩ := blkV HBr.out.2
          obtain ⟨y0', y1', y2', y3', y4', y5'⟩ := blkA (kE.blk HBr.out.1 id)
          obtain ⟨z0', z1', z2', z3', z4', z5'⟩ := blkV (kE.blk HBr.out.2 id)
          have HM := match_any a p v E1
          obtain ⟨bf, hbf⟩ : ∃ b, matchB a p v = b := ⟨_, rfl⟩
          rw [hbf] at HM
          have HMx := Lib.hid HM
          have HBF := Lib.hid hbf
          have HKE := Lib.hid kE
          unfold Ask.val Vw.val Pl.val at HMx
          clear hc1 hp hiL kE HM hbf
          go_upto_region 20 with fail
          go_cut [61] (fun xv wx => xv = .bool bf ∧ Kept (fun _ => False) wr wx)
          case first =>
            go_still_tail 6, (by kernel_rfl)
            change wpList _ _ _ _ _ wr.drew
            rw [hE1]
            go_wp2_with fail
            refine HMx.out.mono ?_
            rintro e w8 ⟨rfl, hk8⟩
            have HK8 := Lib.hid (HKE.out.then hk8)
            clear hk8
            go_wp2
            go_meet
            exact ⟨rfl, HK8.out⟩
          case rest =>
            obtain ⟨rfl, hkc⟩ := hcut
            have HGk := Lib.hid (HG.out.2.2.then hkc)
            have HKc := Lib.hid hkc
            clear hkc q0 q1 q2 q3 q4 q5 q6 q7 q8 q9 q10 q11 q12 q13 r0 r1 r2 r3 r4 r5 r6 r7 r8 r9 r10 r11 r12 r13 y0 y1 y2 y3 y4 y5 z0 z1 z2 z3 z4 z5 y0' y1' y2' y3' y4' y5' z0' z1' z2' z3' z4' z5' hE1
            cases bf with
            | true =>
              have hfa := filter_at (fun p => matchB a p v) L i p HP.out HBF.out
              have hcnt : g < n2 := by
                have h1 := (List.getElem?_eq_some_iff.1 hfa).1
                rw [← HG.out.1] at h1
                exact Nat.lt_of_lt_of_le h1 (Nat.le_of_eq H6.out.1.symm)
              have g4 : decide ((n2 : Int) ≤ (g : Int)) = false := decide_eq_false (by omega)
              have g4' : decide (n2 ≤ g) = false := decide_eq_false (by omega)
              obtain ⟨b2, o2, rfl, hc2⟩ := H7.out.2.2.2.2.1.2.resolve_left (by omega)
              rw [← HG.out.1] at hfa
              have HPB := Lib.hid ((hc2 g p hfa).kept HGk.out id)
              obtain ⟨F1, hF1⟩ : ∃ E, wc.drew = E := ⟨_, rfl⟩
              have kF : Kept (fun _ => False) wc F1 := by rw [← hF1]; exact (Kept.refl _ _).drew
              have HPC := Lib.hid (HPA.out.kept HKc.out id)
              obtain ⟨s0, s1, s2, s3, s4, s5, s6, s7, s8, s9, s10, s11, s12, s13⟩ := HPB.out.cells
              obtain ⟨t0, t1, t2, t3, t4, t5, t6, t7, t8, t9, t10, t11, t12, t13⟩ := (HPB.out.kept kF id).cells
              obtain ⟨k0, k1, k2, k3, k4, k5, k6, k7, k8, k9, k10, k11, k12, k13⟩ := HPC.out.cells
              obtain ⟨l0, l1, l2, l3, l4, l5, l6, l7, l8, l9, l10, l11, l12, l13⟩ := (HPC.out.kept kF id).cells
              have hne : ∀ w, (binOp .neq 34 p.val p.val).run Try.prog w = .ok (.bool false) w := fun w => by rw [run_nePl, eqB_self]; rfl
              unfold Pl.val at hne
              have HKF := Lib.hid (HGk.out.then kF)
              have wg : IntKind.i64.wrap ((g : Int) + 1) = (g : Int) + 1 := IntWalk.i64_in _ (by omega)
              clear hfa hc2 kF
              go_wp2
              go_still (by kernel_rfl)
              try rw [show (World.mk wc.heap wc.tape (wc.drawn + 1) wc.os wc.output) = F1 from hF1]
              go_wp2
              go_roundg (gk - 1)
              case rel => exact ⟨i + 1, g + 1, m, by omega, by omega, by simp, rfl, by simp, by rw [filter_yes (fun p => matchB a p v) L i p HP.out HBF.out, ← HG.out.1], by rw [filter_no (fun p => !(fun p => matchB a p v) p) L i p HP.out (by simp [HBF.out]), ← HG.out.2.1], HKF.out⟩
              case measure => omega
            | false =>
              have hfa := filter_at (fun p => !(fun p => matchB a p v) p) L i p HP.out (by simp [HBF.out])
              have hcnt : m < n3 := by
                have h1 := (List.getElem?_eq_some_iff.1 hfa).1
                rw [← HG.out.2.1] at h1
                exact Nat.lt_of_lt_of_le h1 (Nat.le_of_eq H7.out.1)
              have g4 : decide ((n3 : Int) ≤ (m : Int)) = false := decide_eq_false (by omega)
              have g4' : decide (n3 ≤ m) = false := decide_eq_false (by omega)
              obtain ⟨b2, o2, rfl, hc2⟩ := H7.out.2.1.2.resolve_left (by omega)
              rw [← HG.out.2.1] at hfa
              have HPB := Lib.hid ((hc2 m p hfa).kept HGk.out id)
              obtain ⟨F1, hF1⟩ : ∃ E, wc.drew = E := ⟨_, rfl⟩
              have kF : Kept (fun _ => False) wc F1 := by rw [← hF1]; exact (Kept.refl _ _).drew
              have HPC := Lib.hid (HPA.out.kept HKc.out id)
              obtain ⟨s0, s1, s2, s3, s4, s5, s6, s7, s8, s9, s10, s11, s12, s13⟩ := HPB.out.cells
              obtain ⟨t0, t1, t2, t3, t4, t5, t6, t7, t8, t9, t10, t11, t12, t13⟩ := (HPB.out.kept kF id).cells
              obtain ⟨k0, k1, k2, k3, k4, k5, k6, k7, k8, k9, k10, k11, k12, k13⟩ := HPC.out.cells
              obtain ⟨l0, l1, l2, l3, l4, l5, l6, l7, l8, l9, l10, l11, l12, l13⟩ := (HPC.out.kept kF id).cells
              have hne : ∀ w, (binOp .neq 34 p.val p.val).run Try.prog w = .ok (.bool false) w := fun w => by rw [run_nePl, eqB_self]; rfl
              unfold Pl.val at hne
              have HKF := Lib.hid (HGk.out.then kF)
              have wg : IntKind.i64.wrap ((m : Int) + 1) = (m : Int) + 1 := IntWalk.i64_in _ (by omega)
              clear hfa hc2 kF
              go_wp2
              go_still (by kernel_rfl)
              try rw [show (World.mk wc.heap wc.tape (wc.drawn + 1) wc.os wc.output) = F1 from hF1]
              go_wp2
              go_roundg (gk - 1)
              case rel => exact ⟨i + 1, g, m + 1, by omega, by omega, rfl, by simp, by simp, by rw [filter_no (fun p => matchB a p v) L i p HP.out HBF.out, ← HG.out.1], by rw [filter_yes (fun p => !(fun p => matchB a p v) p) L i p HP.out (by simp [HBF.out]), ← HG.out.2.1], HKF.out⟩
              case measure => omega
        · obtain rfl : i = n1 := by omega
          have g3 : decide (i < i) = false := decide_eq_false hi1
          have hall : L.take i = L := List.take_of_length_le (Nat.le_of_eq HN1.out)
          have hm := HG.out.2.1
          rw [hall] at hm
          have hm3 : m = n3 := hm.trans H7.out.1
          have hg := HG.out.1
          rw [hall] at hg
          have hg2 : g = n2 := hg.trans H6.out.1.symm
          have HKZ := Lib.hid (show Below W.heap.size W wr from (((HK4.out.mono (S' := fun i => t ≤ i) (fun _ _ h => h.elim)).then (H7.out.2.2.2.2.2.then (HG.out.2.2.mono (fun _ _ h => h.elim)))).mono (S' := fun _ => False) (fun i hi h => by have := HT4.out.2.2; have h9 : t ≤ i := h; omega)).below)
          subst hm3 hg2
          clear hall hm hg hgg hi1
          go_wp2
          exact bodyPost_ret (v := .bool true) (by simp [results, Try.results3, go_sem]) rfl ⟨rfl, HKZ.out⟩
end Go.Proofs.Ytgbflcmageipdaa
