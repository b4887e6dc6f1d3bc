/- The law PlacePrunes: those go whose last row is ahead of the first line; all others stay, in order. -/
import Derived.Test.YtgbflcmageipdaaKnown
import Derived.Test.YtgbflcmageipdaaPart
import Derived.Test.YtgbflcmageipdaaOp
import Derived.Deep.LoopGhost
import Derived.Deep.DeepCutAuto
import Derived.StillTailTactics
namespace Go.Proofs.Ytgbflcmageipdaa
open Go.RowKit
set_option linter.unusedVariables false
set_option linter.unusedSimpArgs false
set_option maxRecDepth 100000 in
set_option maxHeartbeats 16000000 in
theorem prunes_go (al : Bool) (fi : Int) (a0 : Option Addr) (len cap : Nat) (M : List Pl) (W : World) (hs : SlP W a0 len M) (hbl : ∀ b off, 0 < len → a0 = some ⟨b, off, none⟩ → b < W.heap.size) :
    Calls Try.prog 4 #[.slice a0 len cap, .bool al, .int .i64 fi] W fun e w' => e = .returned (.bool true) ∧ Below W.heap.size W w' := by
  have H := Lib.hid (And.intro hs (And.intro hbl (Kept.refl (fun _ => False) W)))
  clear hs hbl
  go_enter Try.func4, Try.ntmps4
  go_wp2_with fail
  refine (known_any W).mono ?_
  rintro e w2 ⟨rfl, hk2⟩
  have HK2 := Lib.hid (H.out.2.2.then hk2)
  clear hk2
  by_cases c1 : 150 < len
  · have g1 : decide ((150 : Int) < (len : Int)) = true := decide_eq_true (by omega)
    have g1' : decide (150 < len) = true := decide_eq_true c1
    go_wp2
    exact bodyPost_ret (v := .bool true) (by simp [results, Try.results4, go_sem]) rfl ⟨rfl, HK2.out.below⟩
  have g1 : decide ((150 : Int) < (len : Int)) = false := decide_eq_false (by omega)
  have g1' : decide (150 < len) = false := decide_eq_false c1
  by_cases c2 : fi < 0
  · have g2 : decide (fi < 0) = true := decide_eq_true c2
    clear c2
    go_wp2
    exact bodyPost_ret (v := .bool true) (by simp [results, Try.results4, go_sem]) rfl ⟨rfl, HK2.out.below⟩
  have g2 : decide (fi < 0) = false := decide_eq_false c2
  by_cases c3 : 1099511627776 < fi
  · have g3 : decide (1099511627776 < fi) = true := decide_eq_true c3
    clear c2 c3
    go_wp2
    exact bodyPost_ret (v := .bool true) (by simp [results, Try.results4, go_sem]) rfl ⟨rfl, HK2.out.below⟩
  have g3 : decide (1099511627776 < fi) = false := decide_eq_false c3
  clear c2 c3
  obtain ⟨w3, hw3⟩ : ∃ w, w = w2 := ⟨_, rfl⟩
  rw [← hw3] at HK2 ⊢
  have HK3 := HK2
  clear hw3
  go_wp2_with fail
  refine (new_any w3).mono ?_
  rintro e w4 ⟨rfl, hT4, hk4⟩
  have HK4 := Lib.hid (HK3.out.then hk4)
  have hz34 := hk4.size
  obtain ⟨t, ht⟩ : ∃ t, w3.heap.size = t := ⟨_, rfl⟩
  rw [ht] at hT4 hz34 ⊢
  have hzW3 := HK3.out.size
  rw [ht] at hzW3
  have HT4 := Lib.hid (And.intro hT4 (And.intro hz34 hzW3))
  clear hT4 hk4 hz34 hzW3 ht
  go_wp2
  go_loopg [8] len (fun gg iv wr => ∃ (k : Nat) (L : List Pl), len ≤ gg + k ∧ k ≤ len ∧ iv = .int .i64 (k : Int) ∧ L.length ≤ k ∧ Tb t wr t L ∧ Kept (fun i => t ≤ i) w4 wr)
  case atStart => exact ⟨0, [], by omega, by omega, rfl, by simp, HT4.out.1, Kept.refl _ _⟩
  case round =>
    obtain ⟨k, L, hgg, hkn, rfl, hLk, hT, hk⟩ := hrel
    have HT := Lib.hid (And.intro hT (And.intro hk hLk))
    have HKW := Lib.hid (show Kept (fun i => t ≤ i) W wr from (HK4.out.mono (fun _ _ h => h.elim)).then hk)
    clear hT hk hLk
    by_cases hk1 : k < len
    · have g2 : decide (k < len) = true := decide_eq_true hk1
      have g2' : decide ((k : Int) < (len : Int)) = true := decide_eq_true (by omega)
      have wk : IntKind.i64.wrap ((k : Int) + 1) = (k : Int) + 1 := IntWalk.i64_in _ (by omega)
      obtain ⟨b, off, rfl, hc9⟩ := H.out.1.2.resolve_left (by omega)
      have hkL : k < M.length := by rw [H.out.1.1]; exact hk1
      obtain ⟨p, hp⟩ : ∃ p, M[k]? = some p := ⟨_, List.getElem?_eq_getElem hkL⟩
      have hbW := H.out.2.1 b off (by omega) rfl
      obtain ⟨q0, q1, q2, q3, q4, q5, q6, q7, q8, q9, q10, q11, q12, q13⟩ := ((hc9 k p hp).kept HKW.out (by have := HT4.out.2.2; show ¬ t ≤ b; omega)).cells
      have hp0 := putt_any t t L p wr HT.out.1 (by have := HT.out.2.2; omega) (by have := HT.out.2.1.size; have := HT4.out.2.1; omega)
      obtain ⟨er, her⟩ : ∃ x : Int, (if mayB p = true then (0 : Int) else 1) = x := ⟨_, rfl⟩
      rw [her] at hp0
      have HP := Lib.hid hp0
      clear her hp0
      have HPL := Lib.hid (putL_length L p)
      unfold Pl.val at HP
      clear hc9 hp hbW hkL
      go_wp2_with fail
      refine HP.out.mono ?_
      rintro e w5 ⟨rfl, hT5, hk5⟩
      have H5 := Lib.hid (And.intro hT5 (HT.out.2.1.then hk5))
      clear hT5 hk5
      go_wp2
      go_roundg (gk - 1)
      case rel => exact ⟨k + 1, _, by omega, by omega, by simp, by have := HPL.out; have := HT.out.2.2; omega, H5.out.1, H5.out.2⟩
      case measure => omega
    · have g2 : decide (k < len) = false := decide_eq_false hk1
      have g2' : decide ((k : Int) < (len : Int)) = false := decide_eq_false (by omega)
      have hLl : L.length ≤ 150 := by have := HT.out.2.2; omega
      have HL := Lib.hid hLl
      have HA := Lib.hid (all_any t t L wr HT.out.1 (by omega))
      clear hLl hgg hkn hk1
      go_wp2_with fail
      refine HA.out.mono ?_
      rintro e w5 ⟨a1, c1', rfl, hs5, hT5, hk5, hb5⟩
      obtain ⟨n1, hn1⟩ : ∃ n, L.length = n := ⟨_, rfl⟩
      rw [hn1] at hs5 ⊢
      have HN1 := Lib.hid hn1
      have htw : t < wr.heap.size := lt_of_blk HT.out.1.2.choose_spec.1
      have H5 := Lib.hid (And.intro hs5 (And.intro hT5 (And.intro (HT.out.2.1.then (hk5.mono (fun _ _ h => h.elim))) (And.intro hb5 htw))))
      have hz5 : t ≤ w5.heap.size := by have := hk5.size; omega
      have HD := Lib.hid (prune_any t t L al fi w5 hT5 (by have := HL.out; omega) hz5)
      clear hs5 hT5 hk5 hb5 htw hn1 hz5
      go_wp2_with fail
      refine HD.out.mono ?_
      rintro e w6 ⟨a2, n2, c2', rfl, hn2, hs6, hT6, hb6, hd6, hk6⟩
      have htw6 : t < w6.heap.size := lt_of_blk hT6.2.choose_spec.1
      have hs56 : SlP w6 a1 n1 L := H5.out.1.kept hk6 (fun b off _ h => by have := H5.out.2.2.2.1 b off h; have := H5.out.2.2.2.2; show ¬ b = t; omega)
      have H6 := Lib.hid (And.intro hn2 (And.intro hs6 (And.intro hT6 (And.intro hs56 (And.intro (H5.out.2.2.1.then (hk6.mono (fun i _ h => by have h9 : i = t := h; show t ≤ i; omega))) htw6)))))
      have HL2 := Lib.hid (show (L.filter fun p => !(pruneB al fi) p).length ≤ 400 from by have h1 := List.length_filter_le (fun p => !(pruneB al fi) p) L; have h2 := HL.out; omega)
      have HA2 := Lib.hid (all_any t t (L.filter fun p => !(pruneB al fi) p) w6 hT6 HL2.out)
      clear hn2 hs6 hT6 hb6 hd6 hk6 htw6 hs56
      go_wp2_with fail
      refine HA2.out.mono ?_
      rintro e w7 ⟨a3, c3', rfl, hs7, hT7, hk7, hb7⟩
      obtain ⟨n3, hn3⟩ : ∃ n, (L.filter fun p => !(pruneB al fi) p).length = n := ⟨_, rfl⟩
      rw [hn3] at hs7 ⊢
      have H7 := Lib.hid (And.intro hn3 (And.intro hs7 (And.intro hT7 (And.intro (H6.out.2.2.2.1.kept hk7 (fun _ _ _ _ => id)) (And.intro (H6.out.2.1.kept hk7 (fun _ _ _ _ => id)) (H6.out.2.2.2.2.1.then (hk7.mono (fun _ _ h => h.elim))))))))
      clear hn3 hs7 hT7 hk7 hb7
      go_wp2
      go_loopg [11, 12] n1 (fun gg mv iv wr => ∃ (i m : Nat), n1 ≤ gg + i ∧ i ≤ n1 ∧ mv = .int .i64 (m : Int) ∧ iv = .int .i64 (i : Int) ∧ m = ((L.take i).filter fun p => !(pruneB al fi) p).length ∧ Kept (fun _ => False) w7 wr)
      case atStart => exact ⟨0, 0, by omega, by omega, rfl, rfl, rfl, Kept.refl _ _⟩
      case round =>
        obtain ⟨i, m, hgg, hin, rfl, rfl, hm, hk⟩ := hrel
        have HG := Lib.hid (And.intro (trivial : True) (And.intro hm hk))
        have hn1 := HL.out
        have hm400 : m ≤ 150 := by rw [hm]; exact Nat.le_trans (List.length_filter_le _ _) (Nat.le_trans (List.length_take_le' _ _) hn1)
        clear hm hk hn1
        by_cases hi1 : i < n1
        · have g3 : decide (i < n1) = true := decide_eq_true hi1
          have g3' : decide ((i : Int) < (n1 : Int)) = true := decide_eq_true (by omega)
          have wi : IntKind.i64.wrap ((i : Int) + 1) = (i : Int) + 1 := IntWalk.i64_in _ (by have := HL.out; have := HN1.out; omega)
          obtain ⟨b1, o1, rfl, hc1⟩ := H7.out.2.2.2.1.2.resolve_left (by omega)
          have hiL : i < L.length := by rw [HN1.out]; exact hi1
          obtain ⟨p, hp⟩ : ∃ p, L[i]? = some p := ⟨_, List.getElem?_eq_getElem hiL⟩
          have HP := Lib.hid hp
          obtain ⟨E1, hE1⟩ : ∃ E, wr.drew = E := ⟨_, rfl⟩
          have kE : Kept (fun _ => False) wr E1 := by rw [← hE1]; exact (Kept.refl _ _).drew
          have HPA := Lib.hid ((hc1 i p hp).kept HG.out.2.2 id)
          obtain ⟨q0, q1, q2, q3, q4, q5, q6, q7, q8, q9, q10, q11, q12, q13⟩ := HPA.out.cells
          obtain ⟨r0, r1, r2, r3, r4, r5, r6, r7, r8, r9, r10, r11, r12, r13⟩ := (HPA.out.kept kE id).cells
          obtain ⟨x1, hx1⟩ : ∃ x, IntKind.i64.wrap (p.line + p.rows) = x := ⟨_, rfl⟩
          obtain ⟨bf, hbf⟩ : ∃ b, pruneB al fi p = b := ⟨_, rfl⟩
          have HBF := Lib.hid hbf
          have HKE := Lib.hid kE
          unfold pruneB at hbf
          rw [hx1] at hbf
          clear hc1 hp hiL kE
          go_upto_region 19 with fail
          go_cut [76] (fun xv wx => xv = .bool bf ∧ Kept (fun _ => False) wr wx)
          case first =>
            obtain ⟨pa, hpa⟩ : ∃ b, p.alt = b := ⟨_, rfl⟩
            rw [hpa] at hbf q2 r2
            clear hpa
            cases hab : (pa == al) with
            | true =>
              rw [hab] at hbf
              have hbf' : decide (x1 ≤ fi) = bf := hbf
              clear hbf
              go_still (by kernel_rfl)
              try rw [show (World.mk wr.heap wr.tape (wr.drawn + 1) wr.os wr.output) = E1 from hE1]
              go_wp2
              go_meet
              exact ⟨rfl, HKE.out⟩
            | false =>
              rw [hab] at hbf
              have hbf' : bf = false := hbf.symm
              subst hbf'
              refine wp_region_still_lit (by kernel_rfl) (by kernel_rfl) ?_
              refine wpStill_step (fun K hK => ?_)
              go_simp
              repeat (generalize hfr : Act.mk _ _ = fr; refine hK _ ?_; clear hK K; refine wpStill_step (fun K hK => ?_); subst hfr; go_simp)
              generalize hfr : Act.mk _ _ = fr
              refine hK _ ?_
              clear hK K
              refine wpStill_nil ?_
              subst hfr
              try rw [show (World.mk wr.heap wr.tape (wr.drawn + 1) wr.os wr.output) = E1 from hE1]
              go_wp2
              go_meet
              exact ⟨rfl, HKE.out⟩
          case rest =>
            obtain ⟨rfl, hkc⟩ := hcut
            have HGk := Lib.hid (HG.out.2.2.then hkc)
            have HKc := Lib.hid hkc
            clear hkc hbf hx1 q0 q1 q2 q3 q4 q5 q6 q7 q8 q9 q10 q11 q12 q13 r0 r1 r2 r3 r4 r5 r6 r7 r8 r9 r10 r11 r12 r13 hE1
            cases bf with
            | true =>
              go_wp2
              go_roundg (gk - 1)
              case rel => exact ⟨i + 1, m, by omega, by omega, rfl, by simp, by rw [filter_no (fun p => !(pruneB al fi) p) L i p HP.out (by simp [HBF.out]), ← HG.out.2.1], HGk.out⟩
              case measure => omega
            | false =>
              have hfa := filter_at (fun p => !(pruneB al fi) p) L i p HP.out (by simp [HBF.out])
              have hcnt : m < n3 := by
                have h1 := (List.getElem?_eq_some_iff.1 hfa).1
                rw [← HG.out.2.1] at h1
                have h2 := H7.out.1
                omega
              have g4 : decide ((n3 : Int) ≤ (m : Int)) = false := decide_eq_false (by omega)
              have g4' : decide (n3 ≤ m) = false := decide_eq_false (by omega)
              obtain ⟨b2, o2, rfl, hc2⟩ := H7.out.2.1.2.resolve_left (by omega)
              rw [← HG.out.2.1] at hfa
              have HPB := Lib.hid ((hc2 m p hfa).kept HGk.out id)
              obtain ⟨F1, hF1⟩ : ∃ E, wc.drew = E := ⟨_, rfl⟩
              have kF : Kept (fun _ => False) wc F1 := by rw [← hF1]; exact (Kept.refl _ _).drew
              have HPC := Lib.hid (HPA.out.kept HKc.out id)
              obtain ⟨s0, s1, s2, s3, s4, s5, s6, s7, s8, s9, s10, s11, s12, s13⟩ := HPB.out.cells
              obtain ⟨t0, t1, t2, t3, t4, t5, t6, t7, t8, t9, t10, t11, t12, t13⟩ := (HPB.out.kept kF id).cells
              obtain ⟨k0, k1, k2, k3, k4, k5, k6, k7, k8, k9, k10, k11, k12, k13⟩ := HPC.out.cells
              obtain ⟨l0, l1, l2, l3, l4, l5, l6, l7, l8, l9, l10, l11, l12, l13⟩ := (HPC.out.kept kF id).cells
              have hne : ∀ w, (binOp .neq 34 p.val p.val).run Try.prog w = .ok (.bool false) w := fun w => by rw [run_nePl, eqB_self]; rfl
              unfold Pl.val at hne
              have HKF := Lib.hid (HGk.out.then kF)
              have wg : IntKind.i64.wrap ((m : Int) + 1) = (m : Int) + 1 := IntWalk.i64_in _ (by omega)
              clear hfa hc2 kF
              go_wp2
              go_still (by kernel_rfl)
              try rw [show (World.mk wc.heap wc.tape (wc.drawn + 1) wc.os wc.output) = F1 from hF1]
              go_wp2
              go_roundg (gk - 1)
              case rel => exact ⟨i + 1, m + 1, by omega, by omega, by simp, by simp, by rw [filter_yes (fun p => !(pruneB al fi) p) L i p HP.out (by simp [HBF.out]), ← HG.out.2.1], HKF.out⟩
              case measure => omega
        · obtain rfl : i = n1 := by omega
          have g3 : decide (i < i) = false := decide_eq_false hi1
          have hall : L.take i = L := List.take_of_length_le (Nat.le_of_eq HN1.out)
          have hm := HG.out.2.1
          rw [hall] at hm
          have hm3 : m = n3 := hm.trans H7.out.1
          have hTw := H7.out.2.2.1.up HG.out.2.2
          have hzw : t ≤ wr.heap.size := Nat.le_of_lt (lt_of_blk hTw.2.choose_spec.1)
          have HPR := Lib.hid (prune_any t t (L.filter fun p => !(pruneB al fi) p) al fi wr hTw (by have := HL2.out; omega) hzw)
          have hnil : (L.filter fun p => !(pruneB al fi) p).filter (pruneB al fi) = [] := by
            rw [List.filter_filter]
            exact List.filter_eq_nil_iff.2 (fun p _ => by cases (pruneB al fi) p <;> simp)
          have HNL := Lib.hid hnil
          have HKZ := Lib.hid (show Kept (fun i => t ≤ i) W wr from (HK4.out.mono (S' := fun i => t ≤ i) (fun _ _ h => h.elim)).then (H7.out.2.2.2.2.2.then (HG.out.2.2.mono (fun _ _ h => h.elim))))
          subst hm3
          clear hall hm hgg hi1 hTw hzw hnil
          go_wp2_with fail
          refine HPR.out.mono ?_
          rintro e w9 ⟨a9, n9, c9, rfl, hn9, -, -, -, -, hk9⟩
          rw [HNL.out] at hn9
          have hn9' : n9 = 0 := hn9
          subst hn9'
          have HKY := Lib.hid (show Below W.heap.size W w9 from ((HKZ.out.then (hk9.mono (fun i _ h => by have h9 : i = t := h; show t ≤ i; omega))).mono (S' := fun _ => False) (fun i hi h => by have := HT4.out.2.2; have h9 : t ≤ i := h; omega)).below)
          clear hn9 hk9
          go_wp2
          exact bodyPost_ret (v := .bool true) (by simp [results, Try.results4, go_sem]) rfl ⟨rfl, HKY.out⟩
end Go.Proofs.Ytgbflcmageipdaa
