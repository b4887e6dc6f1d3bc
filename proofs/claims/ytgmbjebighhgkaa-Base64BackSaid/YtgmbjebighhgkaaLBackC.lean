/- Any bytes go to text and back: the law walked, case C. -/
import Derived.Test.YtgmbjebighhgkaaLBack
namespace Go.Proofs.Ytgmbjebighhgkaa
open Go.RowKit
set_option linter.unusedVariables false
set_option linter.unusedSimpArgs false
set_option maxRecDepth 100000 in
set_option maxHeartbeats 32000000 in
theorem back_goC (a0 a1 : Option Addr) (l0 c0 l1 c1 : Nat) (bare : Bool) (bs : List Nat) (cs : List Int) (w : World) (hs0 : SlAt .u8 w a0 l0 (ints bs)) (hb0 : ∀ c ∈ bs, c < 256) (hn0 : ∀ b off, 0 < l0 → a0 = some ⟨b, off, none⟩ → b < w.heap.size) (hl0 : l0 ≤ 4096) (hc0 : l0 ≤ c0) (hcm : c0 ≤ 9223372036854775807)
    (hs1 : SlAt .i64 w a1 l1 cs) (hcr : ∀ n ∈ cs, -9223372036854775808 ≤ n ∧ n ≤ 9223372036854775807) (hl1 : l1 ≤ 100) (hcase : bare = true ∧ 0 < (bareOf bs).length) :
    Calls Try.prog 4 #[.slice a0 l0 c0, .slice a1 l1 c1, .bool bare] w fun e w' => e = .returned (.bool true) ∧ Kept (fun _ => False) w w' := by
  obtain ⟨i0, hi, hz0, hz1, hz2⟩ := info_parts tinfo5
  have HI := Lib.hid (And.intro hi (And.intro hz0 (And.intro hz1 hz2)))
  clear hi hz0 hz1 hz2
  have hbl : bs.length = l0 := by rw [← hs0.1, ints_length]
  have g0 : decide (4096 < (l0 : Int)) = false := decide_eq_false (by omega)
  have g1 : decide (100 < (l1 : Int)) = false := decide_eq_false (by omega)
  have H := Lib.hid (And.intro hs0 (And.intro hb0 (And.intro hn0 (And.intro hs1 (And.intro hcr hbl)))))
  clear hs0 hb0 hn0 hs1 hcr hbl
  go_enter Try.func4, Try.ntmps4
  go_wp2_with fail
  refine (known_any w).mono ?_
  rintro e w1 ⟨rfl, hk1⟩
  have HK1 := Lib.hid hk1
  have HEN := Lib.hid (encode_any a0 l0 c0 bs w1 hc0 (by omega) (H.out.1.up hk1) H.out.2.1 (fun b off h0 h => by have := H.out.2.2.1 b off h0 h; have := hk1.size; omega) hcm)
  unfold EPost at HEN
  clear hk1
  go_wp2_with fail
  refine HEN.out.mono ?_
  rintro e w2 ⟨u, rfl, hr2, hk2⟩
  obtain ⟨tb, tn, tc, rfl, hts, htc, htm, htn, htk⟩ := hr2
  have hel : (enc bs).length = tn := by rw [← hts.1, ints_length]
  have htl : tn ≤ 16384 := by rw [← hel]; have := enc_len bs; rw [H.out.2.2.2.2.2] at this; omega
  have HT := Lib.hid (And.intro hts (And.intro htn (And.intro htk hel)))
  have HK2 := Lib.hid (HK1.out.then hk2)
  have HZ2 := Lib.hid (show w.heap.size ≤ w1.heap.size from HK1.out.size)
  have hbar := (enc_front bs).2
  rw [hel] at hbar
  clear hk2 hts htn htk hel HEN
  go_wp2
  go_loopg [7] tn (fun gg tv wr => ∃ m : Nat, m ≤ gg ∧ m ≤ tn ∧ (bareOf bs).length ≤ m ∧ (bare = false → m = tn) ∧ tv = .slice tb m tc ∧ wr = w2)
  case atStart => exact ⟨tn, by omega, by omega, hbar, fun _ => rfl, rfl, rfl⟩
  case round =>
    obtain ⟨m, hgg, hmt, hbm, hbf, rfl, rfl⟩ := hrel
    by_cases hgo : bare = true ∧ (bareOf bs).length < m
    · obtain ⟨rfl, hlt⟩ := hgo
      have hm0 : 0 < m := by omega
      have g5 : decide (0 < m) = true := decide_eq_true hm0
      obtain ⟨b, off, rfl, hc⟩ := HT.out.1.2.resolve_left (by omega)
      have hcl := hc (m - 1) (by omega)
      have h61 := (enc_last (b := bs) (m := m) hm0 (by rw [HT.out.2.2.2]; exact hmt)).2 hlt
      have hv : (ints (enc bs)).getD (m - 1) 0 = 61 := by
        have hlen : m - 1 < (enc bs).length := by rw [HT.out.2.2.2]; omega
        rw [List.getD_eq_getElem?_getD, List.getElem?_eq_getElem hlen] at h61
        simp at h61
        simp [ints, List.getElem?_eq_getElem hlen, h61]
      rw [hv] at hcl
      have w1' : IntKind.i64.wrap ((m : Int) - 1) = (m : Int) - 1 := IntWalk.i64_in _ (by omega)
      have t1 : ((m : Int) - 1).toNat = m - 1 := by omega
      have u1 : 0 ≤ (m : Int) - 1 := by omega
      have u2 : (m : Int) - 1 < (m : Int) := by omega
      have u3 : (m : Int) - 1 ≤ (tc : Int) := by omega
      clear hc h61 hv
      go_wp2
      go_roundg (gk - 1)
      case rel => exact ⟨m - 1, by omega, by omega, by omega, (fun h => by cases h), rfl, rfl⟩
      case measure => omega
    · have hT : ∃ T : List Nat, T.length = m ∧ SlAt .u8 wr tb m (ints T) ∧ Gives T bs ∧ ∀ c ∈ T, c < 256 := by
        have hg := gives_enc (!bare) bs H.out.2.1
        have hf := HT.out.1.front hmt
        cases bare with
        | false =>
          obtain rfl := hbf rfl
          exact ⟨enc bs, HT.out.2.2.2, HT.out.1, by simpa using hg, fun c hc => enc_mem hc⟩
        | true =>
          have hm : m = (bareOf bs).length := by
            have : ¬ (bareOf bs).length < m := fun h => hgo ⟨rfl, h⟩
            omega
          rw [hm, (enc_front bs).1] at hf
          exact ⟨bareOf bs, hm.symm, by rw [hm]; exact hf, by simpa using hg, fun c hc => (bare_mem bs hc).2⟩
      have hout : bare = false ∨ (bare = true ∧ m = 0 ∧ (bareOf bs).length = 0) ∨ (bare = true ∧ 0 < m ∧ 0 < (bareOf bs).length ∧ ∃ (b off c : Nat), tb = some ⟨b, off, none⟩ ∧ c ≠ 61 ∧ wr.cell? ⟨b, off + (m - 1), none⟩ = some (.int .u8 (c : Int))) := by
        cases bare with
        | false => exact .inl rfl
        | true =>
          by_cases hm0 : m = 0
          · exact .inr (.inl ⟨rfl, hm0, by omega⟩)
          · obtain ⟨b, off, rfl, hc⟩ := HT.out.1.2.resolve_left (by omega)
            have hlen : m - 1 < (enc bs).length := by rw [HT.out.2.2.2]; omega
            refine .inr (.inr ⟨rfl, by omega, (by rcases Nat.lt_or_ge 0 (bareOf bs).length with h9 | h9; (exact h9); (exact absurd ⟨rfl, by omega⟩ hgo)), b, off, (enc bs)[m - 1], rfl, ?_, ?_⟩)
            · intro h61
              have := (enc_last (b := bs) (m := m) (by omega) (by rw [HT.out.2.2.2]; exact hmt)).1 (by rw [List.getD_eq_getElem?_getD, List.getElem?_eq_getElem hlen, h61]; rfl)
              exact hgo ⟨rfl, this⟩
            · rw [hc (m - 1) (by omega)]
              simp [ints, List.getElem?_eq_getElem hlen]
      obtain ⟨T, hTl, hTs, hTg, hTm⟩ := hT
      have HTX := Lib.hid (And.intro hTl (And.intro hTs hTg))
      have HTM := Lib.hid hTm
      have hTn : tb = none → m = 0 ∧ tc = 0 := fun h => by have := HT.out.2.1 h; omega
      have hTk := HT.out.2.2.1
      have hmc : m ≤ tc := by omega
      have HTN := Lib.hid (And.intro hTn hTk)
      have w1' : IntKind.i64.wrap ((m : Int) - 1) = (m : Int) - 1 := IntWalk.i64_in _ (by omega)
      have t1 : ((m : Int) - 1).toNat = m - 1 := by omega
      clear hTl hTs hTg hTm hTn hTk HT hbf hbm hgo
      rcases hout with rfl | ⟨rfl, rfl, hz9⟩ | ⟨rfl, hm0, hz9, b, off, c, rfl, hc61, hcl⟩
      · cases hcase.1
      · omega
      · have g5 : decide (0 < m) = true := decide_eq_true hm0
        have u1 : 0 ≤ (m : Int) - 1 := by omega
        have u2 : (m : Int) - 1 < (m : Int) := by omega
        have q61 : ((c : Int) == 61) = false := by simp; omega
        clear hcase hz9
        go_wp2_with fail
        refine (new_any wr).mono ?_
        rintro e w3 ⟨rfl, hd3, hk3⟩
        obtain ⟨p, hp⟩ : ∃ p, wr.heap.size = p := ⟨_, rfl⟩
        rw [hp] at hd3 ⊢
        have hmid := mid_start HTX.out.1 HTX.out.2.1 (by omega) (by omega) (fun h => ⟨by first | exact (HTN.out.1 h).1 | rfl, (HTN.out.1 h).2⟩) HTN.out.2 HZ2.out HK2.out hk3 hp hd3
        have HM := Lib.hid hmid
        clear hmid hd3 hk3 hp
        go_wp2
        go_loopg [7, 9, 10, 11, 12, 13] (l1 + 2) (fun gg tv ov' iv _ _ _ wr => ∃ (ov : Value) (k Q : Nat) (s : St) (x : List Nat) (ta : Option Addr) (tl tc : Nat), ov = ov' ∧ tv = .slice ta tl tc ∧ iv = .int .i64 (k : Int) ∧ Mid w wr p T Q s x ta tl tc ov ∧ (0 < tl → k ≤ l1 ∧ l1 + 2 ≤ gg + k) ∧ k ≤ l1 + 1)
        case atStart => exact ⟨_, 0, 0, fresh, [], _, _, tc, rfl, rfl, rfl, HM.out, fun _ => ⟨by omega, by omega⟩, by omega⟩
        case round =>
          clear HM
          obtain ⟨ov, k, Q, s, x, ta, tl, tc, rfl, rfl, rfl, hmid, hkl, hkk⟩ := hrel
          have HM := Lib.hid hmid
          have htle := hmid.le
          have htcm := hmid.cm
          have hTlen := HTX.out.1
          have htlT : tl ≤ 16384 := by have := hmid.tl_le; omega
          clear hmid
          by_cases h0 : tl = 0
          · subst h0
            have hq : T.take Q = T := by have := HM.out.hl; exact List.take_of_length_le (by omega)
            have hfin : ∃ y, fin s = (fresh, y, 0) ∧ x ++ y = bs ∧ y.length ≤ 3 := by
              obtain ⟨s', x', y', r1, r2, r3, -⟩ := HTX.out.2.2
              have := HM.out.run
              rw [hq, r1] at this
              cases this
              exact ⟨y', r2, r3, by have := fin_len s; rw [r2] at this; exact this⟩
            obtain ⟨y, hf, hxy, hyl⟩ := hfin
            have HE := Lib.hid (end_any p s wr HM.out.d)
            rw [hf] at HE
            have HXY := Lib.hid (And.intro hxy hyl)
            have hxl : x.length ≤ 4096 := by have := congrArg List.length hxy; simp at this; rw [H.out.2.2.2.2.2] at this; omega
            clear hf hq hxy hkl
            go_wp2_with fail
            refine HE.out.mono ?_
            rintro e w5 ⟨u, rfl, ho5, hd5, hk5, hf5⟩
            obtain ⟨ub, ucap, rfl, hus, huc, hum, hun, -⟩ := ho5.shape
            obtain ⟨un, hunl⟩ : ∃ un, (ints y).length = un := ⟨_, rfl⟩
            rw [hunl] at hus huc hun ⊢
            have HU := Lib.hid (And.intro (show SlAt .u8 w5.drew ub un (ints y) from hus) hun)
            have HOV := Lib.hid (show Own .u8 5 w5.drew ov (ints x) from HM.out.own.kept (w' := w5) hk5 (fun b hb (hS : b = p) => HM.out.ne (by rw [hb, hS])))
            have HK5 := Lib.hid (HM.out.kept.trans (hk5.mono fun i _ (hi : i = p) => Or.inr (by have := HM.out.hp; omega)) |>.drew)
            have HBB := Lib.hid (show ((ints x).length + un) * 1 ≤ 140737488355328 ∧ (ints x).length + un ≤ maxLen from by rw [← hunl, ints_length, ints_length]; exact ⟨by omega, by simp [maxLen]; omega⟩)
            obtain ⟨SB, hSB⟩ : ∃ S, strOfNums (ints bs) = S := ⟨_, rfl⟩
            have cvb : (convert 28 9 (.slice a0 l0 c0)).run Try.prog w5.drew = .ok (.string SB) w5.drew := by rw [← hSB]; exact run_str (P := Try.prog) Try.underlying28 Try.underlying5 Try.underlying9 (H.out.1.up HK5.out)
            have HSB := Lib.hid hSB
            clear ho5 hd5 hk5 hf5 hus huc hum hun hunl hSB
            go_wp2
            go_region_law (refine step_appW (.tmp 97) (.tmp 98) 28 rfl 5 .u8 i0 (.int .u8 0) 1 Try.underlying28 HI.out.1 HI.out.2.1 HI.out.2.2.1 HI.out.2.2.2 rfl ov _ rfl HOV.out ub un ucap _ rfl HU.out.2 HU.out.1 HBB.out.1 HBB.out.2 (by first | rfl | simp [Region.wanted, yielded]) ?_; intro v6 w6 ho6 hk6 hpr6; have hfa := Fresh.app HK5.out HM.out.frw hk6 hpr6; have HZ6 := Lib.hid hfa.1; obtain ⟨b6, n6, cp6, rfl, cv6⟩ := res_str (Res.of_own ho6 hfa.2); rw [← ints_append, HXY.out.1, HSB.out] at cv6; have cvb6 : (convert 28 9 (.slice a0 l0 c0)).run Try.prog w6 = .ok (.string SB) w6 := (by rw [← HSB.out]; exact run_str (P := Try.prog) Try.underlying28 Try.underlying5 Try.underlying9 (H.out.1.up hfa.1)); clear ho6 hk6 hpr6 hfa cvb)
            all_goals
              go_wp2
              exact bodyPost_ret (v := .bool true) (by simp [results, Try.results4, go_sem]) rfl ⟨rfl, HZ6.out⟩
          · have g7 : decide (0 < tl) = true := decide_eq_true (by omega)
            obtain ⟨hkl1, hgg⟩ := hkl (by omega)
            obtain ⟨tb, toff, rfl, -⟩ := HM.out.sl.2.resolve_left h0
            have wk : IntKind.i64.wrap ((k : Int) + 1) = (k : Int) + 1 := IntWalk.i64_in _ (by omega)
            by_cases hk : k < l1
            · have gk1 : decide (k < l1) = true := decide_eq_true hk
              obtain ⟨b1, off1, rfl, hcell1⟩ := H.out.2.2.2.1.2.resolve_left (by omega)
              have hc1 := HM.out.kept.cell (hcell1 k hk) id
              have hcr1 := H.out.2.2.2.2.1 (cs.getD k 0) (by rw [List.getD_eq_getElem?_getD, List.getElem?_eq_getElem (by rw [H.out.2.2.2.1.1]; exact hk)]; exact List.getElem_mem _)
              obtain ⟨c, hcc⟩ : ∃ c, c = cs.getD k 0 := ⟨_, rfl⟩
              rw [← hcc] at hc1 hcr1
              clear hcc hcell1
              obtain ⟨n, hn1, hcase⟩ := rem_cases c ((tl : Int) + 1) (by omega) (by omega)
              have hntl : n ≤ tl := by omega
              have wt : IntKind.i64.wrap ((tl : Int) + 1) = (tl : Int) + 1 := IntWalk.i64_in _ (by omega)
              have wn : IntKind.i64.wrap (n : Int) = (n : Int) := IntWalk.i64_in _ (by omega)
              have wm : IntKind.i64.wrap (-(n : Int)) = -(n : Int) := IntWalk.i64_in _ (by omega)
              have wc : IntKind.i64.wrap c = c := IntWalk.i64_in _ (by omega)
              have htne : ¬ (tl : Int) + 1 = 0 := by omega
              clear hn1
              rcases hcase with ⟨hc0, hn'⟩ | ⟨hc0, hn0, hn'⟩ | ⟨hc0, hn'⟩
              case inl =>
                have gn : decide ((n : Int) < 0) = false := decide_eq_false (by omega)
                obtain ⟨uT, zT, hTr⟩ := gives_runT HTX.out.2.2
                obtain ⟨t, y, hw1, hw2, hw3⟩ := cut_round hTr HM.out.run HM.out.good (n := n)
                have HCR := Lib.hid (And.intro hw1 (And.intro hw2 hw3))
                have hpc : SlAt .u8 wr (some ⟨tb, toff, none⟩) n (ints ((T.drop Q).take n)) := HM.out.sl.front hntl
                have hTmem := HTM.out
                have HW := Lib.hid (write_any p s (some ⟨tb, toff, none⟩) n tc ((T.drop Q).take n) wr HM.out.d (sane_of_not HM.out.good) hpc (fun c hc => hTmem c (List.mem_of_mem_drop (List.mem_of_mem_take hc))) (by omega) (fun b off h0 h => by have := HM.out.ok b off (by omega) h; omega))
                unfold WPost at HW
                rw [hw1] at HW
                have hylen : y.length ≤ 3 * 16384 := by
                  have := write_len (s := s) (bs := (T.drop Q).take n)
                  rw [hw1] at this
                  have h2 : ((T.drop Q).take n).length ≤ n := by simp; omega
                  simp only at this; omega
                have hxlen : x.length ≤ 3 * 16384 := by
                  have := run_len HM.out.run
                  have h2 : (T.take Q).length ≤ T.length := by simp; omega
                  omega
                have HXY := Lib.hid (And.intro hxlen hylen)
                clear hw1 hw2 hw3 hpc hTmem hylen hxlen hTr
                go_wp2_with fail
                refine HW.out.mono ?_
                rintro e w4 ⟨u, rfl, hr4, hd4, hk4⟩
                obtain ⟨ub, un, ucap, rfl, hus, huc, hum, hun, huk⟩ := hr4
                have hun3 : (ints y).length = un := hus.1
                have HU := Lib.hid (And.intro hus hun)
                have hov4 : Own .u8 5 w4 ov (ints x) := HM.out.own.kept hk4 (fun b hb (hS : b = p) => HM.out.ne (by rw [hb, hS]))
                have HOV := Lib.hid hov4
                have HKM := Lib.hid (HM.out.kept.trans (hk4.mono fun i _ (hi : i = p) => Or.inr (by have := HM.out.hp; omega)))
                have HBB := Lib.hid (show ((ints x).length + un) * 1 ≤ 140737488355328 ∧ (ints x).length + un ≤ maxLen from by rw [← hun3, ints_length, ints_length]; have := HXY.out; exact ⟨by omega, by simp [maxLen]; omega⟩)
                have hts4 : SlAt .u8 w4 (some ⟨tb, toff, none⟩) tl (ints (T.drop Q)) := HM.out.sl.kept hk4 (fun b off h0 h (hS : b = p) => by have := HM.out.ok b off h0 h; omega)
                have H4 := Lib.hid (And.intro hd4 hts4)
                clear hus hun huk hun3 hov4 hd4 hk4 hts4
                have hntc : (n : Int) ≤ (tc : Int) := by omega
                have hntl' : (n : Int) ≤ (tl : Int) := by omega
                have hs1 : ((tl : Int) - (n : Int)).toNat = tl - n := by omega
                by_cases hcap : tc = n
                · subst hcap
                  go_wp2_with (at_builtin; refine wpList_appInts rfl (.tmp 83) (.tmp 84) 28 rfl 5 .u8 i0 (.int .u8 0) 1 Try.underlying28 HI.out.1 HI.out.2.1 HI.out.2.2.1 HI.out.2.2.2 rfl ov _ rfl HOV.out ub un ucap _ rfl HU.out.2 HU.out.1 HBB.out.1 HBB.out.2 ?_; intro v5 w5 ho5 hk5 hpr5)
                  have hfa := Fresh.app HKM.out HM.out.frw hk5 hpr5
                  have hd5 : DAt w5 p t := H4.out.1.kept hk5 HM.out.ne
                  have hts5 : SlAt .u8 w5 (some ⟨tb, toff, none⟩) tl (ints (T.drop Q)) := H4.out.2.kept hk5 (fun b off h0 h hS => by have := HM.out.ok b off h0 h; have := HM.out.fr b hS; omega)
                  have hv5 : ∀ g, v5.ownBlock = some g → p < g := by
                    intro g hg
                    rcases hpr5 with h | h
                    · exact HM.out.fr g (by rw [← h]; exact hg)
                    · rw [h] at hg; have := Option.some.inj hg; have := H4.out.1.lt; omega
                  have H5 := Lib.hid (And.intro hfa (And.intro hd5 (And.intro hts5 (And.intro hv5 (show Own .u8 5 w5 v5 (ints (x ++ y)) by rw [ints_append]; exact ho5)))))
                  clear hfa hd5 hts5 hv5 ho5 hk5 hpr5
                  go_roundg (gk - 1)
                  case rel => exact ⟨_, k + 1, Q + tc, t, x ++ y, _, _, _, rfl, rfl, by simp, ⟨by rw [← List.drop_drop]; exact ⟨by have := H5.out.2.2.1.1; simp [ints] at this ⊢; omega, .inl (by omega)⟩, by omega, by omega, (fun h => by cases h), (fun b off h0 h => by omega), H5.out.2.1, HCR.out.2.2, HCR.out.2.1, H5.out.2.2.2.2, H5.out.2.2.2.1, H5.out.1.1, HM.out.hp, by have := HM.out.hl; omega⟩, fun h => ⟨by omega, by omega⟩, by omega⟩
                  case measure => omega
                · go_wp2_with (at_builtin; refine wpList_appInts rfl (.tmp 83) (.tmp 84) 28 rfl 5 .u8 i0 (.int .u8 0) 1 Try.underlying28 HI.out.1 HI.out.2.1 HI.out.2.2.1 HI.out.2.2.2 rfl ov _ rfl HOV.out ub un ucap _ rfl HU.out.2 HU.out.1 HBB.out.1 HBB.out.2 ?_; intro v5 w5 ho5 hk5 hpr5)
                  have hfa := Fresh.app HKM.out HM.out.frw hk5 hpr5
                  have hd5 : DAt w5 p t := H4.out.1.kept hk5 HM.out.ne
                  have hts5 : SlAt .u8 w5 (some ⟨tb, toff, none⟩) tl (ints (T.drop Q)) := H4.out.2.kept hk5 (fun b off h0 h hS => by have := HM.out.ok b off h0 h; have := HM.out.fr b hS; omega)
                  have hv5 : ∀ g, v5.ownBlock = some g → p < g := by
                    intro g hg
                    rcases hpr5 with h | h
                    · exact HM.out.fr g (by rw [← h]; exact hg)
                    · rw [h] at hg; have := Option.some.inj hg; have := H4.out.1.lt; omega
                  have H5 := Lib.hid (And.intro hfa (And.intro hd5 (And.intro hts5 (And.intro hv5 (show Own .u8 5 w5 v5 (ints (x ++ y)) by rw [ints_append]; exact ho5)))))
                  clear hfa hd5 hts5 hv5 ho5 hk5 hpr5
                  go_roundg (gk - 1)
                  case rel => exact ⟨_, k + 1, Q + n, t, x ++ y, _, _, _, rfl, rfl, by simp, ⟨by rw [← List.drop_drop, ← ints_drop]; exact (by have hd := H5.out.2.2.1.drop (at_ := n) (by omega); first | exact hd | (rw [Nat.sub_self] at hd; exact hd)), by omega, by omega, (fun h => by cases h), (fun b off h0 h => by cases h; exact HM.out.ok _ _ (by omega) rfl), H5.out.2.1, HCR.out.2.2, HCR.out.2.1, H5.out.2.2.2.2, H5.out.2.2.2.1, H5.out.1.1, HM.out.hp, by have := HM.out.hl; omega⟩, fun h => ⟨by omega, by omega⟩, by omega⟩
                  case measure => omega
              case inr.inl =>
                have gn : decide (-(n : Int) < 0) = true := decide_eq_true (by omega)
                obtain ⟨uT, zT, hTr⟩ := gives_runT HTX.out.2.2
                obtain ⟨t, y, hw1, hw2, hw3⟩ := cut_round hTr HM.out.run HM.out.good (n := n)
                have HCR := Lib.hid (And.intro hw1 (And.intro hw2 hw3))
                have hpc : SlAt .u8 wr (some ⟨tb, toff, none⟩) n (ints ((T.drop Q).take n)) := HM.out.sl.front hntl
                have hTmem := HTM.out
                have HW := Lib.hid (write_any p s (some ⟨tb, toff, none⟩) n tc ((T.drop Q).take n) wr HM.out.d (sane_of_not HM.out.good) hpc (fun c hc => hTmem c (List.mem_of_mem_drop (List.mem_of_mem_take hc))) (by omega) (fun b off h0 h => by have := HM.out.ok b off (by omega) h; omega))
                unfold WPost at HW
                rw [hw1] at HW
                have hylen : y.length ≤ 3 * 16384 := by
                  have := write_len (s := s) (bs := (T.drop Q).take n)
                  rw [hw1] at this
                  have h2 : ((T.drop Q).take n).length ≤ n := by simp; omega
                  simp only at this; omega
                have hxlen : x.length ≤ 3 * 16384 := by
                  have := run_len HM.out.run
                  have h2 : (T.take Q).length ≤ T.length := by simp; omega
                  omega
                have HXY := Lib.hid (And.intro hxlen hylen)
                clear hw1 hw2 hw3 hpc hTmem hylen hxlen hTr
                go_wp2_with fail
                refine HW.out.mono ?_
                rintro e w4 ⟨u, rfl, hr4, hd4, hk4⟩
                obtain ⟨ub, un, ucap, rfl, hus, huc, hum, hun, huk⟩ := hr4
                have hun3 : (ints y).length = un := hus.1
                have HU := Lib.hid (And.intro hus hun)
                have hov4 : Own .u8 5 w4 ov (ints x) := HM.out.own.kept hk4 (fun b hb (hS : b = p) => HM.out.ne (by rw [hb, hS]))
                have HOV := Lib.hid hov4
                have HKM := Lib.hid (HM.out.kept.trans (hk4.mono fun i _ (hi : i = p) => Or.inr (by have := HM.out.hp; omega)))
                have HBB := Lib.hid (show ((ints x).length + un) * 1 ≤ 140737488355328 ∧ (ints x).length + un ≤ maxLen from by rw [← hun3, ints_length, ints_length]; have := HXY.out; exact ⟨by omega, by simp [maxLen]; omega⟩)
                have hts4 : SlAt .u8 w4 (some ⟨tb, toff, none⟩) tl (ints (T.drop Q)) := HM.out.sl.kept hk4 (fun b off h0 h (hS : b = p) => by have := HM.out.ok b off h0 h; omega)
                have H4 := Lib.hid (And.intro hd4 hts4)
                clear hus hun huk hun3 hov4 hd4 hk4 hts4
                have hntc : (n : Int) ≤ (tc : Int) := by omega
                have hntl' : (n : Int) ≤ (tl : Int) := by omega
                have hs1 : ((tl : Int) - (n : Int)).toNat = tl - n := by omega
                by_cases hcap : tc = n
                · subst hcap
                  go_wp2_with (at_builtin; refine wpList_appInts rfl (.tmp 83) (.tmp 84) 28 rfl 5 .u8 i0 (.int .u8 0) 1 Try.underlying28 HI.out.1 HI.out.2.1 HI.out.2.2.1 HI.out.2.2.2 rfl ov _ rfl HOV.out ub un ucap _ rfl HU.out.2 HU.out.1 HBB.out.1 HBB.out.2 ?_; intro v5 w5 ho5 hk5 hpr5)
                  have hfa := Fresh.app HKM.out HM.out.frw hk5 hpr5
                  have hd5 : DAt w5 p t := H4.out.1.kept hk5 HM.out.ne
                  have hts5 : SlAt .u8 w5 (some ⟨tb, toff, none⟩) tl (ints (T.drop Q)) := H4.out.2.kept hk5 (fun b off h0 h hS => by have := HM.out.ok b off h0 h; have := HM.out.fr b hS; omega)
                  have hv5 : ∀ g, v5.ownBlock = some g → p < g := by
                    intro g hg
                    rcases hpr5 with h | h
                    · exact HM.out.fr g (by rw [← h]; exact hg)
                    · rw [h] at hg; have := Option.some.inj hg; have := H4.out.1.lt; omega
                  have H5 := Lib.hid (And.intro hfa (And.intro hd5 (And.intro hts5 (And.intro hv5 (show Own .u8 5 w5 v5 (ints (x ++ y)) by rw [ints_append]; exact ho5)))))
                  clear hfa hd5 hts5 hv5 ho5 hk5 hpr5
                  go_roundg (gk - 1)
                  case rel => exact ⟨_, k + 1, Q + tc, t, x ++ y, _, _, _, rfl, rfl, by simp, ⟨by rw [← List.drop_drop]; exact ⟨by have := H5.out.2.2.1.1; simp [ints] at this ⊢; omega, .inl (by omega)⟩, by omega, by omega, (fun h => by cases h), (fun b off h0 h => by omega), H5.out.2.1, HCR.out.2.2, HCR.out.2.1, H5.out.2.2.2.2, H5.out.2.2.2.1, H5.out.1.1, HM.out.hp, by have := HM.out.hl; omega⟩, fun h => ⟨by omega, by omega⟩, by omega⟩
                  case measure => omega
                · go_wp2_with (at_builtin; refine wpList_appInts rfl (.tmp 83) (.tmp 84) 28 rfl 5 .u8 i0 (.int .u8 0) 1 Try.underlying28 HI.out.1 HI.out.2.1 HI.out.2.2.1 HI.out.2.2.2 rfl ov _ rfl HOV.out ub un ucap _ rfl HU.out.2 HU.out.1 HBB.out.1 HBB.out.2 ?_; intro v5 w5 ho5 hk5 hpr5)
                  have hfa := Fresh.app HKM.out HM.out.frw hk5 hpr5
                  have hd5 : DAt w5 p t := H4.out.1.kept hk5 HM.out.ne
                  have hts5 : SlAt .u8 w5 (some ⟨tb, toff, none⟩) tl (ints (T.drop Q)) := H4.out.2.kept hk5 (fun b off h0 h hS => by have := HM.out.ok b off h0 h; have := HM.out.fr b hS; omega)
                  have hv5 : ∀ g, v5.ownBlock = some g → p < g := by
                    intro g hg
                    rcases hpr5 with h | h
                    · exact HM.out.fr g (by rw [← h]; exact hg)
                    · rw [h] at hg; have := Option.some.inj hg; have := H4.out.1.lt; omega
                  have H5 := Lib.hid (And.intro hfa (And.intro hd5 (And.intro hts5 (And.intro hv5 (show Own .u8 5 w5 v5 (ints (x ++ y)) by rw [ints_append]; exact ho5)))))
                  clear hfa hd5 hts5 hv5 ho5 hk5 hpr5
                  go_roundg (gk - 1)
                  case rel => exact ⟨_, k + 1, Q + n, t, x ++ y, _, _, _, rfl, rfl, by simp, ⟨by rw [← List.drop_drop, ← ints_drop]; exact (by have hd := H5.out.2.2.1.drop (at_ := n) (by omega); first | exact hd | (rw [Nat.sub_self] at hd; exact hd)), by omega, by omega, (fun h => by cases h), (fun b off h0 h => by cases h; exact HM.out.ok _ _ (by omega) rfl), H5.out.2.1, HCR.out.2.2, HCR.out.2.1, H5.out.2.2.2.2, H5.out.2.2.2.1, H5.out.1.1, HM.out.hp, by have := HM.out.hl; omega⟩, fun h => ⟨by omega, by omega⟩, by omega⟩
                  case measure => omega
              case inr.inr =>
                have gn : decide ((n : Int) < 0) = false := decide_eq_false (by omega)
                obtain ⟨uT, zT, hTr⟩ := gives_runT HTX.out.2.2
                obtain ⟨t, y, hw1, hw2, hw3⟩ := cut_round hTr HM.out.run HM.out.good (n := n)
                have HCR := Lib.hid (And.intro hw1 (And.intro hw2 hw3))
                have hpc : SlAt .u8 wr (some ⟨tb, toff, none⟩) n (ints ((T.drop Q).take n)) := HM.out.sl.front hntl
                have hTmem := HTM.out
                have HW := Lib.hid (write_any p s (some ⟨tb, toff, none⟩) n tc ((T.drop Q).take n) wr HM.out.d (sane_of_not HM.out.good) hpc (fun c hc => hTmem c (List.mem_of_mem_drop (List.mem_of_mem_take hc))) (by omega) (fun b off h0 h => by have := HM.out.ok b off (by omega) h; omega))
                unfold WPost at HW
                rw [hw1] at HW
                have hylen : y.length ≤ 3 * 16384 := by
                  have := write_len (s := s) (bs := (T.drop Q).take n)
                  rw [hw1] at this
                  have h2 : ((T.drop Q).take n).length ≤ n := by simp; omega
                  simp only at this; omega
                have hxlen : x.length ≤ 3 * 16384 := by
                  have := run_len HM.out.run
                  have h2 : (T.take Q).length ≤ T.length := by simp; omega
                  omega
                have HXY := Lib.hid (And.intro hxlen hylen)
                clear hw1 hw2 hw3 hpc hTmem hylen hxlen hTr
                go_wp2_with fail
                refine HW.out.mono ?_
                rintro e w4 ⟨u, rfl, hr4, hd4, hk4⟩
                obtain ⟨ub, un, ucap, rfl, hus, huc, hum, hun, huk⟩ := hr4
                have hun3 : (ints y).length = un := hus.1
                have HU := Lib.hid (And.intro hus hun)
                have hov4 : Own .u8 5 w4 ov (ints x) := HM.out.own.kept hk4 (fun b hb (hS : b = p) => HM.out.ne (by rw [hb, hS]))
                have HOV := Lib.hid hov4
                have HKM := Lib.hid (HM.out.kept.trans (hk4.mono fun i _ (hi : i = p) => Or.inr (by have := HM.out.hp; omega)))
                have HBB := Lib.hid (show ((ints x).length + un) * 1 ≤ 140737488355328 ∧ (ints x).length + un ≤ maxLen from by rw [← hun3, ints_length, ints_length]; have := HXY.out; exact ⟨by omega, by simp [maxLen]; omega⟩)
                have hts4 : SlAt .u8 w4 (some ⟨tb, toff, none⟩) tl (ints (T.drop Q)) := HM.out.sl.kept hk4 (fun b off h0 h (hS : b = p) => by have := HM.out.ok b off h0 h; omega)
                have H4 := Lib.hid (And.intro hd4 hts4)
                clear hus hun huk hun3 hov4 hd4 hk4 hts4
                have hntc : (n : Int) ≤ (tc : Int) := by omega
                have hntl' : (n : Int) ≤ (tl : Int) := by omega
                have hs1 : ((tl : Int) - (n : Int)).toNat = tl - n := by omega
                by_cases hcap : tc = n
                · subst hcap
                  go_wp2_with (at_builtin; refine wpList_appInts rfl (.tmp 83) (.tmp 84) 28 rfl 5 .u8 i0 (.int .u8 0) 1 Try.underlying28 HI.out.1 HI.out.2.1 HI.out.2.2.1 HI.out.2.2.2 rfl ov _ rfl HOV.out ub un ucap _ rfl HU.out.2 HU.out.1 HBB.out.1 HBB.out.2 ?_; intro v5 w5 ho5 hk5 hpr5)
                  have hfa := Fresh.app HKM.out HM.out.frw hk5 hpr5
                  have hd5 : DAt w5 p t := H4.out.1.kept hk5 HM.out.ne
                  have hts5 : SlAt .u8 w5 (some ⟨tb, toff, none⟩) tl (ints (T.drop Q)) := H4.out.2.kept hk5 (fun b off h0 h hS => by have := HM.out.ok b off h0 h; have := HM.out.fr b hS; omega)
                  have hv5 : ∀ g, v5.ownBlock = some g → p < g := by
                    intro g hg
                    rcases hpr5 with h | h
                    · exact HM.out.fr g (by rw [← h]; exact hg)
                    · rw [h] at hg; have := Option.some.inj hg; have := H4.out.1.lt; omega
                  have H5 := Lib.hid (And.intro hfa (And.intro hd5 (And.intro hts5 (And.intro hv5 (show Own .u8 5 w5 v5 (ints (x ++ y)) by rw [ints_append]; exact ho5)))))
                  clear hfa hd5 hts5 hv5 ho5 hk5 hpr5
                  go_roundg (gk - 1)
                  case rel => exact ⟨_, k + 1, Q + tc, t, x ++ y, _, _, _, rfl, rfl, by simp, ⟨by rw [← List.drop_drop]; exact ⟨by have := H5.out.2.2.1.1; simp [ints] at this ⊢; omega, .inl (by omega)⟩, by omega, by omega, (fun h => by cases h), (fun b off h0 h => by omega), H5.out.2.1, HCR.out.2.2, HCR.out.2.1, H5.out.2.2.2.2, H5.out.2.2.2.1, H5.out.1.1, HM.out.hp, by have := HM.out.hl; omega⟩, fun h => ⟨by omega, by omega⟩, by omega⟩
                  case measure => omega
                · go_wp2_with (at_builtin; refine wpList_appInts rfl (.tmp 83) (.tmp 84) 28 rfl 5 .u8 i0 (.int .u8 0) 1 Try.underlying28 HI.out.1 HI.out.2.1 HI.out.2.2.1 HI.out.2.2.2 rfl ov _ rfl HOV.out ub un ucap _ rfl HU.out.2 HU.out.1 HBB.out.1 HBB.out.2 ?_; intro v5 w5 ho5 hk5 hpr5)
                  have hfa := Fresh.app HKM.out HM.out.frw hk5 hpr5
                  have hd5 : DAt w5 p t := H4.out.1.kept hk5 HM.out.ne
                  have hts5 : SlAt .u8 w5 (some ⟨tb, toff, none⟩) tl (ints (T.drop Q)) := H4.out.2.kept hk5 (fun b off h0 h hS => by have := HM.out.ok b off h0 h; have := HM.out.fr b hS; omega)
                  have hv5 : ∀ g, v5.ownBlock = some g → p < g := by
                    intro g hg
                    rcases hpr5 with h | h
                    · exact HM.out.fr g (by rw [← h]; exact hg)
                    · rw [h] at hg; have := Option.some.inj hg; have := H4.out.1.lt; omega
                  have H5 := Lib.hid (And.intro hfa (And.intro hd5 (And.intro hts5 (And.intro hv5 (show Own .u8 5 w5 v5 (ints (x ++ y)) by rw [ints_append]; exact ho5)))))
                  clear hfa hd5 hts5 hv5 ho5 hk5 hpr5
                  go_roundg (gk - 1)
                  case rel => exact ⟨_, k + 1, Q + n, t, x ++ y, _, _, _, rfl, rfl, by simp, ⟨by rw [← List.drop_drop, ← ints_drop]; exact (by have hd := H5.out.2.2.1.drop (at_ := n) (by omega); first | exact hd | (rw [Nat.sub_self] at hd; exact hd)), by omega, by omega, (fun h => by cases h), (fun b off h0 h => by cases h; exact HM.out.ok _ _ (by omega) rfl), H5.out.2.1, HCR.out.2.2, HCR.out.2.1, H5.out.2.2.2.2, H5.out.2.2.2.1, H5.out.1.1, HM.out.hp, by have := HM.out.hl; omega⟩, fun h => ⟨by omega, by omega⟩, by omega⟩
                  case measure => omega
            · have gk1 : decide (k < l1) = false := decide_eq_false hk
              have hntl : tl ≤ tl := by omega
              obtain ⟨uT, zT, hTr⟩ := gives_runT HTX.out.2.2
              obtain ⟨t, y, hw1, hw2, hw3⟩ := cut_round hTr HM.out.run HM.out.good (n := tl)
              have HCR := Lib.hid (And.intro hw1 (And.intro hw2 hw3))
              have hpc : SlAt .u8 wr (some ⟨tb, toff, none⟩) tl (ints ((T.drop Q).take tl)) := HM.out.sl.front hntl
              have hTmem := HTM.out
              have HW := Lib.hid (write_any p s (some ⟨tb, toff, none⟩) tl tc ((T.drop Q).take tl) wr HM.out.d (sane_of_not HM.out.good) hpc (fun c hc => hTmem c (List.mem_of_mem_drop (List.mem_of_mem_take hc))) (by omega) (fun b off h0 h => by have := HM.out.ok b off (by omega) h; omega))
              unfold WPost at HW
              rw [hw1] at HW
              have hylen : y.length ≤ 3 * 16384 := by
                have := write_len (s := s) (bs := (T.drop Q).take tl)
                rw [hw1] at this
                have h2 : ((T.drop Q).take tl).length ≤ tl := by simp; omega
                simp only at this; omega
              have hxlen : x.length ≤ 3 * 16384 := by
                have := run_len HM.out.run
                have h2 : (T.take Q).length ≤ T.length := by simp; omega
                omega
              have HXY := Lib.hid (And.intro hxlen hylen)
              clear hw1 hw2 hw3 hpc hTmem hylen hxlen hTr
              go_wp2_with fail
              refine HW.out.mono ?_
              rintro e w4 ⟨u, rfl, hr4, hd4, hk4⟩
              obtain ⟨ub, un, ucap, rfl, hus, huc, hum, hun, huk⟩ := hr4
              have hun3 : (ints y).length = un := hus.1
              have HU := Lib.hid (And.intro hus hun)
              have hov4 : Own .u8 5 w4 ov (ints x) := HM.out.own.kept hk4 (fun b hb (hS : b = p) => HM.out.ne (by rw [hb, hS]))
              have HOV := Lib.hid hov4
              have HKM := Lib.hid (HM.out.kept.trans (hk4.mono fun i _ (hi : i = p) => Or.inr (by have := HM.out.hp; omega)))
              have HBB := Lib.hid (show ((ints x).length + un) * 1 ≤ 140737488355328 ∧ (ints x).length + un ≤ maxLen from by rw [← hun3, ints_length, ints_length]; have := HXY.out; exact ⟨by omega, by simp [maxLen]; omega⟩)
              have hts4 : SlAt .u8 w4 (some ⟨tb, toff, none⟩) tl (ints (T.drop Q)) := HM.out.sl.kept hk4 (fun b off h0 h (hS : b = p) => by have := HM.out.ok b off h0 h; omega)
              have H4 := Lib.hid (And.intro hd4 hts4)
              clear hus hun huk hun3 hov4 hd4 hk4 hts4
              have hntc : (tl : Int) ≤ (tc : Int) := by omega
              have hntl' : (tl : Int) ≤ (tl : Int) := by omega
              have hs1 : ((tl : Int) - (tl : Int)).toNat = tl - tl := by omega
              by_cases hcap : tc = tl
              · subst hcap
                go_wp2_with (at_builtin; refine wpList_appInts rfl (.tmp 83) (.tmp 84) 28 rfl 5 .u8 i0 (.int .u8 0) 1 Try.underlying28 HI.out.1 HI.out.2.1 HI.out.2.2.1 HI.out.2.2.2 rfl ov _ rfl HOV.out ub un ucap _ rfl HU.out.2 HU.out.1 HBB.out.1 HBB.out.2 ?_; intro v5 w5 ho5 hk5 hpr5)
                have hfa := Fresh.app HKM.out HM.out.frw hk5 hpr5
                have hd5 : DAt w5 p t := H4.out.1.kept hk5 HM.out.ne
                have hts5 : SlAt .u8 w5 (some ⟨tb, toff, none⟩) tc (ints (T.drop Q)) := H4.out.2.kept hk5 (fun b off h0 h hS => by have := HM.out.ok b off h0 h; have := HM.out.fr b hS; omega)
                have hv5 : ∀ g, v5.ownBlock = some g → p < g := by
                  intro g hg
                  rcases hpr5 with h | h
                  · exact HM.out.fr g (by rw [← h]; exact hg)
                  · rw [h] at hg; have := Option.some.inj hg; have := H4.out.1.lt; omega
                have H5 := Lib.hid (And.intro hfa (And.intro hd5 (And.intro hts5 (And.intro hv5 (show Own .u8 5 w5 v5 (ints (x ++ y)) by rw [ints_append]; exact ho5)))))
                clear hfa hd5 hts5 hv5 ho5 hk5 hpr5
                go_roundg (gk - 1)
                case rel => exact ⟨_, k + 1, Q + tc, t, x ++ y, _, _, _, rfl, rfl, by simp, ⟨by rw [← List.drop_drop]; exact ⟨by have := H5.out.2.2.1.1; simp [ints] at this ⊢; omega, .inl (by omega)⟩, by omega, by omega, (fun h => by cases h), (fun b off h0 h => by omega), H5.out.2.1, HCR.out.2.2, HCR.out.2.1, H5.out.2.2.2.2, H5.out.2.2.2.1, H5.out.1.1, HM.out.hp, by have := HM.out.hl; omega⟩, fun h => ⟨by omega, by omega⟩, by omega⟩
                case measure => omega
              · go_wp2_with (at_builtin; refine wpList_appInts rfl (.tmp 83) (.tmp 84) 28 rfl 5 .u8 i0 (.int .u8 0) 1 Try.underlying28 HI.out.1 HI.out.2.1 HI.out.2.2.1 HI.out.2.2.2 rfl ov _ rfl HOV.out ub un ucap _ rfl HU.out.2 HU.out.1 HBB.out.1 HBB.out.2 ?_; intro v5 w5 ho5 hk5 hpr5)
                have hfa := Fresh.app HKM.out HM.out.frw hk5 hpr5
                have hd5 : DAt w5 p t := H4.out.1.kept hk5 HM.out.ne
                have hts5 : SlAt .u8 w5 (some ⟨tb, toff, none⟩) tl (ints (T.drop Q)) := H4.out.2.kept hk5 (fun b off h0 h hS => by have := HM.out.ok b off h0 h; have := HM.out.fr b hS; omega)
                have hv5 : ∀ g, v5.ownBlock = some g → p < g := by
                  intro g hg
                  rcases hpr5 with h | h
                  · exact HM.out.fr g (by rw [← h]; exact hg)
                  · rw [h] at hg; have := Option.some.inj hg; have := H4.out.1.lt; omega
                have H5 := Lib.hid (And.intro hfa (And.intro hd5 (And.intro hts5 (And.intro hv5 (show Own .u8 5 w5 v5 (ints (x ++ y)) by rw [ints_append]; exact ho5)))))
                clear hfa hd5 hts5 hv5 ho5 hk5 hpr5
                go_roundg (gk - 1)
                case rel => exact ⟨_, k + 1, Q + tl, t, x ++ y, _, _, _, rfl, rfl, by simp, ⟨by rw [← List.drop_drop, ← ints_drop]; exact (by have hd := H5.out.2.2.1.drop (at_ := tl) (by omega); first | exact hd | (rw [Nat.sub_self] at hd; exact hd)), by omega, by omega, (fun h => by cases h), (fun b off h0 h => by cases h; exact HM.out.ok _ _ (by omega) rfl), H5.out.2.1, HCR.out.2.2, HCR.out.2.1, H5.out.2.2.2.2, H5.out.2.2.2.1, H5.out.1.1, HM.out.hp, by have := HM.out.hl; omega⟩, fun h => ⟨by omega, by omega⟩, by omega⟩
                case measure => omega

end Go.Proofs.Ytgmbjebighhgkaa
