/- Any bytes' text, any text's bytes: the law walked. -/
import Derived.Test.YtgmbjebighhgkaaRDec
import Derived.Test.YtgmbjebighhgkaaREnc
import Derived.Test.YtgmbjebighhgkaaCuts
import Derived.Test.YtgmbjebighhgkaaGrow
namespace Go.Proofs.Ytgmbjebighhgkaa
open Go.RowKit
set_option linter.unusedVariables false
set_option linter.unusedSimpArgs false
attribute [local go_sem] growOp growUpon sameUpon
theorem isBytes_ints {xs : List Nat} : True := trivial
set_option maxRecDepth 100000 in
set_option maxHeartbeats 8000000 in
theorem texts_go (a0 a1 : Option Addr) (l0 c0 l1 c1 : Nat) (bs ts : List Nat) (w : World) (hs0 : SlAt .u8 w a0 l0 (ints bs)) (hs1 : SlAt .u8 w a1 l1 (ints ts)) (hb0 : ∀ c ∈ bs, c < 256) (hb1 : ∀ c ∈ ts, c < 256)
    (hn0 : ∀ b off, 0 < l0 → a0 = some ⟨b, off, none⟩ → b < w.heap.size) (hn1 : ∀ b off, 0 < l1 → a1 = some ⟨b, off, none⟩ → b < w.heap.size) (hl0 : l0 ≤ c0) (hc0 : c0 ≤ 9223372036854775807) (hl1 : l1 ≤ c1) (hc1 : c1 ≤ 9223372036854775807) (hnil0 : a0 = none → l0 = 0 ∧ c0 = 0) :
    Calls Try.prog 6 #[.slice a0 l0 c0, .slice a1 l1 c1] w fun e w' => e = .returned (.bool true) ∧ Kept (fun _ => False) w w' := by
  have H := Lib.hid (And.intro hs0 (And.intro hs1 (And.intro hb0 (And.intro hb1 (And.intro hn0 (And.intro hn1 hnil0))))))
  clear hs0 hs1 hb0 hb1 hn0 hn1 hnil0
  by_cases h0 : 4096 < l0
  · have g0 : decide (4096 < (l0 : Int)) = true := by simp; omega
    go_enter Try.func6, Try.ntmps6
    go_wp2_with fail
    refine (known_any w).mono ?_
    rintro e w1 ⟨rfl, hk1⟩
    have HK1 := Lib.hid hk1
    clear hk1
    go_wp2
    exact bodyPost_ret (v := .bool true) (by simp [results, Try.results6, go_sem]) rfl ⟨rfl, HK1.out⟩
  have g0 : decide (4096 < (l0 : Int)) = false := by simp; omega
  by_cases h1 : 4096 < l1
  · have g1 : decide (4096 < (l1 : Int)) = true := by simp; omega
    go_enter Try.func6, Try.ntmps6
    go_wp2_with fail
    refine (known_any w).mono ?_
    rintro e w1 ⟨rfl, hk1⟩
    have HK1 := Lib.hid hk1
    clear hk1
    go_wp2
    exact bodyPost_ret (v := .bool true) (by simp [results, Try.results6, go_sem]) rfl ⟨rfl, HK1.out⟩
  have g1 : decide (4096 < (l1 : Int)) = false := by simp; omega
  go_enter Try.func6, Try.ntmps6
  go_wp2_with fail
  refine (known_any w).mono ?_
  rintro e w1 ⟨rfl, hk1⟩
  have HK1 := Lib.hid hk1
  have HD := Lib.hid (decode_any a1 l1 c1 ts w1 (H.out.2.1.up hk1) H.out.2.2.2.1 (by omega) (fun b off h0 h => by have := H.out.2.2.2.2.2.1 b off h0 h; have := hk1.size; omega))
  clear hk1
  obtain ⟨er, her⟩ : ∃ er, (decode ts).2 = er := ⟨_, rfl⟩
  obtain ⟨D, hD⟩ : ∃ D, ints (decode ts).1 = D := ⟨_, rfl⟩
  rw [her, hD] at HD
  go_wp2_with fail
  refine HD.out.mono ?_
  rintro e w2 ⟨u, rfl, ho2, hk2, -⟩
  have HK2 := Lib.hid (HK1.out.then hk2)
  obtain ⟨ua, uc, rfl, us, -⟩ := ho2.shape
  have HU := Lib.hid us
  have HR := Lib.hid (rdecode_any a1 l1 c1 ts w2 (H.out.2.1.up HK2.out) H.out.2.2.2.1 (by omega) (fun b off h0 h => by have := H.out.2.2.2.2.2.1 b off h0 h; have := HK2.out.size; omega))
  rw [her, hD] at HR
  clear hk2 ho2 us her hD
  go_wp2_with fail
  refine HR.out.mono ?_
  rintro e w3 ⟨u, rfl, ho3, hk3, -⟩
  have HK3 := Lib.hid (HK2.out.then hk3)
  obtain ⟨va, vc, rfl, us, -⟩ := ho3.shape
  have HU3 := Lib.hid (HU.out.up hk3)
  have HV := Lib.hid us
  clear hk3 ho3 us
  obtain ⟨nd, hnd⟩ : ∃ nd, D.length = nd := ⟨_, rfl⟩
  rw [hnd] at HU3 HV ⊢
  clear hnd HU
  obtain ⟨WR, hWR⟩ : ∃ WR, WR = w3.drew := ⟨_, rfl⟩
  have hkr : Kept (fun _ => False) w3 WR := by rw [hWR]; exact (Kept.refl _ _).drew
  have HKR := Lib.hid (HK3.out.then hkr)
  have HUR := Lib.hid (HU3.out.up hkr)
  have HVR := Lib.hid (HV.out.up hkr)
  have HWR := Lib.hid hWR
  clear hWR hkr
  obtain ⟨E, hE⟩ : ∃ E, ints (enc bs) = E := ⟨_, rfl⟩
  have HEN : ∀ w', Kept (fun _ => False) WR w' → Calls Try.prog 17 #[.slice a0 l0 c0] w' (EPost bs w') := fun w' hk => encode_any a0 l0 c0 bs w' hl0 (by omega) (H.out.1.up (HKR.out.then hk)) H.out.2.2.1 (fun b off h0 h => by have := H.out.2.2.2.2.1 b off h0 h; have := (HKR.out.then hk).size; omega) hc0
  have HRN : ∀ w', Kept (fun _ => False) WR w' → Calls Try.prog 20 #[.slice a0 l0 c0] w' (EPost bs w') := fun w' hk => rencode_any a0 l0 c0 bs w' hl0 (by omega) (H.out.1.up (HKR.out.then hk)) H.out.2.2.1 (fun b off h0 h => by have := H.out.2.2.2.2.1 b off h0 h; have := (HKR.out.then hk).size; omega) hc0
  unfold EPost at HEN HRN
  rw [hE] at HEN HRN
  have HE := Lib.hid HEN
  have HF := Lib.hid HRN
  clear HEN HRN hE
  obtain ⟨RE, hRE⟩ : ∃ R : Value → World → Prop, R = fun u w' => ∃ b n cap, u = .slice b n cap ∧ SlAt .u8 w' b n E := ⟨_, rfl⟩
  obtain ⟨SE, hSE⟩ : ∃ s, strOfNums E = s := ⟨_, rfl⟩
  obtain ⟨SD, hSD⟩ : ∃ s, strOfNums D = s := ⟨_, rfl⟩
  obtain ⟨RS, hRS⟩ : ∃ R : Value → World → Prop, R = fun u w' => u = .string SE := ⟨_, rfl⟩
  obtain ⟨RT, hRT⟩ : ∃ R : Value → World → Prop, R = fun u w' => u = .string SD := ⟨_, rfl⟩
  have cv : ∀ w' b n cap, SlAt .u8 w' b n E → (convert 28 9 (.slice b n cap)).run Try.prog w' = .ok (.string SE) w' := fun w' b n cap h => by rw [← hSE]; exact run_str (P := Try.prog) Try.underlying28 Try.underlying5 Try.underlying9 h
  have cd : ∀ w' b n cap, SlAt .u8 w' b n D → (convert 28 9 (.slice b n cap)).run Try.prog w' = .ok (.string SD) w' := fun w' b n cap h => by rw [← hSD]; exact run_str (P := Try.prog) Try.underlying28 Try.underlying5 Try.underlying9 h
  have CV := Lib.hid cv
  have CD := Lib.hid cd
  have HRE := Lib.hid hRE
  have HRS := Lib.hid hRS
  have HRT := Lib.hid hRT
  clear hRE hSE hSD hRS hRT cv cd
  go_wp2
  refine wp_region_grow #[0, 1, 3, 0, 11, 27, 63, 127, 255, 511, 255, 1279, 4095, 8191, 16383, 32767, 32767, 131071, 262143, 524287] 20 [] (fun i => if i = 1 then some RE else if i = 4 then some RE else if i = 2 then some RS else if i = 5 then some RS else if i = 9 then some RT else if i = 11 then some RT else none) (by kernel_rfl) rfl (by kernel_rfl) (fun i hi => by cases hi) (fun _ _ _ _ _ h => h) ?_
  rintro _ rfl
  rw [← HWR.out]
  simp only [List.take_succ_cons, List.take_zero, List.drop_succ_cons, List.drop_zero, number, Nat.reduceAdd]
  repeat (refine wpGrow_step (fun K hK => ?_); go_simp; refine hK _ _ ?_; clear hK K)
  refine wpGrow_step (fun K hK => ?_)
  go_simp
  refine ⟨fun w' hg => (HE.out w' hg.old).mono (fun e w'' ⟨v, he, ⟨b, n, cap, hv, hsl, _⟩, hk⟩ => ⟨_, he, hk, (by rw [HRE.out]; exact ⟨b, n, cap, hv, hsl⟩)⟩), fun v u1 hv _ => ?_⟩
  rw [HRE.out] at hv
  obtain ⟨b1, n1, cap1, rfl, s1⟩ := hv
  have S1 := Lib.hid s1
  clear s1
  refine hK _ _ ?_; clear hK K
  repeat (refine wpGrow_step (fun K hK => ?_); go_simp; refine hK _ _ ?_; clear hK K)
  refine wpGrow_step (fun K hK => ?_)
  go_simp
  refine ⟨fun w' hg => (by rw [CV.out w' _ _ _ (S1.out.up (show Kept _ u1 w' from hg.seen 1 (by kernel_rfl)))]; exact ⟨Kept.refl _ _, (by rw [HRS.out])⟩), fun v u2 hv _ => ?_⟩
  rw [HRS.out] at hv
  subst hv
  refine hK _ _ ?_; clear hK K
  repeat (refine wpGrow_step (fun K hK => ?_); go_simp; refine hK _ _ ?_; clear hK K)
  refine wpGrow_step (fun K hK => ?_)
  go_simp
  refine ⟨fun w' hg => (HF.out w' hg.old).mono (fun e w'' ⟨v, he, ⟨b, n, cap, hv, hsl, _⟩, hk⟩ => ⟨_, he, hk, (by rw [HRE.out]; exact ⟨b, n, cap, hv, hsl⟩)⟩), fun v u4 hv _ => ?_⟩
  rw [HRE.out] at hv
  obtain ⟨b4, n4, cap4, rfl, s4⟩ := hv
  have S4 := Lib.hid s4
  clear s4
  refine hK _ _ ?_; clear hK K
  repeat (refine wpGrow_step (fun K hK => ?_); go_simp; refine hK _ _ ?_; clear hK K)
  refine wpGrow_step (fun K hK => ?_)
  go_simp
  refine ⟨fun w' hg => (by rw [CV.out w' _ _ _ (S4.out.up (show Kept _ u4 w' from hg.seen 4 (by kernel_rfl)))]; exact ⟨Kept.refl _ _, (by rw [HRS.out])⟩), fun v u5 hv _ => ?_⟩
  rw [HRS.out] at hv
  subst hv
  refine hK _ _ ?_; clear hK K
  repeat (refine wpGrow_step (fun K hK => ?_); go_simp; refine hK _ _ ?_; clear hK K)
  refine wpGrow_step (fun K hK => ?_)
  go_simp
  refine ⟨fun w' hg => (by rw [CD.out w' _ _ _ (HUR.out.up hg.old)]; exact ⟨Kept.refl _ _, (by rw [HRT.out])⟩), fun v u9 hv _ => ?_⟩
  rw [HRT.out] at hv
  subst hv
  refine hK _ _ ?_; clear hK K
  repeat (refine wpGrow_step (fun K hK => ?_); go_simp; refine hK _ _ ?_; clear hK K)
  refine wpGrow_step (fun K hK => ?_)
  go_simp
  refine ⟨fun w' hg => (by rw [CD.out w' _ _ _ (HVR.out.up hg.old)]; exact ⟨Kept.refl _ _, (by rw [HRT.out])⟩), fun v u11 hv _ => ?_⟩
  rw [HRT.out] at hv
  subst hv
  refine hK _ _ ?_; clear hK K
  repeat (refine wpGrow_step (fun K hK => ?_); go_simp; refine hK _ _ ?_; clear hK K)
  refine wpGrow_nil ?_
  intro w12 hk3 hω
  have HKZ := Lib.hid (HKR.out.then hk3)
  go_wp2
  exact bodyPost_ret (v := .bool true) (by simp [results, Try.results6, go_sem]) rfl ⟨rfl, HKZ.out⟩
theorem law_texts {a0 a1 : Option Addr} {l0 c0 l1 c1 : Nat} {z0 z1 : List Int} {w : World} (f0 : IsRow .u8 w a0 l0 c0 z0) (f1 : IsRow .u8 w a1 l1 c1 z1) :
    Calls Try.prog 6 #[.slice a0 l0 c0, .slice a1 l1 c1] w fun e w' => e = .returned (.bool true) ∧ Below w.heap.size w w' := by
  obtain ⟨bs, s0, b0, -, k0, m0, n0, e0⟩ := row_ints f0
  obtain ⟨ts, s1, b1, -, k1, m1, n1, e1⟩ := row_ints f1
  exact (texts_go a0 a1 l0 c0 l1 c1 bs ts w s0 s1 b0 b1 n0 n1 k0 m0 k1 m1 e0).mono fun e w' ⟨h, k⟩ => ⟨h, k.below⟩
end Go.Proofs.Ytgmbjebighhgkaa
