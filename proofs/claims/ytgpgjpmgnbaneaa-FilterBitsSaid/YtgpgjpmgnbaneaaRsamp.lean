/- The reference's samples of a row. -/
import Derived.Test.YtgpgjpmgnbaneaaSamp
namespace Go.Proofs.Ytgpgjpmgnbaneaa
open Go.RowKit Pl
set_option linter.unusedVariables false
theorem depthB_nat {d : Nat} (h : depthB d = true) : d = 1 ∨ d = 2 ∨ d = 4 ∨ d = 8 ∨ d = 16 := by
  have := depthB_or h
  omega
theorem smp_lt16 (row : List Nat) (p k : Nat) (hk : k ≤ 16) : smp row p k < 65536 := by
  have h := smp_lt row p k
  have h2 : 2 ^ k ≤ 2 ^ 16 := Nat.pow_le_pow_right (by omega) hk
  omega
theorem set_mid (A : List Int) (x v : Int) (B : List Int) : (A ++ x :: B).set A.length v = A ++ v :: B := by
  rw [List.set_append_right _ _ (Nat.le_refl _), Nat.sub_self]; rfl
set_option maxRecDepth 100000 in
set_option maxHeartbeats 8000000 in
theorem refSamples_yes (a : Option Addr) (len cap n d : Nat) (xs : List Int) (w : World) (hl : len ≤ 2048) (hs : SlAt .u8 w a len xs) (hb : Pl.Bytes xs) (hd : depthB d = true) (hn : n * d ≤ 8 * len) :
    Calls Try.prog 12 #[.slice a len cap, .int .i64 d, .int .i64 n] w fun e w' => ∃ v, e = .returned (.tuple #[v, .int .i64 0]) ∧ Own .i64 3 w' v (smps (nats xs) d n) ∧ Kept (fun _ => False) w w' ∧ ∀ b, v.ownBlock = some b → w.heap.size ≤ b := by
  have hdd := depthB_nat hd
  have g0 : decide ((n : Int) < 0) = false := decide_eq_false (by omega)
  have hd1 : 1 ≤ d := by omega
  have hd16 : d ≤ 16 := by omega
  have hn1 : n ≤ 16384 := by
    have : n * 1 ≤ n * d := Nat.mul_le_mul_left n hd1
    omega
  have g1 : decide (8 * (len : Int) / d < (n : Int)) = false := decide_eq_false (by
    rcases hdd with h | h | h | h | h <;> subst h <;> omega)
  have g2 : ¬ (d : Int) = 0 := by omega
  have g3 : ¬ (d : Int) = -1 := by omega
  have g4 : 0 ≤ 8 * (len : Int) := by omega
  have HS := Lib.hid hs
  clear hs hdd
  obtain ⟨i0, hi, hz0, hz1, hz2⟩ := info_parts Try.infoInt
  have HI := Lib.hid (And.intro hi (And.intro hz0 (And.intro hz1 hz2)))
  clear hi hz0 hz1 hz2
  go_enter Try.func12, Try.ntmps12
  go_wp2_with (first
    | (go_at_call 25; refine (refDepth_any _ _).mono ?_; rintro e w' ⟨rfl, rfl⟩)
    | (refine wpList_makeInts rfl (.tmp 26) (.tmp 26) 26 rfl 3 .i64 i0 8 Try.underlying26 HI.out.1 HI.out.2.1 HI.out.2.2.1 HI.out.2.2.2 .i64 .i64 _ _ n rfl rfl rfl rfl (by omega) (by simp [maxLen]; omega) ?_; intro w1 ho1 hk1 hz1))
  have HO1 := Lib.hid ho1
  clear ho1
  obtain ⟨g, hg⟩ : ∃ g, w.heap.size = g := ⟨_, rfl⟩
  rw [hg] at HO1 hz1 ⊢
  have HG := Lib.hid hg
  clear hg g1
  go_loopw [9] (fun i wr => ∃ k : Nat, k ≤ n ∧ i = .int .i64 k ∧ Own .i64 3 wr (.slice (some ⟨g, 0, none⟩) n n) (smps (nats xs) d k ++ List.replicate (n - k) 0) ∧ Kept (fun _ => False) w wr) (fun i _ => n - (intOf i).toNat)
  case atStart => exact ⟨0, by omega, rfl, by simpa [smps] using HO1.out, hk1⟩
  case round =>
    obtain ⟨k, hk, rfl, ho, hkr⟩ := hrel
    have HO := Lib.hid ho
    by_cases hkn : k < n
    · obtain ⟨t, ht⟩ : ∃ t, n - k = t + 1 := ⟨n - k - 1, by omega⟩
      have ht2 : n - (k + 1) = t := by omega
      have hpk : (k + 1) * d ≤ n * d := Nat.mul_le_mul_right d hkn
      obtain ⟨p, hp⟩ : ∃ p, k * d = p := ⟨_, rfl⟩
      have hpd : p + d ≤ 8 * len := by rw [Nat.add_mul, hp] at hpk; omega
      have hpi : (k : Int) * (d : Int) = (p : Int) := by rw [← hp]; simp
      have hsu := smps_succ (nats xs) d k
      rw [hp] at hsu
      have HSU := Lib.hid hsu
      rw [ht, List.replicate_succ] at ho
      have HO := Lib.hid ho
      obtain ⟨b, off, rfl, hc⟩ := HS.out.2.resolve_left (by omega)
      obtain ⟨wo, hwo⟩ : ∃ wo, wo = wr := ⟨_, rfl⟩
      rw [← hwo] at HO hkr ⊢
      clear ho hwo hp hpk hsu
      go_wp2_with fail
      go_loopw [10] (fun m wi => ∃ q : Nat, q ≤ d ∧ m = .int .i64 q ∧ Own .i64 3 wi (.slice (some ⟨g, 0, none⟩) n n) (smps (nats xs) d k ++ (smp (nats xs) p q : Int) :: List.replicate t 0) ∧ Kept (fun _ => False) w wi) (fun m _ => d - (intOf m).toNat)
      case atStart => exact ⟨0, by omega, rfl, by simpa [smp] using HO.out, hkr⟩
      case round =>
        obtain ⟨q, hq, rfl, hoi, hki⟩ := hrel
        have HOI := Lib.hid hoi
        by_cases hqd : q < d
        · obtain ⟨-, -, hglt, hyc, hyf⟩ := hoi.at
          have hyfr := hyf k
          have hyk := hyc k hkn
          rw [Pl.getD_right (by rw [smps_length]; exact Nat.le_refl _), smps_length, Nat.sub_self, List.getD_cons_zero] at hyk
          have hset := set_mid (smps (nats xs) d k) (smp (nats xs) p q : Int) (smp (nats xs) p (q + 1) : Int) (List.replicate t 0)
          rw [smps_length] at hset
          have HSET := Lib.hid hset
          obtain ⟨at_, hat⟩ : ∃ z, p + q = z := ⟨_, rfl⟩
          have hati : (p : Int) + (q : Int) = (at_ : Int) := by omega
          have hatl : at_ < 8 * len := by omega
          have hss : smp (nats xs) p (q + 1) = 2 * smp (nats xs) p q + bitAt (nats xs) at_ := by rw [← hat]; rfl
          have hb16 := smp_lt16 (nats xs) p q (by omega)
          obtain ⟨s, hse⟩ : ∃ s, smp (nats xs) p q = s := ⟨_, rfl⟩
          rw [hse] at hyk hss hb16
          unfold bitAt at hss
          obtain ⟨j, hj⟩ : ∃ j, at_ / 8 = j := ⟨_, rfl⟩
          obtain ⟨r, hr⟩ : ∃ r, at_ % 8 = r := ⟨_, rfl⟩
          obtain ⟨sh, hsh⟩ : ∃ sh, 7 - r = sh := ⟨_, rfl⟩
          have x0 := hki.cell (hc j (by omega)) id
          rw [nats_get hb] at x0
          have l0 := nats_lt hb j
          rw [hj, hr, hsh] at hss
          obtain ⟨y, hy⟩ : ∃ y, (nats xs).getD j 0 = y := ⟨_, rfl⟩
          rw [hy] at x0 l0 hss
          have hys : y / 2 ^ sh ≤ y := Nat.div_le_self _ _
          obtain ⟨yq, hyq⟩ : ∃ yq, y / 2 ^ sh = yq := ⟨_, rfl⟩
          have hyqi : (y : Int) / 2 ^ sh = (yq : Int) := by rw [← hyq]; simp
          rw [hyq] at hss hys
          have hand : bits BinOp.and IntKind.i64 (yq : Int) 1 = ((yq % 2 : Nat) : Int) := by
            rw [show (1 : Int) = ((1 : Nat) : Int) from rfl, i64_and_nat _ _ (by omega) (by omega), Nat.and_one_is_mod]
          obtain ⟨bt, hbt⟩ : ∃ bt, yq % 2 = bt := ⟨_, rfl⟩
          rw [hbt] at hss hand
          have hbt2 : bt < 2 := by omega
          obtain ⟨u, hu⟩ : ∃ u, 2 * s + bt = u := ⟨_, rfl⟩
          rw [hu] at hss
          have hji : (at_ : Int) / 8 = (j : Int) := by omega
          have hri : (at_ : Int).tmod 8 = (r : Int) := by rw [Int.tmod_eq_emod_of_nonneg (by omega)]; omega
          have hri2 : (at_ : Int) % 8 = (r : Int) := by omega
          have hshi : (7 : Int) - (r : Int) = (sh : Int) := by omega
          have hui : 2 * (s : Int) + (bt : Int) = (u : Int) := by omega
          have s1 : (0 : Int) ≤ (j : Int) := by omega
          have s2 : (j : Int) < (len : Int) := by omega
          have s5 : (0 : Int) ≤ (k : Int) := by omega
          have s6 : (k : Int) < (n : Int) := by omega
          have s7 : IntKind.i64.wrap (j : Int) = (j : Int) := IntWalk.i64_in _ (by omega)
          have s8 : IntKind.i64.wrap (sh : Int) = (sh : Int) := IntWalk.i64_in _ (by omega)
          have s9 : IntKind.i64.wrap (r : Int) = (r : Int) := IntWalk.i64_in _ (by omega)
          have s10 : IntKind.u64.wrap (sh : Int) = (sh : Int) := IntWalk.u64_in _ (by omega)
          have s11 : IntKind.i64.wrap (2 * (s : Int)) = 2 * (s : Int) := IntWalk.i64_in _ (by omega)
          have s12 : IntKind.i64.wrap (yq : Int) = (yq : Int) := IntWalk.i64_in _ (by omega)
          have s13 : IntKind.i64.wrap (u : Int) = (u : Int) := IntWalk.i64_in _ (by omega)
          have s14 : min sh 8 = sh := by omega
          have s15 : IntKind.i64.wrap (at_ : Int) = (at_ : Int) := IntWalk.i64_in _ (by omega)
          have s16 : (p : Int) ≤ 20000 := by omega
          have s17 : (q : Int) ≤ 16 := by omega
          have HV := Lib.hid hss
          have HKN := Lib.hid hkn
          have HGW := Lib.hid (show w.heap.size ≤ g by rw [HG.out]; exact Nat.le_refl _)
          clear hoi hset hat hj hr hsh hse hy hyq hbt hu hss hyc hyf hglt hys ht ht2
          go_wp2
          go_still_tail 21, (by kernel_rfl)
          clear s1 s2 s5 s6 s7 s8 s9 s10 s11 s12 s13 s14 s15 hji hri hri2 hshi hand x0 hyqi
          change wpList _ _ _ _ _ wr.drew
          obtain ⟨wd, hwd⟩ : ∃ wd, wr.drew = wd := ⟨_, rfl⟩
          have hod := HOI.out.kept ((Kept.refl (fun _ => False) wr).drew) (fun _ _ => id)
          have hkd := hki.drew
          rw [hwd] at hod hkd ⊢
          obtain ⟨-, -, -, hyc, hyf⟩ := hod.at
          have hyfd := hyf k
          have hycd := hyc k HKN.out
          have HOD := Lib.hid hod
          clear hwd hod hyfr hki hyc hyf hyk
          go_wp2
          go_roundw
          case rel =>
            have h9 := HOD.out.set HKN.out (u : Int)
            have h10 := HSET.out
            rw [HV.out] at h10
            rw [h10] at h9
            exact ⟨q + 1, by omega, by go_num, by rw [HV.out]; first | exact h9 | (rw [hui]; exact h9), hkd.setCell (p := ⟨g, k, none⟩) (.inr HGW.out) _⟩
          case measure => simp [intOf]; omega
        · obtain rfl : q = d := by omega
          clear hoi
          have h9 := HOI.out
          rw [← List.singleton_append, ← List.append_assoc, ← HSU.out, ← ht2] at h9
          have H9 := Lib.hid h9
          clear h9 ht ht2
          go_wp2
          go_roundw
          case rel => exact ⟨k + 1, by omega, by go_num, H9.out, hki⟩
          case measure => simp [intOf]; omega
    · obtain rfl : k = n := by omega
      clear ho
      go_wp2
      go_ret2
      refine ⟨_, rfl, by simpa using HO.out, hkr, fun b hb => ?_⟩
      have h9 := Option.some.inj hb; have h8 : g = b := h9; rw [HG.out, h8]; exact Nat.le_refl _
def resS (row : List Int) (d n : Int) : List Int := if codeS row.length d n = 0 then smps (nats row) d.toNat n.toNat else []
theorem samples_any (a : Option Addr) (len cap : Nat) (d n : Int) (xs : List Int) (w : World) (hl : len ≤ 2048) (hs : SlAt .u8 w a len xs) (hb : Pl.Bytes xs) :
    Calls Try.prog 11 #[.slice a len cap, .int .i64 d, .int .i64 n] w fun e w' => ∃ v, e = .returned (.tuple #[v, .int .i64 (codeS len d n)]) ∧ Own .i64 3 w' v (resS xs d n) ∧ Kept (fun _ => False) w w' ∧ ∀ b, v.ownBlock = some b → w.heap.size ≤ b := by
  have hxl := hs.1
  by_cases hc : codeS len d n = 0
  · have e1 : resS xs d n = smps (nats xs) d.toNat n.toNat := by unfold resS; rw [hxl, if_pos hc]
    rw [hc, e1]
    unfold codeS at hc
    by_cases h1 : depthB d = false ∨ n < 0
    · rw [if_pos h1] at hc; exact absurd hc (by decide)
    rw [if_neg h1] at hc
    have hd : depthB d = true := by
      cases h : depthB d
      · exact absurd (.inl h) h1
      · rfl
    have h2 : ¬ n > 8 * (len : Int) / d := fun h => by rw [if_pos h] at hc; exact absurd hc (by decide)
    have hn0 : ¬ n < 0 := fun h => h1 (.inr h)
    have hdd := depthB_or hd
    obtain ⟨nn, rfl⟩ : ∃ nn : Nat, n = nn := ⟨n.toNat, by omega⟩
    obtain ⟨dd, rfl⟩ : ∃ dd : Nat, d = dd := ⟨d.toNat, by omega⟩
    simp only [Int.toNat_natCast]
    have hnn : nn * dd ≤ 8 * len := by
      have hdn := depthB_nat hd
      rcases hdn with h | h | h | h | h <;> subst h <;> omega
    have hdn := depthB_nat hd
    rcases hdn with h | h | h | h | h
    · subst h; exact samples_1 a len cap nn xs w hl hs hb hnn
    · subst h; exact samples_2 a len cap nn xs w hl hs hb hnn
    · subst h; exact samples_4 a len cap nn xs w hl hs hb hnn
    · subst h; exact samples_8 a len cap nn xs w hl hs hb hnn
    · subst h; exact samples_16 a len cap nn xs w hl hs hb hnn
  · have e1 : resS xs d n = [] := by unfold resS; rw [hxl, if_neg hc]
    rw [e1]
    refine (samples_no a len cap d n w hl hc).mono ?_
    rintro e w' ⟨rfl, rfl⟩
    exact ⟨_, rfl, Own.nil _ _ _, Kept.refl _ _, fun b h => by cases h⟩
theorem refSamples_any (a : Option Addr) (len cap : Nat) (d n : Int) (xs : List Int) (w : World) (hl : len ≤ 2048) (hs : SlAt .u8 w a len xs) (hb : Pl.Bytes xs) :
    Calls Try.prog 12 #[.slice a len cap, .int .i64 d, .int .i64 n] w fun e w' => ∃ v, e = .returned (.tuple #[v, .int .i64 (codeS len d n)]) ∧ Own .i64 3 w' v (resS xs d n) ∧ Kept (fun _ => False) w w' ∧ ∀ b, v.ownBlock = some b → w.heap.size ≤ b := by
  have hxl := hs.1
  by_cases hc : codeS len d n = 0
  · have e1 : resS xs d n = smps (nats xs) d.toNat n.toNat := by unfold resS; rw [hxl, if_pos hc]
    rw [hc, e1]
    unfold codeS at hc
    by_cases h1 : depthB d = false ∨ n < 0
    · rw [if_pos h1] at hc; exact absurd hc (by decide)
    rw [if_neg h1] at hc
    have hd : depthB d = true := by
      cases h : depthB d
      · exact absurd (.inl h) h1
      · rfl
    have h2 : ¬ n > 8 * (len : Int) / d := fun h => by rw [if_pos h] at hc; exact absurd hc (by decide)
    have hn0 : ¬ n < 0 := fun h => h1 (.inr h)
    have hdd := depthB_or hd
    obtain ⟨nn, rfl⟩ : ∃ nn : Nat, n = nn := ⟨n.toNat, by omega⟩
    obtain ⟨dd, rfl⟩ : ∃ dd : Nat, d = dd := ⟨d.toNat, by omega⟩
    simp only [Int.toNat_natCast]
    have hnn : nn * dd ≤ 8 * len := by
      have hdn := depthB_nat hd
      rcases hdn with h | h | h | h | h <;> subst h <;> omega
    have hdn := depthB_nat hd
    exact refSamples_yes a len cap nn dd xs w hl hs hb hd hnn
  · have e1 : resS xs d n = [] := by unfold resS; rw [hxl, if_neg hc]
    rw [e1]
    refine (refSamples_no a len cap d n w hl hc).mono ?_
    rintro e w' ⟨rfl, rfl⟩
    exact ⟨_, rfl, Own.nil _ _ _, Kept.refl _ _, fun b h => by cases h⟩
end Go.Proofs.Ytgpgjpmgnbaneaa
