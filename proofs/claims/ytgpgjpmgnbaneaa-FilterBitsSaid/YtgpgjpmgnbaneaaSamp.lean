/- Samples of a row: both functions. -/
import Derived.Test.YtgpgjpmgnbaneaaInts
import Derived.Test.YtgpgjpmgnbaneaaApp
import Derived.StillTailTactics
namespace Go.Proofs.Ytgpgjpmgnbaneaa
open Go.RowKit Pl
set_option linter.unusedVariables false
theorem Try.infoInt : (Try.prog.info? 3).map (fun i => (i.zero, i.size, i.bytes)) = some (some (.int .i64 0), 1, 8) := by kernel_rfl
def nats (xs : List Int) : List Nat := xs.map Int.toNat
theorem nats_get {xs : List Int} (h : Pl.Bytes xs) (j : Nat) : xs.getD j 0 = ((nats xs).getD j 0 : Int) := by
  have := h.get j
  simp only [nats, List.getD_eq_getElem?_getD, List.getElem?_map] at this ⊢
  cases hx : xs[j]? with
  | none => simp
  | some x => rw [hx] at this; simp at this ⊢; omega
theorem nats_lt {xs : List Int} (h : Pl.Bytes xs) (j : Nat) : (nats xs).getD j 0 < 256 := by
  have h1 := h.get j
  have h2 := nats_get h j
  omega
theorem nats_small {xs : List Int} (h : Pl.Bytes xs) : ∀ x ∈ nats xs, x < 256 := by
  intro x hx
  simp only [nats, List.mem_map] at hx
  obtain ⟨a, ha, rfl⟩ := hx
  have := h a ha
  omega
theorem set_fill (A : List Int) (m : Nat) (v : Int) : (A ++ List.replicate (m + 1) 0).set A.length v = (A ++ [v]) ++ List.replicate m 0 := by
  rw [List.set_append_right _ _ (Nat.le_refl _), Nat.sub_self, List.replicate_succ]; simp
theorem smps_succ (row : List Nat) (d k : Nat) : smps row d (k + 1) = smps row d k ++ [(smp row (k * d) d : Int)] := by simp [smps, List.range_succ]
theorem vint {k : IntKind} {a b : Int} (h : a = b) : Value.int k a = .int k b := by rw [h]
theorem retT {v : Value} {k : IntKind} {a b : Int} (h : a = b) : Ending.returned (.tuple #[v, .int k a]) = .returned (.tuple #[v, .int k b]) := by rw [h]
theorem i64_and_nat (a b : Nat) (ha : a < 9223372036854775808) (hb : b < 9223372036854775808) : bits .and .i64 (a : Int) (b : Int) = ((a &&& b : Nat) : Int) := by
  have hx : a &&& b < 2 ^ 63 := Nat.and_lt_two_pow _ (by omega)
  show IntKind.i64.wrap ((BitVec.ofInt 64 (a : Int) &&& BitVec.ofInt 64 (b : Int)).toNat : Int) = _
  rw [BitVec.toNat_and, BitVec.ofInt_natCast, BitVec.ofInt_natCast, BitVec.toNat_ofNat, BitVec.toNat_ofNat, Nat.mod_eq_of_lt (show a < 2 ^ 64 by omega), Nat.mod_eq_of_lt (show b < 2 ^ 64 by omega)]
  exact IntWalk.i64_in _ (by omega)
theorem i64_or_nat (a b : Nat) (ha : a < 9223372036854775808) (hb : b < 9223372036854775808) : bits .or .i64 (a : Int) (b : Int) = ((a ||| b : Nat) : Int) := by
  have hx : a ||| b < 2 ^ 63 := Nat.or_lt_two_pow (by omega) (by omega)
  show IntKind.i64.wrap ((BitVec.ofInt 64 (a : Int) ||| BitVec.ofInt 64 (b : Int)).toNat : Int) = _
  rw [BitVec.toNat_or, BitVec.ofInt_natCast, BitVec.ofInt_natCast, BitVec.toNat_ofNat, BitVec.toNat_ofNat, Nat.mod_eq_of_lt (show a < 2 ^ 64 by omega), Nat.mod_eq_of_lt (show b < 2 ^ 64 by omega)]
  exact IntWalk.i64_in _ (by omega)
def codeS (len : Nat) (d n : Int) : Int := if depthB d = false ∨ n < 0 then 1 else if n > 8 * (len : Int) / d then 2 else 0
set_option maxRecDepth 100000 in
set_option maxHeartbeats 2000000 in
theorem samples_no (a : Option Addr) (len cap : Nat) (d n : Int) (w : World) (hl : len ≤ 2048) (hc : codeS len d n ≠ 0) :
    Calls Try.prog 11 #[.slice a len cap, .int .i64 d, .int .i64 n] w fun e w' => e = .returned (.tuple #[.slice none 0 0, .int .i64 (codeS len d n)]) ∧ w = w' := by
  by_cases hd : depthB d = true
  · by_cases h0 : n < 0
    · have g0 : decide (n < 0) = true := decide_eq_true h0
      have e0 : codeS len d n = 1 := if_pos (.inr h0)
      have HE := Lib.hid e0
      clear hc e0
      go_enter Try.func11, Try.ntmps11
      go_wp2_with (go_at_call 24; refine (isDepth_any d _).mono ?_; rintro e w' ⟨rfl, rfl⟩)
      go_ret2
      exact ⟨retT HE.out.symm, rfl⟩
    · have g0 : decide (n < 0) = false := decide_eq_false h0
      have e0 : codeS len d n = if n > 8 * (len : Int) / d then 2 else 0 := if_neg (by rw [hd]; simp; omega)
      have hn : 8 * (len : Int) / d < n := by
        by_cases h : n > 8 * (len : Int) / d
        · exact h
        · rw [if_neg h] at e0; exact absurd e0 hc
      rw [if_pos hn] at e0
      have HE := Lib.hid e0
      have hdd := depthB_or hd
      clear hc e0
      rcases hdd with rfl | rfl | rfl | rfl | rfl
      all_goals
        have g1 := decide_eq_true hn
        go_enter Try.func11, Try.ntmps11
        go_wp2_with (go_at_call 24; refine (isDepth_any _ _).mono ?_; rintro e w' ⟨rfl, rfl⟩)
        go_ret2
        exact ⟨retT HE.out.symm, rfl⟩
  · have hd := Bool.eq_false_iff.2 hd
    have e0 : codeS len d n = 1 := if_pos (.inl hd)
    have HE := Lib.hid e0
    clear hc e0
    go_enter Try.func11, Try.ntmps11
    go_wp2_with (go_at_call 24; refine (isDepth_any d _).mono ?_; rintro e w' ⟨rfl, rfl⟩)
    go_ret2
    exact ⟨retT HE.out.symm, rfl⟩
set_option maxRecDepth 100000 in
set_option maxHeartbeats 2000000 in
theorem refSamples_no (a : Option Addr) (len cap : Nat) (d n : Int) (w : World) (hl : len ≤ 2048) (hc : codeS len d n ≠ 0) :
    Calls Try.prog 12 #[.slice a len cap, .int .i64 d, .int .i64 n] w fun e w' => e = .returned (.tuple #[.slice none 0 0, .int .i64 (codeS len d n)]) ∧ w = w' := by
  by_cases hd : depthB d = true
  · by_cases h0 : n < 0
    · have g0 : decide (n < 0) = true := decide_eq_true h0
      have e0 : codeS len d n = 1 := if_pos (.inr h0)
      have HE := Lib.hid e0
      clear hc e0
      go_enter Try.func12, Try.ntmps12
      go_wp2_with (go_at_call 25; refine (refDepth_any d _).mono ?_; rintro e w' ⟨rfl, rfl⟩)
      go_ret2
      exact ⟨retT HE.out.symm, rfl⟩
    · have g0 : decide (n < 0) = false := decide_eq_false h0
      have e0 : codeS len d n = if n > 8 * (len : Int) / d then 2 else 0 := if_neg (by rw [hd]; simp; omega)
      have hn : 8 * (len : Int) / d < n := by
        by_cases h : n > 8 * (len : Int) / d
        · exact h
        · rw [if_neg h] at e0; exact absurd e0 hc
      rw [if_pos hn] at e0
      have HE := Lib.hid e0
      have hdd := depthB_or hd
      clear hc e0
      rcases hdd with rfl | rfl | rfl | rfl | rfl
      all_goals
        have g1 := decide_eq_true hn
        go_enter Try.func12, Try.ntmps12
        go_wp2_with (go_at_call 25; refine (refDepth_any _ _).mono ?_; rintro e w' ⟨rfl, rfl⟩)
        go_ret2
        exact ⟨retT HE.out.symm, rfl⟩
  · have hd := Bool.eq_false_iff.2 hd
    have e0 : codeS len d n = 1 := if_pos (.inl hd)
    have HE := Lib.hid e0
    clear hc e0
    go_enter Try.func12, Try.ntmps12
    go_wp2_with (go_at_call 25; refine (refDepth_any d _).mono ?_; rintro e w' ⟨rfl, rfl⟩)
    go_ret2
    exact ⟨retT HE.out.symm, rfl⟩
set_option maxRecDepth 100000 in
set_option maxHeartbeats 4000000 in
theorem samples_1 (a : Option Addr) (len cap n : Nat) (xs : List Int) (w : World) (hl : len ≤ 2048) (hs : SlAt .u8 w a len xs) (hb : Pl.Bytes xs) (hn : n * 1 ≤ 8 * len) :
    Calls Try.prog 11 #[.slice a len cap, .int .i64 1, .int .i64 n] w fun e w' => ∃ v, e = .returned (.tuple #[v, .int .i64 0]) ∧ Own .i64 3 w' v (smps (nats xs) 1 n) ∧ Kept (fun _ => False) w w' ∧ ∀ b, v.ownBlock = some b → w.heap.size ≤ b := by
  have hdd : depthB 1 = true := rfl
  have g0 : decide ((n : Int) < 0) = false := decide_eq_false (by omega)
  have g1 : decide (8 * (len : Int) / 1 < (n : Int)) = false := decide_eq_false (by omega)
  have HS := Lib.hid hs
  clear hs
  obtain ⟨i0, hi, hz0, hz1, hz2⟩ := info_parts Try.infoInt
  have HI := Lib.hid (And.intro hi (And.intro hz0 (And.intro hz1 hz2)))
  clear hi hz0 hz1 hz2
  go_enter Try.func11, Try.ntmps11
  go_wp2_with (first
    | (go_at_call 24; refine (isDepth_any _ _).mono ?_; rintro e w' ⟨rfl, rfl⟩)
    | (refine wpList_makeInts rfl (.tmp 27) (.tmp 27) 26 rfl 3 .i64 i0 8 Try.underlying26 HI.out.1 HI.out.2.1 HI.out.2.2.1 HI.out.2.2.2 .i64 .i64 _ _ n rfl rfl rfl rfl (by omega) (by simp [maxLen]; omega) ?_; intro w1 ho1 hk1 hz1))
  have HO1 := Lib.hid ho1
  clear ho1
  obtain ⟨g, hg⟩ : ∃ g, w.heap.size = g := ⟨_, rfl⟩
  rw [hg] at HO1 hz1 ⊢
  have HG := Lib.hid hg
  clear hg
  go_loopw [31] (fun i wr => ∃ k : Nat, k ≤ n ∧ i = .int .i64 k ∧ Own .i64 3 wr (.slice (some ⟨g, 0, none⟩) n n) (smps (nats xs) 1 k ++ List.replicate (n - k) 0) ∧ Kept (fun _ => False) w wr) (fun i _ => n - (intOf i).toNat)
  case atStart => exact ⟨0, by omega, rfl, by simpa [smps] using HO1.out, hk1⟩
  case round =>
    obtain ⟨k, hk, rfl, ho, hkr⟩ := hrel
    have HO := Lib.hid ho
    by_cases hkn : k < n
    · obtain ⟨-, -, hglt, hyc, hyf⟩ := ho.at
      have hyfr := hyf k
      obtain ⟨t, ht⟩ : ∃ t, n - k = t + 1 := ⟨n - k - 1, by omega⟩
      have ht2 : n - (k + 1) = t := by omega
      have hset := set_fill (smps (nats xs) 1 k) t (smp (nats xs) (k * 1) 1 : Int)
      rw [smps_length, ← smps_succ, ← ht, ← ht2] at hset
      have HSET := Lib.hid hset
      obtain ⟨b, off, rfl, hc⟩ := HS.out.2.resolve_left (by omega)
      have hv := smp_in (nats xs) (k * 1) 1 (by omega)
      obtain ⟨j, hj⟩ : ∃ j, k * 1 / 8 = j := ⟨_, rfl⟩
      obtain ⟨r, hr⟩ : ∃ r, k * 1 % 8 = r := ⟨_, rfl⟩
      have x0 := hkr.cell (hc j (by omega)) id
      rw [nats_get hb] at x0
      have l0 := nats_lt hb j
      rw [hj, hr] at hv
      obtain ⟨y, hy⟩ : ∃ y, (nats xs).getD j 0 = y := ⟨_, rfl⟩
      rw [hy] at x0 l0 hv
      obtain ⟨s, hse⟩ : ∃ s, 8 - r - 1 = s := ⟨_, rfl⟩
      rw [hse] at hv
      have hys : y / 2 ^ s ≤ y := Nat.div_le_self _ _
      have hand : bits BinOp.and IntKind.i64 ((y : Int) / 2 ^ s) 1 = ((y / 2 ^ s % 2 ^ 1 : Nat) : Int) := by
        rw [show (y : Int) / 2 ^ s = ((y / 2 ^ s : Nat) : Int) by simp, show (1 : Int) = ((2 ^ 1 - 1 : Nat) : Int) by decide, i64_and_nat _ _ (by omega) (by omega), Nat.and_two_pow_sub_one_eq_mod]
      obtain ⟨u, hu⟩ : ∃ u, y / 2 ^ s % 2 ^ 1 = u := ⟨_, rfl⟩
      rw [hu] at hand hv
      obtain ⟨p, hp⟩ : ∃ p, k * 1 = p := ⟨_, rfl⟩
      have hpi : (k : Int) * 1 = (p : Int) := by omega
      have hji : (p : Int) / 8 = (j : Int) := by omega
      have hri : (p : Int).tmod 8 = (r : Int) := by rw [Int.tmod_eq_emod_of_nonneg (by omega)]; omega
      have hri2 : (p : Int) % 8 = (r : Int) := by omega
      have hsi : (8 : Int) - 1 - (r : Int) = (s : Int) := by omega
      have hsi2 : (7 : Int) - (r : Int) = (s : Int) := by omega
      have s1 : (0 : Int) ≤ (j : Int) := by omega
      have s2 : (j : Int) < (len : Int) := by omega
      have s5 : (0 : Int) ≤ (k : Int) := by omega
      have s6 : (k : Int) < (n : Int) := by omega
      have s7 : IntKind.i64.wrap (j : Int) = (j : Int) := IntWalk.i64_in _ (by omega)
      have s8 : IntKind.i64.wrap (s : Int) = (s : Int) := IntWalk.i64_in _ (by omega)
      have s9 : IntKind.i64.wrap (r : Int) = (r : Int) := IntWalk.i64_in _ (by omega)
      have s10 : (0 : Int) ≤ (s : Int) := by omega
      have s11 : IntKind.i64.wrap (p : Int) = (p : Int) := IntWalk.i64_in _ (by omega)
      have s12 : IntKind.i64.wrap (y : Int) = (y : Int) := IntWalk.i64_in _ (by omega)
      have s13 : IntKind.i64.wrap 7 = 7 := by decide
      have s14 : min s 64 = s := by omega
      have HV := Lib.hid hv
      have HKN := Lib.hid hkn
      have hps : (0:Int) ≤ (k : Int) * 1 := by omega
      have hps2 : (k : Int) * 1 ≤ 20000 := by omega
      clear ho hset ht ht2 hj hr hse hy hu hv hc hyc hyf hglt hp hys
      go_wp2
      go_still_tail 19, (by kernel_rfl)
      have HAND := Lib.hid hand
      clear s1 s2 s5 s6 s7 s8 s9 s10 s11 s12 s13 s14 hand hji hri hri2 hsi hsi2 hpi x0 hps hps2
      change wpList _ _ _ _ _ wr.drew
      obtain ⟨wd, hwd⟩ : ∃ wd, wr.drew = wd := ⟨_, rfl⟩
      have hod := HO.out.kept ((Kept.refl (fun _ => False) wr).drew) (fun _ _ => id)
      have hkd := hkr.drew
      rw [hwd] at hod hkd ⊢
      obtain ⟨-, -, -, hyc, hyf⟩ := hod.at
      have hyfd := hyf k
      have hycd := hyc k HKN.out
      have HOD := Lib.hid hod
      clear hwd hod hyfr hkr hyc hyf
      go_wp2
      go_roundw
      case rel =>
        have h9 := HOD.out.set HKN.out (u : Int)
        rw [← HV.out, HSET.out] at h9
        exact ⟨k + 1, by omega, by go_num, by rw [HAND.out, ← HV.out]; exact h9, hkd.setCell (p := ⟨g, k, none⟩) (.inr (by rw [HG.out]; exact Nat.le_refl _)) _⟩
      case measure => simp [intOf]; omega
    · obtain rfl : k = n := by omega
      clear ho
      go_wp2
      go_ret2
      refine ⟨_, rfl, by simpa using HO.out, hkr, fun b hb => ?_⟩
      have h9 := Option.some.inj hb; have h8 : g = b := h9; rw [HG.out, h8]; exact Nat.le_refl _
set_option maxRecDepth 100000 in
set_option maxHeartbeats 4000000 in
theorem samples_2 (a : Option Addr) (len cap n : Nat) (xs : List Int) (w : World) (hl : len ≤ 2048) (hs : SlAt .u8 w a len xs) (hb : Pl.Bytes xs) (hn : n * 2 ≤ 8 * len) :
    Calls Try.prog 11 #[.slice a len cap, .int .i64 2, .int .i64 n] w fun e w' => ∃ v, e = .returned (.tuple #[v, .int .i64 0]) ∧ Own .i64 3 w' v (smps (nats xs) 2 n) ∧ Kept (fun _ => False) w w' ∧ ∀ b, v.ownBlock = some b → w.heap.size ≤ b := by
  have hdd : depthB 2 = true := rfl
  have g0 : decide ((n : Int) < 0) = false := decide_eq_false (by omega)
  have g1 : decide (8 * (len : Int) / 2 < (n : Int)) = false := decide_eq_false (by omega)
  have HS := Lib.hid hs
  clear hs
  obtain ⟨i0, hi, hz0, hz1, hz2⟩ := info_parts Try.infoInt
  have HI := Lib.hid (And.intro hi (And.intro hz0 (And.intro hz1 hz2)))
  clear hi hz0 hz1 hz2
  go_enter Try.func11, Try.ntmps11
  go_wp2_with (first
    | (go_at_call 24; refine (isDepth_any _ _).mono ?_; rintro e w' ⟨rfl, rfl⟩)
    | (refine wpList_makeInts rfl (.tmp 27) (.tmp 27) 26 rfl 3 .i64 i0 8 Try.underlying26 HI.out.1 HI.out.2.1 HI.out.2.2.1 HI.out.2.2.2 .i64 .i64 _ _ n rfl rfl rfl rfl (by omega) (by simp [maxLen]; omega) ?_; intro w1 ho1 hk1 hz1))
  have HO1 := Lib.hid ho1
  clear ho1
  obtain ⟨g, hg⟩ : ∃ g, w.heap.size = g := ⟨_, rfl⟩
  rw [hg] at HO1 hz1 ⊢
  have HG := Lib.hid hg
  clear hg
  go_loopw [31] (fun i wr => ∃ k : Nat, k ≤ n ∧ i = .int .i64 k ∧ Own .i64 3 wr (.slice (some ⟨g, 0, none⟩) n n) (smps (nats xs) 2 k ++ List.replicate (n - k) 0) ∧ Kept (fun _ => False) w wr) (fun i _ => n - (intOf i).toNat)
  case atStart => exact ⟨0, by omega, rfl, by simpa [smps] using HO1.out, hk1⟩
  case round =>
    obtain ⟨k, hk, rfl, ho, hkr⟩ := hrel
    have HO := Lib.hid ho
    by_cases hkn : k < n
    · obtain ⟨-, -, hglt, hyc, hyf⟩ := ho.at
      have hyfr := hyf k
      obtain ⟨t, ht⟩ : ∃ t, n - k = t + 1 := ⟨n - k - 1, by omega⟩
      have ht2 : n - (k + 1) = t := by omega
      have hset := set_fill (smps (nats xs) 2 k) t (smp (nats xs) (k * 2) 2 : Int)
      rw [smps_length, ← smps_succ, ← ht, ← ht2] at hset
      have HSET := Lib.hid hset
      obtain ⟨b, off, rfl, hc⟩ := HS.out.2.resolve_left (by omega)
      have hv := smp_in (nats xs) (k * 2) 2 (by omega)
      obtain ⟨j, hj⟩ : ∃ j, k * 2 / 8 = j := ⟨_, rfl⟩
      obtain ⟨r, hr⟩ : ∃ r, k * 2 % 8 = r := ⟨_, rfl⟩
      have x0 := hkr.cell (hc j (by omega)) id
      rw [nats_get hb] at x0
      have l0 := nats_lt hb j
      rw [hj, hr] at hv
      obtain ⟨y, hy⟩ : ∃ y, (nats xs).getD j 0 = y := ⟨_, rfl⟩
      rw [hy] at x0 l0 hv
      obtain ⟨s, hse⟩ : ∃ s, 8 - r - 2 = s := ⟨_, rfl⟩
      rw [hse] at hv
      have hys : y / 2 ^ s ≤ y := Nat.div_le_self _ _
      have hand : bits BinOp.and IntKind.i64 ((y : Int) / 2 ^ s) 3 = ((y / 2 ^ s % 2 ^ 2 : Nat) : Int) := by
        rw [show (y : Int) / 2 ^ s = ((y / 2 ^ s : Nat) : Int) by simp, show (3 : Int) = ((2 ^ 2 - 1 : Nat) : Int) by decide, i64_and_nat _ _ (by omega) (by omega), Nat.and_two_pow_sub_one_eq_mod]
      obtain ⟨u, hu⟩ : ∃ u, y / 2 ^ s % 2 ^ 2 = u := ⟨_, rfl⟩
      rw [hu] at hand hv
      obtain ⟨p, hp⟩ : ∃ p, k * 2 = p := ⟨_, rfl⟩
      have hpi : (k : Int) * 2 = (p : Int) := by omega
      have hji : (p : Int) / 8 = (j : Int) := by omega
      have hri : (p : Int).tmod 8 = (r : Int) := by rw [Int.tmod_eq_emod_of_nonneg (by omega)]; omega
      have hri2 : (p : Int) % 8 = (r : Int) := by omega
      have hsi : (8 : Int) - 2 - (r : Int) = (s : Int) := by omega
      have hsi2 : (6 : Int) - (r : Int) = (s : Int) := by omega
      have s1 : (0 : Int) ≤ (j : Int) := by omega
      have s2 : (j : Int) < (len : Int) := by omega
      have s5 : (0 : Int) ≤ (k : Int) := by omega
      have s6 : (k : Int) < (n : Int) := by omega
      have s7 : IntKind.i64.wrap (j : Int) = (j : Int) := IntWalk.i64_in _ (by omega)
      have s8 : IntKind.i64.wrap (s : Int) = (s : Int) := IntWalk.i64_in _ (by omega)
      have s9 : IntKind.i64.wrap (r : Int) = (r : Int) := IntWalk.i64_in _ (by omega)
      have s10 : (0 : Int) ≤ (s : Int) := by omega
      have s11 : IntKind.i64.wrap (p : Int) = (p : Int) := IntWalk.i64_in _ (by omega)
      have s12 : IntKind.i64.wrap (y : Int) = (y : Int) := IntWalk.i64_in _ (by omega)
      have s13 : IntKind.i64.wrap 6 = 6 := by decide
      have s14 : min s 64 = s := by omega
      have HV := Lib.hid hv
      have HKN := Lib.hid hkn
      have hps : (0:Int) ≤ (k : Int) * 2 := by omega
      have hps2 : (k : Int) * 2 ≤ 20000 := by omega
      clear ho hset ht ht2 hj hr hse hy hu hv hc hyc hyf hglt hp hys
      go_wp2
      go_still_tail 19, (by kernel_rfl)
      have HAND := Lib.hid hand
      clear s1 s2 s5 s6 s7 s8 s9 s10 s11 s12 s13 s14 hand hji hri hri2 hsi hsi2 hpi x0 hps hps2
      change wpList _ _ _ _ _ wr.drew
      obtain ⟨wd, hwd⟩ : ∃ wd, wr.drew = wd := ⟨_, rfl⟩
      have hod := HO.out.kept ((Kept.refl (fun _ => False) wr).drew) (fun _ _ => id)
      have hkd := hkr.drew
      rw [hwd] at hod hkd ⊢
      obtain ⟨-, -, -, hyc, hyf⟩ := hod.at
      have hyfd := hyf k
      have hycd := hyc k HKN.out
      have HOD := Lib.hid hod
      clear hwd hod hyfr hkr hyc hyf
      go_wp2
      go_roundw
      case rel =>
        have h9 := HOD.out.set HKN.out (u : Int)
        rw [← HV.out, HSET.out] at h9
        exact ⟨k + 1, by omega, by go_num, by rw [HAND.out, ← HV.out]; exact h9, hkd.setCell (p := ⟨g, k, none⟩) (.inr (by rw [HG.out]; exact Nat.le_refl _)) _⟩
      case measure => simp [intOf]; omega
    · obtain rfl : k = n := by omega
      clear ho
      go_wp2
      go_ret2
      refine ⟨_, rfl, by simpa using HO.out, hkr, fun b hb => ?_⟩
      have h9 := Option.some.inj hb; have h8 : g = b := h9; rw [HG.out, h8]; exact Nat.le_refl _
set_option maxRecDepth 100000 in
set_option maxHeartbeats 4000000 in
theorem samples_4 (a : Option Addr) (len cap n : Nat) (xs : List Int) (w : World) (hl : len ≤ 2048) (hs : SlAt .u8 w a len xs) (hb : Pl.Bytes xs) (hn : n * 4 ≤ 8 * len) :
    Calls Try.prog 11 #[.slice a len cap, .int .i64 4, .int .i64 n] w fun e w' => ∃ v, e = .returned (.tuple #[v, .int .i64 0]) ∧ Own .i64 3 w' v (smps (nats xs) 4 n) ∧ Kept (fun _ => False) w w' ∧ ∀ b, v.ownBlock = some b → w.heap.size ≤ b := by
  have hdd : depthB 4 = true := rfl
  have g0 : decide ((n : Int) < 0) = false := decide_eq_false (by omega)
  have g1 : decide (8 * (len : Int) / 4 < (n : Int)) = false := decide_eq_false (by omega)
  have HS := Lib.hid hs
  clear hs
  obtain ⟨i0, hi, hz0, hz1, hz2⟩ := info_parts Try.infoInt
  have HI := Lib.hid (And.intro hi (And.intro hz0 (And.intro hz1 hz2)))
  clear hi hz0 hz1 hz2
  go_enter Try.func11, Try.ntmps11
  go_wp2_with (first
    | (go_at_call 24; refine (isDepth_any _ _).mono ?_; rintro e w' ⟨rfl, rfl⟩)
    | (refine wpList_makeInts rfl (.tmp 27) (.tmp 27) 26 rfl 3 .i64 i0 8 Try.underlying26 HI.out.1 HI.out.2.1 HI.out.2.2.1 HI.out.2.2.2 .i64 .i64 _ _ n rfl rfl rfl rfl (by omega) (by simp [maxLen]; omega) ?_; intro w1 ho1 hk1 hz1))
  have HO1 := Lib.hid ho1
  clear ho1
  obtain ⟨g, hg⟩ : ∃ g, w.heap.size = g := ⟨_, rfl⟩
  rw [hg] at HO1 hz1 ⊢
  have HG := Lib.hid hg
  clear hg
  go_loopw [31] (fun i wr => ∃ k : Nat, k ≤ n ∧ i = .int .i64 k ∧ Own .i64 3 wr (.slice (some ⟨g, 0, none⟩) n n) (smps (nats xs) 4 k ++ List.replicate (n - k) 0) ∧ Kept (fun _ => False) w wr) (fun i _ => n - (intOf i).toNat)
  case atStart => exact ⟨0, by omega, rfl, by simpa [smps] using HO1.out, hk1⟩
  case round =>
    obtain ⟨k, hk, rfl, ho, hkr⟩ := hrel
    have HO := Lib.hid ho
    by_cases hkn : k < n
    · obtain ⟨-, -, hglt, hyc, hyf⟩ := ho.at
      have hyfr := hyf k
      obtain ⟨t, ht⟩ : ∃ t, n - k = t + 1 := ⟨n - k - 1, by omega⟩
      have ht2 : n - (k + 1) = t := by omega
      have hset := set_fill (smps (nats xs) 4 k) t (smp (nats xs) (k * 4) 4 : Int)
      rw [smps_length, ← smps_succ, ← ht, ← ht2] at hset
      have HSET := Lib.hid hset
      obtain ⟨b, off, rfl, hc⟩ := HS.out.2.resolve_left (by omega)
      have hv := smp_in (nats xs) (k * 4) 4 (by omega)
      obtain ⟨j, hj⟩ : ∃ j, k * 4 / 8 = j := ⟨_, rfl⟩
      obtain ⟨r, hr⟩ : ∃ r, k * 4 % 8 = r := ⟨_, rfl⟩
      have x0 := hkr.cell (hc j (by omega)) id
      rw [nats_get hb] at x0
      have l0 := nats_lt hb j
      rw [hj, hr] at hv
      obtain ⟨y, hy⟩ : ∃ y, (nats xs).getD j 0 = y := ⟨_, rfl⟩
      rw [hy] at x0 l0 hv
      obtain ⟨s, hse⟩ : ∃ s, 8 - r - 4 = s := ⟨_, rfl⟩
      rw [hse] at hv
      have hys : y / 2 ^ s ≤ y := Nat.div_le_self _ _
      have hand : bits BinOp.and IntKind.i64 ((y : Int) / 2 ^ s) 15 = ((y / 2 ^ s % 2 ^ 4 : Nat) : Int) := by
        rw [show (y : Int) / 2 ^ s = ((y / 2 ^ s : Nat) : Int) by simp, show (15 : Int) = ((2 ^ 4 - 1 : Nat) : Int) by decide, i64_and_nat _ _ (by omega) (by omega), Nat.and_two_pow_sub_one_eq_mod]
      obtain ⟨u, hu⟩ : ∃ u, y / 2 ^ s % 2 ^ 4 = u := ⟨_, rfl⟩
      rw [hu] at hand hv
      obtain ⟨p, hp⟩ : ∃ p, k * 4 = p := ⟨_, rfl⟩
      have hpi : (k : Int) * 4 = (p : Int) := by omega
      have hji : (p : Int) / 8 = (j : Int) := by omega
      have hri : (p : Int).tmod 8 = (r : Int) := by rw [Int.tmod_eq_emod_of_nonneg (by omega)]; omega
      have hri2 : (p : Int) % 8 = (r : Int) := by omega
      have hsi : (8 : Int) - 4 - (r : Int) = (s : Int) := by omega
      have hsi2 : (4 : Int) - (r : Int) = (s : Int) := by omega
      have s1 : (0 : Int) ≤ (j : Int) := by omega
      have s2 : (j : Int) < (len : Int) := by omega
      have s5 : (0 : Int) ≤ (k : Int) := by omega
      have s6 : (k : Int) < (n : Int) := by omega
      have s7 : IntKind.i64.wrap (j : Int) = (j : Int) := IntWalk.i64_in _ (by omega)
      have s8 : IntKind.i64.wrap (s : Int) = (s : Int) := IntWalk.i64_in _ (by omega)
      have s9 : IntKind.i64.wrap (r : Int) = (r : Int) := IntWalk.i64_in _ (by omega)
      have s10 : (0 : Int) ≤ (s : Int) := by omega
      have s11 : IntKind.i64.wrap (p : Int) = (p : Int) := IntWalk.i64_in _ (by omega)
      have s12 : IntKind.i64.wrap (y : Int) = (y : Int) := IntWalk.i64_in _ (by omega)
      have s13 : IntKind.i64.wrap 4 = 4 := by decide
      have s14 : min s 64 = s := by omega
      have HV := Lib.hid hv
      have HKN := Lib.hid hkn
      have hps : (0:Int) ≤ (k : Int) * 4 := by omega
      have hps2 : (k : Int) * 4 ≤ 20000 := by omega
      clear ho hset ht ht2 hj hr hse hy hu hv hc hyc hyf hglt hp hys
      go_wp2
      go_still_tail 19, (by kernel_rfl)
      have HAND := Lib.hid hand
      clear s1 s2 s5 s6 s7 s8 s9 s10 s11 s12 s13 s14 hand hji hri hri2 hsi hsi2 hpi x0 hps hps2
      change wpList _ _ _ _ _ wr.drew
      obtain ⟨wd, hwd⟩ : ∃ wd, wr.drew = wd := ⟨_, rfl⟩
      have hod := HO.out.kept ((Kept.refl (fun _ => False) wr).drew) (fun _ _ => id)
      have hkd := hkr.drew
      rw [hwd] at hod hkd ⊢
      obtain ⟨-, -, -, hyc, hyf⟩ := hod.at
      have hyfd := hyf k
      have hycd := hyc k HKN.out
      have HOD := Lib.hid hod
      clear hwd hod hyfr hkr hyc hyf
      go_wp2
      go_roundw
      case rel =>
        have h9 := HOD.out.set HKN.out (u : Int)
        rw [← HV.out, HSET.out] at h9
        exact ⟨k + 1, by omega, by go_num, by rw [HAND.out, ← HV.out]; exact h9, hkd.setCell (p := ⟨g, k, none⟩) (.inr (by rw [HG.out]; exact Nat.le_refl _)) _⟩
      case measure => simp [intOf]; omega
    · obtain rfl : k = n := by omega
      clear ho
      go_wp2
      go_ret2
      refine ⟨_, rfl, by simpa using HO.out, hkr, fun b hb => ?_⟩
      have h9 := Option.some.inj hb; have h8 : g = b := h9; rw [HG.out, h8]; exact Nat.le_refl _
set_option maxRecDepth 100000 in
set_option maxHeartbeats 4000000 in
theorem samples_8 (a : Option Addr) (len cap n : Nat) (xs : List Int) (w : World) (hl : len ≤ 2048) (hs : SlAt .u8 w a len xs) (hb : Pl.Bytes xs) (hn : n * 8 ≤ 8 * len) :
    Calls Try.prog 11 #[.slice a len cap, .int .i64 8, .int .i64 n] w fun e w' => ∃ v, e = .returned (.tuple #[v, .int .i64 0]) ∧ Own .i64 3 w' v (smps (nats xs) 8 n) ∧ Kept (fun _ => False) w w' ∧ ∀ b, v.ownBlock = some b → w.heap.size ≤ b := by
  have hdd : depthB 8 = true := rfl
  have g0 : decide ((n : Int) < 0) = false := decide_eq_false (by omega)
  have g1 : decide (8 * (len : Int) / 8 < (n : Int)) = false := decide_eq_false (by omega)
  have HS := Lib.hid hs
  clear hs
  obtain ⟨i0, hi, hz0, hz1, hz2⟩ := info_parts Try.infoInt
  have HI := Lib.hid (And.intro hi (And.intro hz0 (And.intro hz1 hz2)))
  clear hi hz0 hz1 hz2
  go_enter Try.func11, Try.ntmps11
  go_wp2_with (first
    | (go_at_call 24; refine (isDepth_any _ _).mono ?_; rintro e w' ⟨rfl, rfl⟩)
    | (refine wpList_makeInts rfl (.tmp 27) (.tmp 27) 26 rfl 3 .i64 i0 8 Try.underlying26 HI.out.1 HI.out.2.1 HI.out.2.2.1 HI.out.2.2.2 .i64 .i64 _ _ n rfl rfl rfl rfl (by omega) (by simp [maxLen]; omega) ?_; intro w1 ho1 hk1 hz1))
  have HO1 := Lib.hid ho1
  clear ho1
  obtain ⟨g, hg⟩ : ∃ g, w.heap.size = g := ⟨_, rfl⟩
  rw [hg] at HO1 hz1 ⊢
  have HG := Lib.hid hg
  clear hg
  go_loopw [31] (fun i wr => ∃ k : Nat, k ≤ n ∧ i = .int .i64 k ∧ Own .i64 3 wr (.slice (some ⟨g, 0, none⟩) n n) (smps (nats xs) 8 k ++ List.replicate (n - k) 0) ∧ Kept (fun _ => False) w wr) (fun i _ => n - (intOf i).toNat)
  case atStart => exact ⟨0, by omega, rfl, by simpa [smps] using HO1.out, hk1⟩
  case round =>
    obtain ⟨k, hk, rfl, ho, hkr⟩ := hrel
    have HO := Lib.hid ho
    by_cases hkn : k < n
    · obtain ⟨-, -, hglt, hyc, hyf⟩ := ho.at
      have hyfr := hyf k
      obtain ⟨t, ht⟩ : ∃ t, n - k = t + 1 := ⟨n - k - 1, by omega⟩
      have ht2 : n - (k + 1) = t := by omega
      have hset := set_fill (smps (nats xs) 8 k) t (smp (nats xs) (k * 8) 8 : Int)
      rw [smps_length, ← smps_succ, ← ht, ← ht2] at hset
      have HSET := Lib.hid hset
      obtain ⟨b, off, rfl, hc⟩ := HS.out.2.resolve_left (by omega)
      have hv := smp_in (nats xs) (k * 8) 8 (by omega)
      obtain ⟨j, hj⟩ : ∃ j, k * 8 / 8 = j := ⟨_, rfl⟩
      obtain ⟨r, hr⟩ : ∃ r, k * 8 % 8 = r := ⟨_, rfl⟩
      have x0 := hkr.cell (hc j (by omega)) id
      rw [nats_get hb] at x0
      have l0 := nats_lt hb j
      rw [hj, hr] at hv
      obtain ⟨y, hy⟩ : ∃ y, (nats xs).getD j 0 = y := ⟨_, rfl⟩
      rw [hy] at x0 l0 hv
      obtain ⟨s, hse⟩ : ∃ s, 8 - r - 8 = s := ⟨_, rfl⟩
      rw [hse] at hv
      have hys : y / 2 ^ s ≤ y := Nat.div_le_self _ _
      have hand : bits BinOp.and IntKind.i64 ((y : Int) / 2 ^ s) 255 = ((y / 2 ^ s % 2 ^ 8 : Nat) : Int) := by
        rw [show (y : Int) / 2 ^ s = ((y / 2 ^ s : Nat) : Int) by simp, show (255 : Int) = ((2 ^ 8 - 1 : Nat) : Int) by decide, i64_and_nat _ _ (by omega) (by omega), Nat.and_two_pow_sub_one_eq_mod]
      obtain ⟨u, hu⟩ : ∃ u, y / 2 ^ s % 2 ^ 8 = u := ⟨_, rfl⟩
      rw [hu] at hand hv
      obtain ⟨p, hp⟩ : ∃ p, k * 8 = p := ⟨_, rfl⟩
      have hpi : (k : Int) * 8 = (p : Int) := by omega
      have hji : (p : Int) / 8 = (j : Int) := by omega
      have hri : (p : Int).tmod 8 = (r : Int) := by rw [Int.tmod_eq_emod_of_nonneg (by omega)]; omega
      have hri2 : (p : Int) % 8 = (r : Int) := by omega
      have hsi : (8 : Int) - 8 - (r : Int) = (s : Int) := by omega
      have hsi2 : (0 : Int) - (r : Int) = (s : Int) := by omega
      have s1 : (0 : Int) ≤ (j : Int) := by omega
      have s2 : (j : Int) < (len : Int) := by omega
      have s5 : (0 : Int) ≤ (k : Int) := by omega
      have s6 : (k : Int) < (n : Int) := by omega
      have s7 : IntKind.i64.wrap (j : Int) = (j : Int) := IntWalk.i64_in _ (by omega)
      have s8 : IntKind.i64.wrap (s : Int) = (s : Int) := IntWalk.i64_in _ (by omega)
      have s9 : IntKind.i64.wrap (r : Int) = (r : Int) := IntWalk.i64_in _ (by omega)
      have s10 : (0 : Int) ≤ (s : Int) := by omega
      have s11 : IntKind.i64.wrap (p : Int) = (p : Int) := IntWalk.i64_in _ (by omega)
      have s12 : IntKind.i64.wrap (y : Int) = (y : Int) := IntWalk.i64_in _ (by omega)
      have s13 : IntKind.i64.wrap 0 = 0 := by decide
      have s14 : min s 64 = s := by omega
      have HV := Lib.hid hv
      have HKN := Lib.hid hkn
      have hps : (0:Int) ≤ (k : Int) * 8 := by omega
      have hps2 : (k : Int) * 8 ≤ 20000 := by omega
      clear ho hset ht ht2 hj hr hse hy hu hv hc hyc hyf hglt hp hys
      go_wp2
      go_still_tail 19, (by kernel_rfl)
      have HAND := Lib.hid hand
      clear s1 s2 s5 s6 s7 s8 s9 s10 s11 s12 s13 s14 hand hji hri hri2 hsi hsi2 hpi x0 hps hps2
      change wpList _ _ _ _ _ wr.drew
      obtain ⟨wd, hwd⟩ : ∃ wd, wr.drew = wd := ⟨_, rfl⟩
      have hod := HO.out.kept ((Kept.refl (fun _ => False) wr).drew) (fun _ _ => id)
      have hkd := hkr.drew
      rw [hwd] at hod hkd ⊢
      obtain ⟨-, -, -, hyc, hyf⟩ := hod.at
      have hyfd := hyf k
      have hycd := hyc k HKN.out
      have HOD := Lib.hid hod
      clear hwd hod hyfr hkr hyc hyf
      go_wp2
      go_roundw
      case rel =>
        have h9 := HOD.out.set HKN.out (u : Int)
        rw [← HV.out, HSET.out] at h9
        exact ⟨k + 1, by omega, by go_num, by rw [HAND.out, ← HV.out]; exact h9, hkd.setCell (p := ⟨g, k, none⟩) (.inr (by rw [HG.out]; exact Nat.le_refl _)) _⟩
      case measure => simp [intOf]; omega
    · obtain rfl : k = n := by omega
      clear ho
      go_wp2
      go_ret2
      refine ⟨_, rfl, by simpa using HO.out, hkr, fun b hb => ?_⟩
      have h9 := Option.some.inj hb; have h8 : g = b := h9; rw [HG.out, h8]; exact Nat.le_refl _
set_option maxRecDepth 100000 in
set_option maxHeartbeats 4000000 in
theorem samples_16 (a : Option Addr) (len cap n : Nat) (xs : List Int) (w : World) (hl : len ≤ 2048) (hs : SlAt .u8 w a len xs) (hb : Pl.Bytes xs) (hn : n * 16 ≤ 8 * len) :
    Calls Try.prog 11 #[.slice a len cap, .int .i64 16, .int .i64 n] w fun e w' => ∃ v, e = .returned (.tuple #[v, .int .i64 0]) ∧ Own .i64 3 w' v (smps (nats xs) 16 n) ∧ Kept (fun _ => False) w w' ∧ ∀ b, v.ownBlock = some b → w.heap.size ≤ b := by
  have hdd : depthB 16 = true := rfl
  have g0 : decide ((n : Int) < 0) = false := decide_eq_false (by omega)
  have g1 : decide (8 * (len : Int) / 16 < (n : Int)) = false := decide_eq_false (by omega)
  have HS := Lib.hid hs
  clear hs
  obtain ⟨i0, hi, hz0, hz1, hz2⟩ := info_parts Try.infoInt
  have HI := Lib.hid (And.intro hi (And.intro hz0 (And.intro hz1 hz2)))
  clear hi hz0 hz1 hz2
  go_enter Try.func11, Try.ntmps11
  go_wp2_with (first
    | (go_at_call 24; refine (isDepth_any _ _).mono ?_; rintro e w' ⟨rfl, rfl⟩)
    | (refine wpList_makeInts rfl (.tmp 27) (.tmp 27) 26 rfl 3 .i64 i0 8 Try.underlying26 HI.out.1 HI.out.2.1 HI.out.2.2.1 HI.out.2.2.2 .i64 .i64 _ _ n rfl rfl rfl rfl (by omega) (by simp [maxLen]; omega) ?_; intro w1 ho1 hk1 hz1))
  have HO1 := Lib.hid ho1
  clear ho1
  obtain ⟨g, hg⟩ : ∃ g, w.heap.size = g := ⟨_, rfl⟩
  rw [hg] at HO1 hz1 ⊢
  have HG := Lib.hid hg
  clear hg
  go_loopw [31] (fun i wr => ∃ k : Nat, k ≤ n ∧ i = .int .i64 k ∧ Own .i64 3 wr (.slice (some ⟨g, 0, none⟩) n n) (smps (nats xs) 16 k ++ List.replicate (n - k) 0) ∧ Kept (fun _ => False) w wr) (fun i _ => n - (intOf i).toNat)
  case atStart => exact ⟨0, by omega, rfl, by simpa [smps] using HO1.out, hk1⟩
  case round =>
    obtain ⟨k, hk, rfl, ho, hkr⟩ := hrel
    have HO := Lib.hid ho
    by_cases hkn : k < n
    · obtain ⟨-, -, hglt, hyc, hyf⟩ := ho.at
      have hyfr := hyf k
      obtain ⟨t, ht⟩ : ∃ t, n - k = t + 1 := ⟨n - k - 1, by omega⟩
      have ht2 : n - (k + 1) = t := by omega
      have hset := set_fill (smps (nats xs) 16 k) t (smp (nats xs) (k * 16) 16 : Int)
      rw [smps_length, ← smps_succ, ← ht, ← ht2] at hset
      have HSET := Lib.hid hset
      obtain ⟨b, off, rfl, hc⟩ := HS.out.2.resolve_left (by omega)
      have hv := smp16 (nats xs) (nats_small hb) k
      obtain ⟨j, hj⟩ : ∃ j, 2 * k = j := ⟨_, rfl⟩
      obtain ⟨j1, hj1⟩ : ∃ j1, j + 1 = j1 := ⟨_, rfl⟩
      have x0 := hkr.cell (hc j (by omega)) id
      have x1 := hkr.cell (hc j1 (by omega)) id
      rw [nats_get hb] at x0 x1
      have l0 := nats_lt hb j
      have l1 := nats_lt hb j1
      rw [hj, hj1] at hv
      obtain ⟨y0, hy0⟩ : ∃ y, (nats xs).getD j 0 = y := ⟨_, rfl⟩
      obtain ⟨y1, hy1⟩ : ∃ y, (nats xs).getD j1 0 = y := ⟨_, rfl⟩
      rw [hy0, hy1] at hv
      rw [hy0] at x0 l0
      rw [hy1] at x1 l1
      have hor : bits BinOp.or IntKind.i64 ((y0 : Int) * 256) (y1 : Int) = ((y0 * 256 + y1 : Nat) : Int) := by
        have h := Nat.two_pow_add_eq_or_of_lt (show y1 < 2 ^ 8 by omega) y0
        rw [show (y0 : Int) * 256 = ((y0 * 256 : Nat) : Int) by omega, i64_or_nat _ _ (by omega) (by omega)]
        congr 1
        rw [show y0 * 256 = 2 ^ 8 * y0 by omega, ← h]
      obtain ⟨u, hu⟩ : ∃ u, y0 * 256 + y1 = u := ⟨_, rfl⟩
      rw [hu] at hor hv
      have hji : (2 : Int) * k = (j : Int) := by omega
      have hj1i : (j : Int) + 1 = (j1 : Int) := by omega
      have s1 : (0 : Int) ≤ (j : Int) := by omega
      have s2 : (j : Int) < (len : Int) := by omega
      have s3 : (0 : Int) ≤ (j1 : Int) := by omega
      have s4 : (j1 : Int) < (len : Int) := by omega
      have s5 : (0 : Int) ≤ (k : Int) := by omega
      have s6 : (k : Int) < (n : Int) := by omega
      have s7 : IntKind.i64.wrap (j : Int) = (j : Int) := IntWalk.i64_in _ (by omega)
      have s8 : IntKind.i64.wrap (j1 : Int) = (j1 : Int) := IntWalk.i64_in _ (by omega)
      have s9 : IntKind.i64.wrap ((y0 : Int) * 256) = (y0 : Int) * 256 := IntWalk.i64_in _ (by omega)
      have HV := Lib.hid hv
      have HKN := Lib.hid hkn
      clear ho hset ht ht2 hj hj1 hy0 hy1 hu hv hc hyc hyf hglt
      go_wp2
      go_still_tail 18, (by kernel_rfl)
      have HAND := Lib.hid hor
      clear s1 s2 s3 s4 s5 s6 s7 s8 s9 hor hji hj1i x0 x1
      change wpList _ _ _ _ _ wr.drew
      obtain ⟨wd, hwd⟩ : ∃ wd, wr.drew = wd := ⟨_, rfl⟩
      have hod := HO.out.kept ((Kept.refl (fun _ => False) wr).drew) (fun _ _ => id)
      have hkd := hkr.drew
      rw [hwd] at hod hkd ⊢
      obtain ⟨-, -, -, hyc, hyf⟩ := hod.at
      have hyfd := hyf k
      have hycd := hyc k HKN.out
      have HOD := Lib.hid hod
      clear hwd hod hyfr hkr hyc hyf
      go_wp2
      go_roundw
      case rel =>
        have h9 := HOD.out.set HKN.out (u : Int)
        rw [← HV.out, HSET.out] at h9
        exact ⟨k + 1, by omega, by go_num, by rw [HAND.out, ← HV.out]; exact h9, hkd.setCell (p := ⟨g, k, none⟩) (.inr (by rw [HG.out]; exact Nat.le_refl _)) _⟩
      case measure => simp [intOf]; omega
    · obtain rfl : k = n := by omega
      clear ho
      go_wp2
      go_ret2
      refine ⟨_, rfl, by simpa using HO.out, hkr, fun b hb => ?_⟩
      have h9 := Option.some.inj hb; have h8 : g = b := h9; rw [HG.out, h8]; exact Nat.le_refl _
end Go.Proofs.Ytgpgjpmgnbaneaa
