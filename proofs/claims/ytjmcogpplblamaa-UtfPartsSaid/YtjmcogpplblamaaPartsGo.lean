/- Bytes that are parted between characters; a character that is cut off. -/
import Derived.Test.YtjmcogpplblamaaChars
import Derived.Test.YtjmcogpplblamaaPcut
import Derived.Test.YtjmcogpplblamaaAppStep
import Derived.Deep.RegionHeld3
namespace Go.Proofs.Ytjmcogpplblamaa
open Go.RowKit Pl
set_option linter.unusedVariables false
attribute [local go_sem ↓] Go.wp_at_zero Go.wp_at_succ
theorem i64_and3 (n : Int) : bits .and .i64 n 3 = n % 4 := by
  have h : bits .and .i64 n 3 = IntKind.i64.wrap ((BitVec.ofInt 64 n &&& BitVec.ofInt 64 3).toNat : Int) := rfl
  rw [h, BitVec.toNat_and, show (BitVec.ofInt 64 3).toNat = 2 ^ 2 - 1 from rfl, Nat.and_two_pow_sub_one_eq_mod, BitVec.toNat_ofInt]
  rw [IntWalk.i64_in _ (by omega)]
  omega
theorem encs_one (r : Int) : encs [r] = enc r := by simp [encs]
theorem all_two' (l m : List Int) : allL (encs l ++ encs m) = chs l ++ chs m := all_two l m
theorem all_cut' (l : List Int) (r : Int) (m : List Int) (cut : Nat) (h1 : 1 ≤ cut) (h2 : cut < (enc r).length) :
    allL (encs l ++ (enc r).take cut ++ encs m) = chs l ++ bad :: chs m := all_cut l r m cut h1 h2
theorem take_ints (a : List Nat) (k : Nat) : (ints a).take k = ints (a.take k) := by simp [ints, List.map_take]
theorem SlAt.front {k : IntKind} {w : World} {a : Option Addr} {len n : Nat} {xs : List Int} (h : SlAt k w a len xs) (hn : n ≤ len) : SlAt k w a n (xs.take n) := by
  obtain ⟨h1, h2⟩ := h
  refine ⟨by simp; omega, ?_⟩
  rcases h2 with h2 | ⟨b, off, rfl, hc⟩
  · left; omega
  · right
    refine ⟨b, off, rfl, fun j hj => ?_⟩
    rw [hc j (by omega)]
    simp [hj]
theorem Own.app_new {k : IntKind} {e : TypeId} {w w0 : World} {v v' : Value} {xs : List Int} (h : Own k e w v' xs) (hp : v'.ownBlock = v.ownBlock ∨ v'.ownBlock = some w0.heap.size) {B : Nat} (hB : B ≤ w0.heap.size) (hv : ∀ b, v.ownBlock = some b → B ≤ b) : ∀ b, v'.ownBlock = some b → B ≤ b := by
  intro b hb
  rcases hp with h1 | h1 <;> rw [h1] at hb
  · exact hv b hb
  · cases hb; exact hB
/-- What is held behind the encodings: three slices of bytes, apart from all that was there. -/
def Fr (w : World) (v : Value) : Prop := ∀ b, v.ownBlock = some b → w.heap.size ≤ b
set_option maxRecDepth 100000 in
set_option maxHeartbeats 16000000 in
theorem parts_go (a b : Option Addr) (len cap mlen mcap : Nat) (r cut : Int) (l m : List Int) (w : World) (hs : SlAt .i32 w a len l) (hl : len ≤ 200) (hw : ∀ r ∈ l, -2147483648 ≤ r ∧ r ≤ 2147483647)
    (hs' : SlAt .i32 w b mlen m) (hl' : mlen ≤ 200) (hw' : ∀ r ∈ m, -2147483648 ≤ r ∧ r ≤ 2147483647) (hr : -2147483648 ≤ r ∧ r ≤ 2147483647) :
    Calls Try.prog 7 #[.slice a len cap, .int .i32 r, .int .i64 cut, .slice b mlen mcap] w fun e w' => e = .returned (.bool true) ∧ Kept (fun _ => False) w w' := by
  have g1 : decide (200 < (len : Int)) = false := decide_eq_false (by omega)
  have g2 : decide (200 < (mlen : Int)) = false := decide_eq_false (by omega)
  have hxl := hs.1
  have hyl := hs'.1
  have HS := Lib.hid hs
  have HT := Lib.hid hs'
  obtain ⟨i0, hi, hz0, hz1, hz2⟩ := info_parts Try.infoByte
  have HI := Lib.hid (And.intro hi (And.intro hz0 (And.intro hz1 hz2)))
  obtain ⟨i1, hi', hz0', hz1', hz2'⟩ := info_parts Try.infoI32
  have HJ := Lib.hid (And.intro hi' (And.intro hz0' (And.intro hz1' hz2')))
  clear hi hz0 hz1 hz2 hi' hz0' hz1' hz2' hs hs'
  go_enter Try.func7, Try.ntmps7
  go_wp2_with fail
  refine (known_any _).mono ?_; rintro e w0 ⟨rfl, hk0⟩
  go_wp2_with fail
  refine (enc_any a len cap l _ (HS.out.kept hk0 (fun _ _ _ _ => id)) (by omega) hw).mono ?_
  rintro e w1 ⟨v1, rfl, ho1, hk1, hf1⟩
  have hkw1 := hk0.then hk1
  have HO1 := Lib.hid ho1
  obtain ⟨a1, c1, rfl, -⟩ := ho1.shape
  rw [ints_length] at *
  clear ho1 hf1 hk1 hk0
  go_wp2_with fail
  refine (enc_any b mlen mcap m _ (HT.out.kept hkw1 (fun _ _ _ _ => id)) (by omega) hw').mono ?_
  rintro e w2 ⟨v2, rfl, ho2, hk2, hf2⟩
  have hkw2 := hkw1.then hk2
  have HO1 := Lib.hid (HO1.out.kept hk2 (fun _ _ => id))
  have HO2 := Lib.hid ho2
  obtain ⟨a2, c2, rfl, -⟩ := ho2.shape
  rw [ints_length] at *
  clear ho2 hf2 hk2 hkw1
  have hsr : SlAt .i32 (w2.alloc (.cells #[.int .i32 r] 21)) (some ⟨w2.heap.size, 0, none⟩) 1 [r] := slAt_blk (blk_new w2 _) rfl rfl
  have HSR := Lib.hid hsr
  clear hsr
  go_wp2_with fail
  refine (enc_any (some ⟨w2.heap.size, 0, none⟩) 1 1 [r] _ HSR.out (by omega) (by intro x hx; simp at hx; rw [hx]; exact hr)).mono ?_
  rw [encs_one]
  rintro e w3 ⟨v3, rfl, ho3, hk3, hf3⟩
  have hk23 : Kept (fun _ => False) w2 w3 := ((Kept.refl _ w2).alloc _).then hk3
  have hkw3 := hkw2.then hk23
  have HO1 := Lib.hid (HO1.out.kept hk23 (fun _ _ => id))
  have HO2 := Lib.hid (HO2.out.kept hk23 (fun _ _ => id))
  have HO3 := Lib.hid ho3
  obtain ⟨a3, c3, rfl, -⟩ := ho3.shape
  rw [ints_length] at *
  have hn1 := encs_len l
  have hn2 := encs_len m
  have hn3 := enc_len r
  have hz3 := hk23.size
  have hnew3 : Own .u8 5 (w3.alloc (.cells #[] 5)) (.slice (some ⟨w3.heap.size, 0, none⟩) 0 0) [] := Own.new .u8 w3
  have HN3 := Lib.hid hnew3
  have hka3 : Kept (fun _ => False) w3 (w3.alloc (.cells #[] 5)) := (Kept.refl _ w3).alloc _
  obtain ⟨_, _, hv, q1, -, -, n1, -⟩ := (HO1.out.kept hka3 (fun _ _ => id)).shape
  rw [ints_length] at hv q1 n1
  cases hv
  have Q1 := Lib.hid q1
  have N1 := Lib.hid n1
  have HK3 := Lib.hid hka3
  clear ho3 hf3 hk3 hk23 hnew3 hka3 q1 n1 hkw2
  obtain ⟨m1, hm1⟩ : ∃ n, (encs l).length = n := ⟨_, rfl⟩
  obtain ⟨m2, hm2⟩ : ∃ n, (encs m).length = n := ⟨_, rfl⟩
  obtain ⟨m3, hm3⟩ : ∃ n, (enc r).length = n := ⟨_, rfl⟩
  have M1 := Lib.hid (show (ints (encs l)).length = m1 by rw [ints_length]; exact hm1)
  have M2 := Lib.hid (show (ints (encs m)).length = m2 by rw [ints_length]; exact hm2)
  have M3 := Lib.hid hm3
  rw [hm1] at hn1 HO1 Q1 N1
  rw [hm2] at hn2 HO2
  rw [hm3] at hn3 HO3
  rw [hm1, hm2, hm3]
  clear hm1 hm2 hm3
  go_wp2_with (first
    | (at_builtin; refine wpList_appInts rfl (.tmp 33) (.tmp 34) 22 rfl 5 .u8 i0 (.int .u8 0) 1 Try.underlying22 HI.out.1 HI.out.2.1 HI.out.2.2.1 HI.out.2.2.2 rfl (.slice (some ⟨w3.heap.size, 0, none⟩) 0 0) [] rfl HN3.out a1 m1 c1 (ints (encs l)) rfl N1.out Q1.out (by simp; omega) (by simp [maxLen]; omega) ?_; intro v4 w4 ho4 hk4 hpr4; have hk34 : Kept (fun _ => False) w3 w4 := HK3.out.trans (hk4.mono (fun i _ h => Or.inr (by cases h; exact Nat.le_refl _))); have HK34 := Lib.hid hk34; have hf4 := ho4.app_new hpr4 (B := w3.heap.size) (by simp) (fun b h => by cases h; exact Nat.le_refl _); have HF4 := Lib.hid hf4; obtain ⟨_, _, hv, q2, -, -, n2, -⟩ := (HO2.out.kept hk34 (fun _ _ => id)).shape; rw [M2.out] at hv q2 n2; cases hv; have Q2 := Lib.hid q2; have N2 := Lib.hid n2; rw [List.nil_append] at ho4; have HO4 := Lib.hid ho4; obtain ⟨a4, c4, hv, -⟩ := ho4.shape; rw [M1.out] at hv; subst hv; clear hk34 hf4 q2 n2 ho4 hk4 hpr4)
    | (at_builtin; refine wpList_appInts rfl (.tmp 35) (.tmp 36) 22 rfl 5 .u8 i0 (.int .u8 0) 1 Try.underlying22 HI.out.1 HI.out.2.1 HI.out.2.2.1 HI.out.2.2.2 rfl (.slice a4 m1 c4) (ints (encs l)) rfl HO4.out a2 m2 c2 (ints (encs m)) rfl N2.out Q2.out (by rw [M1.out]; omega) (by rw [M1.out]; simp [maxLen]; omega) ?_; intro v5 w5 ho5 hk5 hpr5; have hk45 : Kept (fun _ => False) w3 w5 := HK34.out.trans (hk5.mono (fun i _ h => Or.inr (HF4.out i h))); have HK5 := Lib.hid hk45; have ho5' := ho5.retag (ints_append (encs l) (encs m)); have HO5 := Lib.hid ho5'; obtain ⟨a5, c5, hv, s5, -⟩ := ho5.shape; rw [List.length_append, M1.out, M2.out] at hv; subst hv; clear ho5 ho5' hk45 hk5 hpr5 s5))
  have hkw5 := hkw3.then HK5.out
  obtain ⟨_, _, hv, s5, -⟩ := HO5.out.shape
  have e5 : (ints (encs l ++ encs m)).length = m1 + m2 := by rw [ints_append, List.length_append, M1.out, M2.out]
  rw [e5] at hv s5
  cases hv
  have S5 := Lib.hid s5
  clear s5 e5
  refine (all_any a5 (m1 + m2) c5 (ints (encs l ++ encs m)) _ S5.out (by rw [ints_append]; exact fun n hn => (List.mem_append.1 hn).elim (byt_encs l n) (byt_encs m n)) (by omega)).mono ?_
  rw [nats_ints, all_two']
  rintro e w6 ⟨v6, rfl, ho6, hk6, hf6⟩
  have hkw6 := hkw5.then hk6
  have HK36 := Lib.hid (HK5.out.then hk6)
  have hcl : (chs l ++ chs m).length = len + mlen := by rw [List.length_append, chs_length, chs_length]; omega
  have H6L := Lib.hid ho6.lt
  obtain ⟨a6, c6, hv, -⟩ := ho6.shape
  rw [hcl] at hv
  subst hv
  have HO6 := Lib.hid ho6
  obtain ⟨_, _, hv, s1, -⟩ := (HO1.out.kept HK36.out (fun _ _ => id)).shape
  rw [M1.out] at hv s1
  cases hv
  have S1 := Lib.hid s1
  clear ho6 hf6 hk6 hkw5 s1
  go_wp2_with fail
  refine (all_any a1 m1 c1 (ints (encs l)) _ S1.out (byt_encs l) (by omega)).mono ?_
  rw [nats_ints, all_encs]
  rintro e w7 ⟨v7, rfl, ho7, hk7, hf7⟩
  have hkw7 := hkw6.then hk7
  have HK37 := Lib.hid (HK36.out.then hk7)
  have ho7 := ho7.retag (show chs l = _ from rfl)
  have HO6 := Lib.hid (HO6.out.kept hk7 (fun _ _ => id))
  obtain ⟨a7, c7, hv, -⟩ := ho7.shape
  rw [chs_length, hxl] at hv
  subst hv
  have HO7 := Lib.hid ho7
  have HF7 := Lib.hid hf7
  obtain ⟨_, _, hv, s2, -⟩ := (HO2.out.kept HK37.out (fun _ _ => id)).shape
  rw [M2.out] at hv s2
  cases hv
  have S2 := Lib.hid s2
  clear ho7 hf7 hk7 hkw6 s2
  go_wp2_with fail
  refine (all_any a2 m2 c2 (ints (encs m)) _ S2.out (byt_encs m) (by omega)).mono ?_
  rw [nats_ints, all_encs]
  rintro e w8 ⟨v8, rfl, ho8, hk8, hf8⟩
  have hkw8 := hkw7.then hk8
  have HK38 := Lib.hid (HK37.out.then hk8)
  have ho8 := ho8.retag (show chs m = _ from rfl)
  have HO6 := Lib.hid (HO6.out.kept hk8 (fun _ _ => id))
  have HO7 := Lib.hid (HO7.out.kept hk8 (fun _ _ => id))
  obtain ⟨a8, c8, hv, s8, -, -, n8, -⟩ := ho8.shape
  rw [chs_length, hyl] at hv s8 n8
  subst hv
  have S8 := Lib.hid s8
  have N8 := Lib.hid n8
  have h76 : ∀ b, (Value.slice a7 len c7).ownBlock = some b → ∀ b', (Value.slice a6 (len + mlen) c6).ownBlock = some b' → b ≠ b' := by
    intro b hb b' hb'
    have h1 := HF7.out b hb
    have h2 := H6L.out b' hb'
    omega
  have H76 := Lib.hid h76
  have h73 : ∀ b, (Value.slice a7 len c7).ownBlock = some b → w3.heap.size ≤ b := fun b hb => Nat.le_trans HK36.out.size (HF7.out b hb)
  have H73 := Lib.hid h73
  clear ho8 hf8 hk8 hkw7 s8 n8 h76 h73
  go_wp2_with (at_builtin; refine wpList_appInts rfl (.tmp 40) (.tmp 42) 31 rfl 21 .i32 i1 (.int .i32 0) 4 Try.underlying31 HJ.out.1 HJ.out.2.1 HJ.out.2.2.1 HJ.out.2.2.2 rfl (.slice a7 len c7) (chs l) rfl HO7.out a8 mlen c8 (chs m) rfl N8.out S8.out (by rw [chs_length]; omega) (by rw [chs_length]; simp [maxLen]; omega) ?_; intro v9 w9 ho9 hk9 hpr9; have hk39 : Kept (fun _ => False) w3 w9 := HK38.out.trans (hk9.mono (fun i _ h => Or.inr (H73.out i h))); have HK39 := Lib.hid hk39; have ho69 := HO6.out.kept hk9 (fun b hb hh => H76.out b hh b hb rfl); have HO6 := Lib.hid ho69; have HO9 := Lib.hid ho9; obtain ⟨a9, c9, hv, -⟩ := ho9.shape; rw [hcl] at hv; subst hv; clear ho9 ho69 hk39 hk9 hpr9)
  obtain ⟨Z, hZ⟩ : ∃ Z, chs l ++ chs m = Z := ⟨_, rfl⟩
  have hkw9 := hkw3.then HK39.out
  obtain ⟨_, _, hv, s6, -⟩ := HO6.out.shape
  rw [hcl] at hv s6
  rw [hZ] at s6
  cases hv
  obtain ⟨_, _, hv, s9, -⟩ := HO9.out.shape
  rw [hcl] at hv s9
  rw [hZ] at s9
  cases hv
  have S6 := Lib.hid s6
  have S9 := Lib.hid s9
  have hcl : Z.length = len + mlen := by rw [← hZ]; exact hcl
  clear hZ s6 s9 hkw8 hkw3
  obtain ⟨nz, hnz⟩ : ∃ n, len + mlen = n := ⟨_, rfl⟩
  have hnz' := hnz.symm
  rw [hnz] at S6 S9 hcl
  rw [hnz]
  have HNZ := Lib.hid hnz'
  have hnzb : nz ≤ 400 := by omega
  clear hnz hnz'
  obtain ⟨q, hq⟩ : ∃ q : Nat, cut % 4 = (q : Int) := ⟨(cut % 4).toNat, by omega⟩
  have hq4 : q < 4 := by omega
  have e1 : bits BinOp.and .i64 cut 3 = (q : Int) := by rw [i64_and3, hq]
  clear hq
  go_wp2_with fail
  go_loopw [14] (fun i wr => ∃ k : Nat, k ≤ nz ∧ i = .int .i64 k ∧ Kept (fun _ => False) w9 wr) (fun i _ => nz - (intOf i).toNat)
  case atStart => exact ⟨0, by omega, rfl, Kept.refl _ _⟩
  case round =>
    obtain ⟨k, hk, rfl, hkr⟩ := hrel
    by_cases hkl : k < nz
    · obtain ⟨b1, o1, rfl, hc1⟩ := S6.out.2.resolve_left (by omega)
      obtain ⟨b2, o2, rfl, hc2⟩ := S9.out.2.resolve_left (by omega)
      have x1 := hkr.cell (hc1 k hkl) id
      have x2 := hkr.cell (hc2 k hkl) id
      obtain ⟨z, hz⟩ : ∃ z, Z.getD k 0 = z := ⟨_, rfl⟩
      rw [hz] at x1 x2
      have s1 : (0 : Int) ≤ (k : Int) := by omega
      have s2 : (k : Int) < (nz : Int) := by omega
      clear hc1 hc2 hz
      go_wp2
      go_quiet (fail)
      go_wp2
      go_roundw
      case rel => exact ⟨k + 1, by omega, by go_num, by exact hkr.drewN _⟩
      case measure => simp [intOf]; omega
    · obtain rfl : k = nz := by omega
      have hkwr := hkw9.then hkr
      by_cases hcut : m3 ≤ 1 + q
      · have g3 : decide ((m3 : Int) ≤ 1 + (q : Int)) = true := decide_eq_true (by omega)
        go_wp2
        go_ret
        exact ⟨rfl, hkwr⟩
      · have g3 : decide ((m3 : Int) ≤ 1 + (q : Int)) = false := decide_eq_false (by omega)
        have HK3r := Lib.hid (HK39.out.then hkr)
        have hka : Kept (fun _ => False) wr ((wr.alloc (.cells #[] 5)).drew) := ((Kept.refl _ wr).alloc _).drew
        have hown : Own .u8 5 ((wr.alloc (.cells #[] 5)).drew) (.slice (some ⟨wr.heap.size, 0, none⟩) 0 0) [] := (Own.new .u8 wr).kept (Kept.refl (fun _ => False) _).drew (fun _ _ => id)
        obtain ⟨_, _, hv, p1, -, -, n1, -⟩ := (HO1.out.kept (HK3r.out.then hka) (fun _ _ => id)).shape
        rw [M1.out] at hv p1 n1
        cases hv
        have P1 := Lib.hid p1
        have PN1 := Lib.hid n1
        have HKA := Lib.hid hka
        have HOW := Lib.hid hown
        have hm3 := M3.out
        obtain ⟨_, _, hv, -, hc3, -⟩ := HO3.out.shape
        rw [ints_length, hm3] at hv hc3
        cases hv
        have t1 : (0 : Int) ≤ 1 + (q : Int) := by omega
        have t2 : 1 + (q : Int) ≤ (c3 : Int) := by omega
        have t3 : (1 + (q : Int)).toNat = 1 + q := by omega
        have hz1 : 1 + q ≤ m3 := by omega
        have hz0 : 1 + q < (enc r).length := by omega
        have hc16 : ∀ aC cC wC, SlAt .u8 wC aC (m1 + (1 + q) + m2) (ints (encs l ++ (enc r).take (1 + q) ++ encs m)) → Calls Try.prog 16 #[.slice aC (m1 + (1 + q) + m2) cC] wC (AllPost .i32 21 (chs l ++ bad :: chs m) wC) := by
          intro aC cC wC hC
          have h9 := all_any aC (m1 + (1 + q) + m2) cC _ wC hC (by rw [ints_append, ints_append, ← take_ints]; exact fun n hn => (List.mem_append.1 hn).elim (fun hn => (List.mem_append.1 hn).elim (byt_encs l n) (fun h => byt_enc r n (List.mem_of_mem_take h))) (byt_encs m n)) (by omega)
          rw [nats_ints, all_cut' _ _ _ _ (by omega) hz0] at h9
          exact h9
        have HC16 := Lib.hid hc16
        have HLD := Lib.hid (show (chs l ++ bad :: chs m).length = len + 1 + mlen by simp [chs_length]; omega)
        clear hka hown p1 n1 hm3 hc3 hc16
        go_wp2
        go_region_held3 (fun _ => True) ((trivial)) (first
          | (refine step_appInts rfl (.tmp 71) (.tmp 72) 22 rfl 5 .u8 i0 (.int .u8 0) 1 Try.underlying22 HI.out.1 HI.out.2.1 HI.out.2.2.1 HI.out.2.2.2 rfl (.slice (some ⟨wr.heap.size, 0, none⟩) 0 0) [] rfl (by exact HOW.out) a1 m1 c1 (ints (encs l)) rfl PN1.out (by exact P1.out) (by simp <;> omega) (by simp [maxLen] <;> omega) ?_; intro vA wA hoA hkA hpA; have hkrA : Kept (fun _ => False) wr wA := HKA.out.trans (hkA.mono (fun i _ h => Or.inr (by cases h; exact Nat.le_refl _))); have hf9 := hoA.app_new hpA (B := wr.heap.size) HKA.out.size (fun b h => by cases h; exact Nat.le_refl _); have HFA := Lib.hid hf9; have HKRA := Lib.hid hkrA; obtain ⟨_, _, hv, p3, -⟩ := (HO3.out.kept (HK3r.out.then hkrA) (fun _ _ => id)).shape; rw [ints_length, M3.out] at hv p3; cases hv; have P3 := Lib.hid (p3.front hz1); rw [List.nil_append] at hoA; obtain ⟨aA, cA, hv, -⟩ := hoA.shape; rw [M1.out] at hv; subst hv; have HOA := Lib.hid hoA; clear hoA hkA hpA hkrA hf9 p3)
          | (refine step_appInts rfl (.tmp 73) (.tmp 76) 22 rfl 5 .u8 i0 (.int .u8 0) 1 Try.underlying22 HI.out.1 HI.out.2.1 HI.out.2.2.1 HI.out.2.2.2 rfl (.slice aA m1 cA) (ints (encs l)) rfl (by exact HOA.out) a3 (1 + q) c3 ((ints (enc r)).take (1 + q)) rfl (fun hh => by have h9 := HO3.out.shape; obtain ⟨_, _, hv, -, -, -, n9, -⟩ := h9; cases hv; have := n9 hh; rw [ints_length, M3.out] at this; omega) (by exact P3.out) (by rw [M1.out]; omega) (by rw [M1.out]; simp [maxLen] <;> omega) ?_; intro vB wB hoB hkB hpB; have hkrB : Kept (fun _ => False) wr wB := HKRA.out.trans (hkB.mono (fun i _ h => Or.inr (HFA.out i h))); have hf9 := hoB.app_new hpB (B := wr.heap.size) HKRA.out.size HFA.out; have HFB := Lib.hid hf9; have HKRB := Lib.hid hkrB; obtain ⟨_, _, hv, p2, -, -, n2, -⟩ := (HO2.out.kept (HK3r.out.then hkrB) (fun _ _ => id)).shape; rw [M2.out] at hv p2 n2; cases hv; have P2 := Lib.hid p2; have PN2 := Lib.hid n2; rw [take_ints, ← ints_append] at hoB; have hlB : (ints (encs l ++ (enc r).take (1 + q))).length = m1 + (1 + q) := by rw [ints_append, List.length_append, M1.out, ints_length, List.length_take, Nat.min_eq_left (by omega)]
             obtain ⟨aB, cB, hv, -⟩ := hoB.shape; rw [hlB] at hv; subst hv; have HLB := Lib.hid hlB; have HOB := Lib.hid hoB; clear hoB hkB hpB hkrB hf9 p2 n2 hlB)
          | (refine step_appInts rfl (.tmp 77) (.tmp 78) 22 rfl 5 .u8 i0 (.int .u8 0) 1 Try.underlying22 HI.out.1 HI.out.2.1 HI.out.2.2.1 HI.out.2.2.2 rfl (.slice aB (m1 + (1 + q)) cB) (ints (encs l ++ (enc r).take (1 + q))) rfl (by exact HOB.out) a2 m2 c2 (ints (encs m)) rfl PN2.out (by exact P2.out) (by rw [HLB.out]; omega) (by rw [HLB.out]; simp [maxLen] <;> omega) ?_; intro vC wC hoC hkC hpC; have hkrC : Kept (fun _ => False) wr wC := HKRB.out.trans (hkC.mono (fun i _ h => Or.inr (HFB.out i h))); have HKRC := Lib.hid hkrC; rw [← ints_append] at hoC; have hlC : (ints (encs l ++ (enc r).take (1 + q) ++ encs m)).length = m1 + (1 + q) + m2 := by rw [ints_append, List.length_append, HLB.out, M2.out]
             obtain ⟨aC, cC, hv, pC, -⟩ := hoC.shape; rw [hlC] at hv pC; subst hv; have PC := Lib.hid pC; clear hoC hkC hpC hkrC pC hlC)
          | (go_at_call 16; refine (HC16.out aC cC _ PC.out).mono ?_; rintro e wD ⟨vD, rfl, hoD, hkD, -⟩; obtain ⟨aD, cD, hv, pD, -⟩ := hoD.shape; rw [HLD.out] at hv pD; subst hv; have PD := Lib.hid pD; have hkrD := HKRC.out.then hkD; clear hoD hkD pD))
        obtain ⟨bD, oD, rfl, hcD⟩ := PD.out.2.resolve_left (by omega)
        have xD := hcD len (by omega)
        rw [show (chs l ++ bad :: chs m).getD len 0 = 65533 by rw [List.getD_eq_getElem?_getD, List.getElem?_append_right (by rw [chs_length]; omega), chs_length, hxl, Nat.sub_self]; rfl] at xD
        have s1 : (0 : Int) ≤ (len : Int) := by omega
        have s2 : (len : Int) < ((len + 1 + mlen : Nat) : Int) := by omega
        have hkD := hkwr.then hkrD
        clear hcD
        go_wp2
        go_ret
        exact ⟨rfl, hkD⟩
set_option maxRecDepth 100000 in
set_option maxHeartbeats 1000000 in
theorem parts_early (a b : Option Addr) (len cap mlen mcap : Nat) (r cut : Int) (w : World) (h : 200 < len ∨ (len ≤ 200 ∧ 200 < mlen)) :
    Calls Try.prog 7 #[.slice a len cap, .int .i32 r, .int .i64 cut, .slice b mlen mcap] w fun e w' => e = .returned (.bool true) ∧ Kept (fun _ => False) w w' := by
  rcases h with h | ⟨h, h'⟩
  · have g1 : decide (200 < (len : Int)) = true := decide_eq_true (by omega)
    go_enter Try.func7, Try.ntmps7
    go_wp2_with fail
    refine (known_any _).mono ?_; rintro e w0 ⟨rfl, hk0⟩
    go_wp2
    go_ret
    exact ⟨rfl, hk0⟩
  · have g1 : decide (200 < (len : Int)) = false := decide_eq_false (by omega)
    have g2 : decide (200 < (mlen : Int)) = true := decide_eq_true (by omega)
    go_enter Try.func7, Try.ntmps7
    go_wp2_with fail
    refine (known_any _).mono ?_; rintro e w0 ⟨rfl, hk0⟩
    go_wp2
    go_ret
    exact ⟨rfl, hk0⟩
theorem law_parts {a b : Option Addr} {len cap mlen mcap : Nat} {zs ms : List Int} {r cut : Int} {w : World} (f0 : IsRow .i32 w a len cap zs) (f1 : (Lit.int .i32 r).wf = true) (f3 : IsRow .i32 w b mlen mcap ms) :
    Calls Try.prog 7 #[.slice a len cap, .int .i32 r, .int .i64 cut, .slice b mlen mcap] w fun e w' => e = .returned (.bool true) ∧ Below w.heap.size w w' := by
  refine Calls.mono (R := fun e w' => e = .returned (.bool true) ∧ Kept (fun _ => False) w w') ?_ fun _ _ h => ⟨h.1, h.2.below⟩
  obtain ⟨s, -, -, h1, -, -⟩ := f0.slAt
  obtain ⟨s', -, -, h2, -, -⟩ := f3.slAt
  by_cases h : 200 < len ∨ (len ≤ 200 ∧ 200 < mlen)
  · exact parts_early a b len cap mlen mcap r cut w h
  · exact parts_go a b len cap mlen mcap r cut _ _ w s (by omega) (fun r hr => i32_of_wf (h1 r hr)) s' (by omega) (fun r hr => i32_of_wf (h2 r hr)) (i32_of_wf f1)
end Go.Proofs.Ytjmcogpplblamaa
