/- Any numbers: their bytes, their widths; read again. -/
import Derived.Test.YtjmcogpplblamaaEncImp
import Derived.Test.YtjmcogpplblamaaLBytes
import Derived.Test.YtjmcogpplblamaaStr
namespace Go.Proofs.Ytjmcogpplblamaa
open Go.RowKit Pl
set_option linter.unusedVariables false
attribute [local go_sem ↓] Go.wp_at_zero Go.wp_at_succ
theorem nats_ints (a : List Nat) : nats (ints a) = a := by
  induction a with
  | nil => rfl
  | cons x a ih => simp only [ints, nats, List.map_cons, List.map_map] at ih ⊢; rw [ih]; simp
theorem byt_enc (r : Int) : Byt (ints (enc r)) := by
  intro n hn
  simp only [ints, List.mem_map] at hn
  obtain ⟨a, ha, rfl⟩ := hn
  have := enc_lt r a ha
  omega
theorem encs_lt (l : List Int) : ∀ b ∈ encs l, b < 256 := by
  induction l with
  | nil => intro b hb; cases hb
  | cons r l ih =>
    intro b hb
    rcases List.mem_append.1 hb with h | h
    · exact enc_lt r b h
    · exact ih b h
theorem byt_encs (l : List Int) : Byt (ints (encs l)) := by
  intro n hn
  simp only [ints, List.mem_map] at hn
  obtain ⟨a, ha, rfl⟩ := hn
  have := encs_lt l a ha
  omega
def chs (l : List Int) : List Int := l.map (fun r => (chI r : Int))
theorem all_enc1 (r : Int) : allL (enc r) = [(chI r : Int)] := by
  have h := all_encs [r]
  simpa [encs] using h
theorem chs_snoc (l : List Int) (k : Nat) (h : k < l.length) : chs (l.take (k + 1)) = chs (l.take k) ++ [(chI l[k] : Int)] := by
  rw [List.take_succ_eq_append_getElem h]; unfold chs; rw [List.map_append]; rfl
theorem chs_length (l : List Int) : (chs l).length = l.length := by simp [chs]
set_option maxRecDepth 100000 in
set_option maxHeartbeats 16000000 in
theorem chars_go (a : Option Addr) (len cap : Nat) (l : List Int) (w : World) (hs : SlAt .i32 w a len l) (hl : len ≤ 300) (hw : ∀ r ∈ l, -2147483648 ≤ r ∧ r ≤ 2147483647) :
    Calls Try.prog 6 #[.slice a len cap] w fun e w' => e = .returned (.bool true) ∧ Kept (fun _ => False) w w' := by
  have g1 : decide (300 < (len : Int)) = false := decide_eq_false (by omega)
  have hxl := hs.1
  have HS := Lib.hid hs
  obtain ⟨i0, hi, hz0, hz1, hz2⟩ := info_parts Try.infoByte
  have HI := Lib.hid (And.intro hi (And.intro hz0 (And.intro hz1 hz2)))
  obtain ⟨i1, hi', hz0', hz1', hz2'⟩ := info_parts Try.infoInt
  have HJ := Lib.hid (And.intro hi' (And.intro hz0' (And.intro hz1' hz2')))
  clear hi hz0 hz1 hz2 hi' hz0' hz1' hz2' hs
  go_enter Try.func6, Try.ntmps6
  go_wp2_with fail
  refine (known_any _).mono ?_; rintro e w0 ⟨rfl, hk0⟩
  go_wp2_with fail
  refine (enc_any a len cap l _ (HS.out.kept hk0 (fun _ _ _ _ => id)) (by omega) hw).mono ?_
  rintro e w1 ⟨v1, rfl, ho1, hk1, hf1⟩
  obtain ⟨a1, c1, hv1, -⟩ := ho1.shape
  rw [ints_length] at hv1
  subst hv1
  have HO1 := Lib.hid ho1
  have hkw1 := hk0.then hk1
  clear ho1 hf1 hk0 hk1
  go_wp2_with fail
  go_loopw [4, 5, 6] (fun v u i wr => ∃ k : Nat, k ≤ len ∧ i = .int .i64 k ∧ Own .u8 5 wr v (ints (encs (l.take k))) ∧ Own .i64 3 wr u (chs (l.take k)) ∧ (∀ b, v.ownBlock = some b → w1.heap.size ≤ b ∧ ∀ b', u.ownBlock = some b' → b ≠ b') ∧ (∀ b, u.ownBlock = some b → w1.heap.size ≤ b) ∧ Kept (fun _ => False) w1 wr) (fun _ _ i _ => len - (intOf i).toNat)
  case atStart => exact ⟨0, by omega, rfl, Own.nil _ _ _, Own.nil _ _ _, (fun b h => by cases h), (fun b h => by cases h), Kept.refl _ _⟩
  case round =>
    obtain ⟨k, hk, rfl, hov, hou, hfv, hfu, hkr⟩ := hrel
    obtain ⟨a4, c4, hv4, -⟩ := hov.shape
    obtain ⟨a5, c5, hv5, -⟩ := hou.shape
    rw [ints_length] at hv4
    rw [chs_length, List.length_take, Nat.min_eq_left (by omega)] at hv5
    subst hv4 hv5
    have HV := Lib.hid hov
    have HU := Lib.hid hou
    have HFV := Lib.hid hfv
    have HFU := Lib.hid hfu
    have hln := encs_len (l.take k)
    have hlk : (l.take k).length ≤ k := List.length_take_le _ _
    clear hov hou hfv hfu
    by_cases hkl : k < len
    · obtain ⟨b, off, rfl, hc⟩ := HS.out.2.resolve_left (by omega)
      have hcw := hkw1.cell (hc k hkl) id
      have hblt : b < w1.heap.size := lt_of_cell hcw
      have hcell := hkr.cell hcw id
      have hcw2 := hcw
      rw [show l.getD k 0 = l[k] by simp [List.getD_eq_getElem?_getD, hxl, hkl]] at hcw2
      rw [show l.getD k 0 = l[k] by simp [List.getD_eq_getElem?_getD, hxl, hkl]] at hcell
      have hsn := encs_snoc l k (by omega)
      have hsc := chs_snoc l k (by omega)
      have hwr := hw l[k] (List.getElem_mem _)
      obtain ⟨r, hr⟩ : ∃ r, l[k] = r := ⟨_, rfl⟩
      rw [hr] at hcell hsn hsc hwr hcw2
      have HCW := Lib.hid hcw2
      clear hcw2
      have hel := enc_len r
      have HSN := Lib.hid hsn
      have HSC := Lib.hid hsc
      have hs3 : IntKind.i64.wrap r = r := IntWalk.i64_in _ (by omega)
      obtain ⟨B, hB⟩ : ∃ B, encs (l.take k) = B := ⟨_, rfl⟩
      rw [hB] at HV HFV HSN hln ⊢
      clear hsn hsc hB hr hc hcw
      go_wp2_with fail
      refine (renc_any r _).mono ?_
      rintro e w2 ⟨v7, rfl, ho7, hk2, hf7⟩
      obtain ⟨a7, c7, hv7, hs7, -, -, hn7, -⟩ := ho7.shape
      rw [ints_length] at hv7 hs7 hn7
      subst hv7
      have HS7 := Lib.hid hs7
      have HN7 := Lib.hid hn7
      have HO7 := Lib.hid ho7
      have HF7 := Lib.hid hf7
      have HV2 := Lib.hid (HV.out.kept hk2 (fun _ _ => id))
      have HU2 := Lib.hid (HU.out.kept hk2 (fun _ _ => id))
      clear ho7 hs7 hn7 hf7
      go_wp2_with (at_builtin; refine wpList_appInts rfl (.tmp 27) (.tmp 28) 22 rfl 5 .u8 i0 (.int .u8 0) 1 Try.underlying22 HI.out.1 HI.out.2.1 HI.out.2.2.1 HI.out.2.2.2 rfl (.slice a4 B.length c4) (ints B) rfl HV2.out a7 (enc r).length c7 (ints (enc r)) rfl HN7.out HS7.out (by rw [ints_length]; omega) (by rw [ints_length]; simp [maxLen]; omega) ?_; intro v3 w3 ho3 hk3 hpr3; have HO3 := Lib.hid ho3; have HP3 := Lib.hid hpr3; clear ho3 hpr3)
      have hz2 := hk2.size
      have hz3 := hk3.size
      have hvl := HV.out.lt
      have hul := HU.out.lt
      have HU3 := Lib.hid (HU2.out.kept hk3 (fun b hb hh => (HFV.out b hh).2 b hb rfl))
      have ho7 := HO7.out.kept hk3 (fun b hb hh => by have h1 := HF7.out b hb; have h2 := hvl b hh; omega)
      obtain ⟨_, _, hv7, hs7, -⟩ := ho7.shape
      rw [ints_length] at hv7 hs7
      cases hv7
      have HS73 := Lib.hid hs7
      have hf3 : ∀ b, v3.ownBlock = some b → w1.heap.size ≤ b ∧ ∀ b', (Value.slice a5 k c5).ownBlock = some b' → b ≠ b' := by
        intro b hb
        rcases HP3.out with h | h
        · exact HFV.out b (h ▸ hb)
        · rw [h] at hb
          have h9 := Option.some.inj hb
          have h8 := hkr.size
          exact ⟨by omega, fun b' hb' => by have := hul b' hb'; omega⟩
      have HF3 := Lib.hid hf3
      have hk13 : Kept (fun _ => False) w1 w3 := (hkr.then hk2).trans (hk3.mono (fun i _ h => Or.inr (HFV.out i h).1))
      clear ho7 hs7 hf3 hk3
      go_wp2_with fail
      refine (rall_any a7 (enc r).length c7 (ints (enc r)) _ HS73.out (byt_enc r) (by omega)).mono ?_
      rw [nats_ints, all_enc1]
      rintro e w4 ⟨v8, rfl, ho8, hk4, hf8⟩
      obtain ⟨a8, c8, hv8, hs8, -, -, hn8, -⟩ := ho8.shape
      simp only [List.length_singleton] at hv8 hs8 hn8
      subst hv8
      have HS8 := Lib.hid hs8
      have HN8 := Lib.hid hn8
      have HU4 := Lib.hid (HU3.out.kept hk4 (fun _ _ => id))
      have HO4 := Lib.hid (HO3.out.kept hk4 (fun _ _ => id))
      have hk14 := hk13.then hk4
      have hz4 := hk4.size
      clear ho8 hs8 hn8 hf8 hk13
      go_wp2_with (at_builtin; refine wpList_appInts rfl (.tmp 30) (.tmp 32) 23 rfl 3 .i64 i1 (.int .i64 0) 8 Try.underlying23 HJ.out.1 HJ.out.2.1 HJ.out.2.2.1 HJ.out.2.2.2 rfl (.slice a5 k c5) (chs (l.take k)) rfl HU4.out a8 1 c8 [(chI r : Int)] rfl HN8.out HS8.out (by rw [chs_length]; omega) (by rw [chs_length]; simp [maxLen]; omega) ?_; intro v5 w5 ho5 hk5 hpr5; have HO5 := Lib.hid ho5; have HP5 := Lib.hid hpr5; clear ho5 hpr5)
      have HO35 := Lib.hid (HO4.out.kept hk5 (fun b hb hh => (HF3.out b hb).2 b hh rfl))
      have hk15 : Kept (fun _ => False) w1 w5 := hk14.trans (hk5.mono (fun i _ h => Or.inr (HFU.out i h)))
      have hcell5 := hk15.cell HCW.out id
      have hf5 : ∀ b, v5.ownBlock = some b → w1.heap.size ≤ b := by
        intro b hb
        rcases HP5.out with h | h
        · exact HFU.out b (h ▸ hb)
        · rw [h] at hb; have h9 := Option.some.inj hb; have h8 := hk14.size; omega
      have hf35 : ∀ b, v3.ownBlock = some b → w1.heap.size ≤ b ∧ ∀ b', v5.ownBlock = some b' → b ≠ b' := by
        intro b hb
        refine ⟨(HF3.out b hb).1, fun b' hb' => ?_⟩
        rcases HP5.out with h | h
        · exact (HF3.out b hb).2 b' (h ▸ hb')
        · rw [h] at hb'
          have h9 := Option.some.inj hb'
          have h8 := HO3.out.lt b hb
          omega
      have HF5 := Lib.hid hf5
      have HF35 := Lib.hid hf35
      clear hf5 hf35 hcell hk5
      have x5 : w5.drew.cell? ⟨b, off + k, none⟩ = some (.int .i32 r) := hcell5
      have HX5 := Lib.hid x5
      clear x5
      go_region_with (first
        | (go_at_call 20; refine (width_any r _).mono ?_; rintro e wA ⟨rfl, hkA⟩; (first | have yA := hkA.cell yB id | have yA := hkA.cell HX5.out id); (first | have hkT : Kept (fun _ => False) w5 wA := hkB'.then hkA | have hkT : Kept (fun _ => False) w5 wA := ((Kept.refl (fun _ => False) w5).drew).then hkA); have hkA' := hkT)
        | (go_at_call 21; refine (refWidth_any r _).mono ?_; rintro e wB ⟨rfl, hkB⟩; (first | have yB := hkB.cell yA id | have yB := hkB.cell HX5.out id); (first | have hkT : Kept (fun _ => False) w5 wB := hkA'.then hkB | have hkT : Kept (fun _ => False) w5 wB := ((Kept.refl (fun _ => False) w5).drew).then hkB); have hkB' := hkT))
      all_goals go_wp2
      all_goals
        go_roundw
        case rel => exact ⟨k + 1, by omega, by go_num, (HO35.out.kept hkT (fun _ _ => id)).retag (by rw [HSN.out, ints_append]), (HO5.out.kept hkT (fun _ _ => id)).retag HSC.out, HF35.out, HF5.out, hk15.then hkT⟩
        case measure => simp [intOf]; omega
    · obtain rfl : k = len := by omega
      have htk : l.take k = l := List.take_of_length_le (by omega)
      rw [htk] at HV HU hln ⊢
      have ho1 := HO1.out.kept hkr (fun _ _ => id)
      obtain ⟨_, _, hv1, s1, -, -, n1, -⟩ := ho1.shape
      rw [ints_length] at hv1 s1 n1
      cases hv1
      obtain ⟨_, _, hv2, s2, -⟩ := HV.out.shape
      rw [ints_length] at hv2 s2
      cases hv2
      have cv1 := run_str (P := Try.prog) (dst := 9) (cap := c1) Try.underlying22 Try.underlying5 Try.underlying9 s1
      have cv2 := run_str (P := Try.prog) (dst := 9) (cap := c4) Try.underlying22 Try.underlying5 Try.underlying9 s2
      obtain ⟨str, hstr⟩ : ∃ str, strOfNums (ints (encs l)) = str := ⟨_, rfl⟩
      rw [hstr] at cv1 cv2
      have S1 := Lib.hid s1
      have N1 := Lib.hid n1
      have hlen := encs_len l
      clear hstr s1 s2 n1 ho1 htk
      go_wp2_with fail
      refine (all_any a1 (encs l).length c1 (ints (encs l)) _ S1.out (byt_encs l) (by omega)).mono ?_
      rw [nats_ints, all_encs]
      rintro e w2 ⟨v8, rfl, ho8, hk2, -⟩
      obtain ⟨a8, c8, hv8, s8, -⟩ := ho8.shape
      have hcl : (l.map (fun r => (chI r : Int))).length = k := by simp [hxl]
      rw [hcl] at hv8 s8
      subst hv8
      have hu2 := HU.out.kept hk2 (fun _ _ => id)
      obtain ⟨_, _, hv9, s9, -⟩ := hu2.shape
      rw [chs_length, hxl] at hv9 s9
      cases hv9
      have S8 := Lib.hid s8
      have S9 := Lib.hid s9
      have hch : Chs (chs l) := by
        intro n hn
        simp only [chs, List.mem_map] at hn
        obtain ⟨r, -, rfl⟩ := hn
        have := (chI_ok r).1
        omega
      clear s8 s9 hu2 ho8 cv1 cv2 hcl
      go_wp2_with fail
      refine (same_any a8 a5 k c8 c5 (chs l) _ S8.out S9.out hch (by omega)).mono ?_
      rintro e w3 ⟨rfl, hm⟩
      go_wp2
      go_ret
      exact ⟨rfl, ((hkw1.then hkr).then hk2).then (drew_kept hm)⟩
set_option maxRecDepth 100000 in
set_option maxHeartbeats 1000000 in
theorem law_chars {a : Option Addr} {len cap : Nat} {zs : List Int} {w : World} (f0 : IsRow .i32 w a len cap zs) :
    Calls Try.prog 6 #[.slice a len cap] w fun e w' => e = .returned (.bool true) ∧ Below w.heap.size w w' := by
  refine Calls.mono (R := fun e w' => e = .returned (.bool true) ∧ Kept (fun _ => False) w w') ?_ fun _ _ h => ⟨h.1, h.2.below⟩
  obtain ⟨s, -, -, b, -, -⟩ := f0.slAt
  by_cases h : len ≤ 300
  · exact chars_go a len cap _ w s h (fun r hr => i32_of_wf (b r hr))
  · have g1 : decide (300 < (len : Int)) = true := decide_eq_true (by omega)
    clear f0 s b h
    go_enter Try.func6, Try.ntmps6
    go_wp2_with fail
    refine (known_any _).mono ?_; rintro e w0 ⟨rfl, hk0⟩
    go_wp2
    go_ret
    exact ⟨rfl, hk0⟩
end Go.Proofs.Ytjmcogpplblamaa
