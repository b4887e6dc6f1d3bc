/- Any bytes, one by one, ended now and then. -/
import Derived.Test.YtjmcogpplblamaaKnown
import Derived.Deep.RegionWith
import Derived.Deep.DrawnRows
namespace Go.Proofs.Ytjmcogpplblamaa
open Go.RowKit Pl
set_option linter.unusedVariables false
attribute [local go_sem ↓] Go.wp_at_zero Go.wp_at_succ
theorem drew_kept {w w' : World} (h : ∃ n, w' = w.drewN n) : Kept (fun _ => False) w w' := by obtain ⟨m, rfl⟩ := h; exact (Kept.refl _ _).drewN _
def Two (w wr : World) (p q : Nat) (s : St) : Prop := DecAt wr p s ∧ RefAt wr q s ∧ p ≠ q ∧ w.heap.size ≤ p ∧ w.heap.size ≤ q ∧ Kept (fun _ => False) w wr
theorem Two.left {w wr wa : World} {p q : Nat} {s : St} (h : Two w wr p q s) (hk : Kept (· = p) wr wa) : RefAt wa q s ∧ Kept (fun _ => False) w wa := by
  obtain ⟨h1, h2, h3, h4, h5, h6⟩ := h
  exact ⟨h2.kept hk (fun hh => h3 hh.symm), h6.trans (hk.mono (fun i _ h => Or.inr (by have : i = p := h; omega)))⟩
theorem Two.step {w wr wa wb : World} {p q : Nat} {s s' : St} (h : Two w wr p q s) (hk : Kept (· = p) wr wa) (hd : DecAt wa p s') (hk2 : Kept (· = q) wa wb) (hr : RefAt wb q s') : Two w wb p q s' := by
  have h6 := (h.left hk).2
  obtain ⟨h1, h2, h3, h4, h5, -⟩ := h
  exact ⟨hd.kept hk2 h3, hr, h3, h4, h5, h6.trans (hk2.mono (fun i _ h => Or.inr (by have : i = q := h; omega)))⟩
theorem Two.kept {w wr wb : World} {p q : Nat} {s : St} (h : Two w wr p q s) (hk : Kept (fun _ => False) wr wb) : Two w wb p q s := by
  obtain ⟨h1, h2, h3, h4, h5, h6⟩ := h
  exact ⟨h1.kept hk id, h2.kept hk id, h3, h4, h5, h6.then hk⟩
/-- Both end: the same lists. -/
theorem both_fin {w wr wa wb : World} {p q : Nat} {s : St} {v1 v2 : Value} (h : Two w wr p q s) (hk : Kept (· = p) wr wa) (hd : DecAt wa p s0) (ho : Own .i32 21 wa v1 (fin s)) (hf : ∀ b, v1.ownBlock = some b → wr.heap.size ≤ b)
    (hk2 : Kept (· = q) wa wb) (hr : RefAt wb q s0) (ho2 : Own .i64 3 wb v2 (fin s)) : Two w wb p q s0 ∧ Own .i32 21 wb v1 (fin s) := by
  refine ⟨h.step hk hd hk2 hr, ho.kept hk2 (fun b hb hh => ?_)⟩
  have h1 := hf b hb
  have h2 := h.2.1.lt
  have h3 : b = q := hh
  omega
set_option maxRecDepth 100000 in
set_option maxHeartbeats 16000000 in
theorem bytes_go (a ea : Option Addr) (len cap el ec : Nat) (xs es : List Int) (w : World) (hs : SlAt .u8 w a len xs) (hb : Byt xs) (hl : len ≤ 2048) (he : SlAt .i64 w ea el es) (hel : el ≤ 100) :
    Calls Try.prog 3 #[.slice a len cap, .slice ea el ec] w fun e w' => e = .returned (.bool true) ∧ Kept (fun _ => False) w w' := by
  have g1 : decide (2048 < (len : Int)) = false := decide_eq_false (by omega)
  have g2 : decide (100 < (el : Int)) = false := decide_eq_false (by omega)
  have hxl := hs.1
  have HS := Lib.hid hs
  have HE := Lib.hid he
  clear hs he
  go_enter Try.func3, Try.ntmps3
  go_wp2_with fail
  refine (known_any _).mono ?_; rintro e w0 ⟨rfl, hk0⟩
  have hz0 := hk0.size
  have htw : Two w ((w0.alloc (.cells #[.int .i32 0, .int .i64 0, .int .u8 0, .int .u8 0] 50)).alloc (.cells #[.int .i64 0, .int .i64 0, .int .u8 0, .int .u8 0] 29)) w0.heap.size (w0.heap.size + 1) s0 :=
    ⟨⟨0, 0, 0, blk_alloc (blk_new _ _) _, fun h => absurd h (by simp [s0]), ok0⟩, ⟨0, 0, 0, blk_at _ _ (by simp), fun h => absurd h (by simp [s0]), ok0⟩, by omega, by omega, by omega, (hk0.alloc _).alloc _⟩
  have HT0 := Lib.hid htw
  obtain ⟨p, hp⟩ : ∃ p, w0.heap.size = p := ⟨_, rfl⟩
  obtain ⟨q, hq⟩ : ∃ q, p + 1 = q := ⟨_, rfl⟩
  rw [hp, hq] at HT0
  have HP := Lib.hid hp
  have HQ := Lib.hid hq
  clear htw hp hq hz0 hk0
  go_wp2_with fail
  refine (new_any _).mono ?_
  rintro e w1 ⟨rfl, rfl⟩
  go_wp2_with fail
  rw [HP.out, HQ.out]
  go_loopw [7] (fun i wr => ∃ (k : Nat) (s : St), k ≤ len ∧ i = .int .i64 k ∧ Two w wr p q s) (fun i _ => len - (intOf i).toNat)
  case atStart => exact ⟨0, s0, by omega, rfl, HT0.out⟩
  case round =>
    obtain ⟨k, s, hk, rfl, ht⟩ := hrel
    have HTa := Lib.hid ht
    clear ht
    by_cases hkl : k < len
    · obtain ⟨wo, hwo⟩ : ∃ wo, wo = wr := ⟨_, rfl⟩
      rw [← hwo] at HTa ⊢
      clear hwo
      go_wp2_with fail
      go_loopw [8] (fun i wr => ∃ (j : Nat) (s : St), j ≤ el ∧ i = .int .i64 j ∧ Two w wr p q s) (fun i _ => el - (intOf i).toNat)
      case atStart => exact ⟨0, s, by omega, rfl, HTa.out⟩
      case round =>
        clear HTa
        obtain ⟨j, s, hj, rfl, ht⟩ := hrel
        have HT := Lib.hid ht
        have hkw := ht.2.2.2.2.2
        clear ht
        by_cases hjl : j < el
        · obtain ⟨b2, o2, rfl, hc2⟩ := HE.out.2.resolve_left (by omega)
          have x2 := hkw.cell (hc2 j hjl) id
          obtain ⟨z, hz⟩ : ∃ z, es.getD j 0 = z := ⟨_, rfl⟩
          rw [hz] at x2
          clear hc2 hz
          by_cases hzk : z = (k : Int)
          · subst hzk
            clear hkw
            go_wp2_with fail
            refine (fin_any p s _ HT.out.1).mono ?_
            rintro e wa ⟨v1, rfl, hd1, ho1, hk1, hf1⟩
            have HD1 := Lib.hid hd1
            have HO1 := Lib.hid ho1
            have HF1 := Lib.hid hf1
            clear hd1 ho1 hf1
            go_wp2_with fail
            refine (rfin_any q s _ (HT.out.left hk1).1).mono ?_
            rintro e wb ⟨v2, rfl, hr2, ho2, hk2, -⟩
            obtain ⟨ht5, ho5⟩ := both_fin HT.out hk1 HD1.out HO1.out HF1.out hk2 hr2 ho2
            obtain ⟨a1, c1, rfl, s1, -⟩ := ho5.shape
            obtain ⟨a2, c2, rfl, s2, -⟩ := ho2.shape
            have HT5 := Lib.hid ht5
            have S1 := Lib.hid s1
            have S2 := Lib.hid s2
            have hfl := fin_len s
            clear ht5 ho5 ho2 hr2 s1 s2
            go_wp2_with fail
            refine (same_any a1 a2 _ c1 c2 _ _ S1.out S2.out (fin_chs s) (by omega)).mono ?_
            rintro e wc ⟨rfl, hm⟩
            have HT6 := Lib.hid (HT5.out.kept (drew_kept hm))
            clear hm
            go_wp2
            go_roundw
            case rel => exact ⟨j + 1, s0, by omega, by go_num, HT6.out⟩
            case measure => simp [intOf]; omega
          · clear hkw
            go_wp2
            go_roundw
            case rel => exact ⟨j + 1, s, by omega, by go_num, HT.out⟩
            case measure => simp [intOf]; omega
        · obtain rfl : j = el := by omega
          obtain ⟨z, hz, hzg, hzn⟩ := hb.at (k := k) (by omega)
          obtain ⟨b3, o3, rfl, hc3⟩ := HS.out.2.resolve_left (by omega)
          have x3 := hkw.cell (hc3 k hkl) id
          rw [hzg] at x3
          have hb3 : b3 < w.heap.size := lt_of_cell (hc3 k hkl)
          have hpq := HT.out.2.2.1
          have hp0 := HT.out.2.2.2.1
          have hq0 := HT.out.2.2.2.2.1
          have hpl := HT.out.1.lt
          have hql := HT.out.2.1.lt
          have s1 : (0 : Int) ≤ (k : Int) := by omega
          have s2 : (k : Int) < (len : Int) := by omega
          have hpn := put_len s z
          have hch := put_chs (s := s) (by obtain ⟨_, _, _, _, _, h⟩ := HT.out.1; exact h) z hz
          obtain ⟨s', hs'⟩ : ∃ s', (put s z).1 = s' := ⟨_, rfl⟩
          obtain ⟨L, hL⟩ : ∃ L, (put s z).2 = L := ⟨_, rfl⟩
          have hP : ∀ w', DecAt w' p s → Calls Try.prog 13 #[.pointer (some ⟨p, 0, none⟩), .int .u8 z] w' (BeginPost .i32 21 DecAt p (s', L) w') := fun w' h => by have h9 := put_any p z s w' h hz; rw [← hs', ← hL]; exact h9
          have hR : ∀ w', RefAt w' q s → Calls Try.prog 14 #[.pointer (some ⟨q, 0, none⟩), .int .u8 z] w' (BeginPost .i64 3 RefAt q (s', L) w') := fun w' h => by have h9 := rput_any q z s w' h hz; rw [← hs', ← hL]; exact h9
          rw [hL] at hpn hch
          have HPut := Lib.hid hP
          have HRut := Lib.hid hR
          have HTd := Lib.hid (HT.out.kept ((Kept.refl (fun _ => False) wr).drew))
          have x3d : wr.drew.cell? ⟨b3, o3 + k, none⟩ = some (.int .u8 z) := x3
          have HX3 := Lib.hid x3d
          clear hc3 hzg hzn hs' hL hP hR hkw HT x3
          go_wp2
          have x3 := HX3.out
          go_region_with (first
            | (go_at_call 13; refine (HPut.out _ ?_).mono ?_; (first | exact HTd.out.1 | exact HTd.out.1.kept hkB hpq); rintro e wA ⟨vA, rfl, hdA, hoA, hkA, hfA⟩; (first | have x3 := HX3.out | skip); (first | have y3 := (hkB.cell HX3.out (fun hh => by have h9 : b3 = q := hh; omega)) | skip); (first | have z3 := hkA.cell y3 (fun hh => by have h9 : b3 = p := hh; omega) | have z3 := hkA.cell HX3.out (fun hh => by have h9 : b3 = p := hh; omega)); have HDA := Lib.hid hdA; have HOA := Lib.hid hoA; have HFA := Lib.hid hfA; obtain ⟨aA, cA, rfl, -⟩ := hoA.shape; have hzA := hkA.size; clear hdA hoA hfA)
            | (go_at_call 14; refine (HRut.out _ ?_).mono ?_; (first | exact HTd.out.2.1 | exact (HTd.out.left hkA).1); rintro e wB ⟨vB, rfl, hdB, hoB, hkB, hfB⟩; (first | have y3 := (hkA.cell HX3.out (fun hh => by have h9 : b3 = p := hh; omega)) | skip); (first | have z3 := hkB.cell y3 (fun hh => by have h9 : b3 = q := hh; omega) | have z3 := hkB.cell HX3.out (fun hh => by have h9 : b3 = q := hh; omega)); have HDB := Lib.hid hdB; have HOB := Lib.hid hoB; have HFB := Lib.hid hfB; obtain ⟨aB, cB, rfl, -⟩ := hoB.shape; have hzB := hkB.size; clear hdB hoB hfB)
            | (go_at_call 10; first
                | (have hoA5 := HOA.out.kept hkB (fun b hb hh => by have h9 := HFA.out b hb; have h8 : b = q := hh; have h7 : wr.drew.heap.size = wr.heap.size := rfl; omega); obtain ⟨_, _, hv1, sA, -⟩ := hoA5.shape; cases hv1; obtain ⟨_, _, hv2, sB, -⟩ := HOB.out.shape; cases hv2; have HT5 := Lib.hid (HTd.out.step hkA HDA.out hkB HDB.out); clear hoA5; refine (same_any aA aB _ cA cB _ _ sA sB hch (by omega)).mono ?_; rintro e wc ⟨rfl, hm⟩; have HT6 := Lib.hid (HT5.out.kept (drew_kept hm)); obtain ⟨r6, lo6, hi6, h6, -⟩ := HT6.out.2.1; have x70 := blk_cell h6 0; clear hm sA sB h6)
                | (have hoB5 := HOB.out.kept hkA (fun b hb hh => by have h9 := HFB.out b hb; have h8 : b = p := hh; have h7 : wr.drew.heap.size = wr.heap.size := rfl; omega); obtain ⟨_, _, hv1, sB, -⟩ := hoB5.shape; cases hv1; obtain ⟨_, _, hv2, sA, -⟩ := HOA.out.shape; cases hv2; have HT5 := Lib.hid (show Two w wA p q s' from ⟨HDA.out, HDB.out.kept hkA (fun hh => hpq hh.symm), hpq, hp0, hq0, (HTd.out.2.2.2.2.2.trans (hkB.mono (fun i _ h => Or.inr (by have h9 : i = q := h; omega)))).trans (hkA.mono (fun i _ h => Or.inr (by have h9 : i = p := h; omega)))⟩); clear hoB5; refine (same_any aA aB _ cA cB _ _ sA sB hch (by omega)).mono ?_; rintro e wc ⟨rfl, hm⟩; have HT6 := Lib.hid (HT5.out.kept (drew_kept hm)); obtain ⟨r6, lo6, hi6, h6, -⟩ := HT6.out.2.1; have x70 := blk_cell h6 0; clear hm sA sB h6))
            | (go_at_call 15; refine (waits_any p s' _ HT6.out.1).mono ?_; rintro e w' ⟨rfl, rfl⟩))
          all_goals go_wp2
          all_goals
            go_roundw
            case rel => exact ⟨k + 1, s', by omega, by go_num, HT6.out⟩
            case measure => simp [intOf]; omega
    · obtain rfl : k = len := by omega
      have HT := HTa
      clear HTa
      go_wp2_with fail
      refine (fin_any p s _ HT.out.1).mono ?_
      rintro e wa ⟨v1, rfl, hd1, ho1, hk1, hf1⟩
      have HD1 := Lib.hid hd1
      have HO1 := Lib.hid ho1
      have HF1 := Lib.hid hf1
      clear hd1 ho1 hf1
      go_wp2_with fail
      refine (rfin_any q s _ (HT.out.left hk1).1).mono ?_
      rintro e wb ⟨v2, rfl, hr2, ho2, hk2, -⟩
      obtain ⟨ht5, ho5⟩ := both_fin HT.out hk1 HD1.out HO1.out HF1.out hk2 hr2 ho2
      obtain ⟨a1, c1, rfl, s1, -⟩ := ho5.shape
      obtain ⟨a2, c2, rfl, s2, -⟩ := ho2.shape
      have HT5 := Lib.hid ht5
      have S1 := Lib.hid s1
      have S2 := Lib.hid s2
      have hfl := fin_len s
      clear ht5 ho5 ho2 hr2 s1 s2
      go_wp2_with fail
      refine (same_any a1 a2 _ c1 c2 _ _ S1.out S2.out (fin_chs s) (by omega)).mono ?_
      rintro e wc ⟨rfl, hm⟩
      have HT6 := Lib.hid (HT5.out.kept (drew_kept hm))
      clear hm
      have g7 : decide (0 < s0.left) = false := rfl
      have hkw6 := HT6.out.2.2.2.2.2
      have HS6 := Lib.hid (HS.out.kept hkw6 (fun _ _ _ _ => id))
      go_wp2_with fail
      refine (waits_any p s0 _ HT6.out.1).mono ?_
      rintro e w' ⟨rfl, rfl⟩
      go_wp2_with fail
      refine (all_any a k cap xs _ HS6.out hb (by omega)).mono ?_
      rintro e wd ⟨v7, rfl, ho7, hk7, hf7⟩
      have HS7 := Lib.hid (HS6.out.kept hk7 (fun _ _ _ _ => id))
      have HO7 := Lib.hid ho7
      have hkw7 := hkw6.then hk7
      clear ho7 hf7 hkw6
      go_wp2_with fail
      refine (rall_any a k cap xs _ HS7.out hb (by omega)).mono ?_
      rintro e we ⟨v8, rfl, ho8, hk8, hf8⟩
      have ho7 := HO7.out.kept hk8 (fun _ _ => id)
      obtain ⟨a7, c7, rfl, s7, -, hm7, -⟩ := ho7.shape
      obtain ⟨a8, c8, rfl, s8, -⟩ := ho8.shape
      have hkw8 := hkw7.then hk8
      have hL : (allL (nats xs)).length ≤ 9223372036854775807 := by
        have h1 := run_len s0 (nats xs)
        have h2 := fin_len (run s0 (nats xs)).1
        have h3 : (nats xs).length = xs.length := by simp [nats]
        unfold allL
        rw [List.length_append]
        omega
      go_wp2_with fail
      refine (same_any a7 a8 _ c7 c8 _ _ s7 s8 (allL_chs hb) hL).mono ?_
      rintro e wf ⟨rfl, hm⟩
      go_wp2
      go_ret
      exact ⟨rfl, hkw8.then (drew_kept hm)⟩
set_option maxRecDepth 100000 in
set_option maxHeartbeats 1000000 in
theorem bytes_early (a ea : Option Addr) (len cap el ec : Nat) (w : World) (h : 2048 < len ∨ (len ≤ 2048 ∧ 100 < el)) :
    Calls Try.prog 3 #[.slice a len cap, .slice ea el ec] w fun e w' => e = .returned (.bool true) ∧ Kept (fun _ => False) w w' := by
  rcases h with h | ⟨h1, h⟩
  · have g1 : decide (2048 < (len : Int)) = true := decide_eq_true (by omega)
    go_enter Try.func3, Try.ntmps3
    go_wp2_with fail
    refine (known_any _).mono ?_; rintro e w0 ⟨rfl, hk0⟩
    go_wp2
    go_ret
    exact ⟨rfl, hk0⟩
  · have g1 : decide (2048 < (len : Int)) = false := decide_eq_false (by omega)
    have g2 : decide (100 < (el : Int)) = true := decide_eq_true (by omega)
    go_enter Try.func3, Try.ntmps3
    go_wp2_with fail
    refine (known_any _).mono ?_; rintro e w0 ⟨rfl, hk0⟩
    go_wp2
    go_ret
    exact ⟨rfl, hk0⟩
theorem law_bytes {a ea : Option Addr} {len cap el ec : Nat} {zs es : List Int} {w : World} (f0 : IsRow .u8 w a len cap zs) (f1 : IsRow .i64 w ea el ec es) :
    Calls Try.prog 3 #[.slice a len cap, .slice ea el ec] w fun e w' => e = .returned (.bool true) ∧ Below w.heap.size w w' := by
  refine Calls.mono (R := fun e w' => e = .returned (.bool true) ∧ Kept (fun _ => False) w w') ?_ fun _ _ h => ⟨h.1, h.2.below⟩
  obtain ⟨s1, -, -, b1, -, -⟩ := f0.slAt
  obtain ⟨s2, -, -, -, -, -⟩ := f1.slAt
  by_cases h : len ≤ 2048 ∧ el ≤ 100
  · exact bytes_go a ea len cap el ec _ _ w s1 (byt_of_wf b1) h.1 s2 h.2
  · exact bytes_early a ea len cap el ec w (by omega)
end Go.Proofs.Ytjmcogpplblamaa
