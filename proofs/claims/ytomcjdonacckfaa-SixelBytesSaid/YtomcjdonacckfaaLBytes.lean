/- The program's decoder and the document's in step: the law SixelBytes. -/
import Derived.Test.YtomcjdonacckfaaTwinP
import Derived.Deep.DeepCutAuto
import Derived.BigQuiet
import Derived.Deep.RegionWith
namespace Go.Proofs.Ytomcjdonacckfaa
open Go.RowKit
set_option linter.unusedVariables false
set_option linter.unusedSimpArgs false
theorem Twin.sizeA {Z : Nat → Prop} {w : World} {a b : Nat} {d e : Dec} (h : Twin Z w a d b e) {dw dh : Int} (hw : d.w = dw) (hh : d.h = dh) : Calls Try.prog 25 #[.pointer (some ⟨a, 0, none⟩)] w fun r w' => r = .returned (.tuple #[.int .i64 dw, .int .i64 dh]) ∧ Twin Z w' a d b e ∧ Kept (fun _ => False) w w' := by
  have h0 := h
  obtain ⟨G, H, h1, -⟩ := h0
  refine (psize_any G d w a h1).mono ?_
  rintro r w' ⟨hr, hk⟩
  exact ⟨by rw [hr, hw, hh], h.up hk, hk⟩
theorem Twin.sizeB {Z : Nat → Prop} {w : World} {a b : Nat} {d e : Dec} (h : Twin Z w a d b e) {dw dh : Int} (hw : e.w = dw) (hh : e.h = dh) : Calls Try.prog 26 #[.pointer (some ⟨b, 0, none⟩)] w fun r w' => r = .returned (.tuple #[.int .i64 dw, .int .i64 dh]) ∧ Twin Z w' a d b e ∧ Kept (fun _ => False) w w' := by
  have h0 := h
  obtain ⟨G, H, -, h1, -⟩ := h0
  refine (R.size_any H e w b h1).mono ?_
  rintro r w' ⟨hr, hk⟩
  exact ⟨by rw [hr, hw, hh], h.up hk, hk⟩
theorem Twin.bytesA {Z : Nat → Prop} {w : World} {a b : Nat} {d e : Dec} (h : Twin Z w a d b e) {p4 q : Int} (hp : IntKind.i64.wrap (4 * d.w) = p4) (hq : IntKind.i64.wrap (p4 * d.h) = q) : Calls Try.prog 27 #[.pointer (some ⟨a, 0, none⟩)] w fun r w' => r = .returned (.int .i64 q) ∧ Twin Z w' a d b e ∧ Kept (fun _ => False) w w' := by
  have h0 := h
  obtain ⟨G, H, h1, -⟩ := h0
  refine (bytes_any G d w a h1).mono ?_
  rintro r w' ⟨hr, hk⟩
  exact ⟨by rw [hr, hp, hq], h.up hk, hk⟩
theorem Twin.regA {Z : Nat → Prop} {w : World} {a b : Nat} {d e : Dec} (h : Twin Z w a d b e) {j : Nat} (hj : j < 9223372036854775808) {c0 c1 c2 : Int} (hc : d.reg j = [c0, c1, c2]) : Calls Try.prog 22 #[.pointer (some ⟨a, 0, none⟩), .int .i64 j] w fun r w' => r = .returned (.tuple #[.agg #[.int .u8 c0, .int .u8 c1, .int .u8 c2], .bool (decide (j < 256))]) ∧ Twin Z w' a d b e ∧ Kept (fun _ => False) w w' := by
  have h0 := h
  obtain ⟨G, H, h1, -⟩ := h0
  refine (register_any G d w a j h1 hj).mono ?_
  rintro r w' ⟨hr, hk⟩
  exact ⟨by rw [hr, hc]; rfl, h.up hk, hk⟩
theorem play_A {W : World} {m : Nat} {D D' : Dec} (hok : DecOk m D) (b off n cap : Nat) (bs : List Nat) (hs : SlAt .u8 W (some ⟨b, off, none⟩) n (ints bs)) (hby : ∀ c ∈ bs, c < 256) (hl : n ≤ 65536) (hb : b < W.heap.size) {rv : Int} (hD : D.feed bs = D') (hrv : (if D'.full = true then (6 : Int) else 0) = rv) (a1 a2 : Nat) (E : Dec) (V : World) (ht : Twin (fun i => W.heap.size ≤ i) V a1 D a2 E) (hk : Kept (fun _ => False) W V) :
    Calls Try.prog 18 #[.pointer (some ⟨a1, 0, none⟩), .slice (some ⟨b, off, none⟩) n cap] V fun e w' => e = .returned (.int .i64 rv) ∧ Twin (fun i => W.heap.size ≤ i) w' a1 D' a2 E ∧ Kept (fun _ => False) W w' := by
  have hz := hk.size
  refine (ht.writeA hok (some ⟨b, off, none⟩) n cap bs (hs.kept hk (fun _ _ _ _ => id)) hby hl (fun b' off' _ h => by cases h; exact ⟨by omega, fun h9 => by have h8 : W.heap.size ≤ b := h9; omega⟩)).mono ?_
  rintro e w' ⟨he, h1, h2⟩
  subst hD hrv
  exact ⟨he, h1.mono (fun i _ hi => by rcases hi with h | h; exact h; omega), hk.trans (h2.mono fun i _ hi => Or.inr hi)⟩
theorem play_B {W : World} {m : Nat} {D D' : Dec} (hok : DecOk m D) (b off n cap : Nat) (bs : List Nat) (hs : SlAt .u8 W (some ⟨b, off, none⟩) n (ints bs)) (hby : ∀ c ∈ bs, c < 256) (hl : n ≤ 65536) (hb : b < W.heap.size) {rv : Int} (hD : D.feed bs = D') (hrv : (if D'.full = true then (6 : Int) else 0) = rv) (a1 a2 : Nat) (E : Dec) (V : World) (ht : Twin (fun i => W.heap.size ≤ i) V a1 E a2 D) (hk : Kept (fun _ => False) W V) :
    Calls Try.prog 24 #[.pointer (some ⟨a2, 0, none⟩), .slice (some ⟨b, off, none⟩) n cap] V fun e w' => e = .returned (.int .i64 rv) ∧ Twin (fun i => W.heap.size ≤ i) w' a1 E a2 D' ∧ Kept (fun _ => False) W w' := by
  have hz := hk.size
  refine (ht.writeB hok (some ⟨b, off, none⟩) n cap bs (hs.kept hk (fun _ _ _ _ => id)) hby hl (fun b' off' _ h => by cases h; exact ⟨by omega, fun h9 => by have h8 : W.heap.size ≤ b := h9; omega⟩)).mono ?_
  rintro e w' ⟨he, h1, h2⟩
  subst hD hrv
  exact ⟨he, h1.mono (fun i _ hi => by rcases hi with h | h; exact h; omega), hk.trans (h2.mono fun i _ hi => Or.inr hi)⟩
theorem reg_cases (d : Dec) (j : Nat) : ∃ c0 c1 c2 : Int, d.reg j = [c0, c1, c2] ∧ (j < 256 → d.l.getD (3 * j) 0 = c0 ∧ d.l.getD (3 * j + 1) 0 = c1 ∧ d.l.getD (3 * j + 2) 0 = c2) := by
  by_cases h : j < 256
  · exact ⟨_, _, _, by unfold Dec.reg; rw [if_pos h], fun _ => ⟨rfl, rfl, rfl⟩⟩
  · exact ⟨0, 0, 0, by unfold Dec.reg; rw [if_neg h], fun h9 => absurd h9 h⟩
theorem SlAt.blt {k : IntKind} {w : World} {a : Option Addr} {len : Nat} {xs : List Int} (h : SlAt k w a len xs) {b off : Nat} (h0 : 0 < len) (ha : a = some ⟨b, off, none⟩) : b < w.heap.size := by
  obtain ⟨h1, h2⟩ := h
  obtain ⟨b', off', hb, hc⟩ := h2.resolve_left (by omega)
  rw [ha] at hb
  cases hb
  exact lt_of_cell (hc 0 h0)
set_option maxRecDepth 100000 in
set_option maxHeartbeats 16000000 in
theorem bytes_go (clear : Bool) (MI : Int) (a0 : Option Addr) (len cap : Nat) (bs : List Nat) (q0 : Option Addr) (len1 cap1 : Nat) (cs : List Int) (W : World) (hs : SlAt .u8 W a0 len (ints bs)) (hby : ∀ c ∈ bs, c < 256) (hlc : len ≤ cap) (hcm : cap ≤ 9223372036854775807) (hbl : ∀ b off, 0 < len → a0 = some ⟨b, off, none⟩ → b < W.heap.size)
    (hs1 : SlAt .i64 W q0 len1 cs) (hcr : ∀ n ∈ cs, -9223372036854775808 ≤ n ∧ n ≤ 9223372036854775807) (hbl1 : ∀ b off, 0 < len1 → q0 = some ⟨b, off, none⟩ → b < W.heap.size) :
    Calls Try.prog 9 #[.bool clear, .int .i64 MI, .slice a0 len cap, .slice q0 len1 cap1] W fun e w' => e = .returned (.bool true) ∧ Below W.heap.size W w' := by
  have hbsl : bs.length = len := by have := hs.1; simpa [ints] using this
  have hcsl := hs1.1
  go_enter Try.func9, Try.ntmps9
  go_wp2_with fail
  refine (known_any W).mono ?_
  rintro e w1 ⟨rfl, hk1⟩
  have HK1 := Lib.hid hk1
  clear hk1
  by_cases c1 : 2048 < len
  · have g1 : decide ((2048 : Int) < (len : Int)) = true := decide_eq_true (by omega)
    have g1' : decide (2048 < len) = true := decide_eq_true c1
    go_wp2
    refine bodyPost_ret (v := .bool true) (by simp [results, Try.results9, go_sem]) rfl ⟨rfl, HK1.out.below⟩
  have g1 : decide ((2048 : Int) < (len : Int)) = false := decide_eq_false (by omega)
  have g1' : decide (2048 < len) = false := decide_eq_false c1
  by_cases c2 : 32768 < MI
  · have g2 : decide ((32768 : Int) < MI) = true := decide_eq_true c2
    by_cases c3 : MI ≤ 1073741824
    · have g3 : decide (MI ≤ 1073741824) = true := decide_eq_true c3
      clear c2 c3
      go_wp2
      refine bodyPost_ret (v := .bool true) (by simp [results, Try.results9, go_sem]) rfl ⟨rfl, HK1.out.below⟩
    have g3 : decide (MI ≤ 1073741824) = false := decide_eq_false c3
    by_cases c4 : 300 < len1
    · have g4 : decide ((300 : Int) < (len1 : Int)) = true := decide_eq_true (by omega)
      have g4' : decide (300 < len1) = true := decide_eq_true c4
      clear c2 c3
      go_wp2
      refine bodyPost_ret (v := .bool true) (by simp [results, Try.results9, go_sem]) rfl ⟨rfl, HK1.out.below⟩
    have g4 : decide ((300 : Int) < (len1 : Int)) = false := decide_eq_false (by omega)
    have g4' : decide (300 < len1) = false := decide_eq_false c4
    have HB := Lib.hid (show MI < 0 ∨ 1073741824 < MI by omega)
    clear c2 c3
    go_wp2_with fail
    refine (new_bad clear MI w1 HB.out).mono ?_
    rintro e w2 ⟨rfl, hk2⟩
    have HK2 := Lib.hid (HK1.out.then hk2)
    clear hk2
    go_wp2_with fail
    refine (R.new_bad clear MI w2 HB.out).mono ?_
    rintro e w3 ⟨rfl, hk3⟩
    have HK3 := Lib.hid (HK2.out.then hk3)
    clear hk3
    go_wp2
    refine bodyPost_ret (v := .bool true) (by simp [results, Try.results9, go_sem]) rfl ⟨rfl, HK3.out.below⟩
  have g2 : decide ((32768 : Int) < MI) = false := decide_eq_false c2
  by_cases c4 : 300 < len1
  · have g4 : decide ((300 : Int) < (len1 : Int)) = true := decide_eq_true (by omega)
    have g4' : decide (300 < len1) = true := decide_eq_true c4
    clear c2
    go_wp2
    refine bodyPost_ret (v := .bool true) (by simp [results, Try.results9, go_sem]) rfl ⟨rfl, HK1.out.below⟩
  have g4 : decide ((300 : Int) < (len1 : Int)) = false := decide_eq_false (by omega)
  have g4' : decide (300 < len1) = false := decide_eq_false c4
  by_cases c5 : MI < 0
  · have HB := Lib.hid (show MI < 0 ∨ 1073741824 < MI by omega)
    clear c2 c5
    go_wp2_with fail
    refine (new_bad clear MI w1 HB.out).mono ?_
    rintro e w2 ⟨rfl, hk2⟩
    have HK2 := Lib.hid (HK1.out.then hk2)
    clear hk2
    go_wp2_with fail
    refine (R.new_bad clear MI w2 HB.out).mono ?_
    rintro e w3 ⟨rfl, hk3⟩
    have HK3 := Lib.hid (HK2.out.then hk3)
    clear hk3
    go_wp2
    refine bodyPost_ret (v := .bool true) (by simp [results, Try.results9, go_sem]) rfl ⟨rfl, HK3.out.below⟩
  obtain ⟨m, rfl⟩ : ∃ m : Nat, MI = (m : Int) := ⟨MI.toNat, by omega⟩
  have HM := Lib.hid (show m ≤ 32768 by omega)
  clear c2 c5
  have H := Lib.hid (And.intro hs (And.intro hby (And.intro hbl (And.intro hs1 (And.intro hcr (And.intro hbl1 (And.intro hbsl (And.intro hcsl (And.intro hlc hcm)))))))))
  clear hs hby hbl hs1 hcr hbl1 hbsl hcsl
  go_wp2_with fail
  refine (new_any clear m w1 (by have := HM.out; omega)).mono ?_
  rintro e w2 ⟨rfl, hd2, hk2⟩
  obtain ⟨a1, ha1⟩ : ∃ a, w1.heap.size = a := ⟨_, rfl⟩
  rw [ha1] at hd2 ⊢
  have HD2 := Lib.hid (And.intro hd2 (And.intro ha1 (HK1.out.then hk2)))
  clear hd2 hk2
  go_wp2_with fail
  refine (R.new_any clear m w2 (by have := HM.out; omega)).mono ?_
  rintro e w3 ⟨rfl, hd3, hk3⟩
  obtain ⟨a2, ha2⟩ : ∃ a, w2.heap.size = a := ⟨_, rfl⟩
  rw [ha2] at hd3 ⊢
  have hW1 := HK1.out.size
  have ha12 : a1 < a2 := by have := HD2.out.1.lt a1 rfl; omega
  have HT0 := Lib.hid (show Twin (fun i => W.heap.size ≤ i) w3 a1 (Dec.new clear m 256) a2 (Dec.new clear m 256) from ⟨fun i => i = a1, fun i => i = a2, HD2.out.1.kept hk3 (fun _ _ => id), hd3, fun i hi h => by omega, fun i hi => by have := HD2.out.2.1; omega, fun i hi => by have := HD2.out.2.1; omega⟩)
  have HK3 := Lib.hid (HD2.out.2.2.then hk3)
  have HNO := Lib.hid (new_ok clear m (by have := HM.out; omega))
  obtain ⟨D0, hD0⟩ : ∃ D, Dec.new clear m 256 = D := ⟨_, rfl⟩
  rw [hD0] at HT0 HNO
  clear hd3 hk3 ha12 hW1 ha1 ha2 hD0 HD2
  go_wp2
  go_loopg [13, 14, 15, 16, 17, 18, 19, 20, 21] (len1 + len) (fun gg bv iv _ _ _ _ _ _ _ wr => ∃ (k j : Nat) (a' : Option Addr) (c' : Nat), k ≤ len ∧ j ≤ len1 + k ∧ (len1 - j) + (len - k) ≤ gg ∧ bv = .slice a' (len - k) c' ∧ iv = .int .i64 (j : Int) ∧ SlAt .u8 W a' (len - k) (ints (bs.drop k)) ∧ len - k ≤ c' ∧ c' ≤ 9223372036854775807 ∧ (∀ b off, 0 < len - k → a' = some ⟨b, off, none⟩ → b < W.heap.size) ∧ Twin (fun i => W.heap.size ≤ i) wr a1 (D0.feed (bs.take k)) a2 (D0.feed (bs.take k)) ∧ Kept (fun _ => False) W wr)
  case atStart => exact ⟨0, 0, a0, cap, by omega, by omega, by omega, rfl, rfl, H.out.1, H.out.2.2.2.2.2.2.2.2.1, H.out.2.2.2.2.2.2.2.2.2, H.out.2.2.1, HT0.out, HK3.out⟩
  case round =>
    obtain ⟨k, j, a', c', hkl, hj, hgg, rfl, rfl, hsr, hrc, hcc, hloc, ht, hkw⟩ := hrel
    have HT := Lib.hid ht
    have HKW := Lib.hid hkw
    obtain ⟨R, hR⟩ : ∃ R, len - k = R := ⟨_, rfl⟩
    rw [hR] at hsr hrc hloc hgg ⊢
    have hkR : len = k + R := by omega
    have HLR := Lib.hid (And.intro hkR (And.intro hj hgg))
    have hjb : j < 4096 := by omega
    have hRb : R ≤ 2048 := by omega
    clear ht hkw hR hkR hj hgg hkl
    by_cases hR0 : 0 < R
    · have gR : decide (0 < R) = true := decide_eq_true hR0
      have gR' : decide ((0 : Int) < (R : Int)) = true := decide_eq_true (by omega)
      obtain ⟨b, off, rfl, hcell⟩ := hsr.2.resolve_left (by omega)
      have HLT := Lib.hid (hloc b off (by omega) rfl)
      have wj : IntKind.i64.wrap ((j : Int) + 1) = (j : Int) + 1 := IntWalk.i64_in _ (by omega)
      have HSR := Lib.hid hsr
      clear hsr hcell hloc
      go_upto_if 79 with fail
      go_cut [15] (fun nv wx => ∃ n : Nat, nv = .int .i64 (n : Int) ∧ n ≤ R ∧ (len1 ≤ j → n = 1) ∧ Twin (fun i => W.heap.size ≤ i) wx a1 (D0.feed (bs.take k)) a2 (D0.feed (bs.take k)) ∧ Kept (fun _ => False) W wx)
      case first =>
        have wR : IntKind.i64.wrap ((R : Int) + 1) = (R : Int) + 1 := IntWalk.i64_in _ (by omega)
        by_cases hj1 : j < len1
        · have gj : decide (j < len1) = true := decide_eq_true hj1
          obtain ⟨b1, off1, rfl, hc1⟩ := H.out.2.2.2.1.2.resolve_left (by omega)
          have hcj := HKW.out.cell (hc1 j hj1) id
          obtain ⟨c, hc⟩ : ∃ c, cs.getD j 0 = c := ⟨_, rfl⟩
          rw [hc] at hcj
          have hcb := H.out.2.2.2.2.1 c (by rw [← hc]; exact getD_mem' (by have := H.out.2.2.2.2.2.2.2.1; omega))
          obtain ⟨n, hn1, hcase⟩ := rem_cases c ((R : Int) + 1) (by omega) (by omega)
          have hnR : n ≤ R := by omega
          have qz : ¬ ((R : Int) + 1 = 0) := by omega
          clear hn1 hc1 hc
          rcases hcase with ⟨hc0, hn'⟩ | ⟨hc0, hn0, hn'⟩ | ⟨hc0, hn'⟩
          · have gn : decide ((n : Int) < 0) = false := decide_eq_false (by omega)
            have hn'' : c % ((R : Int) + 1) = (n : Int) := by rw [← hn', Int.tmod_eq_emod_of_nonneg hc0]
            go_wp2
            go_meet
            exact ⟨n, rfl, hnR, fun h => absurd h (by omega), HT.out, HKW.out⟩
          · have gn : decide (-(n : Int) < 0) = true := decide_eq_true (by omega)
            have wn : IntKind.i64.wrap (n : Int) = (n : Int) := IntWalk.i64_in _ (by omega)
            have wn' : IntKind.i64.wrap (0 - -(n : Int)) = (n : Int) := by rw [show (0 : Int) - -(n : Int) = (n : Int) by omega]; exact wn
            go_wp2
            go_meet
            exact ⟨n, rfl, hnR, fun h => absurd h (by omega), HT.out, HKW.out⟩
          · have gn : decide ((n : Int) < 0) = false := decide_eq_false (by omega)
            go_wp2
            go_meet
            exact ⟨n, rfl, hnR, fun h => absurd h (by omega), HT.out, HKW.out⟩
        · have gj : decide (j < len1) = false := decide_eq_false hj1
          go_wp2
          go_meet
          exact ⟨1, rfl, by omega, fun _ => rfl, HT.out, HKW.out⟩
      case rest =>
        obtain ⟨n, rfl, hnR, hn1, ht, hkw⟩ := hcut
        have q6 : ¬ (n : Int) < 0 := by omega
        have q7 : n ≤ R := hnR
        have q7' : n ≤ c' := by omega
        obtain ⟨D, hD⟩ : ∃ D, D0.feed (bs.take k) = D := ⟨_, rfl⟩
        obtain ⟨D', hD'⟩ : ∃ D, D0.feed (bs.take (k + n)) = D := ⟨_, rfl⟩
        have hDD : D.feed ((bs.drop k).take n) = D' := by rw [← hD, ← hD', ← feed_append, ← List.take_add]
        obtain ⟨rv, hrv⟩ : ∃ rv : Int, (if D'.full = true then (6 : Int) else 0) = rv := ⟨_, rfl⟩
        have hokD : DecOk m D := by rw [← hD]; exact feed_ok HNO.out _
        have HOK := Lib.hid (show DecOk m D' by rw [← hD']; exact feed_ok HNO.out _)
        have hsn := (slAt_part HSR.out n hnR).1
        have hbyn : ∀ c ∈ (bs.drop k).take n, c < 256 := fun c hc => H.out.2.1 c (List.mem_of_mem_drop (List.mem_of_mem_take hc))
        rw [hD] at ht
        have HA := Lib.hid (play_A hokD b off n c' _ hsn hbyn (by omega) HLT.out hDD hrv a1 a2 D)
        have HB := Lib.hid (play_B hokD b off n c' _ hsn hbyn (by omega) HLT.out hDD hrv a1 a2 D')
        have HPT := Lib.hid (slAt_part HSR.out n hnR).2
        have HD' := Lib.hid hD'
        have HN1 := Lib.hid hn1
        have HTc := Lib.hid (ht.up ((Kept.refl (fun _ => False) wc).drew))
        have HKc := Lib.hid (hkw.drew)
        clear HT HKW hD hD' hDD hrv hokD hsn hbyn ht hkw hn1
        go_upto_region 20 with fail
        go_cut [102] (fun v wx => v = .bool false ∧ Twin (fun i => W.heap.size ≤ i) wx a1 D' a2 D' ∧ Kept (fun _ => False) W wx)
        case first =>
          go_region_with (first
            | (go_at_call 18; refine (HA.out _ ?_ ?_).mono ?_; exact HTc.out; exact HKc.out; rintro e w5 ⟨rfl, ht5, hk5⟩; have HT5 := Lib.hid ht5; have HK5 := Lib.hid hk5; clear ht5 hk5)
            | (go_at_call 24; refine (HB.out _ ?_ ?_).mono ?_; exact HT5.out; exact HK5.out; rintro e w6 ⟨rfl, ht6, hk6⟩; have HT6 := Lib.hid ht6; have HK6 := Lib.hid hk6; clear ht6 hk6))
          all_goals
            go_wp2_with fail
            go_meet
            exact ⟨by simp, HT6.out, HK6.out⟩
        case rest =>
          obtain ⟨rfl, ht, hkw⟩ := hcut
          have HT := Lib.hid ht
          have HKW := Lib.hid hkw
          clear ht hkw HTc HKc HA HB
          go_upto_region 22 with fail
          go_cut [13] (fun v wx => ∃ (a'' : Option Addr) (R' c'' : Nat), v = .slice a'' R' c'' ∧ R' = R - n ∧ SlAt .u8 W a'' R' (ints (bs.drop (k + n))) ∧ R' ≤ c'' ∧ c'' ≤ 9223372036854775807 ∧ (∀ b off, 0 < R' → a'' = some ⟨b, off, none⟩ → b < W.heap.size) ∧ Twin (fun i => W.heap.size ≤ i) wx a1 D' a2 D' ∧ Kept (fun _ => False) W wx)
          case first =>
            have hpt := HPT.out
            rw [List.drop_drop] at hpt
            by_cases hcn : c' = n
            · subst hcn
              obtain rfl : c' = R := by omega
              go_wp2_with fail
              go_meet
              exact ⟨_, _, _, rfl, by omega, ⟨by have := hpt.1; simp [ints] at this ⊢; omega, .inl (by omega)⟩, by omega, by omega, fun b' off' h0 h => absurd h0 (by omega), HT.out, HKW.out⟩
            · have q8 : ¬ c' = n := hcn
              go_wp2_with fail
              go_meet
              exact ⟨_, _, _, rfl, rfl, hpt, by omega, by omega, fun b' off' h0 h => by cases h; exact HLT.out, HT.out, HKW.out⟩
          case rest =>
            obtain ⟨a'', R', c'', rfl, hR', hs', hc1', hc2', hloc', ht, hkw⟩ := hcut
            have HT := Lib.hid ht
            have HKW := Lib.hid hkw
            have HS' := Lib.hid (And.intro hR' (And.intro hs' (And.intro hc1' (And.intro hc2' hloc'))))
            clear ht hkw hs' hc1' hc2' hloc' hR' HPT
            obtain ⟨dw, hdw⟩ : ∃ x, D'.w = x := ⟨_, rfl⟩
            obtain ⟨dh, hdh⟩ : ∃ x, D'.h = x := ⟨_, rfl⟩
            have hb3 := bytes_is HOK.out
            rw [hdw, hdh] at hb3
            obtain ⟨p4, hp4⟩ : ∃ x, 4 * dw = x := ⟨_, rfl⟩
            rw [hp4] at hb3
            obtain ⟨q, hq⟩ : ∃ x, p4 * dh = x := ⟨_, rfl⟩
            rw [hq] at hb3
            have w4 : IntKind.i64.wrap (4 * dw) = p4 := by rw [hp4]; exact hb3.1
            have w5 : IntKind.i64.wrap (p4 * dh) = q := by rw [hq]; exact hb3.2.1
            have w6 : IntKind.i64.wrap (q + 8192) = q + 8192 := IntWalk.i64_in _ (by omega)
            have g6 : decide (q + 8192 < q) = false := decide_eq_false (by omega)
            have g7 : decide (q < q) = false := decide_eq_false (by omega)
            have HW4 := Lib.hid (show IntKind.i64.wrap (4 * D'.w) = p4 by rw [hdw]; exact w4)
            have HW5 := Lib.hid (show IntKind.i64.wrap (p4 * D'.h) = q by rw [hdh]; exact w5)
            have HDW := Lib.hid hdw
            have HDH := Lib.hid hdh
            clear hb3 hp4 hq hdw hdh
            go_wp2_with fail
            refine (HT.out.sizeA HDW.out HDH.out).mono ?_
            rintro e u1 ⟨rfl, ht1, hk1⟩
            have HT1 := Lib.hid ht1
            have HK1' := Lib.hid (HKW.out.then hk1)
            clear ht1 hk1 HT HKW
            go_wp2_with fail
            refine (HT1.out.sizeB HDW.out HDH.out).mono ?_
            rintro e u2 ⟨rfl, ht2, hk2⟩
            have HT2 := Lib.hid ht2
            have HK2' := Lib.hid (HK1'.out.then hk2)
            clear ht2 hk2 HT1 HK1' HDW HDH
            go_upto_region 25 with fail
            go_cut [149] (fun v wx => v = .bool false ∧ Twin (fun i => W.heap.size ≤ i) wx a1 D' a2 D' ∧ Kept (fun _ => False) W wx)
            case first =>
              go_wp2_with fail
              refine (HT2.out.bytesA HW4.out HW5.out).mono ?_
              rintro e u3 ⟨rfl, ht3, hk3⟩
              have HT3 := Lib.hid ht3
              have HK3' := Lib.hid (HK2'.out.then hk3)
              obtain ⟨G9, H9, -, ⟨pv, nv, hb9, -⟩, -⟩ := ht3
              obtain ⟨cf, -⟩ := hb9.ffull
              clear hb9 hk3 HT2 HK2'
              cases hfu : D'.full with
              | true =>
                rw [hfu] at cf
                go_wp2_with fail
                go_meet
                exact ⟨by simp, HT3.out, HK3'.out⟩
              | false =>
                rw [hfu] at cf
                go_wp2_with fail
                refine (HT3.out.bytesA HW4.out HW5.out).mono ?_
                rintro e u4 ⟨rfl, ht4, hk4⟩
                have HT4 := Lib.hid ht4
                have HK4' := Lib.hid (HK3'.out.then hk4)
                clear ht4 hk4 cf
                go_wp2_with fail
                go_meet
                exact ⟨by simp, HT4.out, HK4'.out⟩
            case rest =>
              obtain ⟨rfl, ht, hkw⟩ := hcut
              have HT := Lib.hid ht
              have HKW := Lib.hid hkw
              clear ht hkw HT2 HK2' HW4 HW5 w4 w5 w6 g6 g7
              obtain ⟨c0, c1, c2, hcr, hcv⟩ := reg_cases D' j
              go_wp2_with fail
              refine (HT.out.regA (by omega) hcr).mono ?_
              rintro e u5 ⟨rfl, ht5, hk5⟩
              have hka : Kept (fun _ => False) u5 (u5.alloc (.cells #[.int .u8 c0, .int .u8 c1, .int .u8 c2] 23)) := (Kept.refl _ _).alloc _
              have hbk := blk_new u5 (.cells #[.int .u8 c0, .int .u8 c1, .int .u8 c2] 23)
              obtain ⟨U, hU⟩ : ∃ U, u5.alloc (.cells #[.int .u8 c0, .int .u8 c1, .int .u8 c2] 23) = U := ⟨_, rfl⟩
              rw [hU] at hka hbk
              have HT5 := Lib.hid (ht5.up hka)
              have HK5 := Lib.hid ((HKW.out.then hk5).then hka)
              have HBK := Lib.hid hbk
              have HCV := Lib.hid hcv
              clear ht5 hk5 hka hbk hcr hcv HT HKW
              go_upto_region 28 with fail
              go_cut [21, 176] (fun ov v wx => v = .bool false ∧ Twin (fun i => W.heap.size ≤ i) wx a1 D' a2 D' ∧ Kept (fun _ => False) W wx)
              case first =>
                have g9 : decide ((0 : Int) ≤ (j : Int)) = true := decide_eq_true (by omega)
                by_cases h256 : j < 256
                · have gj : decide (j < 256) = true := decide_eq_true h256
                  have gj' : decide ((j : Int) < 256) = true := decide_eq_true (by omega)
                  have kk : (j : Int) < 256 := by omega
                  obtain ⟨hv0, hv1, hv2⟩ := HCV.out h256
                  have ht5 := HT5.out.up ((Kept.refl (fun _ => False) U).drew)
                  obtain ⟨G9, H9, -, ⟨pv, nv, hb9, -⟩, -⟩ := ht5
                  have r0 : U.drew.cell? ⟨a2, 2 + j * 3, none⟩ = some (.int .u8 c0) := by have h9 := (hb9.reg (3 * j) (by omega)).1; rw [hv0] at h9; rw [Nat.mul_comm j 3]; exact h9
                  have r1 : U.drew.cell? ⟨a2, 2 + j * 3 + 1, none⟩ = some (.int .u8 c1) := by have h9 := (hb9.reg (3 * j + 1) (by omega)).1; rw [hv1] at h9; rw [Nat.mul_comm j 3]; exact h9
                  have r2 : U.drew.cell? ⟨a2, 2 + j * 3 + 2, none⟩ = some (.int .u8 c2) := by have h9 := (hb9.reg (3 * j + 2) (by omega)).1; rw [hv2] at h9; rw [Nat.mul_comm j 3]; exact h9
                  obtain ⟨⟨z0, -⟩, ⟨z1, -⟩, z2, -⟩ := blk3 (((Kept.refl (fun _ => False) U).drew).blk HBK.out id)
                  have e1 : ∀ w, (binOp .neq 23 (.agg #[.int .u8 c0, .int .u8 c1, .int .u8 c2]) (.agg #[.int .u8 c0, .int .u8 c1, .int .u8 c2])).run Try.prog w = .ok (.bool false) w := fun w => by rw [run_neTri 23 (by kernel_rfl)]; simp
                  obtain ⟨E1, hE1⟩ : ∃ E, U.drew = E := ⟨_, rfl⟩
                  have hU5 := HT5.out
                  obtain ⟨G8, H8, -, ⟨pv8, nv8, hb8, -⟩, -⟩ := hU5
                  have s0 : U.cell? ⟨a2, 2 + j * 3, none⟩ = some (.int .u8 c0) := by have h9 := (hb8.reg (3 * j) (by omega)).1; rw [hv0] at h9; rw [Nat.mul_comm j 3]; exact h9
                  have s1 : U.cell? ⟨a2, 2 + j * 3 + 1, none⟩ = some (.int .u8 c1) := by have h9 := (hb8.reg (3 * j + 1) (by omega)).1; rw [hv1] at h9; rw [Nat.mul_comm j 3]; exact h9
                  have s2 : U.cell? ⟨a2, 2 + j * 3 + 2, none⟩ = some (.int .u8 c2) := by have h9 := (hb8.reg (3 * j + 2) (by omega)).1; rw [hv2] at h9; rw [Nat.mul_comm j 3]; exact h9
                  obtain ⟨⟨z0', -⟩, ⟨z1', -⟩, z2', -⟩ := blk3 HBK.out
                  have HE := Lib.hid (And.intro (HT5.out.up (Kept.refl (fun _ => False) U).drew) HK5.out.drew)
                  rw [hE1] at r0 r1 r2 z0 z1 z2 HE
                  clear hb9 hb8 hv0 hv1 hv2
                  go_still (by kernel_rfl)
                  try rw [show (World.mk U.heap U.tape (U.drawn + 1) U.os U.output) = E1 from hE1]
                  go_wp2_with fail
                  go_meet
                  exact ⟨by simp, HE.out.1, HE.out.2⟩
                · have gj : decide (j < 256) = false := decide_eq_false h256
                  have gj' : decide ((j : Int) < 256) = false := decide_eq_false (by omega)
                  obtain ⟨E1, hE1⟩ : ∃ E, U.drew = E := ⟨_, rfl⟩
                  have HE := Lib.hid (And.intro (HT5.out.up (Kept.refl (fun _ => False) U).drew) HK5.out.drew)
                  rw [hE1] at HE
                  clear h256
                  refine wp_region_still_lit (by kernel_rfl) (by kernel_rfl) ?_
                  refine wpStill_step (fun K hK => ?_)
                  go_simp
                  repeat (generalize hfr : Act.mk _ _ = fr; refine hK _ ?_; clear hK K; refine wpStill_step (fun K hK => ?_); subst hfr; go_simp)
                  generalize hfr : Act.mk _ _ = fr
                  refine hK _ ?_
                  clear hK K
                  refine wpStill_nil ?_
                  subst hfr
                  try rw [show (World.mk U.heap U.tape (U.drawn + 1) U.os U.output) = E1 from hE1]
                  go_wp2_with fail
                  go_meet
                  exact ⟨by simp, HE.out.1, HE.out.2⟩
              case rest =>
                obtain ⟨rfl, ht, hkw⟩ := hcut
                have HT := Lib.hid ht
                have HKW := Lib.hid hkw
                clear ht hkw HT5 HK5 HBK HCV
                go_wp2
                go_roundg (gk - 1)
                case rel => exact ⟨k + n, j + 1, a'', c'', by have := HLR.out; omega, by have := HLR.out; by_cases hjj : len1 ≤ j; (have := HN1.out hjj; omega); omega, by have := HLR.out; by_cases hjj : len1 ≤ j; (have := HN1.out hjj; omega); omega, by rw [show len - (k + n) = R' by have := HLR.out; have := HS'.out.1; omega], by simp, by rw [show len - (k + n) = R' by have := HLR.out; have := HS'.out.1; omega]; exact HS'.out.2.1, by rw [show len - (k + n) = R' by have := HLR.out; have := HS'.out.1; omega]; exact HS'.out.2.2.1, HS'.out.2.2.2.1, by rw [show len - (k + n) = R' by have := HLR.out; have := HS'.out.1; omega]; exact HS'.out.2.2.2.2, by rw [HD'.out]; exact HT.out, HKW.out⟩
                case measure => have := HLR.out; omega
    · have gR : decide (0 < R) = false := decide_eq_false hR0
      have gR' : decide ((0 : Int) < (R : Int)) = false := decide_eq_false (by omega)
      obtain ⟨D, hD⟩ : ∃ D, D0.feed (bs.take k) = D := ⟨_, rfl⟩
      have HOK := Lib.hid (show DecOk m D by rw [← hD]; exact feed_ok HNO.out _)
      rw [hD] at HT
      obtain ⟨mw, hmw⟩ : ∃ m, D.fin.w = m := ⟨_, rfl⟩
      obtain ⟨mh, hmh⟩ : ∃ m, D.fin.h = m := ⟨_, rfl⟩
      obtain ⟨me, hme⟩ : ∃ m, D.fin.e = m := ⟨_, rfl⟩
      obtain ⟨mp, hmp⟩ : ∃ m, D.fin.p = m := ⟨_, rfl⟩
      obtain ⟨DF, hDF⟩ : ∃ m, D.fin.d = m := ⟨_, rfl⟩
      have hff := fin_fin D
      have HOF := Lib.hid (fin_ok HOK.out)
      rw [hDF] at hff HOF
      obtain ⟨xw, hxw⟩ : ∃ m, DF.fin.w = m := ⟨_, rfl⟩
      obtain ⟨xh, hxh⟩ : ∃ m, DF.fin.h = m := ⟨_, rfl⟩
      obtain ⟨xe, hxe⟩ : ∃ m, DF.fin.e = m := ⟨_, rfl⟩
      rw [hxe] at hff
      obtain ⟨hxp, hx67⟩ := hff
      have gxe : (xe != 0) = true := by rcases hx67 with h | h <;> rw [h] <;> rfl
      have HFA := Lib.hid (HT.out.finA HOK.out)
      rw [hmw, hmh, hme, hmp, hDF] at HFA
      clear hD hsr hloc hx67 hrc hcc
      go_wp2_with fail
      refine HFA.out.mono ?_
      rintro e w5 ⟨s1, n1, c1', rfl, hs5, -, ht5, hk5, hs5b⟩
      obtain ⟨W6, hW6⟩ : ∃ W', w5.alloc (.cells #[.int .i64 mw, .int .i64 mh, .slice s1 n1 c1'] 38) = W' := ⟨_, rfl⟩
      have hk56 : Kept (fun _ => False) w5 W6 := by rw [← hW6]; exact (Kept.refl _ _).alloc _
      have hb6 : W6.heap[w5.heap.size]? = some (.cells #[.int .i64 mw, .int .i64 mh, .slice s1 n1 c1'] 38 (0, 0)) := by rw [← hW6]; exact blk_new w5 _
      have hz6 : W6.heap.size = w5.heap.size + 1 := by rw [← hW6]; simp
      have HS5 := Lib.hid hs5
      have H6 := Lib.hid (And.intro (hs5.kept hk56 (fun _ _ _ _ => id)) (And.intro ((ht5.mono (Z' := fun i => (W.heap.size ≤ i ∧ i < w5.heap.size) ∧ ∀ off, s1 ≠ some ⟨i, off, none⟩) (fun i hi h => ⟨⟨by rcases h.1 with h | h; exact h; have := HKW.out.size; omega, hi⟩, h.2⟩)).up hk56) (And.intro hb6 (And.intro ((HKW.out.trans (hk5.mono fun i _ hi => Or.inr hi)).then hk56) hz6))))
      have HFB := Lib.hid (H6.out.2.1.finB HOK.out)
      rw [hmw, hmh, hme, hmp, hDF] at HFB
      clear hs5 ht5 hk5 hs5b hk56 hb6 hz6 HFA
      go_wp2_with fail
      refine HFB.out.mono ?_
      rintro e w7 ⟨s2, n2, c2', rfl, hs7, -, ht7, hk7, hs7b⟩
      obtain ⟨W8, hW8⟩ : ∃ W', w7.alloc (.cells #[.int .i64 mw, .int .i64 mh, .slice s2 n2 c2'] 61) = W' := ⟨_, rfl⟩
      have hk78 : Kept (fun _ => False) w7 W8 := by rw [← hW8]; exact (Kept.refl _ _).alloc _
      have hb8 : W8.heap[w7.heap.size]? = some (.cells #[.int .i64 mw, .int .i64 mh, .slice s2 n2 c2'] 61 (0, 0)) := by rw [← hW8]; exact blk_new w7 _
      have hz7 := hk7.size
      have hb6' : W8.heap[w5.heap.size]? = some (.cells #[.int .i64 mw, .int .i64 mh, .slice s1 n1 c1'] 38 (0, 0)) := hk78.blk (hk7.blk H6.out.2.2.1 (fun h => Nat.lt_irrefl _ h.1.2)) id
      have hs1' : SlAt .u8 W8 s1 n1 mp := (H6.out.1.kept hk7 (fun b off _ h h9 => h9.2 off h)).kept hk78 (fun _ _ _ _ => id)
      have hs2' : SlAt .u8 W8 s2 n2 mp := hs7.kept hk78 (fun _ _ _ _ => id)
      have hsz6 := H6.out.2.2.2.2
      have H8 := Lib.hid (And.intro hs1' (And.intro hs2' (And.intro hb6' (And.intro hb8 (And.intro ((ht7.mono (Z' := fun i => ((W.heap.size ≤ i ∧ i < w7.heap.size ∧ i ≠ w5.heap.size) ∧ ∀ off, 0 < n1 → s1 ≠ some ⟨i, off, none⟩) ∧ ∀ off, s2 ≠ some ⟨i, off, none⟩) (fun i hi h => ⟨⟨⟨by rcases h.1 with h | h; exact h.1.1; have := H6.out.2.2.2.1.size; omega, hi, by rcases h.1 with h | h; have := h.1.2; omega; omega⟩, fun off h0 h9 => by rcases h.1 with h | h; exact h.2 off h9; have := SlAt.blt HS5.out h0 h9; omega⟩, h.2⟩)).up hk78) ((H6.out.2.2.2.1.trans (hk7.mono fun i hi h => Or.inr h.1.1)).then hk78))))))
      have HFC := Lib.hid (H8.out.2.2.2.2.1.finA HOF.out)
      rw [hxw, hxh, hxe, hxp] at HFC
      clear hs7 ht7 hk7 hs7b hk78 hb8 hz7 hb6' hs1' hs2' hsz6 HFB
      go_wp2_with fail
      refine HFC.out.mono ?_
      rintro e w9 ⟨s3, n3, c3', rfl, -, hn3, -, hk9, -⟩
      have hn3' : n3 = 0 := hn3
      subst hn3'
      obtain ⟨WA, hWA⟩ : ∃ W', w9.alloc (.cells #[.int .i64 xw, .int .i64 xh, .slice s3 0 c3'] 38) = W' := ⟨_, rfl⟩
      have hk9A : Kept (fun _ => False) w9 WA := by rw [← hWA]; exact (Kept.refl _ _).alloc _
      have hbA : WA.heap[w9.heap.size]? = some (.cells #[.int .i64 xw, .int .i64 xh, .slice s3 0 c3'] 38 (0, 0)) := by rw [← hWA]; exact blk_new w9 _
      have hb5A : WA.heap[w5.heap.size]? = some (.cells #[.int .i64 mw, .int .i64 mh, .slice s1 n1 c1'] 38 (0, 0)) := hk9A.blk (hk9.blk H8.out.2.2.1 (fun h => h.1.1.2.2 rfl)) id
      have hb7A : WA.heap[w7.heap.size]? = some (.cells #[.int .i64 mw, .int .i64 mh, .slice s2 n2 c2'] 61 (0, 0)) := hk9A.blk (hk9.blk H8.out.2.2.2.1 (fun h => Nat.lt_irrefl _ h.1.1.2.1)) id
      have hs1A : SlAt .u8 WA s1 n1 mp := (H8.out.1.kept hk9 (fun b off h0 h h9 => h9.1.2 off h0 h)).kept hk9A (fun _ _ _ _ => id)
      have hs2A : SlAt .u8 WA s2 n2 mp := (H8.out.2.1.kept hk9 (fun b off _ h h9 => h9.2 off h)).kept hk9A (fun _ _ _ _ => id)
      have HKA := Lib.hid ((H8.out.2.2.2.2.2.trans (hk9.mono fun i hi h => Or.inr h.1.1.1)).then hk9A)
      have HSA := Lib.hid (And.intro hs1A hs2A)
      obtain ⟨⟨u0, -⟩, ⟨u1, -⟩, u2, -⟩ := blk3 hb5A
      obtain ⟨⟨u3, -⟩, ⟨u4, -⟩, u5, -⟩ := blk3 hb7A
      have HbA := Lib.hid hbA
      clear hk9 hk9A hbA hb5A hb7A hs1A hs2A hn3 HFC
      go_wp2_with fail
      refine (alike_any mw mh mp s1 s2 n1 n2 c1' c2' _ HSA.out.1 HSA.out.2).mono ?_
      rintro e wB ⟨rfl, hkB⟩
      obtain ⟨-, -, v2, -⟩ := blk3 (hkB.blk HbA.out id)
      have HKB := Lib.hid (HKA.out.then hkB)
      clear hkB u0 u1 u2 u3 u4 u5
      go_wp2
      refine bodyPost_ret (v := .bool true) (by simp [results, Try.results9, go_sem]) rfl ⟨rfl, HKB.out.below⟩
theorem law_bytes {clear : Bool} {MI : Int} {a0 a1 : Option Addr} {l0 c0 l1 c1 : Nat} {z0 z1 : List Int} {w : World} (f0 : IsRow .u8 w a0 l0 c0 z0) (f1 : IsRow .i64 w a1 l1 c1 z1) :
    Calls Try.prog 9 #[.bool clear, .int .i64 MI, .slice a0 l0 c0, .slice a1 l1 c1] w fun e w' => e = .returned (.bool true) ∧ Below w.heap.size w w' := by
  obtain ⟨bs, s0, b0, -, k0, m0, n0, e0⟩ := row_ints f0
  obtain ⟨h1, h2, h3, h4, h5, h6⟩ := f1.slAt
  exact bytes_go clear MI a0 l0 c0 bs a1 l1 c1 (z1.take l1) w s0 b0 k0 m0 n0 h1 (fun n hn => int_of_wf (h4 n hn)) h5
end Go.Proofs.Ytomcjdonacckfaa
