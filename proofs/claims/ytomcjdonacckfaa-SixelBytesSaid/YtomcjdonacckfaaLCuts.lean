/- Two decoders side by side; signs cut anywhere: the law SixelCuts. -/
import Derived.Test.YtomcjdonacckfaaKnown
import Derived.Test.YtomcjdonacckfaaWf
namespace Go.Proofs.Ytomcjdonacckfaa
open Go.RowKit
set_option linter.unusedVariables false
set_option linter.unusedSimpArgs false
/-- Two decoders whose blocks lie in Z, apart. -/
def Two (Z : Nat → Prop) (w : World) (a : Nat) (d : Dec) (b : Nat) (e : Dec) : Prop := ∃ G H, DOwn G w a d ∧ DOwn H w b e ∧ (∀ i, G i → ¬ H i) ∧ (∀ i, G i → Z i) ∧ ∀ i, H i → Z i
theorem Two.swap {Z : Nat → Prop} {w : World} {a b : Nat} {d e : Dec} (h : Two Z w a d b e) : Two Z w b e a d := by
  obtain ⟨G, H, h1, h2, h3, h4, h5⟩ := h
  exact ⟨H, G, h2, h1, fun i hi hg => h3 i hg hi, h5, h4⟩
theorem Two.up {Z : Nat → Prop} {w w' : World} {a b : Nat} {d e : Dec} (h : Two Z w a d b e) (hk : Kept (fun _ => False) w w') : Two Z w' a d b e := by
  obtain ⟨G, H, h1, h2, h3, h4, h5⟩ := h
  exact ⟨G, H, h1.kept hk (fun _ _ => id), h2.kept hk (fun _ _ => id), h3, h4, h5⟩
theorem Two.mono {Z Z' : Nat → Prop} {w : World} {a b : Nat} {d e : Dec} (h : Two Z w a d b e) (hz : ∀ i, i < w.heap.size → Z i → Z' i) : Two Z' w a d b e := by
  obtain ⟨G, H, h1, h2, h3, h4, h5⟩ := h
  exact ⟨G, H, h1, h2, h3, fun i hi => hz i (h1.lt i hi) (h4 i hi), fun i hi => hz i (h2.lt i hi) (h5 i hi)⟩
/-- Bytes written to the first one. -/
theorem Two.write {Z : Nat → Prop} {w : World} {a b : Nat} {d e0 : Dec} (h : Two Z w a d b e0) {M : Nat} (hok : DecOk M d) (a0 : Option Addr) (len cap : Nat) (bs : List Nat) (hs : SlAt .u8 w a0 len (ints bs)) (hby : ∀ c ∈ bs, c < 256) (hl : len ≤ 65536) (hna : ∀ b off, 0 < len → a0 = some ⟨b, off, none⟩ → b < w.heap.size ∧ ¬ Z b) :
    Calls Try.prog 18 #[.pointer (some ⟨a, 0, none⟩), .slice a0 len cap] w fun e w' => ∃ rv : Int, e = .returned (.int .i64 rv) ∧ rv = (if (d.feed bs).full = true then 6 else 0) ∧ Two (fun i => Z i ∨ w.heap.size ≤ i) w' a (d.feed bs) b e0 ∧ DecOk M (d.feed bs) ∧ Kept Z w w' := by
  obtain ⟨G, H, h1, h2, h3, h4, h5⟩ := h
  refine (write_any G d w a M a0 len cap bs h1 hok hs hby hl (fun b off h6 h7 => ⟨fun h9 => (hna b off h6 h7).2 (h4 b h9), (hna b off h6 h7).1⟩)).mono ?_
  rintro e w' ⟨he, G', k3, k4, k5⟩
  refine ⟨_, he, rfl, ⟨G', H, k3, h2.kept k5 (fun i hi hg => h3 i hg hi), fun i hi hh => ?_, fun i hi => ?_, fun i hi => .inl (h5 i hi)⟩, feed_ok hok bs, k5.mono fun i _ hi => h4 i hi⟩
  · rcases k4 i hi with h | h
    · exact h3 i h hh
    · have := h2.lt i hh; omega
  · rcases k4 i hi with h | h
    · exact .inl (h4 i h)
    · exact .inr h
/-- The first one's end. -/
theorem Two.fin {Z : Nat → Prop} {w : World} {a b : Nat} {d e0 : Dec} (h : Two Z w a d b e0) {M : Nat} (hok : DecOk M d) :
    Calls Try.prog 19 #[.pointer (some ⟨a, 0, none⟩)] w fun e w' => ∃ s n cap, e = .returned (.tuple #[.agg #[.int .i64 d.fin.w, .int .i64 d.fin.h, .slice s n cap], .int .i64 d.fin.e]) ∧ SlAt .u8 w' s n d.fin.p ∧ n ≤ cap ∧ cap ≤ maxLen ∧ (s = none → n = 0 ∧ cap = 0) ∧
      Two (fun i => (Z i ∨ w.heap.size ≤ i) ∧ ∀ off, s ≠ some ⟨i, off, none⟩) w' a d.fin.d b e0 ∧ Kept Z w w' ∧ ∀ b off, s = some ⟨b, off, none⟩ → w.heap.size ≤ b := by
  obtain ⟨G, H, h1, h2, h3, h4, h5⟩ := h
  refine (end_any G d w a M h1 hok).mono ?_
  rintro e w' ⟨v, G', he, ho, k3, k4, k5, k6⟩
  obtain ⟨s, cap, rfl, hs, hl, hm, hn, hb⟩ := ho.shape
  refine ⟨s, _, cap, he, hs, hl, hm, hn, ⟨G', H, k3, h2.kept k5 (fun i hi hg => h3 i hg hi), fun i hi hh => ?_, fun i hi => ⟨?_, fun off h => (k6 i (hb i off h)).2 hi⟩, fun i hi => ⟨.inl (h5 i hi), fun off h => ?_⟩⟩, k5.mono fun i _ hi => h4 i hi, fun b off h => (k6 b (hb b off h)).1⟩
  · rcases k4 i hi with h | h
    · exact h3 i h hh
    · have := h2.lt i hh; omega
  · rcases k4 i hi with h | h
    · exact .inl (h4 i h)
    · exact .inr h
  · have := (k6 i (hb i off h)).1
    have := h2.lt i hi
    omega
theorem rem_cases (c m : Int) (hm : 0 < m) (hcl : -9223372036854775808 ≤ c) : ∃ n : Nat, (n : Int) < m ∧ ((0 ≤ c ∧ c.tmod m = (n : Int)) ∨ (c < 0 ∧ 0 < n ∧ c.tmod m = -(n : Int)) ∨ (c < 0 ∧ c.tmod m = (n : Int))) := by
  by_cases hc : 0 ≤ c
  · have h1 := Int.tmod_eq_emod_of_nonneg hc (b := m)
    exact ⟨(c % m).toNat, by have := Int.emod_nonneg c (Int.ne_of_gt hm); have := Int.emod_lt_of_pos c hm; omega, .inl ⟨hc, by have := Int.emod_nonneg c (Int.ne_of_gt hm); omega⟩⟩
  · have h1 : c.tmod m = -((-c) % m) := by rw [← Int.tmod_eq_emod_of_nonneg (by omega), Int.neg_tmod]; omega
    have h2 := Int.emod_nonneg (-c) (Int.ne_of_gt hm)
    have h3 := Int.emod_lt_of_pos (-c) hm
    refine ⟨((-c) % m).toNat, by omega, .inr ?_⟩
    by_cases h0 : (-c) % m = 0
    · exact .inr ⟨by omega, by omega⟩
    · exact .inl ⟨by omega, by omega, by omega⟩
/-- A slice parted at n. -/
theorem slAt_part {w : World} {b off R : Nat} {xs : List Nat} (h : SlAt .u8 w (some ⟨b, off, none⟩) R (ints xs)) (n : Nat) (hn : n ≤ R) :
    SlAt .u8 w (some ⟨b, off, none⟩) n (ints (xs.take n)) ∧ SlAt .u8 w (some ⟨b, off + n, none⟩) (R - n) (ints (xs.drop n)) := by
  obtain ⟨h1, h2⟩ := h
  have hx : xs.length = R := by simpa [ints] using h1
  rcases Nat.eq_zero_or_pos R with h0 | h0
  · exact ⟨⟨by simp [ints]; omega, .inl (by omega)⟩, ⟨by simp [ints]; omega, .inl (by omega)⟩⟩
  obtain ⟨b', off', hb, hc⟩ := h2.resolve_left (by omega)
  cases hb
  refine ⟨⟨by simp [ints]; omega, .inr ⟨b, off, rfl, fun j hj => ?_⟩⟩, ⟨by simp [ints]; omega, .inr ⟨b, off + n, rfl, fun j hj => ?_⟩⟩⟩
  · rw [hc j (by omega)]
    congr 2
    simp [ints, List.getElem?_take_of_lt hj]
  · rw [Nat.add_assoc, hc (n + j) (by omega)]
    congr 2
    simp [ints]
theorem getD_mem' {xs : List Int} {k : Nat} (h : k < xs.length) : xs.getD k 0 ∈ xs := by
  rw [List.getD_eq_getElem?_getD, List.getElem?_eq_getElem h]; exact List.getElem_mem h
set_option maxRecDepth 100000 in
set_option maxHeartbeats 16000000 in
theorem cuts_go (clear : Bool) (a0 : Option Addr) (len cap : Nat) (bs : List Nat) (q0 : Option Addr) (len1 cap1 : Nat) (cs : List Int) (W : World) (hs : SlAt .u8 W a0 len (ints bs)) (hby : ∀ c ∈ bs, c < 256) (hlc : len ≤ cap) (hcm : cap ≤ 9223372036854775807) (hbl : ∀ b off, 0 < len → a0 = some ⟨b, off, none⟩ → b < W.heap.size)
    (hs1 : SlAt .i64 W q0 len1 cs) (hcr : ∀ n ∈ cs, -9223372036854775808 ≤ n ∧ n ≤ 9223372036854775807) (hbl1 : ∀ b off, 0 < len1 → q0 = some ⟨b, off, none⟩ → b < W.heap.size) :
    Calls Try.prog 4 #[.bool clear, .slice a0 len cap, .slice q0 len1 cap1] W fun e w' => e = .returned (.bool true) ∧ Below W.heap.size W w' := by
  have hbsl : bs.length = len := by have := hs.1; simpa [ints] using this
  have hcsl := hs1.1
  go_enter Try.func4, Try.ntmps4
  go_wp2_with fail
  refine (known_any W).mono ?_
  rintro e w1 ⟨rfl, hk1⟩
  have HK1 := Lib.hid hk1
  clear hk1
  by_cases c1 : 2048 < len
  · have g1 : decide ((2048 : Int) < (len : Int)) = true := decide_eq_true (by omega)
    have g1' : decide (2048 < len) = true := decide_eq_true c1
    go_wp2
    refine bodyPost_ret (v := .bool true) (by simp [results, Try.results4, go_sem]) rfl ⟨rfl, HK1.out.below⟩
  have g1 : decide ((2048 : Int) < (len : Int)) = false := decide_eq_false (by omega)
  have g1' : decide (2048 < len) = false := decide_eq_false c1
  by_cases c2 : 300 < len1
  · have g2 : decide ((300 : Int) < (len1 : Int)) = true := decide_eq_true (by omega)
    have g2' : decide (300 < len1) = true := decide_eq_true c2
    go_wp2
    refine bodyPost_ret (v := .bool true) (by simp [results, Try.results4, go_sem]) rfl ⟨rfl, HK1.out.below⟩
  have g2 : decide ((300 : Int) < (len1 : Int)) = false := decide_eq_false (by omega)
  have g2' : decide (300 < len1) = false := decide_eq_false c2
  have H := Lib.hid (And.intro hs (And.intro hby (And.intro hbl (And.intro hs1 (And.intro hcr (And.intro hbl1 (And.intro hbsl (And.intro hcsl (And.intro hlc hcm)))))))))
  clear hs hby hbl hs1 hcr hbl1 hbsl hcsl
  go_wp2_with fail
  refine (new_any clear 32768 w1 (by omega)).mono ?_
  rintro e w2 ⟨rfl, hd2, hk2⟩
  obtain ⟨a1, ha1⟩ : ∃ a, w1.heap.size = a := ⟨_, rfl⟩
  rw [ha1] at hd2 ⊢
  have HD2 := Lib.hid (And.intro hd2 (And.intro ha1 (HK1.out.then hk2)))
  clear hd2 hk2
  go_wp2_with fail
  refine (new_any clear 32768 w2 (by omega)).mono ?_
  rintro e w3 ⟨rfl, hd3, hk3⟩
  obtain ⟨a2, ha2⟩ : ∃ a, w2.heap.size = a := ⟨_, rfl⟩
  rw [ha2] at hd3 ⊢
  have hW1 := HK1.out.size
  have ha12 : a1 < a2 := by have := HD2.out.1.lt a1 rfl; omega
  have HT0 := Lib.hid (show Two (fun i => W.heap.size ≤ i) w3 a2 (Dec.new clear 32768 256) a1 (Dec.new clear 32768 256) from ⟨fun i => i = a2, fun i => i = a1, hd3, HD2.out.1.kept hk3 (fun _ _ => id), fun i hi h => by omega, fun i hi => by have := HD2.out.2.1; omega, fun i hi => by have := HD2.out.2.1; omega⟩)
  have HK3 := Lib.hid (HD2.out.2.2.then hk3)
  clear hd3 hk3 ha12 hW1 ha1 ha2
  go_wp2_with fail
  refine (HT0.out.write (new_ok clear 32768 (by omega)) a0 len cap bs (H.out.1.kept HK3.out (fun _ _ _ _ => id)) H.out.2.1 (by omega) (fun b off h0 h => by have := H.out.2.2.1 b off h0 h; exact ⟨by have := HK3.out.size; omega, fun h => by omega⟩)).mono ?_
  rintro e w4 ⟨rv4, rfl, -, ht4, hok4, hk4⟩
  have HT4 := Lib.hid ((ht4.swap).mono (Z' := fun i => W.heap.size ≤ i) (fun i _ hi => by rcases hi with h | h; exact h; have := HK3.out.size; omega))
  have HK4 := Lib.hid (HK3.out.trans (hk4.mono fun i _ hi => Or.inr hi))
  have HOK4 := Lib.hid hok4
  clear ht4 hk4 hok4
  go_wp2
  go_loopg [1, 11, 12] (len1 + 1) (fun gg bv iv _ wr => ∃ (k j : Nat) (a' : Option Addr) (c' : Nat), k ≤ len ∧ j ≤ len1 + 1 ∧ (k < len → len1 + 1 ≤ gg + j ∧ j ≤ len1) ∧ bv = .slice a' (len - k) c' ∧ iv = .int .i64 (j : Int) ∧ SlAt .u8 W a' (len - k) (ints (bs.drop k)) ∧ len - k ≤ c' ∧ c' ≤ 9223372036854775807 ∧ (∀ b off, 0 < len - k → a' = some ⟨b, off, none⟩ → b < W.heap.size) ∧ Two (fun i => W.heap.size ≤ i) wr a1 ((Dec.new clear 32768 256).feed (bs.take k)) a2 ((Dec.new clear 32768 256).feed bs) ∧ Kept (fun _ => False) W wr)
  case atStart => exact ⟨0, 0, a0, cap, by omega, by omega, fun _ => by omega, rfl, rfl, H.out.1, H.out.2.2.2.2.2.2.2.2.1, H.out.2.2.2.2.2.2.2.2.2, H.out.2.2.1, HT4.out, HK4.out⟩
  case round =>
    obtain ⟨k, j, a', c', hkl, hj, hgg, rfl, rfl, hsr, hrc, hcc, hloc, ht, hkw⟩ := hrel
    have HT := Lib.hid ht
    have HKW := Lib.hid hkw
    obtain ⟨R, hR⟩ : ∃ R, len - k = R := ⟨_, rfl⟩
    rw [hR] at hsr hrc hloc ⊢
    clear ht hkw
    have HR := Lib.hid hR
    have hkR : len = k + R := by omega
    have HLR := Lib.hid hkR
    have hkR1 : len ≤ k + R := by omega
    have hkR2 : k + R ≤ len := by omega
    clear hR hkR
    by_cases hR0 : 0 < R
    · have gR : decide (0 < R) = true := decide_eq_true hR0
      have gR' : decide ((0 : Int) < (R : Int)) = true := decide_eq_true (by omega)
      obtain ⟨b, off, rfl, hcell⟩ := hsr.2.resolve_left (by omega)
      have HLT := Lib.hid (hloc b off (by omega) rfl)
      have hgk := hgg (by have := HLR.out; omega)
      have wj : IntKind.i64.wrap ((j : Int) + 1) = (j : Int) + 1 := IntWalk.i64_in _ (by omega)
      have wR : IntKind.i64.wrap ((R : Int) + 1) = (R : Int) + 1 := IntWalk.i64_in _ (by omega)
      have HSR := Lib.hid hsr
      clear hsr hcell hloc hgg
      by_cases hj1 : j < len1
      · have gj : decide (j < len1) = true := decide_eq_true hj1
        obtain ⟨b1, off1, rfl, hc1⟩ := H.out.2.2.2.1.2.resolve_left (by omega)
        have hcj := HKW.out.cell (hc1 j hj1) id
        obtain ⟨c, hc⟩ : ∃ c, cs.getD j 0 = c := ⟨_, rfl⟩
        rw [hc] at hcj
        have hcb := H.out.2.2.2.2.1 c (by rw [← hc]; exact getD_mem' (by have := H.out.2.2.2.2.2.2.2.1; omega))
        obtain ⟨n, hn1, hcase⟩ := rem_cases c ((R : Int) + 1) (by omega) (by omega)
        have hnR : n ≤ R := by omega
        have HPT := Lib.hid (slAt_part ((HSR.out.kept HKW.out (fun _ _ _ _ => id))) n hnR)
        have HPT0 := Lib.hid (slAt_part HSR.out n hnR)
        have q6 : ¬ (n : Int) < 0 := by omega
        have q7 : n ≤ R := hnR
        have q7' : n ≤ c' := by omega
        have qz : ¬ ((R : Int) + 1 = 0) := by omega
        clear hn1 hc1 hc
        rcases hcase with ⟨hc0, hn'⟩ | ⟨hc0, hn0, hn'⟩ | ⟨hc0, hn'⟩
        · have gn : decide ((n : Int) < 0) = false := decide_eq_false (by omega)
          have hn'' : c % ((R : Int) + 1) = (n : Int) := by rw [← hn', Int.tmod_eq_emod_of_nonneg hc0]
          by_cases hcn : c' = n
          · subst hcn
            obtain rfl : c' = R := by omega
            go_wp2_with fail
            refine ((HT.out.write (M := 32768) (feed_ok (new_ok clear 32768 (by omega)) _) (some ⟨b, off, none⟩) c' c' ((bs.drop k).take c') HPT.out.1 (fun c hc => H.out.2.1 c (List.mem_of_mem_drop (List.mem_of_mem_take hc))) (by omega) (fun b' off' _ h => by cases h; exact ⟨by have := HKW.out.size; have := HLT.out; omega, fun h9 => by have := HLT.out; have h8 : W.heap.size ≤ b := h9; omega⟩))).mono ?_
            rintro e w5 ⟨rv5, rfl, -, ht5, -, hk5⟩
            have hkw5 : Kept (fun _ => False) W w5 := HKW.out.trans (hk5.mono fun i _ hi => Or.inr hi)
            have ht6 : Two (fun i => W.heap.size ≤ i) w5 a1 ((Dec.new clear 32768 256).feed (bs.take (k + c'))) a2 ((Dec.new clear 32768 256).feed bs) := by
              have h9 := ht5.mono (Z' := fun i => W.heap.size ≤ i) (fun i _ hi => by rcases hi with h | h; exact h; have := HKW.out.size; omega)
              rw [← feed_append, ← List.take_add] at h9
              exact h9
            have H5 := Lib.hid (And.intro ht6 hkw5)
            clear ht5 hk5 hkw5 ht6
            go_wp2
            go_roundg (gk - 1)
            case rel => exact ⟨k + c', j + 1, some ⟨b, off, none⟩, 0, by have := HLR.out; omega, by omega, by have := HLR.out; omega, by rw [show len - (k + c') = 0 by have := HLR.out; omega], by simp, by rw [show len - (k + c') = 0 by have := HLR.out; omega]; exact ⟨by simp [ints]; have := H.out.2.2.2.2.2.2.1; omega, .inl rfl⟩, by omega, by omega, fun b' off' h0 h => absurd h0 (by omega), H5.out⟩
            case measure => omega
          · have q8 : ¬ c' = n := hcn
            go_wp2_with fail
            refine ((HT.out.write (M := 32768) (feed_ok (new_ok clear 32768 (by omega)) _) (some ⟨b, off, none⟩) n c' ((bs.drop k).take n) HPT.out.1 (fun c hc => H.out.2.1 c (List.mem_of_mem_drop (List.mem_of_mem_take hc))) (by omega) (fun b' off' _ h => by cases h; exact ⟨by have := HKW.out.size; have := HLT.out; omega, fun h9 => by have := HLT.out; have h8 : W.heap.size ≤ b := h9; omega⟩))).mono ?_
            rintro e w5 ⟨rv5, rfl, -, ht5, -, hk5⟩
            have hkw5 : Kept (fun _ => False) W w5 := HKW.out.trans (hk5.mono fun i _ hi => Or.inr hi)
            have ht6 : Two (fun i => W.heap.size ≤ i) w5 a1 ((Dec.new clear 32768 256).feed (bs.take (k + n))) a2 ((Dec.new clear 32768 256).feed bs) := by
              have h9 := ht5.mono (Z' := fun i => W.heap.size ≤ i) (fun i _ hi => by rcases hi with h | h; exact h; have := HKW.out.size; omega)
              rw [← feed_append, ← List.take_add] at h9
              exact h9
            have H5 := Lib.hid (And.intro ht6 hkw5)
            clear ht5 hk5 hkw5 ht6
            go_wp2
            go_roundg (gk - 1)
            case rel => exact ⟨k + n, j + 1, some ⟨b, off + n, none⟩, c' - n, by have := HLR.out; omega, by omega, by have := HLR.out; omega, by rw [show len - (k + n) = R - n by have := HLR.out; omega], by simp, by rw [show len - (k + n) = R - n by have := HLR.out; omega, ← List.drop_drop]; have h9 := HPT0.out.2; first | exact h9 | (rw [Nat.sub_self] at h9; exact h9), by omega, by omega, fun b' off' h0 h => by cases h; exact HLT.out, H5.out⟩
            case measure => omega
        · have gn : decide (-(n : Int) < 0) = true := decide_eq_true (by omega)
          have wn : IntKind.i64.wrap (n : Int) = (n : Int) := IntWalk.i64_in _ (by omega)
          have wn' : IntKind.i64.wrap (0 - -(n : Int)) = (n : Int) := by rw [show (0 : Int) - -(n : Int) = (n : Int) by omega]; exact wn
          by_cases hcn : c' = n
          · subst hcn
            obtain rfl : c' = R := by omega
            go_wp2_with fail
            refine ((HT.out.write (M := 32768) (feed_ok (new_ok clear 32768 (by omega)) _) (some ⟨b, off, none⟩) c' c' ((bs.drop k).take c') HPT.out.1 (fun c hc => H.out.2.1 c (List.mem_of_mem_drop (List.mem_of_mem_take hc))) (by omega) (fun b' off' _ h => by cases h; exact ⟨by have := HKW.out.size; have := HLT.out; omega, fun h9 => by have := HLT.out; have h8 : W.heap.size ≤ b := h9; omega⟩))).mono ?_
            rintro e w5 ⟨rv5, rfl, -, ht5, -, hk5⟩
            have hkw5 : Kept (fun _ => False) W w5 := HKW.out.trans (hk5.mono fun i _ hi => Or.inr hi)
            have ht6 : Two (fun i => W.heap.size ≤ i) w5 a1 ((Dec.new clear 32768 256).feed (bs.take (k + c'))) a2 ((Dec.new clear 32768 256).feed bs) := by
              have h9 := ht5.mono (Z' := fun i => W.heap.size ≤ i) (fun i _ hi => by rcases hi with h | h; exact h; have := HKW.out.size; omega)
              rw [← feed_append, ← List.take_add] at h9
              exact h9
            have H5 := Lib.hid (And.intro ht6 hkw5)
            clear ht5 hk5 hkw5 ht6
            go_wp2
            go_roundg (gk - 1)
            case rel => exact ⟨k + c', j + 1, some ⟨b, off, none⟩, 0, by have := HLR.out; omega, by omega, by have := HLR.out; omega, by rw [show len - (k + c') = 0 by have := HLR.out; omega], by simp, by rw [show len - (k + c') = 0 by have := HLR.out; omega]; exact ⟨by simp [ints]; have := H.out.2.2.2.2.2.2.1; omega, .inl rfl⟩, by omega, by omega, fun b' off' h0 h => absurd h0 (by omega), H5.out⟩
            case measure => omega
          · have q8 : ¬ c' = n := hcn
            go_wp2_with fail
            refine ((HT.out.write (M := 32768) (feed_ok (new_ok clear 32768 (by omega)) _) (some ⟨b, off, none⟩) n c' ((bs.drop k).take n) HPT.out.1 (fun c hc => H.out.2.1 c (List.mem_of_mem_drop (List.mem_of_mem_take hc))) (by omega) (fun b' off' _ h => by cases h; exact ⟨by have := HKW.out.size; have := HLT.out; omega, fun h9 => by have := HLT.out; have h8 : W.heap.size ≤ b := h9; omega⟩))).mono ?_
            rintro e w5 ⟨rv5, rfl, -, ht5, -, hk5⟩
            have hkw5 : Kept (fun _ => False) W w5 := HKW.out.trans (hk5.mono fun i _ hi => Or.inr hi)
            have ht6 : Two (fun i => W.heap.size ≤ i) w5 a1 ((Dec.new clear 32768 256).feed (bs.take (k + n))) a2 ((Dec.new clear 32768 256).feed bs) := by
              have h9 := ht5.mono (Z' := fun i => W.heap.size ≤ i) (fun i _ hi => by rcases hi with h | h; exact h; have := HKW.out.size; omega)
              rw [← feed_append, ← List.take_add] at h9
              exact h9
            have H5 := Lib.hid (And.intro ht6 hkw5)
            clear ht5 hk5 hkw5 ht6
            go_wp2
            go_roundg (gk - 1)
            case rel => exact ⟨k + n, j + 1, some ⟨b, off + n, none⟩, c' - n, by have := HLR.out; omega, by omega, by have := HLR.out; omega, by rw [show len - (k + n) = R - n by have := HLR.out; omega], by simp, by rw [show len - (k + n) = R - n by have := HLR.out; omega, ← List.drop_drop]; have h9 := HPT0.out.2; first | exact h9 | (rw [Nat.sub_self] at h9; exact h9), by omega, by omega, fun b' off' h0 h => by cases h; exact HLT.out, H5.out⟩
            case measure => omega
        · have gn : decide ((n : Int) < 0) = false := decide_eq_false (by omega)
          by_cases hcn : c' = n
          · subst hcn
            obtain rfl : c' = R := by omega
            go_wp2_with fail
            refine ((HT.out.write (M := 32768) (feed_ok (new_ok clear 32768 (by omega)) _) (some ⟨b, off, none⟩) c' c' ((bs.drop k).take c') HPT.out.1 (fun c hc => H.out.2.1 c (List.mem_of_mem_drop (List.mem_of_mem_take hc))) (by omega) (fun b' off' _ h => by cases h; exact ⟨by have := HKW.out.size; have := HLT.out; omega, fun h9 => by have := HLT.out; have h8 : W.heap.size ≤ b := h9; omega⟩))).mono ?_
            rintro e w5 ⟨rv5, rfl, -, ht5, -, hk5⟩
            have hkw5 : Kept (fun _ => False) W w5 := HKW.out.trans (hk5.mono fun i _ hi => Or.inr hi)
            have ht6 : Two (fun i => W.heap.size ≤ i) w5 a1 ((Dec.new clear 32768 256).feed (bs.take (k + c'))) a2 ((Dec.new clear 32768 256).feed bs) := by
              have h9 := ht5.mono (Z' := fun i => W.heap.size ≤ i) (fun i _ hi => by rcases hi with h | h; exact h; have := HKW.out.size; omega)
              rw [← feed_append, ← List.take_add] at h9
              exact h9
            have H5 := Lib.hid (And.intro ht6 hkw5)
            clear ht5 hk5 hkw5 ht6
            go_wp2
            go_roundg (gk - 1)
            case rel => exact ⟨k + c', j + 1, some ⟨b, off, none⟩, 0, by have := HLR.out; omega, by omega, by have := HLR.out; omega, by rw [show len - (k + c') = 0 by have := HLR.out; omega], by simp, by rw [show len - (k + c') = 0 by have := HLR.out; omega]; exact ⟨by simp [ints]; have := H.out.2.2.2.2.2.2.1; omega, .inl rfl⟩, by omega, by omega, fun b' off' h0 h => absurd h0 (by omega), H5.out⟩
            case measure => omega
          · have q8 : ¬ c' = n := hcn
            go_wp2_with fail
            refine ((HT.out.write (M := 32768) (feed_ok (new_ok clear 32768 (by omega)) _) (some ⟨b, off, none⟩) n c' ((bs.drop k).take n) HPT.out.1 (fun c hc => H.out.2.1 c (List.mem_of_mem_drop (List.mem_of_mem_take hc))) (by omega) (fun b' off' _ h => by cases h; exact ⟨by have := HKW.out.size; have := HLT.out; omega, fun h9 => by have := HLT.out; have h8 : W.heap.size ≤ b := h9; omega⟩))).mono ?_
            rintro e w5 ⟨rv5, rfl, -, ht5, -, hk5⟩
            have hkw5 : Kept (fun _ => False) W w5 := HKW.out.trans (hk5.mono fun i _ hi => Or.inr hi)
            have ht6 : Two (fun i => W.heap.size ≤ i) w5 a1 ((Dec.new clear 32768 256).feed (bs.take (k + n))) a2 ((Dec.new clear 32768 256).feed bs) := by
              have h9 := ht5.mono (Z' := fun i => W.heap.size ≤ i) (fun i _ hi => by rcases hi with h | h; exact h; have := HKW.out.size; omega)
              rw [← feed_append, ← List.take_add] at h9
              exact h9
            have H5 := Lib.hid (And.intro ht6 hkw5)
            clear ht5 hk5 hkw5 ht6
            go_wp2
            go_roundg (gk - 1)
            case rel => exact ⟨k + n, j + 1, some ⟨b, off + n, none⟩, c' - n, by have := HLR.out; omega, by omega, by have := HLR.out; omega, by rw [show len - (k + n) = R - n by have := HLR.out; omega], by simp, by rw [show len - (k + n) = R - n by have := HLR.out; omega, ← List.drop_drop]; have h9 := HPT0.out.2; first | exact h9 | (rw [Nat.sub_self] at h9; exact h9), by omega, by omega, fun b' off' h0 h => by cases h; exact HLT.out, H5.out⟩
            case measure => omega
      · have gj : decide (j < len1) = false := decide_eq_false hj1
        obtain ⟨n, hnR⟩ : ∃ n, n = R := ⟨_, rfl⟩
        have HPT := Lib.hid (slAt_part ((HSR.out.kept HKW.out (fun _ _ _ _ => id))) n (Nat.le_of_eq hnR))
        have HPT0 := Lib.hid (slAt_part HSR.out n (Nat.le_of_eq hnR))
        have q6 : ¬ (n : Int) < 0 := by omega
        have q7 : n ≤ R := Nat.le_of_eq hnR
        have q7' : n ≤ c' := by omega
        subst hnR
        by_cases hcn : c' = n
        · subst hcn
          go_wp2_with fail
          refine ((HT.out.write (M := 32768) (feed_ok (new_ok clear 32768 (by omega)) _) (some ⟨b, off, none⟩) c' c' ((bs.drop k).take c') HPT.out.1 (fun c hc => H.out.2.1 c (List.mem_of_mem_drop (List.mem_of_mem_take hc))) (by omega) (fun b' off' _ h => by cases h; exact ⟨by have := HKW.out.size; have := HLT.out; omega, fun h9 => by have := HLT.out; have h8 : W.heap.size ≤ b := h9; omega⟩))).mono ?_
          rintro e w5 ⟨rv5, rfl, -, ht5, -, hk5⟩
          have hkw5 : Kept (fun _ => False) W w5 := HKW.out.trans (hk5.mono fun i _ hi => Or.inr hi)
          have ht6 : Two (fun i => W.heap.size ≤ i) w5 a1 ((Dec.new clear 32768 256).feed (bs.take (k + c'))) a2 ((Dec.new clear 32768 256).feed bs) := by
            have h9 := ht5.mono (Z' := fun i => W.heap.size ≤ i) (fun i _ hi => by rcases hi with h | h; exact h; have := HKW.out.size; omega)
            rw [← feed_append, ← List.take_add] at h9
            exact h9
          have H5 := Lib.hid (And.intro ht6 hkw5)
          clear ht5 hk5 hkw5 ht6
          go_wp2
          go_roundg (gk - 1)
          case rel => exact ⟨k + c', j + 1, some ⟨b, off, none⟩, 0, by have := HLR.out; omega, by omega, by have := HLR.out; omega, by rw [show len - (k + c') = 0 by have := HLR.out; omega], by simp, by rw [show len - (k + c') = 0 by have := HLR.out; omega]; exact ⟨by simp [ints]; have := H.out.2.2.2.2.2.2.1; omega, .inl rfl⟩, by omega, by omega, fun b' off' h0 h => absurd h0 (by omega), H5.out⟩
          case measure => omega
        · have q8 : ¬ c' = n := hcn
          go_wp2_with fail
          refine ((HT.out.write (M := 32768) (feed_ok (new_ok clear 32768 (by omega)) _) (some ⟨b, off, none⟩) n c' ((bs.drop k).take n) HPT.out.1 (fun c hc => H.out.2.1 c (List.mem_of_mem_drop (List.mem_of_mem_take hc))) (by omega) (fun b' off' _ h => by cases h; exact ⟨by have := HKW.out.size; have := HLT.out; omega, fun h9 => by have := HLT.out; have h8 : W.heap.size ≤ b := h9; omega⟩))).mono ?_
          rintro e w5 ⟨rv5, rfl, -, ht5, -, hk5⟩
          have hkw5 : Kept (fun _ => False) W w5 := HKW.out.trans (hk5.mono fun i _ hi => Or.inr hi)
          have ht6 : Two (fun i => W.heap.size ≤ i) w5 a1 ((Dec.new clear 32768 256).feed (bs.take (k + n))) a2 ((Dec.new clear 32768 256).feed bs) := by
            have h9 := ht5.mono (Z' := fun i => W.heap.size ≤ i) (fun i _ hi => by rcases hi with h | h; exact h; have := HKW.out.size; omega)
            rw [← feed_append, ← List.take_add] at h9
            exact h9
          have H5 := Lib.hid (And.intro ht6 hkw5)
          clear ht5 hk5 hkw5 ht6
          go_wp2
          go_roundg (gk - 1)
          case rel => exact ⟨k + n, j + 1, some ⟨b, off + n, none⟩, c' - n, by have := HLR.out; omega, by omega, by have := HLR.out; omega, by rw [show len - (k + n) = 0 by have := HLR.out; omega], by simp, by rw [show len - (k + n) = 0 by have := HLR.out; omega, ← List.drop_drop]; have h9 := HPT0.out.2; first | exact h9 | (rw [Nat.sub_self] at h9; exact h9), by omega, by omega, fun b' off' h0 h => by cases h; exact HLT.out, H5.out⟩
          case measure => omega
    · have gR : decide (0 < R) = false := decide_eq_false hR0
      have gR' : decide ((0 : Int) < (R : Int)) = false := decide_eq_false (by omega)
      have hall : (Dec.new clear 32768 256).feed (bs.take k) = (Dec.new clear 32768 256).feed bs := by rw [List.take_of_length_le (by have := H.out.2.2.2.2.2.2.1; have := HLR.out; omega)]
      obtain ⟨D, hD⟩ : ∃ D, (Dec.new clear 32768 256).feed bs = D := ⟨_, rfl⟩
      have HDO := Lib.hid (show Two (fun i => W.heap.size ≤ i) wr a1 D a2 D ∧ DecOk 32768 D from ⟨by have h9 := HT.out; rw [hall, hD] at h9; exact h9, by rw [← hD]; exact feed_ok (new_ok clear 32768 (by omega)) bs⟩)
      obtain ⟨mw, hmw⟩ : ∃ m, D.fin.w = m := ⟨_, rfl⟩
      obtain ⟨mh, hmh⟩ : ∃ m, D.fin.h = m := ⟨_, rfl⟩
      obtain ⟨me, hme⟩ : ∃ m, D.fin.e = m := ⟨_, rfl⟩
      obtain ⟨mp, hmp⟩ : ∃ m, D.fin.p = m := ⟨_, rfl⟩
      have HF1 := Lib.hid (HDO.out.1.fin HDO.out.2)
      rw [hmw, hmh, hme, hmp] at HF1
      clear hall hD hsr hloc hgg
      go_wp2_with fail
      refine HF1.out.mono ?_
      rintro e w5 ⟨s1, n1, c1', rfl, hs5, -, -, -, ht5, hk5, hs5b⟩
      obtain ⟨W6, hW6⟩ : ∃ W', w5.alloc (.cells #[.int .i64 mw, .int .i64 mh, .slice s1 n1 c1'] 38) = W' := ⟨_, rfl⟩
      have hk56 : Kept (fun _ => False) w5 W6 := by rw [← hW6]; exact (Kept.refl _ _).alloc _
      have hb13 : W6.heap[w5.heap.size]? = some (.cells #[.int .i64 mw, .int .i64 mh, .slice s1 n1 c1'] 38 (0, 0)) := by rw [← hW6]; exact blk_new w5 _
      have H6 := Lib.hid (And.intro (hs5.kept hk56 (fun _ _ _ _ => id)) (And.intro (((ht5.mono (Z' := fun i => (W.heap.size ≤ i ∧ i < w5.heap.size) ∧ ∀ off, s1 ≠ some ⟨i, off, none⟩) (fun i hi h => ⟨⟨by rcases h.1 with h | h; exact h; have := HKW.out.size; omega, hi⟩, h.2⟩)).up hk56).swap) (And.intro hb13 ((HKW.out.trans (hk5.mono fun i _ hi => Or.inr hi)).then hk56))))
      have HF2 := Lib.hid (H6.out.2.1.fin HDO.out.2)
      rw [hmw, hmh, hme, hmp] at HF2
      have HLT := Lib.hid ht5
      clear hs5 ht5 hk5 hs5b hk56 hb13
      go_wp2_with fail
      refine HF2.out.mono ?_
      rintro e w7 ⟨s2, n2, c2', rfl, hs7, -, -, -, -, hk7, -⟩
      obtain ⟨W8, hW8⟩ : ∃ W', w7.alloc (.cells #[.int .i64 mw, .int .i64 mh, .slice s2 n2 c2'] 38) = W' := ⟨_, rfl⟩
      have hk78 : Kept (fun _ => False) w7 W8 := by rw [← hW8]; exact (Kept.refl _ _).alloc _
      have hb15 : W8.heap[w7.heap.size]? = some (.cells #[.int .i64 mw, .int .i64 mh, .slice s2 n2 c2'] 38 (0, 0)) := by rw [← hW8]; exact blk_new w7 _
      obtain ⟨⟨u3, -⟩, ⟨u4, -⟩, u5, -⟩ := blk3 hb15
      have hb13 : W8.heap[w5.heap.size]? = some (.cells #[.int .i64 mw, .int .i64 mh, .slice s1 n1 c1'] 38 (0, 0)) := hk78.blk (hk7.blk H6.out.2.2.1 (fun h => Nat.lt_irrefl _ h.1.2)) id
      obtain ⟨⟨u0, -⟩, ⟨u1, -⟩, u2, -⟩ := blk3 hb13
      obtain ⟨SX, hSX⟩ : ∃ S, strOfNums mp = S := ⟨_, rfl⟩
      have hs1' : SlAt .u8 W8 s1 n1 mp := (H6.out.1.kept hk7 (fun b off _ h h9 => h9.2 off h)).kept hk78 (fun _ _ _ _ => id)
      have cv1 := run_str (P := Try.prog) Try.underlying30 Try.underlying5 Try.underlying9 hs1' (len := n1) (cap := c1')
      have cv2 := run_str (P := Try.prog) Try.underlying30 Try.underlying5 Try.underlying9 (hs7.kept hk78 (fun _ _ _ _ => id)) (len := n2) (cap := c2')
      rw [hSX] at cv1 cv2
      have HKZ := Lib.hid ((H6.out.2.2.2.trans (hk7.mono fun i hi h => Or.inr h.1.1)).then hk78)
      clear hs7 hk7 hk78 hb15 hb13 hSX hs1' hmw hmh hme hmp
      go_wp2
      refine bodyPost_ret (v := .bool true) (by simp [results, Try.results4, go_sem]) rfl ⟨rfl, HKZ.out.below⟩
theorem law_cuts {clear : Bool} {a0 a1 : Option Addr} {l0 c0 l1 c1 : Nat} {z0 z1 : List Int} {w : World} (f0 : IsRow .u8 w a0 l0 c0 z0) (f1 : IsRow .i64 w a1 l1 c1 z1) :
    Calls Try.prog 4 #[.bool clear, .slice a0 l0 c0, .slice a1 l1 c1] w fun e w' => e = .returned (.bool true) ∧ Below w.heap.size w w' := by
  obtain ⟨bs, s0, b0, -, k0, m0, n0, e0⟩ := row_ints f0
  obtain ⟨h1, h2, h3, h4, h5, h6⟩ := f1.slAt
  exact cuts_go clear a0 l0 c0 bs a1 l1 c1 (z1.take l1) w s0 b0 k0 m0 n0 h1 (fun n hn => int_of_wf (h4 n hn)) h5
end Go.Proofs.Ytomcjdonacckfaa
