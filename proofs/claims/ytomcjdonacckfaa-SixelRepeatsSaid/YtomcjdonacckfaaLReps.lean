/- A sixel that is repeated: the law SixelRepeats. -/
import Derived.Test.YtomcjdonacckfaaRepP
import Derived.Test.YtomcjdonacckfaaLCuts
import Derived.Test.YtomcjdonacckfaaLRooms
namespace Go.Proofs.Ytomcjdonacckfaa
open Go.RowKit
set_option linter.unusedVariables false
set_option linter.unusedSimpArgs false
/-- Bytes written to the first one; where the blocks lie afterwards. -/
theorem Two.put {Z : Nat → Prop} {w : World} {a b : Nat} {d e0 : Dec} (h : Two Z w a d b e0) {M : Nat} (hok : DecOk M d) (a0 : Option Addr) (len cap : Nat) (bs : List Nat) (hs : SlAt .u8 w a0 len (ints bs)) (hby : ∀ c ∈ bs, c < 256) (hl : len ≤ 65536) (hna : ∀ b off, 0 < len → a0 = some ⟨b, off, none⟩ → b < w.heap.size ∧ ¬ Z b) :
    Calls Try.prog 18 #[.pointer (some ⟨a, 0, none⟩), .slice a0 len cap] w fun e w' => ∃ rv : Int, e = .returned (.int .i64 rv) ∧ ∃ Z', (∀ i, Z' i → (Z i ∨ w.heap.size ≤ i) ∧ i < w'.heap.size) ∧ Two Z' w' a (d.feed bs) b e0 ∧ DecOk M (d.feed bs) ∧ Kept Z w w' := by
  refine (h.write hok a0 len cap bs hs hby hl hna).mono ?_
  rintro e w' ⟨rv, he, -, h1, h2, h3⟩
  exact ⟨rv, he, fun i => (Z i ∨ w.heap.size ≤ i) ∧ i < w'.heap.size, fun i hi => hi, h1.mono fun i hi hz => ⟨hz, hi⟩, h2, h3⟩
theorem ints_rep (n c : Nat) : ints (List.replicate n c) = List.replicate n (c : Int) := by unfold ints; rw [List.map_replicate]
theorem tmod64 (v : Int) (h : 0 ≤ v) : v.tmod 64 = v % 64 := Int.tmod_eq_emod_of_nonneg h
set_option maxRecDepth 100000 in
set_option maxHeartbeats 16000000 in
theorem repeats_go (vv : Nat) (ni : Int) (a0 : Option Addr) (len cap : Nat) (bs : List Nat) (W : World) (hvv : vv < 256) (fn : -9223372036854775808 ≤ ni ∧ ni ≤ 9223372036854775807) (hs : SlAt .u8 W a0 len (ints bs)) (hby : ∀ c ∈ bs, c < 256) (hbl : ∀ b off, 0 < len → a0 = some ⟨b, off, none⟩ → b < W.heap.size) (hlc : len ≤ 9223372036854775807) :
    Calls Try.prog 7 #[.int .u8 vv, .int .i64 ni, .slice a0 len cap] W fun e w' => e = .returned (.bool true) ∧ Below W.heap.size W w' := by
  go_enter Try.func7, Try.ntmps7
  go_wp2_with fail
  refine (known_any W).mono ?_
  rintro e w1 ⟨rfl, hk1⟩
  have HK1 := Lib.hid hk1
  clear hk1
  by_cases c1 : ni < 1
  · have g1 : decide (ni < 1) = true := decide_eq_true c1
    go_wp2
    refine bodyPost_ret (v := .bool true) (by simp [results, Try.results7, go_sem]) rfl ⟨rfl, HK1.out.below⟩
  have g1 : decide (ni < 1) = false := decide_eq_false c1
  by_cases c2 : 200 < ni
  · have g2 : decide (200 < ni) = true := decide_eq_true c2
    go_wp2
    refine bodyPost_ret (v := .bool true) (by simp [results, Try.results7, go_sem]) rfl ⟨rfl, HK1.out.below⟩
  have g2 : decide (200 < ni) = false := decide_eq_false c2
  by_cases c3 : 100 < len
  · have g3 : decide ((100 : Int) < (len : Int)) = true := decide_eq_true (by omega)
    have g3' : decide (100 < len) = true := decide_eq_true c3
    go_wp2
    refine bodyPost_ret (v := .bool true) (by simp [results, Try.results7, go_sem]) rfl ⟨rfl, HK1.out.below⟩
  have g3 : decide ((100 : Int) < (len : Int)) = false := decide_eq_false (by omega)
  have g3' : decide (100 < len) = false := decide_eq_false c3
  obtain ⟨n, rfl⟩ := Int.eq_ofNat_of_zero_le (show 0 ≤ ni by omega)
  obtain ⟨v, hv⟩ : ∃ v, vv % 64 = v := ⟨_, rfl⟩
  have hv64 : v < 64 := by omega
  have r1 : (vv : Int).tmod 64 = (v : Int) := by rw [tmod64 _ (by omega)]; omega
  have r1' : (vv : Int) % 64 = (v : Int) := by omega
  have r2 : IntKind.u8.wrap (v : Int) = (v : Int) := IntWalk.u8_in _ (by omega)
  have r3 : IntKind.u8.wrap (63 + (v : Int)) = 63 + (v : Int) := IntWalk.u8_in _ (by omega)
  have H := Lib.hid (And.intro hs (And.intro hby (And.intro hbl (show 1 ≤ n ∧ n ≤ 200 ∧ len ≤ 100 by omega))))
  clear hs hby hbl hlc fn c1 c2 c3 hv hvv
  go_wp2_with fail
  refine (new_any true 65536 w1 (by omega)).mono ?_
  rintro e w2 ⟨rfl, hd2, hk2⟩
  obtain ⟨a1, ha1⟩ : ∃ a, w1.heap.size = a := ⟨_, rfl⟩
  rw [ha1] at hd2 ⊢
  have HD2 := Lib.hid (And.intro hd2 (And.intro ha1 (HK1.out.then hk2)))
  clear hd2 hk2
  go_wp2_with fail
  refine (new_any true 65536 w2 (by omega)).mono ?_
  rintro e w3 ⟨rfl, hd3, hk3⟩
  obtain ⟨a2, ha2⟩ : ∃ a, w2.heap.size = a := ⟨_, rfl⟩
  rw [ha2] at hd3 ⊢
  have hW1 := HK1.out.size
  have ha12 : a1 < a2 := by have := HD2.out.1.lt a1 rfl; omega
  have ha23 : a2 < w3.heap.size := hd3.lt a2 rfl
  have HT3 := Lib.hid (show Two (fun i => i = a1 ∨ i = a2) w3 a1 (Dec.new true 65536 256) a2 (Dec.new true 65536 256) from ⟨fun i => i = a1, fun i => i = a2, HD2.out.1.kept hk3 (fun _ _ => id), hd3, fun i hi h => by omega, fun i hi => .inl hi, fun i hi => .inr hi⟩)
  have HK3 := Lib.hid (HD2.out.2.2.then hk3)
  have HAA := Lib.hid (show W.heap.size ≤ a1 ∧ a1 < a2 ∧ a2 < w3.heap.size from ⟨by have := HD2.out.2.1; omega, ha12, ha23⟩)
  clear hd3 hk3 ha12 hW1 ha1 ha2 ha23
  obtain ⟨i0, hi, hz0, hz1, hz2⟩ := info_parts Try.infoByte
  have HI := Lib.hid (And.intro hi (And.intro hz0 (And.intro hz1 hz2)))
  clear hi hz0 hz1 hz2
  obtain ⟨c, hc⟩ : ∃ c : Int, 63 + (v : Int) = c := ⟨_, rfl⟩
  rw [hc] at r3
  have HC := Lib.hid (And.intro hc hv64)
  go_wp2
  clear hc r1 r1' r2 r3
  go_loopg [12, 13] n (fun gg lv iv wr => ∃ k : Nat, n ≤ gg + k ∧ k ≤ n ∧ iv = .int .i64 (k : Int) ∧ Own .u8 5 wr lv (List.replicate k c) ∧ Kept (fun _ => False) w3 wr ∧ ∀ b, lv.ownBlock = some b → w3.heap.size ≤ b)
  case atStart => exact ⟨0, by omega, by omega, rfl, Own.nil _ _ _, Kept.refl _ _, fun b hb => by cases hb⟩
  case round =>
    obtain ⟨k, hgg, hkn, rfl, ho, hk, hob⟩ := hrel
    obtain ⟨la, lc, rfl, hls, hllc, hlcm, hlnil, hlown⟩ := ho.shape
    rw [List.length_replicate] at *
    have HO := Lib.hid (And.intro ho (And.intro hk hob))
    by_cases hk1 : k < n
    · have g0 : decide (k < n) = true := decide_eq_true hk1
      have hs1 : SlAt .u8 (wr.alloc (.cells #[.int .u8 c] 5)) (some ⟨wr.heap.size, 0, none⟩) 1 [c] := slAt_blk (blk_new wr _) rfl rfl
      have hoa := ho.kept ((Kept.refl (fun _ => False) wr).alloc (.cells #[.int .u8 c] 5)) (fun _ _ => id)
      have hn200 := H.out.2.2.2
      have wk : IntKind.i64.wrap ((k : Int) + 1) = (k : Int) + 1 := IntWalk.i64_in _ (by omega)
      clear ho hk hob hls hlnil hlown
      go_wp2_with (first
        | (at_builtin; refine wpList_appInts rfl (.tmp 61) (.tmp 63) 30 rfl 5 .u8 i0 (.int .u8 0) 1 Try.underlying30 HI.out.1 HI.out.2.1 HI.out.2.2.1 HI.out.2.2.2 rfl (.slice la k lc) (List.replicate k c) rfl hoa (some ⟨wr.heap.size, 0, none⟩) 1 1 [c] rfl (fun h => by cases h) hs1 (by simp; omega) (by simp [maxLen]; omega) ?_; intro v5 w5 ho5 hk5 hpr5))
      have H5 := Lib.hid (show Own .u8 5 w5 v5 (List.replicate (k + 1) c) ∧ Kept (fun _ => False) w3 w5 ∧ ∀ b, v5.ownBlock = some b → w3.heap.size ≤ b from by
        refine ⟨by rw [List.replicate_succ']; exact ho5, ?_, ?_⟩
        · exact (HO.out.2.1.alloc _).trans (hk5.mono fun i _ hi => Or.inr (HO.out.2.2 i hi))
        · exact ho5.app_new hpr5 (by have := HO.out.2.1.size; simp; omega) HO.out.2.2)
      clear ho5 hk5 hpr5 hoa hs1
      go_wp2
      go_roundg (gk - 1)
      case rel => exact ⟨k + 1, by omega, by omega, by simp, H5.out⟩
      case measure => omega
    · obtain rfl : k = n := by omega
      have g0 : decide (k < k) = false := decide_eq_false (by omega)
      clear ho hk hob hls hlnil hlown
      have HDC := Lib.hid (decimal_any k (by have := H.out.2.2.2; omega))
      obtain ⟨D1, hD1⟩ : ∃ D, nstr (digs k) = D := ⟨_, rfl⟩
      rw [hD1] at HDC
      have l1 := digs_len k (by have := H.out.2.2.2; omega)
      obtain ⟨S1, hS1⟩ : ∃ S, ({ data := #[33] } : ByteArray) ++ D1 = S := ⟨_, rfl⟩
      have t1 : S1 = nstr (33 :: digs k) := by rw [← hS1, ← hD1]; exact nstr_append [33] _
      have z1 : ¬ (9223372036854775807 : Int) < 1 + (D1.size : Int) := by rw [← hD1, nstr_size]; omega
      have q1 : ((ByteArray.mk #[33]).size : Int) = 1 := rfl
      have HS := Lib.hid (And.intro t1 l1)
      have hT4 := HT3.out.up HO.out.2.1
      have HT4 := Lib.hid hT4
      have HK4 := Lib.hid (HK3.out.then HO.out.2.1)
      clear t1 l1 hD1 hT4
      go_wp2_with fail
      refine (HDC.out _).mono ?_
      rintro e w5 ⟨rfl, hk5⟩
      obtain ⟨w6, cap6, hcv, hs6, hk6, hz6⟩ := bytes_conv w5 (33 :: digs k) (by intro c hc; rcases List.mem_cons.1 hc with h | h; omega; exact digs_256 _ c h) S1 HS.out.1
      have hk46 := hk5.then hk6
      have HK6 := Lib.hid (HK4.out.then hk46)
      have HOL := Lib.hid (show Own .u8 5 w6 (.slice la k lc) (List.replicate k c) ∧ ∀ b, (Value.slice la k lc).ownBlock = some b → a2 < b ∧ b < w5.heap.size from ⟨HO.out.1.kept hk46 (fun _ _ => id), fun b hb => ⟨by have := HO.out.2.2 b hb; have := HAA.out; omega, by have := HO.out.1.lt b hb; have := hk5.size; omega⟩⟩)
      have HW1 := Lib.hid ((HT4.out.up hk46).put (new_ok true 65536 (by omega)) (some ⟨w5.heap.size, 0, none⟩) (33 :: digs k).length cap6 (33 :: digs k) hs6 (by intro c hc; rcases List.mem_cons.1 hc with h | h; omega; exact digs_256 _ c h) (by have := HS.out.2; simp; omega) (fun b off _ h => by cases h; exact ⟨by omega, fun h => by have := HAA.out; have := HO.out.2.1.size; have := hk5.size; omega⟩))
      have HZ6 := Lib.hid (show w5.heap.size < w6.heap.size ∧ w3.heap.size ≤ w5.heap.size from ⟨by omega, by have := HO.out.2.1.size; have := hk5.size; omega⟩)
      clear hk5 hs6 hk6 hz6 hk46
      go_wp2_with fail
      refine HW1.out.mono ?_
      rintro e w7 ⟨rv7, rfl, Z7, hz7, ht7, hok7, hk7⟩
      -- the one sign
      obtain ⟨w8, hw8⟩ : ∃ w', w7.alloc (.cells #[.int .u8 c] 5) = w' := ⟨_, rfl⟩
      have hk78 : Kept (fun _ => False) w7 w8 := by rw [← hw8]; exact (Kept.refl _ _).alloc _
      have hc8 : ints [63 + v] = [c] := by rw [← HC.out.1]; rfl
      have hs8 : SlAt .u8 w8 (some ⟨w7.heap.size, 0, none⟩) 1 (ints [63 + v]) := by rw [hc8, ← hw8]; exact slAt_blk (blk_new w7 _) rfl rfl
      have hsz8 : w8.heap.size = w7.heap.size + 1 := by rw [← hw8]; simp
      have H7 := Lib.hid (show (∀ i, Z7 i → (i = a1 ∨ i = a2 ∨ w6.heap.size ≤ i) ∧ i < w7.heap.size) ∧ Two Z7 w8 a1 ((Dec.new true 65536 256).feed (33 :: digs k)) a2 (Dec.new true 65536 256) ∧ DecOk 65536 ((Dec.new true 65536 256).feed (33 :: digs k)) ∧ Kept (fun _ => False) W w8 ∧ Own .u8 5 w8 (.slice la k lc) (List.replicate k c) from ⟨fun i hi => by have := hz7 i hi; omega, ht7.up hk78, hok7, (HK6.out.trans (hk7.mono fun i _ hi => Or.inr (by have := HAA.out; omega))).then hk78, (HOL.out.1.kept hk7 (fun b hb hi => by have := HOL.out.2 b hb; have := HAA.out; omega)).kept hk78 (fun _ _ => id)⟩)
      have HW2 := Lib.hid (H7.out.2.1.put H7.out.2.2.1 (some ⟨w7.heap.size, 0, none⟩) 1 1 [63 + v] hs8 (by intro c hc; have := HC.out.2; simp at hc; omega) (by omega) (fun b off _ h => by cases h; exact ⟨by omega, fun h => by have := (H7.out.1 _ h).2; omega⟩))
      have HZ8 := Lib.hid (show w6.heap.size ≤ w7.heap.size ∧ w7.heap.size < w8.heap.size from ⟨hk7.size, by omega⟩)
      clear hz7 ht7 hok7 hk7 hk78 hc8 hs8 hsz8
      go_wp2_with fail
      refine HW2.out.mono ?_
      rintro e w9 ⟨rv9, rfl, Z9, hz9, ht9, hok9, hk9⟩
      have H9 := Lib.hid (show (∀ i, Z9 i → (i = a1 ∨ i = a2 ∨ w6.heap.size ≤ i) ∧ i < w9.heap.size) ∧ Two Z9 w9 a2 (Dec.new true 65536 256) a1 (((Dec.new true 65536 256).feed (33 :: digs k)).feed [63 + v]) ∧ DecOk 65536 (((Dec.new true 65536 256).feed (33 :: digs k)).feed [63 + v]) ∧ Kept (fun _ => False) W w9 ∧ Own .u8 5 w9 (.slice la k lc) (List.replicate k c) from ⟨fun i hi => by have h1 := hz9 i hi; have := HZ8.out; rcases h1.1 with h | h; have := H7.out.1 i h; omega; omega, ht9.swap, hok9, H7.out.2.2.2.1.trans (hk9.mono fun i _ hi => Or.inr (by have := (H7.out.1 i hi).1; have := HAA.out; have := HK6.out.size; omega)), H7.out.2.2.2.2.kept hk9 (fun b hb hi => by have := HOL.out.2 b hb; have := (H7.out.1 b hi).1; have := HZ6.out; have := HAA.out; omega)⟩)
      obtain ⟨la', lc', hlv, hls9, -, -, -, hlo⟩ := H9.out.2.2.2.2.shape
      rw [List.length_replicate] at hlv hls9
      obtain ⟨rfl, rfl⟩ : la = la' ∧ lc = lc' := by injection hlv with h1 h2 h3; exact ⟨h1, h3⟩
      have hls9' : SlAt .u8 w9 la k (ints (List.replicate k (63 + v))) := by rw [ints_rep, show ((63 + v : Nat) : Int) = c by rw [← HC.out.1]; simp]; exact hls9
      have HW3 := Lib.hid (H9.out.2.1.put (new_ok true 65536 (by omega)) la k lc (List.replicate k (63 + v)) hls9' (by intro c hc; have := HC.out.2; have := List.eq_of_mem_replicate hc; omega) (by have := H.out.2.2.2; omega) (fun b off _ h => ⟨by have := (HOL.out.2 b (hlo b off h)); have := HZ6.out; have := HZ8.out; have := hk9.size; omega, fun h9 => by have := HOL.out.2 b (hlo b off h); have := (H9.out.1 b h9).1; have := HZ6.out; have := HAA.out; omega⟩))
      clear hz9 ht9 hok9 hk9 hlv hls9 hlo hls9'
      go_wp2_with fail
      refine HW3.out.mono ?_
      rintro e w10 ⟨rv10, rfl, Z10, hz10, ht10, hok10, hk10⟩
      have H10 := Lib.hid (show (∀ i, Z10 i → W.heap.size ≤ i ∧ i < w10.heap.size) ∧ Two Z10 w10 a1 (((Dec.new true 65536 256).feed (33 :: digs k)).feed [63 + v]) a2 ((Dec.new true 65536 256).feed (List.replicate k (63 + v))) ∧ DecOk 65536 ((Dec.new true 65536 256).feed (List.replicate k (63 + v))) ∧ Kept (fun _ => False) W w10 from ⟨fun i hi => by have h1 := hz10 i hi; have := H9.out.2.2.2.1.size; have := HAA.out; have := HK6.out.size; rcases h1.1 with h | h; have := (H9.out.1 i h).1; omega; omega, ht10.swap, hok10, H9.out.2.2.2.1.trans (hk10.mono fun i _ hi => Or.inr (by have := (H9.out.1 i hi).1; have := HAA.out; have := HK6.out.size; omega))⟩)
      have HW4 := Lib.hid (H10.out.2.1.put H9.out.2.2.1 a0 len cap bs (H.out.1.kept H10.out.2.2.2 (fun _ _ _ _ => id)) H.out.2.1 (by have := H.out.2.2.2; omega) (fun b off h0 h => by have := H.out.2.2.1 b off h0 h; exact ⟨by have := H10.out.2.2.2.size; omega, fun h9 => by have := (H10.out.1 b h9).1; omega⟩))
      clear hz10 ht10 hok10 hk10
      go_wp2_with fail
      refine HW4.out.mono ?_
      rintro e w11 ⟨rv11, rfl, Z11, hz11, ht11, hok11, hk11⟩
      have H11 := Lib.hid (show (∀ i, Z11 i → W.heap.size ≤ i ∧ i < w11.heap.size) ∧ Two Z11 w11 a2 ((Dec.new true 65536 256).feed (List.replicate k (63 + v))) a1 ((((Dec.new true 65536 256).feed (33 :: digs k)).feed [63 + v]).feed bs) ∧ DecOk 65536 ((((Dec.new true 65536 256).feed (33 :: digs k)).feed [63 + v]).feed bs) ∧ Kept (fun _ => False) W w11 from ⟨fun i hi => by have h1 := hz11 i hi; have := H10.out.2.2.2.size; rcases h1.1 with h | h; have := (H10.out.1 i h).1; omega; omega, ht11.swap, hok11, H10.out.2.2.2.trans (hk11.mono fun i _ hi => Or.inr (H10.out.1 i hi).1)⟩)
      have HW5 := Lib.hid (H11.out.2.1.put H10.out.2.2.1 a0 len cap bs (H.out.1.kept H11.out.2.2.2 (fun _ _ _ _ => id)) H.out.2.1 (by have := H.out.2.2.2; omega) (fun b off h0 h => by have := H.out.2.2.1 b off h0 h; exact ⟨by have := H11.out.2.2.2.size; omega, fun h9 => by have := (H11.out.1 b h9).1; omega⟩))
      clear hz11 ht11 hok11 hk11
      go_wp2_with fail
      refine HW5.out.mono ?_
      rintro e w12 ⟨rv12, rfl, Z12, hz12, ht12, hok12, hk12⟩
      have hsim := sim_fin (sim_feed (rep_sim k v ⟨H.out.2.2.2.1, H.out.2.2.2.2.1⟩ HC.out.2) bs)
      obtain ⟨E1, hE1⟩ : ∃ E, ((((Dec.new true 65536 256).feed (33 :: digs k)).feed [63 + v]).feed bs) = E := ⟨_, rfl⟩
      obtain ⟨E2, hE2⟩ : ∃ E, (((Dec.new true 65536 256).feed (List.replicate k (63 + v))).feed bs) = E := ⟨_, rfl⟩
      rw [hE1, hE2] at hsim
      have H12 := Lib.hid (show (∀ i, Z12 i → W.heap.size ≤ i ∧ i < w12.heap.size) ∧ Two Z12 w12 a1 E1 a2 E2 ∧ DecOk 65536 E1 ∧ DecOk 65536 E2 ∧ Kept (fun _ => False) W w12 from ⟨fun i hi => by have h1 := hz12 i hi; have := H11.out.2.2.2.size; rcases h1.1 with h | h; have := (H11.out.1 i h).1; omega; omega, by rw [← hE1, ← hE2]; exact ht12.swap, by rw [← hE1]; exact H11.out.2.2.1, by rw [← hE2]; exact hok12, H11.out.2.2.2.trans (hk12.mono fun i _ hi => Or.inr (H11.out.1 i hi).1)⟩)
      obtain ⟨mw, hmw⟩ : ∃ m, E2.fin.w = m := ⟨_, rfl⟩
      obtain ⟨mh, hmh⟩ : ∃ m, E2.fin.h = m := ⟨_, rfl⟩
      obtain ⟨me, hme⟩ : ∃ m, E2.fin.e = m := ⟨_, rfl⟩
      obtain ⟨mp, hmp⟩ : ∃ m, E2.fin.p = m := ⟨_, rfl⟩
      rw [hmw, hmh, hme, hmp] at hsim
      have HF1 := Lib.hid (H12.out.2.1.fin H12.out.2.2.1)
      rw [hsim.1, hsim.2.1, hsim.2.2.1, hsim.2.2.2] at HF1
      clear hz12 ht12 hok12 hk12 hE1 hE2
      go_wp2_with fail
      refine HF1.out.mono ?_
      rintro e w13 ⟨s1, n1, c1', rfl, hs13, -, -, -, ht13, hk13, -⟩
      obtain ⟨W14, hW14⟩ : ∃ W', w13.alloc (.cells #[.int .i64 mw, .int .i64 mh, .slice s1 n1 c1'] 38) = W' := ⟨_, rfl⟩
      have hk134 : Kept (fun _ => False) w13 W14 := by rw [← hW14]; exact (Kept.refl _ _).alloc _
      have hb13 : W14.heap[w13.heap.size]? = some (.cells #[.int .i64 mw, .int .i64 mh, .slice s1 n1 c1'] 38 (0, 0)) := by rw [← hW14]; exact blk_new w13 _
      have H14 := Lib.hid (And.intro (hs13.kept hk134 (fun _ _ _ _ => id)) (And.intro (((ht13.mono (Z' := fun i => (W.heap.size ≤ i ∧ i < w13.heap.size) ∧ ∀ off, s1 ≠ some ⟨i, off, none⟩) (fun i hi h => ⟨⟨by rcases h.1 with h | h; exact (H12.out.1 i h).1; have := H12.out.2.2.2.2.size; omega, hi⟩, h.2⟩)).up hk134).swap) (And.intro hb13 ((H12.out.2.2.2.2.trans (hk13.mono fun i _ hi => Or.inr (H12.out.1 i hi).1)).then hk134))))
      have HF2 := Lib.hid (H14.out.2.1.fin H12.out.2.2.2.1)
      rw [hmw, hmh, hme, hmp] at HF2
      clear hs13 ht13 hk13 hk134 hb13
      go_wp2_with fail
      refine HF2.out.mono ?_
      rintro e w15 ⟨s2, n2, c2', rfl, hs15, -, -, -, -, hk15, -⟩
      obtain ⟨W8, hW8⟩ : ∃ W', w15.alloc (.cells #[.int .i64 mw, .int .i64 mh, .slice s2 n2 c2'] 38) = W' := ⟨_, rfl⟩
      have hk78 : Kept (fun _ => False) w15 W8 := by rw [← hW8]; exact (Kept.refl _ _).alloc _
      have hb15 : W8.heap[w15.heap.size]? = some (.cells #[.int .i64 mw, .int .i64 mh, .slice s2 n2 c2'] 38 (0, 0)) := by rw [← hW8]; exact blk_new w15 _
      obtain ⟨⟨u3, -⟩, ⟨u4, -⟩, u5, -⟩ := blk3 hb15
      have hb13 : W8.heap[w13.heap.size]? = some (.cells #[.int .i64 mw, .int .i64 mh, .slice s1 n1 c1'] 38 (0, 0)) := hk78.blk (hk15.blk H14.out.2.2.1 (fun h => Nat.lt_irrefl _ h.1.2)) id
      obtain ⟨⟨u0, -⟩, ⟨u1, -⟩, u2, -⟩ := blk3 hb13
      obtain ⟨SX, hSX⟩ : ∃ S, strOfNums mp = S := ⟨_, rfl⟩
      have hs1' : SlAt .u8 W8 s1 n1 mp := (H14.out.1.kept hk15 (fun b off _ h h9 => h9.2 off h)).kept hk78 (fun _ _ _ _ => id)
      have cv1 := run_str (P := Try.prog) Try.underlying30 Try.underlying5 Try.underlying9 hs1' (len := n1) (cap := c1')
      have cv2 := run_str (P := Try.prog) Try.underlying30 Try.underlying5 Try.underlying9 (hs15.kept hk78 (fun _ _ _ _ => id)) (len := n2) (cap := c2')
      rw [hSX] at cv1 cv2
      have HKZ := Lib.hid ((H14.out.2.2.2.trans (hk15.mono fun i hi h => Or.inr h.1.1)).then hk78)
      clear hs15 hk15 hk78 hb15 hb13 hSX hs1' hmw hmh hme hmp hsim
      go_wp2
      refine bodyPost_ret (v := .bool true) (by simp [results, Try.results7, go_sem]) rfl ⟨rfl, HKZ.out.below⟩
theorem law_repeats {v n : Int} {a1 : Option Addr} {l1 c1 : Nat} {z1 : List Int} {w : World} (f0 : (Lit.int .u8 v).wf = true) (f1 : (Lit.int .i64 n).wf = true) (f2 : IsRow .u8 w a1 l1 c1 z1) :
    Calls Try.prog 7 #[.int .u8 v, .int .i64 n, .slice a1 l1 c1] w fun e w' => e = .returned (.bool true) ∧ Below w.heap.size w w' := by
  obtain ⟨bs, s0, b0, -, k0, m0, n0, e0⟩ := row_ints f2
  have h1 := u8_of_wf f0
  obtain ⟨vv, rfl⟩ := Int.eq_ofNat_of_zero_le h1.1
  exact repeats_go vv n a1 l1 c1 bs w (by omega) (int_of_wf f1) s0 b0 n0 (by omega)
end Go.Proofs.Ytomcjdonacckfaa
