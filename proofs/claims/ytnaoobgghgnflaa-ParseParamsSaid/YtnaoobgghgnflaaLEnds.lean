/- The law ParseEnds: whatever came ahead, 18 brings it to ground; a text behind it is read as one. -/
import Derived.Test.YtnaoobgghgnflaaEndsP
import Derived.Test.YtnaoobgghgnflaaKnown
import Derived.Test.YtnaoobgghgnflaaOpen
import Derived.Deep.DeepCutAuto
namespace Go.Proofs.Ytnaoobgghgnflaa
open Go.RowKit Pl
set_option linter.unusedVariables false
set_option linter.unusedSimpArgs false
def plainB (c : Int) : Bool := decide (32 ≤ c) && decide (c < 127)
theorem filt_yes {xs : List Int} {k : Nat} {c : Int} (h : xs[k]? = some c) (hf : plainB c = true) : (xs.take (k + 1)).filter plainB = (xs.take k).filter plainB ++ [c] := by
  rw [List.take_add_one, h, List.filter_append]
  simp [List.filter_cons, hf]
theorem filt_no {xs : List Int} {k : Nat} {c : Int} (h : xs[k]? = some c) (hf : plainB c = false) : (xs.take (k + 1)).filter plainB = (xs.take k).filter plainB := by
  rw [List.take_add_one, h, List.filter_append]
  simp [List.filter_cons, hf]
theorem sl_at {w : World} {b off n : Nat} {xs : List Int} (h : SlAt .u8 w (some ⟨b, off, none⟩) n xs) {k : Nat} {c : Int} (hc : xs[k]? = some c) : w.cell? ⟨b, off + k, none⟩ = some (.int .u8 c) := by
  obtain ⟨h1, h2⟩ := h
  have hk : k < xs.length := (List.getElem?_eq_some_iff.1 hc).1
  obtain ⟨b', off', he, hcell⟩ := h2.resolve_left (by omega)
  cases he
  rw [hcell k (by omega), List.getD_eq_getElem?_getD, hc]
  rfl
theorem bytes_in {zs : List Int} {len : Nat} (h : ∀ n ∈ zs.take len, (Lit.int .u8 n).wf = true) : ∀ x ∈ zs.take len, 0 ≤ x ∧ x < 256 := by
  intro x hx
  have h2 := h x hx
  simp [Lit.wf, IntKind.min, IntKind.max, IntKind.signed, IntKind.bits] at h2
  omega
set_option maxRecDepth 100000 in
set_option maxHeartbeats 8000000 in
theorem ends_go (a0 : Option Addr) (len cap : Nat) (xs : List Int) (q0 : Option Addr) (len1 cap1 : Nat) (ys : List Int) (W : World) (hs : SlAt .u8 W a0 len xs) (hby : ∀ x ∈ xs, 0 ≤ x ∧ x < 256) (hnil : a0 = none → len = 0 ∧ cap = 0) (hlc : len ≤ cap) (hbl : ∀ b off, 0 < len → a0 = some ⟨b, off, none⟩ → b < W.heap.size)
    (hs1 : SlAt .u8 W q0 len1 ys) (hby1 : ∀ x ∈ ys, 0 ≤ x ∧ x < 256) (hbl1 : ∀ b off, 0 < len1 → q0 = some ⟨b, off, none⟩ → b < W.heap.size) :
    Calls Try.prog 3 #[.slice a0 len cap, .slice q0 len1 cap1] W fun e w' => e = .returned (.bool true) ∧ Below W.heap.size W w' := by
  have hyl := hs1.1
  go_enter Try.func3, Try.ntmps3
  go_wp2_with fail
  refine (known_any W).mono ?_
  rintro e w1 ⟨rfl, hk1⟩
  have HK1 := Lib.hid hk1
  clear hk1
  by_cases c1 : 4096 < len
  · have g1 : decide ((4096 : Int) < (len : Int)) = true := decide_eq_true (by omega)
    have g1' : decide (4096 < len) = true := decide_eq_true c1
    go_wp2
    exact bodyPost_ret (v := .bool true) (by simp [results, Try.results3, go_sem]) rfl ⟨rfl, HK1.out.below⟩
  have g1 : decide ((4096 : Int) < (len : Int)) = false := decide_eq_false (by omega)
  have g1' : decide (4096 < len) = false := decide_eq_false c1
  by_cases c2 : 4096 < len1
  · have g2 : decide ((4096 : Int) < (len1 : Int)) = true := decide_eq_true (by omega)
    have g2' : decide (4096 < len1) = true := decide_eq_true c2
    go_wp2
    exact bodyPost_ret (v := .bool true) (by simp [results, Try.results3, go_sem]) rfl ⟨rfl, HK1.out.below⟩
  have g2 : decide ((4096 : Int) < (len1 : Int)) = false := decide_eq_false (by omega)
  have g2' : decide (4096 < len1) = false := decide_eq_false c2
  have HA := Lib.hid (And.intro hs (And.intro hby (And.intro hnil (And.intro hlc hbl))))
  have HB := Lib.hid (And.intro hs1 (And.intro hby1 (And.intro hbl1 hyl)))
  clear hs hby hnil hlc hbl hs1 hby1 hbl1 hyl
  go_wp2_with fail
  refine (new_any w1).mono ?_
  rintro r w2 ⟨p, G, rfl, hP2, hG2, hk2⟩
  have hz1 := HK1.out.size
  have HF := Lib.hid (feed_any G w2 p ps0 a0 len cap xs hP2 (HA.out.1.kept (HK1.out.then hk2) (fun _ _ _ _ => id)) HA.out.2.1 HA.out.2.2.1 HA.out.2.2.2.1 (by omega) (fun b off h0 h => ⟨fun hg => by have h3 := HA.out.2.2.2.2 b off h0 h; have h4 := hG2 b hg; omega, by have h3 := HA.out.2.2.2.2 b off h0 h; have h4 := hk2.size; omega⟩))
  have H2 := Lib.hid (And.intro (HK1.out.then hk2) (fun i hi => Nat.le_trans hz1 (hG2 i hi) : ∀ i, G i → W.heap.size ≤ i))
  clear hP2 hG2 hk2 hz1
  go_wp2_with fail
  refine HF.out.mono ?_
  rintro r w3 ⟨v3, G3, rfl, -, hP3, hG3, hk3⟩
  obtain ⟨S3, hS3⟩ : ∃ x, (feedF len ps0 xs).1 = x := ⟨_, rfl⟩
  have hI3 : Inv S3 := by rw [← hS3]; exact inv_feed len xs inv0
  rw [hS3] at hP3
  have hkW3 : Kept (fun _ => False) W w3 := H2.out.1.trans (hk3.mono fun i _ h => Or.inr (H2.out.2 i h))
  have hG3W : ∀ i, G3 i → W.heap.size ≤ i := fun i hi => by
    rcases hG3 i hi with h | h
    · exact H2.out.2 i h
    · have := H2.out.1.size; omega
  obtain ⟨W4, hW4⟩ : ∃ W4, w3.alloc (.cells #[.int .u8 24] 5) = W4 := ⟨_, rfl⟩
  have hk4 : Kept (fun _ => False) w3 W4 := by rw [← hW4]; exact (Kept.refl _ _).alloc _
  have hs4 : SlAt .u8 W4 (some ⟨w3.heap.size, 0, none⟩) 1 [24] := by rw [← hW4]; exact slAt_one w3 24 5
  have hz4 : W4.heap.size = w3.heap.size + 1 := by rw [← hW4]; simp
  have HF2 := Lib.hid (feed_any G3 W4 p S3 (some ⟨w3.heap.size, 0, none⟩) 1 1 [24] (hP3.kept hk4 (fun _ _ h => h)) hs4 (by intro x hx; simp at hx; omega) (fun h => by cases h) (by omega) (by omega) (fun b off _ h => by cases h; exact ⟨fun hg => by have := hP3.lt _ hg; omega, by omega⟩))
  have H3 := Lib.hid (And.intro hI3 (And.intro (hkW3.then hk4) hG3W))
  clear hS3 hI3 hP3 hG3 hk3 hkW3 hG3W hk4 hs4 hz4
  go_wp2_with fail
  refine HF2.out.mono ?_
  rintro r w5 ⟨v5, G5, rfl, hev5, hP5, hG5, hk5⟩
  obtain ⟨Vs5, ho5, hel5, hm5⟩ := hev5
  obtain ⟨t0, t1, t2, E0, hE0⟩ := after24 H3.out.1
  obtain ⟨S5, hS5⟩ : ∃ x, (feedF 1 S3 [24]).1 = x := ⟨_, rfl⟩
  rw [hS5] at hP5 t0 t1 t2
  rw [hE0] at hel5
  obtain ⟨n5, hn5⟩ : ∃ n, Vs5.length = n := ⟨_, rfl⟩
  obtain ⟨K, hK⟩ : ∃ K, E0.length = K := ⟨_, rfl⟩
  have hnK : n5 = K + 1 := by rw [← hn5, hel5.length]; simp [hK]
  obtain ⟨a5, c5, hv5, hs5, -⟩ := ho5.shape
  rw [hn5] at hv5 hs5
  subst hv5
  obtain ⟨u, hu⟩ : ∃ u, Vs5[K]? = some u := ⟨_, List.getElem?_eq_getElem (by omega)⟩
  obtain ⟨e, he, hat⟩ := hel5.get hu
  have hee : e = evX 2 0 24 := by rw [List.getElem?_append_right (by omega), hK] at he; simp at he; exact he.symm
  subst hee
  obtain ⟨b5, o5, rfl, hp5⟩ := pat_of hs5 hu
  obtain ⟨x0, -, x2, -⟩ := hp5.cells
  have q0' : u.k = 2 := hat.1
  have q2' : u.b = 24 := hat.2.2.1
  rw [q0'] at x0
  rw [q2'] at x2
  have n5z : ((n5 : Int) == 0) = false := by simp; omega
  have hnb : Vs5.length ≤ 9223372036854775807 := by rw [hel5.length, ← hE0]; have := stepS_len S3 24; rw [feedF_step (by omega) (run24 S3), feedF_nil]; simp; omega
  have wn : IntKind.i64.wrap ((n5 : Int) - 1) = (K : Int) := by rw [show (n5 : Int) - 1 = (K : Int) by omega]; exact IntWalk.i64_in _ (by omega)
  have hKn : K < n5 := by omega
  have hKn' : (K : Int) < (n5 : Int) := by omega
  have hgr : groundB S5 = true := by unfold groundB; rw [t0, t1]; rfl
  have HGR := Lib.hid (show Calls Try.prog 10 #[.pointer (some ⟨p, 0, none⟩)] w5 fun r w' => r = .returned (.bool true) ∧ w' = w5 from by have h := isground_any G5 w5 p _ hP5; rw [hgr] at h; exact h)
  have hkW5 : Kept (fun _ => False) W w5 := H3.out.2.1.trans (hk5.mono fun i _ h => Or.inr (H3.out.2.2 i h))
  have hG5W : ∀ i, G5 i → W.heap.size ≤ i := fun i hi => by
    rcases hG5 i hi with h | h
    · exact H3.out.2.2 i h
    · have := H3.out.2.1.size; omega
  have H5 := Lib.hid (And.intro hP5 (And.intro hkW5 (And.intro hG5W (And.intro t0 (And.intro t1 t2)))))
  clear ho5 hel5 hm5 hP5 hG5 hk5 t0 t1 t2 hE0 hS5 hn5 hK hnK hs5 hu he hat hp5 q0' q2' hnb hgr hkW5 hG5W
  go_wp2_with fail
  refine HGR.out.mono ?_
  rintro r w6 ⟨rfl, rfl⟩
  go_wp2
  obtain ⟨i0, hi, hz, hsz, hby⟩ := info_parts Try.infoByte
  have HI := Lib.hid (And.intro hi (And.intro hz (And.intro hsz hby)))
  have h63 : (9223372036854775807 : Nat) = maxLen := rfl
  clear hi hz hsz hby
  go_loopg [7, 8] len1 (fun gg g0 kv wr => ∃ (k : Nat) (gv : Value), gv = g0 ∧ len1 ≤ gg + k ∧ k ≤ len1 ∧ kv = .int .i64 (k : Int) ∧ Own .u8 5 wr gv ((ys.take k).filter plainB) ∧ (∀ b, gv.ownBlock = some b → w6.heap.size ≤ b) ∧ Kept (fun _ => False) w6 wr)
  case atStart => exact ⟨0, _, rfl, by omega, by omega, rfl, Own.nil _ _ _, (fun _ h => by cases h), Kept.refl _ _⟩
  case round =>
    obtain ⟨k, gv, rfl, hgg, hkn, rfl, hog, hgb, hk⟩ := hrel
    have HG := Lib.hid (And.intro hog (And.intro hgb hk))
    by_cases hk1 : k < len1
    · have g3 : decide (k < len1) = true := decide_eq_true hk1
      have g3' : decide ((k : Int) < (len1 : Int)) = true := decide_eq_true (by omega)
      have wk : IntKind.i64.wrap ((k : Int) + 1) = (k : Int) + 1 := IntWalk.i64_in _ (by omega)
      have hky : k < ys.length := by rw [HB.out.2.2.2]; exact hk1
      obtain ⟨c, hc⟩ : ∃ c, ys[k]? = some c := ⟨_, List.getElem?_eq_getElem hky⟩
      obtain ⟨b, off, rfl, -⟩ := HB.out.1.2.resolve_left (by omega)
      have hcx := sl_at (HB.out.1.kept (H5.out.2.1.then hk) (fun _ _ _ _ => id)) hc
      have HC := Lib.hid hc
      clear hky hc hog hgb hk
      by_cases h32 : 32 ≤ c
      · have g32 : decide (32 ≤ c) = true := decide_eq_true h32
        by_cases h127 : c < 127
        · have g127 : decide (c < 127) = true := decide_eq_true h127
          have HP := Lib.hid (show plainB c = true by unfold plainB; rw [g32, g127]; rfl)
          obtain ⟨ga, gc, hge, -⟩ := HG.out.1.shape
          have hfl : ((ys.take k).filter plainB).length ≤ 4096 := by have h1 := List.length_filter_le plainB (ys.take k); have h2 := List.length_take_le k ys; omega
          obtain ⟨gn, hgn⟩ : ∃ n, ((ys.take k).filter plainB).length = n := ⟨_, rfl⟩
          rw [hgn] at hge hfl
          subst hge
          have HN := Lib.hid hgn
          obtain ⟨W2, hW2⟩ : ∃ W2, wr.alloc (.cells #[.int .u8 c] 5) = W2 := ⟨_, rfl⟩
          have hk2 : Kept (fun _ => False) wr W2 := by rw [← hW2]; exact (Kept.refl _ _).alloc _
          have hs2 : SlAt .u8 W2 (some ⟨wr.heap.size, 0, none⟩) 1 [c] := by rw [← hW2]; exact slAt_one wr c 5
          have HW := Lib.hid (And.intro (HG.out.1.kept hk2 (fun _ _ => id)) (And.intro hs2 (And.intro hk2 hk2.size)))
          clear hk2 hs2 hgn h32 h127
          go_wp2_with (first
            | (at_builtin; refine wpList_appInts rfl (.tmp 76) (.tmp 81) 22 rfl 5 .u8 i0 (.int .u8 0) 1 Try.underlying22 HI.out.1 HI.out.2.1 HI.out.2.2.1 HI.out.2.2.2 rfl (.slice ga gn gc) _ rfl HW.out.1 (some ⟨wr.heap.size, 0, none⟩) 1 1 [c] rfl (fun h => by cases h) HW.out.2.1 (by have := HN.out; omega) (by have := HN.out; omega) ?_; intro v8 w8 ho8 hk8 hpr8; have H8 := Lib.hid (And.intro ho8 (And.intro hk8 hpr8)); clear ho8 hk8 hpr8))
          go_roundg (gk - 1)
          case rel =>
            obtain ⟨ho8, hk8, hpr8⟩ := H8.out
            have hzz := HG.out.2.2.size
            have hz2 := HW.out.2.2.2
            refine ⟨k + 1, v8, rfl, by omega, by omega, by simp, by rw [filt_yes HC.out HP.out]; exact ho8, fun b hb => ?_, (HG.out.2.2.then HW.out.2.2.1).trans (hk8.mono fun i _ h => Or.inr (HG.out.2.1 i h))⟩
            rcases hpr8 with h | h
            · exact HG.out.2.1 b (by rw [← h]; exact hb)
            · rw [hb] at h; cases h; omega
          case measure => omega
        · have g127 : decide (c < 127) = false := decide_eq_false h127
          have HP := Lib.hid (show plainB c = false by unfold plainB; rw [g127]; simp)
          clear h32 h127
          go_wp2
          go_roundg (gk - 1)
          case rel => exact ⟨k + 1, gv, rfl, by omega, by omega, by simp, by rw [filt_no HC.out HP.out]; exact HG.out.1, HG.out.2.1, HG.out.2.2⟩
          case measure => omega
      · have g32 : decide (32 ≤ c) = false := decide_eq_false h32
        have HP := Lib.hid (show plainB c = false by unfold plainB; rw [g32]; rfl)
        clear h32
        go_wp2
        go_roundg (gk - 1)
        case rel => exact ⟨k + 1, gv, rfl, by omega, by omega, by simp, by rw [filt_no HC.out HP.out]; exact HG.out.1, HG.out.2.1, HG.out.2.2⟩
        case measure => omega
    · obtain rfl : k = len1 := by omega
      have g3 : decide (k < k) = false := decide_eq_false hk1
      have hall : ys.take k = ys := List.take_of_length_le (Nat.le_of_eq HB.out.2.2.2)
      rw [hall] at hog
      obtain ⟨zs, hzs⟩ : ∃ z, ys.filter plainB = z := ⟨_, rfl⟩
      have hzl : zs.length ≤ 4096 := by rw [← hzs]; have h1 := List.length_filter_le plainB ys; have h2 := HB.out.2.2.2; omega
      have hzb : ∀ c ∈ zs, 32 ≤ c ∧ c < 127 := by
        intro c hc
        rw [← hzs] at hc
        have h2 := (List.mem_filter.1 hc).2
        unfold plainB at h2
        simp at h2
        exact h2
      rw [hzs] at hog
      have hol := hog.lt
      obtain ⟨ga, gc, hge, hgs, hgl, -, hgnil, hgo⟩ := hog.shape
      obtain ⟨n7, hn7⟩ : ∃ n, zs.length = n := ⟨_, rfl⟩
      rw [hn7] at hge hgs hgl hgnil hzl
      subst hge
      have hnG : ∀ b off, ga = some ⟨b, off, none⟩ → ¬ G5 b := fun b off h hg => by have h1 := hgb b (hgo b off h); have h2 := H5.out.1.lt b hg; omega
      have hFp := feed_print zs H5.out.2.2.2.1 H5.out.2.2.2.2.1 H5.out.2.2.2.2.2 hzb
      rw [hn7] at hFp
      have HF3 := Lib.hid (feed_any G5 wr p S5 ga n7 gc zs (H5.out.1.kept hk (fun _ _ h => h)) hgs (fun x hx => by have := hzb x hx; omega) hgnil hgl (by omega) (fun b off h0 h => ⟨hnG b off h, hol b (hgo b off h)⟩))
      have HZ := Lib.hid (And.intro hzb (And.intro hn7 (And.intro hgs (And.intro hnG (And.intro hk hFp)))))
      clear hall hzs hzb hog hol hgs hgl hgnil hgo hnG hFp hn7 hgb hk
      go_wp2_with fail
      refine HF3.out.mono ?_
      rintro r w9 ⟨v9, G9, rfl, hev9, hP9, hG9, hk9⟩
      obtain ⟨Vs9, ho9, hel9, hm9⟩ := hev9
      rw [HZ.out.2.2.2.2.2] at hel9
      have hl9 := hel9.length
      rw [List.length_map, HZ.out.2.1] at hl9
      obtain ⟨a9, c9, hv9, hs9, -⟩ := ho9.shape
      rw [hl9] at hv9 hs9
      subst hv9
      have H9 := Lib.hid (And.intro hel9 (And.intro hs9 (And.intro (HZ.out.2.2.1.kept hk9 (fun b off _ h => HZ.out.2.2.2.1 b off h)) (And.intro hl9 ((H5.out.2.1.then HZ.out.2.2.2.2.1).trans (hk9.mono fun i _ h => Or.inr (H5.out.2.2.1 i h)))))))
      clear ho9 hel9 hm9 hP9 hG9 hk9 hs9 hl9
      go_wp2
      go_loopg [10] n7 (fun gg iv wx => ∃ i : Nat, n7 ≤ gg + i ∧ i ≤ n7 ∧ iv = .int .i64 (i : Int) ∧ Kept (fun _ => False) w9 wx)
      case atStart => exact ⟨0, by omega, by omega, rfl, Kept.refl _ _⟩
      case round =>
        obtain ⟨i, hgi, hin, rfl, hki⟩ := hrel
        by_cases hi1 : i < n7
        · have g4 : decide (i < n7) = true := decide_eq_true hi1
          have g4' : decide ((i : Int) < (n7 : Int)) = true := decide_eq_true (by omega)
          have wi : IntKind.i64.wrap ((i : Int) + 1) = (i : Int) + 1 := IntWalk.i64_in _ (by omega)
          have hiz : i < zs.length := by rw [HZ.out.2.1]; exact hi1
          obtain ⟨c, hc⟩ : ∃ c, zs[i]? = some c := ⟨_, List.getElem?_eq_getElem hiz⟩
          have hcb := HZ.out.1 c (List.mem_of_getElem? hc)
          obtain ⟨u9, hu9⟩ : ∃ u, Vs9[i]? = some u := ⟨_, List.getElem?_eq_getElem (by rw [H9.out.2.2.2.1]; exact hi1)⟩
          obtain ⟨e9, he9, hat9⟩ := H9.out.1.get hu9
          have hee9 : e9 = evX 1 c 0 := by rw [List.getElem?_map, hc] at he9; simp at he9; exact he9.symm
          subst hee9
          obtain ⟨b9, o9, rfl, hp9⟩ := pat_of H9.out.2.1 hu9
          obtain ⟨b7, o7, rfl, -⟩ := H9.out.2.2.1.2.resolve_left (by omega)
          obtain ⟨E1, hE1⟩ : ∃ E, wr.drew = E := ⟨_, rfl⟩
          obtain ⟨k0, k1', -⟩ := (hp9.kept hki id).cells
          have p7 := sl_at (H9.out.2.2.1.kept hki (fun _ _ _ _ => id)) hc
          have kE : Kept (fun _ => False) wr E1 := by rw [← hE1]; exact (Kept.refl _ _).drew
          obtain ⟨l0, l1', -⟩ := ((hp9.kept hki id).kept kE id).cells
          have p7' := sl_at ((H9.out.2.2.1.kept hki (fun _ _ _ _ => id)).kept kE (fun _ _ _ _ => id)) hc
          have z0 : u9.k = 1 := hat9.1
          have z1 : u9.r = c := hat9.2.1
          rw [z0] at k0 l0
          rw [z1] at k1' l1'
          have wc : IntKind.i32.wrap c = c := by rw [IntKind.wrap_i32]; omega
          have HKE := Lib.hid (hki.then kE)
          clear hiz hc hcb hu9 he9 hat9 hp9 z0 z1 kE hki
          go_wp2
          go_still (by kernel_rfl)
          try rw [show (World.mk wr.heap wr.tape (wr.drawn + 1) wr.os wr.output) = E1 from hE1]
          go_wp2
          go_roundg (gk - 1)
          case rel => exact ⟨i + 1, by omega, by omega, by simp, HKE.out⟩
          case measure => omega
        · obtain rfl : i = n7 := by omega
          have g4 : decide (i < i) = false := decide_eq_false hi1
          have HKZ := Lib.hid (H9.out.2.2.2.2.then hki)
          clear hki hgi hi1
          go_wp2
          exact bodyPost_ret (v := .bool true) (by simp [results, Try.results3, go_sem]) rfl ⟨rfl, HKZ.out.below⟩
theorem law_ends {a0 a1 : Option Addr} {l0 c0 l1 c1 : Nat} {z0 z1 : List Int} {w : World} (f0 : IsRow .u8 w a0 l0 c0 z0) (f1 : IsRow .u8 w a1 l1 c1 z1) :
    Calls Try.prog 3 #[.slice a0 l0 c0, .slice a1 l1 c1] w fun e w' => e = .returned (.bool true) ∧ Below w.heap.size w w' := by
  obtain ⟨h1, h2, h3, h4, h5, h6⟩ := f0.slAt
  obtain ⟨k1, k2, k3, k4, k5, k6⟩ := f1.slAt
  exact ends_go a0 l0 c0 (z0.take l0) a1 l1 c1 (z1.take l1) w h1 (bytes_in h4) h6 h2 h5 k1 (bytes_in k4) k5
end Go.Proofs.Ytnaoobgghgnflaa
