/- What the library does for two slices of bytes: Grow, Concat; Decode. -/
import Derived.Test.YtgmbjebighhgkaaWrite
import Derived.Test.YtgmbjebighhgkaaGrow
import Derived.Lib.AppendZerosOnto
import Derived.Lib.SliceRun
namespace Go.Proofs.Ytgmbjebighhgkaa
open Go.RowKit Go.Sort
set_option linter.unusedVariables false
set_option linter.unusedSimpArgs false
attribute [local go_sem] growOp growUpon sameUpon
set_option maxRecDepth 100000 in
set_option maxHeartbeats 4000000 in
theorem growS_zero (w : World) : Calls Try.prog 33 #[.slice none 0 0, .int .i64 0] w fun e w' => e = .returned (.slice none 0 0) ∧ w' = w := by
  have l0 : IntKind.i64.wrap 0 = 0 := by decide
  go_enter Try.func33, Try.ntmps33
  go_wp2
  exact bodyPost_ret (v := .slice none 0 0) (by simp [results, Try.results33, go_sem]) rfl ⟨rfl, rfl⟩
set_option maxRecDepth 100000 in
set_option maxHeartbeats 4000000 in
theorem growS_pos (n : Nat) (w : World) (h0 : 0 < n) (hn : n ≤ 655360) : Calls Try.prog 33 #[.slice none 0 0, .int .i64 n] w fun e w' => ∃ G, e = .returned (.slice (some ⟨w.heap.size, 0, none⟩) 0 G) ∧ Own .u8 5 w' (.slice (some ⟨w.heap.size, 0, none⟩) 0 G) [] ∧ Kept (fun _ => False) w w' := by
  obtain ⟨i0, hi, hz0, hz1, hz2⟩ := info_parts tinfo5
  have hG1 := grownCap_ge w n 0 5
  have hG2 := grownCap_le_maxLen w n 0 5 (by simp only [maxLen]; omega)
  obtain ⟨G, hG⟩ : ∃ G, grownCap w n 0 5 = G := ⟨_, rfl⟩
  have hrz : ∀ ty, (Builtin.append_ #[28, 3] ty #[.slice none 0 0, .int .i64 n]).run Try.prog w = .ok (.slice (some ⟨w.heap.size, 0, none⟩) n G) (w.drew.alloc (.cells (Builtin.zeroCells (Value.int .u8 0).cells n ++ Builtin.zeroCells (Value.int .u8 0).cells (G - n)) 5)) := fun ty => by
    have h := Lib.run_append_grow_zeros (P := Try.prog) w 28 3 ty 5 i0 (.int .u8 0) .i64 .i64 Try.underlying28 Try.underlying3 hi hz0 none 0 0 [] (run_firstCells_none w.drew i0.size 0 0 0) n h0 (by omega) (by omega) (by omega) (by rw [hz2]; omega) (growslice_fits (by omega) (by rw [hz2]; omega))
    rw [Nat.zero_add, hG] at h
    simpa using h
  rw [hG] at hG1 hG2
  obtain ⟨V, hV⟩ : ∃ V, w.drew.alloc (.cells (Builtin.zeroCells (Value.int .u8 0).cells n ++ Builtin.zeroCells (Value.int .u8 0).cells (G - n)) 5) = V := ⟨_, rfl⟩
  rw [hV] at hrz
  have HO := Lib.hid (show Own .u8 5 V (.slice (some ⟨w.heap.size, 0, none⟩) 0 G) [] by
    rw [← hV]
    exact World.ownsRow_made (base := 0) w.drew _ G (Nat.zero_le _) hG2 (by rw [Array.size_append, size_zeroCells, size_zeroCells]; show n * 1 + (G - n) * 1 = G * 1; omega))
  have HK := Lib.hid (show Kept (fun _ => False) w V by rw [← hV]; exact (Kept.refl _ w).drew.alloc _)
  have g0 : decide ((n : Int) < 0) = false := decide_eq_false (by omega)
  have g1 : decide (0 < (n : Int)) = true := decide_eq_true (by omega)
  have g2 : decide (0 < n) = true := decide_eq_true h0
  have w1 : IntKind.i64.wrap (n : Int) = (n : Int) := IntWalk.i64_in _ (by omega)
  clear hi hz0 hz1 hz2 hV hG
  go_enter Try.func33, Try.ntmps33
  go_wp2_with (at_builtin; refine Lib.wpList_append_run _ rfl _ _ _ _ rfl _ _ rfl rfl _ _ (hrz _) ?_)
  go_ret
  exact ⟨G, rfl, HO.out, HK.out⟩
theorem growS_any (n : Nat) (w : World) (hn : n ≤ 655360) : Calls Try.prog 33 #[.slice none 0 0, .int .i64 n] w fun e w' => ∃ b G, e = .returned (.slice b 0 G) ∧ Own .u8 5 w' (.slice b 0 G) [] ∧ Kept (fun _ => False) w w' ∧ Fresh w (.slice b 0 G) := by
  by_cases h : n = 0
  · subst h
    refine (growS_zero w).mono ?_
    rintro e w' ⟨rfl, rfl⟩
    exact ⟨none, 0, rfl, Own.nil _ _ _, Kept.refl _ _, .inl rfl⟩
  · refine (growS_pos n w (by omega) hn).mono ?_
    rintro e w' ⟨G, rfl, h1, h2⟩
    exact ⟨_, G, rfl, h1, h2, .inr ⟨w.heap.size, rfl, Nat.le_refl _⟩⟩
theorem Fresh.app {w wr w5 : World} {v v5 : Value} (hk : Kept (fun _ => False) w wr) (hf : Fresh w v) (hk5 : Kept (fun k => v.ownBlock = some k) wr w5) (hpr : v5.ownBlock = v.ownBlock ∨ v5.ownBlock = some wr.heap.size) :
    Kept (fun _ => False) w w5 ∧ Fresh w v5 := by
  have hs := hk.size
  refine ⟨hk.trans (hk5.mono fun i _ hi => Or.inr ?_), ?_⟩
  · rcases hf with h | ⟨g, h, hg⟩
    · rw [h] at hi; cases hi
    · rw [h] at hi; have := Option.some.inj hi; omega
  · rcases hpr with h | h
    · rcases hf with h2 | ⟨g, h2, hg⟩
      · exact .inl (h.trans h2)
      · exact .inr ⟨g, h.trans h2, hg⟩
    · exact .inr ⟨_, h, hs⟩
theorem SlAt.up {k : IntKind} {w w' : World} {a0 : Option Addr} {len : Nat} {xs : List Int} (h : SlAt k w a0 len xs) (hk : Kept (fun _ => False) w w') : SlAt k w' a0 len xs := h.kept hk (fun _ _ _ _ => id)
theorem Own.shapeLen {k : IntKind} {e : TypeId} {w : World} {v : Value} {xs : List Int} {n : Nat} (h : Own k e w v xs) (hn : xs.length = n) : ∃ a cap, v = .slice a n cap := by
  obtain ⟨a, cap, hv, -⟩ := h.shape
  exact ⟨a, cap, by rw [hv, hn]⟩
set_option maxRecDepth 100000 in
set_option maxHeartbeats 4000000 in
theorem concat_any (p : Nat) (a1 a2 : Option Addr) (n1 c1 n2 c2 : Nat) (xs ys : List Int) (w : World) (hb : w.heap[p]? = some (.cells #[.slice a1 n1 c1, .slice a2 n2 c2] 28 (0, 0))) (h1 : SlAt .u8 w a1 n1 xs) (h2 : SlAt .u8 w a2 n2 ys) (e1 : a1 = none → n1 = 0 ∧ c1 = 0) (e2 : a2 = none → n2 = 0 ∧ c2 = 0) (hn : n1 + n2 ≤ 655360) :
    Calls Try.prog 29 #[.slice (some ⟨p, 0, none⟩) 2 2] w fun e w' => ∃ v, e = .returned v ∧ Own .u8 5 w' v (xs ++ ys) ∧ Kept (fun _ => False) w w' ∧ Fresh w v := by
  obtain ⟨i0, hi, hz0, hz1, hz2⟩ := info_parts tinfo5
  have HI := Lib.hid (And.intro hi (And.intro hz0 (And.intro hz1 hz2)))
  obtain ⟨⟨c0, -⟩, c1', -⟩ := blk2 hb
  have HB := Lib.hid hb
  have H1 := Lib.hid h1
  have H2 := Lib.hid h2
  have E1 := Lib.hid e1
  have E2 := Lib.hid e2
  have w0 : IntKind.i64.wrap (n1 : Int) = (n1 : Int) := IntWalk.i64_in _ (by omega)
  have w1 : IntKind.i64.wrap ((n1 : Int) + (n2 : Int)) = (n1 : Int) + (n2 : Int) := IntWalk.i64_in _ (by omega)
  have g0 : decide ((n1 : Int) < 0) = false := decide_eq_false (by omega)
  have g1 : decide ((n1 : Int) + (n2 : Int) < 0) = false := decide_eq_false (by omega)
  clear hi hz0 hz1 hz2 hb h1 h2 e1 e2
  go_enter Try.func29, Try.ntmps29
  go_wp2
  refine wp_loop_rounds 3 ?_
  rw [rounds_succ]
  go_wp2
  rw [rounds_succ]
  go_wp2
  rw [rounds_succ]
  go_wp2_with fail
  refine (growS_any (n1 + n2) _ hn).mono ?_; rintro e w2 ⟨b, G, rfl, ho2, hk2, hf2⟩
  obtain ⟨⟨d0, -⟩, d1', -⟩ := blk2 (hk2.blk HB.out id)
  have HO2 := Lib.hid ho2
  have HK2 := Lib.hid hk2
  have HF2 := Lib.hid hf2
  have A1 := Lib.hid (H1.out.up hk2)
  clear ho2 hk2 hf2 c0 c1'
  go_wp2
  refine wp_loop_rounds 3 ?_
  rw [rounds_succ]
  go_wp2_with (at_builtin; refine wpList_appInts rfl (.tmp 31) (.tmp 32) 28 rfl 5 .u8 i0 (.int .u8 0) 1 Try.underlying28 HI.out.1 HI.out.2.1 HI.out.2.2.1 HI.out.2.2.2 rfl (.slice b 0 G) [] rfl HO2.out a1 n1 c1 xs rfl E1.out A1.out (by simp; omega) (by simp [maxLen]; omega) ?_; intro v3 w3 ho3 hk3 hpr3; obtain ⟨hk23, hf3⟩ := Fresh.app HK2.out HF2.out hk3 hpr3; have HK3 := Lib.hid hk23; have HF3 := Lib.hid hf3; rw [List.nil_append] at ho3; obtain ⟨a3, cap3, hv3⟩ := ho3.shapeLen (A1.out).1; subst hv3; have HO3 := Lib.hid ho3; have A2 := Lib.hid (H2.out.up hk23); obtain ⟨⟨e0, -⟩, e1', -⟩ := blk2 (hk23.blk HB.out id); clear ho3 hk3 hpr3 hk23 hf3 d0 d1')
  rw [rounds_succ]
  go_wp2_with (at_builtin; refine wpList_appInts rfl (.tmp 31) (.tmp 32) 28 rfl 5 .u8 i0 (.int .u8 0) 1 Try.underlying28 HI.out.1 HI.out.2.1 HI.out.2.2.1 HI.out.2.2.2 rfl (.slice a3 n1 cap3) xs rfl HO3.out a2 n2 c2 ys rfl E2.out A2.out (by rw [(A1.out).1]; omega) (by rw [(A1.out).1]; simp only [maxLen]; omega) ?_; intro v4 w4 ho4 hk4 hpr4; obtain ⟨hk24, hf4⟩ := Fresh.app HK3.out HF3.out hk4 hpr4; have HK4 := Lib.hid hk24; have HF4 := Lib.hid hf4; obtain ⟨a4, cap4, hv4, -⟩ := ho4.shape; rw [List.length_append] at hv4; subst hv4; have HO4 := Lib.hid ho4; clear ho4 hk4 hpr4 hk24 hf4)
  rw [rounds_succ]
  go_wp2
  go_ret
  exact ⟨_, rfl, HO4.out, HK4.out, HF4.out⟩

/-- A text's bytes, and the error. -/
def decode (bs : List Nat) : List Nat × Nat :=
  if (write fresh bs).2.2 ≠ 0 then ([], (write fresh bs).2.2) else if (fin (write fresh bs).1).2.2 ≠ 0 then ([], (fin (write fresh bs).1).2.2) else ((write fresh bs).2.1 ++ (fin (write fresh bs).1).2.1, 0)
theorem write_err (s : St) (bs : List Nat) : (write s bs).2.2 = 0 ∨ write s bs = (broken, [], 3) := by
  unfold write
  split
  · exact .inr rfl
  · cases run s bs with
    | none => exact .inr rfl
    | some p => exact .inl rfl
theorem fin_err (s : St) : (fin s).2.2 = 0 ∨ fin s = (broken, [], 3) := by
  unfold fin
  split
  · exact .inr rfl
  · exact .inl rfl
theorem write_len {s : St} {bs : List Nat} : (write s bs).2.1.length ≤ 3 * bs.length := by
  unfold write
  split
  · simp
  · cases h : run s bs with
    | none => simp
    | some p => obtain ⟨t, x⟩ := p; exact run_len h
theorem fin_len (s : St) : (fin s).2.1.length ≤ 3 := by
  unfold fin
  split
  · simp
  · simp [out, oct, List.length_take]; omega
set_option maxRecDepth 100000 in
set_option maxHeartbeats 8000000 in
theorem decode_any (a0 : Option Addr) (len cap : Nat) (bs : List Nat) (w : World) (hs : SlAt .u8 w a0 len (ints bs)) (hby : ∀ c ∈ bs, c < 256) (hl : len ≤ 65536) (hna : ∀ b off, 0 < len → a0 = some ⟨b, off, none⟩ → b < w.heap.size) :
    Calls Try.prog 18 #[.slice a0 len cap] w fun e w' => ∃ u, e = .returned (.tuple #[u, .int .i64 (decode bs).2]) ∧ Own .u8 5 w' u (ints (decode bs).1) ∧ Kept (fun _ => False) w w' ∧ Fresh w u := by
  have hlen : bs.length = len := by rw [← hs.1, ints_length]
  have HS := Lib.hid hs
  have HBY := Lib.hid hby
  have HNA := Lib.hid hna
  have HLN := Lib.hid hlen
  clear hs hby hna hlen
  go_enter Try.func18, Try.ntmps18
  go_wp2_with fail
  refine (new_any w).mono ?_
  rintro e w1 ⟨rfl, hd1, hk1⟩
  obtain ⟨a, ha⟩ : ∃ a, w.heap.size = a := ⟨_, rfl⟩
  rw [ha] at hd1 ⊢
  have HA := Lib.hid ha
  have HAW := Lib.hid (show a < w1.heap.size from lt_of_blk hd1)
  have HK1 := Lib.hid hk1
  have HW := Lib.hid (write_any a fresh a0 len cap bs w1 (fresh_dc hd1) sane_fresh (HS.out.up hk1) HBY.out hl (fun b off h0 h => by have := HNA.out b off h0 h; omega))
  clear hd1 hk1 ha
  obtain ⟨er, her⟩ : ∃ er, (write fresh bs).2.2 = er := ⟨_, rfl⟩
  have HER := Lib.hid her
  go_wp2_with fail
  refine HW.out.mono ?_
  rintro e w2 ⟨u, rfl, hr2, hd2, hk2⟩
  rw [her]
  have HK2 := Lib.hid (HK1.out.trans (hk2.mono fun i _ hi => Or.inr (by have := HA.out; omega)))
  obtain ⟨ub, un, ucap, rfl, hus, hun, hum, hu0, huf⟩ := hr2
  have HU := Lib.hid (And.intro hus (And.intro hu0 huf))
  have HD2 := Lib.hid hd2
  clear hk2 hd2 hus hu0 huf her
  by_cases h0 : er = 0
  · subst h0
    have HE := Lib.hid (end_any a _ w2 HD2.out)
    obtain ⟨er, her⟩ : ∃ er, (fin (write fresh bs).1).2.2 = er := ⟨_, rfl⟩
    have HER2 := Lib.hid her
    rw [her] at HE
    go_wp2_with fail
    refine HE.out.mono ?_
    rintro e w3 ⟨v, rfl, ho3, hd3, hk3, hf3⟩
    have HK3 := Lib.hid (HK2.out.trans (hk3.mono fun i _ hi => Or.inr (by have := HA.out; omega)))
    have HUS := Lib.hid (HU.out.1.kept hk3 (fun b off _ hb (hS : b = a) => by have := HU.out.2.2 b off hb; have := HAW.out; omega))
    obtain ⟨va, vcap, rfl, hvs, hvn, hvm, hv0, -⟩ := ho3.shape
    have hyl := fin_len (write fresh bs).1
    obtain ⟨nv, hnv⟩ : ∃ nv, (ints (fin (write fresh bs).1).2.1).length = nv := ⟨_, rfl⟩
    rw [hnv] at hvs hv0 hvn ⊢
    have HNV := Lib.hid (show nv ≤ 3 by rw [← hnv, ints_length]; exact hyl)
    have HV := Lib.hid (And.intro hvs hv0)
    clear ho3 hd3 hk3 hf3 hvs hv0 her hyl hnv
    by_cases h0 : er = 0
    · subst h0
      have hdec : decode bs = ((write fresh bs).2.1 ++ (fin (write fresh bs).1).2.1, 0) := by
        unfold decode
        rw [if_neg (by rw [HER.out]; simp), if_neg (by rw [HER2.out]; simp)]
      have HDEC := Lib.hid hdec
      clear hdec
      obtain ⟨W, hW⟩ : ∃ W, w3.alloc (.cells #[.slice ub un ucap, .slice va nv vcap] 28) = W := ⟨_, rfl⟩
      have kW : Kept (fun _ => False) w3 W := by rw [← hW]; exact (Kept.refl _ w3).alloc _
      have bW : W.heap[w3.heap.size]? = some (.cells #[.slice ub un ucap, .slice va nv vcap] 28 (0, 0)) := by rw [← hW]; exact blk_new _ _
      have hun2 : un ≤ 196608 := by rw [← HU.out.1.1, ints_length]; have := write_len (s := fresh) (bs := bs); rw [HLN.out] at this; omega
      have HC := Lib.hid (concat_any w3.heap.size ub va un ucap nv vcap _ _ W bW (HUS.out.up kW) (HV.out.1.up kW) HU.out.2.1 HV.out.2 (by have := HNV.out; omega))
      have HKW := Lib.hid (HK3.out.then kW)
      clear kW bW hun2
      go_wp2_with fail
      refine HC.out.mono ?_
      rintro e w4 ⟨v, rfl, ho4, hk4, hf4⟩
      have H4 := Lib.hid (And.intro ho4 (And.intro (HKW.out.then hk4) (show Fresh w v from by
        rcases hf4 with h | ⟨g, h, hg⟩
        · exact .inl h
        · exact .inr ⟨g, h, by have := HKW.out.size; omega⟩)))
      clear ho4 hk4 hf4
      go_wp2
      refine bodyPost_ret (v := .tuple #[v, .int .i64 0]) (by simp [results, Try.results18, go_sem]) rfl ?_
      rw [HDEC.out, ints_append]
      exact ⟨v, rfl, H4.out⟩
    · have ne : ((er : Int) != 0) = true := by simp; omega
      have hdec : decode bs = ([], er) := by
        unfold decode
        rw [if_neg (by rw [HER.out]; simp), if_pos (by rw [HER2.out]; exact h0), HER2.out]
      have HDEC := Lib.hid hdec
      clear hdec h0
      go_wp2
      refine bodyPost_ret (v := .tuple #[.slice none 0 0, .int .i64 er]) (by simp [results, Try.results18, go_sem]) rfl ?_
      rw [HDEC.out]
      exact ⟨_, rfl, Own.nil _ _ _, HK3.out, .inl rfl⟩
  · have ne : ((er : Int) != 0) = true := by simp; omega
    have hdec : decode bs = ([], er) := by
      unfold decode
      rw [if_pos (by rw [HER.out]; exact h0), HER.out]
    have HDEC := Lib.hid hdec
    clear hdec h0
    go_wp2
    refine bodyPost_ret (v := .tuple #[.slice none 0 0, .int .i64 er]) (by simp [results, Try.results18, go_sem]) rfl ?_
    rw [HDEC.out]
    exact ⟨_, rfl, Own.nil _ _ _, HK2.out, .inl rfl⟩
end Go.Proofs.Ytgmbjebighhgkaa
