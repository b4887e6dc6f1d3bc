/- The document's Decode, Encode. -/
import Derived.Test.YtgmbjebighhgkaaREnd
import Derived.Deep.LoopGhost
namespace Go.Proofs.Ytgmbjebighhgkaa
open Go.RowKit
set_option linter.unusedVariables false
set_option linter.unusedSimpArgs false
theorem u8_of_wf {n : Int} (h : (Lit.int .u8 n).wf = true) : 0 ≤ n ∧ n < 256 := by
  simp [Lit.wf, IntKind.min, IntKind.max, IntKind.signed, IntKind.bits] at h
  omega
theorem int_of_wf {n : Int} (h : (Lit.int .i64 n).wf = true) : -9223372036854775808 ≤ n ∧ n ≤ 9223372036854775807 := by
  simp [Lit.wf, IntKind.min, IntKind.max, IntKind.signed, IntKind.bits] at h
  omega
/-- A slice of bytes that comes in, as a list of natural numbers. -/
theorem row_ints {w : World} {a : Option Addr} {len cap : Nat} {zs : List Int} (h : IsRow .u8 w a len cap zs) :
    ∃ bs : List Nat, SlAt .u8 w a len (ints bs) ∧ (∀ c ∈ bs, c < 256) ∧ bs.length = len ∧ len ≤ cap ∧ cap ≤ 9223372036854775807 ∧ (∀ b off, 0 < len → a = some ⟨b, off, none⟩ → b < w.heap.size) ∧ (a = none → len = 0 ∧ cap = 0) := by
  obtain ⟨h1, h2, h3, h4, h5, h6⟩ := h.slAt
  have e : zs.take len = ints ((zs.take len).map Int.toNat) := by
    unfold ints
    rw [List.map_map]
    have : ∀ n ∈ zs.take len, ((fun (n : Nat) => (n : Int)) ∘ Int.toNat) n = id n := by
      intro n hn
      have h9 := u8_of_wf (h4 n hn)
      simp; omega
    rw [List.map_congr_left this]; simp
  refine ⟨(zs.take len).map Int.toNat, by rw [← e]; exact h1, ?_, ?_, h2, h3, h5, h6⟩
  · intro c hc
    obtain ⟨n, hn, rfl⟩ := List.mem_map.1 hc
    have h9 := u8_of_wf (h4 n hn)
    omega
  · have := h1.1
    simp at this ⊢; omega
theorem rd_fresh (w : World) : RD (w.alloc (.cells #[.slice none 0 0, .bool false, .bool false] 30)) w.heap.size fresh none := rd_nil (l := false) (b := false) (blk_new w _)
set_option maxRecDepth 100000 in
set_option maxHeartbeats 8000000 in
theorem rdecode_any (a0 : Option Addr) (len cap : Nat) (bs : List Nat) (w : World) (hs : SlAt .u8 w a0 len (ints bs)) (hby : ∀ c ∈ bs, c < 256) (hl : len ≤ 65536) (hna : ∀ b off, 0 < len → a0 = some ⟨b, off, none⟩ → b < w.heap.size) :
    Calls Try.prog 19 #[.slice a0 len cap] w fun e w' => ∃ u, e = .returned (.tuple #[u, .int .i64 (decode bs).2]) ∧ Own .u8 5 w' u (ints (decode bs).1) ∧ Kept (fun _ => False) w w' ∧ Fresh w u := by
  obtain ⟨i0, hi, hz0, hz1, hz2⟩ := info_parts tinfo5
  have HI := Lib.hid (And.intro hi (And.intro hz0 (And.intro hz1 hz2)))
  clear hi hz0 hz1 hz2
  have hlen : bs.length = len := by rw [← hs.1, ints_length]
  have HLN := Lib.hid hlen
  obtain ⟨a, ha⟩ : ∃ a, w.heap.size = a := ⟨_, rfl⟩
  obtain ⟨w1, hw1⟩ : ∃ w1, w.alloc (.cells #[.slice none 0 0, .bool false, .bool false] 30) = w1 := ⟨_, rfl⟩
  have hk1 : Kept (fun _ => False) w w1 := by rw [← hw1]; exact (Kept.refl _ _).alloc _
  have hd1 : RD w1 a fresh none := by rw [← hw1, ← ha]; exact rd_fresh w
  have hsz1 : a < w1.heap.size := hd1.lt.1
  have HW := Lib.hid (rwrite_any a fresh none a0 len cap bs w1 hd1 sane_fresh small_fresh (hs.up hk1) hby hl (fun b off h0 h => ⟨by have := hna b off h0 h; omega, by simp⟩))
  have HBY := Lib.hid hby
  have HK1 := Lib.hid (And.intro hk1 hsz1)
  have HA := Lib.hid ha
  clear hs hby hna hlen hk1 hd1 hsz1
  go_enter Try.func19, Try.ntmps19
  go_wp2_with fail
  try rw [ha]
  refine HW.out.mono ?_
  clear hw1 ha
  obtain ⟨er, her⟩ : ∃ er, (write fresh bs).2.2 = er := ⟨_, rfl⟩
  have HER := Lib.hid her
  rintro e w2 ⟨u, o, rfl, hr2, hd2, he2, hf2⟩
  rw [her]
  have hk2 : Kept (fun _ => False) w w2 := HK1.out.1.trans (he2.1.mono fun i _ hi => Or.inr (by have := HA.out; rcases hi with h | h; (omega); (cases h)))
  have HK2 := Lib.hid hk2
  have hua : u.ownBlock ≠ some a := by
    rcases hf2 with h | ⟨g, h, hg⟩
    · rw [h]; simp
    · rw [h]; intro e; have := Option.some.inj e; have := HK1.out.2; omega
  have hfu : Fresh w u := by
    rcases hf2 with h | ⟨g, h, hg⟩
    · exact .inl h
    · exact .inr ⟨g, h, by have := HK1.out.1.size; omega⟩
  have HU := Lib.hid (And.intro hr2 (And.intro hua hfu))
  have HD2 := Lib.hid hd2
  have HE := Lib.hid (rend_any a _ _ _ hd2 (write_sane _) (write_small small_fresh HBY.out))
  clear hk2 hd2 her hr2 he2 hf2 hua hfu
  by_cases h0 : er = 0
  · subst h0
    obtain ⟨er, her⟩ : ∃ er, (fin (write fresh bs).1).2.2 = er := ⟨_, rfl⟩
    have HER2 := Lib.hid her
    go_wp2_with fail
    refine HE.out.mono ?_
    rintro e w3 ⟨v, rfl, ho3, hd3, hk3, hf3⟩
    rw [her]
    have HK3 := Lib.hid (HK2.out.trans (hk3.mono fun i _ hi => Or.inr (by have := HA.out; omega)))
    have HUS := Lib.hid (HU.out.1.kept hk3 (fun b hb (hS : b = a) => HU.out.2.1 (by rw [hb, hS])))
    obtain ⟨va, vcap, rfl, hvs, hvn, hvm, hv0, -⟩ := ho3.shape
    have hyl := fin_len (write fresh bs).1
    obtain ⟨nv, hnv⟩ : ∃ nv, (ints (fin (write fresh bs).1).2.1).length = nv := ⟨_, rfl⟩
    rw [hnv] at hvs hv0 hvn ⊢
    have hxl : (ints (write fresh bs).2.1).length ≤ 196608 := by rw [ints_length]; have := write_len (s := fresh) (bs := bs); rw [HLN.out] at this; omega
    have hnv3 : nv ≤ 3 := by rw [← hnv, ints_length]; exact hyl
    have HV := Lib.hid (And.intro hvs hv0)
    have HBD := Lib.hid (show ((ints (write fresh bs).2.1).length + nv) * 1 ≤ 140737488355328 ∧ (ints (write fresh bs).2.1).length + nv ≤ maxLen from ⟨by omega, by simp only [maxLen]; omega⟩)
    clear ho3 hd3 hk3 hf3 hvs hv0 her hyl hnv hxl hnv3
    by_cases h0 : er = 0
    · subst h0
      have hdec : decode bs = ((write fresh bs).2.1 ++ (fin (write fresh bs).1).2.1, 0) := by
        unfold decode
        rw [if_neg (by rw [HER.out]; simp), if_neg (by rw [HER2.out]; simp)]
      have HDEC := Lib.hid hdec
      clear hdec
      go_wp2_with (at_builtin; refine wpList_appInts rfl (.tmp 28) (.tmp 29) 28 rfl 5 .u8 i0 (.int .u8 0) 1 Try.underlying28 HI.out.1 HI.out.2.1 HI.out.2.2.1 HI.out.2.2.2 rfl u _ rfl HUS.out va nv vcap _ rfl HV.out.2 HV.out.1 HBD.out.1 HBD.out.2 ?_; intro v5 w5 ho5 hk5 hpr5)
      have H4 := Lib.hid (And.intro ho5 (And.intro hk5 hpr5))
      clear ho5 hk5 hpr5
      go_wp2
      refine bodyPost_ret (v := .tuple #[v5, .int .i64 0]) (by simp [results, Try.results19, go_sem]) rfl ?_
      rw [HDEC.out, ints_append]
      exact ⟨v5, rfl, H4.out.1, (Fresh.app HK3.out HU.out.2.2 H4.out.2.1 H4.out.2.2).1, (Fresh.app HK3.out HU.out.2.2 H4.out.2.1 H4.out.2.2).2⟩
    · have ne : ((er : Int) != 0) = true := by simp; omega
      have hdec : decode bs = ([], er) := by
        unfold decode
        rw [if_neg (by rw [HER.out]; simp), if_pos (by rw [HER2.out]; exact h0), HER2.out]
      have HDEC := Lib.hid hdec
      clear hdec h0
      go_wp2
      refine bodyPost_ret (v := .tuple #[.slice none 0 0, .int .i64 er]) (by simp [results, Try.results19, go_sem]) rfl ?_
      rw [HDEC.out]
      exact ⟨_, rfl, Own.nil _ _ _, HK3.out, .inl rfl⟩
  · have ne : ((er : Int) != 0) = true := by simp; omega
    have hdec : decode bs = ([], er) := by
      unfold decode
      rw [if_pos (by rw [HER.out]; exact h0), HER.out]
    have HDEC := Lib.hid hdec
    clear hdec h0
    go_wp2
    refine bodyPost_ret (v := .tuple #[.slice none 0 0, .int .i64 er]) (by simp [results, Try.results19, go_sem]) rfl ?_
    rw [HDEC.out]
    exact ⟨_, rfl, Own.nil _ _ _, HK2.out, .inl rfl⟩
end Go.Proofs.Ytgmbjebighhgkaa
