import Derived.Test.YtocahkmfopbdlaaAlign
namespace Go.Proofs.Ytocahkmfopbdlaa
open Go.RowKit Pl
set_option linter.unusedVariables false
set_option maxRecDepth 100000 in
set_option maxHeartbeats 1000000 in
theorem wbytes_any (p : Nat) (o : Option Nat) (V L : Nat) (a : Option Addr) (len cap : Nat) (xs : List Int) (w : World) (h : WrAt w p o V L) (hL : L ≤ 1099511627776)
    (hs : SlAt .u8 w a len xs) (hnl : a = none → len = 0 ∧ cap = 0) (hl : len ≤ 1099511627776) (hb : Bytes xs) (hap : ∀ b off, 0 < len → a = some ⟨b, off, none⟩ → b ≠ p ∧ o ≠ some b) :
    Calls Try.prog 26 #[.pointer (some ⟨p, 0, none⟩), .slice a len cap] w fun e w' => e = .returned (.tuple #[]) ∧ ∃ o', WrAt w' p o' (V + val (nats xs) * 2 ^ (8 * ((L + 7) / 8))) (8 * ((L + 7) / 8) + 8 * len) ∧ Kept (fun i => i = p ∨ o = some i) w w' ∧ (o' = o ∨ ∃ b, o' = some b ∧ w.heap.size ≤ b) := by
  have hxl := hs.1
  go_enter Try.func26, Try.ntmps26
  go_wp2_with (first
      | (go_at_call 24; refine (walign_any p o V L _ h hL).mono ?_; rintro e w1 ⟨rfl, o1, hw, hk, ho⟩; have hz1 := hk.size; have hs1 : SlAt .u8 w1 a len xs := hs.kept hk (fun b off h0 he hh => Or.elim hh (hap b off h0 he).1 (hap b off h0 he).2); obtain ⟨s, bs, held, n, h1, h2, h3, h4, h5, h6, h7, hV, hLe⟩ := hw; have hn0 : n = 0 := (by omega); subst hn0; have hh : held = 0 := (by simp at h6; omega); subst hh; obtain ⟨a1, cap1, rfl, -⟩ := h2.shape; obtain ⟨⟨c0, f0⟩, ⟨c1, f1⟩, c2, f2⟩ := blk3 h1; have HB := Lib.hid h1; have HO := Lib.hid h2; have H3 := Lib.hid h3; have HV := Lib.hid hV; have HL := Lib.hid hLe; have HS := Lib.hid hs1; have hpw : p < w1.heap.size := lt_of_blk h1; have hbl : bs.length ≤ 137438953472 := (by omega); clear h1 h2 h3 hV hLe hL hs hs1 h; obtain ⟨i0, hi, hz0, hz1', hz2⟩ := info_parts Try.infoByte; have HI := Lib.hid (And.intro hi (And.intro hz0 (And.intro hz1' hz2))); clear hi hz0 hz1' hz2)
      | (at_builtin; refine wpList_appInts rfl (.tmp 10) (.tmp 11) 29 rfl 5 .u8 i0 (.int .u8 0) 1 Try.underlying29 HI.out.1 HI.out.2.1 HI.out.2.2.1 HI.out.2.2.2 rfl (.slice a1 bs.length cap1) bs rfl HO.out a len cap xs rfl hnl HS.out (by omega) (by simp [maxLen]; omega) ?_; intro v5 w5 ho5 hk5 hpr5; have hb5 : w5.heap[p]? = some (wrBlk (.slice a1 bs.length cap1) 0 0) := hk5.blk HB.out (fun hp => h4 (by rw [← H3.out]; exact hp)); obtain ⟨⟨d0, e0⟩, d12⟩ := blk3 hb5; have HB5 := Lib.hid hb5; clear hb5 d12; obtain ⟨a5, cap5, rfl, -⟩ := ho5.shape; have HO5 := Lib.hid ho5; clear ho5; clear c0 c1 c2 f0 f1 f2))
  go_end0
  rw [List.length_append] at hpr5
  rw [← H3.out] at h4 ho
  obtain ⟨q, hq⟩ : ∃ q, q = (Value.slice a1 bs.length cap1).ownBlock := ⟨_, rfl⟩
  have hk5' : Kept (fun k => q = some k) w1 w5 := by rw [hq]; exact hk5
  rw [← hq] at h4 ho hpr5
  have h5p : (Value.slice a5 (bs.length + xs.length) cap5).ownBlock ≠ some p := by
    intro h
    rcases hpr5 with h2 | h2
    · exact h4 (by rw [← h2, h])
    · rw [h] at h2; have h3 := Option.some.inj h2; omega
  refine ⟨rfl, _, ⟨.slice a5 (bs.length + xs.length) cap5, bs ++ xs, 0, 0, ?_, ?_, rfl, h5p, ?_, by simp, by omega, ?_, ?_⟩, ?_, ?_⟩
  · have h1 := blk_set HB5.out 0 (.slice a5 (bs.length + xs.length) cap5)
    simpa [wrBlk, hxl] using h1
  · have h1 := HO5.out
    rw [List.length_append] at h1
    refine h1.kept (S := fun i => i = p) ?_ ?_
    · exact (Kept.refl (fun i => i = p) w5).setCell (p := ⟨p, 0, none⟩) (.inl rfl) _
    · intro b hb hbp
      exact h5p (by rw [hb]; exact congrArg some hbp)
  · intro q hq
    rcases List.mem_append.1 hq with h | h
    · exact h5 q h
    · exact hb q h
  · rw [HV.out, HL.out]
    unfold wval
    rw [show nats (bs ++ xs) = nats bs ++ nats xs by simp [nats], val_append, pow256]
    simp [nats, Nat.mul_comm]
  · have := HL.out; simp; omega
  · have hkw5 : Kept (fun i => i = p ∨ o = some i) w w5 := by
      refine hk.trans (hk5'.mono ?_)
      intro i _ hi
      rcases ho with h | ⟨b, h, hb⟩
      · exact Or.inl (Or.inr (h ▸ hi))
      · rw [h] at hi; cases hi; exact Or.inr hb
    exact hkw5.setCell (p := ⟨p, 0, none⟩) (.inl (.inl rfl)) _
  · rcases hpr5 with h | h
    · rw [h]; exact ho
    · exact Or.inr ⟨_, h, hz1⟩
end Go.Proofs.Ytocahkmfopbdlaa
