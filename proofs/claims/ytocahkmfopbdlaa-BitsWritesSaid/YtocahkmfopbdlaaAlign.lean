import Derived.Test.YtocahkmfopbdlaaNumbers
import Derived.Test.YtocahkmfopbdlaaDone
namespace Go.Proofs.Ytocahkmfopbdlaa
open Go.RowKit Pl
set_option linter.unusedVariables false
theorem raln (a : Nat) (h : a ≤ 1125899906842624) : bits BinOp.and IntKind.i64 (-(a : Int)) 7 = (((8 - a % 8) % 8 : Nat) : Int) := by
  show IntKind.i64.wrap (((BitVec.ofInt 64 (-(a : Int)) &&& BitVec.ofInt 64 7).toNat : Nat) : Int) = _
  rw [BitVec.toNat_and, show (BitVec.ofInt 64 7).toNat = 2 ^ 3 - 1 by decide, Nat.and_two_pow_sub_one_eq_mod, BitVec.toNat_ofInt]
  rw [show ((2 ^ 64 : Nat) : Int) = 18446744073709551616 by decide, show (2 : Nat) ^ 3 = 8 by decide]
  have h1 : (-(a : Int) % 18446744073709551616).toNat % 8 = (8 - a % 8) % 8 := by
    by_cases h0 : a = 0
    · subst h0; decide
    · have : -(a : Int) % 18446744073709551616 = 18446744073709551616 - a := by omega
      rw [this]; omega
  rw [h1]
  exact IntWalk.i64_in _ (by omega)
set_option maxRecDepth 100000 in
set_option maxHeartbeats 1000000 in
theorem ralign_any (p : Nat) (o : Option Nat) (bs : List Int) (at_ : Nat) (w : World) (h : RdAt w p o bs at_) :
    Calls Try.prog 32 #[.pointer (some ⟨p, 0, none⟩)] w fun e w' => e = .returned (.int .i64 (((8 - at_ % 8) % 8 : Nat) : Int)) ∧ RdAt w' p o bs (at_ + (8 - at_ % 8) % 8) ∧ Kept (· = p) w w' := by
  obtain ⟨v, h1, h2, h3, h4, h5, h6, h7⟩ := h
  obtain ⟨a, cap, rfl, -⟩ := h2.shape
  have HB := Lib.hid h1
  have HO := Lib.hid h2
  have H3 := Lib.hid h3
  obtain ⟨⟨c0, f0⟩, c1, f1⟩ := blk2 h1
  clear h1 h2 h3
  have hb := raln at_ (by omega)
  obtain ⟨s, hs⟩ : ∃ s, (8 - at_ % 8) % 8 = s := ⟨_, rfl⟩
  have hsl : s < 8 := by omega
  have hs8 : at_ + s ≤ 8 * bs.length := by omega
  rw [hs] at hb ⊢
  clear hs
  go_enter Try.func32, Try.ntmps32
  go_wp2
  go_ret
  have hk : Kept (· = p) w (w.setCell ⟨p, 1, none⟩ (.int .i64 ((at_ : Int) + s))) := by
    exact (Kept.refl (· = p) w).setCell (p := ⟨p, 1, none⟩) (.inl rfl) _
  refine ⟨rfl, ⟨_, ?_, HO.out.kept hk (fun b hb hp => h4 (by rw [← H3.out, hb]; exact congrArg some hp)), H3.out, h4, h5, by omega, h7⟩, hk⟩
  have := blk_set (w := w) HB.out 1 (.int .i64 ((at_ : Int) + s))
  simpa [rdBlk] using this
set_option maxRecDepth 100000 in
set_option maxHeartbeats 1000000 in
theorem walign_any (p : Nat) (o : Option Nat) (V L : Nat) (w : World) (h : WrAt w p o V L) (hL : L ≤ 1099511627776) :
    Calls Try.prog 24 #[.pointer (some ⟨p, 0, none⟩)] w fun e w' => e = .returned (.tuple #[]) ∧ ∃ o', WrAt w' p o' V (8 * ((L + 7) / 8)) ∧ Kept (fun i => i = p ∨ o = some i) w w' ∧ (o' = o ∨ ∃ b, o' = some b ∧ w.heap.size ≤ b) := by
  obtain ⟨s, bs, held, n, h1, h2, h3, h4, h5, h6, h7, hV, hLe⟩ := h
  obtain ⟨a, cap, rfl, -⟩ := h2.shape
  obtain ⟨⟨c0, f0⟩, ⟨c1, f1⟩, c2, f2⟩ := blk3 h1
  have HB := Lib.hid h1
  have HO := Lib.hid h2
  have H3 := Lib.hid h3
  have HV := Lib.hid hV
  have HL := Lib.hid hLe
  have hpw : p < w.heap.size := lt_of_blk h1
  have hbl : bs.length ≤ 1099511627776 := by omega
  clear h1 h2 h3 hV hLe hL
  obtain ⟨i0, hi, hz0, hz1, hz2⟩ := info_parts Try.infoByte
  have HI := Lib.hid (And.intro hi (And.intro hz0 (And.intro hz1 hz2)))
  clear hi hz0 hz1 hz2
  by_cases hn : 0 < n
  · have hh : held < 256 := by
      have : 2 ^ n ≤ 2 ^ 7 := Nat.pow_le_pow_right (by omega) (by omega)
      omega
    have hd : decide ((0 : Int) < (n : Int)) = true := by simp; omega
    have hwr : IntKind.u8.wrap (held : Int) = (held : Int) := by simp [IntKind.wrap, IntKind.signed, IntKind.bits]; omega
    have hs1 : SlAt .u8 ((w.alloc (.cells #[.int .u8 (held : Int)] 5)).drew) (some ⟨w.heap.size, 0, none⟩) 1 [(held : Int)] := slAt_blk (blk_new w (.cells #[.int .u8 (held : Int)] 5)) rfl rfl
    have hoa : Own .u8 5 ((w.alloc (.cells #[.int .u8 (held : Int)] 5)).drew) (.slice a bs.length cap) bs := HO.out.kept (((Kept.refl (fun _ => False) w).alloc _).drew) (fun _ _ => id)
    go_enter Try.func24, Try.ntmps24
    go_wp2
    go_region_law (refine step_appInts rfl (.tmp 11) (.tmp 17) 29 rfl 5 .u8 i0 (.int .u8 0) 1 Try.underlying29 HI.out.1 HI.out.2.1 HI.out.2.2.1 HI.out.2.2.2 rfl (.slice a bs.length cap) bs rfl (by exact hoa) (some ⟨w.heap.size, 0, none⟩) 1 1 [(held : Int)] rfl (fun h => by cases h) (by exact hs1) (by omega) (by simp [maxLen]; omega) ?_; intro v5 w5 ho5 hk5 hpr5; have hb5 : w5.heap[p]? = some (wrBlk (.slice a bs.length cap) held n) := hk5.blk (by exact blk_alloc HB.out _) (fun hp => h4 (by rw [← H3.out]; exact hp)); obtain ⟨⟨d0, e0⟩, ⟨d1, e1⟩, d2, e2⟩ := blk3 hb5; have HB5 := Lib.hid hb5; clear hb5; obtain ⟨a5, cap5, rfl, -⟩ := ho5.shape; have HO5 := Lib.hid ho5; clear ho5; clear c0 c1 c2 f0 f1 f2)
    all_goals go_wp2
    all_goals
      go_end0
      have hz5 := hk5.size
      have hz5' : w.heap.size < w5.heap.size := by have h1 : (w.alloc (.cells #[.int .u8 0] 5)).heap.size ≤ w5.heap.size := by (have h2 := hz5; simp at h2 ⊢; omega)
                                                   simp at h1; omega
      have hkw5 : Kept (fun i => i = p ∨ o = some i) w w5 := by
        refine (((Kept.refl _ w).alloc _).drew).then (hk5.mono ?_)
        intro i _ hi
        exact Or.inr (by rw [← H3.out]; exact hi)
      have h5p : (Value.slice a5 (bs.length + 1) cap5).ownBlock ≠ some p := by
        intro h
        rw [List.length_append, List.length_singleton] at hpr5
        rcases hpr5 with h2 | h2
        · exact h4 (by rw [← H3.out, ← h2, h])
        · rw [h] at h2; have h3 := Option.some.inj h2; simp at h3; omega
      refine ⟨rfl, _, ⟨.slice a5 (bs.length + 1) cap5, bs ++ [(held : Int)], 0, 0, ?_, ?_, rfl, h5p, ?_, by simp, by omega, ?_, ?_⟩, ?_, ?_⟩
      · have h1 := blk_set (blk_set (blk_set HB5.out 0 (.slice a5 (bs.length + 1) cap5)) 1 (.int .u64 0)) 2 (.int .i64 0)
        simpa [wrBlk] using h1
      · have h1 := HO5.out
        rw [List.length_append, List.length_singleton] at h1
        refine h1.kept (S := fun i => i = p) ?_ ?_
        · exact (((Kept.refl (fun i => i = p) w5).setCell (p := ⟨p, 0, none⟩) (.inl rfl) _).setCell (p := ⟨p, 1, none⟩) (.inl rfl) _).setCell (p := ⟨p, 2, none⟩) (.inl rfl) _
        · intro b hb hbp
          exact h5p (by rw [hb]; exact congrArg some hbp)
      · intro q hq
        rcases List.mem_append.1 hq with h | h
        · exact h5 q h
        · simp at h; omega
      · have hn1 : nats (bs ++ [(held : Int)]) = nats bs ++ [held % 256] := by simp [nats]; omega
        have h0 := wval_shift (nats bs) held
        rw [show held / 256 = 0 by omega] at h0
        rw [hn1, h0]; exact HV.out
      · have := HL.out; simp; omega
      · exact ((hkw5.setCell (p := ⟨p, 0, none⟩) (.inl (.inl rfl)) _).setCell (p := ⟨p, 1, none⟩) (.inl (.inl rfl)) _).setCell (p := ⟨p, 2, none⟩) (.inl (.inl rfl)) _
      · rw [List.length_append, List.length_singleton] at hpr5
        rcases hpr5 with h | h
        · rw [h]; exact Or.inl H3.out
        · exact Or.inr ⟨_, h, by simp⟩
  · have hn0 : n = 0 := by omega
    subst hn0
    have hh : held = 0 := by simp at h6; omega
    subst hh
    go_enter Try.func24, Try.ntmps24
    go_wp2
    go_end0
    have hk : Kept (· = p) w ((w.setCell ⟨p, 1, none⟩ (.int .u64 0)).setCell ⟨p, 2, none⟩ (.int .i64 0)) :=
      ((Kept.refl (· = p) w).setCell (p := ⟨p, 1, none⟩) (.inl rfl) _).setCell (p := ⟨p, 2, none⟩) (.inl rfl) _
    refine ⟨rfl, o, ⟨_, bs, 0, 0, ?_, HO.out.kept hk (fun b hb hp => h4 (by rw [← H3.out, hb]; exact congrArg some hp)), H3.out, h4, h5, by simp, by omega, HV.out, by have := HL.out; omega⟩, hk.mono (fun i _ h => .inl h), .inl rfl⟩
    have := blk_set (blk_set (w := w) HB.out 1 (.int .u64 0)) 2 (.int .i64 0)
    simpa [wrBlk] using this
end Go.Proofs.Ytocahkmfopbdlaa
