/- Writer.Done, Mul: what they compute. -/
import Derived.Test.YtndneidjnlammaaWbits
import Derived.Test.YtndneidjnlammaaStr
namespace Go.Proofs.Ytndneidjnlammaa
open Go.RowKit Pl
set_option linter.unusedVariables false
set_option maxRecDepth 100000 in
set_option maxHeartbeats 1000000 in
theorem done_any (p : Nat) (o : Option Nat) (V L : Nat) (w : World) (h : WrAt w p o V L) (hL : L ≤ 1099511627776) :
    Calls Try.prog 22 #[.pointer (some ⟨p, 0, none⟩)] w fun e w' => ∃ v ds, e = .returned v ∧ Own .u8 5 w' v ds ∧ Bytes ds ∧ val (nats ds) = V ∧ ds.length = (L + 7) / 8 ∧ Kept (fun _ => False) w w' ∧ ∀ b, v.ownBlock = some b → w.heap.size ≤ b := by
  obtain ⟨s, bs, held, n, h1, h2, h3, h4, h5, h6, h7, hV, hLe⟩ := h
  obtain ⟨⟨c0, -⟩, ⟨c1, -⟩, c2, -⟩ := blk3 h1
  obtain ⟨a, cap, rfl, hsl, hcap, hcm, hnil, -⟩ := h2.shape
  have HV := Lib.hid hV
  have HL := Lib.hid hLe
  have HB := Lib.hid h1
  have hbl : bs.length ≤ 1099511627776 := by omega
  clear h1 h2 h3 h4 hV hLe
  by_cases hn : n = 0
  · subst hn
    have h0 : held = 0 := by simpa using h6
    subst h0
    go_enter Try.func22, Try.ntmps22
    go_wp2_with fail
    refine (clone_any a _ cap bs _ hsl (fun h => hnil h) (by omega)).mono ?_
    rintro e w1 ⟨v, rfl, ho, hk, hf⟩
    have d2 := hk.cell c2 id
    have HO := Lib.hid ho
    clear ho
    go_wp2
    go_ret
    exact ⟨_, bs, rfl, HO.out, h5, by rw [HV.out]; simp [wval], by have := HL.out; omega, hk, hf⟩
  · obtain ⟨i0, hi, hz0, hz1, hz2⟩ := info_parts Try.infoByte
    have HI := Lib.hid (And.intro hi (And.intro hz0 (And.intro hz1 hz2)))
    clear hi hz0 hz1 hz2
    go_enter Try.func22, Try.ntmps22
    go_wp2_with (first
      | (go_at_call 29; refine (clone_any a _ cap bs _ hsl (fun h => hnil h) (by omega)).mono ?_; rintro e w1 ⟨v, rfl, ho, hk, hf⟩; have d1 := hk.cell c1 id; have d2 := hk.cell c2 id; have hoa := ho.kept ((Kept.refl (fun _ => False) w1).alloc (.cells #[.int .u8 ((held : Int) % 256)] 5)) (fun _ _ => id); have hs1 : SlAt .u8 (w1.alloc (.cells #[.int .u8 ((held : Int) % 256)] 5)) (some ⟨w1.heap.size, 0, none⟩) 1 [(held : Int) % 256] := slAt_blk (blk_new w1 _) rfl rfl; have hz := hk.size)
      | (at_builtin; refine wpList_appInts rfl (.tmp 14) (.tmp 20) 22 rfl 5 .u8 i0 (.int .u8 0) 1 Try.underlying22 HI.out.1 HI.out.2.1 HI.out.2.2.1 HI.out.2.2.2 rfl v bs rfl hoa (some ⟨w1.heap.size, 0, none⟩) 1 1 [(held : Int) % 256] rfl (fun h => by cases h) hs1 (by omega) (by simp [maxLen]; omega) ?_; intro v5 w5 ho5 hk5 hpr5))
    go_ret
    have hlt : held < 256 := Nat.lt_of_lt_of_le h6 (by have := pow_le (show n ≤ 8 by omega); omega)
    have hn1 : nats (bs ++ [(held : Int) % 256]) = nats bs ++ [held] := by simp [nats]; omega
    refine ⟨_, bs ++ [(held : Int) % 256], rfl, ho5, ?_, ?_, ?_, ?_, ?_⟩
    · intro q hq
      rcases List.mem_append.1 hq with h | h
      · exact h5 q h
      · simp at h; omega
    · rw [hn1, val_append, HV.out]; simp [wval, val]
    · have := HL.out; simp; omega
    · exact (hk.alloc _).trans (hk5.mono (fun i _ hi => Or.inr (hf i hi)))
    · exact ho5.app_new hpr5 (by simp; omega) hf
end Go.Proofs.Ytndneidjnlammaa
