/- known: three codes. -/
import Derived.Test.YtndneidjnlammaaReadT
namespace Go.Proofs.Ytndneidjnlammaa
open Go.RowKit Pl
set_option linter.unusedVariables false
set_option linter.unusedSimpArgs false
theorem TOwn.kept {S : Nat → Prop} {W w' : World} {a : Nat} {cs : List Int} {ss gs ls : List Nat} {last : Int} {sv cv : Value} {la : Option Addr} {lc : Nat} (h : TOwn W a cs ss gs ls last sv cv la lc) (hk : Kept S W w') (ha : ¬ S a) (hs : ∀ b, sv.ownBlock = some b → ¬ S b) (hc : ∀ b, cv.ownBlock = some b → ¬ S b) (hl : ∀ b off, 0 < ls.length → la = some ⟨b, off, none⟩ → ¬ S b) : TOwn w' a cs ss gs ls last sv cv la lc := by
  obtain ⟨h1, h2, h3, h4, h5, h6, h7, h8⟩ := h
  exact ⟨h1.kept hk ha, h2.kept hk hs, h3.kept hk hc, h4.kept hk (fun b off h0 h => hl b off h0 h), h5, h6, h7, fun b off h0 h => by have := h8 b off h0 h; have := hk.size; exact ⟨by omega, (h8 b off h0 h).2.1, (h8 b off h0 h).2.2.1, by omega⟩⟩
set_option maxRecDepth 100000 in
set_option maxHeartbeats 8000000 in
theorem known_any (W : World) : Calls Try.prog 7 #[] W fun e w' => e = .returned (.bool true) ∧ Kept (fun _ => False) W w' := by
  go_enter Try.func7, Try.ntmps7
  go_wp2_with fail
  refine (new_any _ _ _ [2, 1, 2] _ (slAt_blk (blk_new _ _) rfl rfl) (by decide) (by decide) (fun h => by cases h)).mono ?_
  rintro e w1 (⟨h0, -⟩ | ⟨-, a, sv, cv, la, lc, rfl, hT, hk1, ha, hsb, hcb, hlb⟩)
  · exact absurd (show newE [2, 1, 2] = 0 by decide +kernel) h0
  have hk1' : Kept (fun _ => False) W w1 := ((Kept.refl _ _).alloc _).then hk1
  have HT := Lib.hid hT
  have HK1 := Lib.hid (And.intro hk1' (And.intro ha (And.intro hsb (And.intro hcb hlb))))
  clear hT hk1 hk1' ha hsb hcb hlb
  go_wp2_with fail
  refine (newReader _ _ _ [29] _ (slAt_blk (blk_new _ _) rfl rfl) (fun h => by cases h) (by decide) (by unfold Bytes; decide)).mono ?_
  rintro e w2 ⟨p, o, rfl, hr, hp, ho, hk2⟩
  have hk2' : Kept (fun _ => False) w1 w2 := ((Kept.refl _ _).alloc _).then hk2
  have hT2 := HT.out.grow hk2'
  have hp1 : w1.heap.size ≤ p := by simp only [World.size_alloc] at hp; omega
  have hpl : p < w2.heap.size := by obtain ⟨v, h1, -⟩ := hr; exact lt_of_blk h1
  have hpa : p ≠ a := by have := HT.out.1.lt; omega
  have hps : sv.ownBlock ≠ some p := fun h => by have := HT.out.2.1.lt p h; omega
  have hpc : cv.ownBlock ≠ some p := fun h => by have := HT.out.2.2.1.lt p h; omega
  have hpl2 : ∀ b off, 0 < ([2, 1, 2] : List Nat).length → la = some ⟨b, off, none⟩ → b ≠ p := fun b off h0 h => by have := (HT.out.2.2.2.2.2.2.2 b off h0 h).2.2.2; omega
  have HR1 := Lib.hid (And.intro hT2 (And.intro hr (And.intro hpa (And.intro hps (And.intro hpc (And.intro hpl2 hp1))))))
  have HK2 := Lib.hid hk2'
  clear hr hk2 hk2' hT2 hpa hps hpc hpl2 hp hp1 ho hpl
  have r1 : ∀ w t, TOwn w a (cntI [2, 1, 2]) (srt [2, 1, 2] 15) (codesR [2, 1, 2]) [2, 1, 2] (mx [2, 1, 2]) sv cv la lc → RdAt w p o [29] t → ∀ R, readV [2, 1, 2] (bitAt [29] t) (8 - t) = R → Calls Try.prog 15 #[.pointer (some ⟨a, 0, none⟩), .pointer (some ⟨p, 0, none⟩)] w fun e w' => e = .returned (.tuple #[.int .i64 (R.sym : Int), .int .i64 (R.err : Int)]) ∧ RdAt w' p o [29] (t + R.used) ∧ TOwn w' a (cntI [2, 1, 2]) (srt [2, 1, 2] 15) (codesR [2, 1, 2]) [2, 1, 2] (mx [2, 1, 2]) sv cv la lc ∧ Kept (fun i => i = p) w w' := by
    intro w t ht hr R hR
    exact (read_any w a (codesR [2, 1, 2]) [2, 1, 2] sv cv la lc ht (by decide) (by decide) (by decide +kernel) p o [29] t hr HR1.out.2.2.1 HR1.out.2.2.2.1 (by decide) hR).mono (fun e w' ⟨h1, h2, h3⟩ => ⟨h1, h2, ht.kept h3 (fun h => HR1.out.2.2.1 h.symm) (fun b hb (h : b = p) => HR1.out.2.2.2.1 (by rw [hb, h])) (fun b hb (h : b = p) => HR1.out.2.2.2.2.1 (by rw [hb, h])) (fun b off h0 h => HR1.out.2.2.2.2.2.1 b off h0 h), h3⟩)
  have HRR := Lib.hid r1
  clear r1
  go_wp2_with fail
  refine (HRR.out w2 0 HR1.out.1 HR1.out.2.1 ⟨0, 2, 0⟩ (by kernel_rfl)).mono ?_
  rintro e w3 ⟨rfl, hr3, ht3, hk3⟩
  have H3 := Lib.hid (And.intro hr3 (And.intro ht3 hk3))
  clear hr3 ht3 hk3
  go_wp2_with fail
  refine (HRR.out w3 2 H3.out.2.1 H3.out.1 ⟨2, 2, 0⟩ (by kernel_rfl)).mono ?_
  rintro e w4 ⟨rfl, hr4, ht4, hk4⟩
  have H4 := Lib.hid (And.intro hr4 (And.intro ht4 hk4))
  clear hr4 ht4 hk4
  go_wp2_with fail
  refine (code_any w4 a _ _ [2, 1, 2] _ sv cv la lc H4.out.2.1 (by decide) (by decide) 0).mono ?_
  rw [show ((codeV [2, 1, 2] 0 : Nat) : Int) = 1 by decide +kernel, show ((lenV [2, 1, 2] 0 : Nat) : Int) = 2 by decide +kernel]
  rintro e w5 ⟨rfl, hk5⟩
  have HT5 := Lib.hid (H4.out.2.1.grow hk5)
  have HK5 := Lib.hid hk5
  clear hk5
  go_wp2_with fail
  refine (symbols_any w5 a _ _ [2, 1, 2] _ sv cv la lc HT5.out (by decide)).mono ?_
  rw [show ((nz [2, 1, 2] : Nat) : Int) = 3 by decide +kernel]
  rintro e w' ⟨rfl, rfl⟩
  go_wp2_with fail
  refine (complete_any _ _ _ [2, 1, 2] _ (slAt_blk (blk_new _ _) rfl rfl) (by decide) (by decide)).mono ?_
  rw [show (complete [2, 1, 2] : Int) = 0 by decide +kernel]
  rintro e w' ⟨rfl, rfl⟩
  go_wp2
  have hkp : Kept (fun i => i = p) w2 w4 := H3.out.2.2.then H4.out.2.2
  have hkw : Kept (fun _ => False) w1 w4 := HK2.out.trans (hkp.mono (fun i _ h => Or.inr (by have : i = p := h; have := HR1.out.2.2.2.2.2.2; omega)))
  exact bodyPost_ret (v := .bool true) (by simp [results, Try.results7, go_sem]) rfl ⟨rfl, (((HK1.out.1.then hkw).then HK5.out).alloc _)⟩
end Go.Proofs.Ytndneidjnlammaa
