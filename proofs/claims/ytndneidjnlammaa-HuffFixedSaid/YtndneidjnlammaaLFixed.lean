/- The law HuffFixed. -/
import Derived.Test.YtndneidjnlammaaFixed
import Derived.Test.YtndneidjnlammaaLCodes
namespace Go.Proofs.Ytndneidjnlammaa
open Go.RowKit Go.ChangeShapes Go.WideShapes Pl
set_option linter.unusedVariables false
set_option linter.unusedSimpArgs false
theorem fixL_len : fixL.length = 288 := upTo_len _ _ _
theorem fixD_len : fixD.length = 30 := upTo_len _ _ _
theorem fixL_15 : ∀ c ∈ fixL, c ≤ 15 := by decide +kernel
theorem fixL_256 : ∀ c ∈ fixL, c < 256 := fun c h => by have := fixL_15 c h; omega
theorem fixD_256 : ∀ c ∈ fixD, c < 256 := by decide +kernel
set_option maxRecDepth 100000 in
set_option maxHeartbeats 16000000 in
theorem law_fixed {n : Int} {W : World} : Calls Try.prog 6 #[.int .i64 n] W fun e w' => e = .returned (.bool true) ∧ Below W.heap.size W w' := by
  refine Calls.mono (R := fun e w' => e = .returned (.bool true) ∧ Kept (fun _ => False) W w') ?_ (fun e w' ⟨h1, h2⟩ => ⟨h1, h2.below⟩)
  go_enter Try.func6, Try.ntmps6
  go_wp2_with fail
  refine (known_any W).mono ?_
  rintro e w1 ⟨rfl, hk1⟩
  have HK1 := Lib.hid hk1
  clear hk1
  go_wp2_with fail
  refine (fixed_any w1).mono ?_
  rintro e w2 ⟨m, q, rfl, hm, hq, hk2⟩
  have H2 := Lib.hid (And.intro hm (And.intro hq hk2))
  clear hm hq hk2
  go_wp2_with fail
  refine (rfixed_any w2).mono ?_
  rintro e w3 ⟨m2, q2, rfl, hm, hq, hk3⟩
  have H3 := Lib.hid (And.intro hm (And.intro hq hk3))
  clear hm hq hk3
  go_wp2_with fail
  refine (new_any _ 288 288 fixL w3 (H2.out.1.kept H3.out.2.2 (fun _ _ => id)).slAt fixL_256 (by omega) (fun h => by cases h)).mono ?_
  rintro e w4 (⟨h0, -⟩ | ⟨-, a, sv, cv, la, lc, rfl, hT, hk4, -⟩)
  · exact absurd (show newE fixL = 0 by decide +kernel) h0
  have HT := Lib.hid (And.intro hT hk4)
  have kk : Kept (fun _ => False) w2 w4 := H3.out.2.2.then hk4
  have s1 := (H2.out.1.kept kk (fun _ _ => id)).slAt
  have s2 := (H2.out.2.1.kept kk (fun _ _ => id)).slAt
  have s3 := (H3.out.1.kept hk4 (fun _ _ => id)).slAt
  have s4 := (H3.out.2.1.kept hk4 (fun _ _ => id)).slAt
  have HS := Lib.hid (And.intro s1 (And.intro s2 (And.intro s3 s4)))
  have e1 := run_str (P := Try.prog) (dst := 9) (cap := 288) Try.underlying22 Try.underlying5 Try.underlying9 s1
  have e2 := run_str (P := Try.prog) (dst := 9) (cap := 30) Try.underlying22 Try.underlying5 Try.underlying9 s2
  have e3 := run_str (P := Try.prog) (dst := 9) (cap := 288) Try.underlying22 Try.underlying5 Try.underlying9 s3
  have e4 := run_str (P := Try.prog) (dst := 9) (cap := 30) Try.underlying22 Try.underlying5 Try.underlying9 s4
  obtain ⟨SL, hSL⟩ : ∃ S, strOfNums (ints fixL) = S := ⟨_, rfl⟩
  obtain ⟨SD, hSD⟩ : ∃ S, strOfNums (ints fixD) = S := ⟨_, rfl⟩
  rw [hSL] at e1 e3
  rw [hSD] at e2 e4
  clear hT hk4 kk s1 s2 s3 s4 hSL hSD
  go_wp2_with fail
  refine (complete_any _ 288 288 fixL _ HS.out.1 fixL_256 (by omega)).mono ?_
  rw [show complete fixL = 0 by decide +kernel]
  rintro e w' ⟨rfl, rfl⟩
  go_wp2_with fail
  refine (complete_any _ 30 30 fixD _ HS.out.2.1 fixD_256 (by omega)).mono ?_
  rw [show complete fixD = -1 by decide +kernel]
  rintro e w' ⟨rfl, rfl⟩
  go_wp2_with fail
  refine (rnew_any _ 288 288 fixL _ HS.out.2.2.1 fixL_256 (by omega) (fun h => by cases h)).mono ?_
  rintro e w5 (⟨h0, -⟩ | ⟨-, ra, rcv, rla, rlc, rfl, hR, hk5, -⟩)
  · exact absurd (show newE fixL = 0 by decide +kernel) h0
  have HR := Lib.hid (And.intro hR hk5)
  clear hR hk5 e1 e2 e3 e4
  obtain ⟨C, hC⟩ : ∃ C, codeV fixL n = C := ⟨_, rfl⟩
  obtain ⟨L, hL⟩ : ∃ L, lenV fixL n = L := ⟨_, rfl⟩
  have HC := Lib.hid (And.intro hC hL)
  clear hC hL
  go_wp2_with fail
  refine (code_any w5 a _ _ fixL _ sv cv la lc (HT.out.1.grow HR.out.2) fixL_15 (by rw [fixL_len]; omega) n).mono ?_
  rw [HC.out.1, HC.out.2]
  rintro e w6 ⟨rfl, hk6⟩
  have HK6 := Lib.hid hk6
  clear hk6
  go_wp2_with fail
  refine (rcode_any w6 ra fixL rcv rla rlc (HR.out.1.grow HK6.out) fixL_15 (by rw [fixL_len]; omega) (by decide +kernel) n).mono ?_
  rw [HC.out.1, HC.out.2]
  rintro e w7 ⟨rfl, hk7⟩
  have HK7 := Lib.hid hk7
  clear hk7
  go_wp2_with fail
  refine (symbols_any w7 a _ _ fixL _ sv cv la lc (((HT.out.1.grow HR.out.2).grow HK6.out).grow HK7.out) fixL_15).mono ?_
  rw [show ((nz fixL : Nat) : Int) = 288 by decide +kernel]
  rintro e w' ⟨rfl, rfl⟩
  go_wp2
  exact bodyPost_ret (v := .bool true) (by simp [results, Try.results6, go_sem]) rfl ⟨rfl, ((((HK1.out.then H2.out.2.2).then H3.out.2.2).then HT.out.2).then HR.out.2).then (HK6.out.then HK7.out)⟩
end Go.Proofs.Ytndneidjnlammaa
