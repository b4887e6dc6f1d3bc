/- The document's reading of a symbol: begins, Read. -/
import Derived.Test.YtndneidjnlammaaLCodes
namespace Go.Proofs.Ytndneidjnlammaa
open Go.RowKit Pl
set_option linter.unusedVariables false
set_option linter.unusedSimpArgs false
theorem ROwn.kept {S : Nat → Prop} {W w' : World} {a : Nat} {gs ls : List Nat} {cv : Value} {la : Option Addr} {lc : Nat} (h : ROwn W a gs ls cv la lc) (hk : Kept S W w') (ha : ¬ S a) (hc : ∀ b, cv.ownBlock = some b → ¬ S b) (hl : ∀ b off, 0 < ls.length → la = some ⟨b, off, none⟩ → ¬ S b) : ROwn w' a gs ls cv la lc := by
  obtain ⟨h1, h2, h3, h4, h5⟩ := h
  exact ⟨hk.blk h1 ha, h2.kept hk hc, h3.kept hk (fun b off h0 h => hl b off h0 h), h4, fun b off h0 h => by have := h5 b off h0 h; have := hk.size; exact ⟨(h5 b off h0 h).1, (h5 b off h0 h).2.1, by omega⟩⟩
/-- Does this symbol's code begin so? -/
def hitB (ls : List Nat) (c n i : Nat) : Bool := decide (n ≤ ls.getD i 0 ∧ 0 < ls.getD i 0 ∧ codeL ls i / 2 ^ (ls.getD i 0 - n) = c)
theorem openB_yes {ls : List Nat} {c n i : Nat} (hi : i < ls.length) (h : hitB ls c n i = true) : openB ls c n = true := by
  unfold openB
  exact List.any_eq_true.2 ⟨i, List.mem_range.2 hi, h⟩
theorem openB_no {ls : List Nat} {c n : Nat} (h : ∀ i, i < ls.length → hitB ls c n i = false) : openB ls c n = false := by
  unfold openB
  rw [List.any_eq_false]
  intro i hi
  have := h i (List.mem_range.1 hi)
  unfold hitB at this
  rw [this]; simp
set_option maxRecDepth 100000 in
set_option maxHeartbeats 8000000 in
theorem begins_any (W : World) (a : Nat) (ls : List Nat) (cv : Value) (la : Option Addr) (lc : Nat) (h : ROwn W a (codesC ls) ls cv la lc) (hls : ∀ c ∈ ls, c ≤ 15) (hlen : ls.length ≤ 320) (hroom : room ls ≤ 32768) (c n : Nat) (hn : n ≤ 15) :
    Calls Try.prog 32 #[.pointer (some ⟨a, 0, none⟩), .int .u32 (c : Int), .int .i64 (n : Int)] W fun e w' => e = .returned (.bool (openB ls c n)) ∧ w' = W := by
  obtain ⟨⟨c18, -⟩, c17, -⟩ := blk2 h.1
  obtain ⟨len, hll⟩ : ∃ n, ls.length = n := ⟨_, rfl⟩
  rw [hll] at c18
  have H := Lib.hid (And.intro h (And.intro hls (And.intro hlen (And.intro hroom hll))))
  clear h hls hroom
  go_enter Try.func32, Try.ntmps32
  go_wp2
  go_loopg [7] (len + 1) (fun gg iv wr => ∃ i : Nat, len + 1 ≤ gg + i ∧ i ≤ len ∧ iv = .int .i64 (i : Int) ∧ (∀ j, j < i → hitB ls c n j = false) ∧ wr = W)
  case atStart => exact ⟨0, by omega, by omega, rfl, (fun j hj => by omega), rfl⟩
  case round =>
    obtain ⟨i, hgg, hil, rfl, hno, hwr⟩ := hrel
    obtain rfl : W = wr := hwr.symm
    have HNO := Lib.hid hno
    clear hno
    by_cases hi : i < len
    · have gi : decide ((i : Int) < (len : Int)) = true := decide_eq_true (by omega)
      have gi' : decide (i < len) = true := decide_eq_true hi
      obtain ⟨m, hmm⟩ : ∃ m, ls[i]? = some m := ⟨_, List.getElem?_eq_getElem (by rw [H.out.2.2.2.2]; exact hi)⟩
      have hgd : ls.getD i 0 = m := by rw [List.getD_eq_getElem?_getD, hmm]; rfl
      have hm15 := H.out.2.1 m (List.mem_of_getElem? hmm)
      have hsl := H.out.1.2.2.1
      rw [H.out.2.2.2.2] at hsl
      obtain ⟨b, off, rfl, hcell⟩ := hsl.2.resolve_left (by omega)
      have hci := hcell i hi
      rw [ints_at hmm] at hci
      have wm : IntKind.i64.wrap (m : Int) = (m : Int) := IntWalk.i64_in _ (by omega)
      have wi : IntKind.i64.wrap ((i : Int) + 1) = (i : Int) + 1 := IntWalk.i64_in _ (by omega)
      have hoc := H.out.1.2.1
      have hgl : (ints (codesC ls)).length = len := by rw [ints_length]; unfold codesC; rw [csAt_len, H.out.2.2.2.2]
      obtain ⟨g, cp, hcv⟩ := own_row hoc (by rw [hgl]; omega)
      rw [hgl] at hcv
      rw [hcv] at hoc c17
      obtain ⟨y1, -⟩ := own_cell hoc i (by omega)
      have hcx := codesC_at (s := i) (by rw [H.out.2.2.2.2]; exact hi) (by rw [hgd]; exact hm15)
      rw [ints_at hcx] at y1
      have hCb : codeL ls i < 32768 := by
        rcases Nat.eq_zero_or_pos m with h0 | h0
        · unfold codeL; rw [hgd, if_pos h0]; omega
        · exact Nat.lt_of_lt_of_le (codeL_lt H.out.2.2.2.1 H.out.2.1 hmm h0) (Nat.pow_le_pow_right (n := 2) (by omega) hm15)
      obtain ⟨CL, hCL⟩ : ∃ z, codeL ls i = z := ⟨_, rfl⟩
      rw [hCL] at y1 hCb
      have hhit : hitB ls c n i = decide (n ≤ m ∧ 0 < m ∧ CL / 2 ^ (m - n) = c) := by unfold hitB; rw [hgd, hCL]
      have HH := Lib.hid hhit
      clear hhit hCL hcx hcell hsl hoc hgl hcv hgd hmm
      have step : ∀ j, hitB ls c n i = false → j < i + 1 → hitB ls c n j = false := fun j h hj => by
        rcases Nat.lt_or_ge j i with h1 | h1
        · exact HNO.out j h1
        · obtain rfl : j = i := by omega
          exact h
      have HST := Lib.hid step
      clear step
      by_cases h1 : n ≤ m
      · have g1 : decide ((n : Int) ≤ (m : Int)) = true := decide_eq_true (by omega)
        have g1' : decide (n ≤ m) = true := decide_eq_true h1
        by_cases h2 : 0 < m
        · have g2 : decide ((0 : Int) < (m : Int)) = true := decide_eq_true (by omega)
          have g2' : decide (0 < m) = true := decide_eq_true h2
          obtain ⟨D, hD⟩ : ∃ D, m - n = D := ⟨_, rfl⟩
          have d1 : (m : Int) - (n : Int) = (D : Int) := by omega
          have d2 : IntKind.i64.wrap (D : Int) = (D : Int) := IntWalk.i64_in _ (by omega)
          have d3 : IntKind.u64.wrap (D : Int) = (D : Int) := IntWalk.u64_in _ (by omega)
          rw [hD] at HH
          have e3 : ((CL : Int) / 2 ^ D) = ((CL / 2 ^ D : Nat) : Int) := by norm_cast
          obtain ⟨Q, hQ⟩ : ∃ Q, CL / 2 ^ D = Q := ⟨_, rfl⟩
          have hQb : Q < 32768 := by rw [← hQ]; exact Nat.lt_of_le_of_lt (Nat.div_le_self _ _) hCb
          rw [hQ] at HH e3
          have wq : IntKind.u32.wrap (Q : Int) = (Q : Int) := IntWalk.u32_in _ (by omega)
          clear hQ hD
          by_cases h3 : Q = c
          · subst h3
            have hop := openB_yes (ls := ls) (c := Q) (n := n) (i := i) (by rw [H.out.2.2.2.2]; exact hi) (by rw [HH.out]; exact decide_eq_true ⟨h1, h2, rfl⟩)
            have HOP := Lib.hid hop
            clear hop
            go_wp2
            exact bodyPost_ret (v := .bool true) (by simp [results, Try.results32, go_sem]) rfl ⟨by rw [HOP.out], rfl⟩
          · have g3 : ((Q : Int) == (c : Int)) = false := by simp; omega
            have hf : hitB ls c n i = false := by rw [HH.out]; exact decide_eq_false (fun h => h3 h.2.2)
            have HF := Lib.hid hf
            clear hf
            go_wp2
            go_roundg (gk - 1)
            case rel => exact ⟨i + 1, by omega, by omega, by simp, fun j hj => HST.out j HF.out hj, rfl⟩
            case measure => omega
        · have g2 : decide ((0 : Int) < (m : Int)) = false := decide_eq_false (by omega)
          have g2' : decide (0 < m) = false := decide_eq_false h2
          have hf : hitB ls c n i = false := by rw [HH.out]; exact decide_eq_false (fun h => h2 h.2.1)
          have HF := Lib.hid hf
          clear hf h1 h2
          go_wp2
          go_roundg (gk - 1)
          case rel => exact ⟨i + 1, by omega, by omega, by simp, fun j hj => HST.out j HF.out hj, rfl⟩
          case measure => omega
      · have g1 : decide ((n : Int) ≤ (m : Int)) = false := decide_eq_false (by omega)
        have g1' : decide (n ≤ m) = false := decide_eq_false h1
        have hf : hitB ls c n i = false := by rw [HH.out]; exact decide_eq_false (fun h => h1 h.1)
        have HF := Lib.hid hf
        clear hf
        go_wp2
        go_roundg (gk - 1)
        case rel => exact ⟨i + 1, by omega, by omega, by simp, fun j hj => HST.out j HF.out hj, rfl⟩
        case measure => omega
    · obtain rfl : i = len := by omega
      have hop := openB_no (ls := ls) (c := c) (n := n) (by rw [H.out.2.2.2.2]; exact HNO.out)
      have HOP := Lib.hid hop
      clear hop
      go_wp2
      exact bodyPost_ret (v := .bool false) (by simp [results, Try.results32, go_sem]) rfl ⟨by rw [HOP.out], rfl⟩
end Go.Proofs.Ytndneidjnlammaa
