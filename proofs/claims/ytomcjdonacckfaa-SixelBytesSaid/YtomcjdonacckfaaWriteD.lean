/- Signs: Write. -/
import Derived.Test.YtomcjdonacckfaaSignB
import Derived.Deep.LoopGhost
namespace Go.Proofs.Ytomcjdonacckfaa
open Go.RowKit
set_option linter.unusedVariables false
set_option linter.unusedSimpArgs false
def ints (x : List Nat) : List Int := x.map (fun (n : Nat) => (n : Int))
theorem ints_length (x : List Nat) : (ints x).length = x.length := by simp [ints]
/-- A byte that is written: a sign, or nothing. -/
def Dec.byte (d : Dec) (c : Nat) : Dec := if 33 ≤ c ∧ c ≤ 126 ∧ d.full = false ∧ d.over = false then d.sig c else d
def Dec.feed (d : Dec) (l : List Nat) : Dec := l.foldl Dec.byte d
theorem feed_snoc (d : Dec) (l : List Nat) (c : Nat) : d.feed (l ++ [c]) = (d.feed l).byte c := by simp [Dec.feed]
theorem byte_ok {M : Nat} {d : Dec} (h : DecOk M d) (c : Nat) : DecOk M (d.byte c) := by
  unfold Dec.byte
  split
  · rename_i hc; exact sig_ok h hc.2.2.1 c
  · exact h
theorem feed_ok {M : Nat} {d : Dec} (h : DecOk M d) (l : List Nat) : DecOk M (d.feed l) := by
  induction l generalizing d with
  | nil => exact h
  | cons c l ih => exact ih (byte_ok h c)
theorem take_snoc' {l : List Nat} {k c : Nat} (h : l[k]? = some c) : l.take (k + 1) = l.take k ++ [c] := by
  rw [List.take_add_one, h]; rfl
set_option maxRecDepth 100000 in
set_option maxHeartbeats 8000000 in
theorem write_any (G : Nat → Prop) (d : Dec) (W : World) (a M : Nat) (a0 : Option Addr) (len cap : Nat) (bs : List Nat) (hd : DOwn G W a d) (hok : DecOk M d) (hs : SlAt .u8 W a0 len (ints bs)) (hby : ∀ c ∈ bs, c < 256) (hl : len ≤ 65536) (hna : ∀ b off, 0 < len → a0 = some ⟨b, off, none⟩ → ¬ G b ∧ b < W.heap.size) :
    Calls Try.prog 18 #[.pointer (some ⟨a, 0, none⟩), .slice a0 len cap] W fun e w' => e = .returned (.int .i64 (if (d.feed bs).full = true then 6 else 0)) ∧ Turn G W w' a (d.feed bs) := by
  have hbl : bs.length = len := by rw [← hs.1, ints_length]
  have H := Lib.hid (And.intro hd (And.intro hok (And.intro hs (And.intro hby (And.intro hna hbl)))))
  clear hd hok hs hby hna hbl
  obtain ⟨RS, hRS⟩ : ∃ RS : Int, (if (d.feed bs).full = true then 6 else 0) = RS := ⟨_, rfl⟩
  obtain ⟨DF, hDF⟩ : ∃ DF, d.feed bs = DF := ⟨_, rfl⟩
  rw [hRS, hDF]
  rw [hDF] at hRS
  have HRS := Lib.hid (And.intro hRS hDF)
  clear hRS hDF
  go_enter Try.func18, Try.ntmps18
  go_wp2
  go_loopg [6, 9] len (fun gg _ kv wr => ∃ k : Nat, len ≤ gg + k ∧ k ≤ len ∧ kv = .int .i64 (k : Int) ∧ Turn G W wr a (d.feed (bs.take k)))
  case atStart => exact ⟨0, by omega, by omega, rfl, Turn.refl H.out.1⟩
  case round =>
    obtain ⟨k, hgg, hkl, rfl, hT⟩ := hrel
    obtain ⟨G1, hDO, hs1, hk1⟩ := hT
    have HT := Lib.hid (And.intro hDO (And.intro hs1 hk1))
    have hok1 := feed_ok H.out.2.1 (bs.take k)
    obtain ⟨D1, hD1⟩ : ∃ D, d.feed (bs.take k) = D := ⟨_, rfl⟩
    rw [hD1] at HT hok1 hDO
    have HD1 := Lib.hid (And.intro hD1 hok1)
    obtain ⟨pv, nv, hb, -⟩ := hDO
    obtain ⟨fu, hfu⟩ : ∃ b, D1.full = b := ⟨_, rfl⟩
    obtain ⟨ov, hov⟩ : ∃ b, D1.over = b := ⟨_, rfl⟩
    have jf : wr.cell? ⟨a, 778, none⟩ = some (.bool fu) := by rw [← hfu]; exact hb.ffull.1
    have jo : wr.cell? ⟨a, 779, none⟩ = some (.bool ov) := by rw [← hov]; exact hb.fover.1
    have HFO := Lib.hid (And.intro hfu hov)
    have wk : IntKind.i64.wrap ((k : Int) + 1) = (k : Int) + 1 := IntWalk.i64_in _ (by omega)
    clear hb hok1 hD1 hs1 hfu hov
    by_cases hk : k < len
    · have gk0 : decide (k < len) = true := decide_eq_true hk
      obtain ⟨b, off, rfl, hc⟩ := H.out.2.2.1.2.resolve_left (by omega)
      obtain ⟨c, hcc⟩ : ∃ c, bs[k]? = some c := ⟨_, List.getElem?_eq_getElem (by rw [H.out.2.2.2.2.2]; exact hk)⟩
      have hck := hk1.cell (hc k hk) (H.out.2.2.2.2.1 b off (by omega) rfl).1
      have hcv : (ints bs).getD k 0 = (c : Int) := by simp [ints, hcc]
      rw [hcv] at hck
      have hstep : d.feed (bs.take (k + 1)) = D1.byte c := by rw [take_snoc' hcc, feed_snoc, HD1.out.1]
      have HST := Lib.hid hstep
      clear hc hcv hk1 hcc hstep
      by_cases hgo : 33 ≤ c ∧ c ≤ 126 ∧ fu = false ∧ ov = false
      · obtain ⟨c1, c2, rfl, rfl⟩ := hgo
        have g1 : decide (33 ≤ c) = true := decide_eq_true c1
        have g2 : decide (c ≤ 126) = true := decide_eq_true c2
        have HSG := Lib.hid (sign_any G1 D1 wr a c M HT.out.1 HD1.out.2 HFO.out.1 ⟨c1, c2⟩)
        have HB := Lib.hid (show D1.byte c = D1.sig c from by unfold Dec.byte; rw [if_pos ⟨c1, c2, HFO.out.1, HFO.out.2⟩])
        go_wp2_with fail
        refine HSG.out.mono ?_
        rintro e w4 ⟨rfl, hT4⟩
        have HT4 := Lib.hid (Turn.then HT.out.2.1 HT.out.2.2 hT4)
        clear hT4
        go_wp2
        go_roundg (gk - 1)
        case rel => exact ⟨k + 1, by omega, by omega, by simp, by rw [HST.out, HB.out]; exact HT4.out⟩
        case measure => omega
      · have HB := Lib.hid (show D1.byte c = D1 from by unfold Dec.byte; rw [if_neg (by rw [HFO.out.1, HFO.out.2]; exact hgo)])
        have hcs : (c < 33) ∨ (33 ≤ c ∧ 126 < c) ∨ (33 ≤ c ∧ c ≤ 126 ∧ fu = true) ∨ (33 ≤ c ∧ c ≤ 126 ∧ fu = false ∧ ov = true) := by
          cases fu <;> cases ov <;> simp at hgo ⊢ <;> omega
        clear hgo
        rcases hcs with h1 | ⟨h1, h2⟩ | ⟨h1, h2, rfl⟩ | ⟨h1, h2, rfl, rfl⟩
        · have g1 : decide (33 ≤ c) = false := decide_eq_false (by omega)
          go_wp2
          go_roundg (gk - 1)
          case rel => exact ⟨k + 1, by omega, by omega, by simp, by rw [HST.out, HB.out]; exact ⟨G1, HT.out⟩⟩
          case measure => omega
        · have g1 : decide (33 ≤ c) = true := decide_eq_true h1
          have g2 : decide (c ≤ 126) = false := decide_eq_false (by omega)
          go_wp2
          go_roundg (gk - 1)
          case rel => exact ⟨k + 1, by omega, by omega, by simp, by rw [HST.out, HB.out]; exact ⟨G1, HT.out⟩⟩
          case measure => omega
        · have g1 : decide (33 ≤ c) = true := decide_eq_true h1
          have g2 : decide (c ≤ 126) = true := decide_eq_true h2
          go_wp2
          go_roundg (gk - 1)
          case rel => exact ⟨k + 1, by omega, by omega, by simp, by rw [HST.out, HB.out]; exact ⟨G1, HT.out⟩⟩
          case measure => omega
        · have g1 : decide (33 ≤ c) = true := decide_eq_true h1
          have g2 : decide (c ≤ 126) = true := decide_eq_true h2
          go_wp2
          go_roundg (gk - 1)
          case rel => exact ⟨k + 1, by omega, by omega, by simp, by rw [HST.out, HB.out]; exact ⟨G1, HT.out⟩⟩
          case measure => omega
    · obtain rfl : k = len := by omega
      have gk0 : decide (k < k) = false := decide_eq_false (by omega)
      have hall : DF = D1 := by rw [← HRS.out.2, ← HD1.out.1, List.take_of_length_le (by rw [H.out.2.2.2.2.2]; exact Nat.le_refl _)]
      have HAL := Lib.hid hall
      clear hall hk1
      cases fu with
      | true =>
        go_wp2
        refine bodyPost_ret (v := .int .i64 6) (by simp [results, Try.results18, go_sem]) rfl ?_
        have h9 := HRS.out.1
        rw [HAL.out, HFO.out.1] at h9
        rw [HAL.out, ← h9]
        exact ⟨rfl, G1, HT.out⟩
      | false =>
        go_wp2
        refine bodyPost_ret (v := .int .i64 0) (by simp [results, Try.results18, go_sem]) rfl ?_
        have h9 := HRS.out.1
        rw [HAL.out, HFO.out.1] at h9
        rw [HAL.out, ← h9]
        exact ⟨rfl, G1, HT.out⟩
end Go.Proofs.Ytomcjdonacckfaa
