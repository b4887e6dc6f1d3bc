/- The document's Write, Size. -/
import Derived.Test.YtomcjdonacckfaaWriteD
import Derived.Test.YtomcjdonacckfaaSignR
namespace Go.Proofs.Ytomcjdonacckfaa.R
open Go.Proofs.Ytomcjdonacckfaa Go.RowKit
set_option linter.unusedVariables false
set_option linter.unusedSimpArgs false
theorem feed_stop (d : Dec) (h : d.full = true ∨ d.over = true) : ∀ l : List Nat, d.feed l = d
  | [] => rfl
  | c :: l => by
    have e : d.byte c = d := by unfold Dec.byte; rw [if_neg (by rintro ⟨-, -, h1, h2⟩; rcases h with h | h <;> simp_all)]
    show (d.byte c).feed l = d
    rw [e]; exact feed_stop d h l
theorem feed_split (d : Dec) (l : List Nat) (k : Nat) : (d.feed (l.take k)).feed (l.drop k) = d.feed l := by
  unfold Dec.feed; rw [← List.foldl_append, List.take_append_drop]
set_option maxRecDepth 100000 in
set_option maxHeartbeats 8000000 in
theorem write_any (G : Nat → Prop) (d : Dec) (W : World) (a M : Nat) (a0 : Option Addr) (len cap : Nat) (bs : List Nat) (hd : DOwn G W a d) (hok : DecOk M d) (hs : SlAt .u8 W a0 len (ints bs)) (hby : ∀ c ∈ bs, c < 256) (hl : len ≤ 65536) (hna : ∀ b off, 0 < len → a0 = some ⟨b, off, none⟩ → ¬ G b ∧ b < W.heap.size) :
    Calls Try.prog 24 #[.pointer (some ⟨a, 0, none⟩), .slice a0 len cap] W fun e w' => e = .returned (.int .i64 (if (d.feed bs).full = true then 6 else 0)) ∧ Turn G W w' a (d.feed bs) := by
  have hbl : bs.length = len := by rw [← hs.1, ints_length]
  have H := Lib.hid (And.intro hd (And.intro hok (And.intro hs (And.intro hby (And.intro hna hbl)))))
  clear hd hok hs hby hna hbl
  obtain ⟨RS, hRS⟩ : ∃ RS : Int, (if (d.feed bs).full = true then 6 else 0) = RS := ⟨_, rfl⟩
  obtain ⟨DF, hDF⟩ : ∃ DF, d.feed bs = DF := ⟨_, rfl⟩
  rw [hRS, hDF]
  rw [hDF] at hRS
  have HRS := Lib.hid (And.intro hRS hDF)
  clear hRS hDF
  go_enter Try.func24, Try.ntmps24
  go_wp2
  go_loopg [5] len (fun gg kv wr => ∃ k : Nat, len ≤ gg + k ∧ k ≤ len ∧ kv = .int .i64 (k : Int) ∧ Turn G W wr a (d.feed (bs.take k)))
  case atStart => exact ⟨0, by omega, by omega, rfl, Turn.refl H.out.1⟩
  case round =>
    obtain ⟨k, hgg, hkl, rfl, hT⟩ := hrel
    obtain ⟨G1, hDO, hs1, hk1⟩ := hT
    have HT := Lib.hid (And.intro hDO (And.intro hs1 hk1))
    have hok1 := feed_ok H.out.2.1 (bs.take k)
    obtain ⟨D1, hD1⟩ : ∃ D, d.feed (bs.take k) = D := ⟨_, rfl⟩
    rw [hD1] at HT hok1 hDO
    have HD1 := Lib.hid (And.intro hD1 hok1)
    obtain ⟨pv, nv, hb, -⟩ := hDO
    obtain ⟨fu, hfu⟩ : ∃ b, D1.full = b := ⟨_, rfl⟩
    obtain ⟨ov, hov⟩ : ∃ b, D1.over = b := ⟨_, rfl⟩
    have jf : wr.cell? ⟨a, 778, none⟩ = some (.bool fu) := by rw [← hfu]; exact hb.ffull.1
    have jo : wr.cell? ⟨a, 779, none⟩ = some (.bool ov) := by rw [← hov]; exact hb.fover.1
    have HFO := Lib.hid (And.intro hfu hov)
    have wk : IntKind.i64.wrap ((k : Int) + 1) = (k : Int) + 1 := IntWalk.i64_in _ (by omega)
    clear hb hok1 hD1 hs1 hfu hov
    by_cases hk : k < len
    · have gk0 : decide (k < len) = true := decide_eq_true hk
      cases fu with
      | true =>
        have HAL := Lib.hid (show DF = D1 from by rw [← HRS.out.2, ← HD1.out.1]; exact (by have h8 := feed_split d bs k; rw [← h8, HD1.out.1]; exact feed_stop D1 (.inl HFO.out.1) _))
        clear hk1
        go_wp2
        refine bodyPost_ret (v := .int .i64 6) (by simp [results, Try.results24, go_sem]) rfl ?_
        have h9 := HRS.out.1
        rw [HAL.out, HFO.out.1] at h9
        rw [HAL.out, ← h9]
        exact ⟨rfl, G1, HT.out⟩
      | false =>
        cases ov with
        | true =>
          have HAL := Lib.hid (show DF = D1 from by rw [← HRS.out.2, ← HD1.out.1]; exact (by have h8 := feed_split d bs k; rw [← h8, HD1.out.1]; exact feed_stop D1 (.inr HFO.out.2) _))
          clear hk1
          go_wp2
          refine bodyPost_ret (v := .int .i64 0) (by simp [results, Try.results24, go_sem]) rfl ?_
          have h9 := HRS.out.1
          rw [HAL.out, HFO.out.1] at h9
          rw [HAL.out, ← h9]
          exact ⟨rfl, G1, HT.out⟩
        | false =>
          obtain ⟨b, off, rfl, hc⟩ := H.out.2.2.1.2.resolve_left (by omega)
          obtain ⟨c, hcc⟩ : ∃ c, bs[k]? = some c := ⟨_, List.getElem?_eq_getElem (by rw [H.out.2.2.2.2.2]; exact hk)⟩
          have hck := hk1.cell (hc k hk) (H.out.2.2.2.2.1 b off (by omega) rfl).1
          have hcv : (ints bs).getD k 0 = (c : Int) := by simp [ints, hcc]
          rw [hcv] at hck
          have hstep : d.feed (bs.take (k + 1)) = D1.byte c := by rw [take_snoc' hcc, feed_snoc, HD1.out.1]
          have HST := Lib.hid hstep
          have li : (k : Int) < (len : Int) := by omega
          clear hc hcv hk1 hcc hstep
          by_cases hgo : 33 ≤ c ∧ c ≤ 126
          · obtain ⟨c1, c2⟩ := hgo
            have g1 : decide (33 ≤ c) = true := decide_eq_true c1
            have g2 : decide (c ≤ 126) = true := decide_eq_true c2
            have HSG := Lib.hid (sign_any G1 D1 wr a c M HT.out.1 HD1.out.2 HFO.out.1 ⟨c1, c2⟩)
            have HB := Lib.hid (show D1.byte c = D1.sig c from by unfold Dec.byte; rw [if_pos ⟨c1, c2, HFO.out.1, HFO.out.2⟩])
            go_wp2_with fail
            refine HSG.out.mono ?_
            rintro e w4 ⟨rfl, hT4⟩
            have HT4 := Lib.hid (Turn.then HT.out.2.1 HT.out.2.2 hT4)
            clear hT4
            go_wp2
            go_roundg (gk - 1)
            case rel => exact ⟨k + 1, by omega, by omega, by simp, by rw [HST.out, HB.out]; exact HT4.out⟩
            case measure => omega
          · have HB := Lib.hid (show D1.byte c = D1 from by unfold Dec.byte; rw [if_neg (fun h => hgo ⟨h.1, h.2.1⟩)])
            have hcs : (c < 33) ∨ (33 ≤ c ∧ 126 < c) := by omega
            clear hgo
            rcases hcs with h1 | ⟨h1, h2⟩
            · have g1 : decide (33 ≤ c) = false := decide_eq_false (by omega)
              go_wp2
              go_roundg (gk - 1)
              case rel => exact ⟨k + 1, by omega, by omega, by simp, by rw [HST.out, HB.out]; exact ⟨G1, HT.out⟩⟩
              case measure => omega
            · have g1 : decide (33 ≤ c) = true := decide_eq_true h1
              have g2 : decide (c ≤ 126) = false := decide_eq_false (by omega)
              go_wp2
              go_roundg (gk - 1)
              case rel => exact ⟨k + 1, by omega, by omega, by simp, by rw [HST.out, HB.out]; exact ⟨G1, HT.out⟩⟩
              case measure => omega
    · obtain rfl : k = len := by omega
      have gk0 : decide (k < k) = false := decide_eq_false (by omega)
      have HAL := Lib.hid (show DF = D1 from by rw [← HRS.out.2, ← HD1.out.1]; exact (by rw [List.take_of_length_le (by rw [H.out.2.2.2.2.2]; exact Nat.le_refl _)]))
      clear hk1
      cases fu with
      | true =>
        go_wp2
        refine bodyPost_ret (v := .int .i64 6) (by simp [results, Try.results24, go_sem]) rfl ?_
        have h9 := HRS.out.1
        rw [HAL.out, HFO.out.1] at h9
        rw [HAL.out, ← h9]
        exact ⟨rfl, G1, HT.out⟩
      | false =>
        go_wp2
        refine bodyPost_ret (v := .int .i64 0) (by simp [results, Try.results24, go_sem]) rfl ?_
        have h9 := HRS.out.1
        rw [HAL.out, HFO.out.1] at h9
        rw [HAL.out, ← h9]
        exact ⟨rfl, G1, HT.out⟩
set_option maxRecDepth 100000 in
set_option maxHeartbeats 8000000 in
theorem size_any (G : Nat → Prop) (d : Dec) (W : World) (a : Nat) (h : DOwn G W a d) : Calls Try.prog 26 #[.pointer (some ⟨a, 0, none⟩)] W fun e w' => e = .returned (.tuple #[.int .i64 d.w, .int .i64 d.h]) ∧ Kept (fun _ => False) W w' := by
  obtain ⟨pv, nv, hb, -⟩ := h
  obtain ⟨E1, hE1⟩ : ∃ D, W.drew = D := ⟨_, rfl⟩
  have k1 : Kept (fun _ => False) W E1 := by rw [← hE1]; exact (Kept.refl _ W).drew
  have hb1 := hb.kept k1 id
  obtain ⟨c1, -⟩ := hb.fw
  obtain ⟨c2, -⟩ := hb.fh
  obtain ⟨d1, -⟩ := hb1.fw
  obtain ⟨d2, -⟩ := hb1.fh
  have HK := Lib.hid k1
  clear hb hb1 k1
  go_enter Try.func26, Try.ntmps26
  go_wp2
  go_still (by kernel_rfl)
  rw [show (World.mk W.heap W.tape (W.drawn + 1) W.os W.output) = E1 from hE1]
  go_wp2
  exact bodyPost_ret (v := .tuple #[.int .i64 d.w, .int .i64 d.h]) (by simp [results, Try.results26, go_sem]) rfl ⟨rfl, HK.out⟩
end Go.Proofs.Ytomcjdonacckfaa.R
