/- The law HuffBack. -/
import Derived.Test.YtndneidjnlammaaBackP
namespace Go.Proofs.Ytndneidjnlammaa
open Go.RowKit Go.ChangeShapes Go.WideShapes Pl
set_option linter.unusedVariables false
set_option linter.unusedSimpArgs false
theorem encL_le {ls : List Nat} (hc : ∀ c ∈ ls, c ≤ 15) (x : List Nat) : encL ls x ≤ 15 * x.length := by
  induction x with
  | nil => simp [encL]
  | cons s r ih =>
    have h1 : ls.getD s 0 ≤ 15 := by
      rw [List.getD_eq_getElem?_getD]
      cases h : ls[s]? with
      | none => simp
      | some c => exact hc c (List.mem_of_getElem? h)
    rw [encL, List.length_cons]; omega
theorem WrAt.olt {w : World} {p : Nat} {o : Option Nat} {V L : Nat} (h : WrAt w p o V L) : p < w.heap.size ∧ ∀ b, o = some b → b < w.heap.size := by
  obtain ⟨v, bs, held, n, h1, h2, h3, -⟩ := h
  exact ⟨lt_of_blk h1, fun b hb => h2.lt b (h3.trans hb)⟩
theorem rem_parts (x : Int) (n : Nat) (hn : 0 < n) : ∃ K : Nat, K < n ∧ ((0 ≤ x.tmod n ∧ x.tmod n = (K : Int)) ∨ (x.tmod n < 0 ∧ x.tmod n = -(K : Int))) := by
  rcases Int.lt_or_le x 0 with h | h
  · have h1 : x.tmod n = -((-x).tmod n) := by rw [Int.neg_tmod, Int.neg_neg]
    rw [Int.tmod_eq_emod_of_nonneg (show 0 ≤ -x by omega)] at h1
    have h2 := Int.emod_nonneg (-x) (show (n : Int) ≠ 0 by omega)
    have h3 := Int.emod_lt_of_pos (-x) (show (0 : Int) < n by omega)
    refine ⟨((-x) % n).toNat, by omega, ?_⟩
    rcases Int.lt_or_le (x.tmod n) 0 with h4 | h4
    · exact .inr ⟨h4, by omega⟩
    · exact .inl ⟨h4, by omega⟩
  · have h1 := Int.tmod_eq_emod_of_nonneg (b := (n : Int)) h
    have h2 := Int.emod_nonneg x (show (n : Int) ≠ 0 by omega)
    have h3 := Int.emod_lt_of_pos x (show (0 : Int) < n by omega)
    exact ⟨(x % n).toNat, by omega, .inl ⟨by omega, by omega⟩⟩
/-- What the first loop keeps. -/
def Laid (ls : List Nat) (w2 wr : World) (p : Nat) (ys : List Nat) (wv : Value) : Prop :=
  ∃ o, (∀ s ∈ ys, s < ls.length ∧ ls.getD s 0 ≠ 0) ∧ Own .i64 3 wr wv (ints ys) ∧ WrAt wr p o (encV ls ys) (encL ls ys) ∧ Kept (fun _ => False) w2 wr ∧ (∀ b, o = some b → w2.heap.size ≤ b) ∧ (∀ b, wv.ownBlock = some b → w2.heap.size ≤ b ∧ b ≠ p ∧ o ≠ some b) ∧ w2.heap.size ≤ p
theorem Laid.grow {ls : List Nat} {w2 wr w' : World} {p : Nat} {ys : List Nat} {wv : Value} (h : Laid ls w2 wr p ys wv) (hk : Kept (fun _ => False) wr w') : Laid ls w2 w' p ys wv := by
  obtain ⟨o, h1, h2, h3, h4, h5, h6, h7⟩ := h
  exact ⟨o, h1, h2.kept hk (fun _ _ => id), h3.kept hk id (fun _ _ => id), h4.then hk, h5, h6, h7⟩
theorem laid_next {ls : List Nat} {w2 w4 w5 wa w6 : World} {p : Nat} {ys : List Nat} {vv v6 : Value} {o o5 : Option Nat} {K c n : Nat}
    (h : (∀ s ∈ ys, s < ls.length ∧ ls.getD s 0 ≠ 0) ∧ Own .i64 3 w4 vv (ints ys) ∧ WrAt w4 p o (encV ls ys) (encL ls ys) ∧ Kept (fun _ => False) w2 w4 ∧ (∀ b, o = some b → w2.heap.size ≤ b) ∧ (∀ b, vv.ownBlock = some b → w2.heap.size ≤ b ∧ b ≠ p ∧ o ≠ some b) ∧ w2.heap.size ≤ p)
    (h5 : WrAt w5 p o5 (encV ls ys + c * 2 ^ encL ls ys) (encL ls ys + n) ∧ Kept (fun i => i = p ∨ o = some i) w4 w5 ∧ (o5 = o ∨ ∃ b, o5 = some b ∧ w4.heap.size ≤ b) ∧ Own .i64 3 w5 vv (ints ys))
    (hka : Kept (fun _ => False) w5 wa) (hza : w5.heap.size < wa.heap.size) (hK : K < ls.length) (hn0 : n ≠ 0) (hc : c = rev (codeL ls K) (ls.getD K 0)) (hn : n = ls.getD K 0)
    (ho6 : Own .i64 3 w6 v6 (ints ys ++ [(K : Int)])) (hk6 : Kept (fun k => vv.ownBlock = some k) wa w6) (hpr : v6.ownBlock = vv.ownBlock ∨ v6.ownBlock = some wa.heap.size) : Laid ls w2 w6 p (ys ++ [K]) v6 := by
  obtain ⟨l1, l2, l3, l4, l5, l6, l7⟩ := h
  obtain ⟨m1, m2, m3, m4⟩ := h5
  have hz45 := m2.size
  have hz24 := l4.size
  have hz6 := hk6.size
  have hw5 := m1.olt
  have hvl : ∀ b, vv.ownBlock = some b → b < w4.heap.size := l2.lt
  have hvo : ∀ b, vv.ownBlock = some b → b ≠ p ∧ o5 ≠ some b := by
    intro b hb
    obtain ⟨q1, q2, q3⟩ := l6 b hb
    refine ⟨q2, fun h => ?_⟩
    rcases m3 with rfl | ⟨b2, rfl, h2⟩
    · exact q3 h
    · cases h; have := hvl b hb; omega
  have hWa := m1.kept hka id (fun _ _ => id)
  have hW6 : WrAt w6 p o5 (encV ls ys + c * 2 ^ encL ls ys) (encL ls ys + n) := hWa.kept hk6 (fun h => (hvo p h).1 rfl) (fun b hb h => (hvo b h).2 hb)
  refine ⟨o5, ?_, ?_, ?_, ?_, ?_, ?_, l7⟩
  · intro s hs
    rcases List.mem_append.1 hs with h | h
    · exact l1 s h
    · have : s = K := by simpa using h
      subst this
      exact ⟨hK, by rw [← hn]; exact hn0⟩
  · rw [ints_app]; exact ho6
  · rw [encV_app, encL_app, (encV_one ls K).1, (encV_one ls K).2, ← hc, ← hn]; exact hW6
  · have k1 : Kept (fun _ => False) w2 w5 := l4.trans (m2.mono (fun i _ h => Or.inr (by
      rcases h with h | h
      · omega
      · exact l5 i h)))
    exact (k1.then hka).trans (hk6.mono (fun i _ h => Or.inr (l6 i h).1))
  · intro b hb
    rcases m3 with rfl | ⟨b2, rfl, h2⟩
    · exact l5 b hb
    · cases hb; omega
  · intro b hb
    rcases hpr with h | h
    · rw [h] at hb
      exact ⟨(l6 b hb).1, hvo b hb⟩
    · rw [h] at hb
      cases hb
      have := hka.size
      refine ⟨by omega, by omega, fun h => ?_⟩
      have := hw5.2 _ h
      omega
set_option maxRecDepth 100000 in
set_option maxHeartbeats 16000000 in
theorem back_go (a0 : Option Addr) (len cap : Nat) (ls : List Nat) (a1 : Option Addr) (n1 c1 : Nat) (xs : List Int) (W : World) (hs : SlAt .u8 W a0 len (ints ls)) (hb : ∀ c ∈ ls, c < 256) (hnil : a0 = none → len = 0 ∧ cap = 0) (hx : SlAt .i64 W a1 n1 xs) (hxw : ∀ x ∈ xs, -9223372036854775808 ≤ x ∧ x ≤ 9223372036854775807) :
    Calls Try.prog 5 #[.slice a0 len cap, .slice a1 n1 c1] W fun e w' => e = .returned (.bool true) ∧ Kept (fun _ => False) W w' := by
  have hll : ls.length = len := by rw [← hs.1, ints_length]
  have H := Lib.hid (And.intro hs (And.intro hb (And.intro hll (And.intro hnil (And.intro hx hxw)))))
  clear hs hb hll hnil hx hxw
  by_cases hlen : 320 < len
  · have g0 : decide ((320 : Int) < (len : Int)) = true := decide_eq_true (by omega)
    have g0' : decide (320 < len) = true := decide_eq_true (by omega)
    go_enter Try.func5, Try.ntmps5
    go_wp2_with fail
    refine (known_any W).mono ?_
    rintro e w1 ⟨rfl, hk1⟩
    go_wp2
    exact bodyPost_ret (v := .bool true) (by simp [results, Try.results5, go_sem]) rfl ⟨rfl, hk1⟩
  have g0 : decide ((320 : Int) < (len : Int)) = false := decide_eq_false (by omega)
  have g0' : decide (320 < len) = false := decide_eq_false (by omega)
  by_cases hn1 : 400 < n1
  · have g1 : decide ((400 : Int) < (n1 : Int)) = true := decide_eq_true (by omega)
    have g1' : decide (400 < n1) = true := decide_eq_true (by omega)
    go_enter Try.func5, Try.ntmps5
    go_wp2_with fail
    refine (known_any W).mono ?_
    rintro e w1 ⟨rfl, hk1⟩
    go_wp2
    exact bodyPost_ret (v := .bool true) (by simp [results, Try.results5, go_sem]) rfl ⟨rfl, hk1⟩
  have g1 : decide ((400 : Int) < (n1 : Int)) = false := decide_eq_false (by omega)
  have g1' : decide (400 < n1) = false := decide_eq_false (by omega)
  by_cases hl0 : len = 0
  · subst hl0
    go_enter Try.func5, Try.ntmps5
    go_wp2_with fail
    refine (known_any W).mono ?_
    rintro e w1 ⟨rfl, hk1⟩
    go_wp2
    exact bodyPost_ret (v := .bool true) (by simp [results, Try.results5, go_sem]) rfl ⟨rfl, hk1⟩
  have g2 : ((len : Int) == 0) = false := by simp; omega
  obtain ⟨i0, hi0, hz0, hz1, hz2⟩ := info_parts tinfoInt
  have HI := Lib.hid (And.intro hi0 (And.intro hz0 (And.intro hz1 hz2)))
  clear hi0 hz0 hz1 hz2
  go_enter Try.func5, Try.ntmps5
  go_wp2_with fail
  refine (known_any W).mono ?_
  rintro e w1 ⟨rfl, hk1⟩
  have HK1 := Lib.hid hk1
  clear hk1
  go_wp2_with fail
  refine (new_any a0 len cap ls w1 (H.out.1.kept HK1.out (fun _ _ _ _ => id)) H.out.2.1 (by omega) H.out.2.2.2.1).mono ?_
  rintro e w2 (⟨h0, rfl, hk2⟩ | ⟨h0, a, sv, cv, la, lc, rfl, hT, hk2, -⟩)
  · have g3 : ((newE ls : Int) == 0) = false := by simp; omega
    obtain ⟨E, hE⟩ : ∃ E, newE ls = E := ⟨_, rfl⟩
    rw [hE] at g3 ⊢
    have HK2 := Lib.hid (HK1.out.then hk2)
    clear hk2 h0 hE
    go_wp2
    exact bodyPost_ret (v := .bool true) (by simp [results, Try.results5, go_sem]) rfl ⟨rfl, HK2.out⟩
  have hc15 : ∀ c ∈ ls, c ≤ 15 := fun c hc => by
    rcases Nat.lt_or_ge 15 c with h | h
    · have := any_of hc h; omega
    · exact h
  have hok : okTab ls = true := by
    have h1 := any_no hc15
    rw [h0] at h1
    cases ho : okTab ls with
    | true => rfl
    | false => rw [ho] at h1; cases h1
  have hr := okTab_le hok
  have HP := Lib.hid (And.intro hT (And.intro hc15 hr))
  have HK2 := Lib.hid (HK1.out.then hk2)
  clear hT hc15 hr hok hk2 h0
  go_wp2_with fail
  refine (newWriter w2).mono ?_
  rintro e w3 ⟨p, rfl, hw, hp, hk3⟩
  have hL0 : Laid ls w2 w3 p [] (.slice none 0 0) := ⟨none, (fun s hs => by cases hs), Own.nil _ _ _, hw, hk3, (fun b h => by cases h), (fun b h => by cases h), hp⟩
  have HL0 := Lib.hid hL0
  clear hw hp hk3 hL0
  go_wp2
  go_loopg [8, 9] (n1 + 1) (fun gg vv iv wr => ∃ (i : Nat) (ys : List Nat) (v0 : Value), n1 + 1 ≤ gg + i ∧ i ≤ n1 ∧ iv = .int .i64 (i : Int) ∧ v0 = vv ∧ ys.length ≤ i ∧ Laid ls w2 wr p ys v0)
  case atStart => exact ⟨0, [], _, by omega, by omega, rfl, rfl, by simp, HL0.out⟩
  case round =>
    obtain ⟨i, ys, vv, hgg, hil, rfl, rfl, hyl, hld⟩ := hrel
    have HLD := Lib.hid (And.intro hyl hld)
    clear hyl hld
    by_cases hi : i < n1
    · have gi : decide ((i : Int) < (n1 : Int)) = true := decide_eq_true (by omega)
      have gi' : decide (i < n1) = true := decide_eq_true hi
      obtain ⟨x, hxx⟩ : ∃ x, xs[i]? = some x := ⟨_, List.getElem?_eq_getElem (by rw [H.out.2.2.2.2.1.1]; exact hi)⟩
      have hxb := H.out.2.2.2.2.2 x (List.mem_of_getElem? hxx)
      obtain ⟨-, -, -, hkr, -⟩ := HLD.out.2.choose_spec
      have hxr := (H.out.2.2.2.2.1.kept HK2.out (fun _ _ _ _ => id)).kept hkr (fun _ _ _ _ => id)
      obtain ⟨b, off, rfl, hcell⟩ := hxr.2.resolve_left (by omega)
      have hci := hcell i hi
      rw [List.getD_eq_getElem?_getD, hxx] at hci
      simp only [Option.getD_some] at hci
      obtain ⟨K, hK, hKx⟩ := rem_parts x len (by omega)
      have hcd := code_any wr a _ _ ls _ sv cv la lc (HP.out.1.grow hkr) HP.out.2.1 (by rw [H.out.2.2.1]; omega) (K : Int)
      have hpl := part_len ls K (by rw [H.out.2.2.1]; exact hK) HP.out.2.1
      obtain ⟨c, hc⟩ : ∃ c, codeV ls K = c := ⟨_, rfl⟩
      obtain ⟨n, hn⟩ : ∃ n, lenV ls K = n := ⟨_, rfl⟩
      rw [hc, hn] at hcd hpl
      have HCD := Lib.hid (And.intro hcd hpl)
      clear hcd hpl hc hn hcell hxr hkr hxx
      obtain ⟨R, hR⟩ : ∃ R, x.tmod (len : Int) = R := ⟨_, rfl⟩
      rw [hR] at hKx
      have wR : IntKind.i64.wrap R = R := IntWalk.i64_in _ (by omega)
      clear hxb
      rcases hKx with ⟨hR0, rfl⟩ | ⟨hR0, rfl⟩
      · have gR : decide ((K : Int) < 0) = false := decide_eq_false (by omega)
        go_wp2_with fail
        refine HCD.out.1.mono ?_
        rintro e w4 ⟨rfl, hk4⟩
        have hld4 := HLD.out.2.grow hk4
        by_cases hn0 : n = 0
        · subst hn0
          have HLD4 := Lib.hid hld4
          clear hk4 hld4
          go_wp2
          go_roundg (gk - 1)
          case rel => exact ⟨i + 1, ys, _, by omega, by omega, by simp, rfl, by have := HLD.out.1; omega, HLD4.out⟩
          case measure => omega
        have hn15 : n ≤ 15 := by
          rw [HCD.out.2.2, List.getD_eq_getElem?_getD, List.getElem?_eq_getElem (by rw [H.out.2.2.1]; exact hK)]
          exact HP.out.2.1 _ (List.getElem_mem _)
        have gn : decide (0 < n) = true := decide_eq_true (by omega)
        have gn' : decide ((0 : Int) < (n : Int)) = true := decide_eq_true (by omega)
        have hc32 : c < 2 ^ n := by rw [HCD.out.2.1, ← HCD.out.2.2]; exact rev_lt _ _
        have hp15 : 2 ^ n ≤ 2 ^ 15 := Nat.pow_le_pow_right (n := 2) (by omega) hn15
        obtain ⟨o, l1, l2, l3, l4, l5, l6, l7⟩ := hld4
        have hel := encL_le HP.out.2.1 ys
        have hwb := wbits_yes p o _ _ c n w4 l3 (by omega) (by omega) (by omega) (by have := HLD.out.1; omega)
        rw [Nat.mod_eq_of_lt hc32] at hwb
        have HW := Lib.hid hwb
        have H4 := Lib.hid (And.intro l1 (And.intro l2 (And.intro l3 (And.intro l4 (And.intro l5 (And.intro l6 l7))))))
        clear hk4 hwb l1 l2 l3 l4 l5 l6 l7 hel
        go_wp2_with fail
        refine HW.out.mono ?_
        rintro e w5 ⟨rfl, o5, hw5, hk5, ho5⟩
        have hwv5 : Own .i64 3 w5 vv (ints ys) := H4.out.2.1.kept hk5 (fun b hb h => by
          obtain ⟨q1, q2, q3⟩ := H4.out.2.2.2.2.2.1 b hb
          rcases h with h | h
          · exact q2 h
          · exact q3 h)
        have H5 := Lib.hid (And.intro hw5 (And.intro hk5 (And.intro ho5 hwv5)))
        clear hw5 hk5 ho5
        have hs1 : SlAt .i64 (w5.alloc (.cells #[.int .i64 (K : Int)] 3)) (some ⟨w5.heap.size, 0, none⟩) 1 [(K : Int)] := slAt_blk (blk_new w5 (.cells #[.int .i64 (K : Int)] 3)) rfl rfl
        have hoa : Own .i64 3 (w5.alloc (.cells #[.int .i64 (K : Int)] 3)) vv (ints ys) := hwv5.kept ((Kept.refl (fun _ => False) w5).alloc _) (fun _ _ => id)
        clear hwv5
        go_wp2_with (at_builtin; refine wpList_appInts rfl (.tmp 77) (.tmp 79) 48 rfl 3 .i64 i0 (.int .i64 0) 8 Try.underlying48 HI.out.1 HI.out.2.1 HI.out.2.2.1 HI.out.2.2.2 rfl vv (ints ys) rfl hoa (some ⟨w5.heap.size, 0, none⟩) 1 1 [(K : Int)] rfl (fun h => by cases h) hs1 (by rw [ints_length]; have := HLD.out.1; omega) (by rw [ints_length]; have := HLD.out.1; simp [maxLen]; omega) ?_; intro v6 w6 ho6 hk6 hpr6)
        have HN := Lib.hid (show Laid ls w2 w6 p (ys ++ [K]) v6 from laid_next (wa := w5.alloc (.cells #[.int .i64 (K : Int)] 3)) H4.out H5.out ((Kept.refl _ _).alloc _) (by simp) (by rw [H.out.2.2.1]; exact hK) hn0 HCD.out.2.1 HCD.out.2.2 ho6 hk6 hpr6)
        clear ho6 hk6 hpr6 hs1 hoa
        go_wp2
        go_roundg (gk - 1)
        case rel => exact ⟨i + 1, ys ++ [K], _, by omega, by omega, by simp, rfl, by have := HLD.out.1; simp; omega, HN.out⟩
        case measure => omega
      · have gR : decide (-(K : Int) < 0) = true := decide_eq_true hR0
        have wK : IntKind.i64.wrap (K : Int) = (K : Int) := IntWalk.i64_in _ (by omega)
        have wK2 : IntKind.i64.wrap (0 - -(K : Int)) = (K : Int) := by rw [show (0 : Int) - -(K : Int) = (K : Int) by omega]; exact wK
        go_wp2_with fail
        refine HCD.out.1.mono ?_
        rintro e w4 ⟨rfl, hk4⟩
        have hld4 := HLD.out.2.grow hk4
        by_cases hn0 : n = 0
        · subst hn0
          have HLD4 := Lib.hid hld4
          clear hk4 hld4
          go_wp2
          go_roundg (gk - 1)
          case rel => exact ⟨i + 1, ys, _, by omega, by omega, by simp, rfl, by have := HLD.out.1; omega, HLD4.out⟩
          case measure => omega
        have hn15 : n ≤ 15 := by
          rw [HCD.out.2.2, List.getD_eq_getElem?_getD, List.getElem?_eq_getElem (by rw [H.out.2.2.1]; exact hK)]
          exact HP.out.2.1 _ (List.getElem_mem _)
        have gn : decide (0 < n) = true := decide_eq_true (by omega)
        have gn' : decide ((0 : Int) < (n : Int)) = true := decide_eq_true (by omega)
        have hc32 : c < 2 ^ n := by rw [HCD.out.2.1, ← HCD.out.2.2]; exact rev_lt _ _
        have hp15 : 2 ^ n ≤ 2 ^ 15 := Nat.pow_le_pow_right (n := 2) (by omega) hn15
        obtain ⟨o, l1, l2, l3, l4, l5, l6, l7⟩ := hld4
        have hel := encL_le HP.out.2.1 ys
        have hwb := wbits_yes p o _ _ c n w4 l3 (by omega) (by omega) (by omega) (by have := HLD.out.1; omega)
        rw [Nat.mod_eq_of_lt hc32] at hwb
        have HW := Lib.hid hwb
        have H4 := Lib.hid (And.intro l1 (And.intro l2 (And.intro l3 (And.intro l4 (And.intro l5 (And.intro l6 l7))))))
        clear hk4 hwb l1 l2 l3 l4 l5 l6 l7 hel
        go_wp2_with fail
        refine HW.out.mono ?_
        rintro e w5 ⟨rfl, o5, hw5, hk5, ho5⟩
        have hwv5 : Own .i64 3 w5 vv (ints ys) := H4.out.2.1.kept hk5 (fun b hb h => by
          obtain ⟨q1, q2, q3⟩ := H4.out.2.2.2.2.2.1 b hb
          rcases h with h | h
          · exact q2 h
          · exact q3 h)
        have H5 := Lib.hid (And.intro hw5 (And.intro hk5 (And.intro ho5 hwv5)))
        clear hw5 hk5 ho5
        have hs1 : SlAt .i64 (w5.alloc (.cells #[.int .i64 (K : Int)] 3)) (some ⟨w5.heap.size, 0, none⟩) 1 [(K : Int)] := slAt_blk (blk_new w5 (.cells #[.int .i64 (K : Int)] 3)) rfl rfl
        have hoa : Own .i64 3 (w5.alloc (.cells #[.int .i64 (K : Int)] 3)) vv (ints ys) := hwv5.kept ((Kept.refl (fun _ => False) w5).alloc _) (fun _ _ => id)
        clear hwv5
        go_wp2_with (at_builtin; refine wpList_appInts rfl (.tmp 77) (.tmp 79) 48 rfl 3 .i64 i0 (.int .i64 0) 8 Try.underlying48 HI.out.1 HI.out.2.1 HI.out.2.2.1 HI.out.2.2.2 rfl vv (ints ys) rfl hoa (some ⟨w5.heap.size, 0, none⟩) 1 1 [(K : Int)] rfl (fun h => by cases h) hs1 (by rw [ints_length]; have := HLD.out.1; omega) (by rw [ints_length]; have := HLD.out.1; simp [maxLen]; omega) ?_; intro v6 w6 ho6 hk6 hpr6)
        have HN := Lib.hid (show Laid ls w2 w6 p (ys ++ [K]) v6 from laid_next (wa := w5.alloc (.cells #[.int .i64 (K : Int)] 3)) H4.out H5.out ((Kept.refl _ _).alloc _) (by simp) (by rw [H.out.2.2.1]; exact hK) hn0 HCD.out.2.1 HCD.out.2.2 ho6 hk6 hpr6)
        clear ho6 hk6 hpr6 hs1 hoa
        go_wp2
        go_roundg (gk - 1)
        case rel => exact ⟨i + 1, ys ++ [K], _, by omega, by omega, by simp, rfl, by have := HLD.out.1; simp; omega, HN.out⟩
        case measure => omega
    · obtain rfl : i = n1 := by omega
      obtain ⟨o, l1, l2, l3, l4, l5, l6, l7⟩ := HLD.out.2
      have hel := encL_le HP.out.2.1 ys
      have HD := Lib.hid (done_any p o _ _ wr l3 (by have := HLD.out.1; omega))
      have H4 := Lib.hid (And.intro l1 (And.intro l2 (And.intro l3 (And.intro l4 (And.intro l5 (And.intro l6 l7))))))
      clear l1 l2 l3 l4 l5 l6 l7
      go_wp2_with fail
      refine HD.out.mono ?_
      rintro e w5 ⟨dv, ds, rfl, hd, hdb, hdv, hdl, hk5, -⟩
      obtain ⟨da, dcap, rfl, hdsl, -, -, hdnil, -⟩ := hd.shape
      have HRD := Lib.hid (newReader da ds.length dcap ds w5 hdsl hdnil (by rw [hdl]; have := HLD.out.1; omega) hdb)
      have H5 := Lib.hid (And.intro hdv (And.intro hdl hk5))
      clear hd hdb hdv hdl hk5 hdsl hdnil
      go_wp2_with fail
      refine HRD.out.mono ?_
      rintro e w6 ⟨q, ro, rfl, hrd, hq, -, hk6⟩
      obtain ⟨wa, wc, rfl, -⟩ := H4.out.2.1.shape
      have hw6 := (H4.out.2.1.kept H5.out.2.2 (fun _ _ => id)).kept hk6 (fun _ _ => id)
      have hq4 : wr.heap.size ≤ q := Nat.le_trans H5.out.2.2.size hq
      have hk26 := (H4.out.2.2.2.1.then H5.out.2.2).then hk6
      have hT6 := HP.out.1.grow hk26
      have hqa : q ≠ a := by have := HP.out.1.1.lt; have := H4.out.2.2.2.1.size; omega
      have hqs : sv.ownBlock ≠ some q := fun h => by have := HP.out.1.2.1.lt q h; have := H4.out.2.2.2.1.size; omega
      have hqc : cv.ownBlock ≠ some q := fun h => by have := HP.out.1.2.2.1.lt q h; have := H4.out.2.2.2.1.size; omega
      have hql : ∀ b off, 0 < ls.length → la = some ⟨b, off, none⟩ → b ≠ q := fun b off h0 h => by have := (HP.out.1.2.2.2.2.2.2.2 b off h0 h).2.2.2; have := H4.out.2.2.2.1.size; omega
      have hqw : ∀ b, (Value.slice wa (ints ys).length wc).ownBlock = some b → b ≠ q := fun b h => by have := H4.out.2.1.lt b h; omega
      have H6 := Lib.hid (And.intro hw6 (And.intro hT6 (And.intro hqa (And.intro hqs (And.intro hqc (And.intro hql (And.intro hqw (And.intro hk26 hrd))))))))
      have hyl := HLD.out.1
      have hq2 : w2.heap.size ≤ q := by have := H4.out.2.2.2.1.size; omega
      have HQ := Lib.hid hq2
      clear hw6 hk26 hT6 hqa hqs hqc hql hqw hrd hk6 hq hq4 hq2
      obtain ⟨YL, hYL⟩ : ∃ n, ys.length = n := ⟨_, rfl⟩
      have HYL := Lib.hid hYL
      have hil : (ints ys).length = YL := by rw [ints_length, hYL]
      rw [hil]
      rw [hYL] at hyl hel
      clear hYL
      go_wp2
      go_loopg [14] (YL + 1) (fun gg jv wr => ∃ j : Nat, YL + 1 ≤ gg + j ∧ j ≤ YL ∧ jv = .int .i64 (j : Int) ∧ RdAt wr q ro ds (encL ls (ys.take j)) ∧ Kept (fun i => i = q) w6 wr)
      case atStart => exact ⟨0, by omega, by omega, rfl, H6.out.2.2.2.2.2.2.2.2, Kept.refl _ _⟩
      case round =>
        obtain ⟨j, hgg, hjl, rfl, hrd, hkr⟩ := hrel
        have HR7 := Lib.hid (And.intro hrd hkr)
        clear hrd hkr
        by_cases hj : j < YL
        · have gj : decide ((j : Int) < (YL : Int)) = true := decide_eq_true (by omega)
          have gj' : decide (j < YL) = true := decide_eq_true hj
          obtain ⟨s, hss⟩ : ∃ s, ys[j]? = some s := ⟨_, List.getElem?_eq_getElem (by rw [HYL.out]; exact hj)⟩
          obtain ⟨hs1, hs2⟩ := H4.out.1 s (List.mem_of_getElem? hss)
          obtain ⟨n, hn⟩ : ∃ n, ls[s]? = some n := ⟨_, List.getElem?_eq_getElem hs1⟩
          have hgd : ls.getD s 0 = n := by rw [List.getD_eq_getElem?_getD, hn]; rfl
          rw [hgd] at hs2
          have hsplit : ys = ys.take j ++ s :: ys.drop (j + 1) := by
            obtain ⟨hj2, he⟩ := List.getElem?_eq_some_iff.1 hss
            rw [← he, List.getElem_cons_drop]; exact (List.take_append_drop j ys).symm
          have hds : ds.length ≤ 1000000 := by rw [H5.out.2.1]; omega
          have hrn := read_next HP.out.2.2 HP.out.2.1 hn (by omega) (ys.take j) (ys.drop (j + 1)) ds (by rw [← hsplit]; exact H5.out.1) (by rw [← hsplit, H5.out.2.1]; omega)
          have hT7 := H6.out.2.1.kept HR7.out.2 (fun h => H6.out.2.2.1 h.symm) (fun b hb (h : b = q) => H6.out.2.2.2.1 (by rw [hb, h])) (fun b hb (h : b = q) => H6.out.2.2.2.2.1 (by rw [hb, h])) (fun b off h0 h => H6.out.2.2.2.2.2.1 b off h0 h)
          have HRR := Lib.hid (read_any wr a (codesR ls) ls sv cv la lc hT7 HP.out.2.1 (by rw [H.out.2.2.1]; omega) HP.out.2.2 q ro ds _ HR7.out.1 H6.out.2.2.1 H6.out.2.2.2.1 hds hrn)
          have HS := Lib.hid (And.intro hss (And.intro hgd (And.intro hsplit hs2)))
          clear hss hs1 hs2 hn hgd hsplit hds hrn hT7
          go_wp2_with fail
          refine HRR.out.mono ?_
          rintro e w8 ⟨he, hr8, hk8⟩
          obtain rfl : e = .returned (.tuple #[.int .i64 (s : Int), .int .i64 0]) := he
          have hk68 := HR7.out.2.then hk8
          have hw8 := H6.out.1.kept hk68 (fun b hb (h : b = q) => H6.out.2.2.2.2.2.2.1 b hb h)
          have hsl8 := hw8.shape
          obtain ⟨wa', wc', he2, hsl, -⟩ := hsl8
          injection he2 with he3 he4 he5
          subst he3
          rw [ints_length, HYL.out] at hsl
          obtain ⟨b, off, rfl, hcell⟩ := hsl.2.resolve_left (by omega)
          have hcj := hcell j hj
          rw [ints_at HS.out.1] at hcj
          have hr8' : RdAt w8 q ro ds (encL ls (ys.take (j + 1))) := by
            rw [take_snoc' HS.out.1, encL_app, (encV_one ls s).2, HS.out.2.1]; exact hr8
          have H8 := Lib.hid (And.intro hr8' hk68)
          clear hr8 hk8 hk68 hw8 hsl hcell he4 he5 hr8'
          go_wp2
          go_roundg (gk - 1)
          case rel => exact ⟨j + 1, by omega, by omega, by simp, H8.out⟩
          case measure => omega
        · obtain rfl : j = YL := by omega
          have hl := left_any q ro ds _ wr HR7.out.1
          rw [List.take_of_length_le (by rw [HYL.out]; exact Nat.le_refl _)] at hl
          have hd8 := H5.out.2.1
          obtain ⟨LF, hLF⟩ : ∃ z, 8 * (ds.length : Int) - (encL ls ys : Int) = z := ⟨_, rfl⟩
          rw [hLF] at hl
          have g8 : decide (LF < 8) = true := decide_eq_true (by omega)
          have HL := Lib.hid hl
          clear hl hLF hd8
          go_wp2_with fail
          refine HL.out.mono ?_
          rintro e w9 ⟨rfl, m9, rfl⟩
          have hkz : Kept (fun _ => False) w2 wr := H6.out.2.2.2.2.2.2.2.1.trans (HR7.out.2.mono (fun i _ h => Or.inr (by have : i = q := h; have := HQ.out; omega)))
          go_wp2
          exact bodyPost_ret (v := .bool true) (by simp [results, Try.results5, go_sem]) rfl ⟨rfl, (HK2.out.then hkz).drewN m9⟩
theorem law_back {a0 a1 : Option Addr} {l0 c0 l1 c1 : Nat} {z0 z1 : List Int} {w : World} (f0 : IsRow .u8 w a0 l0 c0 z0) (f1 : IsRow .i64 w a1 l1 c1 z1) :
    Calls Try.prog 5 #[.slice a0 l0 c0, .slice a1 l1 c1] w fun e w' => e = .returned (.bool true) ∧ Below w.heap.size w w' := by
  obtain ⟨bs, s0, b0, -, k0, m0, n0, e0⟩ := row_ints f0
  obtain ⟨h1, h2, h3, h4, h5, h6⟩ := f1.slAt
  exact (back_go a0 l0 c0 bs a1 l1 c1 (z1.take l1) w s0 b0 e0 h1 (fun n hn => int_of_wf (h4 n hn))).mono (fun e w' ⟨h1, h2⟩ => ⟨h1, h2.below⟩)
end Go.Proofs.Ytndneidjnlammaa
