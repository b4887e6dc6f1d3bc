/- The law of plays, walked. -/
import Derived.Test.YtdfenlonlpjkfaaRgLn
import Derived.Test.YtdfenlonlpjkfaaPairs
namespace Go.Proofs.Ytdfenlonlpjkfaa
open Go.RowKit
set_option linter.unusedVariables false
set_option linter.unusedSimpArgs false
theorem fpop (p most gone : Nat) (L : List Int) (o : Option Nat) (w : World) (h : FAt w p most gone L o) (hl : L.length ≤ 65536) :
    Calls Try.prog 15 #[.pointer (some ⟨p, 0, none⟩)] w fun e w' => e = .returned (.tuple #[.int .i64 (L.getD (L.length - 1) 0), .bool (!decide (L.length = 0))]) ∧ ∃ o', FAt w' p most gone (L.take (L.length - 1)) o' ∧ Ext w p o o' w' := by
  by_cases h0 : L.length = 0
  · have hL : L = [] := List.eq_nil_of_length_eq_zero h0
    subst hL
    refine (fpop_none p most gone o w h).mono ?_
    rintro e w' ⟨rfl, rfl⟩
    exact ⟨rfl, o, h, Ext.refl _ _ _⟩
  · obtain ⟨n, hn⟩ : ∃ n, L.length = n + 1 := ⟨L.length - 1, by omega⟩
    refine (fpop_some p most gone n L o w h hn (by omega)).mono ?_
    rintro e w' ⟨rfl, hx⟩
    have e1 : (!decide (L.length = 0)) = true := by rw [decide_eq_false h0]; rfl
    rw [e1, hn, Nat.add_sub_cancel]
    exact ⟨rfl, hx⟩
/-- Both rings, apart from one another and from what lay below B. -/
def Both (B : Nat) (w : World) (q p most gone : Nat) (L : List Int) : Prop :=
  ∃ o o2, Rg w q most gone L o ∧ FAt w p most gone L o2 ∧ q ≠ p ∧ o ≠ some p ∧ o2 ≠ some q ∧ (∀ b, o = some b → o2 ≠ some b) ∧ B ≤ q ∧ B ≤ p ∧ (∀ b, o = some b → B ≤ b) ∧ (∀ b, o2 = some b → B ≤ b)
theorem Both.two {B : Nat} {w w1 w2 : World} {q p most gone gone' : Nat} {L L' : List Int} {o o2 o' o2' : Option Nat} (hR : Rg w q most gone L o) (hF : FAt w p most gone L o2) (h1 : q ≠ p) (h2 : o ≠ some p) (h3 : o2 ≠ some q) (h4 : ∀ b, o = some b → o2 ≠ some b) (h5 : B ≤ q) (h6 : B ≤ p) (h7 : ∀ b, o = some b → B ≤ b) (h8 : ∀ b, o2 = some b → B ≤ b) (hB : B ≤ w.heap.size)
    (hR' : Rg w1 q most gone' L' o') (x1 : Ext w q o o' w1) (hF' : FAt w2 p most gone' L' o2') (x2 : Ext w1 p o2 o2' w2) : Both B w2 q p most gone' L' ∧ Kept (fun i => B ≤ i) w w2 := by
  have hs1 := x1.1.size
  have hpw := hF.lt
  have hqw := hR.lt
  have e1 : o' ≠ some p := by
    rcases x1.2 with h | ⟨b, h, hb⟩
    · rw [h]; exact h2
    · rw [h]; intro he; cases he; omega
  have e2 : ∀ b, o' = some b → o2 ≠ some b := by
    rcases x1.2 with h | ⟨c, h, hc⟩
    · rw [h]; exact h4
    · intro b hb he; rw [h] at hb; cases hb; have := hpw.2 _ he; omega
  have hq1 := hR'.lt
  have e3 : o2' ≠ some q := by
    rcases x2.2 with h | ⟨b, h, hb⟩
    · rw [h]; exact h3
    · rw [h]; intro he; cases he; omega
  have e4 : ∀ b, o' = some b → o2' ≠ some b := by
    rcases x2.2 with h | ⟨c, h, hc⟩
    · rw [h]; exact e2
    · intro b hb he; rw [h] at he; cases he; have := hq1.2 _ hb; omega
  refine ⟨⟨o', o2', hR'.kept x2.1 (fun h => h.elim h1 h3) (fun b hb h => h.elim (fun h => e1 (by rw [hb, h])) (fun h => e2 b hb h)), hF', h1, e1, e3, e4, h5, h6, ?_, ?_⟩, ?_⟩
  · rcases x1.2 with h | ⟨c, h, hc⟩
    · rw [h]; exact h7
    · intro b hb; rw [h] at hb; cases hb; omega
  · rcases x2.2 with h | ⟨c, h, hc⟩
    · rw [h]; exact h8
    · intro b hb; rw [h] at hb; cases hb; omega
  · refine (x1.1.mono fun i _ h => ?_).then (x2.1.mono fun i _ h => ?_)
    · rcases h with rfl | h
      · exact h5
      · exact h7 i h
    · rcases h with rfl | h
      · exact h6
      · exact h8 i h
theorem Both.up {B : Nat} {w w' : World} {q p most gone : Nat} {L : List Int} (h : Both B w q p most gone L) (hk : Kept (fun _ => False) w w') : Both B w' q p most gone L := by
  obtain ⟨o, o2, h1, h2, h3⟩ := h
  exact ⟨o, o2, h1.up hk, h2.up hk, h3⟩
theorem push_len {most : Nat} {L : List Int} {t : Int} (h : L.length ≤ most) : pushG most L + (pushL most L t).length = L.length + 1 := by
  unfold pushG pushL
  split
  · simp
  · simp; omega
theorem I64_of {n : Int} (h : (Lit.int .i64 n).wf = true) : -9223372036854775808 ≤ n ∧ n ≤ 9223372036854775807 := by
  simpa [Lit.wf, IntKind.min, IntKind.max, IntKind.signed, IntKind.bits] using h
theorem Kept.then' {A B C : World} (h : Kept (fun _ => False) A B) (k : Kept (fun i => A.heap.size ≤ i) B C) : Kept (fun _ => False) A C := h.trans (k.mono fun _ _ h => Or.inr h)
theorem cells3 {w wr w' : World} {b off len : Nat} {K N : Nat → Int} (hc : ∀ i, i < len → w.cell? ⟨b, off + i * 2, none⟩ = some (.int .i64 (K i)) ∧ w.cell? ⟨b, off + (i * 2 + 1), none⟩ = some (.int .i64 (N i)) ∧ (Lit.int .i64 (K i)).wf = true ∧ (Lit.int .i64 (N i)).wf = true) (hk : Kept (fun _ => False) w wr) (hk2 : Kept (fun i => w.heap.size ≤ i) wr w') (i : Nat) (hi : i < len) :
    w'.cell? ⟨b, off + i * 2, none⟩ = some (.int .i64 (K i)) ∧ w'.cell? ⟨b, off + i * 2 + 1, none⟩ = some (.int .i64 (N i)) := by
  obtain ⟨h1, h2, -, -⟩ := hc i hi
  have hl := lt_of_cell h1
  have h := hk.then' hk2
  exact ⟨h.cell h1 id, by rw [Nat.add_assoc]; exact h.cell h2 id⟩
theorem both_clear {B : Nat} {w w1 w2 : World} {q p most gone : Nat} {L : List Int} {o o2 : Option Nat} (hR : Rg w q most gone L o) (hF : FAt w p most gone L o2) (h1 : q ≠ p) (h3 : o2 ≠ some q) (h5 : B ≤ q) (h6 : B ≤ p) (hB : B ≤ w.heap.size)
    (hR' : Rg w1 q most (gone + L.length) [] none) (x1 : Kept (fun i => i = q) w w1) (hF' : FAt w2 p most (gone + L.length) [] none) (x2 : Kept (fun i => i = p) w1 w2) : Both B w2 q p most (gone + L.length) [] ∧ Kept (fun i => B ≤ i) w w2 :=
  ⟨⟨none, none, hR'.kept x2 (fun h => h1 h) (fun b hb => by cases hb), hF', h1, (fun h => by cases h), (fun h => by cases h), (fun b hb => by cases hb), h5, h6, (fun b hb => by cases hb), fun b hb => by cases hb⟩,
    (x1.mono fun i _ h => by rw [h]; exact h5).then (x2.mono fun i _ h => by rw [h]; exact h6)⟩
set_option maxRecDepth 100000 in
set_option maxHeartbeats 8000000 in
theorem plays_far (most : Int) (a : Option Addr) (len cap : Nat) (w : World) (h : 300 < len) : Calls Try.prog 5 #[.int .i64 most, .slice a len cap] w fun e w' => e = .returned (.bool true) ∧ Kept (fun _ => False) w w' := by
  have g0 : decide ((300 : Int) < (len : Int)) = true := decide_eq_true (by omega)
  go_enter Try.func5, Try.ntmps5
  go_wp2_with fail
  refine (known_any _).mono ?_; rintro e w1 ⟨rfl, hk⟩
  have K1 := Lib.hid hk
  clear hk
  go_wp2
  exact bodyPost_ret (v := .bool true) (by simp [results, Try.results5, go_sem]) rfl ⟨rfl, K1.out⟩
set_option maxRecDepth 100000 in
set_option maxHeartbeats 8000000 in
theorem plays_no (most : Int) (a : Option Addr) (len cap : Nat) (w : World) (h : len ≤ 300) (hm : most < 0 ∨ 65536 < most) : Calls Try.prog 5 #[.int .i64 most, .slice a len cap] w fun e w' => e = .returned (.bool true) ∧ Kept (fun _ => False) w w' := by
  have g0 : decide ((300 : Int) < (len : Int)) = false := decide_eq_false (by omega)
  go_enter Try.func5, Try.ntmps5
  go_wp2_with fail
  refine (known_any _).mono ?_; rintro e w1 ⟨rfl, hk⟩
  have K1 := Lib.hid hk
  clear hk
  go_wp2_with fail
  refine (inew_no most _ hm).mono ?_; rintro e w2 ⟨rfl, rfl⟩
  go_wp2_with fail
  refine (fnew_no most _ hm).mono ?_; rintro e w3 ⟨rfl, rfl⟩
  go_wp2
  exact bodyPost_ret (v := .bool true) (by simp [results, Try.results5, go_sem]) rfl ⟨rfl, K1.out⟩
set_option maxRecDepth 100000 in
set_option maxHeartbeats 8000000 in
theorem plays_in (m : Nat) (a : Option Addr) (len cap : Nat) (K N : Nat → Int) (w : World) (hs : IsPairs w a len K N) (h : len ≤ 300) (hm : m ≤ 65536) : Calls Try.prog 5 #[.int .i64 m, .slice a len cap] w fun e w' => e = .returned (.bool true) ∧ Kept (fun _ => False) w w' := by
  have g0 : decide ((300 : Int) < (len : Int)) = false := decide_eq_false (by omega)
  have HS := Lib.hid hs
  clear hs
  go_enter Try.func5, Try.ntmps5
  go_wp2_with fail
  refine (known_any _).mono ?_; rintro e w1 ⟨rfl, hk⟩
  have K1 := Lib.hid hk
  clear hk
  go_wp2_with fail
  refine (inew_yes m _ hm).mono ?_; rintro e w2 ⟨rfl, hr, hk2⟩
  obtain ⟨q, hq⟩ : ∃ q, w1.heap.size = q := ⟨_, rfl⟩
  rw [hq] at hr ⊢
  have HR2 := Lib.hid (And.intro hr hk2)
  have hqw : w.heap.size ≤ q := by rw [← hq]; exact K1.out.size
  clear hr hk2
  go_wp2_with fail
  refine (fnew_yes m _ hm).mono ?_; rintro e w3 ⟨rfl, hf, hk3⟩
  obtain ⟨p, hp⟩ : ∃ p, w2.heap.size = p := ⟨_, rfl⟩
  rw [hp] at hf ⊢
  have hqp : q < p := by rw [← hp]; exact HR2.out.1.lt.1
  have HST := Lib.hid (show Both w.heap.size w3 q p m 0 [] ∧ Kept (fun _ => False) w w3 from ⟨⟨none, none, ⟨0, [], HR2.out.1.up hk3, rfl, .inl rfl, fun _ => rfl, Nat.zero_le _⟩, hf, by omega, (fun h => by cases h), (fun h => by cases h), (fun b hb => by cases hb), hqw, by omega, (fun b hb => by cases hb), fun b hb => by cases hb⟩, (K1.out.then HR2.out.2).then hk3⟩)
  clear hf hk3 hq hp hqp hqw
  go_wp2
  go_loopg [9, 10, 11, 12, 13, 14, 15, 16, 17, 56, 86, 106] len (fun gg iv _ _ _ _ _ _ _ _ _ _ _ wr => ∃ (i g : Nat) (L : List Int), len ≤ gg + i ∧ i ≤ len ∧ iv = .int .i64 (i : Int) ∧ Both w.heap.size wr q p m g L ∧ g + L.length ≤ i ∧ Kept (fun _ => False) w wr)
  case atStart => exact ⟨0, 0, [], by omega, by omega, rfl, HST.out.1, by simp, HST.out.2⟩
  case round =>
    obtain ⟨i, g, L, hgg, hil, rfl, hB, hgL, hk⟩ := hrel
    have HK := Lib.hid hk
    have HBT := Lib.hid hB
    clear hk
    by_cases hi : i < len
    · have gi : decide (i < len) = true := decide_eq_true hi
      obtain ⟨b, off, rfl, -, hc⟩ := HS.out.resolve_left (by omega)
      have HC := Lib.hid hc
      obtain ⟨c0, c1⟩ := cells3 hc HK.out (Kept.refl _ _) i hi
      have w1' : IntKind.i64.wrap ((i : Int) + 1) = (i : Int) + 1 := IntWalk.i64_in _ (by omega)
      have li : (i : Int) < (len : Int) := by omega
      clear hc
      obtain ⟨o, o2, hR, hF, d1, d2', d3, d4, d5, d6, d7, d8⟩ := hB
      have hRl := hR.len
      obtain ⟨kk, hkk⟩ : ∃ kk, K i = kk := ⟨_, rfl⟩
      have HKI := Lib.hid hkk
      rw [hkk] at c0
      clear hkk
      by_cases k1 : kk = 1
      · subst k1
        have HC1 := Lib.hid (rpush q m g L o (N i) wr hR (by omega) (by omega))
        obtain ⟨X, hX⟩ : ∃ X, pushX m L (N i) = X := ⟨_, rfl⟩
        obtain ⟨BB, hBBe⟩ : ∃ X, (pushB m L) = X := ⟨_, rfl⟩
        rw [hX, hBBe] at HC1
        have HX := Lib.hid (And.intro hX hBBe)
        clear hX hBBe
        go_wp2_with fail
        refine HC1.out.mono ?_
        rintro e w3 ⟨rfl, o', hR3, x3⟩
        have hF3 : FAt w3 p m g L o2 := hF.kept x3.1 (fun h => h.elim (fun h => d1 h.symm) d2') (fun b hb h => h.elim (fun h => d3 (by rw [hb, h])) (fun h => d4 b h hb))
        have HC2 := Lib.hid (fpush p m g L o2 (N i) w3 hF3 hRl (by omega) (by omega))
        rw [HX.out.1, HX.out.2] at HC2
        have H3 := Lib.hid (And.intro hR3 x3)
        obtain ⟨e0, e1⟩ := cells3 HC.out HK.out (x3.1.mono fun i _ h => show w.heap.size ≤ i from h.elim (fun h => by rw [h]; exact d5) (fun h => d7 i h)) i hi
        clear hR3 x3 hF3
        go_wp2_with fail
        refine HC2.out.mono ?_
        rintro e w4 ⟨rfl, o2', hF4, x4⟩
        obtain ⟨hBB, hkk⟩ := Both.two hR hF d1 d2' d3 d4 d5 d6 d7 d8 HK.out.size H3.out.1 H3.out.2 hF4 x4
        have hGL : g + pushG m L + (pushL m L (N i)).length ≤ i + 1 := by have := push_len (t := N i) hRl; omega
        obtain ⟨e2, e3⟩ := cells3 HC.out HK.out hkk i hi
        clear hF4 x4 c0 c1 e0 e1
        have HB2 := Lib.hid hBB
        have HL2 := Lib.hid hGL
        have KW := Lib.hid (HK.out.then' hkk)
        clear hBB hGL hkk
        obtain ⟨o5, o6, hR5, hF5, -⟩ := HB2.out
        have HLK := Lib.hid (looks_any q p m _ _ o5 o6 (N i) _ hR5 hF5 (by omega) (by have := HL2.out; omega))
        clear hR5 hF5
        go_wp2_with fail
        refine HLK.out.mono ?_
        rintro e w9 ⟨rfl, k9⟩
        have HB9 := Lib.hid (HB2.out.up k9)
        have K9 := Lib.hid (KW.out.then k9)
        clear k9
        go_wp2
        go_roundg (gk - 1)
        case rel => exact ⟨i + 1, _, _, by omega, by omega, by simp, HB9.out, HL2.out, K9.out⟩
        case measure => omega
      have e1k : (kk == 1) = false := by simp; exact k1
      by_cases k2 : kk = 2
      · subst k2
        have HC1 := Lib.hid (rpop q m g L o wr hR (by omega))
        obtain ⟨X, hX⟩ : ∃ X, L.getD (L.length - 1) 0 = X := ⟨_, rfl⟩
        obtain ⟨BB, hBBe⟩ : ∃ X, (!decide (L.length = 0)) = X := ⟨_, rfl⟩
        rw [hX, hBBe] at HC1
        have HX := Lib.hid (And.intro hX hBBe)
        clear hX hBBe
        go_wp2_with fail
        refine HC1.out.mono ?_
        rintro e w3 ⟨rfl, o', hR3, x3⟩
        have hF3 : FAt w3 p m g L o2 := hF.kept x3.1 (fun h => h.elim (fun h => d1 h.symm) d2') (fun b hb h => h.elim (fun h => d3 (by rw [hb, h])) (fun h => d4 b h hb))
        have HC2 := Lib.hid (fpop p m g L o2 w3 hF3 (by omega))
        rw [HX.out.1, HX.out.2] at HC2
        have H3 := Lib.hid (And.intro hR3 x3)
        obtain ⟨e0, e1⟩ := cells3 HC.out HK.out (x3.1.mono fun i _ h => show w.heap.size ≤ i from h.elim (fun h => by rw [h]; exact d5) (fun h => d7 i h)) i hi
        clear hR3 x3 hF3
        go_wp2_with fail
        refine HC2.out.mono ?_
        rintro e w4 ⟨rfl, o2', hF4, x4⟩
        obtain ⟨hBB, hkk⟩ := Both.two hR hF d1 d2' d3 d4 d5 d6 d7 d8 HK.out.size H3.out.1 H3.out.2 hF4 x4
        have hGL : g + (L.take (L.length - 1)).length ≤ i + 1 := by simp; omega
        obtain ⟨e2, e3⟩ := cells3 HC.out HK.out hkk i hi
        clear hF4 x4 c0 c1 e0 e1
        have HB2 := Lib.hid hBB
        have HL2 := Lib.hid hGL
        have KW := Lib.hid (HK.out.then' hkk)
        clear hBB hGL hkk
        obtain ⟨o5, o6, hR5, hF5, -⟩ := HB2.out
        have HLK := Lib.hid (looks_any q p m _ _ o5 o6 (N i) _ hR5 hF5 (by omega) (by have := HL2.out; omega))
        clear hR5 hF5
        go_wp2_with fail
        refine HLK.out.mono ?_
        rintro e w9 ⟨rfl, k9⟩
        have HB9 := Lib.hid (HB2.out.up k9)
        have K9 := Lib.hid (KW.out.then k9)
        clear k9
        go_wp2
        go_roundg (gk - 1)
        case rel => exact ⟨i + 1, _, _, by omega, by omega, by simp, HB9.out, HL2.out, K9.out⟩
        case measure => omega
      have e2k : (kk == 2) = false := by simp; exact k2
      by_cases k3 : kk = 3
      · subst k3
        have HC1 := Lib.hid (rclear q m g L o wr hR (by omega) (by omega))
        go_wp2_with fail
        refine HC1.out.mono ?_
        rintro e w3 ⟨rfl, hR3, x3⟩
        have hF3 : FAt w3 p m g L o2 := hF.kept x3 (fun h => d1 h.symm) (fun b hb h => d3 (by rw [hb, h]))
        have HC2 := Lib.hid (fclear p m g L o2 w3 hF3 (by omega) (by omega))
        have H3 := Lib.hid (And.intro hR3 x3)
        clear hR3 x3 hF3
        go_wp2_with fail
        refine HC2.out.mono ?_
        rintro e w4 ⟨rfl, hF4, x4⟩
        obtain ⟨hBB, hkk⟩ := both_clear hR hF d1 d3 d5 d6 HK.out.size H3.out.1 H3.out.2 hF4 x4
        have hGL : g + L.length + ([] : List Int).length ≤ i + 1 := by simp; omega
        obtain ⟨e2, e3⟩ := cells3 HC.out HK.out hkk i hi
        clear hF4 x4 c0 c1
        have HB2 := Lib.hid hBB
        have HL2 := Lib.hid hGL
        have KW := Lib.hid (HK.out.then' hkk)
        clear hBB hGL hkk
        obtain ⟨o5, o6, hR5, hF5, -⟩ := HB2.out
        have HLK := Lib.hid (looks_any q p m _ _ o5 o6 (N i) _ hR5 hF5 (by omega) (by have := HL2.out; omega))
        clear hR5 hF5
        go_wp2_with fail
        refine HLK.out.mono ?_
        rintro e w9 ⟨rfl, k9⟩
        have HB9 := Lib.hid (HB2.out.up k9)
        have K9 := Lib.hid (KW.out.then k9)
        clear k9
        go_wp2
        go_roundg (gk - 1)
        case rel => exact ⟨i + 1, _, _, by omega, by omega, by simp, HB9.out, HL2.out, K9.out⟩
        case measure => omega
      have e3k : (kk == 3) = false := by simp; exact k3
      clear k1 k2 k3
      have hBB : Both w.heap.size wr q p m g L := HBT.out
      have hkk : Kept (fun i => w.heap.size ≤ i) wr wr := Kept.refl _ _
      have hGL : g + L.length ≤ i + 1 := by omega
      have HB2 := Lib.hid hBB
      have HL2 := Lib.hid hGL
      have KW := Lib.hid (HK.out.then' hkk)
      clear hBB hGL hkk
      obtain ⟨o5, o6, hR5, hF5, -⟩ := HB2.out
      have HLK := Lib.hid (looks_any q p m _ _ o5 o6 (N i) _ hR5 hF5 (by omega) (by have := HL2.out; omega))
      clear hR5 hF5
      go_wp2_with fail
      refine HLK.out.mono ?_
      rintro e w9 ⟨rfl, k9⟩
      have HB9 := Lib.hid (HB2.out.up k9)
      have K9 := Lib.hid (KW.out.then k9)
      clear k9
      go_wp2
      go_roundg (gk - 1)
      case rel => exact ⟨i + 1, _, _, by omega, by omega, by simp, HB9.out, HL2.out, K9.out⟩
      case measure => omega
    · obtain rfl : i = len := by omega
      have gi : decide (i < i) = false := decide_eq_false (by omega)
      clear hB
      go_wp2
      exact bodyPost_ret (v := .bool true) (by simp [results, Try.results5, go_sem]) rfl ⟨rfl, HK.out⟩
theorem law_plays {W : World} {most : Int} {a : Option Addr} {len cap : Nat} {K N : Nat → Int} (f0 : (Lit.int .i64 most).wf = true) (f1 : IsPairs W a len K N ∧ len ≤ cap ∧ cap ≤ maxLen) :
    Calls Try.prog 5 #[.int .i64 most, .slice a len cap] W fun e W' => e = .returned (.bool true) ∧ Below W.heap.size W W' := by
  have key : Calls Try.prog 5 #[.int .i64 most, .slice a len cap] W fun e W' => e = .returned (.bool true) ∧ Kept (fun _ => False) W W' := by
    by_cases h : 300 < len
    · exact plays_far most a len cap W h
    · by_cases hm : most < 0 ∨ 65536 < most
      · exact plays_no most a len cap W (by omega) hm
      · obtain ⟨m, rfl⟩ : ∃ m : Nat, most = (m : Int) := ⟨most.toNat, by omega⟩
        exact plays_in m a len cap K N W f1.1 (by omega) (by omega)
  exact key.mono fun e W' ⟨he, hk⟩ => ⟨he, hk.below⟩
end Go.Proofs.Ytdfenlonlpjkfaa
