/- The program's decoder and the document's side by side. -/
import Derived.Test.YtomcjdonacckfaaLCuts
import Derived.Test.YtomcjdonacckfaaAlk
import Derived.Test.YtomcjdonacckfaaWriteR
import Derived.Test.YtomcjdonacckfaaEndR
namespace Go.Proofs.Ytomcjdonacckfaa
open Go.RowKit
set_option linter.unusedVariables false
set_option linter.unusedSimpArgs false
/-- Two decoders whose blocks lie in Z, apart: the program's and the document's. -/
def Twin (Z : Nat → Prop) (w : World) (a : Nat) (d : Dec) (b : Nat) (e : Dec) : Prop := ∃ G H, DOwn G w a d ∧ R.DOwn H w b e ∧ (∀ i, G i → ¬ H i) ∧ (∀ i, G i → Z i) ∧ ∀ i, H i → Z i
theorem Twin.up {Z : Nat → Prop} {w w' : World} {a b : Nat} {d e : Dec} (h : Twin Z w a d b e) (hk : Kept (fun _ => False) w w') : Twin Z w' a d b e := by
  obtain ⟨G, H, h1, h2, h3, h4, h5⟩ := h
  exact ⟨G, H, h1.kept hk (fun _ _ => id), h2.kept hk (fun _ _ => id), h3, h4, h5⟩
theorem Twin.mono {Z Z' : Nat → Prop} {w : World} {a b : Nat} {d e : Dec} (h : Twin Z w a d b e) (hz : ∀ i, i < w.heap.size → Z i → Z' i) : Twin Z' w a d b e := by
  obtain ⟨G, H, h1, h2, h3, h4, h5⟩ := h
  exact ⟨G, H, h1, h2, h3, fun i hi => hz i (h1.lt i hi) (h4 i hi), fun i hi => hz i (h2.lt i hi) (h5 i hi)⟩
/-- Bytes written to the program's. -/
theorem Twin.writeA {Z : Nat → Prop} {w : World} {a b : Nat} {d e0 : Dec} (h : Twin Z w a d b e0) {M : Nat} (hok : DecOk M d) (a0 : Option Addr) (len cap : Nat) (bs : List Nat) (hs : SlAt .u8 w a0 len (ints bs)) (hby : ∀ c ∈ bs, c < 256) (hl : len ≤ 65536) (hna : ∀ b off, 0 < len → a0 = some ⟨b, off, none⟩ → b < w.heap.size ∧ ¬ Z b) :
    Calls Try.prog 18 #[.pointer (some ⟨a, 0, none⟩), .slice a0 len cap] w fun e w' => e = .returned (.int .i64 (if (d.feed bs).full = true then 6 else 0)) ∧ Twin (fun i => Z i ∨ w.heap.size ≤ i) w' a (d.feed bs) b e0 ∧ Kept Z w w' := by
  obtain ⟨G, H, h1, h2, h3, h4, h5⟩ := h
  refine (write_any G d w a M a0 len cap bs h1 hok hs hby hl (fun b off h6 h7 => ⟨fun h9 => (hna b off h6 h7).2 (h4 b h9), (hna b off h6 h7).1⟩)).mono ?_
  rintro e w' ⟨he, G', k3, k4, k5⟩
  refine ⟨he, ⟨G', H, k3, h2.kept k5 (fun i hi hg => h3 i hg hi), fun i hi hh => ?_, fun i hi => ?_, fun i hi => .inl (h5 i hi)⟩, k5.mono fun i _ hi => h4 i hi⟩
  · rcases k4 i hi with h | h
    · exact h3 i h hh
    · have := h2.lt i hh; omega
  · rcases k4 i hi with h | h
    · exact .inl (h4 i h)
    · exact .inr h
/-- Bytes written to the document's. -/
theorem Twin.writeB {Z : Nat → Prop} {w : World} {a b : Nat} {d e0 : Dec} (h : Twin Z w a d b e0) {M : Nat} (hok : DecOk M e0) (a0 : Option Addr) (len cap : Nat) (bs : List Nat) (hs : SlAt .u8 w a0 len (ints bs)) (hby : ∀ c ∈ bs, c < 256) (hl : len ≤ 65536) (hna : ∀ b off, 0 < len → a0 = some ⟨b, off, none⟩ → b < w.heap.size ∧ ¬ Z b) :
    Calls Try.prog 24 #[.pointer (some ⟨b, 0, none⟩), .slice a0 len cap] w fun e w' => e = .returned (.int .i64 (if (e0.feed bs).full = true then 6 else 0)) ∧ Twin (fun i => Z i ∨ w.heap.size ≤ i) w' a d b (e0.feed bs) ∧ Kept Z w w' := by
  obtain ⟨G, H, h1, h2, h3, h4, h5⟩ := h
  refine (R.write_any H e0 w b M a0 len cap bs h2 hok hs hby hl (fun b off h6 h7 => ⟨fun h9 => (hna b off h6 h7).2 (h5 b h9), (hna b off h6 h7).1⟩)).mono ?_
  rintro e w' ⟨he, H', k3, k4, k5⟩
  refine ⟨he, ⟨G, H', h1.kept k5 (fun i hi hg => h3 i hi hg), k3, fun i hi hh => ?_, fun i hi => .inl (h4 i hi), fun i hi => ?_⟩, k5.mono fun i _ hi => h5 i hi⟩
  · rcases k4 i hh with h | h
    · exact h3 i hi h
    · have := h1.lt i hi; omega
  · rcases k4 i hi with h | h
    · exact .inl (h5 i h)
    · exact .inr h
/-- The program's end. -/
theorem Twin.finA {Z : Nat → Prop} {w : World} {a b : Nat} {d e0 : Dec} (h : Twin Z w a d b e0) {M : Nat} (hok : DecOk M d) :
    Calls Try.prog 19 #[.pointer (some ⟨a, 0, none⟩)] w fun e w' => ∃ s n cap, e = .returned (.tuple #[.agg #[.int .i64 d.fin.w, .int .i64 d.fin.h, .slice s n cap], .int .i64 d.fin.e]) ∧ SlAt .u8 w' s n d.fin.p ∧ n = d.fin.p.length ∧
      Twin (fun i => (Z i ∨ w.heap.size ≤ i) ∧ ∀ off, s ≠ some ⟨i, off, none⟩) w' a d.fin.d b e0 ∧ Kept Z w w' ∧ ∀ b off, s = some ⟨b, off, none⟩ → w.heap.size ≤ b := by
  obtain ⟨G, H, h1, h2, h3, h4, h5⟩ := h
  refine (end_any G d w a M h1 hok).mono ?_
  rintro e w' ⟨v, G', he, ho, k3, k4, k5, k6⟩
  obtain ⟨s, cap, rfl, hs, hl, hm, hn, hb⟩ := ho.shape
  refine ⟨s, _, cap, he, hs, rfl, ⟨G', H, k3, h2.kept k5 (fun i hi hg => h3 i hg hi), fun i hi hh => ?_, fun i hi => ⟨?_, fun off h => (k6 i (hb i off h)).2 hi⟩, fun i hi => ⟨.inl (h5 i hi), fun off h => ?_⟩⟩, k5.mono fun i _ hi => h4 i hi, fun b off h => (k6 b (hb b off h)).1⟩
  · rcases k4 i hi with h | h
    · exact h3 i h hh
    · have := h2.lt i hh; omega
  · rcases k4 i hi with h | h
    · exact .inl (h4 i h)
    · exact .inr h
  · have := (k6 i (hb i off h)).1
    have := h2.lt i hi
    omega
/-- The document's end. -/
theorem Twin.finB {Z : Nat → Prop} {w : World} {a b : Nat} {d e0 : Dec} (h : Twin Z w a d b e0) {M : Nat} (hok : DecOk M e0) :
    Calls Try.prog 28 #[.pointer (some ⟨b, 0, none⟩)] w fun e w' => ∃ s n cap, e = .returned (.tuple #[.agg #[.int .i64 e0.fin.w, .int .i64 e0.fin.h, .slice s n cap], .int .i64 e0.fin.e]) ∧ SlAt .u8 w' s n e0.fin.p ∧ n = e0.fin.p.length ∧
      Twin (fun i => (Z i ∨ w.heap.size ≤ i) ∧ ∀ off, s ≠ some ⟨i, off, none⟩) w' a d b e0.fin.d ∧ Kept Z w w' ∧ ∀ b off, s = some ⟨b, off, none⟩ → w.heap.size ≤ b := by
  obtain ⟨G, H, h1, h2, h3, h4, h5⟩ := h
  refine (R.end_any H e0 w b M h2 hok).mono ?_
  rintro e w' ⟨v, H', he, ho, k3, k4, k5, k6⟩
  obtain ⟨s, cap, rfl, hs, hl, hm, hn, hb⟩ := ho.shape
  refine ⟨s, _, cap, he, hs, rfl, ⟨G, H', h1.kept k5 (fun i hi hg => h3 i hi hg), k3, fun i hi hh => ?_, fun i hi => ⟨.inl (h4 i hi), fun off h => ?_⟩, fun i hi => ⟨?_, fun off h => (k6 i (hb i off h)).2 hi⟩⟩, k5.mono fun i _ hi => h5 i hi, fun b off h => (k6 b (hb b off h)).1⟩
  · rcases k4 i hh with h | h
    · exact h3 i hi h
    · have := h1.lt i hi; omega
  · have := (k6 i (hb i off h)).1
    have := h1.lt i hi
    omega
  · rcases k4 i hi with h | h
    · exact .inl (h5 i h)
    · exact .inr h
/-- What End leaves may be. -/
theorem fin_ok {M : Nat} {d : Dec} (h : DecOk M d) : DecOk M d.fin.d := by
  have ho : ∀ {d1 : Dec}, DecOk M d1 → DecOk M { d1 with over := true } := fun {d1} h1 => ⟨⟨h1.pic.w, h1.pic.h, h1.pic.most, h1.pic.M, h1.pic.wb, h1.pic.hb, h1.pic.z, h1.pic.p⟩, ⟨h1.num.len, h1.num.n, h1.num.v⟩, h1.x, h1.y, h1.now, h1.rep, h1.cmd⟩
  have hg : ∀ {d1 : Dec}, DecOk M d1 → ∀ p q : Prop, [Decidable p] → [Decidable q] → ∀ (e1 e2 e3 : Ended), e1.d = d1 → e2.d = { d1 with over := true } → e3.d = { d1 with over := true } → DecOk M (if p then e1 else if q then e2 else e3).d := by
    intro d1 h1 p q _ _ e1 e2 e3 h2 h3 h4
    split
    · rw [h2]; exact h1
    · split
      · rw [h3]; exact ho h1
      · rw [h4]; exact ho h1
  unfold Dec.fin
  by_cases hf : d.full = false ∧ d.over = false
  · rw [if_pos hf]
    exact hg (done_ok h hf.1) _ _ _ _ _ rfl rfl rfl
  · rw [if_neg hf]
    exact hg h _ _ _ _ _ rfl rfl rfl
/-- Ended once more: no picture. -/
theorem fin_fin (d : Dec) : d.fin.d.fin.p = [] ∧ (d.fin.d.fin.e = 6 ∨ d.fin.d.fin.e = 7) := by
  have hA : ∀ d2 : Dec, (d2.full = true ∨ d2.over = true) → d2.fin.p = [] ∧ (d2.fin.e = 6 ∨ d2.fin.e = 7) := by
    intro d2 h2
    unfold Dec.fin
    have hn : ¬ (d2.full = false ∧ d2.over = false) := by rintro ⟨h3, h4⟩; rcases h2 with h | h <;> simp_all
    rw [if_neg hn]
    by_cases hf : d2.full = true
    · simp [hf]
    · have ho : d2.over = true := h2.resolve_left hf
      simp [hf, ho]
  apply hA
  have hg : ∀ d1 : Dec, ∀ (q : Prop) [Decidable q] (e1 e2 e3 : Ended), e1.d = d1 → e2.d = { d1 with over := true } → e3.d = { d1 with over := true } → (if d1.full = true then e1 else if q then e2 else e3).d.full = true ∨ (if d1.full = true then e1 else if q then e2 else e3).d.over = true := by
    intro d1 q _ e1 e2 e3 h2 h3 h4
    by_cases hf : d1.full = true
    · rw [if_pos hf, h2]; exact .inl hf
    · rw [if_neg hf]
      by_cases hq : q
      · rw [if_pos hq, h3]; exact .inr rfl
      · rw [if_neg hq, h4]; exact .inr rfl
  unfold Dec.fin
  exact hg _ _ _ _ _ rfl rfl rfl
/-- What Bytes says. -/
theorem bytes_is {M : Nat} {d : Dec} (h : DecOk M d) : IntKind.i64.wrap (4 * d.w) = 4 * d.w ∧ IntKind.i64.wrap (4 * d.w * d.h) = 4 * d.w * d.h ∧ 0 ≤ 4 * d.w * d.h ∧ 4 * d.w * d.h ≤ 1073741824 := by
  have h1 := h.pic.wb
  have h2 := h.pic.hb
  have h3 : d.w.toNat * d.h.toNat ≤ 16384 * 16384 := Nat.mul_le_mul h1 h2
  have h4 : 4 * d.w * d.h = ((4 * (d.w.toNat * d.h.toNat) : Nat) : Int) := by
    rw [h.pic.w, h.pic.h]
    simp only [Int.toNat_natCast]
    push_cast
    rw [Int.mul_assoc]
  rw [h4]
  refine ⟨IntWalk.i64_in _ (by have := h.pic.w; omega), IntWalk.i64_in _ (by omega), by omega, by omega⟩
end Go.Proofs.Ytomcjdonacckfaa
