/- Arguments that come in: bytes as natural numbers. -/
import Derived.Test.YtomcjdonacckfaaWriteD
namespace Go.Proofs.Ytomcjdonacckfaa
open Go.RowKit
set_option linter.unusedVariables false
set_option linter.unusedSimpArgs false
theorem u8_of_wf {n : Int} (h : (Lit.int .u8 n).wf = true) : 0 ≤ n ∧ n < 256 := by
  simp [Lit.wf, IntKind.min, IntKind.max, IntKind.signed, IntKind.bits] at h
  omega
theorem int_of_wf {n : Int} (h : (Lit.int .i64 n).wf = true) : -9223372036854775808 ≤ n ∧ n ≤ 9223372036854775807 := by
  simp [Lit.wf, IntKind.min, IntKind.max, IntKind.signed, IntKind.bits] at h
  omega
/-- A slice of bytes that comes in, as a list of natural numbers. -/
theorem row_ints {w : World} {a : Option Addr} {len cap : Nat} {zs : List Int} (h : IsRow .u8 w a len cap zs) :
    ∃ bs : List Nat, SlAt .u8 w a len (ints bs) ∧ (∀ c ∈ bs, c < 256) ∧ bs.length = len ∧ len ≤ cap ∧ cap ≤ 9223372036854775807 ∧ (∀ b off, 0 < len → a = some ⟨b, off, none⟩ → b < w.heap.size) ∧ (a = none → len = 0 ∧ cap = 0) := by
  obtain ⟨h1, h2, h3, h4, h5, h6⟩ := h.slAt
  have e : zs.take len = ints ((zs.take len).map Int.toNat) := by
    unfold ints
    rw [List.map_map]
    have : ∀ n ∈ zs.take len, ((fun (n : Nat) => (n : Int)) ∘ Int.toNat) n = id n := by
      intro n hn
      have h9 := u8_of_wf (h4 n hn)
      simp; omega
    rw [List.map_congr_left this]; simp
  refine ⟨(zs.take len).map Int.toNat, by rw [← e]; exact h1, ?_, ?_, h2, h3, h5, h6⟩
  · intro c hc
    obtain ⟨n, hn, rfl⟩ := List.mem_map.1 hc
    have h9 := u8_of_wf (h4 n hn)
    omega
  · have := h1.1
    simp at this ⊢; omega
end Go.Proofs.Ytomcjdonacckfaa
