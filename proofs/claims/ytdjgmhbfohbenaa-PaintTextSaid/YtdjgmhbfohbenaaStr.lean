/- A slice of bytes made a string; two such strings held against one another. -/
import Derived.Test.YtdjgmhbfohbenaaBase
namespace Go.Proofs.Ytdjgmhbfohbenaa
open Go.RowKit
def IsBytes (xs : List Int) : Prop := ∀ n ∈ xs, 0 ≤ n ∧ n < 256
theorem run_str {P : Program} {w : World} {src dst e : TypeId} (hs : P.underlying src = some (.slice e)) (he : P.underlying e = some (.int .u8)) (hd : P.underlying dst = some .string) {a : Option Addr} {len cap : Nat} {xs : List Int} (h : SlAt .u8 w a len xs) :
    (convert src dst (.slice a len cap)).run P w = .ok (.string (strOfNums xs)) w := by
  obtain ⟨h1, h2⟩ := h
  rcases h2 with rfl | ⟨b, off, rfl, hc⟩
  · have hx : xs = [] := List.eq_nil_of_length_eq_zero h1
    subst hx
    cases a with
    | none => exact run_convert_bytes_nil w src e hs he 0 cap dst hd
    | some a =>
      have hl : (loadCells a 0).run P w = .ok #[] w := by simpa using run_loadCells_list (P := P) w a [] (by simp)
      rw [run_convert_bytes_string w src dst e _ 0 cap hs he hd, run_bytesToString w _ 0 cap [] (by simpa using hl)]
      rfl
  · exact run_convert_bytes_arg w src e hs he b off len cap xs h1 hc dst hd
theorem str_eq {xs ys : List Int} (hx : IsBytes xs) (hy : IsBytes ys) : ((strOfNums xs).toList == (strOfNums ys).toList) = decide (xs = ys) := by
  have key : ∀ (xs : List Int), (strOfNums xs).toList = xs.map fun n => UInt8.ofNat n.toNat := by
    intro xs
    exact ByteArray.toList_mk _
  rw [key, key]
  by_cases h : xs = ys
  · subst h; simp
  · have h2 : (xs.map fun n => UInt8.ofNat n.toNat) ≠ ys.map fun n => UInt8.ofNat n.toNat := by
      intro he
      apply h
      clear h key
      induction xs generalizing ys with
      | nil => cases ys with
        | nil => rfl
        | cons y ys => simp at he
      | cons x xs ih => cases ys with
        | nil => simp at he
        | cons y ys =>
          simp only [List.map_cons, List.cons.injEq] at he
          obtain ⟨e1, e2⟩ := he
          have hx0 := hx x (by simp)
          have hy0 := hy y (by simp)
          have e3 := congrArg UInt8.toNat e1
          simp only [UInt8.toNat_ofNat'] at e3
          have : x = y := by omega
          rw [this, ih (fun n hn => hx n (by simp [hn])) (fun n hn => hy n (by simp [hn])) e2]
    simp [h, h2]
end Go.Proofs.Ytdjgmhbfohbenaa
