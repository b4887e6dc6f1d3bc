/- Do both tell the same? Where no element is asked for. -/
import Derived.Test.YtdfenlonlpjkfaaRgLo
import Derived.Test.YtdfenlonlpjkfaaRgLp
namespace Go.Proofs.Ytdfenlonlpjkfaa
open Go.RowKit Go.Shelf
set_option linter.unusedVariables false
set_option linter.unusedSimpArgs false
attribute [local go_sem] Oper.semAt_some D.growOp D.growUpon D.sameUpon D.ran
theorem looks_any (q p most gone : Nat) (L : List Int) (o o2 : Option Nat) (i : Int) (w : World) (hR : Rg w q most gone L o) (hF : FAt w p most gone L o2) (hm : most ≤ 65536) (hgo : gone ≤ 1000000) :
    Calls Try.prog 18 #[.pointer (some ⟨q, 0, none⟩), .pointer (some ⟨p, 0, none⟩), .int .i64 i] w fun e w' => e = .returned (.bool true) ∧ Kept (fun _ => False) w w' := by
  by_cases h : i < 0
  · exact looks_neg q p most gone L o o2 i w hR hF hm hgo h
  · by_cases h2 : (L.length : Int) ≤ i
    · exact looks_big q p most gone L o o2 i w hR hF hm hgo ⟨by omega, h2⟩
    · obtain ⟨k, rfl⟩ : ∃ k : Nat, i = (k : Int) := ⟨i.toNat, by omega⟩
      exact looks_yes q p most gone L o o2 k w hR hF hm hgo (by omega)
end Go.Proofs.Ytdfenlonlpjkfaa
