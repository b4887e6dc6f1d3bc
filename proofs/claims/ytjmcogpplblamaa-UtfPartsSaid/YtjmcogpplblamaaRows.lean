/-
  No cell of these rows narrows 'for every input' (looked for: loops, veiled, ifaces, maps, wideKeys, modest, calm, conditions, laid).
  DERIVED. THE GIVEN ROWS OF THIS SEAT. 5 by the template 'for every input the law returns true; each argument reads behind the call as it read before'; 0 by the template 'total and deterministic' (their statements: YtjmcogpplblamaaTotals.lean).
  GIVEN WITH THE SEED: the statements are not yours to turn. If you find one false, say at which input.
  Laid BY PROGRAM, IN A SANDBOX (cutbox-rows.mjs): the forced cells as the released guide's own fill.sh prints them over the translation 957f3f8c250176d5… (all of the seat's roots in one cut). By AI agents, Wed Nov 11 2026. No macro, syntax, notation, axiom, sorry.
-/
import Derived.Test.YtjmcogpplblamaaChecked
import GoSem.Claim
import GoSem.ClaimJoined
import GoSem.ClaimMapViews
import Derived.JoinedTies
import Derived.KernelRfl
namespace Go.Proofs.Ytjmcogpplblamaa
/- THE CELL 'sum', in the pinned program and in every row, IS THE sha256 OF THE DUMP (.gsa) THAT YtjmcogpplblamaaProg.lean LOADS. Nothing in Lean hashes anything: it is a label: what it is worth is what the hold of that sum in a sandbox is worth. -/
noncomputable def Try.pinned : Pinned := { name := "ytjmcogpplblamaa", sum := "957f3f8c250176d561fb6b1d92b48ab6ad4c525ea1fc2bf90a915b25037ea05b", checked := Try.checked }
namespace Rows
def none {H : Type} : Left H := { results := [], args := [] }

/-- 'phosphorlaw10.UtfBytes': WHATEVER THE INPUT: true; the input reads as it did. -/
def utfBytesSpec : ChangeSpec := { name := "utfBytes", fn := fun _ => fun
  | [d1, d2] => { results := [.lit (.bool true)], args := [d1, d2] }
  | _ => none }
def utfBytesRow : OpenClaim := { program := "ytjmcogpplblamaa", sum := "957f3f8c250176d561fb6b1d92b48ab6ad4c525ea1fc2bf90a915b25037ea05b", func := "phosphor/phosphorlaw10.UtfBytes", spec := "utfBytes", apart := false }
def UtfBytesSaid : Prop := utfBytesRow.holds Try.pinned (OpenSpec.ofChange utfBytesSpec)

/-- ITS FALSE NEIGHBOUR: 'it returns false'. Refute it at one input. -/
def utfBytesWrong : ChangeSpec := { name := "utfBytes", fn := fun _ => fun
  | [d1, d2] => { results := [.lit (.bool false)], args := [d1, d2] }
  | _ => none }
def UtfBytesWrongFalsely : Prop := utfBytesRow.holds Try.pinned (OpenSpec.ofChange utfBytesWrong)

/-- 'phosphorlaw10.UtfSets': WHATEVER THE INPUT: true; the input reads as it did. -/
def utfSetsSpec : ChangeSpec := { name := "utfSets", fn := fun _ => fun
  | [d1, d2] => { results := [.lit (.bool true)], args := [d1, d2] }
  | _ => none }
def utfSetsRow : OpenClaim := { program := "ytjmcogpplblamaa", sum := "957f3f8c250176d561fb6b1d92b48ab6ad4c525ea1fc2bf90a915b25037ea05b", func := "phosphor/phosphorlaw10.UtfSets", spec := "utfSets", apart := false }
def UtfSetsSaid : Prop := utfSetsRow.holds Try.pinned (OpenSpec.ofChange utfSetsSpec)

/-- ITS FALSE NEIGHBOUR: 'it returns false'. Refute it at one input. -/
def utfSetsWrong : ChangeSpec := { name := "utfSets", fn := fun _ => fun
  | [d1, d2] => { results := [.lit (.bool false)], args := [d1, d2] }
  | _ => none }
def UtfSetsWrongFalsely : Prop := utfSetsRow.holds Try.pinned (OpenSpec.ofChange utfSetsWrong)

/-- 'phosphorlaw10.UtfWidths': WHATEVER THE INPUT: true; the input reads as it did. -/
def utfWidthsSpec : ChangeSpec := { name := "utfWidths", fn := fun _ => fun
  | [d] => { results := [.lit (.bool true)], args := [d] }
  | _ => none }
def utfWidthsRow : OpenClaim := { program := "ytjmcogpplblamaa", sum := "957f3f8c250176d561fb6b1d92b48ab6ad4c525ea1fc2bf90a915b25037ea05b", func := "phosphor/phosphorlaw10.UtfWidths", spec := "utfWidths", apart := false }
def UtfWidthsSaid : Prop := utfWidthsRow.holds Try.pinned (OpenSpec.ofChange utfWidthsSpec)

/-- ITS FALSE NEIGHBOUR: 'it returns false'. Refute it at one input. -/
def utfWidthsWrong : ChangeSpec := { name := "utfWidths", fn := fun _ => fun
  | [d] => { results := [.lit (.bool false)], args := [d] }
  | _ => none }
def UtfWidthsWrongFalsely : Prop := utfWidthsRow.holds Try.pinned (OpenSpec.ofChange utfWidthsWrong)

/-- 'phosphorlaw10.UtfCharacters': WHATEVER THE INPUT: true; the input reads as it did. -/
def utfCharactersSpec : ChangeSpec := { name := "utfCharacters", fn := fun _ => fun
  | [d] => { results := [.lit (.bool true)], args := [d] }
  | _ => none }
def utfCharactersRow : OpenClaim := { program := "ytjmcogpplblamaa", sum := "957f3f8c250176d561fb6b1d92b48ab6ad4c525ea1fc2bf90a915b25037ea05b", func := "phosphor/phosphorlaw10.UtfCharacters", spec := "utfCharacters", apart := false }
def UtfCharactersSaid : Prop := utfCharactersRow.holds Try.pinned (OpenSpec.ofChange utfCharactersSpec)

/-- ITS FALSE NEIGHBOUR: 'it returns false'. Refute it at one input. -/
def utfCharactersWrong : ChangeSpec := { name := "utfCharacters", fn := fun _ => fun
  | [d] => { results := [.lit (.bool false)], args := [d] }
  | _ => none }
def UtfCharactersWrongFalsely : Prop := utfCharactersRow.holds Try.pinned (OpenSpec.ofChange utfCharactersWrong)

/-- 'phosphorlaw10.UtfParts': WHATEVER THE INPUT: true; the input reads as it did. -/
def utfPartsSpec : ChangeSpec := { name := "utfParts", fn := fun _ => fun
  | [d1, d2, d3, d4] => { results := [.lit (.bool true)], args := [d1, d2, d3, d4] }
  | _ => none }
def utfPartsRow : OpenClaim := { program := "ytjmcogpplblamaa", sum := "957f3f8c250176d561fb6b1d92b48ab6ad4c525ea1fc2bf90a915b25037ea05b", func := "phosphor/phosphorlaw10.UtfParts", spec := "utfParts", apart := false }
def UtfPartsSaid : Prop := utfPartsRow.holds Try.pinned (OpenSpec.ofChange utfPartsSpec)

/-- ITS FALSE NEIGHBOUR: 'it returns false'. Refute it at one input. -/
def utfPartsWrong : ChangeSpec := { name := "utfParts", fn := fun _ => fun
  | [d1, d2, d3, d4] => { results := [.lit (.bool false)], args := [d1, d2, d3, d4] }
  | _ => none }
def UtfPartsWrongFalsely : Prop := utfPartsRow.holds Try.pinned (OpenSpec.ofChange utfPartsWrong)

/- THE SECOND FORM. 'bulk': how many values and letters a reading holds, each counted each time it is reached (what is shared counts as often as it is met; a slice's spare places count too). A statement '..UptoSaid' is the law's where the arguments, and the package variables that the reading takes, are together of bulk at most 1048576: NARROWER than '..Said'. Prove '..Said' where nothing that the law and all that it calls make is longer than what came in: it says more and counts as full. Else prove '..UptoSaid'. A law counts once. -/
mutual
def uptoBulk {H : Type} : DataW H → Nat
  | .lit (.string bytes) => bytes.length + 1
  | .lit _ => 1
  | .nil => 1
  | .ptr d => uptoBulk d + 1
  | .slice elems spare => uptoBulkAll elems + uptoBulkAll spare + 1
  | .agg parts => uptoBulkAll parts + 1
  | .iface _ d => uptoBulk d + 1
  | .map entries => uptoBulkEntries entries + 1
  | .held _ => 1
def uptoBulkAll {H : Type} : List (DataW H) → Nat
  | [] => 0
  | d :: r => uptoBulk d + uptoBulkAll r
def uptoBulkEntries {H : Type} : List (Lit × DataW H) → Nat
  | [] => 0
  | x :: r => uptoBulkEntry x + uptoBulkEntries r
def uptoBulkEntry {H : Type} : Lit × DataW H → Nat
  | (.string bytes, d) => bytes.length + uptoBulk d + 1
  | (_, d) => uptoBulk d + 1
 end
def uptoSmall : (H : Type) → List (DataW H) → Bool := fun _ ds => decide (uptoBulkAll ds ≤ 1048576)
def OpenSpec.upto (s : _root_.Go.ChangeSpec) : _root_.Go.OpenSpec := { _root_.Go.OpenSpec.ofChange s with cond := some uptoSmall }

/-- 'phosphorlaw10.UtfBytes', WHERE WHAT IT READS IS OF BULK AT MOST 1048576: true; the input reads as it did. -/
def utfBytesUptoRow : OpenClaim := { program := "ytjmcogpplblamaa", sum := "957f3f8c250176d561fb6b1d92b48ab6ad4c525ea1fc2bf90a915b25037ea05b", func := "phosphor/phosphorlaw10.UtfBytes", spec := "utfBytes", apart := false, narrowed := true }
def UtfBytesUptoSaid : Prop := utfBytesUptoRow.holds Try.pinned (OpenSpec.upto utfBytesSpec)

/-- 'phosphorlaw10.UtfSets', WHERE WHAT IT READS IS OF BULK AT MOST 1048576: true; the input reads as it did. -/
def utfSetsUptoRow : OpenClaim := { program := "ytjmcogpplblamaa", sum := "957f3f8c250176d561fb6b1d92b48ab6ad4c525ea1fc2bf90a915b25037ea05b", func := "phosphor/phosphorlaw10.UtfSets", spec := "utfSets", apart := false, narrowed := true }
def UtfSetsUptoSaid : Prop := utfSetsUptoRow.holds Try.pinned (OpenSpec.upto utfSetsSpec)

/-- 'phosphorlaw10.UtfWidths', WHERE WHAT IT READS IS OF BULK AT MOST 1048576: true; the input reads as it did. -/
def utfWidthsUptoRow : OpenClaim := { program := "ytjmcogpplblamaa", sum := "957f3f8c250176d561fb6b1d92b48ab6ad4c525ea1fc2bf90a915b25037ea05b", func := "phosphor/phosphorlaw10.UtfWidths", spec := "utfWidths", apart := false, narrowed := true }
def UtfWidthsUptoSaid : Prop := utfWidthsUptoRow.holds Try.pinned (OpenSpec.upto utfWidthsSpec)

/-- 'phosphorlaw10.UtfCharacters', WHERE WHAT IT READS IS OF BULK AT MOST 1048576: true; the input reads as it did. -/
def utfCharactersUptoRow : OpenClaim := { program := "ytjmcogpplblamaa", sum := "957f3f8c250176d561fb6b1d92b48ab6ad4c525ea1fc2bf90a915b25037ea05b", func := "phosphor/phosphorlaw10.UtfCharacters", spec := "utfCharacters", apart := false, narrowed := true }
def UtfCharactersUptoSaid : Prop := utfCharactersUptoRow.holds Try.pinned (OpenSpec.upto utfCharactersSpec)

/-- 'phosphorlaw10.UtfParts', WHERE WHAT IT READS IS OF BULK AT MOST 1048576: true; the input reads as it did. -/
def utfPartsUptoRow : OpenClaim := { program := "ytjmcogpplblamaa", sum := "957f3f8c250176d561fb6b1d92b48ab6ad4c525ea1fc2bf90a915b25037ea05b", func := "phosphor/phosphorlaw10.UtfParts", spec := "utfParts", apart := false, narrowed := true }
def UtfPartsUptoSaid : Prop := utfPartsUptoRow.holds Try.pinned (OpenSpec.upto utfPartsSpec)

end Rows
end Go.Proofs.Ytjmcogpplblamaa
