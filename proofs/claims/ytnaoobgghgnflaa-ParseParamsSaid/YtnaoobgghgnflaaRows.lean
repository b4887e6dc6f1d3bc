/-
  No cell of these rows narrows 'for every input' (looked for: loops, veiled, ifaces, maps, wideKeys, modest, calm, conditions, laid).
  DERIVED. THE GIVEN ROWS OF THIS SEAT. 4 by the template 'for every input the law returns true; each argument reads behind the call as it read before'; 0 by the template 'total and deterministic' (their statements: YtnaoobgghgnflaaTotals.lean).
  GIVEN WITH THE SEED: the statements are not yours to turn. If you find one false, say at which input.
  Laid BY PROGRAM, IN A SANDBOX (cutbox-rows.mjs): the forced cells as the released guide's own fill.sh prints them over the translation 1f30f9711a58dba9… (all of the seat's roots in one cut). By AI agents, Wed Nov 11 2026. No macro, syntax, notation, axiom, sorry.
-/
import Derived.Test.YtnaoobgghgnflaaChecked
import GoSem.Claim
import GoSem.ClaimJoined
import GoSem.ClaimMapViews
import Derived.JoinedTies
import Derived.KernelRfl
namespace Go.Proofs.Ytnaoobgghgnflaa
/- THE CELL 'sum', in the pinned program and in every row, IS THE sha256 OF THE DUMP (.gsa) THAT YtnaoobgghgnflaaProg.lean LOADS. Nothing in Lean hashes anything: it is a label: what it is worth is what the hold of that sum in a sandbox is worth. -/
noncomputable def Try.pinned : Pinned := { name := "ytnaoobgghgnflaa", sum := "1f30f9711a58dba9aead35f1a84a53759a700bba793cfcf5f77e819ed919821e", checked := Try.checked }
namespace Rows
def none {H : Type} : Left H := { results := [], args := [] }

/-- 'phosphorlaw11.ParseEnds': WHATEVER THE INPUT: true; the input reads as it did. -/
def parseEndsSpec : ChangeSpec := { name := "parseEnds", fn := fun _ => fun
  | [d1, d2] => { results := [.lit (.bool true)], args := [d1, d2] }
  | _ => none }
def parseEndsRow : OpenClaim := { program := "ytnaoobgghgnflaa", sum := "1f30f9711a58dba9aead35f1a84a53759a700bba793cfcf5f77e819ed919821e", func := "phosphor/phosphorlaw11.ParseEnds", spec := "parseEnds", unfollowed := true, recurses := true, apart := false }
def ParseEndsSaid : Prop := parseEndsRow.holds Try.pinned (OpenSpec.ofChange parseEndsSpec)

/-- ITS FALSE NEIGHBOUR: 'it returns false'. Refute it at one input. -/
def parseEndsWrong : ChangeSpec := { name := "parseEnds", fn := fun _ => fun
  | [d1, d2] => { results := [.lit (.bool false)], args := [d1, d2] }
  | _ => none }
def ParseEndsWrongFalsely : Prop := parseEndsRow.holds Try.pinned (OpenSpec.ofChange parseEndsWrong)

/-- 'phosphorlaw11.ParseParams': WHATEVER THE INPUT: true; the input reads as it did. -/
def parseParamsSpec : ChangeSpec := { name := "parseParams", fn := fun _ => fun
  | [d1, d2] => { results := [.lit (.bool true)], args := [d1, d2] }
  | _ => none }
def parseParamsRow : OpenClaim := { program := "ytnaoobgghgnflaa", sum := "1f30f9711a58dba9aead35f1a84a53759a700bba793cfcf5f77e819ed919821e", func := "phosphor/phosphorlaw11.ParseParams", spec := "parseParams", unfollowed := true, recurses := true, apart := false }
def ParseParamsSaid : Prop := parseParamsRow.holds Try.pinned (OpenSpec.ofChange parseParamsSpec)

/-- ITS FALSE NEIGHBOUR: 'it returns false'. Refute it at one input. -/
def parseParamsWrong : ChangeSpec := { name := "parseParams", fn := fun _ => fun
  | [d1, d2] => { results := [.lit (.bool false)], args := [d1, d2] }
  | _ => none }
def ParseParamsWrongFalsely : Prop := parseParamsRow.holds Try.pinned (OpenSpec.ofChange parseParamsWrong)

/-- 'phosphorlaw11.ParseStrings': WHATEVER THE INPUT: true; the input reads as it did. -/
def parseStringsSpec : ChangeSpec := { name := "parseStrings", fn := fun _ => fun
  | [d1, d2] => { results := [.lit (.bool true)], args := [d1, d2] }
  | _ => none }
def parseStringsRow : OpenClaim := { program := "ytnaoobgghgnflaa", sum := "1f30f9711a58dba9aead35f1a84a53759a700bba793cfcf5f77e819ed919821e", func := "phosphor/phosphorlaw11.ParseStrings", spec := "parseStrings", unfollowed := true, recurses := true, apart := false }
def ParseStringsSaid : Prop := parseStringsRow.holds Try.pinned (OpenSpec.ofChange parseStringsSpec)

/-- ITS FALSE NEIGHBOUR: 'it returns false'. Refute it at one input. -/
def parseStringsWrong : ChangeSpec := { name := "parseStrings", fn := fun _ => fun
  | [d1, d2] => { results := [.lit (.bool false)], args := [d1, d2] }
  | _ => none }
def ParseStringsWrongFalsely : Prop := parseStringsRow.holds Try.pinned (OpenSpec.ofChange parseStringsWrong)

/-- 'phosphorlaw11.ParseCuts': WHATEVER THE INPUT: true; the input reads as it did. -/
def parseCutsSpec : ChangeSpec := { name := "parseCuts", fn := fun _ => fun
  | [d1, d2] => { results := [.lit (.bool true)], args := [d1, d2] }
  | _ => none }
def parseCutsRow : OpenClaim := { program := "ytnaoobgghgnflaa", sum := "1f30f9711a58dba9aead35f1a84a53759a700bba793cfcf5f77e819ed919821e", func := "phosphor/phosphorlaw11.ParseCuts", spec := "parseCuts", unfollowed := true, recurses := true, apart := false }
def ParseCutsSaid : Prop := parseCutsRow.holds Try.pinned (OpenSpec.ofChange parseCutsSpec)

/-- ITS FALSE NEIGHBOUR: 'it returns false'. Refute it at one input. -/
def parseCutsWrong : ChangeSpec := { name := "parseCuts", fn := fun _ => fun
  | [d1, d2] => { results := [.lit (.bool false)], args := [d1, d2] }
  | _ => none }
def ParseCutsWrongFalsely : Prop := parseCutsRow.holds Try.pinned (OpenSpec.ofChange parseCutsWrong)

/- THE SECOND FORM. 'bulk': how many values and letters a reading holds, each counted each time it is reached (what is shared counts as often as it is met; a slice's spare places count too). A statement '..UptoSaid' is the law's where the arguments, and the package variables that the reading takes, are together of bulk at most 1048576: NARROWER than '..Said'. Prove '..Said' where nothing that the law and all that it calls make is longer than what came in: it says more and counts as full. Else prove '..UptoSaid'. A law counts once. -/
mutual
def uptoBulk {H : Type} : DataW H → Nat
  | .lit (.string bytes) => bytes.length + 1
  | .lit _ => 1
  | .nil => 1
  | .ptr d => uptoBulk d + 1
  | .slice elems spare => uptoBulkAll elems + uptoBulkAll spare + 1
  | .agg parts => uptoBulkAll parts + 1
  | .iface _ d => uptoBulk d + 1
  | .map entries => uptoBulkEntries entries + 1
  | .held _ => 1
def uptoBulkAll {H : Type} : List (DataW H) → Nat
  | [] => 0
  | d :: r => uptoBulk d + uptoBulkAll r
def uptoBulkEntries {H : Type} : List (Lit × DataW H) → Nat
  | [] => 0
  | x :: r => uptoBulkEntry x + uptoBulkEntries r
def uptoBulkEntry {H : Type} : Lit × DataW H → Nat
  | (.string bytes, d) => bytes.length + uptoBulk d + 1
  | (_, d) => uptoBulk d + 1
 end
def uptoSmall : (H : Type) → List (DataW H) → Bool := fun _ ds => decide (uptoBulkAll ds ≤ 1048576)
def OpenSpec.upto (s : _root_.Go.ChangeSpec) : _root_.Go.OpenSpec := { _root_.Go.OpenSpec.ofChange s with cond := some uptoSmall }

/-- 'phosphorlaw11.ParseEnds', WHERE WHAT IT READS IS OF BULK AT MOST 1048576: true; the input reads as it did. -/
def parseEndsUptoRow : OpenClaim := { program := "ytnaoobgghgnflaa", sum := "1f30f9711a58dba9aead35f1a84a53759a700bba793cfcf5f77e819ed919821e", func := "phosphor/phosphorlaw11.ParseEnds", spec := "parseEnds", unfollowed := true, recurses := true, apart := false, narrowed := true }
def ParseEndsUptoSaid : Prop := parseEndsUptoRow.holds Try.pinned (OpenSpec.upto parseEndsSpec)

/-- 'phosphorlaw11.ParseParams', WHERE WHAT IT READS IS OF BULK AT MOST 1048576: true; the input reads as it did. -/
def parseParamsUptoRow : OpenClaim := { program := "ytnaoobgghgnflaa", sum := "1f30f9711a58dba9aead35f1a84a53759a700bba793cfcf5f77e819ed919821e", func := "phosphor/phosphorlaw11.ParseParams", spec := "parseParams", unfollowed := true, recurses := true, apart := false, narrowed := true }
def ParseParamsUptoSaid : Prop := parseParamsUptoRow.holds Try.pinned (OpenSpec.upto parseParamsSpec)

/-- 'phosphorlaw11.ParseStrings', WHERE WHAT IT READS IS OF BULK AT MOST 1048576: true; the input reads as it did. -/
def parseStringsUptoRow : OpenClaim := { program := "ytnaoobgghgnflaa", sum := "1f30f9711a58dba9aead35f1a84a53759a700bba793cfcf5f77e819ed919821e", func := "phosphor/phosphorlaw11.ParseStrings", spec := "parseStrings", unfollowed := true, recurses := true, apart := false, narrowed := true }
def ParseStringsUptoSaid : Prop := parseStringsUptoRow.holds Try.pinned (OpenSpec.upto parseStringsSpec)

/-- 'phosphorlaw11.ParseCuts', WHERE WHAT IT READS IS OF BULK AT MOST 1048576: true; the input reads as it did. -/
def parseCutsUptoRow : OpenClaim := { program := "ytnaoobgghgnflaa", sum := "1f30f9711a58dba9aead35f1a84a53759a700bba793cfcf5f77e819ed919821e", func := "phosphor/phosphorlaw11.ParseCuts", spec := "parseCuts", unfollowed := true, recurses := true, apart := false, narrowed := true }
def ParseCutsUptoSaid : Prop := parseCutsUptoRow.holds Try.pinned (OpenSpec.upto parseCutsSpec)

end Rows
end Go.Proofs.Ytnaoobgghgnflaa
