/-
  No cell of these rows narrows 'for every input' (looked for: loops, veiled, ifaces, maps, wideKeys, modest, calm, conditions, laid).
  DERIVED. THE GIVEN ROWS OF THIS SEAT. 5 by the template 'for every input the law returns true; each argument reads behind the call as it read before'; 0 by the template 'total and deterministic' (their statements: YtdcbaobipogmnaaTotals.lean).
  GIVEN WITH THE SEED: the statements are not yours to turn. If you find one false, say at which input.
  Laid BY PROGRAM, IN A SANDBOX (cutbox-rows.mjs): the forced cells as the released guide's own fill.sh prints them over the translation ed7c4335aa88af64… (all of the seat's roots in one cut). By AI agents, Wed Nov 11 2026. No macro, syntax, notation, axiom, sorry.
-/
import Derived.Test.YtdcbaobipogmnaaChecked
import GoSem.Claim
import GoSem.ClaimJoined
import GoSem.ClaimMapViews
import Derived.JoinedTies
import Derived.KernelRfl
namespace Go.Proofs.Ytdcbaobipogmnaa
/- THE CELL 'sum', in the pinned program and in every row, IS THE sha256 OF THE DUMP (.gsa) THAT YtdcbaobipogmnaaProg.lean LOADS. Nothing in Lean hashes anything: it is a label: what it is worth is what the hold of that sum in a sandbox is worth. -/
noncomputable def Try.pinned : Pinned := { name := "ytdcbaobipogmnaa", sum := "ed7c4335aa88af64149f3af33ebbe635dab9b5aa5e04750daa9bc1f4ff837427", checked := Try.checked }
namespace Rows
def none {H : Type} : Left H := { results := [], args := [] }

/-- 'phosphorlaw12.AttrApplies': WHATEVER THE INPUT: true; the input reads as it did. -/
def attrAppliesSpec : ChangeSpec := { name := "attrApplies", fn := fun _ => fun
  | [d1, d2] => { results := [.lit (.bool true)], args := [d1, d2] }
  | _ => none }
def attrAppliesRow : OpenClaim := { program := "ytdcbaobipogmnaa", sum := "ed7c4335aa88af64149f3af33ebbe635dab9b5aa5e04750daa9bc1f4ff837427", func := "phosphor/phosphorlaw12.AttrApplies", spec := "attrApplies", unfollowed := true, recurses := true, apart := false }
def AttrAppliesSaid : Prop := attrAppliesRow.holds Try.pinned (OpenSpec.ofChange attrAppliesSpec)

/-- ITS FALSE NEIGHBOUR: 'it returns false'. Refute it at one input. -/
def attrAppliesWrong : ChangeSpec := { name := "attrApplies", fn := fun _ => fun
  | [d1, d2] => { results := [.lit (.bool false)], args := [d1, d2] }
  | _ => none }
def AttrAppliesWrongFalsely : Prop := attrAppliesRow.holds Try.pinned (OpenSpec.ofChange attrAppliesWrong)

/-- 'phosphorlaw12.AttrColors': WHATEVER THE INPUT: true; the input reads as it did. -/
def attrColorsSpec : ChangeSpec := { name := "attrColors", fn := fun _ => fun
  | [d1, d2, d3] => { results := [.lit (.bool true)], args := [d1, d2, d3] }
  | _ => none }
def attrColorsRow : OpenClaim := { program := "ytdcbaobipogmnaa", sum := "ed7c4335aa88af64149f3af33ebbe635dab9b5aa5e04750daa9bc1f4ff837427", func := "phosphor/phosphorlaw12.AttrColors", spec := "attrColors", unfollowed := true, recurses := true, apart := false }
def AttrColorsSaid : Prop := attrColorsRow.holds Try.pinned (OpenSpec.ofChange attrColorsSpec)

/-- ITS FALSE NEIGHBOUR: 'it returns false'. Refute it at one input. -/
def attrColorsWrong : ChangeSpec := { name := "attrColors", fn := fun _ => fun
  | [d1, d2, d3] => { results := [.lit (.bool false)], args := [d1, d2, d3] }
  | _ => none }
def AttrColorsWrongFalsely : Prop := attrColorsRow.holds Try.pinned (OpenSpec.ofChange attrColorsWrong)

/-- 'phosphorlaw12.AttrParts': WHATEVER THE INPUT: true; the input reads as it did. -/
def attrPartsSpec : ChangeSpec := { name := "attrParts", fn := fun _ => fun
  | [d1, d2, d3] => { results := [.lit (.bool true)], args := [d1, d2, d3] }
  | _ => none }
def attrPartsRow : OpenClaim := { program := "ytdcbaobipogmnaa", sum := "ed7c4335aa88af64149f3af33ebbe635dab9b5aa5e04750daa9bc1f4ff837427", func := "phosphor/phosphorlaw12.AttrParts", spec := "attrParts", unfollowed := true, recurses := true, apart := false }
def AttrPartsSaid : Prop := attrPartsRow.holds Try.pinned (OpenSpec.ofChange attrPartsSpec)

/-- ITS FALSE NEIGHBOUR: 'it returns false'. Refute it at one input. -/
def attrPartsWrong : ChangeSpec := { name := "attrParts", fn := fun _ => fun
  | [d1, d2, d3] => { results := [.lit (.bool false)], args := [d1, d2, d3] }
  | _ => none }
def AttrPartsWrongFalsely : Prop := attrPartsRow.holds Try.pinned (OpenSpec.ofChange attrPartsWrong)

/-- 'phosphorlaw12.AttrFlags': WHATEVER THE INPUT: true; the input reads as it did. -/
def attrFlagsSpec : ChangeSpec := { name := "attrFlags", fn := fun _ => fun
  | [d1, d2] => { results := [.lit (.bool true)], args := [d1, d2] }
  | _ => none }
def attrFlagsRow : OpenClaim := { program := "ytdcbaobipogmnaa", sum := "ed7c4335aa88af64149f3af33ebbe635dab9b5aa5e04750daa9bc1f4ff837427", func := "phosphor/phosphorlaw12.AttrFlags", spec := "attrFlags", unfollowed := true, recurses := true, apart := false }
def AttrFlagsSaid : Prop := attrFlagsRow.holds Try.pinned (OpenSpec.ofChange attrFlagsSpec)

/-- ITS FALSE NEIGHBOUR: 'it returns false'. Refute it at one input. -/
def attrFlagsWrong : ChangeSpec := { name := "attrFlags", fn := fun _ => fun
  | [d1, d2] => { results := [.lit (.bool false)], args := [d1, d2] }
  | _ => none }
def AttrFlagsWrongFalsely : Prop := attrFlagsRow.holds Try.pinned (OpenSpec.ofChange attrFlagsWrong)

/-- 'phosphorlaw12.AttrParams': WHATEVER THE INPUT: true; the input reads as it did. -/
def attrParamsSpec : ChangeSpec := { name := "attrParams", fn := fun _ => fun
  | [d1, d2] => { results := [.lit (.bool true)], args := [d1, d2] }
  | _ => none }
def attrParamsRow : OpenClaim := { program := "ytdcbaobipogmnaa", sum := "ed7c4335aa88af64149f3af33ebbe635dab9b5aa5e04750daa9bc1f4ff837427", func := "phosphor/phosphorlaw12.AttrParams", spec := "attrParams", unfollowed := true, recurses := true, apart := false }
def AttrParamsSaid : Prop := attrParamsRow.holds Try.pinned (OpenSpec.ofChange attrParamsSpec)

/-- ITS FALSE NEIGHBOUR: 'it returns false'. Refute it at one input. -/
def attrParamsWrong : ChangeSpec := { name := "attrParams", fn := fun _ => fun
  | [d1, d2] => { results := [.lit (.bool false)], args := [d1, d2] }
  | _ => none }
def AttrParamsWrongFalsely : Prop := attrParamsRow.holds Try.pinned (OpenSpec.ofChange attrParamsWrong)

/- THE SECOND FORM. 'bulk': how many values and letters a reading holds, each counted each time it is reached (what is shared counts as often as it is met; a slice's spare places count too). A statement '..UptoSaid' is the law's where the arguments, and the package variables that the reading takes, are together of bulk at most 1048576: NARROWER than '..Said'. Prove '..Said' where nothing that the law and all that it calls make is longer than what came in: it says more and counts as full. Else prove '..UptoSaid'. A law counts once. -/
mutual
def uptoBulk {H : Type} : DataW H → Nat
  | .lit (.string bytes) => bytes.length + 1
  | .lit _ => 1
  | .nil => 1
  | .ptr d => uptoBulk d + 1
  | .slice elems spare => uptoBulkAll elems + uptoBulkAll spare + 1
  | .agg parts => uptoBulkAll parts + 1
  | .iface _ d => uptoBulk d + 1
  | .map entries => uptoBulkEntries entries + 1
  | .held _ => 1
def uptoBulkAll {H : Type} : List (DataW H) → Nat
  | [] => 0
  | d :: r => uptoBulk d + uptoBulkAll r
def uptoBulkEntries {H : Type} : List (Lit × DataW H) → Nat
  | [] => 0
  | x :: r => uptoBulkEntry x + uptoBulkEntries r
def uptoBulkEntry {H : Type} : Lit × DataW H → Nat
  | (.string bytes, d) => bytes.length + uptoBulk d + 1
  | (_, d) => uptoBulk d + 1
 end
def uptoSmall : (H : Type) → List (DataW H) → Bool := fun _ ds => decide (uptoBulkAll ds ≤ 1048576)
def OpenSpec.upto (s : _root_.Go.ChangeSpec) : _root_.Go.OpenSpec := { _root_.Go.OpenSpec.ofChange s with cond := some uptoSmall }

/-- 'phosphorlaw12.AttrApplies', WHERE WHAT IT READS IS OF BULK AT MOST 1048576: true; the input reads as it did. -/
def attrAppliesUptoRow : OpenClaim := { program := "ytdcbaobipogmnaa", sum := "ed7c4335aa88af64149f3af33ebbe635dab9b5aa5e04750daa9bc1f4ff837427", func := "phosphor/phosphorlaw12.AttrApplies", spec := "attrApplies", unfollowed := true, recurses := true, apart := false, narrowed := true }
def AttrAppliesUptoSaid : Prop := attrAppliesUptoRow.holds Try.pinned (OpenSpec.upto attrAppliesSpec)

/-- 'phosphorlaw12.AttrColors', WHERE WHAT IT READS IS OF BULK AT MOST 1048576: true; the input reads as it did. -/
def attrColorsUptoRow : OpenClaim := { program := "ytdcbaobipogmnaa", sum := "ed7c4335aa88af64149f3af33ebbe635dab9b5aa5e04750daa9bc1f4ff837427", func := "phosphor/phosphorlaw12.AttrColors", spec := "attrColors", unfollowed := true, recurses := true, apart := false, narrowed := true }
def AttrColorsUptoSaid : Prop := attrColorsUptoRow.holds Try.pinned (OpenSpec.upto attrColorsSpec)

/-- 'phosphorlaw12.AttrParts', WHERE WHAT IT READS IS OF BULK AT MOST 1048576: true; the input reads as it did. -/
def attrPartsUptoRow : OpenClaim := { program := "ytdcbaobipogmnaa", sum := "ed7c4335aa88af64149f3af33ebbe635dab9b5aa5e04750daa9bc1f4ff837427", func := "phosphor/phosphorlaw12.AttrParts", spec := "attrParts", unfollowed := true, recurses := true, apart := false, narrowed := true }
def AttrPartsUptoSaid : Prop := attrPartsUptoRow.holds Try.pinned (OpenSpec.upto attrPartsSpec)

/-- 'phosphorlaw12.AttrFlags', WHERE WHAT IT READS IS OF BULK AT MOST 1048576: true; the input reads as it did. -/
def attrFlagsUptoRow : OpenClaim := { program := "ytdcbaobipogmnaa", sum := "ed7c4335aa88af64149f3af33ebbe635dab9b5aa5e04750daa9bc1f4ff837427", func := "phosphor/phosphorlaw12.AttrFlags", spec := "attrFlags", unfollowed := true, recurses := true, apart := false, narrowed := true }
def AttrFlagsUptoSaid : Prop := attrFlagsUptoRow.holds Try.pinned (OpenSpec.upto attrFlagsSpec)

/-- 'phosphorlaw12.AttrParams', WHERE WHAT IT READS IS OF BULK AT MOST 1048576: true; the input reads as it did. -/
def attrParamsUptoRow : OpenClaim := { program := "ytdcbaobipogmnaa", sum := "ed7c4335aa88af64149f3af33ebbe635dab9b5aa5e04750daa9bc1f4ff837427", func := "phosphor/phosphorlaw12.AttrParams", spec := "attrParams", unfollowed := true, recurses := true, apart := false, narrowed := true }
def AttrParamsUptoSaid : Prop := attrParamsUptoRow.holds Try.pinned (OpenSpec.upto attrParamsSpec)

end Rows
end Go.Proofs.Ytdcbaobipogmnaa
