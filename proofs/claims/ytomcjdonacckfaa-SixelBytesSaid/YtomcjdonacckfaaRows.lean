/-
  No cell of these rows narrows 'for every input' (looked for: loops, veiled, ifaces, maps, wideKeys, modest, calm, conditions, laid).
  DERIVED. THE GIVEN ROWS OF THIS SEAT. 7 by the template 'for every input the law returns true; each argument reads behind the call as it read before'; 0 by the template 'total and deterministic' (their statements: YtomcjdonacckfaaTotals.lean).
  GIVEN WITH THE SEED: the statements are not yours to turn. If you find one false, say at which input.
  Laid BY PROGRAM, IN A SANDBOX (cutbox-rows.mjs): the forced cells as the released guide's own fill.sh prints them over the translation 56125a335515ad7a… (all of the seat's roots in one cut). By AI agents, Wed Nov 11 2026. No macro, syntax, notation, axiom, sorry.
-/
import Derived.Test.YtomcjdonacckfaaChecked
import GoSem.Claim
import GoSem.ClaimJoined
import GoSem.ClaimMapViews
import Derived.JoinedTies
import Derived.KernelRfl
namespace Go.Proofs.Ytomcjdonacckfaa
/- THE CELL 'sum', in the pinned program and in every row, IS THE sha256 OF THE DUMP (.gsa) THAT YtomcjdonacckfaaProg.lean LOADS. Nothing in Lean hashes anything: it is a label: what it is worth is what the hold of that sum in a sandbox is worth. -/
noncomputable def Try.pinned : Pinned := { name := "ytomcjdonacckfaa", sum := "56125a335515ad7a7376e8f92422f015206ccd8b23bba85a83122df1468ab10b", checked := Try.checked }
namespace Rows
def none {H : Type} : Left H := { results := [], args := [] }

/-- 'phosphorlaw18.SixelColors': WHATEVER THE INPUT: true; the input reads as it did. -/
def sixelColorsSpec : ChangeSpec := { name := "sixelColors", fn := fun _ => fun
  | [d1, d2, d3, d4] => { results := [.lit (.bool true)], args := [d1, d2, d3, d4] }
  | _ => none }
def sixelColorsRow : OpenClaim := { program := "ytomcjdonacckfaa", sum := "56125a335515ad7a7376e8f92422f015206ccd8b23bba85a83122df1468ab10b", func := "phosphor/phosphorlaw18.SixelColors", spec := "sixelColors", apart := false }
def SixelColorsSaid : Prop := sixelColorsRow.holds Try.pinned (OpenSpec.ofChange sixelColorsSpec)

/-- ITS FALSE NEIGHBOUR: 'it returns false'. Refute it at one input. -/
def sixelColorsWrong : ChangeSpec := { name := "sixelColors", fn := fun _ => fun
  | [d1, d2, d3, d4] => { results := [.lit (.bool false)], args := [d1, d2, d3, d4] }
  | _ => none }
def SixelColorsWrongFalsely : Prop := sixelColorsRow.holds Try.pinned (OpenSpec.ofChange sixelColorsWrong)

/-- 'phosphorlaw18.SixelCuts': WHATEVER THE INPUT: true; the input reads as it did. -/
def sixelCutsSpec : ChangeSpec := { name := "sixelCuts", fn := fun _ => fun
  | [d1, d2, d3] => { results := [.lit (.bool true)], args := [d1, d2, d3] }
  | _ => none }
def sixelCutsRow : OpenClaim := { program := "ytomcjdonacckfaa", sum := "56125a335515ad7a7376e8f92422f015206ccd8b23bba85a83122df1468ab10b", func := "phosphor/phosphorlaw18.SixelCuts", spec := "sixelCuts", apart := false }
def SixelCutsSaid : Prop := sixelCutsRow.holds Try.pinned (OpenSpec.ofChange sixelCutsSpec)

/-- ITS FALSE NEIGHBOUR: 'it returns false'. Refute it at one input. -/
def sixelCutsWrong : ChangeSpec := { name := "sixelCuts", fn := fun _ => fun
  | [d1, d2, d3] => { results := [.lit (.bool false)], args := [d1, d2, d3] }
  | _ => none }
def SixelCutsWrongFalsely : Prop := sixelCutsRow.holds Try.pinned (OpenSpec.ofChange sixelCutsWrong)

/-- 'phosphorlaw18.SixelImages': WHATEVER THE INPUT: true; the input reads as it did. -/
def sixelImagesSpec : ChangeSpec := { name := "sixelImages", fn := fun _ => fun
  | [d1, d2, d3, d4] => { results := [.lit (.bool true)], args := [d1, d2, d3, d4] }
  | _ => none }
def sixelImagesRow : OpenClaim := { program := "ytomcjdonacckfaa", sum := "56125a335515ad7a7376e8f92422f015206ccd8b23bba85a83122df1468ab10b", func := "phosphor/phosphorlaw18.SixelImages", spec := "sixelImages", apart := false }
def SixelImagesSaid : Prop := sixelImagesRow.holds Try.pinned (OpenSpec.ofChange sixelImagesSpec)

/-- ITS FALSE NEIGHBOUR: 'it returns false'. Refute it at one input. -/
def sixelImagesWrong : ChangeSpec := { name := "sixelImages", fn := fun _ => fun
  | [d1, d2, d3, d4] => { results := [.lit (.bool false)], args := [d1, d2, d3, d4] }
  | _ => none }
def SixelImagesWrongFalsely : Prop := sixelImagesRow.holds Try.pinned (OpenSpec.ofChange sixelImagesWrong)

/-- 'phosphorlaw18.SixelRooms': WHATEVER THE INPUT: true; the input reads as it did. -/
def sixelRoomsSpec : ChangeSpec := { name := "sixelRooms", fn := fun _ => fun
  | [d1, d2, d3] => { results := [.lit (.bool true)], args := [d1, d2, d3] }
  | _ => none }
def sixelRoomsRow : OpenClaim := { program := "ytomcjdonacckfaa", sum := "56125a335515ad7a7376e8f92422f015206ccd8b23bba85a83122df1468ab10b", func := "phosphor/phosphorlaw18.SixelRooms", spec := "sixelRooms", apart := false }
def SixelRoomsSaid : Prop := sixelRoomsRow.holds Try.pinned (OpenSpec.ofChange sixelRoomsSpec)

/-- ITS FALSE NEIGHBOUR: 'it returns false'. Refute it at one input. -/
def sixelRoomsWrong : ChangeSpec := { name := "sixelRooms", fn := fun _ => fun
  | [d1, d2, d3] => { results := [.lit (.bool false)], args := [d1, d2, d3] }
  | _ => none }
def SixelRoomsWrongFalsely : Prop := sixelRoomsRow.holds Try.pinned (OpenSpec.ofChange sixelRoomsWrong)

/-- 'phosphorlaw18.SixelRepeats': WHATEVER THE INPUT: true; the input reads as it did. -/
def sixelRepeatsSpec : ChangeSpec := { name := "sixelRepeats", fn := fun _ => fun
  | [d1, d2, d3] => { results := [.lit (.bool true)], args := [d1, d2, d3] }
  | _ => none }
def sixelRepeatsRow : OpenClaim := { program := "ytomcjdonacckfaa", sum := "56125a335515ad7a7376e8f92422f015206ccd8b23bba85a83122df1468ab10b", func := "phosphor/phosphorlaw18.SixelRepeats", spec := "sixelRepeats", apart := false }
def SixelRepeatsSaid : Prop := sixelRepeatsRow.holds Try.pinned (OpenSpec.ofChange sixelRepeatsSpec)

/-- ITS FALSE NEIGHBOUR: 'it returns false'. Refute it at one input. -/
def sixelRepeatsWrong : ChangeSpec := { name := "sixelRepeats", fn := fun _ => fun
  | [d1, d2, d3] => { results := [.lit (.bool false)], args := [d1, d2, d3] }
  | _ => none }
def SixelRepeatsWrongFalsely : Prop := sixelRepeatsRow.holds Try.pinned (OpenSpec.ofChange sixelRepeatsWrong)

/-- 'phosphorlaw18.SixelRegisters': WHATEVER THE INPUT: true; the input reads as it did. -/
def sixelRegistersSpec : ChangeSpec := { name := "sixelRegisters", fn := fun _ => fun
  | [d1, d2, d3, d4, d5] => { results := [.lit (.bool true)], args := [d1, d2, d3, d4, d5] }
  | _ => none }
def sixelRegistersRow : OpenClaim := { program := "ytomcjdonacckfaa", sum := "56125a335515ad7a7376e8f92422f015206ccd8b23bba85a83122df1468ab10b", func := "phosphor/phosphorlaw18.SixelRegisters", spec := "sixelRegisters", apart := false }
def SixelRegistersSaid : Prop := sixelRegistersRow.holds Try.pinned (OpenSpec.ofChange sixelRegistersSpec)

/-- ITS FALSE NEIGHBOUR: 'it returns false'. Refute it at one input. -/
def sixelRegistersWrong : ChangeSpec := { name := "sixelRegisters", fn := fun _ => fun
  | [d1, d2, d3, d4, d5] => { results := [.lit (.bool false)], args := [d1, d2, d3, d4, d5] }
  | _ => none }
def SixelRegistersWrongFalsely : Prop := sixelRegistersRow.holds Try.pinned (OpenSpec.ofChange sixelRegistersWrong)

/-- 'phosphorlaw18.SixelBytes': WHATEVER THE INPUT: true; the input reads as it did. -/
def sixelBytesSpec : ChangeSpec := { name := "sixelBytes", fn := fun _ => fun
  | [d1, d2, d3, d4] => { results := [.lit (.bool true)], args := [d1, d2, d3, d4] }
  | _ => none }
def sixelBytesRow : OpenClaim := { program := "ytomcjdonacckfaa", sum := "56125a335515ad7a7376e8f92422f015206ccd8b23bba85a83122df1468ab10b", func := "phosphor/phosphorlaw18.SixelBytes", spec := "sixelBytes", apart := false }
def SixelBytesSaid : Prop := sixelBytesRow.holds Try.pinned (OpenSpec.ofChange sixelBytesSpec)

/-- ITS FALSE NEIGHBOUR: 'it returns false'. Refute it at one input. -/
def sixelBytesWrong : ChangeSpec := { name := "sixelBytes", fn := fun _ => fun
  | [d1, d2, d3, d4] => { results := [.lit (.bool false)], args := [d1, d2, d3, d4] }
  | _ => none }
def SixelBytesWrongFalsely : Prop := sixelBytesRow.holds Try.pinned (OpenSpec.ofChange sixelBytesWrong)

/- THE SECOND FORM. 'bulk': how many values and letters a reading holds, each counted each time it is reached (what is shared counts as often as it is met; a slice's spare places count too). A statement '..UptoSaid' is the law's where the arguments, and the package variables that the reading takes, are together of bulk at most 1048576: NARROWER than '..Said'. Prove '..Said' where nothing that the law and all that it calls make is longer than what came in: it says more and counts as full. Else prove '..UptoSaid'. A law counts once. -/
mutual
def uptoBulk {H : Type} : DataW H → Nat
  | .lit (.string bytes) => bytes.length + 1
  | .lit _ => 1
  | .nil => 1
  | .ptr d => uptoBulk d + 1
  | .slice elems spare => uptoBulkAll elems + uptoBulkAll spare + 1
  | .agg parts => uptoBulkAll parts + 1
  | .iface _ d => uptoBulk d + 1
  | .map entries => uptoBulkEntries entries + 1
  | .held _ => 1
def uptoBulkAll {H : Type} : List (DataW H) → Nat
  | [] => 0
  | d :: r => uptoBulk d + uptoBulkAll r
def uptoBulkEntries {H : Type} : List (Lit × DataW H) → Nat
  | [] => 0
  | x :: r => uptoBulkEntry x + uptoBulkEntries r
def uptoBulkEntry {H : Type} : Lit × DataW H → Nat
  | (.string bytes, d) => bytes.length + uptoBulk d + 1
  | (_, d) => uptoBulk d + 1
 end
def uptoSmall : (H : Type) → List (DataW H) → Bool := fun _ ds => decide (uptoBulkAll ds ≤ 1048576)
def OpenSpec.upto (s : _root_.Go.ChangeSpec) : _root_.Go.OpenSpec := { _root_.Go.OpenSpec.ofChange s with cond := some uptoSmall }

/-- 'phosphorlaw18.SixelColors', WHERE WHAT IT READS IS OF BULK AT MOST 1048576: true; the input reads as it did. -/
def sixelColorsUptoRow : OpenClaim := { program := "ytomcjdonacckfaa", sum := "56125a335515ad7a7376e8f92422f015206ccd8b23bba85a83122df1468ab10b", func := "phosphor/phosphorlaw18.SixelColors", spec := "sixelColors", apart := false, narrowed := true }
def SixelColorsUptoSaid : Prop := sixelColorsUptoRow.holds Try.pinned (OpenSpec.upto sixelColorsSpec)

/-- 'phosphorlaw18.SixelCuts', WHERE WHAT IT READS IS OF BULK AT MOST 1048576: true; the input reads as it did. -/
def sixelCutsUptoRow : OpenClaim := { program := "ytomcjdonacckfaa", sum := "56125a335515ad7a7376e8f92422f015206ccd8b23bba85a83122df1468ab10b", func := "phosphor/phosphorlaw18.SixelCuts", spec := "sixelCuts", apart := false, narrowed := true }
def SixelCutsUptoSaid : Prop := sixelCutsUptoRow.holds Try.pinned (OpenSpec.upto sixelCutsSpec)

/-- 'phosphorlaw18.SixelImages', WHERE WHAT IT READS IS OF BULK AT MOST 1048576: true; the input reads as it did. -/
def sixelImagesUptoRow : OpenClaim := { program := "ytomcjdonacckfaa", sum := "56125a335515ad7a7376e8f92422f015206ccd8b23bba85a83122df1468ab10b", func := "phosphor/phosphorlaw18.SixelImages", spec := "sixelImages", apart := false, narrowed := true }
def SixelImagesUptoSaid : Prop := sixelImagesUptoRow.holds Try.pinned (OpenSpec.upto sixelImagesSpec)

/-- 'phosphorlaw18.SixelRooms', WHERE WHAT IT READS IS OF BULK AT MOST 1048576: true; the input reads as it did. -/
def sixelRoomsUptoRow : OpenClaim := { program := "ytomcjdonacckfaa", sum := "56125a335515ad7a7376e8f92422f015206ccd8b23bba85a83122df1468ab10b", func := "phosphor/phosphorlaw18.SixelRooms", spec := "sixelRooms", apart := false, narrowed := true }
def SixelRoomsUptoSaid : Prop := sixelRoomsUptoRow.holds Try.pinned (OpenSpec.upto sixelRoomsSpec)

/-- 'phosphorlaw18.SixelRepeats', WHERE WHAT IT READS IS OF BULK AT MOST 1048576: true; the input reads as it did. -/
def sixelRepeatsUptoRow : OpenClaim := { program := "ytomcjdonacckfaa", sum := "56125a335515ad7a7376e8f92422f015206ccd8b23bba85a83122df1468ab10b", func := "phosphor/phosphorlaw18.SixelRepeats", spec := "sixelRepeats", apart := false, narrowed := true }
def SixelRepeatsUptoSaid : Prop := sixelRepeatsUptoRow.holds Try.pinned (OpenSpec.upto sixelRepeatsSpec)

/-- 'phosphorlaw18.SixelRegisters', WHERE WHAT IT READS IS OF BULK AT MOST 1048576: true; the input reads as it did. -/
def sixelRegistersUptoRow : OpenClaim := { program := "ytomcjdonacckfaa", sum := "56125a335515ad7a7376e8f92422f015206ccd8b23bba85a83122df1468ab10b", func := "phosphor/phosphorlaw18.SixelRegisters", spec := "sixelRegisters", apart := false, narrowed := true }
def SixelRegistersUptoSaid : Prop := sixelRegistersUptoRow.holds Try.pinned (OpenSpec.upto sixelRegistersSpec)

/-- 'phosphorlaw18.SixelBytes', WHERE WHAT IT READS IS OF BULK AT MOST 1048576: true; the input reads as it did. -/
def sixelBytesUptoRow : OpenClaim := { program := "ytomcjdonacckfaa", sum := "56125a335515ad7a7376e8f92422f015206ccd8b23bba85a83122df1468ab10b", func := "phosphor/phosphorlaw18.SixelBytes", spec := "sixelBytes", apart := false, narrowed := true }
def SixelBytesUptoSaid : Prop := sixelBytesUptoRow.holds Try.pinned (OpenSpec.upto sixelBytesSpec)

end Rows
end Go.Proofs.Ytomcjdonacckfaa
