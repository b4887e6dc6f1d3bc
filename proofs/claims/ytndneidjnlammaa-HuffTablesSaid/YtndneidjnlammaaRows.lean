/-
  No cell of these rows narrows 'for every input' (looked for: loops, veiled, ifaces, maps, wideKeys, modest, calm, conditions, laid).
  DERIVED. THE GIVEN ROWS OF THIS SEAT. 4 by the template 'for every input the law returns true; each argument reads behind the call as it read before'; 0 by the template 'total and deterministic' (their statements: YtndneidjnlammaaTotals.lean).
  GIVEN WITH THE SEED: the statements are not yours to turn. If you find one false, say at which input.
  Laid BY PROGRAM, IN A SANDBOX (cutbox-rows.mjs): the forced cells as the released guide's own fill.sh prints them over the translation 0ac31049f7c7e079… (all of the seat's roots in one cut). By AI agents, Wed Nov 11 2026. No macro, syntax, notation, axiom, sorry.
-/
import Derived.Test.YtndneidjnlammaaChecked
import GoSem.Claim
import GoSem.ClaimJoined
import GoSem.ClaimMapViews
import Derived.JoinedTies
import Derived.KernelRfl
namespace Go.Proofs.Ytndneidjnlammaa
/- THE CELL 'sum', in the pinned program and in every row, IS THE sha256 OF THE DUMP (.gsa) THAT YtndneidjnlammaaProg.lean LOADS. Nothing in Lean hashes anything: it is a label: what it is worth is what the hold of that sum in a sandbox is worth. -/
noncomputable def Try.pinned : Pinned := { name := "ytndneidjnlammaa", sum := "0ac31049f7c7e0796b9e394c8a30ddfb1f1111431fae5dcd510aa6c54622ff8b", checked := Try.checked }
namespace Rows
def none {H : Type} : Left H := { results := [], args := [] }

/-- 'phosphorlaw4.HuffCodes': WHATEVER THE INPUT: true; the input reads as it did. -/
def huffCodesSpec : ChangeSpec := { name := "huffCodes", fn := fun _ => fun
  | [d] => { results := [.lit (.bool true)], args := [d] }
  | _ => none }
def huffCodesRow : OpenClaim := { program := "ytndneidjnlammaa", sum := "0ac31049f7c7e0796b9e394c8a30ddfb1f1111431fae5dcd510aa6c54622ff8b", func := "phosphor/phosphorlaw4.HuffCodes", spec := "huffCodes", apart := false }
def HuffCodesSaid : Prop := huffCodesRow.holds Try.pinned (OpenSpec.ofChange huffCodesSpec)

/-- ITS FALSE NEIGHBOUR: 'it returns false'. Refute it at one input. -/
def huffCodesWrong : ChangeSpec := { name := "huffCodes", fn := fun _ => fun
  | [d] => { results := [.lit (.bool false)], args := [d] }
  | _ => none }
def HuffCodesWrongFalsely : Prop := huffCodesRow.holds Try.pinned (OpenSpec.ofChange huffCodesWrong)

/-- 'phosphorlaw4.HuffTables': WHATEVER THE INPUT: true; the input reads as it did. -/
def huffTablesSpec : ChangeSpec := { name := "huffTables", fn := fun _ => fun
  | [d1, d2, d3] => { results := [.lit (.bool true)], args := [d1, d2, d3] }
  | _ => none }
def huffTablesRow : OpenClaim := { program := "ytndneidjnlammaa", sum := "0ac31049f7c7e0796b9e394c8a30ddfb1f1111431fae5dcd510aa6c54622ff8b", func := "phosphor/phosphorlaw4.HuffTables", spec := "huffTables", apart := false }
def HuffTablesSaid : Prop := huffTablesRow.holds Try.pinned (OpenSpec.ofChange huffTablesSpec)

/-- ITS FALSE NEIGHBOUR: 'it returns false'. Refute it at one input. -/
def huffTablesWrong : ChangeSpec := { name := "huffTables", fn := fun _ => fun
  | [d1, d2, d3] => { results := [.lit (.bool false)], args := [d1, d2, d3] }
  | _ => none }
def HuffTablesWrongFalsely : Prop := huffTablesRow.holds Try.pinned (OpenSpec.ofChange huffTablesWrong)

/-- 'phosphorlaw4.HuffBack': WHATEVER THE INPUT: true; the input reads as it did. -/
def huffBackSpec : ChangeSpec := { name := "huffBack", fn := fun _ => fun
  | [d1, d2] => { results := [.lit (.bool true)], args := [d1, d2] }
  | _ => none }
def huffBackRow : OpenClaim := { program := "ytndneidjnlammaa", sum := "0ac31049f7c7e0796b9e394c8a30ddfb1f1111431fae5dcd510aa6c54622ff8b", func := "phosphor/phosphorlaw4.HuffBack", spec := "huffBack", apart := false }
def HuffBackSaid : Prop := huffBackRow.holds Try.pinned (OpenSpec.ofChange huffBackSpec)

/-- ITS FALSE NEIGHBOUR: 'it returns false'. Refute it at one input. -/
def huffBackWrong : ChangeSpec := { name := "huffBack", fn := fun _ => fun
  | [d1, d2] => { results := [.lit (.bool false)], args := [d1, d2] }
  | _ => none }
def HuffBackWrongFalsely : Prop := huffBackRow.holds Try.pinned (OpenSpec.ofChange huffBackWrong)

/-- 'phosphorlaw4.HuffFixed': WHATEVER THE INPUT: true; the input reads as it did. -/
def huffFixedSpec : ChangeSpec := { name := "huffFixed", fn := fun _ => fun
  | [d] => { results := [.lit (.bool true)], args := [d] }
  | _ => none }
def huffFixedRow : OpenClaim := { program := "ytndneidjnlammaa", sum := "0ac31049f7c7e0796b9e394c8a30ddfb1f1111431fae5dcd510aa6c54622ff8b", func := "phosphor/phosphorlaw4.HuffFixed", spec := "huffFixed", apart := false }
def HuffFixedSaid : Prop := huffFixedRow.holds Try.pinned (OpenSpec.ofChange huffFixedSpec)

/-- ITS FALSE NEIGHBOUR: 'it returns false'. Refute it at one input. -/
def huffFixedWrong : ChangeSpec := { name := "huffFixed", fn := fun _ => fun
  | [d] => { results := [.lit (.bool false)], args := [d] }
  | _ => none }
def HuffFixedWrongFalsely : Prop := huffFixedRow.holds Try.pinned (OpenSpec.ofChange huffFixedWrong)

/- THE SECOND FORM. 'bulk': how many values and letters a reading holds, each counted each time it is reached (what is shared counts as often as it is met; a slice's spare places count too). A statement '..UptoSaid' is the law's where the arguments, and the package variables that the reading takes, are together of bulk at most 1048576: NARROWER than '..Said'. Prove '..Said' where nothing that the law and all that it calls make is longer than what came in: it says more and counts as full. Else prove '..UptoSaid'. A law counts once. -/
mutual
def uptoBulk {H : Type} : DataW H → Nat
  | .lit (.string bytes) => bytes.length + 1
  | .lit _ => 1
  | .nil => 1
  | .ptr d => uptoBulk d + 1
  | .slice elems spare => uptoBulkAll elems + uptoBulkAll spare + 1
  | .agg parts => uptoBulkAll parts + 1
  | .iface _ d => uptoBulk d + 1
  | .map entries => uptoBulkEntries entries + 1
  | .held _ => 1
def uptoBulkAll {H : Type} : List (DataW H) → Nat
  | [] => 0
  | d :: r => uptoBulk d + uptoBulkAll r
def uptoBulkEntries {H : Type} : List (Lit × DataW H) → Nat
  | [] => 0
  | x :: r => uptoBulkEntry x + uptoBulkEntries r
def uptoBulkEntry {H : Type} : Lit × DataW H → Nat
  | (.string bytes, d) => bytes.length + uptoBulk d + 1
  | (_, d) => uptoBulk d + 1
 end
def uptoSmall : (H : Type) → List (DataW H) → Bool := fun _ ds => decide (uptoBulkAll ds ≤ 1048576)
def OpenSpec.upto (s : _root_.Go.ChangeSpec) : _root_.Go.OpenSpec := { _root_.Go.OpenSpec.ofChange s with cond := some uptoSmall }

/-- 'phosphorlaw4.HuffCodes', WHERE WHAT IT READS IS OF BULK AT MOST 1048576: true; the input reads as it did. -/
def huffCodesUptoRow : OpenClaim := { program := "ytndneidjnlammaa", sum := "0ac31049f7c7e0796b9e394c8a30ddfb1f1111431fae5dcd510aa6c54622ff8b", func := "phosphor/phosphorlaw4.HuffCodes", spec := "huffCodes", apart := false, narrowed := true }
def HuffCodesUptoSaid : Prop := huffCodesUptoRow.holds Try.pinned (OpenSpec.upto huffCodesSpec)

/-- 'phosphorlaw4.HuffTables', WHERE WHAT IT READS IS OF BULK AT MOST 1048576: true; the input reads as it did. -/
def huffTablesUptoRow : OpenClaim := { program := "ytndneidjnlammaa", sum := "0ac31049f7c7e0796b9e394c8a30ddfb1f1111431fae5dcd510aa6c54622ff8b", func := "phosphor/phosphorlaw4.HuffTables", spec := "huffTables", apart := false, narrowed := true }
def HuffTablesUptoSaid : Prop := huffTablesUptoRow.holds Try.pinned (OpenSpec.upto huffTablesSpec)

/-- 'phosphorlaw4.HuffBack', WHERE WHAT IT READS IS OF BULK AT MOST 1048576: true; the input reads as it did. -/
def huffBackUptoRow : OpenClaim := { program := "ytndneidjnlammaa", sum := "0ac31049f7c7e0796b9e394c8a30ddfb1f1111431fae5dcd510aa6c54622ff8b", func := "phosphor/phosphorlaw4.HuffBack", spec := "huffBack", apart := false, narrowed := true }
def HuffBackUptoSaid : Prop := huffBackUptoRow.holds Try.pinned (OpenSpec.upto huffBackSpec)

/-- 'phosphorlaw4.HuffFixed', WHERE WHAT IT READS IS OF BULK AT MOST 1048576: true; the input reads as it did. -/
def huffFixedUptoRow : OpenClaim := { program := "ytndneidjnlammaa", sum := "0ac31049f7c7e0796b9e394c8a30ddfb1f1111431fae5dcd510aa6c54622ff8b", func := "phosphor/phosphorlaw4.HuffFixed", spec := "huffFixed", apart := false, narrowed := true }
def HuffFixedUptoSaid : Prop := huffFixedUptoRow.holds Try.pinned (OpenSpec.upto huffFixedSpec)

end Rows
end Go.Proofs.Ytndneidjnlammaa
