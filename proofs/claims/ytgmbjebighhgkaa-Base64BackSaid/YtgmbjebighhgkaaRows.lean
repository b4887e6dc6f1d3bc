/-
  No cell of these rows narrows 'for every input' (looked for: loops, veiled, ifaces, maps, wideKeys, modest, calm, conditions, laid).
  DERIVED. THE GIVEN ROWS OF THIS SEAT. 4 by the template 'for every input the law returns true; each argument reads behind the call as it read before'; 0 by the template 'total and deterministic' (their statements: YtgmbjebighhgkaaTotals.lean).
  GIVEN WITH THE SEED: the statements are not yours to turn. If you find one false, say at which input.
  Laid BY PROGRAM, IN A SANDBOX (cutbox-rows.mjs): the forced cells as the released guide's own fill.sh prints them over the translation 39a47e12260dab17… (all of the seat's roots in one cut). By AI agents, Wed Nov 11 2026. No macro, syntax, notation, axiom, sorry.
-/
import Derived.Test.YtgmbjebighhgkaaChecked
import GoSem.Claim
import GoSem.ClaimJoined
import GoSem.ClaimMapViews
import Derived.JoinedTies
import Derived.KernelRfl
namespace Go.Proofs.Ytgmbjebighhgkaa
/- THE CELL 'sum', in the pinned program and in every row, IS THE sha256 OF THE DUMP (.gsa) THAT YtgmbjebighhgkaaProg.lean LOADS. Nothing in Lean hashes anything: it is a label: what it is worth is what the hold of that sum in a sandbox is worth. -/
noncomputable def Try.pinned : Pinned := { name := "ytgmbjebighhgkaa", sum := "39a47e12260dab170f94a188bd6ef11a13dd58cc14d2131339bfd80cf19a3253", checked := Try.checked }
namespace Rows
def none {H : Type} : Left H := { results := [], args := [] }

/-- 'phosphorlaw3.Base64Pieces': WHATEVER THE INPUT: true; the input reads as it did. -/
def base64PiecesSpec : ChangeSpec := { name := "base64Pieces", fn := fun _ => fun
  | [d] => { results := [.lit (.bool true)], args := [d] }
  | _ => none }
def base64PiecesRow : OpenClaim := { program := "ytgmbjebighhgkaa", sum := "39a47e12260dab170f94a188bd6ef11a13dd58cc14d2131339bfd80cf19a3253", func := "phosphor/phosphorlaw3.Base64Pieces", spec := "base64Pieces", inPlace := ["internal/bytealg.IndexByteString"], unfollowed := true, recurses := true, apart := false }
def Base64PiecesSaid : Prop := base64PiecesRow.holds Try.pinned (OpenSpec.ofChange base64PiecesSpec)

/-- ITS FALSE NEIGHBOUR: 'it returns false'. Refute it at one input. -/
def base64PiecesWrong : ChangeSpec := { name := "base64Pieces", fn := fun _ => fun
  | [d] => { results := [.lit (.bool false)], args := [d] }
  | _ => none }
def Base64PiecesWrongFalsely : Prop := base64PiecesRow.holds Try.pinned (OpenSpec.ofChange base64PiecesWrong)

/-- 'phosphorlaw3.Base64Back': WHATEVER THE INPUT: true; the input reads as it did. -/
def base64BackSpec : ChangeSpec := { name := "base64Back", fn := fun _ => fun
  | [d1, d2, d3] => { results := [.lit (.bool true)], args := [d1, d2, d3] }
  | _ => none }
def base64BackRow : OpenClaim := { program := "ytgmbjebighhgkaa", sum := "39a47e12260dab170f94a188bd6ef11a13dd58cc14d2131339bfd80cf19a3253", func := "phosphor/phosphorlaw3.Base64Back", spec := "base64Back", inPlace := ["internal/bytealg.IndexByteString"], unfollowed := true, recurses := true, apart := false }
def Base64BackSaid : Prop := base64BackRow.holds Try.pinned (OpenSpec.ofChange base64BackSpec)

/-- ITS FALSE NEIGHBOUR: 'it returns false'. Refute it at one input. -/
def base64BackWrong : ChangeSpec := { name := "base64Back", fn := fun _ => fun
  | [d1, d2, d3] => { results := [.lit (.bool false)], args := [d1, d2, d3] }
  | _ => none }
def Base64BackWrongFalsely : Prop := base64BackRow.holds Try.pinned (OpenSpec.ofChange base64BackWrong)

/-- 'phosphorlaw3.Base64Errors': WHATEVER THE INPUT: true; the input reads as it did. -/
def base64ErrorsSpec : ChangeSpec := { name := "base64Errors", fn := fun _ => fun
  | [d1, d2, d3] => { results := [.lit (.bool true)], args := [d1, d2, d3] }
  | _ => none }
def base64ErrorsRow : OpenClaim := { program := "ytgmbjebighhgkaa", sum := "39a47e12260dab170f94a188bd6ef11a13dd58cc14d2131339bfd80cf19a3253", func := "phosphor/phosphorlaw3.Base64Errors", spec := "base64Errors", inPlace := ["internal/bytealg.IndexByteString"], unfollowed := true, recurses := true, apart := false }
def Base64ErrorsSaid : Prop := base64ErrorsRow.holds Try.pinned (OpenSpec.ofChange base64ErrorsSpec)

/-- ITS FALSE NEIGHBOUR: 'it returns false'. Refute it at one input. -/
def base64ErrorsWrong : ChangeSpec := { name := "base64Errors", fn := fun _ => fun
  | [d1, d2, d3] => { results := [.lit (.bool false)], args := [d1, d2, d3] }
  | _ => none }
def Base64ErrorsWrongFalsely : Prop := base64ErrorsRow.holds Try.pinned (OpenSpec.ofChange base64ErrorsWrong)

/-- 'phosphorlaw3.Base64Texts': WHATEVER THE INPUT: true; the input reads as it did. -/
def base64TextsSpec : ChangeSpec := { name := "base64Texts", fn := fun _ => fun
  | [d1, d2] => { results := [.lit (.bool true)], args := [d1, d2] }
  | _ => none }
def base64TextsRow : OpenClaim := { program := "ytgmbjebighhgkaa", sum := "39a47e12260dab170f94a188bd6ef11a13dd58cc14d2131339bfd80cf19a3253", func := "phosphor/phosphorlaw3.Base64Texts", spec := "base64Texts", inPlace := ["internal/bytealg.IndexByteString"], unfollowed := true, recurses := true, apart := false }
def Base64TextsSaid : Prop := base64TextsRow.holds Try.pinned (OpenSpec.ofChange base64TextsSpec)

/-- ITS FALSE NEIGHBOUR: 'it returns false'. Refute it at one input. -/
def base64TextsWrong : ChangeSpec := { name := "base64Texts", fn := fun _ => fun
  | [d1, d2] => { results := [.lit (.bool false)], args := [d1, d2] }
  | _ => none }
def Base64TextsWrongFalsely : Prop := base64TextsRow.holds Try.pinned (OpenSpec.ofChange base64TextsWrong)

/- THE SECOND FORM. 'bulk': how many values and letters a reading holds, each counted each time it is reached (what is shared counts as often as it is met; a slice's spare places count too). A statement '..UptoSaid' is the law's where the arguments, and the package variables that the reading takes, are together of bulk at most 1048576: NARROWER than '..Said'. Prove '..Said' where nothing that the law and all that it calls make is longer than what came in: it says more and counts as full. Else prove '..UptoSaid'. A law counts once. -/
mutual
def uptoBulk {H : Type} : DataW H → Nat
  | .lit (.string bytes) => bytes.length + 1
  | .lit _ => 1
  | .nil => 1
  | .ptr d => uptoBulk d + 1
  | .slice elems spare => uptoBulkAll elems + uptoBulkAll spare + 1
  | .agg parts => uptoBulkAll parts + 1
  | .iface _ d => uptoBulk d + 1
  | .map entries => uptoBulkEntries entries + 1
  | .held _ => 1
def uptoBulkAll {H : Type} : List (DataW H) → Nat
  | [] => 0
  | d :: r => uptoBulk d + uptoBulkAll r
def uptoBulkEntries {H : Type} : List (Lit × DataW H) → Nat
  | [] => 0
  | x :: r => uptoBulkEntry x + uptoBulkEntries r
def uptoBulkEntry {H : Type} : Lit × DataW H → Nat
  | (.string bytes, d) => bytes.length + uptoBulk d + 1
  | (_, d) => uptoBulk d + 1
 end
def uptoSmall : (H : Type) → List (DataW H) → Bool := fun _ ds => decide (uptoBulkAll ds ≤ 1048576)
def OpenSpec.upto (s : _root_.Go.ChangeSpec) : _root_.Go.OpenSpec := { _root_.Go.OpenSpec.ofChange s with cond := some uptoSmall }

/-- 'phosphorlaw3.Base64Pieces', WHERE WHAT IT READS IS OF BULK AT MOST 1048576: true; the input reads as it did. -/
def base64PiecesUptoRow : OpenClaim := { program := "ytgmbjebighhgkaa", sum := "39a47e12260dab170f94a188bd6ef11a13dd58cc14d2131339bfd80cf19a3253", func := "phosphor/phosphorlaw3.Base64Pieces", spec := "base64Pieces", inPlace := ["internal/bytealg.IndexByteString"], unfollowed := true, recurses := true, apart := false, narrowed := true }
def Base64PiecesUptoSaid : Prop := base64PiecesUptoRow.holds Try.pinned (OpenSpec.upto base64PiecesSpec)

/-- 'phosphorlaw3.Base64Back', WHERE WHAT IT READS IS OF BULK AT MOST 1048576: true; the input reads as it did. -/
def base64BackUptoRow : OpenClaim := { program := "ytgmbjebighhgkaa", sum := "39a47e12260dab170f94a188bd6ef11a13dd58cc14d2131339bfd80cf19a3253", func := "phosphor/phosphorlaw3.Base64Back", spec := "base64Back", inPlace := ["internal/bytealg.IndexByteString"], unfollowed := true, recurses := true, apart := false, narrowed := true }
def Base64BackUptoSaid : Prop := base64BackUptoRow.holds Try.pinned (OpenSpec.upto base64BackSpec)

/-- 'phosphorlaw3.Base64Errors', WHERE WHAT IT READS IS OF BULK AT MOST 1048576: true; the input reads as it did. -/
def base64ErrorsUptoRow : OpenClaim := { program := "ytgmbjebighhgkaa", sum := "39a47e12260dab170f94a188bd6ef11a13dd58cc14d2131339bfd80cf19a3253", func := "phosphor/phosphorlaw3.Base64Errors", spec := "base64Errors", inPlace := ["internal/bytealg.IndexByteString"], unfollowed := true, recurses := true, apart := false, narrowed := true }
def Base64ErrorsUptoSaid : Prop := base64ErrorsUptoRow.holds Try.pinned (OpenSpec.upto base64ErrorsSpec)

/-- 'phosphorlaw3.Base64Texts', WHERE WHAT IT READS IS OF BULK AT MOST 1048576: true; the input reads as it did. -/
def base64TextsUptoRow : OpenClaim := { program := "ytgmbjebighhgkaa", sum := "39a47e12260dab170f94a188bd6ef11a13dd58cc14d2131339bfd80cf19a3253", func := "phosphor/phosphorlaw3.Base64Texts", spec := "base64Texts", inPlace := ["internal/bytealg.IndexByteString"], unfollowed := true, recurses := true, apart := false, narrowed := true }
def Base64TextsUptoSaid : Prop := base64TextsUptoRow.holds Try.pinned (OpenSpec.upto base64TextsSpec)

end Rows
end Go.Proofs.Ytgmbjebighhgkaa
