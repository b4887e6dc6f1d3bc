/-
  NARROWER THAN 'FOR EVERY INPUT', by the rows' own cells (each row's printed sentence says how): PaintScenes: maps · PaintCursor: maps.
  DERIVED. THE GIVEN ROWS OF THIS SEAT. 6 by the template 'for every input the law returns true; each argument reads behind the call as it read before'; 0 by the template 'total and deterministic' (their statements: YtdjgmhbfohbenaaTotals.lean).
  GIVEN WITH THE SEED: the statements are not yours to turn. If you find one false, say at which input.
  Laid BY PROGRAM, IN A SANDBOX (cutbox-rows.mjs): the forced cells as the released guide's own fill.sh prints them over the translation f2d2ef76ac72e8fb… (all of the seat's roots in one cut). By AI agents, Wed Nov 11 2026. No macro, syntax, notation, axiom, sorry.
-/
import Derived.Test.YtdjgmhbfohbenaaChecked
import GoSem.Claim
import GoSem.ClaimJoined
import GoSem.ClaimMapViews
import Derived.JoinedTies
import Derived.KernelRfl
namespace Go.Proofs.Ytdjgmhbfohbenaa
/- THE CELL 'sum', in the pinned program and in every row, IS THE sha256 OF THE DUMP (.gsa) THAT YtdjgmhbfohbenaaProg.lean LOADS. Nothing in Lean hashes anything: it is a label: what it is worth is what the hold of that sum in a sandbox is worth. -/
noncomputable def Try.pinned : Pinned := { name := "ytdjgmhbfohbenaa", sum := "f2d2ef76ac72e8fb658647fcc687837d8ed7e208f6befbd6cf209e60d0dbe108", checked := Try.checked }
namespace Rows
def none {H : Type} : Left H := { results := [], args := [] }

/-- 'phosphorlaw24.PaintScenes': WHATEVER THE INPUT: true; the input reads as it did. -/
def paintScenesSpec : ChangeSpec := { name := "paintScenes", fn := fun _ => fun
  | [d] => { results := [.lit (.bool true)], args := [d] }
  | _ => none }
def paintScenesRow : OpenClaim := { program := "ytdjgmhbfohbenaa", sum := "f2d2ef76ac72e8fb658647fcc687837d8ed7e208f6befbd6cf209e60d0dbe108", func := "phosphor/phosphorlaw24.PaintScenes", spec := "paintScenes", unfollowed := true, recurses := true, maps := true, apart := false }
def PaintScenesSaid : Prop := paintScenesRow.holds Try.pinned (OpenSpec.ofChange paintScenesSpec)

/-- ITS FALSE NEIGHBOUR: 'it returns false'. Refute it at one input. -/
def paintScenesWrong : ChangeSpec := { name := "paintScenes", fn := fun _ => fun
  | [d] => { results := [.lit (.bool false)], args := [d] }
  | _ => none }
def PaintScenesWrongFalsely : Prop := paintScenesRow.holds Try.pinned (OpenSpec.ofChange paintScenesWrong)

/-- 'phosphorlaw24.PaintGlyphs': WHATEVER THE INPUT: true; the input reads as it did. -/
def paintGlyphsSpec : ChangeSpec := { name := "paintGlyphs", fn := fun _ => fun
  | [d1, d2, d3, d4] => { results := [.lit (.bool true)], args := [d1, d2, d3, d4] }
  | _ => none }
def paintGlyphsRow : OpenClaim := { program := "ytdjgmhbfohbenaa", sum := "f2d2ef76ac72e8fb658647fcc687837d8ed7e208f6befbd6cf209e60d0dbe108", func := "phosphor/phosphorlaw24.PaintGlyphs", spec := "paintGlyphs", unfollowed := true, recurses := true, apart := false }
def PaintGlyphsSaid : Prop := paintGlyphsRow.holds Try.pinned (OpenSpec.ofChange paintGlyphsSpec)

/-- ITS FALSE NEIGHBOUR: 'it returns false'. Refute it at one input. -/
def paintGlyphsWrong : ChangeSpec := { name := "paintGlyphs", fn := fun _ => fun
  | [d1, d2, d3, d4] => { results := [.lit (.bool false)], args := [d1, d2, d3, d4] }
  | _ => none }
def PaintGlyphsWrongFalsely : Prop := paintGlyphsRow.holds Try.pinned (OpenSpec.ofChange paintGlyphsWrong)

/-- 'phosphorlaw24.PaintLayers': WHATEVER THE INPUT: true; the input reads as it did. -/
def paintLayersSpec : ChangeSpec := { name := "paintLayers", fn := fun _ => fun
  | [d1, d2, d3] => { results := [.lit (.bool true)], args := [d1, d2, d3] }
  | _ => none }
def paintLayersRow : OpenClaim := { program := "ytdjgmhbfohbenaa", sum := "f2d2ef76ac72e8fb658647fcc687837d8ed7e208f6befbd6cf209e60d0dbe108", func := "phosphor/phosphorlaw24.PaintLayers", spec := "paintLayers", unfollowed := true, recurses := true, apart := false }
def PaintLayersSaid : Prop := paintLayersRow.holds Try.pinned (OpenSpec.ofChange paintLayersSpec)

/-- ITS FALSE NEIGHBOUR: 'it returns false'. Refute it at one input. -/
def paintLayersWrong : ChangeSpec := { name := "paintLayers", fn := fun _ => fun
  | [d1, d2, d3] => { results := [.lit (.bool false)], args := [d1, d2, d3] }
  | _ => none }
def PaintLayersWrongFalsely : Prop := paintLayersRow.holds Try.pinned (OpenSpec.ofChange paintLayersWrong)

/-- 'phosphorlaw24.PaintCursor': WHATEVER THE INPUT: true; the input reads as it did. -/
def paintCursorSpec : ChangeSpec := { name := "paintCursor", fn := fun _ => fun
  | [d] => { results := [.lit (.bool true)], args := [d] }
  | _ => none }
def paintCursorRow : OpenClaim := { program := "ytdjgmhbfohbenaa", sum := "f2d2ef76ac72e8fb658647fcc687837d8ed7e208f6befbd6cf209e60d0dbe108", func := "phosphor/phosphorlaw24.PaintCursor", spec := "paintCursor", unfollowed := true, recurses := true, maps := true, apart := false }
def PaintCursorSaid : Prop := paintCursorRow.holds Try.pinned (OpenSpec.ofChange paintCursorSpec)

/-- ITS FALSE NEIGHBOUR: 'it returns false'. Refute it at one input. -/
def paintCursorWrong : ChangeSpec := { name := "paintCursor", fn := fun _ => fun
  | [d] => { results := [.lit (.bool false)], args := [d] }
  | _ => none }
def PaintCursorWrongFalsely : Prop := paintCursorRow.holds Try.pinned (OpenSpec.ofChange paintCursorWrong)

/-- 'phosphorlaw24.PaintImages': WHATEVER THE INPUT: true; the input reads as it did. -/
def paintImagesSpec : ChangeSpec := { name := "paintImages", fn := fun _ => fun
  | [d1, d2, d3, d4, d5, d6, d7, d8, d9] => { results := [.lit (.bool true)], args := [d1, d2, d3, d4, d5, d6, d7, d8, d9] }
  | _ => none }
def paintImagesRow : OpenClaim := { program := "ytdjgmhbfohbenaa", sum := "f2d2ef76ac72e8fb658647fcc687837d8ed7e208f6befbd6cf209e60d0dbe108", func := "phosphor/phosphorlaw24.PaintImages", spec := "paintImages", unfollowed := true, recurses := true, apart := false }
def PaintImagesSaid : Prop := paintImagesRow.holds Try.pinned (OpenSpec.ofChange paintImagesSpec)

/-- ITS FALSE NEIGHBOUR: 'it returns false'. Refute it at one input. -/
def paintImagesWrong : ChangeSpec := { name := "paintImages", fn := fun _ => fun
  | [d1, d2, d3, d4, d5, d6, d7, d8, d9] => { results := [.lit (.bool false)], args := [d1, d2, d3, d4, d5, d6, d7, d8, d9] }
  | _ => none }
def PaintImagesWrongFalsely : Prop := paintImagesRow.holds Try.pinned (OpenSpec.ofChange paintImagesWrong)

/-- 'phosphorlaw24.PaintText': WHATEVER THE INPUT: true; the input reads as it did. -/
def paintTextSpec : ChangeSpec := { name := "paintText", fn := fun _ => fun
  | [d1, d2, d3, d4, d5, d6] => { results := [.lit (.bool true)], args := [d1, d2, d3, d4, d5, d6] }
  | _ => none }
def paintTextRow : OpenClaim := { program := "ytdjgmhbfohbenaa", sum := "f2d2ef76ac72e8fb658647fcc687837d8ed7e208f6befbd6cf209e60d0dbe108", func := "phosphor/phosphorlaw24.PaintText", spec := "paintText", unfollowed := true, recurses := true, apart := false }
def PaintTextSaid : Prop := paintTextRow.holds Try.pinned (OpenSpec.ofChange paintTextSpec)

/-- ITS FALSE NEIGHBOUR: 'it returns false'. Refute it at one input. -/
def paintTextWrong : ChangeSpec := { name := "paintText", fn := fun _ => fun
  | [d1, d2, d3, d4, d5, d6] => { results := [.lit (.bool false)], args := [d1, d2, d3, d4, d5, d6] }
  | _ => none }
def PaintTextWrongFalsely : Prop := paintTextRow.holds Try.pinned (OpenSpec.ofChange paintTextWrong)

/- THE SECOND FORM. 'bulk': how many values and letters a reading holds, each counted each time it is reached (what is shared counts as often as it is met; a slice's spare places count too). A statement '..UptoSaid' is the law's where the arguments, and the package variables that the reading takes, are together of bulk at most 1048576: NARROWER than '..Said'. Prove '..Said' where nothing that the law and all that it calls make is longer than what came in: it says more and counts as full. Else prove '..UptoSaid'. A law counts once. -/
mutual
def uptoBulk {H : Type} : DataW H → Nat
  | .lit (.string bytes) => bytes.length + 1
  | .lit _ => 1
  | .nil => 1
  | .ptr d => uptoBulk d + 1
  | .slice elems spare => uptoBulkAll elems + uptoBulkAll spare + 1
  | .agg parts => uptoBulkAll parts + 1
  | .iface _ d => uptoBulk d + 1
  | .map entries => uptoBulkEntries entries + 1
  | .held _ => 1
def uptoBulkAll {H : Type} : List (DataW H) → Nat
  | [] => 0
  | d :: r => uptoBulk d + uptoBulkAll r
def uptoBulkEntries {H : Type} : List (Lit × DataW H) → Nat
  | [] => 0
  | x :: r => uptoBulkEntry x + uptoBulkEntries r
def uptoBulkEntry {H : Type} : Lit × DataW H → Nat
  | (.string bytes, d) => bytes.length + uptoBulk d + 1
  | (_, d) => uptoBulk d + 1
 end
def uptoSmall : (H : Type) → List (DataW H) → Bool := fun _ ds => decide (uptoBulkAll ds ≤ 1048576)
def OpenSpec.upto (s : _root_.Go.ChangeSpec) : _root_.Go.OpenSpec := { _root_.Go.OpenSpec.ofChange s with cond := some uptoSmall }

/-- 'phosphorlaw24.PaintScenes', WHERE WHAT IT READS IS OF BULK AT MOST 1048576: true; the input reads as it did. -/
def paintScenesUptoRow : OpenClaim := { program := "ytdjgmhbfohbenaa", sum := "f2d2ef76ac72e8fb658647fcc687837d8ed7e208f6befbd6cf209e60d0dbe108", func := "phosphor/phosphorlaw24.PaintScenes", spec := "paintScenes", unfollowed := true, recurses := true, maps := true, apart := false, narrowed := true }
def PaintScenesUptoSaid : Prop := paintScenesUptoRow.holds Try.pinned (OpenSpec.upto paintScenesSpec)

/-- 'phosphorlaw24.PaintGlyphs', WHERE WHAT IT READS IS OF BULK AT MOST 1048576: true; the input reads as it did. -/
def paintGlyphsUptoRow : OpenClaim := { program := "ytdjgmhbfohbenaa", sum := "f2d2ef76ac72e8fb658647fcc687837d8ed7e208f6befbd6cf209e60d0dbe108", func := "phosphor/phosphorlaw24.PaintGlyphs", spec := "paintGlyphs", unfollowed := true, recurses := true, apart := false, narrowed := true }
def PaintGlyphsUptoSaid : Prop := paintGlyphsUptoRow.holds Try.pinned (OpenSpec.upto paintGlyphsSpec)

/-- 'phosphorlaw24.PaintLayers', WHERE WHAT IT READS IS OF BULK AT MOST 1048576: true; the input reads as it did. -/
def paintLayersUptoRow : OpenClaim := { program := "ytdjgmhbfohbenaa", sum := "f2d2ef76ac72e8fb658647fcc687837d8ed7e208f6befbd6cf209e60d0dbe108", func := "phosphor/phosphorlaw24.PaintLayers", spec := "paintLayers", unfollowed := true, recurses := true, apart := false, narrowed := true }
def PaintLayersUptoSaid : Prop := paintLayersUptoRow.holds Try.pinned (OpenSpec.upto paintLayersSpec)

/-- 'phosphorlaw24.PaintCursor', WHERE WHAT IT READS IS OF BULK AT MOST 1048576: true; the input reads as it did. -/
def paintCursorUptoRow : OpenClaim := { program := "ytdjgmhbfohbenaa", sum := "f2d2ef76ac72e8fb658647fcc687837d8ed7e208f6befbd6cf209e60d0dbe108", func := "phosphor/phosphorlaw24.PaintCursor", spec := "paintCursor", unfollowed := true, recurses := true, maps := true, apart := false, narrowed := true }
def PaintCursorUptoSaid : Prop := paintCursorUptoRow.holds Try.pinned (OpenSpec.upto paintCursorSpec)

/-- 'phosphorlaw24.PaintImages', WHERE WHAT IT READS IS OF BULK AT MOST 1048576: true; the input reads as it did. -/
def paintImagesUptoRow : OpenClaim := { program := "ytdjgmhbfohbenaa", sum := "f2d2ef76ac72e8fb658647fcc687837d8ed7e208f6befbd6cf209e60d0dbe108", func := "phosphor/phosphorlaw24.PaintImages", spec := "paintImages", unfollowed := true, recurses := true, apart := false, narrowed := true }
def PaintImagesUptoSaid : Prop := paintImagesUptoRow.holds Try.pinned (OpenSpec.upto paintImagesSpec)

/-- 'phosphorlaw24.PaintText', WHERE WHAT IT READS IS OF BULK AT MOST 1048576: true; the input reads as it did. -/
def paintTextUptoRow : OpenClaim := { program := "ytdjgmhbfohbenaa", sum := "f2d2ef76ac72e8fb658647fcc687837d8ed7e208f6befbd6cf209e60d0dbe108", func := "phosphor/phosphorlaw24.PaintText", spec := "paintText", unfollowed := true, recurses := true, apart := false, narrowed := true }
def PaintTextUptoSaid : Prop := paintTextUptoRow.holds Try.pinned (OpenSpec.upto paintTextSpec)

end Rows
end Go.Proofs.Ytdjgmhbfohbenaa
