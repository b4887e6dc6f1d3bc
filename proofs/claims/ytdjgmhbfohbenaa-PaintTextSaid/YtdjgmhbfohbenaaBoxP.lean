/- The parts of a glyph that are laid: what a closure that lays does. -/
import Derived.Test.YtdjgmhbfohbenaaSolD
import Derived.Test.YtdjgmhbfohbenaaGrow2
namespace Go.Proofs.Ytdjgmhbfohbenaa
open Go.RowKit Go.Sort Pl
set_option linter.unusedVariables false
set_option linter.unusedSimpArgs false
/-- The parts of a glyph, one behind the other; L lays one. -/
def boxS (L : Int → Int → Int → Int → Rgb → List Int → List Int) (r w h : Int) (a : Look) (P : List Int) : List Int :=
  let F := (colors a).1
  let B := (colors a).2
  let P1 := if 32 < r then (let P0 := L (w / 4) (h / 4) ((w + 1) / 2) ((h + 1) / 2) F P; if 2 < (w + 1) / 2 ∧ 2 < (h + 1) / 2 then L (w / 4 + r % ((w + 1) / 2)) (h / 4 + r / 256 % ((h + 1) / 2)) 1 1 B P0 else P0) else P
  let P2 := if hasB a.fl 8 = true then L 0 (h - 1) w 1 F P1 else P1
  if hasB a.fl 128 = true then L 0 (h / 2) w 1 F P2 else P2
def Sml (x : Int) : Prop := -65536 ≤ x ∧ x ≤ 65536
/-- A closure that lays a part: what it does to memory that holds P. -/
def Lays (N : Nat) (caps : Array Value) (S : Nat → Prop) (I : List Int → World → Prop) (L : Int → Int → Int → Int → Rgb → List Int → List Int) : Prop :=
  ∀ (x y bw bh : Int) (c : Rgb) (P : List Int) (w : World), Sml x → Sml y → Sml bw → Sml bh → I P w →
    Calls Try.prog N (#[.int .i64 x, .int .i64 y, .int .i64 bw, .int .i64 bh, rgbaV c] ++ caps) w fun e w' => e = .returned (.tuple #[]) ∧ I (L x y bw bh c P) w' ∧ Kept S w w'
/-- What holds of memory while the parts are laid. -/
structure BoxI (S : Nat → Prop) (I : List Int → World → Prop) (wd : World) (fg bg fl : Int) (q4 q5 : Nat) (F B : Rgb) (P : List Int) (wr : World) : Prop where
  i : I P wr
  k : Kept S wd wr
  a : wr.heap[wd.heap.size]? = some (.cells #[.int .i64 fg, .int .i64 bg, .int .i64 fl] 54 (0, 0))
  f : wr.heap[q4]? = some (.cells #[.int .u8 F.r, .int .u8 F.g, .int .u8 F.b, .int .u8 255] 66 (0, 0))
  b : wr.heap[q5]? = some (.cells #[.int .u8 B.r, .int .u8 B.g, .int .u8 B.b, .int .u8 255] 66 (0, 0))
  z : wd.heap.size ≤ q4 ∧ wd.heap.size ≤ q5
theorem BoxI.lay {S : Nat → Prop} {I : List Int → World → Prop} {wd : World} {fg bg fl : Int} {q4 q5 : Nat} {F B : Rgb} {P P' : List Int} {wr w2 : World} (h : BoxI S I wd fg bg fl q4 q5 F B P wr) (hS : ∀ i, S i → i < wd.heap.size) (hi : I P' w2) (hk : Kept S wr w2) : BoxI S I wd fg bg fl q4 q5 F B P' w2 :=
  ⟨hi, h.k.then hk, hk.blk h.a (fun hs => Nat.lt_irrefl _ (hS _ hs)), hk.blk h.f (fun hs => absurd (hS _ hs) (Nat.not_lt.2 h.z.1)), hk.blk h.b (fun hs => absurd (hS _ hs) (Nat.not_lt.2 h.z.2)), h.z⟩
theorem BoxI.kept {S : Nat → Prop} {I : List Int → World → Prop} {wd : World} {fg bg fl : Int} {q4 q5 : Nat} {F B : Rgb} {P : List Int} {wr w2 : World} (h : BoxI S I wd fg bg fl q4 q5 F B P wr) (hIk : ∀ P w w', I P w → Kept (fun _ => False) w w' → I P w') (hk : Kept (fun _ => False) wr w2) : BoxI S I wd fg bg fl q4 q5 F B P w2 :=
  ⟨hIk _ _ _ h.i hk, h.k.then (hk.mono fun _ _ h => h.elim), hk.blk h.a id, hk.blk h.f id, hk.blk h.b id, h.z⟩
end Go.Proofs.Ytdjgmhbfohbenaa
