/- How cells look. -/
import Derived.Test.YtdjgmhbfohbenaaSmall
import Derived.StillTailTactics
namespace Go.Proofs.Ytdjgmhbfohbenaa
open Go.RowKit Pl
set_option linter.unusedVariables false
set_option linter.unusedSimpArgs false
/-- An attribute as a value. -/
def lookV (a : Look) : Value := .agg #[.int .i64 a.fg, .int .i64 a.bg, .int .i64 a.fl]
def cells3 (a : Look) : Array Value := #[.int .i64 a.fg, .int .i64 a.bg, .int .i64 a.fl]

end Go.Proofs.Ytdjgmhbfohbenaa
