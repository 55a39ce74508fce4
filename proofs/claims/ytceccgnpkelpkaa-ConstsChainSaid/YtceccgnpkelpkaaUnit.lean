/- A unit's data. -/
import Derived.Test.YtceccgnpkelpkaaTypes
set_option linter.unusedVariables false
set_option linter.unusedSimpArgs false
namespace Go.Proofs.Ytceccgnpkelpkaa
open Go Go.Am Go.Proofs
/-- a constant -/
structure Def where
  name : ByteArray
  expr : Ex
def Def.row (x : Def) : List D := .sc (.string x.name) :: x.expr.row
/-- a unit -/
structure Un where
  defs : List Def
  pols : List Pol
  main : List ByteArray
  dflt : Act
def Un.cells (u : Un) : List Cell := [.d (.list (u.defs.map Def.row)), .d (.list (u.pols.map Pol.row)), .d (.list (u.main.map strow)), .d (.sc (.int .i64 u.dflt.kind)), .d (.sc (.int .i64 u.dflt.data))]
end Go.Proofs.Ytceccgnpkelpkaa
