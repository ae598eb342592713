/-
  An expression with another one in place of a variable: the program's closure. Conditions: the argument reads as data; the captured boxes hold what the program puts there.
-/
import Derived.Test.YtbikgakoeheahaaDoorPut
namespace Go.Proofs.YtbikgakoeheahaaDoor
open Go.RowKit Go.ChangeShapes Go.WideShapes Go.Deep

set_option linter.unusedVariables false
set_option linter.unusedSimpArgs false
end Go.Proofs.YtbikgakoeheahaaDoor

