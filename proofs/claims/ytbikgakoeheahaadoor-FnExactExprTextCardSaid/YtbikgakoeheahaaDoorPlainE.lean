/-
  Plain laws of expressions: their names, their parts, and what is put into them. No condition.
-/
import Derived.Test.YtbikgakoeheahaaDoorNames3
import Derived.Test.YtbikgakoeheahaaDoorPutVarC
namespace Go.Proofs.YtbikgakoeheahaaDoor
open Go.RowKit Go.ChangeShapes Go.WideShapes Go.Deep
set_option linter.unusedVariables false
set_option linter.unusedSimpArgs false
end Go.Proofs.YtbikgakoeheahaaDoor
