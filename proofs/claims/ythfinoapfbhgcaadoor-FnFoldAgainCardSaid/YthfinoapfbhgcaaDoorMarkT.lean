/-
  The text of a mark. Condition: the mark is no great number.
-/
import Derived.Test.YthfinoapfbhgcaaDoorName
import Derived.Laws.BytesArg
namespace Go.Proofs.YthfinoapfbhgcaaDoor
open Go.RowKit Go.ChangeShapes Go.WideShapes Go.Deep
set_option linter.unusedSimpArgs false
set_option linter.unusedVariables false
end Go.Proofs.YthfinoapfbhgcaaDoor

