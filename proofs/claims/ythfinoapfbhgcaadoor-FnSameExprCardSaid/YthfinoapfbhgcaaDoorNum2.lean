/-
  Numbers of words, by the reference. Condition: the text reads as data.
-/
import Derived.Test.YthfinoapfbhgcaaDoorNum
import Derived.Lib.IndexBytes
namespace Go.Proofs.YthfinoapfbhgcaaDoor
open Go.RowKit Go.ChangeShapes Go.WideShapes Go.Deep

set_option linter.unusedSimpArgs false
set_option linter.unusedVariables false
end Go.Proofs.YthfinoapfbhgcaaDoor

