/-
  Copies of expressions, by the program and by the reference. Conditions: the argument reads as data and has the form of an expression.
-/
import Derived.Test.YtbikgakoeheahaaDoorMapped
namespace Go.Proofs.YtbikgakoeheahaaDoor
open Go.RowKit Go.ChangeShapes Go.WideShapes Go.Deep

set_option linter.unusedVariables false
set_option linter.unusedSimpArgs false
end Go.Proofs.YtbikgakoeheahaaDoor

