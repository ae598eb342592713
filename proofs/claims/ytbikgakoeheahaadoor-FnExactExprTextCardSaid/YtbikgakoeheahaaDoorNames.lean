/-
  The names of an expression's parts, by the reference. Conditions: the argument reads as data.
-/
import Derived.Test.YtbikgakoeheahaaDoorOwnG
namespace Go.Proofs.YtbikgakoeheahaaDoor
open Go.RowKit Go.ChangeShapes Go.WideShapes Go.Deep
set_option linter.unusedSimpArgs false
set_option linter.unusedVariables false
end Go.Proofs.YtbikgakoeheahaaDoor
