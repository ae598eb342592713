/-
  VarsOf and CallsIn, by the program and by the reference. Conditions: the argument reads as data; the tables lie.
-/
import Derived.Test.YtbikgakoeheahaaDoorNames2
namespace Go.Proofs.YtbikgakoeheahaaDoor
open Go.RowKit Go.ChangeShapes Go.WideShapes Go.Deep

set_option linter.unusedVariables false
set_option linter.unusedSimpArgs false
end Go.Proofs.YtbikgakoeheahaaDoor

