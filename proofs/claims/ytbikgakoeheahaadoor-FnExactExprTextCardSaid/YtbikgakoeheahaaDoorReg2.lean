/-
  A region that draws its order: two operations are ready. No condition.
-/
import Derived.Test.YtbikgakoeheahaaDoorReg
namespace Go.Proofs.YtbikgakoeheahaaDoor
open Go.RowKit Go.ChangeShapes Go.WideShapes Go.Deep
end Go.Proofs.YtbikgakoeheahaaDoor
