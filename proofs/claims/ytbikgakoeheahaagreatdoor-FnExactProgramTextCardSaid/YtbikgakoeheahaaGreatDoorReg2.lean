/-
  A region that draws its order: two operations are ready. No condition.
-/
import Derived.Test.YtbikgakoeheahaaGreatDoorReg
namespace Go.Proofs.YtbikgakoeheahaaGreatDoor
open Go.RowKit Go.ChangeShapes Go.WideShapes Go.Deep
end Go.Proofs.YtbikgakoeheahaaGreatDoor
