/-
  An expression with another one in place of a variable, by the reference. Conditions: the arguments read as data and have the form of expressions.
-/
import Derived.Test.YtbikgakoeheahaaDoorCopy
import Derived.Deep.RegionHeld3
import Derived.Deep.AppendLies
import Derived.Laws.Pointers
namespace Go.Proofs.YtbikgakoeheahaaDoor
open Go.RowKit Go.ChangeShapes Go.WideShapes Go.Deep

set_option linter.unusedVariables false
set_option linter.unusedSimpArgs false
theorem ToTE.more {D D' : Nat} (h : D ≤ D') {a : Ex} {w : World} {e : Ending} {w' : World} : ToTE D a w e w' → ToTE D' a w e w'
  | ⟨v3, he, hx, hb⟩ => ⟨v3, he, fun m => exT_le m (by omega) (hx m), hb⟩
end Go.Proofs.YtbikgakoeheahaaDoor

