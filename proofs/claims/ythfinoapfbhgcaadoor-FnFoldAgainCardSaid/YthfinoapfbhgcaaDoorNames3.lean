/-
  VarsOf and CallsIn, by the program and by the reference. Conditions: the argument reads as data; the tables lie.
-/
import Derived.Test.YthfinoapfbhgcaaDoorNames2
namespace Go.Proofs.YthfinoapfbhgcaaDoor
open Go.RowKit Go.ChangeShapes Go.WideShapes Go.Deep

set_option linter.unusedVariables false
set_option linter.unusedSimpArgs false
theorem valE_parts {e : Ex} (h : valE e = true) : partsE e ≤ 30 := by
  rw [valE_form, Bool.and_eq_true] at h
  exact of_decide_eq_true h.2
end Go.Proofs.YthfinoapfbhgcaaDoor

