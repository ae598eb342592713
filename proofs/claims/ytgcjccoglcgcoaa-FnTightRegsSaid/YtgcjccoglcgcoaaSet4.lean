/-
  A cell of four is written. No condition.
-/
import Derived.Test.YtgcjccoglcgcoaaBase
namespace Go.Proofs.Ytgcjccoglcgcoaa
open Go.RowKit Go.ChangeShapes Go.WideShapes Go.Deep
/-- the answer is laid into the cell of the result -/
def set4 (w : World) (b : Nat) (u0 u1 u2 u3 : Value) : World := (((w.setCell ⟨b, 0, none⟩ u0).setCell ⟨b, 1, none⟩ u1).setCell ⟨b, 2, none⟩ u2).setCell ⟨b, 3, none⟩ u3
theorem set4_block (w : World) (b : Nat) (u0 u1 u2 u3 : Value) (x : Nat) (h : x ≠ b) : (set4 w b u0 u1 u2 u3).heap[x]? = w.heap[x]? :=
  (Below.heap_setCell _ _ _ x h).trans ((Below.heap_setCell _ _ _ x h).trans ((Below.heap_setCell _ _ _ x h).trans (Below.heap_setCell _ _ _ x h)))
theorem set4_below (w : World) (b : Nat) (u0 u1 u2 u3 : Value) {B : Nat} (h : B ≤ b) : Below B w (set4 w b u0 u1 u2 u3) := ((((Below.refl _ _).setCell (p := ⟨b, 0, none⟩) h _).setCell (p := ⟨b, 1, none⟩) h _).setCell (p := ⟨b, 2, none⟩) h _).setCell (p := ⟨b, 3, none⟩) h _
end Go.Proofs.Ytgcjccoglcgcoaa
