/-
  Several texts in one: LawE.
-/
import Derived.Test.YthfinoapfbhgcaaDoorLaws
import Derived.Test.YthfinoapfbhgcaaDoorDrawA
import Derived.Lib.SlFresh
import Derived.Laws.OwnMore
namespace Go.Proofs.YthfinoapfbhgcaaDoor
open Go.RowKit Go.ChangeShapes Go.WideShapes Go.Deep
set_option linter.unusedVariables false
set_option linter.unusedSimpArgs false
/-- an expression answered, and true -/
def PutP (y : Ex) (w : World) (en : Ending) (w' : World) : Prop :=
  ∃ op n name kids A c, en = .returned (.tuple #[.agg #[.int .i64 op, .int .i64 n, .string name, .slice A kids.length c], .bool true]) ∧ y = .mk op n name kids ∧ I64 op ∧ I64 n ∧ name.size ≤ maxLen ∧ Sl false (exS false 12) w' w.heap.size w'.heap.size kids (.slice A kids.length c) ∧ Below w.heap.size w w'
theorem PairP.put {y : Ex} {x : Ex × Bool} (hx : x = (y, true)) {w : World} {en : Ending} {w' : World} (h : PairP 12 x w en w') : PutP y w en w' := by
  subst hx
  obtain ⟨v3, he, hr, hb⟩ := h
  obtain ⟨op, n, name, kids⟩ := y
  obtain ⟨A, c, hw, _, _⟩ := (exT_kids 12 (hr false)).form
  change v3 = Value.slice A kids.length c at hw
  subst hw
  obtain ⟨_, -, j0, j1, j2, j3⟩ := exT_open 12 (hr false)
  exact ⟨op, n, name, kids, A, c, he, rfl, j0, j1, j2, (exT_kids 12 (hr false)).exS, hb⟩
end Go.Proofs.YthfinoapfbhgcaaDoor

