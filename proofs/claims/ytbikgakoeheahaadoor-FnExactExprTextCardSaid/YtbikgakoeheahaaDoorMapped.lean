/-
  mapped: what a function makes of each element of a list. Conditions: the list reads as data; the function answers in new memory.
-/
import Derived.Test.YtbikgakoeheahaaDoorTree
namespace Go.Proofs.YtbikgakoeheahaaDoor
open Go.RowKit Go.ChangeShapes Go.WideShapes Go.Deep
set_option linter.unusedSimpArgs false
set_option linter.unusedVariables false
def ToTE (D : Nat) (a : Ex) (w : World) (e : Ending) (w' : World) : Prop :=
  ∃ v3 : Value, e = .returned (.agg #[.int .i64 a.op, .int .i64 a.n, .string a.name, v3]) ∧ (∀ m, (exT m (D + 1)).rep w' w.heap.size w'.heap.size a [.int .i64 a.op, .int .i64 a.n, .string a.name, v3]) ∧ Below w.heap.size w w'
theorem cells_row_new (w : World) (cs : List Value) (t : TypeId) : ∀ j u, cs[j]? = some u → (w.alloc (.cells cs.toArray t)).cell? ((⟨w.heap.size, 0, none⟩ : Addr).add j) = some u := by
  intro j u hj
  have h := (Row.new w t cs.toArray).cell j
  simp only [List.getElem?_toArray, hj] at h
  have e : (⟨w.heap.size, 0, none⟩ : Addr).add j = ⟨w.heap.size, j, none⟩ := by
    simp [Addr.add]
    intro h0
    exact h0.symm
  rw [e]
  exact h
end Go.Proofs.YtbikgakoeheahaaDoor
