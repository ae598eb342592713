/-
  A list of numbers in memory of its own is marked, number by number, and asked for its marks. Conditions: it may be written.
-/
import Derived.Test.YtafembiemaflfaaMark
import Derived.Test.YtafembiemaflfaaEq
namespace Go.Proofs.Ytafembiemaflfaa
open Go.RowKit Go.ChangeShapes Go.WideShapes Go.Deep

theorem Row.soft {w w' : World} {lo B g : Nat} {t : TypeId} {cs : Array Value} (h : Row w g t cs) (hs : Soft lo B w w') (hd : g < lo ∨ B ≤ g) : Row w' g t cs := (hs.out g hd).trans h
theorem Soft.of_alloc {lo B : Nat} {w w' : World} {o : Obj} (h : Soft lo B (w.alloc o) w') : w.heap.size ≤ w'.heap.size := by
  have := h.size
  simp at this
  omega
/-- it answers a value, and what was there is as it was -/
def RetV (v : Value) (w : World) (e : Ending) (w' : World) : Prop := e = .returned v ∧ Below w.heap.size w w'
theorem RetV.mk {v u : Value} {w : World} {e : Ending} {w' : World} (h : u = v) (he : e = .returned u) (hb : Below w.heap.size w w') : RetV v w e w' := ⟨by rw [← h]; exact he, hb⟩

/-- the marks from k on -/
def marksL (k : Int) (n : Nat) : List Int := (List.range n).map fun (i : Nat) => k + (i : Int)
theorem marksL_length (k : Int) (n : Nat) : (marksL k n).length = n := by simp [marksL]
theorem marksL_get {k : Int} {n i : Nat} (h : i < (marksL k n).length) : (marksL k n)[i] = k + i := by simp [marksL]

end Go.Proofs.Ytafembiemaflfaa
