/-
  The names of an expression's parts: the program's closure, and the walk over the parts. Conditions: the argument reads as data; the captured boxes hold the op and the list.
-/
import Derived.Test.YtbikgakoeheahaaDoorNames
namespace Go.Proofs.YtbikgakoeheahaaDoor
open Go.RowKit Go.ChangeShapes Go.WideShapes Go.Deep
set_option linter.unusedSimpArgs false
set_option linter.unusedVariables false
/-- of the old blocks only g and v's own may have changed; and v' lies there or in new memory -/
structure OwnB (g : Nat) (v v' : Value) (w w' : World) : Prop where
  os : w'.os = w.os
  tape : w'.tape = w.tape
  output : w'.output = w.output
  size : w.heap.size ≤ w'.heap.size
  block : ∀ k, k < w.heap.size → k ≠ g → v.ownBlock ≠ some k → w'.heap[k]? = w.heap[k]?
  at_ : ∀ k, v'.ownBlock = some k → v.ownBlock = some k ∨ w.heap.size ≤ k
theorem OwnB.refl (g : Nat) (v : Value) (w : World) : OwnB g v v w w := ⟨rfl, rfl, rfl, Nat.le_refl _, fun _ _ _ _ => rfl, fun _ h => Or.inl h⟩
theorem OwnB.of_own {g : Nat} {v v' : Value} {w w' : World} (h : OwnG v v' w w') : OwnB g v v' w w' :=
  ⟨h.grown.os, h.grown.tape, h.grown.output, h.grown.size, fun k hk _ hne => h.grown.block k hk (fun e => hne e.symm), h.at_⟩
theorem OwnB.of_below {g : Nat} {v : Value} {w w' : World} (h : Below w.heap.size w w') : OwnB g v v w w' := OwnB.of_own (OwnG.of_below h)
theorem OwnB.trans {g : Nat} {v v1 v2 : Value} {a b c : World} (h : OwnB g v v1 a b) (k : OwnB g v1 v2 b c) : OwnB g v v2 a c := by
  refine ⟨k.os.trans h.os, k.tape.trans h.tape, k.output.trans h.output, Nat.le_trans h.size k.size, fun i hi hg hv => ?_, fun j hj => ?_⟩
  · refine (k.block i (Nat.lt_of_lt_of_le hi h.size) hg (fun e => ?_)).trans (h.block i hi hg hv)
    rcases h.at_ i e with h1 | h1
    · exact hv h1
    · omega
  · rcases k.at_ j hj with h1 | h1
    · exact h.at_ j h1
    · exact Or.inr (Nat.le_trans h.size h1)
theorem OwnB.set_ {g : Nat} {v v1 : Value} {a b : World} (h : OwnB g v v1 a b) (u : Value) : OwnB g v v1 a (b.setCell ⟨g, 0, none⟩ u) :=
  ⟨h.os, h.tape, h.output, by simpa using h.size, fun i hi hg hv => (Below.heap_setCell _ _ _ i hg).trans (h.block i hi hg hv), h.at_⟩
theorem OwnB.row {g : Nat} {v v' : Value} {w w' : World} (h : OwnB g v v' w w') {b : Nat} {t : TypeId} {cs : Array Value} (R : Row w b t cs) (hg : b ≠ g) (hne : v.ownBlock ≠ some b) : Row w' b t cs := (h.block b R.lt hg hne).trans R
theorem OwnB.below {g : Nat} {v v' : Value} {w w' : World} (h : OwnB g v v' w w') {B : Nat} (hg : B ≤ g) (hB : B ≤ w.heap.size) (ho : ∀ k, v.ownBlock = some k → B ≤ k) : Below B w w' :=
  ⟨h.os, h.tape, h.output, h.size, fun k hk => h.block k (by omega) (by omega) (fun e => by have := ho k e; omega)⟩
end Go.Proofs.YtbikgakoeheahaaDoor
