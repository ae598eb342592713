/-
  What a call owns and appends to: of the old blocks only that one may have changed. Texts and expressions. No condition.
-/
import Derived.Test.YtbikgakoeheahaaDoorParts
import Derived.Maps.AppendAt
import Derived.Maps.Range
namespace Go.Proofs.YtbikgakoeheahaaDoor
open Go.RowKit Go.ChangeShapes Go.WideShapes Go.Deep
set_option linter.unusedSimpArgs false
set_option linter.unusedVariables false
/-- of the old blocks only v's own may have changed; and v' lies there or in new memory -/
structure OwnG (v v' : Value) (w w' : World) : Prop where
  grown : w.grownBy w' v.ownBlock
  at_ : ∀ k, v'.ownBlock = some k → v.ownBlock = some k ∨ w.heap.size ≤ k
theorem OwnG.refl (v : Value) (w : World) : OwnG v v w w := ⟨World.grownBy.refl _ _, fun _ h => Or.inl h⟩
theorem OwnG.trans {v v1 v2 : Value} {a b c : World} (h : OwnG v v1 a b) (k : OwnG v1 v2 b c) : OwnG v v2 a c := by
  refine ⟨h.grown.andThen k.grown (fun j hj => (h.at_ j hj).symm), fun j hj => ?_⟩
  rcases k.at_ j hj with h1 | h1
  · exact h.at_ j h1
  · exact Or.inr (Nat.le_trans h.grown.size h1)
theorem OwnG.of_below {v : Value} {w w' : World} (h : Below w.heap.size w w') : OwnG v v w w' :=
  ⟨⟨h.os, h.tape, h.output, h.size, fun k hk _ => h.block k hk⟩, fun _ h => Or.inl h⟩
theorem OwnG.of_at {v v' : Value} {w w' : World} (h : w.grownBy w' v.ownBlock) (k : v'.ownBlock = v.ownBlock ∨ v'.ownBlock = some w.heap.size) : OwnG v v' w w' := by
  refine ⟨h, fun j hj => ?_⟩
  rcases k with k | k
  · exact Or.inl (k ▸ hj)
  · rw [k] at hj
    injection hj with hj
    exact Or.inr (Nat.le_of_eq hj)
theorem OwnG.size {v v' : Value} {w w' : World} (h : OwnG v v' w w') : w.heap.size ≤ w'.heap.size := h.grown.size
theorem OwnG.row {v v' : Value} {w w' : World} (h : OwnG v v' w w') {g : Nat} {t : TypeId} {cs : Array Value} (R : Row w g t cs) (hne : v.ownBlock ≠ some g) : Row w' g t cs := (h.grown.block g R.lt (fun e => hne e.symm)).trans R
theorem OwnG.below {v v' : Value} {w w' : World} (h : OwnG v v' w w') {B : Nat} (hB : B ≤ w.heap.size) (ho : ∀ k, v.ownBlock = some k → B ≤ k) : Below B w w' :=
  ⟨h.grown.os, h.grown.tape, h.grown.output, h.grown.size, fun k hk => h.grown.block k (by omega) (fun e => by have := ho k e.symm; omega)⟩
theorem own_ge {w : World} {base n size : Nat} {e : TypeId} {v : Value} {xs : List Value} (h : w.ownsRow base e size v n xs) {k : Nat} (hk : v.ownBlock = some k) : base ≤ k := (h.lt k hk).1
theorem own_ne {w : World} {base n size : Nat} {e : TypeId} {v : Value} {xs : List Value} (h : w.ownsRow base e size v n xs) {g : Nat} (hg : g < base) : v.ownBlock ≠ some g := fun hk => by
  have := own_ge h hk
  omega
theorem own_ne' {w : World} {base n size : Nat} {e : TypeId} {v : Value} {xs : List Value} (h : w.ownsRow base e size v n xs) {g : Nat} (hg : w.heap.size ≤ g) : v.ownBlock ≠ some g := fun hk => by
  have := (h.lt g hk).2
  omega
theorem own_below {w w' : World} {base n size B : Nat} {e : TypeId} {v : Value} {xs : List Value} (h : w.ownsRow base e size v n xs) (hb : Below B w w') (hB : w.heap.size ≤ B) : w'.ownsRow base e size v n xs := by
  refine ⟨h.1, ?_⟩
  rcases h.2 with h1 | ⟨g, cap, cur, h1, h2, h3, h4⟩
  · exact Or.inl h1
  · have : g < w.heap.size := (Array.getElem?_eq_some_iff.1 h3).1
    exact Or.inr ⟨g, cap, cur, h1, h2, (hb.block g (by omega)).trans h3, h4⟩
end Go.Proofs.YtbikgakoeheahaaDoor
