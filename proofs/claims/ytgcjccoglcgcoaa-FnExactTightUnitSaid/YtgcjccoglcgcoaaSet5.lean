/-
  Helpers: three and four operations ready; a world grown; five cells written. No condition.
-/
import Derived.Test.YtgcjccoglcgcoaaRegT
import Derived.Test.YtgcjccoglcgcoaaOwn
import Derived.Deep.MidRow
namespace Go.Proofs.Ytgcjccoglcgcoaa
open Go.RowKit Go.ChangeShapes Go.WideShapes Go.Deep
set_option linter.unusedVariables false
set_option linter.unusedSimpArgs false
theorem reg_call3 {P : Program} {ops : Array Oper} {Q : Exit → Act → World → Prop} {md : Region.Mode} {S : World → Prop} {fuel : Nat} {listed : Array Bool} {a : Act} {w : World} {i j k : Nat} {o o' o'' : Oper} (hr : Region.ready md ops listed = [i, j, k]) (ho : ops.toList[i]? = some o) (ho' : ops.toList[j]? = some o') (ho'' : ops.toList[k]? = some o'')
    (h : ∀ K' : Act → World → Prop, Shut (∀ a w, S w → (S w → wpAnyH P md ops Q S fuel (listed.setIfInBounds i true) a w) → K' a w) → if Region.wanted o (yielded ops a.tmps) = true then Oper.wp P o a w K' Q else K' (a.put o.dst undef) w)
    (h' : ∀ K' : Act → World → Prop, Shut (∀ a w, S w → (S w → wpAnyH P md ops Q S fuel (listed.setIfInBounds j true) a w) → K' a w) → if Region.wanted o' (yielded ops a.tmps) = true then Oper.wp P o' a w K' Q else K' (a.put o'.dst undef) w)
    (h'' : ∀ K' : Act → World → Prop, Shut (∀ a w, S w → (S w → wpAnyH P md ops Q S fuel (listed.setIfInBounds k true) a w) → K' a w) → if Region.wanted o'' (yielded ops a.tmps) = true then Oper.wp P o'' a w K' Q else K' (a.put o''.dst undef) w) : wpAnyH P md ops Q S (fuel + 1) listed a w :=
  wpAnyH_ready hr (by simp) (AllReadyH.cons (by simpa using ho) h (AllReadyH.cons (by simpa using ho') h' (AllReadyH.cons (by simpa using ho'') h'' AllReadyH.nil)))
theorem reg_call4 {P : Program} {ops : Array Oper} {Q : Exit → Act → World → Prop} {md : Region.Mode} {S : World → Prop} {fuel : Nat} {listed : Array Bool} {a : Act} {w : World} {i j k l : Nat} {o o' o'' o3 : Oper} (hr : Region.ready md ops listed = [i, j, k, l]) (ho : ops.toList[i]? = some o) (ho' : ops.toList[j]? = some o') (ho'' : ops.toList[k]? = some o'') (ho3 : ops.toList[l]? = some o3)
    (h : ∀ K' : Act → World → Prop, Shut (∀ a w, S w → (S w → wpAnyH P md ops Q S fuel (listed.setIfInBounds i true) a w) → K' a w) → if Region.wanted o (yielded ops a.tmps) = true then Oper.wp P o a w K' Q else K' (a.put o.dst undef) w)
    (h' : ∀ K' : Act → World → Prop, Shut (∀ a w, S w → (S w → wpAnyH P md ops Q S fuel (listed.setIfInBounds j true) a w) → K' a w) → if Region.wanted o' (yielded ops a.tmps) = true then Oper.wp P o' a w K' Q else K' (a.put o'.dst undef) w)
    (h'' : ∀ K' : Act → World → Prop, Shut (∀ a w, S w → (S w → wpAnyH P md ops Q S fuel (listed.setIfInBounds k true) a w) → K' a w) → if Region.wanted o'' (yielded ops a.tmps) = true then Oper.wp P o'' a w K' Q else K' (a.put o''.dst undef) w)
    (h3 : ∀ K' : Act → World → Prop, Shut (∀ a w, S w → (S w → wpAnyH P md ops Q S fuel (listed.setIfInBounds l true) a w) → K' a w) → if Region.wanted o3 (yielded ops a.tmps) = true then Oper.wp P o3 a w K' Q else K' (a.put o3.dst undef) w) : wpAnyH P md ops Q S (fuel + 1) listed a w :=
  wpAnyH_ready hr (by simp) (AllReadyH.cons (by simpa using ho) h (AllReadyH.cons (by simpa using ho') h' (AllReadyH.cons (by simpa using ho'') h'' (AllReadyH.cons (by simpa using ho3) h3 AllReadyH.nil))))
theorem grown_below {B : Nat} {w0 w w' : World} {r : Option Nat} (h : Below B w0 w) (hB : B ≤ w.heap.size) (g : w.grownBy w' r) (hr : ∀ b, r = some b → B ≤ b) : Below B w0 w' :=
  h.trans ⟨g.os, g.tape, g.output, g.size, fun k hk => g.block k (by omega) (fun e => by have := hr k e.symm; omega)⟩
/-- five cells are written -/
def set5 (w : World) (b : Nat) (u0 u1 u2 u3 u4 : Value) : World := ((((w.setCell ⟨b, 0, none⟩ u0).setCell ⟨b, 1, none⟩ u1).setCell ⟨b, 2, none⟩ u2).setCell ⟨b, 3, none⟩ u3).setCell ⟨b, 4, none⟩ u4
theorem row_set5 {w : World} {b : Nat} {t : TypeId} {x0 x1 x2 x3 x4 : Value} (R : Row w b t #[x0, x1, x2, x3, x4]) (u0 u1 u2 u3 u4 : Value) : Row (set5 w b u0 u1 u2 u3 u4) b t #[u0, u1, u2, u3, u4] := by
  have := ((((R.set_ 0 u0).set_ 1 u1).set_ 2 u2).set_ 3 u3).set_ 4 u4
  unfold set5
  simpa using this
theorem heap_set5 {w : World} {b c : Nat} (hne : c ≠ b) (u0 u1 u2 u3 u4 : Value) : (set5 w b u0 u1 u2 u3 u4).heap[c]? = w.heap[c]? := by
  unfold set5
  rw [Below.heap_setCell _ _ _ c hne, Below.heap_setCell _ _ _ c hne, Below.heap_setCell _ _ _ c hne, Below.heap_setCell _ _ _ c hne, Below.heap_setCell _ _ _ c hne]
theorem row_far5 {w : World} {b c : Nat} {t : TypeId} {cs : Array Value} (R : Row w c t cs) (hne : c ≠ b) (u0 u1 u2 u3 u4 : Value) : Row (set5 w b u0 u1 u2 u3 u4) c t cs := (heap_set5 hne u0 u1 u2 u3 u4).trans R
theorem below_set5 {w0 w : World} {B b : Nat} (h : Below B w0 w) (hb : B ≤ b) (u0 u1 u2 u3 u4 : Value) : Below B w0 (set5 w b u0 u1 u2 u3 u4) :=
  ((((h.setCell (p := ⟨b, 0, none⟩) hb u0).setCell (p := ⟨b, 1, none⟩) hb u1).setCell (p := ⟨b, 2, none⟩) hb u2).setCell (p := ⟨b, 3, none⟩) hb u3).setCell (p := ⟨b, 4, none⟩) hb u4
theorem row_there {w : World} {b : Nat} {t : TypeId} {cs : Array Value} (R : Row w b t cs) (n : Nat) (hn : n ≤ cs.size) : w.there b 0 n := fun j hj => ⟨by
  rw [Nat.zero_add]
  have := R.cell j
  rw [this, Array.getElem?_eq_getElem (by omega)]
  rfl, by rw [Nat.zero_add]; exact R.frozen j⟩
theorem size_block : (Try.prog.info? 65).map (·.size) = some 5 := by kernel_rfl
theorem set5_eq (w : World) (b : Nat) (u0 u1 u2 u3 u4 : Value) : w.setCells b 0 [u0, u1, u2, u3, u4] = set5 w b u0 u1 u2 u3 u4 := rfl
end Go.Proofs.Ytgcjccoglcgcoaa
