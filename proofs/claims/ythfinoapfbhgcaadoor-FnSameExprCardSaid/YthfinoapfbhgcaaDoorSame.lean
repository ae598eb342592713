/-
  Sameness of lists and structs, by the program and by the reference. Conditions: the arguments read as data.
-/
import Derived.Test.YthfinoapfbhgcaaDoorEq
import Derived.Test.YthfinoapfbhgcaaDoorDec
import Derived.Test.YthfinoapfbhgcaaDoorFacts
import Derived.Deep.RegionHeld3
namespace Go.Proofs.YthfinoapfbhgcaaDoor
open Go.RowKit Go.ChangeShapes Go.WideShapes Go.Deep

/-- two data are one -/
noncomputable def eqB {α : Type} (a b : α) : Bool := @decide (a = b) (Classical.propDecidable _)
theorem eqB_true {α : Type} {a b : α} (h : a = b) : eqB a b = true := by simp [eqB, h]
theorem eqB_false {α : Type} {a b : α} (h : ¬ a = b) : eqB a b = false := by simp [eqB, h]
theorem eqB_iff {α β : Type} {a b : α} {c d : β} (h : a = b ↔ c = d) : eqB a b = eqB c d := by
  by_cases e : a = b
  · rw [eqB_true e, eqB_true (h.1 e)]
  · rw [eqB_false e, eqB_false (fun x => e (h.2 x))]
/-- it answers whether two data are one, and leaves what was there -/
def Same2 {α : Type} (a b : α) (w : World) (e : Ending) (w' : World) : Prop := e = .returned (.bool (eqB a b)) ∧ Below w.heap.size w w'
theorem Same2.mk_true {α : Type} {a b : α} {w w' : World} {e : Ending} (h : a = b) (he : e = .returned (.bool true)) (hb : Below w.heap.size w w') : Same2 a b w e w' := ⟨by rw [eqB_true h]; exact he, hb⟩
theorem Same2.mk_false {α : Type} {a b : α} {w w' : World} {e : Ending} (h : ¬ a = b) (he : e = .returned (.bool false)) (hb : Below w.heap.size w w') : Same2 a b w e w' := ⟨by rw [eqB_false h]; exact he, hb⟩
theorem take_succ_eq {α : Type} {l l' : List α} {k : Nat} (h : l.take k = l'.take k) (h1 : k < l.length) (h2 : k < l'.length) (he : l[k] = l'[k]) : l.take (k + 1) = l'.take (k + 1) := by
  rw [List.take_succ_eq_append_getElem h1, List.take_succ_eq_append_getElem h2, h, he]
theorem take_all_eq {α : Type} {l l' : List α} {k : Nat} (h : l.take k = l'.take k) (h1 : l.length ≤ k) (h2 : l'.length ≤ k) : l = l' := by
  rwa [List.take_of_length_le h1, List.take_of_length_le h2] at h
theorem ne_of_at {α : Type} {l l' : List α} {k : Nat} (h1 : k < l.length) (h2 : k < l'.length) {a b : α} (e1 : l[k] = a) (e2 : l'[k] = b) (h : ¬ a = b) : ¬ l = l' := by
  rintro rfl
  exact h (e1.symm.trans e2)
theorem ne_of_len {α : Type} {l l' : List α} (h : ¬ l.length = l'.length) : ¬ l = l' := fun e => h (by rw [e])

theorem str_ne {a b : ByteArray} (h : ¬ a = b) : (a.toList == b.toList) = false := by
  rw [ByteArray.toList_eq, ByteArray.toList_eq]
  exact beq_eq_false_iff_ne.2 fun e => h (WideShapes.bytes_inj e)

end Go.Proofs.YthfinoapfbhgcaaDoor


