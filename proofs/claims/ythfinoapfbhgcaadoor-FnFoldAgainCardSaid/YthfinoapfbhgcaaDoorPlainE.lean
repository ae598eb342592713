/-
  Plain laws of expressions: their names, their parts, and what is put into them. No condition.
-/
import Derived.Test.YthfinoapfbhgcaaDoorNames3
import Derived.Test.YthfinoapfbhgcaaDoorPutVarC
namespace Go.Proofs.YthfinoapfbhgcaaDoor
open Go.RowKit Go.ChangeShapes Go.WideShapes Go.Deep
set_option linter.unusedVariables false
set_option linter.unusedSimpArgs false
mutual
/-- the names of the parts with an op, in their order -/
def flE (tag : Int) : Ex → List ByteArray
  | .mk op _ name kids => (if op = tag then [name] else []) ++ flL tag kids
def flL (tag : Int) : List Ex → List ByteArray
  | [] => []
  | e :: r => flE tag e ++ flL tag r
end
theorem flE_mk (tag op n : Int) (name : ByteArray) (kids : List Ex) : flE tag (.mk op n name kids) = (if op = tag then [name] else []) ++ flL tag kids := by rw [flE]
theorem flL_nil (tag : Int) : flL tag [] = [] := by rw [flL]
theorem flL_cons (tag : Int) (e : Ex) (r : List Ex) : flL tag (e :: r) = flE tag e ++ flL tag r := by rw [flL]
-- forms
theorem formB_mono : ∀ (m : Nat) (e : Ex), formB m e = true → formB (m + 1) e = true
  | 0, e, h => by simp [formB] at h
  | m + 1, .mk op n name kids, h => by
    rw [formB, Bool.and_eq_true] at h
    rw [formB, Bool.and_eq_true]
    exact ⟨h.1, List.all_eq_true.2 fun x hx => formB_mono m x (List.all_eq_true.1 h.2 x hx)⟩
theorem formB_le {m m' : Nat} (hm : m ≤ m') {e : Ex} (h : formB m e = true) : formB m' e = true := by
  induction hm with
  | refl => exact h
  | step _ ih => exact formB_mono _ _ ih
theorem val_mk {e : Ex} (h1 : formB 6 e = true) (h2 : partsE e ≤ 30) : valE e = true := by
  rw [valE_form, h1, decide_eq_true h2]
  rfl
theorem cntE_val {e : Ex} (h : valE e = true) : cntE e = partsE e := by unfold cntE; rw [if_pos h]
theorem dpE_val {e : Ex} (h : valE e = true) : dpE e = deepE e := by unfold dpE; rw [if_pos h]
end Go.Proofs.YthfinoapfbhgcaaDoor
