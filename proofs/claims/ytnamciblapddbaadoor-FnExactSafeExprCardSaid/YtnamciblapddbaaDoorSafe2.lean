/-
  Is an expression safe: the reference. Conditions: the argument reads as data.
-/
import Derived.Test.YtnamciblapddbaaDoorSafe
namespace Go.Proofs.YtnamciblapddbaaDoor
open Go.RowKit Go.ChangeShapes Go.WideShapes Go.Deep

set_option linter.unusedVariables false
set_option linter.unusedSimpArgs false
def safB (e : Ex) : Bool := valE e && safeE 6 e
theorem spec_SafeExpr (d : Nat) (op n : Int) (name : ByteArray) (kids : List Ex) (v3 : Value) (w : World) (lo B : Nat) (hB : B ≤ w.heap.size) (ho : I64 op) (hn64 : I64 n) (hnm : name.size ≤ maxLen) (h3 : Sl false (exS false d) w lo B kids v3) :
    Calls Tryd.prog 23 #[.agg #[.int .i64 op, .int .i64 n, .string name, v3]] w (RetV (.bool (safB (.mk op n name kids))) w) := by
  obtain ⟨A, p, hf, hl1, hl2⟩ := h3.form
  subst hf
  have hb0 : Below w.heap.size w (w.alloc (.cells #[.int .i64 op, .int .i64 n, .string name, .slice A kids.length p] 30)) := (Below.refl _ _).alloc (Nat.le_refl _) _
  have R0 : Row (w.alloc (.cells #[.int .i64 op, .int .i64 n, .string name, .slice A kids.length p] 30)) w.heap.size 30 #[.int .i64 op, .int .i64 n, .string name, .slice A kids.length p] := Row.new w _ _
  go_enter Tryd.func23, Tryd.ntmps23
  go_wp2_with fail
  refine (spec_ExprValid d op n name kids _ _ lo B (Nat.le_trans hB hb0.size) ho hn64 hnm (h3.below hb0 hB)).mono ?_
  rintro e w1 ⟨rfl, b1⟩
  have hb1 : Below w.heap.size w w1 := hb0.trans (b1.mono hb0.size)
  have R1 := R0.below b1 R0.lt
  cases hf : valE (.mk op n name kids)
  case false =>
    have E : Hid (safB (.mk op n name kids) = false) := by show _ = _; unfold safB; rw [hf]; rfl
    go_wp2_with fail
    go_ret
    exact RetV.mk (by rw [E.out] <;> rfl) rfl hb1
  have hp : formB 6 (.mk op n name kids) = true := by
    rw [valE_form, Bool.and_eq_true] at hf
    exact hf.1
  have y0 : w1.cell? ⟨w.heap.size, 0, none⟩ = some (.int .i64 op) := R1.cell 0
  have y1 : w1.cell? ⟨w.heap.size, 1, none⟩ = some (.int .i64 n) := R1.cell 1
  have y2 : w1.cell? ⟨w.heap.size, 2, none⟩ = some (.string name) := R1.cell 2
  have y3 : w1.cell? ⟨w.heap.size, 3, none⟩ = some (.slice A kids.length p) := R1.cell 3
  replace hp := Lib.hid hp
  go_wp2_with fail
  refine (spec_l6Safe 6 d op n name kids _ _ lo B (Nat.le_trans hB hb1.size) ho hn64 hnm (h3.below hb1 hB) hp.out).mono ?_
  rintro e w2 ⟨rfl, b2⟩
  have hb2 : Below w.heap.size w w2 := hb1.trans (b2.mono hb1.size)
  have E : Hid (safB (.mk op n name kids) = safeE 6 (.mk op n name kids)) := by show _ = _; unfold safB; rw [hf]; rfl
  go_wp2_with fail
  go_ret
  exact RetV.mk (by rw [E.out] <;> rfl) rfl hb2

end Go.Proofs.YtnamciblapddbaaDoor

