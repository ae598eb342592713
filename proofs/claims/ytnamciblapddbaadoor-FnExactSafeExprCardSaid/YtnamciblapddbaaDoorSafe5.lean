/-
  Is an expression safe: the program. Conditions: the argument reads as data; the tables lie.
-/
import Derived.Test.YtnamciblapddbaaDoorSafe4
namespace Go.Proofs.YtnamciblapddbaaDoor
open Go.RowKit Go.ChangeShapes Go.WideShapes Go.Deep

set_option linter.unusedVariables false
set_option linter.unusedSimpArgs false
theorem impl_SafeExpr (d : Nat) (op n : Int) (name : ByteArray) (kids : List Ex) (v3 : Value) (w : World) (lo B : Nat) (hB : B ≤ w.heap.size) (ho : I64 op) (hn64 : I64 n) (hnm : name.size ≤ maxLen) (h3 : Sl false (exS false d) w lo B kids v3) (ht : Tabs w) :
    Calls Tryd.prog 24 #[.agg #[.int .i64 op, .int .i64 n, .string name, v3]] w (RetV (.bool (safB (.mk op n name kids))) w) := by
  obtain ⟨A, p, hf, hl1, hl2⟩ := h3.form
  subst hf
  have hb0 : Below w.heap.size w (w.alloc (.cells #[.int .i64 op, .int .i64 n, .string name, .slice A kids.length p] 30)) := (Below.refl _ _).alloc (Nat.le_refl _) _
  have R0 : Row (w.alloc (.cells #[.int .i64 op, .int .i64 n, .string name, .slice A kids.length p] 30)) w.heap.size 30 #[.int .i64 op, .int .i64 n, .string name, .slice A kids.length p] := Row.new w _ _
  go_enter Tryd.func24, Tryd.ntmps24
  go_wp2_with fail
  refine (impl_ExprValid d op n name kids _ _ lo B (Nat.le_trans hB hb0.size) ho hn64 hnm (h3.below hb0 hB) (ht.below hb0 (Nat.le_refl _))).mono ?_
  rintro e w1 ⟨rfl, b1⟩
  have hb1 : Below w.heap.size w w1 := hb0.trans (b1.mono hb0.size)
  have R1 := R0.below b1 R0.lt
  have rl := R1.lt
  cases hf : valE (.mk op n name kids)
  case false =>
    have E : Hid (safB (.mk op n name kids) = false) := by show _ = _; unfold safB; rw [hf]; rfl
    go_wp2_with fail
    go_ret
    exact RetV.mk (by rw [E.out] <;> rfl) rfl (hb1.alloc hb1.size _)
  have hp : formB 6 (.mk op n name kids) = true := by
    rw [valE_form, Bool.and_eq_true] at hf
    exact hf.1
  have hbk : Below w.heap.size w (w1.alloc (.cells #[.bool true] 4)) := hb1.alloc hb1.size _
  have G : Row (w1.alloc (.cells #[.bool true] 4)) w1.heap.size 4 #[.bool true] := Row.new _ _ _
  have R2 : Row (w1.alloc (.cells #[.bool true] 4)) w.heap.size 30 #[.int .i64 op, .int .i64 n, .string name, .slice A kids.length p] := R1.alloc _
  have y0 : (w1.alloc (.cells #[.bool true] 4)).cell? ⟨w.heap.size, 0, none⟩ = some (.int .i64 op) := R2.cell 0
  have y1 : (w1.alloc (.cells #[.bool true] 4)).cell? ⟨w.heap.size, 1, none⟩ = some (.int .i64 n) := R2.cell 1
  have y2 : (w1.alloc (.cells #[.bool true] 4)).cell? ⟨w.heap.size, 2, none⟩ = some (.string name) := R2.cell 2
  have y3 : (w1.alloc (.cells #[.bool true] 4)).cell? ⟨w.heap.size, 3, none⟩ = some (.slice A kids.length p) := R2.cell 3
  replace hp := Lib.hid hp
  go_wp2_with fail
  refine (impl_parts 6 d op n name kids _ _ lo B w1.heap.size true (Nat.le_trans hB hb1.size) ho hn64 hnm (h3.below hbk hB) hp.out G).mono ?_
  rintro e w2 ⟨rfl, G2, B2⟩
  have hb2 : Below w.heap.size w w2 := hbk.trans (B2.1.mono hb1.size)
  have z : w2.cell? ⟨w1.heap.size, 0, none⟩ = some (.bool (safeE 6 (.mk op n name kids))) := G2.cell 0
  have E : Hid (safB (.mk op n name kids) = safeE 6 (.mk op n name kids)) := by show _ = _; unfold safB; rw [hf]; rfl
  go_wp2_with fail
  go_ret
  exact RetV.mk (by rw [E.out] <;> rfl) rfl hb2

end Go.Proofs.YtnamciblapddbaaDoor

