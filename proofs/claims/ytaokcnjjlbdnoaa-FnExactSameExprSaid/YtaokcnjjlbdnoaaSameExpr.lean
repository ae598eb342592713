/-
  The law SameExpr, by its program and its reference. Conditions: the arguments read as data.
-/
import Derived.Test.YtaokcnjjlbdnoaaSame3
import Derived.Test.YtaokcnjjlbdnoaaSame
import Derived.Test.YtaokcnjjlbdnoaaEq
import Derived.Test.YtaokcnjjlbdnoaaDec
import Derived.Test.YtaokcnjjlbdnoaaFacts
import Derived.Deep.RegionHeld3
namespace Go.Proofs.Ytaokcnjjlbdnoaa
open Go.RowKit Go.ChangeShapes Go.WideShapes Go.Deep
set_option linter.unusedVariables false
theorem specSameExpr_u (d : Nat) (op : Int) (n : Int) (name : ByteArray) (kids : List Ex) (v3 : Value) (d' : Nat) (op' : Int) (n' : Int) (name' : ByteArray) (kids' : List Ex) (v3' : Value)  (w : World) (lo B : Nat) (lo' B' : Nat) (hB : B ≤ w.heap.size) (hB' : B' ≤ w.heap.size) (hN : name.size + (kids.length + sumBy exN kids) ≤ 1048576) (hN' : name'.size + (kids'.length + sumBy exN kids') ≤ 1048576) (h0 : I64 op) (h1 : I64 n) (h2 : name.size ≤ maxLen) (h3 : Sl false (exS false d) w lo B kids v3) (h0' : I64 op') (h1' : I64 n') (h2' : name'.size ≤ maxLen) (h3' : Sl false (exS false d') w lo' B' kids' v3')  : Calls Try.prog 31 #[.agg #[.int .i64 op, .int .i64 n, .string name, v3], .agg #[.int .i64 op', .int .i64 n', .string name', v3']] w fun e w' => e = .returned (.bool (eqB (Ex.mk op n name kids) (Ex.mk op' n' name' kids'))) ∧ Below w.heap.size w w' := spec_SameExpr d op n name kids v3 d' op' n' name' kids' v3' w lo B lo' B' hB hB' h3 h3'
theorem implSameExpr_u (d : Nat) (op : Int) (n : Int) (name : ByteArray) (kids : List Ex) (v3 : Value) (d' : Nat) (op' : Int) (n' : Int) (name' : ByteArray) (kids' : List Ex) (v3' : Value)  (w : World) (lo B : Nat) (lo' B' : Nat) (hB : B ≤ w.heap.size) (hB' : B' ≤ w.heap.size) (hN : name.size + (kids.length + sumBy exN kids) ≤ 1048576) (hN' : name'.size + (kids'.length + sumBy exN kids') ≤ 1048576) (h0 : I64 op) (h1 : I64 n) (h2 : name.size ≤ maxLen) (h3 : Sl false (exS false d) w lo B kids v3) (h0' : I64 op') (h1' : I64 n') (h2' : name'.size ≤ maxLen) (h3' : Sl false (exS false d') w lo' B' kids' v3')  : Calls Try.prog 33 #[.agg #[.int .i64 op, .int .i64 n, .string name, v3], .agg #[.int .i64 op', .int .i64 n', .string name', v3']] w fun e w' => e = .returned (.bool (eqB (Ex.mk op n name kids) (Ex.mk op' n' name' kids'))) ∧ Below w.heap.size w w' := impl_SameExpr d op n name kids v3 d' op' n' name' kids' v3' w lo B lo' B' hB hB' h3 h3'
set_option maxRecDepth 100000 in
set_option maxHeartbeats 4000000 in
theorem law_FnExactSameExpr (d : Nat) (op : Int) (n : Int) (name : ByteArray) (kids : List Ex) (v3 : Value) (d' : Nat) (op' : Int) (n' : Int) (name' : ByteArray) (kids' : List Ex) (v3' : Value)  (w : World) (h0 : I64 op) (h1 : I64 n) (h2 : name.size ≤ maxLen) (h3 : Sl false (exS false d) w 0 w.heap.size kids v3) (h0' : I64 op') (h1' : I64 n') (h2' : name'.size ≤ maxLen) (h3' : Sl false (exS false d') w 0 w.heap.size kids' v3')  :
    Calls Try.prog 5 #[.agg #[.int .i64 op, .int .i64 n, .string name, v3], .agg #[.int .i64 op', .int .i64 n', .string name', v3']] w (Yes w) := by
  have hb0 : Below w.heap.size w ((w.alloc (.cells #[.int .i64 op, .int .i64 n, .string name, v3] 40)).alloc (.cells #[.int .i64 op', .int .i64 n', .string name', v3'] 40)) := ((Below.refl _ _).alloc (Nat.le_refl _) _).alloc (by simp) _
  have R0_0 : Row ((w.alloc (.cells #[.int .i64 op, .int .i64 n, .string name, v3] 40)).alloc (.cells #[.int .i64 op', .int .i64 n', .string name', v3'] 40)) (w.heap.size) 40 #[.int .i64 op, .int .i64 n, .string name, v3] := by simpa using (Row.new (w) _ _).alloc (.cells #[.int .i64 op', .int .i64 n', .string name', v3'] 40)
  have R0_1 : Row ((w.alloc (.cells #[.int .i64 op, .int .i64 n, .string name, v3] 40)).alloc (.cells #[.int .i64 op', .int .i64 n', .string name', v3'] 40)) (w.heap.size + 1) 40 #[.int .i64 op', .int .i64 n', .string name', v3'] := by simpa using Row.new (w.alloc (.cells #[.int .i64 op, .int .i64 n, .string name, v3] 40)) _ _
  go_enter Try.func5, Try.ntmps5
  go_wp2_with fail
  refine (sz_Expr d op n name kids v3 1048576 _ 0 w.heap.size (by omega) (by omega) hb0.size h0 h1 h2 (h3.below hb0 (Nat.le_refl _))).mono ?_
  rintro e w1 ⟨r0, rfl, a0, b0, c0, e0⟩
  have hb1 : Below w.heap.size w w1 := hb0.trans (e0.mono hb0.size)
  have sz1 := e0.size
  have R1_0 := R0_0.below e0 R0_0.lt
  have R1_1 := R0_1.below e0 R0_1.lt
  clear R0_0 R0_1
  have C0 := Lib.hid c0
  clear c0
  by_cases hr0 : r0 < 0
  · go_wp2_with fail
    go_ret
    exact ⟨rfl, hb1⟩
  · have hN0 : name.size + (kids.length + sumBy exN kids) ≤ 1048576 := by
      have := C0.out (by omega)
      omega
    have hr0' : 0 ≤ r0 := by omega
    clear C0
    have y0_1 : (w1).cell? ⟨w.heap.size, 0, none⟩ = some (.int .i64 op) := R1_0.cell 0
    have y1_1 : (w1).cell? ⟨w.heap.size, 1, none⟩ = some (.int .i64 n) := R1_0.cell 1
    have y2_1 : (w1).cell? ⟨w.heap.size, 2, none⟩ = some (.string name) := R1_0.cell 2
    have y3_1 : (w1).cell? ⟨w.heap.size, 3, none⟩ = some (v3) := R1_0.cell 3
    have y4_1 : (w1).cell? ⟨w.heap.size + 1, 0, none⟩ = some (.int .i64 op') := R1_1.cell 0
    have y5_1 : (w1).cell? ⟨w.heap.size + 1, 1, none⟩ = some (.int .i64 n') := R1_1.cell 1
    have y6_1 : (w1).cell? ⟨w.heap.size + 1, 2, none⟩ = some (.string name') := R1_1.cell 2
    have y7_1 : (w1).cell? ⟨w.heap.size + 1, 3, none⟩ = some (v3') := R1_1.cell 3
    go_wp2_with fail
    refine (sz_Expr d' op' n' name' kids' v3' r0 _ 0 w.heap.size (by omega) (by omega) hb1.size h0' h1' h2' (h3'.below hb1 (Nat.le_refl _))).mono ?_
    rintro e w2 ⟨r1, rfl, a1, b1, c1, e1⟩
    have hb2 : Below w.heap.size w w2 := hb1.trans (e1.mono hb1.size)
    have sz2 := e1.size
    have R2_0 := R1_0.below e1 R1_0.lt
    have R2_1 := R1_1.below e1 R1_1.lt
    clear y0_1 y1_1 y2_1 y3_1 y4_1 y5_1 y6_1 y7_1
    clear R1_0 R1_1
    have C1 := Lib.hid c1
    clear c1
    by_cases hr1 : r1 < 0
    · go_wp2_with fail
      go_ret
      exact ⟨rfl, hb2⟩
    · have hN1 : name'.size + (kids'.length + sumBy exN kids') ≤ 1048576 := by
        have := C1.out (by omega)
        omega
      have hr1' : 0 ≤ r1 := by omega
      clear C1
      have y0_2 : (w2).cell? ⟨w.heap.size, 0, none⟩ = some (.int .i64 op) := R2_0.cell 0
      have y1_2 : (w2).cell? ⟨w.heap.size, 1, none⟩ = some (.int .i64 n) := R2_0.cell 1
      have y2_2 : (w2).cell? ⟨w.heap.size, 2, none⟩ = some (.string name) := R2_0.cell 2
      have y3_2 : (w2).cell? ⟨w.heap.size, 3, none⟩ = some (v3) := R2_0.cell 3
      have y4_2 : (w2).cell? ⟨w.heap.size + 1, 0, none⟩ = some (.int .i64 op') := R2_1.cell 0
      have y5_2 : (w2).cell? ⟨w.heap.size + 1, 1, none⟩ = some (.int .i64 n') := R2_1.cell 1
      have y6_2 : (w2).cell? ⟨w.heap.size + 1, 2, none⟩ = some (.string name') := R2_1.cell 2
      have y7_2 : (w2).cell? ⟨w.heap.size + 1, 3, none⟩ = some (v3') := R2_1.cell 3
      clear a0 b0 a1 b1
      go_wp2_with fail
      have hbd : Below w.heap.size w w2.drew := hb2.drew
      have DR2_0 : Row w2.drew (w.heap.size) 40 #[.int .i64 op, .int .i64 n, .string name, v3] := R2_0
      have DR2_1 : Row w2.drew (w.heap.size + 1) 40 #[.int .i64 op', .int .i64 n', .string name', v3'] := R2_1
      go_region_held3 (fun w' => w'.cell? ⟨w.heap.size, 0, none⟩ = some (.int .i64 op) ∧ w'.cell? ⟨w.heap.size, 1, none⟩ = some (.int .i64 n) ∧ w'.cell? ⟨w.heap.size, 2, none⟩ = some (.string name) ∧ w'.cell? ⟨w.heap.size, 3, none⟩ = some (v3) ∧ w'.cell? ⟨w.heap.size + 1, 0, none⟩ = some (.int .i64 op') ∧ w'.cell? ⟨w.heap.size + 1, 1, none⟩ = some (.int .i64 n') ∧ w'.cell? ⟨w.heap.size + 1, 2, none⟩ = some (.string name') ∧ w'.cell? ⟨w.heap.size + 1, 3, none⟩ = some (v3')) (refine ⟨?_, ?_, ?_, ?_, ?_, ?_, ?_, ?_⟩ <;> assumption) (first | (go_at_call 32; have hba_ := hba; clear hba_; refine (to_Expr d' op' n' name' kids' v3' wa 0 w.heap.size hba.size hN1 h0' h1' h2' (h3'.below hba (Nat.le_refl _))).mono ?_; rintro e wb ⟨cs, rfl, hx, eb⟩; obtain ⟨xt_3, hcs, -, -, -, qt_3⟩ := ex_open d' (hx false); change _ = [.int .i64 op', .int .i64 n', .string name', xt_3] at hcs; subst hcs; clear hx; obtain ⟨At_3, pt_3, hft_3, _, _⟩ := qt_3.form; change _ = Value.slice At_3 kids'.length pt_3 at hft_3; subst hft_3; have hbb : Below w.heap.size w wb := hba.trans (eb.mono hba.size); have szeb := eb.size; have Rb0 := Ra0.below eb Ra0.lt; have yb0_0 : wb.cell? ⟨w.heap.size, 0, none⟩ = some (.int .i64 op) := Rb0.cell 0; have yb0_1 : wb.cell? ⟨w.heap.size, 1, none⟩ = some (.int .i64 n) := Rb0.cell 1; have yb0_2 : wb.cell? ⟨w.heap.size, 2, none⟩ = some (.string name) := Rb0.cell 2; have yb0_3 : wb.cell? ⟨w.heap.size, 3, none⟩ = some (v3) := Rb0.cell 3; have Rb1 := Ra1.below eb Ra1.lt; have yb1_0 : wb.cell? ⟨w.heap.size + 1, 0, none⟩ = some (.int .i64 op') := Rb1.cell 0; have yb1_1 : wb.cell? ⟨w.heap.size + 1, 1, none⟩ = some (.int .i64 n') := Rb1.cell 1; have yb1_2 : wb.cell? ⟨w.heap.size + 1, 2, none⟩ = some (.string name') := Rb1.cell 2; have yb1_3 : wb.cell? ⟨w.heap.size + 1, 3, none⟩ = some (v3') := Rb1.cell 3) | (go_at_call 32; refine (to_Expr d op n name kids v3 w2.drew 0 w.heap.size hbd.size hN0 h0 h1 h2 (h3.below hbd (Nat.le_refl _))).mono ?_; rintro e wa ⟨cs, rfl, hx, ea⟩; obtain ⟨xs_3, hcs, -, -, -, qs_3⟩ := ex_open d (hx false); change _ = [.int .i64 op, .int .i64 n, .string name, xs_3] at hcs; subst hcs; clear hx; obtain ⟨As_3, ps_3, hfs_3, _, _⟩ := qs_3.form; change _ = Value.slice As_3 kids.length ps_3 at hfs_3; subst hfs_3; have hba : Below w.heap.size w wa := hbd.trans (ea.mono hbd.size); have szea := ea.size; have Ra0 := DR2_0.below ea DR2_0.lt; have ya0_0 : wa.cell? ⟨w.heap.size, 0, none⟩ = some (.int .i64 op) := Ra0.cell 0; have ya0_1 : wa.cell? ⟨w.heap.size, 1, none⟩ = some (.int .i64 n) := Ra0.cell 1; have ya0_2 : wa.cell? ⟨w.heap.size, 2, none⟩ = some (.string name) := Ra0.cell 2; have ya0_3 : wa.cell? ⟨w.heap.size, 3, none⟩ = some (v3) := Ra0.cell 3; have Ra1 := DR2_1.below ea DR2_1.lt; have ya1_0 : wa.cell? ⟨w.heap.size + 1, 0, none⟩ = some (.int .i64 op') := Ra1.cell 0; have ya1_1 : wa.cell? ⟨w.heap.size + 1, 1, none⟩ = some (.int .i64 n') := Ra1.cell 1; have ya1_2 : wa.cell? ⟨w.heap.size + 1, 2, none⟩ = some (.string name') := Ra1.cell 2; have ya1_3 : wa.cell? ⟨w.heap.size + 1, 3, none⟩ = some (v3') := Ra1.cell 3) | (go_at_call 31; refine (specSameExpr_u d op n name kids (.slice As_3 kids.length ps_3) d' op' n' name' kids' (.slice At_3 kids'.length pt_3)  wb w2.drew.heap.size wa.heap.size wa.heap.size wb.heap.size (by omega) (Nat.le_refl _) hN0 hN1 h0 h1 h2 (qs_3.below eb (Nat.le_refl _)) h0' h1' h2' qt_3 ).mono ?_; rintro e wc ⟨rfl, ec⟩; have hbc : Below w.heap.size w wc := hbb.trans (ec.mono hbb.size); have szec := ec.size; have Rc0 := Rb0.below ec Rb0.lt; have Rc1 := Rb1.below ec Rb1.lt; have yc0_0 : wc.cell? ⟨w.heap.size, 0, none⟩ = some (.int .i64 op) := Rc0.cell 0; have yc0_1 : wc.cell? ⟨w.heap.size, 1, none⟩ = some (.int .i64 n) := Rc0.cell 1; have yc0_2 : wc.cell? ⟨w.heap.size, 2, none⟩ = some (.string name) := Rc0.cell 2; have yc0_3 : wc.cell? ⟨w.heap.size, 3, none⟩ = some (v3) := Rc0.cell 3; have yc1_0 : wc.cell? ⟨w.heap.size + 1, 0, none⟩ = some (.int .i64 op') := Rc1.cell 0; have yc1_1 : wc.cell? ⟨w.heap.size + 1, 1, none⟩ = some (.int .i64 n') := Rc1.cell 1; have yc1_2 : wc.cell? ⟨w.heap.size + 1, 2, none⟩ = some (.string name') := Rc1.cell 2; have yc1_3 : wc.cell? ⟨w.heap.size + 1, 3, none⟩ = some (v3') := Rc1.cell 3))
      clear y0_2 y1_2 y2_2 y3_2 y4_2 y5_2 y6_2 y7_2
      have hb3 := hbc
      clear ya0_0 ya0_1 ya0_2 ya0_3 ya1_0 ya1_1 ya1_2 ya1_3 yb0_0 yb0_1 yb0_2 yb0_3 yb1_0 yb1_1 yb1_2 yb1_3 yc0_0 yc0_1 yc0_2 yc0_3 yc1_0 yc1_1 yc1_2 yc1_3
      have y0_3 : (wc).cell? ⟨w.heap.size, 0, none⟩ = some (.int .i64 op) := Rc0.cell 0
      have y1_3 : (wc).cell? ⟨w.heap.size, 1, none⟩ = some (.int .i64 n) := Rc0.cell 1
      have y2_3 : (wc).cell? ⟨w.heap.size, 2, none⟩ = some (.string name) := Rc0.cell 2
      have y3_3 : (wc).cell? ⟨w.heap.size, 3, none⟩ = some (v3) := Rc0.cell 3
      have y4_3 : (wc).cell? ⟨w.heap.size + 1, 0, none⟩ = some (.int .i64 op') := Rc1.cell 0
      have y5_3 : (wc).cell? ⟨w.heap.size + 1, 1, none⟩ = some (.int .i64 n') := Rc1.cell 1
      have y6_3 : (wc).cell? ⟨w.heap.size + 1, 2, none⟩ = some (.string name') := Rc1.cell 2
      have y7_3 : (wc).cell? ⟨w.heap.size + 1, 3, none⟩ = some (v3') := Rc1.cell 3
      go_wp2_with fail
      refine (to_Expr d op n name kids v3 _ 0 w.heap.size hb3.size hN0 h0 h1 h2 (h3.below hb3 (Nat.le_refl _))).mono ?_
      rintro e u0 ⟨cs, rfl, hx, f0⟩
      obtain ⟨xx0_3, hcs, -, -, -, qx0_3⟩ := ex_open d (hx false)
      change _ = [.int .i64 op, .int .i64 n, .string name, xx0_3] at hcs
      subst hcs
      clear hx
      obtain ⟨Ax0_3, px0_3, hfx0_3, _, _⟩ := qx0_3.form
      change _ = Value.slice Ax0_3 kids.length px0_3 at hfx0_3
      subst hfx0_3
      have hb4 : Below w.heap.size w u0 := hb3.trans (f0.mono hb3.size)
      have sz4 := f0.size
      have R4_0 := Rc0.below f0 Rc0.lt
      have R4_1 := Rc1.below f0 Rc1.lt
      clear y0_3 y1_3 y2_3 y3_3 y4_3 y5_3 y6_3 y7_3
      clear Rc0 Rc1
      have hk0 : Below w.heap.size w (u0.alloc (.cells #[.int .i64 op, .int .i64 n, .string name, .slice Ax0_3 kids.length px0_3] 45)) := hb4.alloc hb4.size _
      have K0_0 : Row (u0.alloc (.cells #[.int .i64 op, .int .i64 n, .string name, .slice Ax0_3 kids.length px0_3] 45)) (w.heap.size) 40 #[.int .i64 op, .int .i64 n, .string name, v3] := R4_0.alloc _
      have K0_1 : Row (u0.alloc (.cells #[.int .i64 op, .int .i64 n, .string name, .slice Ax0_3 kids.length px0_3] 45)) (w.heap.size + 1) 40 #[.int .i64 op', .int .i64 n', .string name', v3'] := R4_1.alloc _
      have K0_2 : Row (u0.alloc (.cells #[.int .i64 op, .int .i64 n, .string name, .slice Ax0_3 kids.length px0_3] 45)) u0.heap.size 45 #[.int .i64 op, .int .i64 n, .string name, .slice Ax0_3 kids.length px0_3] := Row.new _ _ _
      have qx0_3_k0 : Sl false (exS false d) (u0.alloc (.cells #[.int .i64 op, .int .i64 n, .string name, .slice Ax0_3 kids.length px0_3] 45)) (wc).heap.size u0.heap.size kids (.slice Ax0_3 kids.length px0_3) := qx0_3.keep (Nat.le_refl _) (Nat.le_refl _) (fun b _ hb => Below.heap_alloc _ _ b (by omega))
      have zz0 : u0.heap.size < (u0.alloc (.cells #[.int .i64 op, .int .i64 n, .string name, .slice Ax0_3 kids.length px0_3] 45)).heap.size := by simp
      have y0_4 : (u0.alloc (.cells #[.int .i64 op, .int .i64 n, .string name, .slice Ax0_3 kids.length px0_3] 45)).cell? ⟨w.heap.size, 0, none⟩ = some (.int .i64 op) := K0_0.cell 0
      have y1_4 : (u0.alloc (.cells #[.int .i64 op, .int .i64 n, .string name, .slice Ax0_3 kids.length px0_3] 45)).cell? ⟨w.heap.size, 1, none⟩ = some (.int .i64 n) := K0_0.cell 1
      have y2_4 : (u0.alloc (.cells #[.int .i64 op, .int .i64 n, .string name, .slice Ax0_3 kids.length px0_3] 45)).cell? ⟨w.heap.size, 2, none⟩ = some (.string name) := K0_0.cell 2
      have y3_4 : (u0.alloc (.cells #[.int .i64 op, .int .i64 n, .string name, .slice Ax0_3 kids.length px0_3] 45)).cell? ⟨w.heap.size, 3, none⟩ = some (v3) := K0_0.cell 3
      have y4_4 : (u0.alloc (.cells #[.int .i64 op, .int .i64 n, .string name, .slice Ax0_3 kids.length px0_3] 45)).cell? ⟨w.heap.size + 1, 0, none⟩ = some (.int .i64 op') := K0_1.cell 0
      have y5_4 : (u0.alloc (.cells #[.int .i64 op, .int .i64 n, .string name, .slice Ax0_3 kids.length px0_3] 45)).cell? ⟨w.heap.size + 1, 1, none⟩ = some (.int .i64 n') := K0_1.cell 1
      have y6_4 : (u0.alloc (.cells #[.int .i64 op, .int .i64 n, .string name, .slice Ax0_3 kids.length px0_3] 45)).cell? ⟨w.heap.size + 1, 2, none⟩ = some (.string name') := K0_1.cell 2
      have y7_4 : (u0.alloc (.cells #[.int .i64 op, .int .i64 n, .string name, .slice Ax0_3 kids.length px0_3] 45)).cell? ⟨w.heap.size + 1, 3, none⟩ = some (v3') := K0_1.cell 3
      have y8_4 : (u0.alloc (.cells #[.int .i64 op, .int .i64 n, .string name, .slice Ax0_3 kids.length px0_3] 45)).cell? ⟨u0.heap.size, 0, none⟩ = some (.int .i64 op) := K0_2.cell 0
      have y9_4 : (u0.alloc (.cells #[.int .i64 op, .int .i64 n, .string name, .slice Ax0_3 kids.length px0_3] 45)).cell? ⟨u0.heap.size, 1, none⟩ = some (.int .i64 n) := K0_2.cell 1
      have y10_4 : (u0.alloc (.cells #[.int .i64 op, .int .i64 n, .string name, .slice Ax0_3 kids.length px0_3] 45)).cell? ⟨u0.heap.size, 2, none⟩ = some (.string name) := K0_2.cell 2
      have y11_4 : (u0.alloc (.cells #[.int .i64 op, .int .i64 n, .string name, .slice Ax0_3 kids.length px0_3] 45)).cell? ⟨u0.heap.size, 3, none⟩ = some (.slice Ax0_3 kids.length px0_3) := K0_2.cell 3
      go_wp2_with fail
      refine (to_Expr d' op' n' name' kids' v3' _ 0 w.heap.size hk0.size hN1 h0' h1' h2' (h3'.below hk0 (Nat.le_refl _))).mono ?_
      rintro e u1 ⟨cs, rfl, hx, f1⟩
      obtain ⟨xx1_3, hcs, -, -, -, qx1_3⟩ := ex_open d' (hx false)
      change _ = [.int .i64 op', .int .i64 n', .string name', xx1_3] at hcs
      subst hcs
      clear hx
      obtain ⟨Ax1_3, px1_3, hfx1_3, _, _⟩ := qx1_3.form
      change _ = Value.slice Ax1_3 kids'.length px1_3 at hfx1_3
      subst hfx1_3
      have hb5 : Below w.heap.size w u1 := hk0.trans (f1.mono hk0.size)
      have sz5 := f1.size
      have R5_0 := K0_0.below f1 K0_0.lt
      have R5_1 := K0_1.below f1 K0_1.lt
      have R5_2 := K0_2.below f1 K0_2.lt
      have qx0_3_5 := qx0_3_k0.below f1 (by first | omega | (simp; omega) | (simp at *; omega))
      clear y0_4 y1_4 y2_4 y3_4 y4_4 y5_4 y6_4 y7_4 y8_4 y9_4 y10_4 y11_4
      clear K0_0 K0_1 K0_2 qx0_3_k0
      have hk1 : Below w.heap.size w (u1.alloc (.cells #[.int .i64 op', .int .i64 n', .string name', .slice Ax1_3 kids'.length px1_3] 45)) := hb5.alloc hb5.size _
      have K1_0 : Row (u1.alloc (.cells #[.int .i64 op', .int .i64 n', .string name', .slice Ax1_3 kids'.length px1_3] 45)) (w.heap.size) 40 #[.int .i64 op, .int .i64 n, .string name, v3] := R5_0.alloc _
      have K1_1 : Row (u1.alloc (.cells #[.int .i64 op', .int .i64 n', .string name', .slice Ax1_3 kids'.length px1_3] 45)) (w.heap.size + 1) 40 #[.int .i64 op', .int .i64 n', .string name', v3'] := R5_1.alloc _
      have K1_2 : Row (u1.alloc (.cells #[.int .i64 op', .int .i64 n', .string name', .slice Ax1_3 kids'.length px1_3] 45)) (u0.heap.size) 45 #[.int .i64 op, .int .i64 n, .string name, .slice Ax0_3 kids.length px0_3] := R5_2.alloc _
      have K1_3 : Row (u1.alloc (.cells #[.int .i64 op', .int .i64 n', .string name', .slice Ax1_3 kids'.length px1_3] 45)) u1.heap.size 45 #[.int .i64 op', .int .i64 n', .string name', .slice Ax1_3 kids'.length px1_3] := Row.new _ _ _
      have qx0_3_k1 : Sl false (exS false d) (u1.alloc (.cells #[.int .i64 op', .int .i64 n', .string name', .slice Ax1_3 kids'.length px1_3] 45)) (wc).heap.size u0.heap.size kids (.slice Ax0_3 kids.length px0_3) := qx0_3_5.keep (Nat.le_refl _) (Nat.le_refl _) (fun b _ hb => Below.heap_alloc _ _ b (by omega))
      have qx1_3_k1 : Sl false (exS false d') (u1.alloc (.cells #[.int .i64 op', .int .i64 n', .string name', .slice Ax1_3 kids'.length px1_3] 45)) (u0.alloc (.cells #[.int .i64 op, .int .i64 n, .string name, .slice Ax0_3 kids.length px0_3] 45)).heap.size u1.heap.size kids' (.slice Ax1_3 kids'.length px1_3) := qx1_3.keep (Nat.le_refl _) (Nat.le_refl _) (fun b _ hb => Below.heap_alloc _ _ b (by omega))
      have zz1 : u1.heap.size < (u1.alloc (.cells #[.int .i64 op', .int .i64 n', .string name', .slice Ax1_3 kids'.length px1_3] 45)).heap.size := by simp
      have y0_5 : (u1.alloc (.cells #[.int .i64 op', .int .i64 n', .string name', .slice Ax1_3 kids'.length px1_3] 45)).cell? ⟨w.heap.size, 0, none⟩ = some (.int .i64 op) := K1_0.cell 0
      have y1_5 : (u1.alloc (.cells #[.int .i64 op', .int .i64 n', .string name', .slice Ax1_3 kids'.length px1_3] 45)).cell? ⟨w.heap.size, 1, none⟩ = some (.int .i64 n) := K1_0.cell 1
      have y2_5 : (u1.alloc (.cells #[.int .i64 op', .int .i64 n', .string name', .slice Ax1_3 kids'.length px1_3] 45)).cell? ⟨w.heap.size, 2, none⟩ = some (.string name) := K1_0.cell 2
      have y3_5 : (u1.alloc (.cells #[.int .i64 op', .int .i64 n', .string name', .slice Ax1_3 kids'.length px1_3] 45)).cell? ⟨w.heap.size, 3, none⟩ = some (v3) := K1_0.cell 3
      have y4_5 : (u1.alloc (.cells #[.int .i64 op', .int .i64 n', .string name', .slice Ax1_3 kids'.length px1_3] 45)).cell? ⟨w.heap.size + 1, 0, none⟩ = some (.int .i64 op') := K1_1.cell 0
      have y5_5 : (u1.alloc (.cells #[.int .i64 op', .int .i64 n', .string name', .slice Ax1_3 kids'.length px1_3] 45)).cell? ⟨w.heap.size + 1, 1, none⟩ = some (.int .i64 n') := K1_1.cell 1
      have y6_5 : (u1.alloc (.cells #[.int .i64 op', .int .i64 n', .string name', .slice Ax1_3 kids'.length px1_3] 45)).cell? ⟨w.heap.size + 1, 2, none⟩ = some (.string name') := K1_1.cell 2
      have y7_5 : (u1.alloc (.cells #[.int .i64 op', .int .i64 n', .string name', .slice Ax1_3 kids'.length px1_3] 45)).cell? ⟨w.heap.size + 1, 3, none⟩ = some (v3') := K1_1.cell 3
      have y8_5 : (u1.alloc (.cells #[.int .i64 op', .int .i64 n', .string name', .slice Ax1_3 kids'.length px1_3] 45)).cell? ⟨u0.heap.size, 0, none⟩ = some (.int .i64 op) := K1_2.cell 0
      have y9_5 : (u1.alloc (.cells #[.int .i64 op', .int .i64 n', .string name', .slice Ax1_3 kids'.length px1_3] 45)).cell? ⟨u0.heap.size, 1, none⟩ = some (.int .i64 n) := K1_2.cell 1
      have y10_5 : (u1.alloc (.cells #[.int .i64 op', .int .i64 n', .string name', .slice Ax1_3 kids'.length px1_3] 45)).cell? ⟨u0.heap.size, 2, none⟩ = some (.string name) := K1_2.cell 2
      have y11_5 : (u1.alloc (.cells #[.int .i64 op', .int .i64 n', .string name', .slice Ax1_3 kids'.length px1_3] 45)).cell? ⟨u0.heap.size, 3, none⟩ = some (.slice Ax0_3 kids.length px0_3) := K1_2.cell 3
      have y12_5 : (u1.alloc (.cells #[.int .i64 op', .int .i64 n', .string name', .slice Ax1_3 kids'.length px1_3] 45)).cell? ⟨u1.heap.size, 0, none⟩ = some (.int .i64 op') := K1_3.cell 0
      have y13_5 : (u1.alloc (.cells #[.int .i64 op', .int .i64 n', .string name', .slice Ax1_3 kids'.length px1_3] 45)).cell? ⟨u1.heap.size, 1, none⟩ = some (.int .i64 n') := K1_3.cell 1
      have y14_5 : (u1.alloc (.cells #[.int .i64 op', .int .i64 n', .string name', .slice Ax1_3 kids'.length px1_3] 45)).cell? ⟨u1.heap.size, 2, none⟩ = some (.string name') := K1_3.cell 2
      have y15_5 : (u1.alloc (.cells #[.int .i64 op', .int .i64 n', .string name', .slice Ax1_3 kids'.length px1_3] 45)).cell? ⟨u1.heap.size, 3, none⟩ = some (.slice Ax1_3 kids'.length px1_3) := K1_3.cell 3
      go_wp2_with fail
      refine (implSameExpr_u d op n name kids (.slice Ax0_3 kids.length px0_3) d' op' n' name' kids' (.slice Ax1_3 kids'.length px1_3)  _ (wc).heap.size u0.heap.size (u0.alloc (.cells #[.int .i64 op, .int .i64 n, .string name, .slice Ax0_3 kids.length px0_3] 45)).heap.size u1.heap.size (by first | omega | (simp; omega)) (by simp) hN0 hN1 h0 h1 h2 qx0_3_k1 h0' h1' h2' qx1_3_k1 ).mono ?_
      rintro e g0 ⟨rfl, eg⟩
      have tt : (u1.alloc (.cells #[.int .i64 op', .int .i64 n', .string name', .slice Ax1_3 kids'.length px1_3] 45)).heap.size ≤ g0.heap.size := eg.size
      have hb6 : Below w.heap.size w g0 := hk1.trans (eg.mono hk1.size)
      have sz6 := eg.size
      have R6_0 := K1_0.below eg K1_0.lt
      have R6_1 := K1_1.below eg K1_1.lt
      have R6_2 := K1_2.below eg K1_2.lt
      have R6_3 := K1_3.below eg K1_3.lt
      have qx0_3_6 := qx0_3_k1.below eg (by first | omega | (simp; omega) | (simp at *; omega))
      have qx1_3_6 := qx1_3_k1.below eg (by first | omega | (simp; omega) | (simp at *; omega))
      clear y0_5 y1_5 y2_5 y3_5 y4_5 y5_5 y6_5 y7_5 y8_5 y9_5 y10_5 y11_5 y12_5 y13_5 y14_5 y15_5
      clear K1_0 K1_1 K1_2 K1_3 qx0_3_k1 qx1_3_k1
      have y0_6 : (g0).cell? ⟨w.heap.size, 0, none⟩ = some (.int .i64 op) := R6_0.cell 0
      have y1_6 : (g0).cell? ⟨w.heap.size, 1, none⟩ = some (.int .i64 n) := R6_0.cell 1
      have y2_6 : (g0).cell? ⟨w.heap.size, 2, none⟩ = some (.string name) := R6_0.cell 2
      have y3_6 : (g0).cell? ⟨w.heap.size, 3, none⟩ = some (v3) := R6_0.cell 3
      have y4_6 : (g0).cell? ⟨w.heap.size + 1, 0, none⟩ = some (.int .i64 op') := R6_1.cell 0
      have y5_6 : (g0).cell? ⟨w.heap.size + 1, 1, none⟩ = some (.int .i64 n') := R6_1.cell 1
      have y6_6 : (g0).cell? ⟨w.heap.size + 1, 2, none⟩ = some (.string name') := R6_1.cell 2
      have y7_6 : (g0).cell? ⟨w.heap.size + 1, 3, none⟩ = some (v3') := R6_1.cell 3
      have y8_6 : (g0).cell? ⟨u0.heap.size, 0, none⟩ = some (.int .i64 op) := R6_2.cell 0
      have y9_6 : (g0).cell? ⟨u0.heap.size, 1, none⟩ = some (.int .i64 n) := R6_2.cell 1
      have y10_6 : (g0).cell? ⟨u0.heap.size, 2, none⟩ = some (.string name) := R6_2.cell 2
      have y11_6 : (g0).cell? ⟨u0.heap.size, 3, none⟩ = some (.slice Ax0_3 kids.length px0_3) := R6_2.cell 3
      have y12_6 : (g0).cell? ⟨u1.heap.size, 0, none⟩ = some (.int .i64 op') := R6_3.cell 0
      have y13_6 : (g0).cell? ⟨u1.heap.size, 1, none⟩ = some (.int .i64 n') := R6_3.cell 1
      have y14_6 : (g0).cell? ⟨u1.heap.size, 2, none⟩ = some (.string name') := R6_3.cell 2
      have y15_6 : (g0).cell? ⟨u1.heap.size, 3, none⟩ = some (.slice Ax1_3 kids'.length px1_3) := R6_3.cell 3
      go_wp2_with fail
      have hbd0 : Below w.heap.size w g0.drew := hb6.drew
      have D0_0 : Row g0.drew (w.heap.size) 40 #[.int .i64 op, .int .i64 n, .string name, v3] := R6_0
      have D0_1 : Row g0.drew (w.heap.size + 1) 40 #[.int .i64 op', .int .i64 n', .string name', v3'] := R6_1
      have D0_2 : Row g0.drew (u0.heap.size) 45 #[.int .i64 op, .int .i64 n, .string name, .slice Ax0_3 kids.length px0_3] := R6_2
      have D0_3 : Row g0.drew (u1.heap.size) 45 #[.int .i64 op', .int .i64 n', .string name', .slice Ax1_3 kids'.length px1_3] := R6_3
      have dqx0_3 : Sl false (exS false d) g0.drew (wc).heap.size u0.heap.size kids (.slice Ax0_3 kids.length px0_3) := qx0_3_6.keep (Nat.le_refl _) (Nat.le_refl _) (fun _ _ _ => rfl)
      have dqx1_3 : Sl false (exS false d') g0.drew (u0.alloc (.cells #[.int .i64 op, .int .i64 n, .string name, .slice Ax0_3 kids.length px0_3] 45)).heap.size u1.heap.size kids' (.slice Ax1_3 kids'.length px1_3) := qx1_3_6.keep (Nat.le_refl _) (Nat.le_refl _) (fun _ _ _ => rfl)
      have ts0 : g0.heap.size ≤ g0.drew.heap.size := Nat.le_refl _
      go_region_held3 (fun w' => w'.cell? ⟨w.heap.size, 0, none⟩ = some (.int .i64 op) ∧ w'.cell? ⟨w.heap.size, 1, none⟩ = some (.int .i64 n) ∧ w'.cell? ⟨w.heap.size, 2, none⟩ = some (.string name) ∧ w'.cell? ⟨w.heap.size, 3, none⟩ = some (v3) ∧ w'.cell? ⟨u0.heap.size, 0, none⟩ = some (.int .i64 op) ∧ w'.cell? ⟨u0.heap.size, 1, none⟩ = some (.int .i64 n) ∧ w'.cell? ⟨u0.heap.size, 2, none⟩ = some (.string name) ∧ w'.cell? ⟨u0.heap.size, 3, none⟩ = some (.slice Ax0_3 kids.length px0_3)) (refine ⟨?_, ?_, ?_, ?_, ?_, ?_, ?_, ?_⟩ <;> assumption) (first | (go_at_call 32; refine (to_Expr d op n name kids v3 g0.drew 0 w.heap.size hbd0.size hN0 h0 h1 h2 (h3.below hbd0 (Nat.le_refl _))).mono ?_; rintro e va0 ⟨cs, rfl, hx, ea0⟩; obtain ⟨xz0_3, hcs, -, -, -, qz0_3⟩ := ex_open d (hx false); change _ = [.int .i64 op, .int .i64 n, .string name, xz0_3] at hcs; subst hcs; clear hx; obtain ⟨Az0_3, pz0_3, hfz0_3, _, _⟩ := qz0_3.form; change _ = Value.slice Az0_3 kids.length pz0_3 at hfz0_3; subst hfz0_3; have hba0 : Below w.heap.size w va0 := hbd0.trans (ea0.mono hbd0.size); have sea0 := ea0.size; have P0_0 := D0_0.below ea0 D0_0.lt; have P0_1 := D0_1.below ea0 D0_1.lt; have P0_2 := D0_2.below ea0 D0_2.lt; have P0_3 := D0_3.below ea0 D0_3.lt; have m0_0_0 : va0.cell? ⟨w.heap.size, 0, none⟩ = some (.int .i64 op) := P0_0.cell 0; have m0_0_1 : va0.cell? ⟨w.heap.size, 1, none⟩ = some (.int .i64 n) := P0_0.cell 1; have m0_0_2 : va0.cell? ⟨w.heap.size, 2, none⟩ = some (.string name) := P0_0.cell 2; have m0_0_3 : va0.cell? ⟨w.heap.size, 3, none⟩ = some (v3) := P0_0.cell 3; have m0_2_0 : va0.cell? ⟨u0.heap.size, 0, none⟩ = some (.int .i64 op) := P0_2.cell 0; have m0_2_1 : va0.cell? ⟨u0.heap.size, 1, none⟩ = some (.int .i64 n) := P0_2.cell 1; have m0_2_2 : va0.cell? ⟨u0.heap.size, 2, none⟩ = some (.string name) := P0_2.cell 2; have m0_2_3 : va0.cell? ⟨u0.heap.size, 3, none⟩ = some (.slice Ax0_3 kids.length px0_3) := P0_2.cell 3) | (go_at_call 34; refine (eq_Expr d op n name kids (.slice Ax0_3 kids.length px0_3) (.slice Az0_3 kids.length pz0_3) va0 (wc).heap.size u0.heap.size g0.drew.heap.size va0.heap.size (by omega) (Nat.le_refl _) (dqx0_3.below ea0 (by omega)) qz0_3).mono ?_; rintro e vb0 ⟨rfl, eb0⟩; have hbb0 : Below w.heap.size w vb0 := hba0.trans (eb0.mono hba0.size); have seb0 := eb0.size; have Q0_0 := P0_0.below eb0 P0_0.lt; have Q0_1 := P0_1.below eb0 P0_1.lt; have Q0_2 := P0_2.below eb0 P0_2.lt; have Q0_3 := P0_3.below eb0 P0_3.lt; have n0_0_0 : vb0.cell? ⟨w.heap.size, 0, none⟩ = some (.int .i64 op) := Q0_0.cell 0; have n0_0_1 : vb0.cell? ⟨w.heap.size, 1, none⟩ = some (.int .i64 n) := Q0_0.cell 1; have n0_0_2 : vb0.cell? ⟨w.heap.size, 2, none⟩ = some (.string name) := Q0_0.cell 2; have n0_0_3 : vb0.cell? ⟨w.heap.size, 3, none⟩ = some (v3) := Q0_0.cell 3; have n0_2_0 : vb0.cell? ⟨u0.heap.size, 0, none⟩ = some (.int .i64 op) := Q0_2.cell 0; have n0_2_1 : vb0.cell? ⟨u0.heap.size, 1, none⟩ = some (.int .i64 n) := Q0_2.cell 1; have n0_2_2 : vb0.cell? ⟨u0.heap.size, 2, none⟩ = some (.string name) := Q0_2.cell 2; have n0_2_3 : vb0.cell? ⟨u0.heap.size, 3, none⟩ = some (.slice Ax0_3 kids.length px0_3) := Q0_2.cell 3))
      clear y0_6 y1_6 y2_6 y3_6 y4_6 y5_6 y6_6 y7_6 y8_6 y9_6 y10_6 y11_6 y12_6 y13_6 y14_6 y15_6
      have qx0_3_f0 := (dqx0_3.below ea0 (by omega)).below eb0 (by omega)
      have qx1_3_f0 := (dqx1_3.below ea0 (by omega)).below eb0 (by omega)
      clear m0_0_0 m0_0_1 m0_0_2 m0_0_3 m0_2_0 m0_2_1 m0_2_2 m0_2_3 n0_0_0 n0_0_1 n0_0_2 n0_0_3 n0_2_0 n0_2_1 n0_2_2 n0_2_3
      have y0_7 : (vb0).cell? ⟨w.heap.size, 0, none⟩ = some (.int .i64 op) := Q0_0.cell 0
      have y1_7 : (vb0).cell? ⟨w.heap.size, 1, none⟩ = some (.int .i64 n) := Q0_0.cell 1
      have y2_7 : (vb0).cell? ⟨w.heap.size, 2, none⟩ = some (.string name) := Q0_0.cell 2
      have y3_7 : (vb0).cell? ⟨w.heap.size, 3, none⟩ = some (v3) := Q0_0.cell 3
      have y4_7 : (vb0).cell? ⟨w.heap.size + 1, 0, none⟩ = some (.int .i64 op') := Q0_1.cell 0
      have y5_7 : (vb0).cell? ⟨w.heap.size + 1, 1, none⟩ = some (.int .i64 n') := Q0_1.cell 1
      have y6_7 : (vb0).cell? ⟨w.heap.size + 1, 2, none⟩ = some (.string name') := Q0_1.cell 2
      have y7_7 : (vb0).cell? ⟨w.heap.size + 1, 3, none⟩ = some (v3') := Q0_1.cell 3
      have y8_7 : (vb0).cell? ⟨u0.heap.size, 0, none⟩ = some (.int .i64 op) := Q0_2.cell 0
      have y9_7 : (vb0).cell? ⟨u0.heap.size, 1, none⟩ = some (.int .i64 n) := Q0_2.cell 1
      have y10_7 : (vb0).cell? ⟨u0.heap.size, 2, none⟩ = some (.string name) := Q0_2.cell 2
      have y11_7 : (vb0).cell? ⟨u0.heap.size, 3, none⟩ = some (.slice Ax0_3 kids.length px0_3) := Q0_2.cell 3
      have y12_7 : (vb0).cell? ⟨u1.heap.size, 0, none⟩ = some (.int .i64 op') := Q0_3.cell 0
      have y13_7 : (vb0).cell? ⟨u1.heap.size, 1, none⟩ = some (.int .i64 n') := Q0_3.cell 1
      have y14_7 : (vb0).cell? ⟨u1.heap.size, 2, none⟩ = some (.string name') := Q0_3.cell 2
      have y15_7 : (vb0).cell? ⟨u1.heap.size, 3, none⟩ = some (.slice Ax1_3 kids'.length px1_3) := Q0_3.cell 3
      go_wp2_with fail
      have hbd1 : Below w.heap.size w vb0.drew := hbb0.drew
      have D1_0 : Row vb0.drew (w.heap.size) 40 #[.int .i64 op, .int .i64 n, .string name, v3] := Q0_0
      have D1_1 : Row vb0.drew (w.heap.size + 1) 40 #[.int .i64 op', .int .i64 n', .string name', v3'] := Q0_1
      have D1_2 : Row vb0.drew (u0.heap.size) 45 #[.int .i64 op, .int .i64 n, .string name, .slice Ax0_3 kids.length px0_3] := Q0_2
      have D1_3 : Row vb0.drew (u1.heap.size) 45 #[.int .i64 op', .int .i64 n', .string name', .slice Ax1_3 kids'.length px1_3] := Q0_3
      have dqx0_3 : Sl false (exS false d) vb0.drew (wc).heap.size u0.heap.size kids (.slice Ax0_3 kids.length px0_3) := qx0_3_f0.keep (Nat.le_refl _) (Nat.le_refl _) (fun _ _ _ => rfl)
      have dqx1_3 : Sl false (exS false d') vb0.drew (u0.alloc (.cells #[.int .i64 op, .int .i64 n, .string name, .slice Ax0_3 kids.length px0_3] 45)).heap.size u1.heap.size kids' (.slice Ax1_3 kids'.length px1_3) := qx1_3_f0.keep (Nat.le_refl _) (Nat.le_refl _) (fun _ _ _ => rfl)
      have ts1 : vb0.heap.size ≤ vb0.drew.heap.size := Nat.le_refl _
      go_region_held3 (fun w' => w'.cell? ⟨w.heap.size + 1, 0, none⟩ = some (.int .i64 op') ∧ w'.cell? ⟨w.heap.size + 1, 1, none⟩ = some (.int .i64 n') ∧ w'.cell? ⟨w.heap.size + 1, 2, none⟩ = some (.string name') ∧ w'.cell? ⟨w.heap.size + 1, 3, none⟩ = some (v3') ∧ w'.cell? ⟨u1.heap.size, 0, none⟩ = some (.int .i64 op') ∧ w'.cell? ⟨u1.heap.size, 1, none⟩ = some (.int .i64 n') ∧ w'.cell? ⟨u1.heap.size, 2, none⟩ = some (.string name') ∧ w'.cell? ⟨u1.heap.size, 3, none⟩ = some (.slice Ax1_3 kids'.length px1_3)) (refine ⟨?_, ?_, ?_, ?_, ?_, ?_, ?_, ?_⟩ <;> assumption) (first | (go_at_call 32; refine (to_Expr d' op' n' name' kids' v3' vb0.drew 0 w.heap.size hbd1.size hN1 h0' h1' h2' (h3'.below hbd1 (Nat.le_refl _))).mono ?_; rintro e va1 ⟨cs, rfl, hx, ea1⟩; obtain ⟨xz1_3, hcs, -, -, -, qz1_3⟩ := ex_open d' (hx false); change _ = [.int .i64 op', .int .i64 n', .string name', xz1_3] at hcs; subst hcs; clear hx; obtain ⟨Az1_3, pz1_3, hfz1_3, _, _⟩ := qz1_3.form; change _ = Value.slice Az1_3 kids'.length pz1_3 at hfz1_3; subst hfz1_3; have hba1 : Below w.heap.size w va1 := hbd1.trans (ea1.mono hbd1.size); have sea1 := ea1.size; have P1_0 := D1_0.below ea1 D1_0.lt; have P1_1 := D1_1.below ea1 D1_1.lt; have P1_2 := D1_2.below ea1 D1_2.lt; have P1_3 := D1_3.below ea1 D1_3.lt; have m1_1_0 : va1.cell? ⟨w.heap.size + 1, 0, none⟩ = some (.int .i64 op') := P1_1.cell 0; have m1_1_1 : va1.cell? ⟨w.heap.size + 1, 1, none⟩ = some (.int .i64 n') := P1_1.cell 1; have m1_1_2 : va1.cell? ⟨w.heap.size + 1, 2, none⟩ = some (.string name') := P1_1.cell 2; have m1_1_3 : va1.cell? ⟨w.heap.size + 1, 3, none⟩ = some (v3') := P1_1.cell 3; have m1_3_0 : va1.cell? ⟨u1.heap.size, 0, none⟩ = some (.int .i64 op') := P1_3.cell 0; have m1_3_1 : va1.cell? ⟨u1.heap.size, 1, none⟩ = some (.int .i64 n') := P1_3.cell 1; have m1_3_2 : va1.cell? ⟨u1.heap.size, 2, none⟩ = some (.string name') := P1_3.cell 2; have m1_3_3 : va1.cell? ⟨u1.heap.size, 3, none⟩ = some (.slice Ax1_3 kids'.length px1_3) := P1_3.cell 3) | (go_at_call 34; refine (eq_Expr d' op' n' name' kids' (.slice Ax1_3 kids'.length px1_3) (.slice Az1_3 kids'.length pz1_3) va1 (u0.alloc (.cells #[.int .i64 op, .int .i64 n, .string name, .slice Ax0_3 kids.length px0_3] 45)).heap.size u1.heap.size vb0.drew.heap.size va1.heap.size (by omega) (Nat.le_refl _) (dqx1_3.below ea1 (by omega)) qz1_3).mono ?_; rintro e vb1 ⟨rfl, eb1⟩; have hbb1 : Below w.heap.size w vb1 := hba1.trans (eb1.mono hba1.size); have seb1 := eb1.size; have Q1_0 := P1_0.below eb1 P1_0.lt; have Q1_1 := P1_1.below eb1 P1_1.lt; have Q1_2 := P1_2.below eb1 P1_2.lt; have Q1_3 := P1_3.below eb1 P1_3.lt; have n1_1_0 : vb1.cell? ⟨w.heap.size + 1, 0, none⟩ = some (.int .i64 op') := Q1_1.cell 0; have n1_1_1 : vb1.cell? ⟨w.heap.size + 1, 1, none⟩ = some (.int .i64 n') := Q1_1.cell 1; have n1_1_2 : vb1.cell? ⟨w.heap.size + 1, 2, none⟩ = some (.string name') := Q1_1.cell 2; have n1_1_3 : vb1.cell? ⟨w.heap.size + 1, 3, none⟩ = some (v3') := Q1_1.cell 3; have n1_3_0 : vb1.cell? ⟨u1.heap.size, 0, none⟩ = some (.int .i64 op') := Q1_3.cell 0; have n1_3_1 : vb1.cell? ⟨u1.heap.size, 1, none⟩ = some (.int .i64 n') := Q1_3.cell 1; have n1_3_2 : vb1.cell? ⟨u1.heap.size, 2, none⟩ = some (.string name') := Q1_3.cell 2; have n1_3_3 : vb1.cell? ⟨u1.heap.size, 3, none⟩ = some (.slice Ax1_3 kids'.length px1_3) := Q1_3.cell 3))
      clear y0_7 y1_7 y2_7 y3_7 y4_7 y5_7 y6_7 y7_7 y8_7 y9_7 y10_7 y11_7 y12_7 y13_7 y14_7 y15_7
      have qx0_3_f1 := (dqx0_3.below ea1 (by omega)).below eb1 (by omega)
      have qx1_3_f1 := (dqx1_3.below ea1 (by omega)).below eb1 (by omega)
      clear m1_1_0 m1_1_1 m1_1_2 m1_1_3 m1_3_0 m1_3_1 m1_3_2 m1_3_3 n1_1_0 n1_1_1 n1_1_2 n1_1_3 n1_3_0 n1_3_1 n1_3_2 n1_3_3
      go_wp2_with fail
      go_ret
      exact ⟨rfl, hbb1⟩

set_option maxRecDepth 100000 in
theorem fnExactSameExpr_lifted (os : Os) (started : os.Started) (H : Type) (enc : TypeId × Value → H) :
    ReturnsInHanded {} Try.checked os 5 .any (Rows.fnExactSameExprSpec.pre6 enc Try.prog Try.f5 Rows.fnExactSameExprRow.domain false) (Rows.fnExactSameExprSpec.post enc Try.prog Try.f5 false true false false) := by
  refine returnsInHanded_of_change (C := Try.checked) own started (by kernel_rfl) Try.func5
    (ChangeSpec.witness6 (enc := enc) (C := Try.checked) false ⟨#[], #[.agg #[.int .i64 0, .int .i64 0, .string ⟨#[]⟩, .slice none 0 0], .agg #[.int .i64 0, .int .i64 0, .string ⟨#[]⟩, .slice none 0 0]], []⟩ 8 (by kernel_rfl) (by kernel_rfl) (by kernel_rfl) (by kernel_rfl)) ?_
  intro W base args ds gs before hval0 hW hcnd _
  have hval : ∀ (j : Nat) t v, Try.f5.params[j]? = some t → args[j]? = some v → Value.okWide Try.prog W .any base t v := hval0
  obtain ⟨p, q, hA0, hV, hrest⟩ := id hW
  have hA : DataW.TrodAll enc Try.prog W 0 (fun _ => true) true Try.f5.params.toList args.toList ds p := hA0
  rw [Try.params5] at hA hval
  obtain ⟨v0, v1, d0, d1, p0, p1, rfl, rfl, rfl, h0, h1⟩ := trodAll_two hA
  obtain ⟨rfl, rfl⟩ := trodVars_none hV
  obtain ⟨cs0, rfl, -⟩ := okWide_struct Try.underlying40 (hval 0 _ v0 rfl rfl)
  obtain ⟨fuel0, hf0⟩ := h0
  obtain ⟨da0, ha0⟩ := dec_Expr_at fuel0 (Nat.le_refl _) hf0
  obtain ⟨fu0, rfl⟩ : ∃ n, fuel0 = n + 1 := by
    cases fuel0 with
    | zero => exact ha0.elim
    | succ n => exact ⟨n, rfl⟩
  obtain ⟨s0_3, e0, g0_0, g0_1, g0_2, g0_3⟩ := ex_open fu0 ha0
  obtain ⟨t0_0, t0_1, t0_2, t0_3⟩ := da0
  obtain ⟨cs0⟩ := cs0
  simp only [Value.cells] at e0
  subst e0
  obtain ⟨cs1, rfl, -⟩ := okWide_struct Try.underlying40 (hval 1 _ v1 rfl rfl)
  obtain ⟨fuel1, hf1⟩ := h1
  obtain ⟨da1, ha1⟩ := dec_Expr_at fuel1 (Nat.le_refl _) hf1
  obtain ⟨fu1, rfl⟩ : ∃ n, fuel1 = n + 1 := by
    cases fuel1 with
    | zero => exact ha1.elim
    | succ n => exact ⟨n, rfl⟩
  obtain ⟨s1_3, e1, g1_0, g1_1, g1_2, g1_3⟩ := ex_open fu1 ha1
  obtain ⟨t1_0, t1_1, t1_2, t1_3⟩ := da1
  obtain ⟨cs1⟩ := cs1
  simp only [Value.cells] at e1
  subst e1
  have hcall := law_FnExactSameExpr fu0 t0_0 t0_1 t0_2 t0_3 s0_3 fu1 t1_0 t1_1 t1_2 t1_3 s1_3  W g0_0 g0_1 g0_2 g0_3 g1_0 g1_1 g1_2 g1_3 
  refine hcall.mono fun e W' ⟨he, hb⟩ => ?_
  subst he
  exact ⟨_, rfl, post_true laidO hW rfl (by kernel_rfl) Try.underlying4 (by rw [Try.params5]; intro t ht; simp only [List.mem_cons, List.not_mem_nil, or_false] at ht; rcases ht with rfl | rfl <;> exact ⟨by kernel_rfl, of_decide_eq_true (by kernel_rfl)⟩) rfl rfl rfl hb⟩

set_option maxRecDepth 100000 in
set_option maxHeartbeats 1000000 in
theorem fnExactSameExpr_facts : joinedFacts Try.prog 5 Try.f5 Rows.fnExactSameExprSpec Rows.fnExactSameExprRow = true := by
  unfold joinedFacts
  exact and_mk (and_mk (and_mk (and_mk (and_mk (and_mk (and_mk (and_mk (and_mk (and_mk (and_mk (and_mk (and_mk (and_mk (and_mk (and_mk (and_mk (and_mk (and_mk (and_mk (and_mk (and_mk (and_mk (and_mk (and_mk (and_mk (and_mk (and_mk (and_mk (and_mk (and_mk (by as_aux_lemma => kernel_rfl) laidO) mapsRowedO) (by as_aux_lemma => kernel_rfl)) (by as_aux_lemma => kernel_rfl)) (by as_aux_lemma => kernel_rfl)) (by as_aux_lemma => kernel_rfl)) (by as_aux_lemma => kernel_rfl)) (by as_aux_lemma => kernel_rfl)) (by as_aux_lemma => kernel_rfl)) (by as_aux_lemma => kernel_rfl)) (by as_aux_lemma => kernel_rfl)) (by as_aux_lemma => kernel_rfl)) (by as_aux_lemma => kernel_rfl)) (by as_aux_lemma => kernel_rfl)) (by as_aux_lemma => kernel_rfl)) (by as_aux_lemma => kernel_rfl)) (by as_aux_lemma => kernel_rfl)) (by as_aux_lemma => kernel_rfl)) (by as_aux_lemma => kernel_rfl)) (by as_aux_lemma => kernel_rfl)) (by as_aux_lemma => kernel_rfl)) (by rw [plainKeysO]; rfl)) (by as_aux_lemma => kernel_rfl)) stopsHeardO) mayEnter) (by rw [liftsFinal]; rfl)) (by rw [makeCut]; rfl)) (by as_aux_lemma => kernel_rfl)) (by as_aux_lemma => kernel_rfl)) (by as_aux_lemma => kernel_rfl)) (by as_aux_lemma => kernel_rfl)

theorem fnExactSameExpr_holds : Rows.FnExactSameExprSaid :=
  OpenClaim.holds_of_wide 5 Try.f5 rfl rfl rfl rfl rfl rfl rfl ⟨rfl, rfl, rfl, rfl, rfl⟩ rfl rfl rfl rfl rfl (by kernel_rfl) Try.func5 fnExactSameExpr_facts
    (of_decide_eq_true (by kernel_rfl)) (by unfold Func.isWrapper; first | (rw [if_pos (by decide +kernel)]; kernel_rfl) | (rw [if_neg (by decide +kernel)]; exact ⟨rfl, rfl⟩))
    (fun os started H enc _ => fnExactSameExpr_lifted os started H enc)
end Go.Proofs.Ytaokcnjjlbdnoaa

