/-
  The law SamePrograms, by its program and its reference. Conditions: the arguments read as data.
-/
import Derived.Test.YtaokcnjjlbdnoaaSame6
import Derived.Test.YtaokcnjjlbdnoaaSame
import Derived.Test.YtaokcnjjlbdnoaaEq
import Derived.Test.YtaokcnjjlbdnoaaDec
import Derived.Test.YtaokcnjjlbdnoaaFacts
import Derived.Deep.RegionHeld3
namespace Go.Proofs.Ytaokcnjjlbdnoaa
open Go.RowKit Go.ChangeShapes Go.WideShapes Go.Deep
set_option linter.unusedVariables false
theorem specSamePrograms_u (d : Nat) (fns : List FnD) (v0 : Value) (d' : Nat) (fns' : List FnD) (v0' : Value)  (w : World) (lo B : Nat) (lo' B' : Nat) (hB : B ≤ w.heap.size) (hB' : B' ≤ w.heap.size) (hN : (fns.length + sumBy fnN fns) ≤ 1048576) (hN' : (fns'.length + sumBy fnN fns') ≤ 1048576) (h0 : Sl false (fnS false d) w lo B fns v0) (h0' : Sl false (fnS false d') w lo' B' fns' v0')  : Calls Try.prog 54 #[.agg #[v0], .agg #[v0']] w fun e w' => e = .returned (.bool (eqB (⟨fns⟩ : ProgD) (⟨fns'⟩ : ProgD))) ∧ Below w.heap.size w w' := spec_SamePrograms d fns v0 d' fns' v0' w lo B lo' B' hB hB' h0 h0'
theorem implSamePrograms_u (d : Nat) (fns : List FnD) (v0 : Value) (d' : Nat) (fns' : List FnD) (v0' : Value)  (w : World) (lo B : Nat) (lo' B' : Nat) (hB : B ≤ w.heap.size) (hB' : B' ≤ w.heap.size) (hN : (fns.length + sumBy fnN fns) ≤ 1048576) (hN' : (fns'.length + sumBy fnN fns') ≤ 1048576) (h0 : Sl false (fnS false d) w lo B fns v0) (h0' : Sl false (fnS false d') w lo' B' fns' v0')  : Calls Try.prog 55 #[.agg #[v0], .agg #[v0']] w fun e w' => e = .returned (.bool (eqB (⟨fns⟩ : ProgD) (⟨fns'⟩ : ProgD))) ∧ Below w.heap.size w w' := impl_SamePrograms d fns v0 d' fns' v0' w lo B lo' B' hB hB' h0 h0'
set_option maxRecDepth 100000 in
set_option maxHeartbeats 4000000 in
theorem law_FnExactSamePrograms (d : Nat) (fns : List FnD) (v0 : Value) (d' : Nat) (fns' : List FnD) (v0' : Value)  (w : World) (h0 : Sl false (fnS false d) w 0 w.heap.size fns v0) (h0' : Sl false (fnS false d') w 0 w.heap.size fns' v0')  :
    Calls Try.prog 10 #[.agg #[v0], .agg #[v0']] w (Yes w) := by
  have hb0 : Below w.heap.size w ((w.alloc (.cells #[v0] 67)).alloc (.cells #[v0'] 67)) := ((Below.refl _ _).alloc (Nat.le_refl _) _).alloc (by simp) _
  have R0_0 : Row ((w.alloc (.cells #[v0] 67)).alloc (.cells #[v0'] 67)) (w.heap.size) 67 #[v0] := by simpa using (Row.new (w) _ _).alloc (.cells #[v0'] 67)
  have R0_1 : Row ((w.alloc (.cells #[v0] 67)).alloc (.cells #[v0'] 67)) (w.heap.size + 1) 67 #[v0'] := by simpa using Row.new (w.alloc (.cells #[v0] 67)) _ _
  go_enter Try.func10, Try.ntmps10
  go_wp2_with fail
  refine (sz_Program d fns v0 1048576 _ 0 w.heap.size (by omega) (by omega) hb0.size (h0.below hb0 (Nat.le_refl _))).mono ?_
  rintro e w1 ⟨r0, rfl, a0, b0, c0, e0⟩
  have hb1 : Below w.heap.size w w1 := hb0.trans (e0.mono hb0.size)
  have sz1 := e0.size
  have R1_0 := R0_0.below e0 R0_0.lt
  have R1_1 := R0_1.below e0 R0_1.lt
  clear R0_0 R0_1
  have C0 := Lib.hid c0
  clear c0
  by_cases hr0 : r0 < 0
  · go_wp2_with fail
    go_ret
    exact ⟨rfl, hb1⟩
  · have hN0 : (fns.length + sumBy fnN fns) ≤ 1048576 := by
      have := C0.out (by omega)
      omega
    have hr0' : 0 ≤ r0 := by omega
    clear C0
    have y0_1 : (w1).cell? ⟨w.heap.size, 0, none⟩ = some (v0) := R1_0.cell 0
    have y1_1 : (w1).cell? ⟨w.heap.size + 1, 0, none⟩ = some (v0') := R1_1.cell 0
    go_wp2_with fail
    refine (sz_Program d' fns' v0' r0 _ 0 w.heap.size (by omega) (by omega) hb1.size (h0'.below hb1 (Nat.le_refl _))).mono ?_
    rintro e w2 ⟨r1, rfl, a1, b1, c1, e1⟩
    have hb2 : Below w.heap.size w w2 := hb1.trans (e1.mono hb1.size)
    have sz2 := e1.size
    have R2_0 := R1_0.below e1 R1_0.lt
    have R2_1 := R1_1.below e1 R1_1.lt
    clear y0_1 y1_1
    clear R1_0 R1_1
    have C1 := Lib.hid c1
    clear c1
    by_cases hr1 : r1 < 0
    · go_wp2_with fail
      go_ret
      exact ⟨rfl, hb2⟩
    · have hN1 : (fns'.length + sumBy fnN fns') ≤ 1048576 := by
        have := C1.out (by omega)
        omega
      have hr1' : 0 ≤ r1 := by omega
      clear C1
      have y0_2 : (w2).cell? ⟨w.heap.size, 0, none⟩ = some (v0) := R2_0.cell 0
      have y1_2 : (w2).cell? ⟨w.heap.size + 1, 0, none⟩ = some (v0') := R2_1.cell 0
      clear a0 b0 a1 b1
      go_wp2_with fail
      have hbd : Below w.heap.size w w2.drew := hb2.drew
      have DR2_0 : Row w2.drew (w.heap.size) 67 #[v0] := R2_0
      have DR2_1 : Row w2.drew (w.heap.size + 1) 67 #[v0'] := R2_1
      go_region_held3 (fun w' => w'.cell? ⟨w.heap.size, 0, none⟩ = some (v0) ∧ w'.cell? ⟨w.heap.size + 1, 0, none⟩ = some (v0')) (refine ⟨?_, ?_⟩ <;> assumption) (first | (go_at_call 44; have hba_ := hba; clear hba_; refine (to_Program d' fns' v0' wa 0 w.heap.size hba.size hN1 (h0'.below hba (Nat.le_refl _))).mono ?_; rintro e wb ⟨cs, rfl, hx, eb⟩; obtain ⟨xt_0, rfl, qt_0⟩ := prog_open d' (hx false); clear hx; obtain ⟨At_0, pt_0, hft_0, _, _⟩ := qt_0.form; change _ = Value.slice At_0 fns'.length pt_0 at hft_0; subst hft_0; have hbb : Below w.heap.size w wb := hba.trans (eb.mono hba.size); have szeb := eb.size; have Rb0 := Ra0.below eb Ra0.lt; have yb0_0 : wb.cell? ⟨w.heap.size, 0, none⟩ = some (v0) := Rb0.cell 0; have Rb1 := Ra1.below eb Ra1.lt; have yb1_0 : wb.cell? ⟨w.heap.size + 1, 0, none⟩ = some (v0') := Rb1.cell 0) | (go_at_call 44; refine (to_Program d fns v0 w2.drew 0 w.heap.size hbd.size hN0 (h0.below hbd (Nat.le_refl _))).mono ?_; rintro e wa ⟨cs, rfl, hx, ea⟩; obtain ⟨xs_0, rfl, qs_0⟩ := prog_open d (hx false); clear hx; obtain ⟨As_0, ps_0, hfs_0, _, _⟩ := qs_0.form; change _ = Value.slice As_0 fns.length ps_0 at hfs_0; subst hfs_0; have hba : Below w.heap.size w wa := hbd.trans (ea.mono hbd.size); have szea := ea.size; have Ra0 := DR2_0.below ea DR2_0.lt; have ya0_0 : wa.cell? ⟨w.heap.size, 0, none⟩ = some (v0) := Ra0.cell 0; have Ra1 := DR2_1.below ea DR2_1.lt; have ya1_0 : wa.cell? ⟨w.heap.size + 1, 0, none⟩ = some (v0') := Ra1.cell 0) | (go_at_call 54; refine (specSamePrograms_u d fns (.slice As_0 fns.length ps_0) d' fns' (.slice At_0 fns'.length pt_0)  wb w2.drew.heap.size wa.heap.size wa.heap.size wb.heap.size (by omega) (Nat.le_refl _) hN0 hN1 (qs_0.below eb (Nat.le_refl _)) qt_0 ).mono ?_; rintro e wc ⟨rfl, ec⟩; have hbc : Below w.heap.size w wc := hbb.trans (ec.mono hbb.size); have szec := ec.size; have Rc0 := Rb0.below ec Rb0.lt; have Rc1 := Rb1.below ec Rb1.lt; have yc0_0 : wc.cell? ⟨w.heap.size, 0, none⟩ = some (v0) := Rc0.cell 0; have yc1_0 : wc.cell? ⟨w.heap.size + 1, 0, none⟩ = some (v0') := Rc1.cell 0))
      clear y0_2 y1_2
      have hb3 := hbc
      clear ya0_0 ya1_0 yb0_0 yb1_0 yc0_0 yc1_0
      have y0_3 : (wc).cell? ⟨w.heap.size, 0, none⟩ = some (v0) := Rc0.cell 0
      have y1_3 : (wc).cell? ⟨w.heap.size + 1, 0, none⟩ = some (v0') := Rc1.cell 0
      go_wp2_with fail
      refine (to_Program d fns v0 _ 0 w.heap.size hb3.size hN0 (h0.below hb3 (Nat.le_refl _))).mono ?_
      rintro e u0 ⟨cs, rfl, hx, f0⟩
      obtain ⟨xx0_0, rfl, qx0_0⟩ := prog_open d (hx false)
      clear hx
      obtain ⟨Ax0_0, px0_0, hfx0_0, _, _⟩ := qx0_0.form
      change _ = Value.slice Ax0_0 fns.length px0_0 at hfx0_0
      subst hfx0_0
      have hb4 : Below w.heap.size w u0 := hb3.trans (f0.mono hb3.size)
      have sz4 := f0.size
      have R4_0 := Rc0.below f0 Rc0.lt
      have R4_1 := Rc1.below f0 Rc1.lt
      clear y0_3 y1_3
      clear Rc0 Rc1
      have hk0 : Below w.heap.size w (u0.alloc (.cells #[.slice Ax0_0 fns.length px0_0] 72)) := hb4.alloc hb4.size _
      have K0_0 : Row (u0.alloc (.cells #[.slice Ax0_0 fns.length px0_0] 72)) (w.heap.size) 67 #[v0] := R4_0.alloc _
      have K0_1 : Row (u0.alloc (.cells #[.slice Ax0_0 fns.length px0_0] 72)) (w.heap.size + 1) 67 #[v0'] := R4_1.alloc _
      have K0_2 : Row (u0.alloc (.cells #[.slice Ax0_0 fns.length px0_0] 72)) u0.heap.size 72 #[.slice Ax0_0 fns.length px0_0] := Row.new _ _ _
      have qx0_0_k0 : Sl false (fnS false d) (u0.alloc (.cells #[.slice Ax0_0 fns.length px0_0] 72)) (wc).heap.size u0.heap.size fns (.slice Ax0_0 fns.length px0_0) := qx0_0.keep (Nat.le_refl _) (Nat.le_refl _) (fun b _ hb => Below.heap_alloc _ _ b (by omega))
      have zz0 : u0.heap.size < (u0.alloc (.cells #[.slice Ax0_0 fns.length px0_0] 72)).heap.size := by simp
      have y0_4 : (u0.alloc (.cells #[.slice Ax0_0 fns.length px0_0] 72)).cell? ⟨w.heap.size, 0, none⟩ = some (v0) := K0_0.cell 0
      have y1_4 : (u0.alloc (.cells #[.slice Ax0_0 fns.length px0_0] 72)).cell? ⟨w.heap.size + 1, 0, none⟩ = some (v0') := K0_1.cell 0
      have y2_4 : (u0.alloc (.cells #[.slice Ax0_0 fns.length px0_0] 72)).cell? ⟨u0.heap.size, 0, none⟩ = some (.slice Ax0_0 fns.length px0_0) := K0_2.cell 0
      go_wp2_with fail
      refine (to_Program d' fns' v0' _ 0 w.heap.size hk0.size hN1 (h0'.below hk0 (Nat.le_refl _))).mono ?_
      rintro e u1 ⟨cs, rfl, hx, f1⟩
      obtain ⟨xx1_0, rfl, qx1_0⟩ := prog_open d' (hx false)
      clear hx
      obtain ⟨Ax1_0, px1_0, hfx1_0, _, _⟩ := qx1_0.form
      change _ = Value.slice Ax1_0 fns'.length px1_0 at hfx1_0
      subst hfx1_0
      have hb5 : Below w.heap.size w u1 := hk0.trans (f1.mono hk0.size)
      have sz5 := f1.size
      have R5_0 := K0_0.below f1 K0_0.lt
      have R5_1 := K0_1.below f1 K0_1.lt
      have R5_2 := K0_2.below f1 K0_2.lt
      have qx0_0_5 := qx0_0_k0.below f1 (by first | omega | (simp; omega) | (simp at *; omega))
      clear y0_4 y1_4 y2_4
      clear K0_0 K0_1 K0_2 qx0_0_k0
      have hk1 : Below w.heap.size w (u1.alloc (.cells #[.slice Ax1_0 fns'.length px1_0] 72)) := hb5.alloc hb5.size _
      have K1_0 : Row (u1.alloc (.cells #[.slice Ax1_0 fns'.length px1_0] 72)) (w.heap.size) 67 #[v0] := R5_0.alloc _
      have K1_1 : Row (u1.alloc (.cells #[.slice Ax1_0 fns'.length px1_0] 72)) (w.heap.size + 1) 67 #[v0'] := R5_1.alloc _
      have K1_2 : Row (u1.alloc (.cells #[.slice Ax1_0 fns'.length px1_0] 72)) (u0.heap.size) 72 #[.slice Ax0_0 fns.length px0_0] := R5_2.alloc _
      have K1_3 : Row (u1.alloc (.cells #[.slice Ax1_0 fns'.length px1_0] 72)) u1.heap.size 72 #[.slice Ax1_0 fns'.length px1_0] := Row.new _ _ _
      have qx0_0_k1 : Sl false (fnS false d) (u1.alloc (.cells #[.slice Ax1_0 fns'.length px1_0] 72)) (wc).heap.size u0.heap.size fns (.slice Ax0_0 fns.length px0_0) := qx0_0_5.keep (Nat.le_refl _) (Nat.le_refl _) (fun b _ hb => Below.heap_alloc _ _ b (by omega))
      have qx1_0_k1 : Sl false (fnS false d') (u1.alloc (.cells #[.slice Ax1_0 fns'.length px1_0] 72)) (u0.alloc (.cells #[.slice Ax0_0 fns.length px0_0] 72)).heap.size u1.heap.size fns' (.slice Ax1_0 fns'.length px1_0) := qx1_0.keep (Nat.le_refl _) (Nat.le_refl _) (fun b _ hb => Below.heap_alloc _ _ b (by omega))
      have zz1 : u1.heap.size < (u1.alloc (.cells #[.slice Ax1_0 fns'.length px1_0] 72)).heap.size := by simp
      have y0_5 : (u1.alloc (.cells #[.slice Ax1_0 fns'.length px1_0] 72)).cell? ⟨w.heap.size, 0, none⟩ = some (v0) := K1_0.cell 0
      have y1_5 : (u1.alloc (.cells #[.slice Ax1_0 fns'.length px1_0] 72)).cell? ⟨w.heap.size + 1, 0, none⟩ = some (v0') := K1_1.cell 0
      have y2_5 : (u1.alloc (.cells #[.slice Ax1_0 fns'.length px1_0] 72)).cell? ⟨u0.heap.size, 0, none⟩ = some (.slice Ax0_0 fns.length px0_0) := K1_2.cell 0
      have y3_5 : (u1.alloc (.cells #[.slice Ax1_0 fns'.length px1_0] 72)).cell? ⟨u1.heap.size, 0, none⟩ = some (.slice Ax1_0 fns'.length px1_0) := K1_3.cell 0
      go_wp2_with fail
      refine (implSamePrograms_u d fns (.slice Ax0_0 fns.length px0_0) d' fns' (.slice Ax1_0 fns'.length px1_0)  _ (wc).heap.size u0.heap.size (u0.alloc (.cells #[.slice Ax0_0 fns.length px0_0] 72)).heap.size u1.heap.size (by first | omega | (simp; omega)) (by simp) hN0 hN1 qx0_0_k1 qx1_0_k1 ).mono ?_
      rintro e g0 ⟨rfl, eg⟩
      have tt : (u1.alloc (.cells #[.slice Ax1_0 fns'.length px1_0] 72)).heap.size ≤ g0.heap.size := eg.size
      have hb6 : Below w.heap.size w g0 := hk1.trans (eg.mono hk1.size)
      have sz6 := eg.size
      have R6_0 := K1_0.below eg K1_0.lt
      have R6_1 := K1_1.below eg K1_1.lt
      have R6_2 := K1_2.below eg K1_2.lt
      have R6_3 := K1_3.below eg K1_3.lt
      have qx0_0_6 := qx0_0_k1.below eg (by first | omega | (simp; omega) | (simp at *; omega))
      have qx1_0_6 := qx1_0_k1.below eg (by first | omega | (simp; omega) | (simp at *; omega))
      clear y0_5 y1_5 y2_5 y3_5
      clear K1_0 K1_1 K1_2 K1_3 qx0_0_k1 qx1_0_k1
      have y0_6 : (g0).cell? ⟨w.heap.size, 0, none⟩ = some (v0) := R6_0.cell 0
      have y1_6 : (g0).cell? ⟨w.heap.size + 1, 0, none⟩ = some (v0') := R6_1.cell 0
      have y2_6 : (g0).cell? ⟨u0.heap.size, 0, none⟩ = some (.slice Ax0_0 fns.length px0_0) := R6_2.cell 0
      have y3_6 : (g0).cell? ⟨u1.heap.size, 0, none⟩ = some (.slice Ax1_0 fns'.length px1_0) := R6_3.cell 0
      go_wp2_with fail
      have hbd0 : Below w.heap.size w g0.drew := hb6.drew
      have D0_0 : Row g0.drew (w.heap.size) 67 #[v0] := R6_0
      have D0_1 : Row g0.drew (w.heap.size + 1) 67 #[v0'] := R6_1
      have D0_2 : Row g0.drew (u0.heap.size) 72 #[.slice Ax0_0 fns.length px0_0] := R6_2
      have D0_3 : Row g0.drew (u1.heap.size) 72 #[.slice Ax1_0 fns'.length px1_0] := R6_3
      have dqx0_0 : Sl false (fnS false d) g0.drew (wc).heap.size u0.heap.size fns (.slice Ax0_0 fns.length px0_0) := qx0_0_6.keep (Nat.le_refl _) (Nat.le_refl _) (fun _ _ _ => rfl)
      have dqx1_0 : Sl false (fnS false d') g0.drew (u0.alloc (.cells #[.slice Ax0_0 fns.length px0_0] 72)).heap.size u1.heap.size fns' (.slice Ax1_0 fns'.length px1_0) := qx1_0_6.keep (Nat.le_refl _) (Nat.le_refl _) (fun _ _ _ => rfl)
      have ts0 : g0.heap.size ≤ g0.drew.heap.size := Nat.le_refl _
      go_region_held3 (fun w' => w'.cell? ⟨w.heap.size, 0, none⟩ = some (v0) ∧ w'.cell? ⟨u0.heap.size, 0, none⟩ = some (.slice Ax0_0 fns.length px0_0)) (refine ⟨?_, ?_⟩ <;> assumption) (first | (go_at_call 44; refine (to_Program d fns v0 g0.drew 0 w.heap.size hbd0.size hN0 (h0.below hbd0 (Nat.le_refl _))).mono ?_; rintro e va0 ⟨cs, rfl, hx, ea0⟩; obtain ⟨xz0_0, rfl, qz0_0⟩ := prog_open d (hx false); clear hx; obtain ⟨Az0_0, pz0_0, hfz0_0, _, _⟩ := qz0_0.form; change _ = Value.slice Az0_0 fns.length pz0_0 at hfz0_0; subst hfz0_0; have hba0 : Below w.heap.size w va0 := hbd0.trans (ea0.mono hbd0.size); have sea0 := ea0.size; have P0_0 := D0_0.below ea0 D0_0.lt; have P0_1 := D0_1.below ea0 D0_1.lt; have P0_2 := D0_2.below ea0 D0_2.lt; have P0_3 := D0_3.below ea0 D0_3.lt; have m0_0_0 : va0.cell? ⟨w.heap.size, 0, none⟩ = some (v0) := P0_0.cell 0; have m0_2_0 : va0.cell? ⟨u0.heap.size, 0, none⟩ = some (.slice Ax0_0 fns.length px0_0) := P0_2.cell 0) | (go_at_call 46; refine (eq_Program d fns (.slice Ax0_0 fns.length px0_0) (.slice Az0_0 fns.length pz0_0) va0 (wc).heap.size u0.heap.size g0.drew.heap.size va0.heap.size (by omega) (Nat.le_refl _) (dqx0_0.below ea0 (by omega)) qz0_0).mono ?_; rintro e vb0 ⟨rfl, eb0⟩; have hbb0 : Below w.heap.size w vb0 := hba0.trans (eb0.mono hba0.size); have seb0 := eb0.size; have Q0_0 := P0_0.below eb0 P0_0.lt; have Q0_1 := P0_1.below eb0 P0_1.lt; have Q0_2 := P0_2.below eb0 P0_2.lt; have Q0_3 := P0_3.below eb0 P0_3.lt; have n0_0_0 : vb0.cell? ⟨w.heap.size, 0, none⟩ = some (v0) := Q0_0.cell 0; have n0_2_0 : vb0.cell? ⟨u0.heap.size, 0, none⟩ = some (.slice Ax0_0 fns.length px0_0) := Q0_2.cell 0))
      clear y0_6 y1_6 y2_6 y3_6
      have qx0_0_f0 := (dqx0_0.below ea0 (by omega)).below eb0 (by omega)
      have qx1_0_f0 := (dqx1_0.below ea0 (by omega)).below eb0 (by omega)
      clear m0_0_0 m0_2_0 n0_0_0 n0_2_0
      have y0_7 : (vb0).cell? ⟨w.heap.size, 0, none⟩ = some (v0) := Q0_0.cell 0
      have y1_7 : (vb0).cell? ⟨w.heap.size + 1, 0, none⟩ = some (v0') := Q0_1.cell 0
      have y2_7 : (vb0).cell? ⟨u0.heap.size, 0, none⟩ = some (.slice Ax0_0 fns.length px0_0) := Q0_2.cell 0
      have y3_7 : (vb0).cell? ⟨u1.heap.size, 0, none⟩ = some (.slice Ax1_0 fns'.length px1_0) := Q0_3.cell 0
      go_wp2_with fail
      have hbd1 : Below w.heap.size w vb0.drew := hbb0.drew
      have D1_0 : Row vb0.drew (w.heap.size) 67 #[v0] := Q0_0
      have D1_1 : Row vb0.drew (w.heap.size + 1) 67 #[v0'] := Q0_1
      have D1_2 : Row vb0.drew (u0.heap.size) 72 #[.slice Ax0_0 fns.length px0_0] := Q0_2
      have D1_3 : Row vb0.drew (u1.heap.size) 72 #[.slice Ax1_0 fns'.length px1_0] := Q0_3
      have dqx0_0 : Sl false (fnS false d) vb0.drew (wc).heap.size u0.heap.size fns (.slice Ax0_0 fns.length px0_0) := qx0_0_f0.keep (Nat.le_refl _) (Nat.le_refl _) (fun _ _ _ => rfl)
      have dqx1_0 : Sl false (fnS false d') vb0.drew (u0.alloc (.cells #[.slice Ax0_0 fns.length px0_0] 72)).heap.size u1.heap.size fns' (.slice Ax1_0 fns'.length px1_0) := qx1_0_f0.keep (Nat.le_refl _) (Nat.le_refl _) (fun _ _ _ => rfl)
      have ts1 : vb0.heap.size ≤ vb0.drew.heap.size := Nat.le_refl _
      go_region_held3 (fun w' => w'.cell? ⟨w.heap.size + 1, 0, none⟩ = some (v0') ∧ w'.cell? ⟨u1.heap.size, 0, none⟩ = some (.slice Ax1_0 fns'.length px1_0)) (refine ⟨?_, ?_⟩ <;> assumption) (first | (go_at_call 44; refine (to_Program d' fns' v0' vb0.drew 0 w.heap.size hbd1.size hN1 (h0'.below hbd1 (Nat.le_refl _))).mono ?_; rintro e va1 ⟨cs, rfl, hx, ea1⟩; obtain ⟨xz1_0, rfl, qz1_0⟩ := prog_open d' (hx false); clear hx; obtain ⟨Az1_0, pz1_0, hfz1_0, _, _⟩ := qz1_0.form; change _ = Value.slice Az1_0 fns'.length pz1_0 at hfz1_0; subst hfz1_0; have hba1 : Below w.heap.size w va1 := hbd1.trans (ea1.mono hbd1.size); have sea1 := ea1.size; have P1_0 := D1_0.below ea1 D1_0.lt; have P1_1 := D1_1.below ea1 D1_1.lt; have P1_2 := D1_2.below ea1 D1_2.lt; have P1_3 := D1_3.below ea1 D1_3.lt; have m1_1_0 : va1.cell? ⟨w.heap.size + 1, 0, none⟩ = some (v0') := P1_1.cell 0; have m1_3_0 : va1.cell? ⟨u1.heap.size, 0, none⟩ = some (.slice Ax1_0 fns'.length px1_0) := P1_3.cell 0) | (go_at_call 46; refine (eq_Program d' fns' (.slice Ax1_0 fns'.length px1_0) (.slice Az1_0 fns'.length pz1_0) va1 (u0.alloc (.cells #[.slice Ax0_0 fns.length px0_0] 72)).heap.size u1.heap.size vb0.drew.heap.size va1.heap.size (by omega) (Nat.le_refl _) (dqx1_0.below ea1 (by omega)) qz1_0).mono ?_; rintro e vb1 ⟨rfl, eb1⟩; have hbb1 : Below w.heap.size w vb1 := hba1.trans (eb1.mono hba1.size); have seb1 := eb1.size; have Q1_0 := P1_0.below eb1 P1_0.lt; have Q1_1 := P1_1.below eb1 P1_1.lt; have Q1_2 := P1_2.below eb1 P1_2.lt; have Q1_3 := P1_3.below eb1 P1_3.lt; have n1_1_0 : vb1.cell? ⟨w.heap.size + 1, 0, none⟩ = some (v0') := Q1_1.cell 0; have n1_3_0 : vb1.cell? ⟨u1.heap.size, 0, none⟩ = some (.slice Ax1_0 fns'.length px1_0) := Q1_3.cell 0))
      clear y0_7 y1_7 y2_7 y3_7
      have qx0_0_f1 := (dqx0_0.below ea1 (by omega)).below eb1 (by omega)
      have qx1_0_f1 := (dqx1_0.below ea1 (by omega)).below eb1 (by omega)
      clear m1_1_0 m1_3_0 n1_1_0 n1_3_0
      go_wp2_with fail
      go_ret
      exact ⟨rfl, hbb1⟩

set_option maxRecDepth 100000 in
theorem fnExactSamePrograms_lifted (os : Os) (started : os.Started) (H : Type) (enc : TypeId × Value → H) :
    ReturnsInHanded {} Try.checked os 10 .any (Rows.fnExactSameProgramsSpec.pre6 enc Try.prog Try.f10 Rows.fnExactSameProgramsRow.domain false) (Rows.fnExactSameProgramsSpec.post enc Try.prog Try.f10 false true false false) := by
  refine returnsInHanded_of_change (C := Try.checked) own started (by kernel_rfl) Try.func10
    (ChangeSpec.witness6 (enc := enc) (C := Try.checked) false ⟨#[], #[.agg #[.slice none 0 0], .agg #[.slice none 0 0]], []⟩ 8 (by kernel_rfl) (by kernel_rfl) (by kernel_rfl) (by kernel_rfl)) ?_
  intro W base args ds gs before hval0 hW hcnd _
  have hval : ∀ (j : Nat) t v, Try.f10.params[j]? = some t → args[j]? = some v → Value.okWide Try.prog W .any base t v := hval0
  obtain ⟨p, q, hA0, hV, hrest⟩ := id hW
  have hA : DataW.TrodAll enc Try.prog W 0 (fun _ => true) true Try.f10.params.toList args.toList ds p := hA0
  rw [Try.params10] at hA hval
  obtain ⟨v0, v1, d0, d1, p0, p1, rfl, rfl, rfl, h0, h1⟩ := trodAll_two hA
  obtain ⟨rfl, rfl⟩ := trodVars_none hV
  obtain ⟨cs0, rfl, -⟩ := okWide_struct Try.underlying67 (hval 0 _ v0 rfl rfl)
  obtain ⟨fuel0, hf0⟩ := h0
  obtain ⟨da0, ha0⟩ := dec_Program_at fuel0 (Nat.le_refl _) hf0
  obtain ⟨s0_0, e0, g0_0⟩ := prog_open fuel0 ha0
  obtain ⟨t0_0⟩ := da0
  obtain ⟨cs0⟩ := cs0
  simp only [Value.cells] at e0
  subst e0
  obtain ⟨cs1, rfl, -⟩ := okWide_struct Try.underlying67 (hval 1 _ v1 rfl rfl)
  obtain ⟨fuel1, hf1⟩ := h1
  obtain ⟨da1, ha1⟩ := dec_Program_at fuel1 (Nat.le_refl _) hf1
  obtain ⟨s1_0, e1, g1_0⟩ := prog_open fuel1 ha1
  obtain ⟨t1_0⟩ := da1
  obtain ⟨cs1⟩ := cs1
  simp only [Value.cells] at e1
  subst e1
  have hcall := law_FnExactSamePrograms fuel0 t0_0 s0_0 fuel1 t1_0 s1_0  W g0_0 g1_0 
  refine hcall.mono fun e W' ⟨he, hb⟩ => ?_
  subst he
  exact ⟨_, rfl, post_true laidO hW rfl (by kernel_rfl) Try.underlying4 (by rw [Try.params10]; intro t ht; simp only [List.mem_cons, List.not_mem_nil, or_false] at ht; rcases ht with rfl | rfl <;> exact ⟨by kernel_rfl, of_decide_eq_true (by kernel_rfl)⟩) rfl rfl rfl hb⟩

set_option maxRecDepth 100000 in
set_option maxHeartbeats 1000000 in
theorem fnExactSamePrograms_facts : joinedFacts Try.prog 10 Try.f10 Rows.fnExactSameProgramsSpec Rows.fnExactSameProgramsRow = true := by
  unfold joinedFacts
  exact and_mk (and_mk (and_mk (and_mk (and_mk (and_mk (and_mk (and_mk (and_mk (and_mk (and_mk (and_mk (and_mk (and_mk (and_mk (and_mk (and_mk (and_mk (and_mk (and_mk (and_mk (and_mk (and_mk (and_mk (and_mk (and_mk (and_mk (and_mk (and_mk (and_mk (and_mk (by as_aux_lemma => kernel_rfl) laidO) mapsRowedO) (by as_aux_lemma => kernel_rfl)) (by as_aux_lemma => kernel_rfl)) (by as_aux_lemma => kernel_rfl)) (by as_aux_lemma => kernel_rfl)) (by as_aux_lemma => kernel_rfl)) (by as_aux_lemma => kernel_rfl)) (by as_aux_lemma => kernel_rfl)) (by as_aux_lemma => kernel_rfl)) (by as_aux_lemma => kernel_rfl)) (by as_aux_lemma => kernel_rfl)) (by as_aux_lemma => kernel_rfl)) (by as_aux_lemma => kernel_rfl)) (by as_aux_lemma => kernel_rfl)) (by as_aux_lemma => kernel_rfl)) (by as_aux_lemma => kernel_rfl)) (by as_aux_lemma => kernel_rfl)) (by as_aux_lemma => kernel_rfl)) (by as_aux_lemma => kernel_rfl)) (by as_aux_lemma => kernel_rfl)) (by rw [plainKeysO]; rfl)) (by as_aux_lemma => kernel_rfl)) stopsHeardO) mayEnter) (by rw [liftsFinal]; rfl)) (by rw [makeCut]; rfl)) (by as_aux_lemma => kernel_rfl)) (by as_aux_lemma => kernel_rfl)) (by as_aux_lemma => kernel_rfl)) (by as_aux_lemma => kernel_rfl)

theorem fnExactSamePrograms_holds : Rows.FnExactSameProgramsSaid :=
  OpenClaim.holds_of_wide 10 Try.f10 rfl rfl rfl rfl rfl rfl rfl ⟨rfl, rfl, rfl, rfl, rfl⟩ rfl rfl rfl rfl rfl (by kernel_rfl) Try.func10 fnExactSamePrograms_facts
    (of_decide_eq_true (by kernel_rfl)) (by unfold Func.isWrapper; first | (rw [if_pos (by decide +kernel)]; kernel_rfl) | (rw [if_neg (by decide +kernel)]; exact ⟨rfl, rfl⟩))
    (fun os started H enc _ => fnExactSamePrograms_lifted os started H enc)
end Go.Proofs.Ytaokcnjjlbdnoaa

