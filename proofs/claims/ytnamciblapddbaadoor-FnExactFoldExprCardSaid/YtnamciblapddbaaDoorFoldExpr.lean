/-
  Several texts in one: FoldExpr.
-/
import Derived.Test.YtnamciblapddbaaDoorLaws
import Derived.Test.YtnamciblapddbaaDoorMarkX
import Derived.Test.YtnamciblapddbaaDoorReg2
import Derived.Deep.DeepCutAuto
import Derived.Test.YtnamciblapddbaaDoorFoldB
namespace Go.Proofs.YtnamciblapddbaaDoor
open Go.RowKit Go.ChangeShapes Go.WideShapes Go.Deep

set_option linter.unusedVariables false
set_option linter.unusedSimpArgs false
theorem ex_sl3 (d : Nat) {m : Bool} {w : World} {lo B : Nat} {a : Ex} {c0 c1 c2 c3 : Value} (h : (exS m (d + 1)).rep w lo B a [c0, c1, c2, c3]) : Sl m (exS m d) w lo B a.kids c3 := by
  obtain ⟨d0, d1, d2, d3, e, h0, h1, h2, h3⟩ := h
  injection e with e0 e
  injection e with e1 e
  injection e with e2 e
  injection e with e3 e
  obtain ⟨v, ev, hv⟩ := h3
  injection ev with ev
  rw [e3, ev]
  exact hv

theorem foldV_parts (e : Ex) : partsE (foldV e).1 ≤ 30 := by
  unfold foldV
  split
  · rename_i h
    exact Nat.le_trans (foldE_form 6 e (val_form h)).2 (valE_parts h)
  · exact (by decide : partsE exZ ≤ 30)
theorem specFoldExpr_u (d : Nat) (op n : Int) (name : ByteArray) (kids : List Ex) (v3 : Value) (w : World) (lo B : Nat) (hB : B ≤ w.heap.size) (_ : name.size + (kids.length + sumBy exN kids) ≤ 1048576) (ho : I64 op) (hn : I64 n) (hnm : name.size ≤ maxLen) (h3 : Sl false (exS false d) w lo B kids v3) (ht : Tabs w) : Calls Tryd.prog 36 #[.agg #[.int .i64 op, .int .i64 n, .string name, v3]] w (PairP 12 (foldV (.mk op n name kids)) w) := spec_FoldExpr d op n name kids v3 w lo B hB ho hn hnm h3 ht
theorem implFoldExpr_u (d : Nat) (op n : Int) (name : ByteArray) (kids : List Ex) (v3 : Value) (w : World) (lo B : Nat) (hB : B ≤ w.heap.size) (_ : name.size + (kids.length + sumBy exN kids) ≤ 1048576) (ho : I64 op) (hn : I64 n) (hnm : name.size ≤ maxLen) (h3 : Sl false (exS false d) w lo B kids v3) (ht : Tabs w) : Calls Tryd.prog 37 #[.agg #[.int .i64 op, .int .i64 n, .string name, v3]] w (PairP 12 (foldV (.mk op n name kids)) w) := impl_FoldExpr d op n name kids v3 w lo B hB ho hn hnm h3 ht
set_option maxRecDepth 100000 in
set_option maxHeartbeats 8000000 in
theorem law_FnExactFoldExpr (d : Nat) (op n : Int) (name : ByteArray) (kids : List Ex) (v3 : Value) (w : World) (h0 : I64 op) (h1 : I64 n) (h2 : name.size ≤ maxLen) (h3 : Sl false (exS false d) w 0 w.heap.size kids v3) (ht : Tabs w) :
    Calls Tryd.prog 11 #[.agg #[.int .i64 op, .int .i64 n, .string name, v3]] w (Yes w) := by
  have hb0 : Below w.heap.size w (w.alloc (.cells #[.int .i64 op, .int .i64 n, .string name, v3] 24)) := (Below.refl _ _).alloc (Nat.le_refl _) _
  have RL0_0 : Row (w.alloc (.cells #[.int .i64 op, .int .i64 n, .string name, v3] 24)) (w.heap.size) 24 #[.int .i64 op, .int .i64 n, .string name, v3] := by simpa using Row.new (w) _ _
  have sz0 : w.heap.size + 1 = (w.alloc (.cells #[.int .i64 op, .int .i64 n, .string name, v3] 24)).heap.size := by simp
  go_enter Tryd.func11, Tryd.ntmps11
  go_wp2_with fail
  refine (sz_Expr d op n name kids v3 1048576 _ 0 w.heap.size (by omega) (by omega) hb0.size h0 h1 h2 (h3.below hb0 (Nat.le_refl _))).mono ?_
  rintro e ws0 ⟨r0, rfl, a0, b0, c0, e0⟩
  have hb1 : Below w.heap.size w ws0 := hb0.trans (e0.mono hb0.size)
  have sz1 : (w.alloc (.cells #[.int .i64 op, .int .i64 n, .string name, v3] 24)).heap.size ≤ ws0.heap.size := e0.size
  have RL0_1 : Row (ws0) (w.heap.size) 24 #[.int .i64 op, .int .i64 n, .string name, v3] := RL0_0.below e0 RL0_0.lt
  clear RL0_0
  have C0 := Lib.hid c0
  clear c0
  by_cases hr0 : r0 < 0
  · go_wp2_with fail
    go_ret
    exact ⟨rfl, hb1⟩
  have hN0 : name.size + (kids.length + sumBy exN kids) ≤ 1048576 := by
    have := C0.out (by omega)
    omega
  have hr0' : 0 ≤ r0 := by omega
  clear C0
  clear a0 b0
  obtain ⟨zop, zn, znm, zk, rb, hR⟩ : ∃ (zop zn : Int) (znm : ByteArray) (zk : List Ex) (rb : Bool), (foldV (.mk op n name kids)) = (.mk zop zn znm zk, rb) := by
    cases hq : (foldV (.mk op n name kids)) with
    | mk x y => cases x with
      | mk a b c d => exact ⟨a, b, c, d, y, rfl⟩
  have hzp : partsL zk ≤ 100 := by
    have h1 := foldV_parts (.mk op n name kids)
    rw [hR] at h1
    change partsE (.mk zop zn znm zk) ≤ 30 at h1
    rw [partsE_mk] at h1
    omega
  replace hR := Lib.hid hR
  have hPL0 : partsL kids ≤ 1048576 := by
    have h1 := partsL_le kids
    rw [exNs_eq] at h1
    omega
  have yL00_1 : (ws0).cell? ⟨w.heap.size, 0, none⟩ = some (.int .i64 op) := RL0_1.cell 0
  have yL01_1 : (ws0).cell? ⟨w.heap.size, 1, none⟩ = some (.int .i64 n) := RL0_1.cell 1
  have yL02_1 : (ws0).cell? ⟨w.heap.size, 2, none⟩ = some (.string name) := RL0_1.cell 2
  have yL03_1 : (ws0).cell? ⟨w.heap.size, 3, none⟩ = some (v3) := RL0_1.cell 3
  go_wp2_with fail
  refine (to_Expr d op n name kids v3 _ 0 w.heap.size hb1.size hN0 h0 h1 h2 (h3.below hb1 (Nat.le_refl _))).mono ?_
  rintro e ur ⟨cs, rfl, hx, eur⟩
  obtain ⟨xar, hcs, -, -, -, qar⟩ := ex_open d (hx false)
  change _ = [.int .i64 op, .int .i64 n, .string name, xar] at hcs
  subst hcs
  clear hx
  obtain ⟨Aar, par, hf, _, _⟩ := qar.form
  change _ = Value.slice Aar kids.length par at hf
  subst hf
  have hb2 : Below w.heap.size w ur := hb1.trans (eur.mono hb1.size)
  have sz2 : (ws0).heap.size ≤ ur.heap.size := eur.size
  have RL0_2 : Row (ur) (w.heap.size) 24 #[.int .i64 op, .int .i64 n, .string name, v3] := RL0_1.below eur RL0_1.lt
  clear yL00_1 yL01_1 yL02_1 yL03_1
  clear RL0_1
  go_wp2_with fail
  refine (specFoldExpr_u d op n name kids (.slice Aar kids.length par) _ ws0.heap.size ur.heap.size (Nat.le_refl _) hN0 h0 h1 h2 qar (ht.below hb2 (Nat.le_refl _))).mono ?_
  rintro e vr ⟨v3', he, hx, evr⟩
  rw [hR.out] at he hx
  obtain ⟨Ar, pr, hw, _, _⟩ := (exT_kids 12 (hx false)).form
  change _ = Value.slice Ar zk.length pr at hw
  subst hw
  change _ = Ending.returned (.tuple #[.agg #[.int .i64 zop, .int .i64 zn, .string znm, .slice Ar zk.length pr], .bool rb]) at he
  subst he
  have qzr := exT_kids 12 (hx false)
  change SlT false (exT false 12) vr ur.heap.size vr.heap.size zk (.slice Ar zk.length pr) at qzr
  have tzr := exT_kids 12 (hx true)
  change SlT true (exT true 12) vr ur.heap.size vr.heap.size zk (.slice Ar zk.length pr) at tzr
  clear hx
  have hb3 : Below w.heap.size w vr := hb2.trans (evr.mono hb2.size)
  have sz3 : (ur).heap.size ≤ vr.heap.size := evr.size
  have RL0_3 : Row (vr) (w.heap.size) 24 #[.int .i64 op, .int .i64 n, .string name, v3] := RL0_2.below evr RL0_2.lt
  clear RL0_2
  have hb4 : Below w.heap.size w (vr.alloc (.cells #[.int .i64 zop, .int .i64 zn, .string znm, .slice Ar zk.length pr] 30)) := hb3.alloc hb3.size _
  have sz4 : vr.heap.size < (vr.alloc (.cells #[.int .i64 zop, .int .i64 zn, .string znm, .slice Ar zk.length pr] 30)).heap.size := by simp
  have RL0_4 : Row (vr.alloc (.cells #[.int .i64 zop, .int .i64 zn, .string znm, .slice Ar zk.length pr] 30)) (w.heap.size) 24 #[.int .i64 op, .int .i64 n, .string name, v3] := RL0_3.alloc _
  have Xqzr_4 : SlT false (exT false 12) (vr.alloc (.cells #[.int .i64 zop, .int .i64 zn, .string znm, .slice Ar zk.length pr] 30)) ur.heap.size vr.heap.size zk (.slice Ar zk.length pr) := qzr.keep (Nat.le_refl _) (Nat.le_refl _) (fun b h1 h2 => Below.heap_alloc _ _ b (by omega))
  have Xtzr_4 : SlT true (exT true 12) (vr.alloc (.cells #[.int .i64 zop, .int .i64 zn, .string znm, .slice Ar zk.length pr] 30)) ur.heap.size vr.heap.size zk (.slice Ar zk.length pr) := tzr.keep (Nat.le_refl _) (Nat.le_refl _) (fun b h1 h2 => Below.heap_alloc _ _ b (by omega))
  clear RL0_3 qzr tzr
  have RW_4 : Row (vr.alloc (.cells #[.int .i64 zop, .int .i64 zn, .string znm, .slice Ar zk.length pr] 30)) vr.heap.size 30 #[.int .i64 zop, .int .i64 zn, .string znm, .slice Ar zk.length pr] := Row.new _ _ _
  have yL00_4 : (vr.alloc (.cells #[.int .i64 zop, .int .i64 zn, .string znm, .slice Ar zk.length pr] 30)).cell? ⟨w.heap.size, 0, none⟩ = some (.int .i64 op) := RL0_4.cell 0
  have yL01_4 : (vr.alloc (.cells #[.int .i64 zop, .int .i64 zn, .string znm, .slice Ar zk.length pr] 30)).cell? ⟨w.heap.size, 1, none⟩ = some (.int .i64 n) := RL0_4.cell 1
  have yL02_4 : (vr.alloc (.cells #[.int .i64 zop, .int .i64 zn, .string znm, .slice Ar zk.length pr] 30)).cell? ⟨w.heap.size, 2, none⟩ = some (.string name) := RL0_4.cell 2
  have yL03_4 : (vr.alloc (.cells #[.int .i64 zop, .int .i64 zn, .string znm, .slice Ar zk.length pr] 30)).cell? ⟨w.heap.size, 3, none⟩ = some (v3) := RL0_4.cell 3
  go_wp2_with fail
  refine (to_Expr d op n name kids v3 _ 0 w.heap.size hb4.size hN0 h0 h1 h2 (h3.below hb4 (Nat.le_refl _))).mono ?_
  rintro e ux0 ⟨cs, rfl, hx, ex0⟩
  obtain ⟨xx0, hcs, -, -, -, qx0⟩ := ex_open d (hx false)
  change _ = [.int .i64 op, .int .i64 n, .string name, xx0] at hcs
  subst hcs
  have tx0 := ex_sl3 d (hx true)
  clear hx
  obtain ⟨Ax0, px0, hf, _, _⟩ := qx0.form
  change _ = Value.slice Ax0 kids.length px0 at hf
  subst hf
  have hb5 : Below w.heap.size w ux0 := hb4.trans (ex0.mono hb4.size)
  have sz5 : (vr.alloc (.cells #[.int .i64 zop, .int .i64 zn, .string znm, .slice Ar zk.length pr] 30)).heap.size ≤ ux0.heap.size := ex0.size
  have RL0_5 : Row (ux0) (w.heap.size) 24 #[.int .i64 op, .int .i64 n, .string name, v3] := RL0_4.below ex0 RL0_4.lt
  have RW_5 : Row (ux0) (vr.heap.size) 30 #[.int .i64 zop, .int .i64 zn, .string znm, .slice Ar zk.length pr] := RW_4.below ex0 RW_4.lt
  have Xqzr_5 : SlT false (exT false 12) (ux0) ur.heap.size vr.heap.size zk (.slice Ar zk.length pr) := Xqzr_4.below ex0 (by first | omega | (simp; omega) | (simp at *; omega))
  have Xtzr_5 : SlT true (exT true 12) (ux0) ur.heap.size vr.heap.size zk (.slice Ar zk.length pr) := Xtzr_4.below ex0 (by first | omega | (simp; omega) | (simp at *; omega))
  clear yL00_4 yL01_4 yL02_4 yL03_4
  clear RL0_4 RW_4 Xqzr_4 Xtzr_4
  have hb6 : Below w.heap.size w (ux0.alloc (.cells #[.int .i64 op, .int .i64 n, .string name, .slice Ax0 kids.length px0] 30)) := hb5.alloc hb5.size _
  have sz6 : ux0.heap.size < (ux0.alloc (.cells #[.int .i64 op, .int .i64 n, .string name, .slice Ax0 kids.length px0] 30)).heap.size := by simp
  have RL0_6 : Row (ux0.alloc (.cells #[.int .i64 op, .int .i64 n, .string name, .slice Ax0 kids.length px0] 30)) (w.heap.size) 24 #[.int .i64 op, .int .i64 n, .string name, v3] := RL0_5.alloc _
  have RW_6 : Row (ux0.alloc (.cells #[.int .i64 op, .int .i64 n, .string name, .slice Ax0 kids.length px0] 30)) (vr.heap.size) 30 #[.int .i64 zop, .int .i64 zn, .string znm, .slice Ar zk.length pr] := RW_5.alloc _
  have Xqzr_6 : SlT false (exT false 12) (ux0.alloc (.cells #[.int .i64 op, .int .i64 n, .string name, .slice Ax0 kids.length px0] 30)) ur.heap.size vr.heap.size zk (.slice Ar zk.length pr) := Xqzr_5.keep (Nat.le_refl _) (Nat.le_refl _) (fun b h1 h2 => Below.heap_alloc _ _ b (by omega))
  have Xtzr_6 : SlT true (exT true 12) (ux0.alloc (.cells #[.int .i64 op, .int .i64 n, .string name, .slice Ax0 kids.length px0] 30)) ur.heap.size vr.heap.size zk (.slice Ar zk.length pr) := Xtzr_5.keep (Nat.le_refl _) (Nat.le_refl _) (fun b h1 h2 => Below.heap_alloc _ _ b (by omega))
  have Xqx0_6 : Sl false (exS false d) (ux0.alloc (.cells #[.int .i64 op, .int .i64 n, .string name, .slice Ax0 kids.length px0] 30)) (vr.alloc (.cells #[.int .i64 zop, .int .i64 zn, .string znm, .slice Ar zk.length pr] 30)).heap.size ux0.heap.size kids (.slice Ax0 kids.length px0) := qx0.keep (Nat.le_refl _) (Nat.le_refl _) (fun b h1 h2 => Below.heap_alloc _ _ b (by omega))
  have Xtx0_6 : Sl true (exS true d) (ux0.alloc (.cells #[.int .i64 op, .int .i64 n, .string name, .slice Ax0 kids.length px0] 30)) (vr.alloc (.cells #[.int .i64 zop, .int .i64 zn, .string znm, .slice Ar zk.length pr] 30)).heap.size ux0.heap.size kids (.slice Ax0 kids.length px0) := tx0.keep (Nat.le_refl _) (Nat.le_refl _) (fun b h1 h2 => Below.heap_alloc _ _ b (by omega))
  clear RL0_5 RW_5 Xqzr_5 Xtzr_5 qx0 tx0
  have RX0_6 : Row (ux0.alloc (.cells #[.int .i64 op, .int .i64 n, .string name, .slice Ax0 kids.length px0] 30)) ux0.heap.size 30 #[.int .i64 op, .int .i64 n, .string name, .slice Ax0 kids.length px0] := Row.new _ _ _
  have yX00_6 : (ux0.alloc (.cells #[.int .i64 op, .int .i64 n, .string name, .slice Ax0 kids.length px0] 30)).cell? ⟨ux0.heap.size, 0, none⟩ = some (.int .i64 op) := RX0_6.cell 0
  have yX01_6 : (ux0.alloc (.cells #[.int .i64 op, .int .i64 n, .string name, .slice Ax0 kids.length px0] 30)).cell? ⟨ux0.heap.size, 1, none⟩ = some (.int .i64 n) := RX0_6.cell 1
  have yX02_6 : (ux0.alloc (.cells #[.int .i64 op, .int .i64 n, .string name, .slice Ax0 kids.length px0] 30)).cell? ⟨ux0.heap.size, 2, none⟩ = some (.string name) := RX0_6.cell 2
  have yX03_6 : (ux0.alloc (.cells #[.int .i64 op, .int .i64 n, .string name, .slice Ax0 kids.length px0] 30)).cell? ⟨ux0.heap.size, 3, none⟩ = some (.slice Ax0 kids.length px0) := RX0_6.cell 3
  go_wp2_with fail
  refine (implFoldExpr_u d op n name kids (.slice Ax0 kids.length px0) _ (vr.alloc (.cells #[.int .i64 zop, .int .i64 zn, .string znm, .slice Ar zk.length pr] 30)).heap.size ux0.heap.size (by first | omega | (simp; omega)) hN0 h0 h1 h2 Xqx0_6 (ht.below hb6 (Nat.le_refl _))).mono ?_
  rintro e vg ⟨v3', he, hx, evg⟩
  rw [hR.out] at he hx
  obtain ⟨Ag, pg, hw, _, _⟩ := (exT_kids 12 (hx false)).form
  change _ = Value.slice Ag zk.length pg at hw
  subst hw
  change _ = Ending.returned (.tuple #[.agg #[.int .i64 zop, .int .i64 zn, .string znm, .slice Ag zk.length pg], .bool rb]) at he
  subst he
  have qzg := exT_kids 12 (hx false)
  change SlT false (exT false 12) vg (ux0.alloc (.cells #[.int .i64 op, .int .i64 n, .string name, .slice Ax0 kids.length px0] 30)).heap.size vg.heap.size zk (.slice Ag zk.length pg) at qzg
  have tzg := exT_kids 12 (hx true)
  change SlT true (exT true 12) vg (ux0.alloc (.cells #[.int .i64 op, .int .i64 n, .string name, .slice Ax0 kids.length px0] 30)).heap.size vg.heap.size zk (.slice Ag zk.length pg) at tzg
  clear hx
  have hb7 : Below w.heap.size w vg := hb6.trans (evg.mono hb6.size)
  have sz7 : (ux0.alloc (.cells #[.int .i64 op, .int .i64 n, .string name, .slice Ax0 kids.length px0] 30)).heap.size ≤ vg.heap.size := evg.size
  have RL0_7 : Row (vg) (w.heap.size) 24 #[.int .i64 op, .int .i64 n, .string name, v3] := RL0_6.below evg RL0_6.lt
  have RW_7 : Row (vg) (vr.heap.size) 30 #[.int .i64 zop, .int .i64 zn, .string znm, .slice Ar zk.length pr] := RW_6.below evg RW_6.lt
  have RX0_7 : Row (vg) (ux0.heap.size) 30 #[.int .i64 op, .int .i64 n, .string name, .slice Ax0 kids.length px0] := RX0_6.below evg RX0_6.lt
  have Xqzr_7 : SlT false (exT false 12) (vg) ur.heap.size vr.heap.size zk (.slice Ar zk.length pr) := Xqzr_6.below evg (by first | omega | (simp; omega) | (simp at *; omega))
  have Xtzr_7 : SlT true (exT true 12) (vg) ur.heap.size vr.heap.size zk (.slice Ar zk.length pr) := Xtzr_6.below evg (by first | omega | (simp; omega) | (simp at *; omega))
  have Xqx0_7 : Sl false (exS false d) (vg) (vr.alloc (.cells #[.int .i64 zop, .int .i64 zn, .string znm, .slice Ar zk.length pr] 30)).heap.size ux0.heap.size kids (.slice Ax0 kids.length px0) := Xqx0_6.below evg (by first | omega | (simp; omega) | (simp at *; omega))
  have Xtx0_7 : Sl true (exS true d) (vg) (vr.alloc (.cells #[.int .i64 zop, .int .i64 zn, .string znm, .slice Ar zk.length pr] 30)).heap.size ux0.heap.size kids (.slice Ax0 kids.length px0) := Xtx0_6.below evg (by first | omega | (simp; omega) | (simp at *; omega))
  clear yX00_6 yX01_6 yX02_6 yX03_6
  clear RL0_6 RW_6 RX0_6 Xqzr_6 Xtzr_6 Xqx0_6 Xtx0_6
  have hb8 : Below w.heap.size w (vg.alloc (.cells #[.int .i64 zop, .int .i64 zn, .string znm, .slice Ag zk.length pg] 30)) := hb7.alloc hb7.size _
  have sz8 : vg.heap.size < (vg.alloc (.cells #[.int .i64 zop, .int .i64 zn, .string znm, .slice Ag zk.length pg] 30)).heap.size := by simp
  have RL0_8 : Row (vg.alloc (.cells #[.int .i64 zop, .int .i64 zn, .string znm, .slice Ag zk.length pg] 30)) (w.heap.size) 24 #[.int .i64 op, .int .i64 n, .string name, v3] := RL0_7.alloc _
  have RW_8 : Row (vg.alloc (.cells #[.int .i64 zop, .int .i64 zn, .string znm, .slice Ag zk.length pg] 30)) (vr.heap.size) 30 #[.int .i64 zop, .int .i64 zn, .string znm, .slice Ar zk.length pr] := RW_7.alloc _
  have RX0_8 : Row (vg.alloc (.cells #[.int .i64 zop, .int .i64 zn, .string znm, .slice Ag zk.length pg] 30)) (ux0.heap.size) 30 #[.int .i64 op, .int .i64 n, .string name, .slice Ax0 kids.length px0] := RX0_7.alloc _
  have Xqzr_8 : SlT false (exT false 12) (vg.alloc (.cells #[.int .i64 zop, .int .i64 zn, .string znm, .slice Ag zk.length pg] 30)) ur.heap.size vr.heap.size zk (.slice Ar zk.length pr) := Xqzr_7.keep (Nat.le_refl _) (Nat.le_refl _) (fun b h1 h2 => Below.heap_alloc _ _ b (by omega))
  have Xtzr_8 : SlT true (exT true 12) (vg.alloc (.cells #[.int .i64 zop, .int .i64 zn, .string znm, .slice Ag zk.length pg] 30)) ur.heap.size vr.heap.size zk (.slice Ar zk.length pr) := Xtzr_7.keep (Nat.le_refl _) (Nat.le_refl _) (fun b h1 h2 => Below.heap_alloc _ _ b (by omega))
  have Xqx0_8 : Sl false (exS false d) (vg.alloc (.cells #[.int .i64 zop, .int .i64 zn, .string znm, .slice Ag zk.length pg] 30)) (vr.alloc (.cells #[.int .i64 zop, .int .i64 zn, .string znm, .slice Ar zk.length pr] 30)).heap.size ux0.heap.size kids (.slice Ax0 kids.length px0) := Xqx0_7.keep (Nat.le_refl _) (Nat.le_refl _) (fun b h1 h2 => Below.heap_alloc _ _ b (by omega))
  have Xtx0_8 : Sl true (exS true d) (vg.alloc (.cells #[.int .i64 zop, .int .i64 zn, .string znm, .slice Ag zk.length pg] 30)) (vr.alloc (.cells #[.int .i64 zop, .int .i64 zn, .string znm, .slice Ar zk.length pr] 30)).heap.size ux0.heap.size kids (.slice Ax0 kids.length px0) := Xtx0_7.keep (Nat.le_refl _) (Nat.le_refl _) (fun b h1 h2 => Below.heap_alloc _ _ b (by omega))
  have Xqzg_8 : SlT false (exT false 12) (vg.alloc (.cells #[.int .i64 zop, .int .i64 zn, .string znm, .slice Ag zk.length pg] 30)) (ux0.alloc (.cells #[.int .i64 op, .int .i64 n, .string name, .slice Ax0 kids.length px0] 30)).heap.size vg.heap.size zk (.slice Ag zk.length pg) := qzg.keep (Nat.le_refl _) (Nat.le_refl _) (fun b h1 h2 => Below.heap_alloc _ _ b (by omega))
  have Xtzg_8 : SlT true (exT true 12) (vg.alloc (.cells #[.int .i64 zop, .int .i64 zn, .string znm, .slice Ag zk.length pg] 30)) (ux0.alloc (.cells #[.int .i64 op, .int .i64 n, .string name, .slice Ax0 kids.length px0] 30)).heap.size vg.heap.size zk (.slice Ag zk.length pg) := tzg.keep (Nat.le_refl _) (Nat.le_refl _) (fun b h1 h2 => Below.heap_alloc _ _ b (by omega))
  clear RL0_7 RW_7 RX0_7 Xqzr_7 Xtzr_7 Xqx0_7 Xtx0_7 qzg tzg
  have RG_8 : Row (vg.alloc (.cells #[.int .i64 zop, .int .i64 zn, .string znm, .slice Ag zk.length pg] 30)) vg.heap.size 30 #[.int .i64 zop, .int .i64 zn, .string znm, .slice Ag zk.length pg] := Row.new _ _ _
  have yW0_8 : (vg.alloc (.cells #[.int .i64 zop, .int .i64 zn, .string znm, .slice Ag zk.length pg] 30)).cell? ⟨vr.heap.size, 0, none⟩ = some (.int .i64 zop) := RW_8.cell 0
  have yW1_8 : (vg.alloc (.cells #[.int .i64 zop, .int .i64 zn, .string znm, .slice Ag zk.length pg] 30)).cell? ⟨vr.heap.size, 1, none⟩ = some (.int .i64 zn) := RW_8.cell 1
  have yW2_8 : (vg.alloc (.cells #[.int .i64 zop, .int .i64 zn, .string znm, .slice Ag zk.length pg] 30)).cell? ⟨vr.heap.size, 2, none⟩ = some (.string znm) := RW_8.cell 2
  have yW3_8 : (vg.alloc (.cells #[.int .i64 zop, .int .i64 zn, .string znm, .slice Ag zk.length pg] 30)).cell? ⟨vr.heap.size, 3, none⟩ = some (.slice Ar zk.length pr) := RW_8.cell 3
  have yG0_8 : (vg.alloc (.cells #[.int .i64 zop, .int .i64 zn, .string znm, .slice Ag zk.length pg] 30)).cell? ⟨vg.heap.size, 0, none⟩ = some (.int .i64 zop) := RG_8.cell 0
  have yG1_8 : (vg.alloc (.cells #[.int .i64 zop, .int .i64 zn, .string znm, .slice Ag zk.length pg] 30)).cell? ⟨vg.heap.size, 1, none⟩ = some (.int .i64 zn) := RG_8.cell 1
  have yG2_8 : (vg.alloc (.cells #[.int .i64 zop, .int .i64 zn, .string znm, .slice Ag zk.length pg] 30)).cell? ⟨vg.heap.size, 2, none⟩ = some (.string znm) := RG_8.cell 2
  have yG3_8 : (vg.alloc (.cells #[.int .i64 zop, .int .i64 zn, .string znm, .slice Ag zk.length pg] 30)).cell? ⟨vg.heap.size, 3, none⟩ = some (.slice Ag zk.length pg) := RG_8.cell 3
  go_wp2_with fail
  refine (eq_Expr 12 zop zn znm zk (.slice Ag zk.length pg) (.slice Ar zk.length pr) _ (ux0.alloc (.cells #[.int .i64 op, .int .i64 n, .string name, .slice Ax0 kids.length px0] 30)).heap.size vg.heap.size ur.heap.size vr.heap.size (by first | omega | (simp; omega)) (by first | omega | (simp; omega)) Xqzg_8.exS Xqzr_8.exS).mono ?_
  rintro e j1 ⟨rfl, e_j1⟩
  have hb9 : Below w.heap.size w j1 := hb8.trans (e_j1.mono hb8.size)
  have sz9 : (vg.alloc (.cells #[.int .i64 zop, .int .i64 zn, .string znm, .slice Ag zk.length pg] 30)).heap.size ≤ j1.heap.size := e_j1.size
  have RL0_9 : Row (j1) (w.heap.size) 24 #[.int .i64 op, .int .i64 n, .string name, v3] := RL0_8.below e_j1 RL0_8.lt
  have RW_9 : Row (j1) (vr.heap.size) 30 #[.int .i64 zop, .int .i64 zn, .string znm, .slice Ar zk.length pr] := RW_8.below e_j1 RW_8.lt
  have RX0_9 : Row (j1) (ux0.heap.size) 30 #[.int .i64 op, .int .i64 n, .string name, .slice Ax0 kids.length px0] := RX0_8.below e_j1 RX0_8.lt
  have RG_9 : Row (j1) (vg.heap.size) 30 #[.int .i64 zop, .int .i64 zn, .string znm, .slice Ag zk.length pg] := RG_8.below e_j1 RG_8.lt
  have Xqzr_9 : SlT false (exT false 12) (j1) ur.heap.size vr.heap.size zk (.slice Ar zk.length pr) := Xqzr_8.below e_j1 (by first | omega | (simp; omega) | (simp at *; omega))
  have Xtzr_9 : SlT true (exT true 12) (j1) ur.heap.size vr.heap.size zk (.slice Ar zk.length pr) := Xtzr_8.below e_j1 (by first | omega | (simp; omega) | (simp at *; omega))
  have Xqx0_9 : Sl false (exS false d) (j1) (vr.alloc (.cells #[.int .i64 zop, .int .i64 zn, .string znm, .slice Ar zk.length pr] 30)).heap.size ux0.heap.size kids (.slice Ax0 kids.length px0) := Xqx0_8.below e_j1 (by first | omega | (simp; omega) | (simp at *; omega))
  have Xtx0_9 : Sl true (exS true d) (j1) (vr.alloc (.cells #[.int .i64 zop, .int .i64 zn, .string znm, .slice Ar zk.length pr] 30)).heap.size ux0.heap.size kids (.slice Ax0 kids.length px0) := Xtx0_8.below e_j1 (by first | omega | (simp; omega) | (simp at *; omega))
  have Xqzg_9 : SlT false (exT false 12) (j1) (ux0.alloc (.cells #[.int .i64 op, .int .i64 n, .string name, .slice Ax0 kids.length px0] 30)).heap.size vg.heap.size zk (.slice Ag zk.length pg) := Xqzg_8.below e_j1 (by first | omega | (simp; omega) | (simp at *; omega))
  have Xtzg_9 : SlT true (exT true 12) (j1) (ux0.alloc (.cells #[.int .i64 op, .int .i64 n, .string name, .slice Ax0 kids.length px0] 30)).heap.size vg.heap.size zk (.slice Ag zk.length pg) := Xtzg_8.below e_j1 (by first | omega | (simp; omega) | (simp at *; omega))
  clear yW0_8 yW1_8 yW2_8 yW3_8 yG0_8 yG1_8 yG2_8 yG3_8
  clear RL0_8 RW_8 RX0_8 RG_8 Xqzr_8 Xtzr_8 Xqx0_8 Xtx0_8 Xqzg_8 Xtzg_8
  go_wp2_with fail
  have hbd10 : Below w.heap.size w j1.drew := hb9.drew
  have RL0_10 : Row (j1.drew) (w.heap.size) 24 #[.int .i64 op, .int .i64 n, .string name, v3] := RL0_9.drew
  have RW_10 : Row (j1.drew) (vr.heap.size) 30 #[.int .i64 zop, .int .i64 zn, .string znm, .slice Ar zk.length pr] := RW_9.drew
  have RX0_10 : Row (j1.drew) (ux0.heap.size) 30 #[.int .i64 op, .int .i64 n, .string name, .slice Ax0 kids.length px0] := RX0_9.drew
  have RG_10 : Row (j1.drew) (vg.heap.size) 30 #[.int .i64 zop, .int .i64 zn, .string znm, .slice Ag zk.length pg] := RG_9.drew
  have Xqzr_10 : SlT false (exT false 12) (j1.drew) ur.heap.size vr.heap.size zk (.slice Ar zk.length pr) := Xqzr_9.keep (Nat.le_refl _) (Nat.le_refl _) (fun _ _ _ => rfl)
  have Xtzr_10 : SlT true (exT true 12) (j1.drew) ur.heap.size vr.heap.size zk (.slice Ar zk.length pr) := Xtzr_9.keep (Nat.le_refl _) (Nat.le_refl _) (fun _ _ _ => rfl)
  have Xqx0_10 : Sl false (exS false d) (j1.drew) (vr.alloc (.cells #[.int .i64 zop, .int .i64 zn, .string znm, .slice Ar zk.length pr] 30)).heap.size ux0.heap.size kids (.slice Ax0 kids.length px0) := Xqx0_9.keep (Nat.le_refl _) (Nat.le_refl _) (fun _ _ _ => rfl)
  have Xtx0_10 : Sl true (exS true d) (j1.drew) (vr.alloc (.cells #[.int .i64 zop, .int .i64 zn, .string znm, .slice Ar zk.length pr] 30)).heap.size ux0.heap.size kids (.slice Ax0 kids.length px0) := Xtx0_9.keep (Nat.le_refl _) (Nat.le_refl _) (fun _ _ _ => rfl)
  have Xqzg_10 : SlT false (exT false 12) (j1.drew) (ux0.alloc (.cells #[.int .i64 op, .int .i64 n, .string name, .slice Ax0 kids.length px0] 30)).heap.size vg.heap.size zk (.slice Ag zk.length pg) := Xqzg_9.keep (Nat.le_refl _) (Nat.le_refl _) (fun _ _ _ => rfl)
  have Xtzg_10 : SlT true (exT true 12) (j1.drew) (ux0.alloc (.cells #[.int .i64 op, .int .i64 n, .string name, .slice Ax0 kids.length px0] 30)).heap.size vg.heap.size zk (.slice Ag zk.length pg) := Xtzg_9.keep (Nat.le_refl _) (Nat.le_refl _) (fun _ _ _ => rfl)
  clear RL0_9 RW_9 RX0_9 RG_9 Xqzr_9 Xtzr_9 Xqx0_9 Xtx0_9 Xqzg_9 Xtzg_9
  have szd10 : j1.heap.size ≤ j1.drew.heap.size := Nat.le_refl _
  have yL00_10 : (j1.drew).cell? ⟨w.heap.size, 0, none⟩ = some (.int .i64 op) := RL0_10.cell 0
  have yL01_10 : (j1.drew).cell? ⟨w.heap.size, 1, none⟩ = some (.int .i64 n) := RL0_10.cell 1
  have yL02_10 : (j1.drew).cell? ⟨w.heap.size, 2, none⟩ = some (.string name) := RL0_10.cell 2
  have yL03_10 : (j1.drew).cell? ⟨w.heap.size, 3, none⟩ = some (v3) := RL0_10.cell 3
  have yX00_10 : (j1.drew).cell? ⟨ux0.heap.size, 0, none⟩ = some (.int .i64 op) := RX0_10.cell 0
  have yX01_10 : (j1.drew).cell? ⟨ux0.heap.size, 1, none⟩ = some (.int .i64 n) := RX0_10.cell 1
  have yX02_10 : (j1.drew).cell? ⟨ux0.heap.size, 2, none⟩ = some (.string name) := RX0_10.cell 2
  have yX03_10 : (j1.drew).cell? ⟨ux0.heap.size, 3, none⟩ = some (.slice Ax0 kids.length px0) := RX0_10.cell 3
  refine wp_region_held_drew (S := fun w' => (w'.cell? ⟨ux0.heap.size, 0, none⟩ = some (.int .i64 op) ∧ w'.cell? ⟨ux0.heap.size, 1, none⟩ = some (.int .i64 n) ∧ w'.cell? ⟨ux0.heap.size, 2, none⟩ = some (.string name) ∧ w'.cell? ⟨ux0.heap.size, 3, none⟩ = some (.slice Ax0 kids.length px0) ∧ w'.cell? ⟨w.heap.size, 0, none⟩ = some (.int .i64 op) ∧ w'.cell? ⟨w.heap.size, 1, none⟩ = some (.int .i64 n) ∧ w'.cell? ⟨w.heap.size, 2, none⟩ = some (.string name) ∧ w'.cell? ⟨w.heap.size, 3, none⟩ = some (v3))) (by kernel_rfl) ?_ (fun hHeld => ?_)
  · ((try dsimp only); refine ⟨?_, ?_, ?_, ?_, ?_, ?_, ?_, ?_⟩ <;> assumption)
  refine reg_take (i := 0) (v := ?v1) rfl (by kernel_rfl) (by kernel_rfl) (by kernel_rfl) (fun _ _ _ h => h) (Or.inl ⟨by kernel_rfl, ?h1⟩) (by assumption) ?r1
  case h1 => (intro w hSw; (try dsimp only at hSw); go_simp; try with_reducible rfl)
  try simp only [Act.put, List.setIfInBounds_toArray, List.set_cons_zero, List.set_cons_succ]
  refine reg_take (i := 1) (v := ?v2) rfl (by kernel_rfl) (by kernel_rfl) (by kernel_rfl) (fun _ _ _ h => h) (Or.inl ⟨by kernel_rfl, ?h2⟩) (by assumption) ?r2
  case h2 => (intro w hSw; (try dsimp only at hSw); go_simp; try with_reducible rfl)
  try simp only [Act.put, List.setIfInBounds_toArray, List.set_cons_zero, List.set_cons_succ]
  refine reg_call (i := 2) (by kernel_rfl) rfl (fun K hK => ?_)
  go_simp
  refine (to_Expr d op n name kids v3 j1.drew 0 w.heap.size hbd10.size hN0 h0 h1 h2 (h3.below hbd10 (Nat.le_refl _))).mono ?_; rintro e uz0 ⟨cs, rfl, hx, ez0⟩; obtain ⟨xz0, hcs, -, -, -, qz0⟩ := ex_open d (hx false); change _ = [.int .i64 op, .int .i64 n, .string name, xz0] at hcs; subst hcs; clear hx; obtain ⟨Az0, pz0, hf, _, _⟩ := qz0.form; change _ = Value.slice Az0 kids.length pz0 at hf; subst hf; have hb11 : Below w.heap.size w uz0 := hbd10.trans (ez0.mono hbd10.size); have sz11 : (j1.drew).heap.size ≤ uz0.heap.size := ez0.size; have RL0_11 : Row (uz0) (w.heap.size) 24 #[.int .i64 op, .int .i64 n, .string name, v3] := RL0_10.below ez0 RL0_10.lt; have RW_11 : Row (uz0) (vr.heap.size) 30 #[.int .i64 zop, .int .i64 zn, .string znm, .slice Ar zk.length pr] := RW_10.below ez0 RW_10.lt; have RX0_11 : Row (uz0) (ux0.heap.size) 30 #[.int .i64 op, .int .i64 n, .string name, .slice Ax0 kids.length px0] := RX0_10.below ez0 RX0_10.lt; have RG_11 : Row (uz0) (vg.heap.size) 30 #[.int .i64 zop, .int .i64 zn, .string znm, .slice Ag zk.length pg] := RG_10.below ez0 RG_10.lt; have Xqzr_11 : SlT false (exT false 12) (uz0) ur.heap.size vr.heap.size zk (.slice Ar zk.length pr) := Xqzr_10.below ez0 (by first | omega | (simp; omega) | (simp at *; omega)); have Xtzr_11 : SlT true (exT true 12) (uz0) ur.heap.size vr.heap.size zk (.slice Ar zk.length pr) := Xtzr_10.below ez0 (by first | omega | (simp; omega) | (simp at *; omega)); have Xqx0_11 : Sl false (exS false d) (uz0) (vr.alloc (.cells #[.int .i64 zop, .int .i64 zn, .string znm, .slice Ar zk.length pr] 30)).heap.size ux0.heap.size kids (.slice Ax0 kids.length px0) := Xqx0_10.below ez0 (by first | omega | (simp; omega) | (simp at *; omega)); have Xtx0_11 : Sl true (exS true d) (uz0) (vr.alloc (.cells #[.int .i64 zop, .int .i64 zn, .string znm, .slice Ar zk.length pr] 30)).heap.size ux0.heap.size kids (.slice Ax0 kids.length px0) := Xtx0_10.below ez0 (by first | omega | (simp; omega) | (simp at *; omega)); have Xqzg_11 : SlT false (exT false 12) (uz0) (ux0.alloc (.cells #[.int .i64 op, .int .i64 n, .string name, .slice Ax0 kids.length px0] 30)).heap.size vg.heap.size zk (.slice Ag zk.length pg) := Xqzg_10.below ez0 (by first | omega | (simp; omega) | (simp at *; omega)); have Xtzg_11 : SlT true (exT true 12) (uz0) (ux0.alloc (.cells #[.int .i64 op, .int .i64 n, .string name, .slice Ax0 kids.length px0] 30)).heap.size vg.heap.size zk (.slice Ag zk.length pg) := Xtzg_10.below ez0 (by first | omega | (simp; omega) | (simp at *; omega)); clear yL00_10 yL01_10 yL02_10 yL03_10 yX00_10 yX01_10 yX02_10 yX03_10; clear RL0_10 RW_10 RX0_10 RG_10 Xqzr_10 Xtzr_10 Xqx0_10 Xtx0_10 Xqzg_10 Xtzg_10; have yL00_11 : (uz0).cell? ⟨w.heap.size, 0, none⟩ = some (.int .i64 op) := RL0_11.cell 0; have yL01_11 : (uz0).cell? ⟨w.heap.size, 1, none⟩ = some (.int .i64 n) := RL0_11.cell 1; have yL02_11 : (uz0).cell? ⟨w.heap.size, 2, none⟩ = some (.string name) := RL0_11.cell 2; have yL03_11 : (uz0).cell? ⟨w.heap.size, 3, none⟩ = some (v3) := RL0_11.cell 3; have yX00_11 : (uz0).cell? ⟨ux0.heap.size, 0, none⟩ = some (.int .i64 op) := RX0_11.cell 0; have yX01_11 : (uz0).cell? ⟨ux0.heap.size, 1, none⟩ = some (.int .i64 n) := RX0_11.cell 1; have yX02_11 : (uz0).cell? ⟨ux0.heap.size, 2, none⟩ = some (.string name) := RX0_11.cell 2; have yX03_11 : (uz0).cell? ⟨ux0.heap.size, 3, none⟩ = some (.slice Ax0 kids.length px0) := RX0_11.cell 3
  refine hK.out _ _ ?_ (fun hHeld => ?_)
  · ((try dsimp only); refine ⟨?_, ?_, ?_, ?_, ?_, ?_, ?_, ?_⟩ <;> assumption)
  clear hK K
  try simp only [Act.put, List.setIfInBounds_toArray, List.set_cons_zero, List.set_cons_succ]
  refine reg_call (i := 3) (by kernel_rfl) rfl (fun K hK => ?_)
  go_simp
  refine (eq_Expr d op n name kids (.slice Ax0 kids.length px0) (.slice Az0 kids.length pz0) uz0 (vr.alloc (.cells #[.int .i64 zop, .int .i64 zn, .string znm, .slice Ar zk.length pr] 30)).heap.size ux0.heap.size j1.drew.heap.size uz0.heap.size (by omega) (Nat.le_refl _) Xqx0_11 qz0).mono ?_; rintro e uy0 ⟨rfl, ey0⟩; have hb12 : Below w.heap.size w uy0 := hb11.trans (ey0.mono hb11.size); have sz12 : (uz0).heap.size ≤ uy0.heap.size := ey0.size; have RL0_12 : Row (uy0) (w.heap.size) 24 #[.int .i64 op, .int .i64 n, .string name, v3] := RL0_11.below ey0 RL0_11.lt; have RW_12 : Row (uy0) (vr.heap.size) 30 #[.int .i64 zop, .int .i64 zn, .string znm, .slice Ar zk.length pr] := RW_11.below ey0 RW_11.lt; have RX0_12 : Row (uy0) (ux0.heap.size) 30 #[.int .i64 op, .int .i64 n, .string name, .slice Ax0 kids.length px0] := RX0_11.below ey0 RX0_11.lt; have RG_12 : Row (uy0) (vg.heap.size) 30 #[.int .i64 zop, .int .i64 zn, .string znm, .slice Ag zk.length pg] := RG_11.below ey0 RG_11.lt; have Xqzr_12 : SlT false (exT false 12) (uy0) ur.heap.size vr.heap.size zk (.slice Ar zk.length pr) := Xqzr_11.below ey0 (by first | omega | (simp; omega) | (simp at *; omega)); have Xtzr_12 : SlT true (exT true 12) (uy0) ur.heap.size vr.heap.size zk (.slice Ar zk.length pr) := Xtzr_11.below ey0 (by first | omega | (simp; omega) | (simp at *; omega)); have Xqx0_12 : Sl false (exS false d) (uy0) (vr.alloc (.cells #[.int .i64 zop, .int .i64 zn, .string znm, .slice Ar zk.length pr] 30)).heap.size ux0.heap.size kids (.slice Ax0 kids.length px0) := Xqx0_11.below ey0 (by first | omega | (simp; omega) | (simp at *; omega)); have Xtx0_12 : Sl true (exS true d) (uy0) (vr.alloc (.cells #[.int .i64 zop, .int .i64 zn, .string znm, .slice Ar zk.length pr] 30)).heap.size ux0.heap.size kids (.slice Ax0 kids.length px0) := Xtx0_11.below ey0 (by first | omega | (simp; omega) | (simp at *; omega)); have Xqzg_12 : SlT false (exT false 12) (uy0) (ux0.alloc (.cells #[.int .i64 op, .int .i64 n, .string name, .slice Ax0 kids.length px0] 30)).heap.size vg.heap.size zk (.slice Ag zk.length pg) := Xqzg_11.below ey0 (by first | omega | (simp; omega) | (simp at *; omega)); have Xtzg_12 : SlT true (exT true 12) (uy0) (ux0.alloc (.cells #[.int .i64 op, .int .i64 n, .string name, .slice Ax0 kids.length px0] 30)).heap.size vg.heap.size zk (.slice Ag zk.length pg) := Xtzg_11.below ey0 (by first | omega | (simp; omega) | (simp at *; omega)); clear yL00_11 yL01_11 yL02_11 yL03_11 yX00_11 yX01_11 yX02_11 yX03_11; clear RL0_11 RW_11 RX0_11 RG_11 Xqzr_11 Xtzr_11 Xqx0_11 Xtx0_11 Xqzg_11 Xtzg_11; have yL00_12 : (uy0).cell? ⟨w.heap.size, 0, none⟩ = some (.int .i64 op) := RL0_12.cell 0; have yL01_12 : (uy0).cell? ⟨w.heap.size, 1, none⟩ = some (.int .i64 n) := RL0_12.cell 1; have yL02_12 : (uy0).cell? ⟨w.heap.size, 2, none⟩ = some (.string name) := RL0_12.cell 2; have yL03_12 : (uy0).cell? ⟨w.heap.size, 3, none⟩ = some (v3) := RL0_12.cell 3; have yX00_12 : (uy0).cell? ⟨ux0.heap.size, 0, none⟩ = some (.int .i64 op) := RX0_12.cell 0; have yX01_12 : (uy0).cell? ⟨ux0.heap.size, 1, none⟩ = some (.int .i64 n) := RX0_12.cell 1; have yX02_12 : (uy0).cell? ⟨ux0.heap.size, 2, none⟩ = some (.string name) := RX0_12.cell 2; have yX03_12 : (uy0).cell? ⟨ux0.heap.size, 3, none⟩ = some (.slice Ax0 kids.length px0) := RX0_12.cell 3
  refine hK.out _ _ ?_ (fun hHeld => ?_)
  · ((try dsimp only); refine ⟨?_, ?_, ?_, ?_, ?_, ?_, ?_, ?_⟩ <;> assumption)
  clear hK K
  try simp only [Act.put, List.setIfInBounds_toArray, List.set_cons_zero, List.set_cons_succ]
  refine reg_take (i := 4) (v := ?v5) rfl (by kernel_rfl) (by kernel_rfl) (by kernel_rfl) (fun _ _ _ h => h) (Or.inl ⟨by kernel_rfl, ?h5⟩) (by assumption) ?r5
  case h5 => (intro w hSw; (try dsimp only at hSw); go_simp; try with_reducible rfl)
  try simp only [Act.put, List.setIfInBounds_toArray, List.set_cons_zero, List.set_cons_succ]
  refine wpAnyH_done (by kernel_rfl) ?_ _
  clear yL00_12 yL01_12 yL02_12 yL03_12 yX00_12 yX01_12 yX02_12 yX03_12
  have yX00_12 : (uy0).cell? ⟨ux0.heap.size, 0, none⟩ = some (.int .i64 op) := RX0_12.cell 0
  have yX01_12 : (uy0).cell? ⟨ux0.heap.size, 1, none⟩ = some (.int .i64 n) := RX0_12.cell 1
  have yX02_12 : (uy0).cell? ⟨ux0.heap.size, 2, none⟩ = some (.string name) := RX0_12.cell 2
  have yX03_12 : (uy0).cell? ⟨ux0.heap.size, 3, none⟩ = some (.slice Ax0 kids.length px0) := RX0_12.cell 3
  go_wp2_with fail
  refine (mark_Expr d op n name kids (.slice Ax0 kids.length px0) 1 _ (vr.alloc (.cells #[.int .i64 zop, .int .i64 zn, .string znm, .slice Ar zk.length pr] 30)).heap.size ux0.heap.size (by omega) (by omega) Xtx0_12 (by first | omega | (simp; omega))).mono ?_
  rintro e m0 ⟨rk0, rfl, ka0, kb0, sf0⟩
  have hb13 : Below w.heap.size w m0 := hb12.trans (sf0.below (by omega) hb12.size)
  have sz13 : (uy0).heap.size ≤ m0.heap.size := sf0.size
  have RL0_13 : Row (m0) (w.heap.size) 24 #[.int .i64 op, .int .i64 n, .string name, v3] := RL0_12.soft sf0 (by omega)
  have RW_13 : Row (m0) (vr.heap.size) 30 #[.int .i64 zop, .int .i64 zn, .string znm, .slice Ar zk.length pr] := RW_12.soft sf0 (by omega)
  have RX0_13 : Row (m0) (ux0.heap.size) 30 #[.int .i64 op, .int .i64 n, .string name, .slice Ax0 kids.length px0] := RX0_12.soft sf0 (by omega)
  have RG_13 : Row (m0) (vg.heap.size) 30 #[.int .i64 zop, .int .i64 zn, .string znm, .slice Ag zk.length pg] := RG_12.soft sf0 (by omega)
  have Xqzr_13 : SlT false (exT false 12) (m0) ur.heap.size vr.heap.size zk (.slice Ar zk.length pr) := Xqzr_12.keep (Nat.le_refl _) (Nat.le_refl _) (sf0.same (by omega) (by omega))
  have Xtzr_13 : SlT true (exT true 12) (m0) ur.heap.size vr.heap.size zk (.slice Ar zk.length pr) := Xtzr_12.keep (Nat.le_refl _) (Nat.le_refl _) (sf0.same (by omega) (by omega))
  have Xqzg_13 : SlT false (exT false 12) (m0) (ux0.alloc (.cells #[.int .i64 op, .int .i64 n, .string name, .slice Ax0 kids.length px0] 30)).heap.size vg.heap.size zk (.slice Ag zk.length pg) := Xqzg_12.keep (Nat.le_refl _) (Nat.le_refl _) (sf0.same (by omega) (by omega))
  have Xtzg_13 : SlT true (exT true 12) (m0) (ux0.alloc (.cells #[.int .i64 op, .int .i64 n, .string name, .slice Ax0 kids.length px0] 30)).heap.size vg.heap.size zk (.slice Ag zk.length pg) := Xtzg_12.keep (Nat.le_refl _) (Nat.le_refl _) (sf0.same (by omega) (by omega))
  clear yX00_12 yX01_12 yX02_12 yX03_12
  clear RL0_12 RW_12 RX0_12 RG_12 Xqzr_12 Xtzr_12 Xqx0_12 Xtx0_12 Xqzg_12 Xtzg_12
  have hk0 : ¬ rk0 < 0 := by omega
  have yW0_13 : (m0).cell? ⟨vr.heap.size, 0, none⟩ = some (.int .i64 zop) := RW_13.cell 0
  have yW1_13 : (m0).cell? ⟨vr.heap.size, 1, none⟩ = some (.int .i64 zn) := RW_13.cell 1
  have yW2_13 : (m0).cell? ⟨vr.heap.size, 2, none⟩ = some (.string znm) := RW_13.cell 2
  have yW3_13 : (m0).cell? ⟨vr.heap.size, 3, none⟩ = some (.slice Ar zk.length pr) := RW_13.cell 3
  have yG0_13 : (m0).cell? ⟨vg.heap.size, 0, none⟩ = some (.int .i64 zop) := RG_13.cell 0
  have yG1_13 : (m0).cell? ⟨vg.heap.size, 1, none⟩ = some (.int .i64 zn) := RG_13.cell 1
  have yG2_13 : (m0).cell? ⟨vg.heap.size, 2, none⟩ = some (.string znm) := RG_13.cell 2
  have yG3_13 : (m0).cell? ⟨vg.heap.size, 3, none⟩ = some (.slice Ag zk.length pg) := RG_13.cell 3
  go_wp2_with fail
  refine (eq_Expr 12 zop zn znm zk (.slice Ag zk.length pg) (.slice Ar zk.length pr) _ (ux0.alloc (.cells #[.int .i64 op, .int .i64 n, .string name, .slice Ax0 kids.length px0] 30)).heap.size vg.heap.size ur.heap.size vr.heap.size (by first | omega | (simp; omega)) (by first | omega | (simp; omega)) Xqzg_13.exS Xqzr_13.exS).mono ?_
  rintro e j2 ⟨rfl, e_j2⟩
  have hb14 : Below w.heap.size w j2 := hb13.trans (e_j2.mono hb13.size)
  have sz14 : (m0).heap.size ≤ j2.heap.size := e_j2.size
  have RL0_14 : Row (j2) (w.heap.size) 24 #[.int .i64 op, .int .i64 n, .string name, v3] := RL0_13.below e_j2 RL0_13.lt
  have RW_14 : Row (j2) (vr.heap.size) 30 #[.int .i64 zop, .int .i64 zn, .string znm, .slice Ar zk.length pr] := RW_13.below e_j2 RW_13.lt
  have RX0_14 : Row (j2) (ux0.heap.size) 30 #[.int .i64 op, .int .i64 n, .string name, .slice Ax0 kids.length px0] := RX0_13.below e_j2 RX0_13.lt
  have RG_14 : Row (j2) (vg.heap.size) 30 #[.int .i64 zop, .int .i64 zn, .string znm, .slice Ag zk.length pg] := RG_13.below e_j2 RG_13.lt
  have Xqzr_14 : SlT false (exT false 12) (j2) ur.heap.size vr.heap.size zk (.slice Ar zk.length pr) := Xqzr_13.below e_j2 (by first | omega | (simp; omega) | (simp at *; omega))
  have Xtzr_14 : SlT true (exT true 12) (j2) ur.heap.size vr.heap.size zk (.slice Ar zk.length pr) := Xtzr_13.below e_j2 (by first | omega | (simp; omega) | (simp at *; omega))
  have Xqzg_14 : SlT false (exT false 12) (j2) (ux0.alloc (.cells #[.int .i64 op, .int .i64 n, .string name, .slice Ax0 kids.length px0] 30)).heap.size vg.heap.size zk (.slice Ag zk.length pg) := Xqzg_13.below e_j2 (by first | omega | (simp; omega) | (simp at *; omega))
  have Xtzg_14 : SlT true (exT true 12) (j2) (ux0.alloc (.cells #[.int .i64 op, .int .i64 n, .string name, .slice Ax0 kids.length px0] 30)).heap.size vg.heap.size zk (.slice Ag zk.length pg) := Xtzg_13.below e_j2 (by first | omega | (simp; omega) | (simp at *; omega))
  clear yW0_13 yW1_13 yW2_13 yW3_13 yG0_13 yG1_13 yG2_13 yG3_13
  clear RL0_13 RW_13 RX0_13 RG_13 Xqzr_13 Xtzr_13 Xqzg_13 Xtzg_13
  have yG0_14 : (j2).cell? ⟨vg.heap.size, 0, none⟩ = some (.int .i64 zop) := RG_14.cell 0
  have yG1_14 : (j2).cell? ⟨vg.heap.size, 1, none⟩ = some (.int .i64 zn) := RG_14.cell 1
  have yG2_14 : (j2).cell? ⟨vg.heap.size, 2, none⟩ = some (.string znm) := RG_14.cell 2
  have yG3_14 : (j2).cell? ⟨vg.heap.size, 3, none⟩ = some (.slice Ag zk.length pg) := RG_14.cell 3
  go_wp2_with fail
  refine (markx_Expr 12 zop zn znm zk (.slice Ag zk.length pg) 1 _ (ux0.alloc (.cells #[.int .i64 op, .int .i64 n, .string name, .slice Ax0 kids.length px0] 30)).heap.size vg.heap.size (by omega) (by first | omega | (simp; omega)) Xtzg_14).mono ?_
  rintro e j3 ⟨rfl, hm, sg⟩
  have hb15 : Below w.heap.size w j3 := hb14.trans (sg.below (by omega) hb14.size)
  have sz15 : (j2).heap.size ≤ j3.heap.size := sg.size
  have RL0_15 : Row (j3) (w.heap.size) 24 #[.int .i64 op, .int .i64 n, .string name, v3] := RL0_14.soft sg (by omega)
  have RW_15 : Row (j3) (vr.heap.size) 30 #[.int .i64 zop, .int .i64 zn, .string znm, .slice Ar zk.length pr] := RW_14.soft sg (by omega)
  have RX0_15 : Row (j3) (ux0.heap.size) 30 #[.int .i64 op, .int .i64 n, .string name, .slice Ax0 kids.length px0] := RX0_14.soft sg (by omega)
  have RG_15 : Row (j3) (vg.heap.size) 30 #[.int .i64 zop, .int .i64 zn, .string znm, .slice Ag zk.length pg] := RG_14.soft sg (by omega)
  have Xqzr_15 : SlT false (exT false 12) (j3) ur.heap.size vr.heap.size zk (.slice Ar zk.length pr) := Xqzr_14.keep (Nat.le_refl _) (Nat.le_refl _) (sg.same (by omega) (by omega))
  have Xtzr_15 : SlT true (exT true 12) (j3) ur.heap.size vr.heap.size zk (.slice Ar zk.length pr) := Xtzr_14.keep (Nat.le_refl _) (Nat.le_refl _) (sg.same (by omega) (by omega))
  clear yG0_14 yG1_14 yG2_14 yG3_14
  clear RL0_14 RW_14 RX0_14 RG_14 Xqzr_14 Xtzr_14 Xqzg_14 Xtzg_14
  have yG0_15 : (j3).cell? ⟨vg.heap.size, 0, none⟩ = some (.int .i64 zop) := RG_15.cell 0
  have yG1_15 : (j3).cell? ⟨vg.heap.size, 1, none⟩ = some (.int .i64 zn) := RG_15.cell 1
  have yG2_15 : (j3).cell? ⟨vg.heap.size, 2, none⟩ = some (.string znm) := RG_15.cell 2
  have yG3_15 : (j3).cell? ⟨vg.heap.size, 3, none⟩ = some (.slice Ag zk.length pg) := RG_15.cell 3
  go_wp2_with fail
  refine (heldx_Expr 12 zop zn znm zk (.slice Ag zk.length pg) 1 _ (ux0.alloc (.cells #[.int .i64 op, .int .i64 n, .string name, .slice Ax0 kids.length px0] 30)).heap.size vg.heap.size (by omega) (by first | omega | (simp; omega)) hm.exS).mono ?_
  rintro e j4 ⟨rfl, e_j4⟩
  have hb16 : Below w.heap.size w j4 := hb15.trans (e_j4.mono hb15.size)
  have sz16 : (j3).heap.size ≤ j4.heap.size := e_j4.size
  have RL0_16 : Row (j4) (w.heap.size) 24 #[.int .i64 op, .int .i64 n, .string name, v3] := RL0_15.below e_j4 RL0_15.lt
  have RW_16 : Row (j4) (vr.heap.size) 30 #[.int .i64 zop, .int .i64 zn, .string znm, .slice Ar zk.length pr] := RW_15.below e_j4 RW_15.lt
  have RX0_16 : Row (j4) (ux0.heap.size) 30 #[.int .i64 op, .int .i64 n, .string name, .slice Ax0 kids.length px0] := RX0_15.below e_j4 RX0_15.lt
  have RG_16 : Row (j4) (vg.heap.size) 30 #[.int .i64 zop, .int .i64 zn, .string znm, .slice Ag zk.length pg] := RG_15.below e_j4 RG_15.lt
  have Xqzr_16 : SlT false (exT false 12) (j4) ur.heap.size vr.heap.size zk (.slice Ar zk.length pr) := Xqzr_15.below e_j4 (by first | omega | (simp; omega) | (simp at *; omega))
  have Xtzr_16 : SlT true (exT true 12) (j4) ur.heap.size vr.heap.size zk (.slice Ar zk.length pr) := Xtzr_15.below e_j4 (by first | omega | (simp; omega) | (simp at *; omega))
  have Xhm_16 : SlT false (exT false 12) (j4) (ux0.alloc (.cells #[.int .i64 op, .int .i64 n, .string name, .slice Ax0 kids.length px0] 30)).heap.size vg.heap.size (mkL zk 1) (.slice Ag zk.length pg) := hm.below e_j4 (by first | omega | (simp; omega) | (simp at *; omega))
  clear yG0_15 yG1_15 yG2_15 yG3_15
  clear RL0_15 RW_15 RX0_15 RG_15 Xqzr_15 Xtzr_15 hm
  have hqj4 : ¬ (1 : Int) + 3 * (partsL zk : Int) < 0 := by omega
  have yL00_16 : (j4).cell? ⟨w.heap.size, 0, none⟩ = some (.int .i64 op) := RL0_16.cell 0
  have yL01_16 : (j4).cell? ⟨w.heap.size, 1, none⟩ = some (.int .i64 n) := RL0_16.cell 1
  have yL02_16 : (j4).cell? ⟨w.heap.size, 2, none⟩ = some (.string name) := RL0_16.cell 2
  have yL03_16 : (j4).cell? ⟨w.heap.size, 3, none⟩ = some (v3) := RL0_16.cell 3
  go_wp2_with fail
  refine (to_Expr d op n name kids v3 _ 0 w.heap.size hb16.size hN0 h0 h1 h2 (h3.below hb16 (Nat.le_refl _))).mono ?_
  rintro e uh ⟨cs, rfl, hx, euh⟩
  obtain ⟨xah, hcs, -, -, -, qah⟩ := ex_open d (hx false)
  change _ = [.int .i64 op, .int .i64 n, .string name, xah] at hcs
  subst hcs
  clear hx
  obtain ⟨Aah, pah, hf, _, _⟩ := qah.form
  change _ = Value.slice Aah kids.length pah at hf
  subst hf
  have hb17 : Below w.heap.size w uh := hb16.trans (euh.mono hb16.size)
  have sz17 : (j4).heap.size ≤ uh.heap.size := euh.size
  have RL0_17 : Row (uh) (w.heap.size) 24 #[.int .i64 op, .int .i64 n, .string name, v3] := RL0_16.below euh RL0_16.lt
  have RW_17 : Row (uh) (vr.heap.size) 30 #[.int .i64 zop, .int .i64 zn, .string znm, .slice Ar zk.length pr] := RW_16.below euh RW_16.lt
  have RX0_17 : Row (uh) (ux0.heap.size) 30 #[.int .i64 op, .int .i64 n, .string name, .slice Ax0 kids.length px0] := RX0_16.below euh RX0_16.lt
  have RG_17 : Row (uh) (vg.heap.size) 30 #[.int .i64 zop, .int .i64 zn, .string znm, .slice Ag zk.length pg] := RG_16.below euh RG_16.lt
  have Xqzr_17 : SlT false (exT false 12) (uh) ur.heap.size vr.heap.size zk (.slice Ar zk.length pr) := Xqzr_16.below euh (by first | omega | (simp; omega) | (simp at *; omega))
  have Xtzr_17 : SlT true (exT true 12) (uh) ur.heap.size vr.heap.size zk (.slice Ar zk.length pr) := Xtzr_16.below euh (by first | omega | (simp; omega) | (simp at *; omega))
  have Xhm_17 : SlT false (exT false 12) (uh) (ux0.alloc (.cells #[.int .i64 op, .int .i64 n, .string name, .slice Ax0 kids.length px0] 30)).heap.size vg.heap.size (mkL zk 1) (.slice Ag zk.length pg) := Xhm_16.below euh (by first | omega | (simp; omega) | (simp at *; omega))
  clear yL00_16 yL01_16 yL02_16 yL03_16
  clear RL0_16 RW_16 RX0_16 RG_16 Xqzr_16 Xtzr_16 Xhm_16
  go_wp2_with fail
  refine (implFoldExpr_u d op n name kids (.slice Aah kids.length pah) _ j4.heap.size uh.heap.size (Nat.le_refl _) hN0 h0 h1 h2 qah (ht.below hb17 (Nat.le_refl _))).mono ?_
  rintro e vh ⟨v3', he, hx, evh⟩
  rw [hR.out] at he hx
  obtain ⟨Ah, ph, hw, _, _⟩ := (exT_kids 12 (hx false)).form
  change _ = Value.slice Ah zk.length ph at hw
  subst hw
  change _ = Ending.returned (.tuple #[.agg #[.int .i64 zop, .int .i64 zn, .string znm, .slice Ah zk.length ph], .bool rb]) at he
  subst he
  have qzh := exT_kids 12 (hx false)
  change SlT false (exT false 12) vh uh.heap.size vh.heap.size zk (.slice Ah zk.length ph) at qzh
  have tzh := exT_kids 12 (hx true)
  change SlT true (exT true 12) vh uh.heap.size vh.heap.size zk (.slice Ah zk.length ph) at tzh
  clear hx
  have hb18 : Below w.heap.size w vh := hb17.trans (evh.mono hb17.size)
  have sz18 : (uh).heap.size ≤ vh.heap.size := evh.size
  have RL0_18 : Row (vh) (w.heap.size) 24 #[.int .i64 op, .int .i64 n, .string name, v3] := RL0_17.below evh RL0_17.lt
  have RW_18 : Row (vh) (vr.heap.size) 30 #[.int .i64 zop, .int .i64 zn, .string znm, .slice Ar zk.length pr] := RW_17.below evh RW_17.lt
  have RX0_18 : Row (vh) (ux0.heap.size) 30 #[.int .i64 op, .int .i64 n, .string name, .slice Ax0 kids.length px0] := RX0_17.below evh RX0_17.lt
  have RG_18 : Row (vh) (vg.heap.size) 30 #[.int .i64 zop, .int .i64 zn, .string znm, .slice Ag zk.length pg] := RG_17.below evh RG_17.lt
  have Xqzr_18 : SlT false (exT false 12) (vh) ur.heap.size vr.heap.size zk (.slice Ar zk.length pr) := Xqzr_17.below evh (by first | omega | (simp; omega) | (simp at *; omega))
  have Xtzr_18 : SlT true (exT true 12) (vh) ur.heap.size vr.heap.size zk (.slice Ar zk.length pr) := Xtzr_17.below evh (by first | omega | (simp; omega) | (simp at *; omega))
  have Xhm_18 : SlT false (exT false 12) (vh) (ux0.alloc (.cells #[.int .i64 op, .int .i64 n, .string name, .slice Ax0 kids.length px0] 30)).heap.size vg.heap.size (mkL zk 1) (.slice Ag zk.length pg) := Xhm_17.below evh (by first | omega | (simp; omega) | (simp at *; omega))
  clear RL0_17 RW_17 RX0_17 RG_17 Xqzr_17 Xtzr_17 Xhm_17
  have hb19 : Below w.heap.size w (vh.alloc (.cells #[.int .i64 zop, .int .i64 zn, .string znm, .slice Ah zk.length ph] 30)) := hb18.alloc hb18.size _
  have sz19 : vh.heap.size < (vh.alloc (.cells #[.int .i64 zop, .int .i64 zn, .string znm, .slice Ah zk.length ph] 30)).heap.size := by simp
  have RL0_19 : Row (vh.alloc (.cells #[.int .i64 zop, .int .i64 zn, .string znm, .slice Ah zk.length ph] 30)) (w.heap.size) 24 #[.int .i64 op, .int .i64 n, .string name, v3] := RL0_18.alloc _
  have RW_19 : Row (vh.alloc (.cells #[.int .i64 zop, .int .i64 zn, .string znm, .slice Ah zk.length ph] 30)) (vr.heap.size) 30 #[.int .i64 zop, .int .i64 zn, .string znm, .slice Ar zk.length pr] := RW_18.alloc _
  have RX0_19 : Row (vh.alloc (.cells #[.int .i64 zop, .int .i64 zn, .string znm, .slice Ah zk.length ph] 30)) (ux0.heap.size) 30 #[.int .i64 op, .int .i64 n, .string name, .slice Ax0 kids.length px0] := RX0_18.alloc _
  have RG_19 : Row (vh.alloc (.cells #[.int .i64 zop, .int .i64 zn, .string znm, .slice Ah zk.length ph] 30)) (vg.heap.size) 30 #[.int .i64 zop, .int .i64 zn, .string znm, .slice Ag zk.length pg] := RG_18.alloc _
  have Xqzr_19 : SlT false (exT false 12) (vh.alloc (.cells #[.int .i64 zop, .int .i64 zn, .string znm, .slice Ah zk.length ph] 30)) ur.heap.size vr.heap.size zk (.slice Ar zk.length pr) := Xqzr_18.keep (Nat.le_refl _) (Nat.le_refl _) (fun b h1 h2 => Below.heap_alloc _ _ b (by omega))
  have Xtzr_19 : SlT true (exT true 12) (vh.alloc (.cells #[.int .i64 zop, .int .i64 zn, .string znm, .slice Ah zk.length ph] 30)) ur.heap.size vr.heap.size zk (.slice Ar zk.length pr) := Xtzr_18.keep (Nat.le_refl _) (Nat.le_refl _) (fun b h1 h2 => Below.heap_alloc _ _ b (by omega))
  have Xhm_19 : SlT false (exT false 12) (vh.alloc (.cells #[.int .i64 zop, .int .i64 zn, .string znm, .slice Ah zk.length ph] 30)) (ux0.alloc (.cells #[.int .i64 op, .int .i64 n, .string name, .slice Ax0 kids.length px0] 30)).heap.size vg.heap.size (mkL zk 1) (.slice Ag zk.length pg) := Xhm_18.keep (Nat.le_refl _) (Nat.le_refl _) (fun b h1 h2 => Below.heap_alloc _ _ b (by omega))
  have Xqzh_19 : SlT false (exT false 12) (vh.alloc (.cells #[.int .i64 zop, .int .i64 zn, .string znm, .slice Ah zk.length ph] 30)) uh.heap.size vh.heap.size zk (.slice Ah zk.length ph) := qzh.keep (Nat.le_refl _) (Nat.le_refl _) (fun b h1 h2 => Below.heap_alloc _ _ b (by omega))
  have Xtzh_19 : SlT true (exT true 12) (vh.alloc (.cells #[.int .i64 zop, .int .i64 zn, .string znm, .slice Ah zk.length ph] 30)) uh.heap.size vh.heap.size zk (.slice Ah zk.length ph) := tzh.keep (Nat.le_refl _) (Nat.le_refl _) (fun b h1 h2 => Below.heap_alloc _ _ b (by omega))
  clear RL0_18 RW_18 RX0_18 RG_18 Xqzr_18 Xtzr_18 Xhm_18 qzh tzh
  have RH_19 : Row (vh.alloc (.cells #[.int .i64 zop, .int .i64 zn, .string znm, .slice Ah zk.length ph] 30)) vh.heap.size 30 #[.int .i64 zop, .int .i64 zn, .string znm, .slice Ah zk.length ph] := Row.new _ _ _
  have yW0_19 : (vh.alloc (.cells #[.int .i64 zop, .int .i64 zn, .string znm, .slice Ah zk.length ph] 30)).cell? ⟨vr.heap.size, 0, none⟩ = some (.int .i64 zop) := RW_19.cell 0
  have yW1_19 : (vh.alloc (.cells #[.int .i64 zop, .int .i64 zn, .string znm, .slice Ah zk.length ph] 30)).cell? ⟨vr.heap.size, 1, none⟩ = some (.int .i64 zn) := RW_19.cell 1
  have yW2_19 : (vh.alloc (.cells #[.int .i64 zop, .int .i64 zn, .string znm, .slice Ah zk.length ph] 30)).cell? ⟨vr.heap.size, 2, none⟩ = some (.string znm) := RW_19.cell 2
  have yW3_19 : (vh.alloc (.cells #[.int .i64 zop, .int .i64 zn, .string znm, .slice Ah zk.length ph] 30)).cell? ⟨vr.heap.size, 3, none⟩ = some (.slice Ar zk.length pr) := RW_19.cell 3
  have yH0_19 : (vh.alloc (.cells #[.int .i64 zop, .int .i64 zn, .string znm, .slice Ah zk.length ph] 30)).cell? ⟨vh.heap.size, 0, none⟩ = some (.int .i64 zop) := RH_19.cell 0
  have yH1_19 : (vh.alloc (.cells #[.int .i64 zop, .int .i64 zn, .string znm, .slice Ah zk.length ph] 30)).cell? ⟨vh.heap.size, 1, none⟩ = some (.int .i64 zn) := RH_19.cell 1
  have yH2_19 : (vh.alloc (.cells #[.int .i64 zop, .int .i64 zn, .string znm, .slice Ah zk.length ph] 30)).cell? ⟨vh.heap.size, 2, none⟩ = some (.string znm) := RH_19.cell 2
  have yH3_19 : (vh.alloc (.cells #[.int .i64 zop, .int .i64 zn, .string znm, .slice Ah zk.length ph] 30)).cell? ⟨vh.heap.size, 3, none⟩ = some (.slice Ah zk.length ph) := RH_19.cell 3
  go_wp2_with fail
  refine (eq_Expr 12 zop zn znm zk (.slice Ah zk.length ph) (.slice Ar zk.length pr) _ uh.heap.size vh.heap.size ur.heap.size vr.heap.size (by first | omega | (simp; omega)) (by first | omega | (simp; omega)) Xqzh_19.exS Xqzr_19.exS).mono ?_
  rintro e j5 ⟨rfl, e_j5⟩
  have hb20 : Below w.heap.size w j5 := hb19.trans (e_j5.mono hb19.size)
  have sz20 : (vh.alloc (.cells #[.int .i64 zop, .int .i64 zn, .string znm, .slice Ah zk.length ph] 30)).heap.size ≤ j5.heap.size := e_j5.size
  have RL0_20 : Row (j5) (w.heap.size) 24 #[.int .i64 op, .int .i64 n, .string name, v3] := RL0_19.below e_j5 RL0_19.lt
  have RW_20 : Row (j5) (vr.heap.size) 30 #[.int .i64 zop, .int .i64 zn, .string znm, .slice Ar zk.length pr] := RW_19.below e_j5 RW_19.lt
  have RX0_20 : Row (j5) (ux0.heap.size) 30 #[.int .i64 op, .int .i64 n, .string name, .slice Ax0 kids.length px0] := RX0_19.below e_j5 RX0_19.lt
  have RG_20 : Row (j5) (vg.heap.size) 30 #[.int .i64 zop, .int .i64 zn, .string znm, .slice Ag zk.length pg] := RG_19.below e_j5 RG_19.lt
  have RH_20 : Row (j5) (vh.heap.size) 30 #[.int .i64 zop, .int .i64 zn, .string znm, .slice Ah zk.length ph] := RH_19.below e_j5 RH_19.lt
  have Xqzr_20 : SlT false (exT false 12) (j5) ur.heap.size vr.heap.size zk (.slice Ar zk.length pr) := Xqzr_19.below e_j5 (by first | omega | (simp; omega) | (simp at *; omega))
  have Xtzr_20 : SlT true (exT true 12) (j5) ur.heap.size vr.heap.size zk (.slice Ar zk.length pr) := Xtzr_19.below e_j5 (by first | omega | (simp; omega) | (simp at *; omega))
  have Xhm_20 : SlT false (exT false 12) (j5) (ux0.alloc (.cells #[.int .i64 op, .int .i64 n, .string name, .slice Ax0 kids.length px0] 30)).heap.size vg.heap.size (mkL zk 1) (.slice Ag zk.length pg) := Xhm_19.below e_j5 (by first | omega | (simp; omega) | (simp at *; omega))
  have Xqzh_20 : SlT false (exT false 12) (j5) uh.heap.size vh.heap.size zk (.slice Ah zk.length ph) := Xqzh_19.below e_j5 (by first | omega | (simp; omega) | (simp at *; omega))
  have Xtzh_20 : SlT true (exT true 12) (j5) uh.heap.size vh.heap.size zk (.slice Ah zk.length ph) := Xtzh_19.below e_j5 (by first | omega | (simp; omega) | (simp at *; omega))
  clear yW0_19 yW1_19 yW2_19 yW3_19 yH0_19 yH1_19 yH2_19 yH3_19
  clear RL0_19 RW_19 RX0_19 RG_19 RH_19 Xqzr_19 Xtzr_19 Xhm_19 Xqzh_19 Xtzh_19
  have yG0_20 : (j5).cell? ⟨vg.heap.size, 0, none⟩ = some (.int .i64 zop) := RG_20.cell 0
  have yG1_20 : (j5).cell? ⟨vg.heap.size, 1, none⟩ = some (.int .i64 zn) := RG_20.cell 1
  have yG2_20 : (j5).cell? ⟨vg.heap.size, 2, none⟩ = some (.string znm) := RG_20.cell 2
  have yG3_20 : (j5).cell? ⟨vg.heap.size, 3, none⟩ = some (.slice Ag zk.length pg) := RG_20.cell 3
  go_wp2_with fail
  refine (heldx_Expr 12 zop zn znm zk (.slice Ag zk.length pg) 1 _ (ux0.alloc (.cells #[.int .i64 op, .int .i64 n, .string name, .slice Ax0 kids.length px0] 30)).heap.size vg.heap.size (by omega) (by first | omega | (simp; omega)) Xhm_20.exS).mono ?_
  rintro e j6 ⟨rfl, e_j6⟩
  have hb21 : Below w.heap.size w j6 := hb20.trans (e_j6.mono hb20.size)
  have sz21 : (j5).heap.size ≤ j6.heap.size := e_j6.size
  have RL0_21 : Row (j6) (w.heap.size) 24 #[.int .i64 op, .int .i64 n, .string name, v3] := RL0_20.below e_j6 RL0_20.lt
  have RW_21 : Row (j6) (vr.heap.size) 30 #[.int .i64 zop, .int .i64 zn, .string znm, .slice Ar zk.length pr] := RW_20.below e_j6 RW_20.lt
  have RX0_21 : Row (j6) (ux0.heap.size) 30 #[.int .i64 op, .int .i64 n, .string name, .slice Ax0 kids.length px0] := RX0_20.below e_j6 RX0_20.lt
  have RG_21 : Row (j6) (vg.heap.size) 30 #[.int .i64 zop, .int .i64 zn, .string znm, .slice Ag zk.length pg] := RG_20.below e_j6 RG_20.lt
  have RH_21 : Row (j6) (vh.heap.size) 30 #[.int .i64 zop, .int .i64 zn, .string znm, .slice Ah zk.length ph] := RH_20.below e_j6 RH_20.lt
  have Xqzr_21 : SlT false (exT false 12) (j6) ur.heap.size vr.heap.size zk (.slice Ar zk.length pr) := Xqzr_20.below e_j6 (by first | omega | (simp; omega) | (simp at *; omega))
  have Xtzr_21 : SlT true (exT true 12) (j6) ur.heap.size vr.heap.size zk (.slice Ar zk.length pr) := Xtzr_20.below e_j6 (by first | omega | (simp; omega) | (simp at *; omega))
  have Xhm_21 : SlT false (exT false 12) (j6) (ux0.alloc (.cells #[.int .i64 op, .int .i64 n, .string name, .slice Ax0 kids.length px0] 30)).heap.size vg.heap.size (mkL zk 1) (.slice Ag zk.length pg) := Xhm_20.below e_j6 (by first | omega | (simp; omega) | (simp at *; omega))
  have Xqzh_21 : SlT false (exT false 12) (j6) uh.heap.size vh.heap.size zk (.slice Ah zk.length ph) := Xqzh_20.below e_j6 (by first | omega | (simp; omega) | (simp at *; omega))
  have Xtzh_21 : SlT true (exT true 12) (j6) uh.heap.size vh.heap.size zk (.slice Ah zk.length ph) := Xtzh_20.below e_j6 (by first | omega | (simp; omega) | (simp at *; omega))
  clear yG0_20 yG1_20 yG2_20 yG3_20
  clear RL0_20 RW_20 RX0_20 RG_20 RH_20 Xqzr_20 Xtzr_20 Xhm_20 Xqzh_20 Xtzh_20
  have hqj6 : ¬ (1 : Int) + 3 * (partsL zk : Int) < 0 := by omega
  go_wp2_with fail
  go_ret
  exact ⟨rfl, hb21⟩

set_option maxRecDepth 100000 in
theorem fnExactFoldExpr_lifted (os : Os) (started : os.Started) (H : Type) (enc : TypeId × Value → H) :
    ReturnsInHanded {} Tryd.checked os 11 .any (fun w args => (Rows.fnExactFoldExprSpec.pre enc Tryd.prog Tryd.f11 [] false w args ∧ laidMetH Tryd.prog [("loop.example/wholeway/impl.keys", Rows.laid_loop_example_wholeway_impl_keys), ("loop.example/wholeway/impl.opSign", Rows.laid_loop_example_wholeway_impl_opSign)] w) ∧ sizedMet enc Tryd.prog Tryd.f11 (OpenSpec.ofChange Rows.fnExactFoldExprSpec) false w args) (Rows.fnExactFoldExprSpec.post enc Tryd.prog Tryd.f11 false true false false) := by
  refine returnsInHanded_of_change_and (C := Tryd.checked) (X := fun w _ => laidMetH Tryd.prog [("loop.example/wholeway/impl.keys", Rows.laid_loop_example_wholeway_impl_keys), ("loop.example/wholeway/impl.opSign", Rows.laid_loop_example_wholeway_impl_opSign)] w) (fun _ _ _ hh h => h.of_heap hh) own started (by kernel_rfl) Tryd.func11
    (ChangeSpec.witness_shaped (enc := enc) (C := Tryd.checked) (os := os) (X := fun w _ => laidMetH Tryd.prog [("loop.example/wholeway/impl.keys", Rows.laid_loop_example_wholeway_impl_keys), ("loop.example/wholeway/impl.opSign", Rows.laid_loop_example_wholeway_impl_opSign)] w) false (World.doorLaid Tryd.prog 400 os) #[.agg #[.int .i64 0, .int .i64 0, .string ⟨#[]⟩, .slice none 0 0]] 8 rfl (World.shaped_of_RefB (by kernel_rfl) (by kernel_rfl)) (by kernel_rfl) (by kernel_rfl) (by kernel_rfl) (door_met os _)) ?_
  intro W base args ds gs before hval0 hW _ _ hL _
  have hval : ∀ (j : Nat) t v, Tryd.f11.params[j]? = some t → args[j]? = some v → Value.okWide Tryd.prog W .any base t v := hval0
  obtain ⟨p, q, hA0, hV, hrest⟩ := id hW
  have hA : DataW.TrodAll enc Tryd.prog W 0 (fun _ => true) true Tryd.f11.params.toList args.toList ds p := hA0
  rw [Tryd.params11] at hA hval
  obtain ⟨v0, d0, rfl, rfl, h0⟩ := trodAll_one hA
  obtain ⟨gv0, gv1, rfl⟩ := two_vars hV
  obtain ⟨cs0, rfl, -⟩ := okWide_struct Tryd.underlying24 (hval 0 _ v0 rfl rfl)
  obtain ⟨fuel0, hf0⟩ := h0
  obtain ⟨da0, ha0⟩ := dec_Expr_at fuel0 (Nat.le_refl _) hf0
  obtain ⟨fu0, rfl⟩ : ∃ n, fuel0 = n + 1 := by
    cases fuel0 with
    | zero => exact ha0.elim
    | succ n => exact ⟨n, rfl⟩
  obtain ⟨s0, e0, g0_0, g0_1, g0_2, g0_3⟩ := ex_open fu0 ha0
  obtain ⟨t0_0, t0_1, t0_2, t0_3⟩ := da0
  obtain ⟨cs0⟩ := cs0
  simp only [Value.cells] at e0
  subst e0
  have hcall := law_FnExactFoldExpr fu0 t0_0 t0_1 t0_2 t0_3 s0 W g0_0 g0_1 g0_2 g0_3 (tabs_of hL)
  refine hcall.mono fun e W' ⟨he, hb⟩ => ?_
  subst he
  exact ⟨_, rfl, post_true_vars laidO hW (by kernel_rfl) Tryd.underlying4 (by rw [Tryd.params11]; intro t ht; simp only [List.mem_cons, List.not_mem_nil, or_false] at ht; subst ht; exact ⟨by kernel_rfl, of_decide_eq_true (by kernel_rfl)⟩) vars_ok rfl rfl rfl hb⟩

set_option maxRecDepth 100000 in
set_option maxHeartbeats 1000000 in
theorem fnExactFoldExpr_facts : joinedFacts Tryd.prog 11 Tryd.f11 Rows.fnExactFoldExprSpec Rows.fnExactFoldExprRow = true := by
  unfold joinedFacts
  exact and_mk (and_mk (and_mk (and_mk (and_mk (and_mk (and_mk (and_mk (and_mk (and_mk (and_mk (and_mk (and_mk (and_mk (and_mk (and_mk (and_mk (and_mk (and_mk (and_mk (and_mk (and_mk (and_mk (and_mk (and_mk (and_mk (and_mk (and_mk (and_mk (and_mk (and_mk (by as_aux_lemma => kernel_rfl) laidO) mapsRowedO) (by as_aux_lemma => kernel_rfl)) (by as_aux_lemma => kernel_rfl)) (by as_aux_lemma => kernel_rfl)) (by as_aux_lemma => kernel_rfl)) (by as_aux_lemma => kernel_rfl)) (by as_aux_lemma => kernel_rfl)) (by as_aux_lemma => kernel_rfl)) (by as_aux_lemma => kernel_rfl)) (by as_aux_lemma => kernel_rfl)) (by as_aux_lemma => kernel_rfl)) (by as_aux_lemma => kernel_rfl)) (by as_aux_lemma => kernel_rfl)) (by as_aux_lemma => kernel_rfl)) (by as_aux_lemma => kernel_rfl)) (by as_aux_lemma => kernel_rfl)) (by as_aux_lemma => kernel_rfl)) (by as_aux_lemma => kernel_rfl)) (by as_aux_lemma => kernel_rfl)) (by as_aux_lemma => kernel_rfl)) (by rw [plainKeysO]; rfl)) (by as_aux_lemma => kernel_rfl)) stopsHeardO) mayEnter) (by rw [liftsFinal]; rfl)) (by rw [makeCut]; rfl)) (by as_aux_lemma => kernel_rfl)) (by as_aux_lemma => kernel_rfl)) (by as_aux_lemma => kernel_rfl)) (by as_aux_lemma => kernel_rfl)

theorem fnExactFoldExpr_said : Rows.FnExactFoldExprSaid :=
  OpenClaim.holds_of_wide 11 Tryd.f11 rfl rfl rfl rfl rfl rfl rfl ⟨rfl, rfl, rfl, rfl, rfl⟩ rfl rfl rfl rfl rfl (by kernel_rfl) Tryd.func11 fnExactFoldExpr_facts
    (of_decide_eq_true (by kernel_rfl)) (by unfold Func.isWrapper; first | (rw [if_pos (by decide +kernel)]; kernel_rfl) | (rw [if_neg (by decide +kernel)]; exact ⟨rfl, rfl⟩))
    (fun os started H enc _ => fnExactFoldExpr_lifted os started H enc)

/-- no parameter wants a stand-in -/
theorem fnExactFoldExpr_plain (f : FuncId) (fn : Func) (hf : Tryd.pinned.checked.prog.funcNamed "loop.example/wholeway/laws.FnExactFoldExpr" = some f) (hfn : Tryd.pinned.checked.prog.funcs[f]? = some fn) :
    true = Tryd.pinned.checked.prog.looks [] ∧ ∀ (j : Nat) t, fn.params[j]? = some t → Tryd.pinned.checked.prog.wantsStandIn t = false := by
  obtain rfl : f = 11 := Option.some.inj ((show Tryd.prog.funcNamed "loop.example/wholeway/laws.FnExactFoldExpr" = some 11 by kernel_rfl).symm.trans hf) |>.symm
  obtain rfl : fn = Tryd.f11 := (Option.some.inj (Tryd.func11.symm.trans hfn)).symm
  refine ⟨by kernel_rfl, fun j t ht => ?_⟩
  rw [Tryd.params11] at ht
  have hm : t ∈ [24] := by simpa using Array.mem_of_getElem? ht
  have hall : ([24].all fun u => !Tryd.prog.wantsStandIn u) = true := by kernel_rfl
  exact (show Tryd.prog.wantsStandIn t = false by simpa using List.all_eq_true.1 hall t hm)
theorem fnExactFoldExpr_holds : Rows.FnExactFoldExprCardSaid :=
  Claim7.holds_tied_plain_at .later [] _ _ _ _ fnExactFoldExpr_said (fun _ h => by cases h) (by kernel_rfl) (fun _ h => by cases h) fnExactFoldExpr_row_tie rfl ⟨rfl, rfl⟩ (by kernel_rfl) rfl fnExactFoldExpr_plain (by kernel_rfl)

end Go.Proofs.YtnamciblapddbaaDoor


