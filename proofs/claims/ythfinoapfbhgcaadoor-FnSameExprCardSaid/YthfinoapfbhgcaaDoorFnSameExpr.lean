/-
  The law FnSameExpr: it returns true for all arguments. Condition: the variables that its row lists read as the table lays them.
-/
import Derived.Test.YthfinoapfbhgcaaDoorDrawS
import Derived.Test.YthfinoapfbhgcaaDoorSame3
import Derived.Test.YthfinoapfbhgcaaDoorTextC
import Derived.Test.YthfinoapfbhgcaaDoorInj
import Derived.Test.YthfinoapfbhgcaaDoorLawsX
namespace Go.Proofs.YthfinoapfbhgcaaDoor
open Go.RowKit Go.ChangeShapes Go.WideShapes Go.Deep
set_option linter.unusedVariables false
set_option linter.unusedSimpArgs false
theorem str_neS (a : ByteArray) : (a.toList != a.toList) = false := by simp
theorem txt_same {a b : Ex} (ha : valE a = true) (hb : valE b = true) : ((txV a).toList == (txV b).toList) = eqB a b := by
  by_cases h : a = b
  · subst h
    rw [eqB_true rfl]
    simp
  · rw [eqB_false h]
    exact str_ne (fun e => h (text_inj ha hb (by rw [txV_yes ha, txV_yes hb] at e; exact e)))
theorem eqB_comm {α : Type} (a b : α) : eqB a b = eqB b a := eqB_iff ⟨fun h => h.symm, fun h => h.symm⟩
set_option maxRecDepth 100000 in
set_option maxHeartbeats 16000000 in
theorem law_SameExpr (l : List UInt8) (v : Value) (w : World) (hv : Sl false byS w 0 w.heap.size l v) (ht : TabX w) : Calls Tryd.prog 3 #[v] w (Yes w) := by
  obtain ⟨A, cap, rfl, hlc, hcm⟩ := hv.form
  by_cases hbig : 1048576 < l.length
  · have q0 : decide ((1048576 : Int) < (l.length : Int)) = true := by simp; omega
    go_enter Tryd.func3, Tryd.ntmps3
    go_wp2_with fail
    go_ret
    exact ⟨rfl, Below.refl _ _⟩
  have q0 : decide ((1048576 : Int) < (l.length : Int)) = false := by simp; omega
  go_enter Tryd.func3, Tryd.ntmps3
  go_wp2_with fail
  refine (draw_same l _ _ hv).mono ?_
  rintro e w1 ⟨op, n, name, kids, A3, cA3, d, op', n', name', kids', A5, cA5, d', rfl, o1, o2, o3, ha, o4, o5, o6, hb, b1⟩
  have HT := Lib.hid (fun (w9 : World) (h9 : Below w.heap.size w w9) => ht.below h9 (Nat.le_refl _))
  have st2 : Below w1.heap.size w1 ((w1.alloc (.cells #[.int .i64 op, .int .i64 n, .string name, .slice A3 kids.length cA3] 25)).alloc (.cells #[.int .i64 op', .int .i64 n', .string name', .slice A5 kids'.length cA5] 25)) := ((Below.refl _ _).alloc (Nat.le_refl _) _).alloc (by simp) _
  have g2 : Below w.heap.size w ((w1.alloc (.cells #[.int .i64 op, .int .i64 n, .string name, .slice A3 kids.length cA3] 25)).alloc (.cells #[.int .i64 op', .int .i64 n', .string name', .slice A5 kids'.length cA5] 25)) := b1.trans (st2.mono b1.size)
  have RA2 : Row ((w1.alloc (.cells #[.int .i64 op, .int .i64 n, .string name, .slice A3 kids.length cA3] 25)).alloc (.cells #[.int .i64 op', .int .i64 n', .string name', .slice A5 kids'.length cA5] 25)) w1.heap.size 25 #[.int .i64 op, .int .i64 n, .string name, .slice A3 kids.length cA3] := (Row.new w1 _ _).alloc _
  have RB2 : Row ((w1.alloc (.cells #[.int .i64 op, .int .i64 n, .string name, .slice A3 kids.length cA3] 25)).alloc (.cells #[.int .i64 op', .int .i64 n', .string name', .slice A5 kids'.length cA5] 25)) (w1.heap.size + 1) 25 #[.int .i64 op', .int .i64 n', .string name', .slice A5 kids'.length cA5] := by simpa using Row.new (w1.alloc (.cells #[.int .i64 op, .int .i64 n, .string name, .slice A3 kids.length cA3] 25)) 25 #[.int .i64 op', .int .i64 n', .string name', .slice A5 kids'.length cA5]
  have a2 := ha.below st2 (Nat.le_refl _)
  have c2 := hb.below st2 (Nat.le_refl _)
  have z2 : w1.heap.size ≤ ((w1.alloc (.cells #[.int .i64 op, .int .i64 n, .string name, .slice A3 kids.length cA3] 25)).alloc (.cells #[.int .i64 op', .int .i64 n', .string name', .slice A5 kids'.length cA5] 25)).heap.size := st2.size
  clear ht hv ha hb hbig
  obtain ⟨s, hs⟩ : ∃ s, eqB (Ex.mk op n name kids) (Ex.mk op' n' name' kids') = s := ⟨_, rfl⟩
  have HS := Lib.hid hs
  have HS2 : Hid (eqB (Ex.mk op' n' name' kids') (Ex.mk op n name kids) = s) := (eqB_comm _ _).trans hs
  have HS3 : Hid (eqB (Ex.mk op n name kids) (Ex.mk op n name kids) = true) := eqB_true rfl
  obtain ⟨ta, hta⟩ : ∃ t, txV (Ex.mk op n name kids) = t := ⟨_, rfl⟩
  obtain ⟨tb, htb⟩ : ∃ t, txV (Ex.mk op' n' name' kids') = t := ⟨_, rfl⟩
  obtain ⟨oa, hoa⟩ : ∃ t, valE (Ex.mk op n name kids) = t := ⟨_, rfl⟩
  obtain ⟨ob, hob⟩ : ∃ t, valE (Ex.mk op' n' name' kids') = t := ⟨_, rfl⟩
  have HTX : Hid (oa = true → ob = true → (ta.toList == tb.toList) = s) := fun h1 h2 => by rw [← hta, ← htb, ← hs]; exact txt_same (hoa.trans h1) (hob.trans h2)
  have HA := Lib.hid hta
  have HB := Lib.hid htb
  have HOA := Lib.hid hoa
  have HOB := Lib.hid hob
  clear hs hta htb hoa hob
  have hss : (s != s) = false := by cases s <;> rfl
  have htt := str_neS ta
  have hoo : (oa != oa) = false := by cases oa <;> rfl
  have x0 : ((w1.alloc (.cells #[.int .i64 op, .int .i64 n, .string name, .slice A3 kids.length cA3] 25)).alloc (.cells #[.int .i64 op', .int .i64 n', .string name', .slice A5 kids'.length cA5] 25)).cell? ⟨w1.heap.size, 0, none⟩ = some (.int .i64 op) := RA2.cell 0
  have x1 : ((w1.alloc (.cells #[.int .i64 op, .int .i64 n, .string name, .slice A3 kids.length cA3] 25)).alloc (.cells #[.int .i64 op', .int .i64 n', .string name', .slice A5 kids'.length cA5] 25)).cell? ⟨w1.heap.size, 1, none⟩ = some (.int .i64 n) := RA2.cell 1
  have x2 : ((w1.alloc (.cells #[.int .i64 op, .int .i64 n, .string name, .slice A3 kids.length cA3] 25)).alloc (.cells #[.int .i64 op', .int .i64 n', .string name', .slice A5 kids'.length cA5] 25)).cell? ⟨w1.heap.size, 2, none⟩ = some (.string name) := RA2.cell 2
  have x3 : ((w1.alloc (.cells #[.int .i64 op, .int .i64 n, .string name, .slice A3 kids.length cA3] 25)).alloc (.cells #[.int .i64 op', .int .i64 n', .string name', .slice A5 kids'.length cA5] 25)).cell? ⟨w1.heap.size, 3, none⟩ = some (.slice A3 kids.length cA3) := RA2.cell 3
  have y0 : ((w1.alloc (.cells #[.int .i64 op, .int .i64 n, .string name, .slice A3 kids.length cA3] 25)).alloc (.cells #[.int .i64 op', .int .i64 n', .string name', .slice A5 kids'.length cA5] 25)).cell? ⟨w1.heap.size + 1, 0, none⟩ = some (.int .i64 op') := RB2.cell 0
  have y1 : ((w1.alloc (.cells #[.int .i64 op, .int .i64 n, .string name, .slice A3 kids.length cA3] 25)).alloc (.cells #[.int .i64 op', .int .i64 n', .string name', .slice A5 kids'.length cA5] 25)).cell? ⟨w1.heap.size + 1, 1, none⟩ = some (.int .i64 n') := RB2.cell 1
  have y2 : ((w1.alloc (.cells #[.int .i64 op, .int .i64 n, .string name, .slice A3 kids.length cA3] 25)).alloc (.cells #[.int .i64 op', .int .i64 n', .string name', .slice A5 kids'.length cA5] 25)).cell? ⟨w1.heap.size + 1, 2, none⟩ = some (.string name') := RB2.cell 2
  have y3 : ((w1.alloc (.cells #[.int .i64 op, .int .i64 n, .string name, .slice A3 kids.length cA3] 25)).alloc (.cells #[.int .i64 op', .int .i64 n', .string name', .slice A5 kids'.length cA5] 25)).cell? ⟨w1.heap.size + 1, 3, none⟩ = some (.slice A5 kids'.length cA5) := RB2.cell 3
  go_wp2_with fail
  refine (impl_SameExpr d op n name kids (.slice A3 kids.length cA3) d' op' n' name' kids' (.slice A5 kids'.length cA5) _ w.heap.size w1.heap.size w.heap.size w1.heap.size z2 z2 a2 c2).mono ?_
  rintro e w4 ⟨rfl, b4⟩
  rw [HS.out]
  have g3 := g2.trans (b4.mono g2.size)
  have RA3 := RA2.below b4 RA2.lt
  have RB3 := RB2.below b4 RB2.lt
  have a3 := a2.below b4 z2
  have c3 := c2.below b4 z2
  have z3 : w1.heap.size ≤ w4.heap.size := Nat.le_trans z2 b4.size
  clear x0 x1 x2 x3 y0 y1 y2 y3
  clear RA2 RB2 a2 c2
  have x0 : w4.cell? ⟨w1.heap.size, 0, none⟩ = some (.int .i64 op) := RA3.cell 0
  have x1 : w4.cell? ⟨w1.heap.size, 1, none⟩ = some (.int .i64 n) := RA3.cell 1
  have x2 : w4.cell? ⟨w1.heap.size, 2, none⟩ = some (.string name) := RA3.cell 2
  have x3 : w4.cell? ⟨w1.heap.size, 3, none⟩ = some (.slice A3 kids.length cA3) := RA3.cell 3
  have y0 : w4.cell? ⟨w1.heap.size + 1, 0, none⟩ = some (.int .i64 op') := RB3.cell 0
  have y1 : w4.cell? ⟨w1.heap.size + 1, 1, none⟩ = some (.int .i64 n') := RB3.cell 1
  have y2 : w4.cell? ⟨w1.heap.size + 1, 2, none⟩ = some (.string name') := RB3.cell 2
  have y3 : w4.cell? ⟨w1.heap.size + 1, 3, none⟩ = some (.slice A5 kids'.length cA5) := RB3.cell 3
  go_wp2_with fail
  refine (spec_SameExpr d op n name kids (.slice A3 kids.length cA3) d' op' n' name' kids' (.slice A5 kids'.length cA5) _ w.heap.size w1.heap.size w.heap.size w1.heap.size z3 z3 a3 c3).mono ?_
  rintro e w5 ⟨rfl, b5⟩
  rw [HS.out]
  have g4 := g3.trans (b5.mono g3.size)
  have RA4 := RA3.below b5 RA3.lt
  have RB4 := RB3.below b5 RB3.lt
  have a4 := a3.below b5 z3
  have c4 := c3.below b5 z3
  have z4 : w1.heap.size ≤ w5.heap.size := Nat.le_trans z3 b5.size
  clear x0 x1 x2 x3 y0 y1 y2 y3
  clear RA3 RB3 a3 c3
  have x0 : w5.cell? ⟨w1.heap.size, 0, none⟩ = some (.int .i64 op) := RA4.cell 0
  have x1 : w5.cell? ⟨w1.heap.size, 1, none⟩ = some (.int .i64 n) := RA4.cell 1
  have x2 : w5.cell? ⟨w1.heap.size, 2, none⟩ = some (.string name) := RA4.cell 2
  have x3 : w5.cell? ⟨w1.heap.size, 3, none⟩ = some (.slice A3 kids.length cA3) := RA4.cell 3
  have y0 : w5.cell? ⟨w1.heap.size + 1, 0, none⟩ = some (.int .i64 op') := RB4.cell 0
  have y1 : w5.cell? ⟨w1.heap.size + 1, 1, none⟩ = some (.int .i64 n') := RB4.cell 1
  have y2 : w5.cell? ⟨w1.heap.size + 1, 2, none⟩ = some (.string name') := RB4.cell 2
  have y3 : w5.cell? ⟨w1.heap.size + 1, 3, none⟩ = some (.slice A5 kids'.length cA5) := RB4.cell 3
  go_wp2_with fail
  refine (impl_SameExpr d' op' n' name' kids' (.slice A5 kids'.length cA5) d op n name kids (.slice A3 kids.length cA3) _ w.heap.size w1.heap.size w.heap.size w1.heap.size z4 z4 c4 a4).mono ?_
  rintro e w6 ⟨rfl, b6⟩
  rw [HS2.out]
  have g5 := g4.trans (b6.mono g4.size)
  have RA5 := RA4.below b6 RA4.lt
  have RB5 := RB4.below b6 RB4.lt
  have a5 := a4.below b6 z4
  have c5 := c4.below b6 z4
  have z5 : w1.heap.size ≤ w6.heap.size := Nat.le_trans z4 b6.size
  clear x0 x1 x2 x3 y0 y1 y2 y3
  clear RA4 RB4 a4 c4
  have x0 : w6.cell? ⟨w1.heap.size, 0, none⟩ = some (.int .i64 op) := RA5.cell 0
  have x1 : w6.cell? ⟨w1.heap.size, 1, none⟩ = some (.int .i64 n) := RA5.cell 1
  have x2 : w6.cell? ⟨w1.heap.size, 2, none⟩ = some (.string name) := RA5.cell 2
  have x3 : w6.cell? ⟨w1.heap.size, 3, none⟩ = some (.slice A3 kids.length cA3) := RA5.cell 3
  have y0 : w6.cell? ⟨w1.heap.size + 1, 0, none⟩ = some (.int .i64 op') := RB5.cell 0
  have y1 : w6.cell? ⟨w1.heap.size + 1, 1, none⟩ = some (.int .i64 n') := RB5.cell 1
  have y2 : w6.cell? ⟨w1.heap.size + 1, 2, none⟩ = some (.string name') := RB5.cell 2
  have y3 : w6.cell? ⟨w1.heap.size + 1, 3, none⟩ = some (.slice A5 kids'.length cA5) := RB5.cell 3
  go_wp2_with fail
  refine (impl_SameExpr d op n name kids (.slice A3 kids.length cA3) d op n name kids (.slice A3 kids.length cA3) _ w.heap.size w1.heap.size w.heap.size w1.heap.size z5 z5 a5 a5).mono ?_
  rintro e w7 ⟨rfl, b7⟩
  rw [HS3.out]
  have g6 := g5.trans (b7.mono g5.size)
  have RA6 := RA5.below b7 RA5.lt
  have RB6 := RB5.below b7 RB5.lt
  have a6 := a5.below b7 z5
  have c6 := c5.below b7 z5
  have z6 : w1.heap.size ≤ w7.heap.size := Nat.le_trans z5 b7.size
  clear x0 x1 x2 x3 y0 y1 y2 y3
  clear RA5 RB5 a5 c5
  have x0 : w7.cell? ⟨w1.heap.size, 0, none⟩ = some (.int .i64 op) := RA6.cell 0
  have x1 : w7.cell? ⟨w1.heap.size, 1, none⟩ = some (.int .i64 n) := RA6.cell 1
  have x2 : w7.cell? ⟨w1.heap.size, 2, none⟩ = some (.string name) := RA6.cell 2
  have x3 : w7.cell? ⟨w1.heap.size, 3, none⟩ = some (.slice A3 kids.length cA3) := RA6.cell 3
  have y0 : w7.cell? ⟨w1.heap.size + 1, 0, none⟩ = some (.int .i64 op') := RB6.cell 0
  have y1 : w7.cell? ⟨w1.heap.size + 1, 1, none⟩ = some (.int .i64 n') := RB6.cell 1
  have y2 : w7.cell? ⟨w1.heap.size + 1, 2, none⟩ = some (.string name') := RB6.cell 2
  have y3 : w7.cell? ⟨w1.heap.size + 1, 3, none⟩ = some (.slice A5 kids'.length cA5) := RB6.cell 3
  go_wp2_with fail
  refine (impl_ExprText d op n name kids (.slice A3 kids.length cA3) _ w.heap.size w1.heap.size z6 o1 o2 o3 a6 (HT.out _ g6)).mono ?_
  rintro e w8 ⟨rfl, b8⟩
  rw [HA.out]
  rw [HOA.out]
  have g7 := g6.trans (b8.mono g6.size)
  have RA7 := RA6.below b8 RA6.lt
  have RB7 := RB6.below b8 RB6.lt
  have a7 := a6.below b8 z6
  have c7 := c6.below b8 z6
  have z7 : w1.heap.size ≤ w8.heap.size := Nat.le_trans z6 b8.size
  clear x0 x1 x2 x3 y0 y1 y2 y3
  clear RA6 RB6 a6 c6
  have x0 : w8.cell? ⟨w1.heap.size, 0, none⟩ = some (.int .i64 op) := RA7.cell 0
  have x1 : w8.cell? ⟨w1.heap.size, 1, none⟩ = some (.int .i64 n) := RA7.cell 1
  have x2 : w8.cell? ⟨w1.heap.size, 2, none⟩ = some (.string name) := RA7.cell 2
  have x3 : w8.cell? ⟨w1.heap.size, 3, none⟩ = some (.slice A3 kids.length cA3) := RA7.cell 3
  have y0 : w8.cell? ⟨w1.heap.size + 1, 0, none⟩ = some (.int .i64 op') := RB7.cell 0
  have y1 : w8.cell? ⟨w1.heap.size + 1, 1, none⟩ = some (.int .i64 n') := RB7.cell 1
  have y2 : w8.cell? ⟨w1.heap.size + 1, 2, none⟩ = some (.string name') := RB7.cell 2
  have y3 : w8.cell? ⟨w1.heap.size + 1, 3, none⟩ = some (.slice A5 kids'.length cA5) := RB7.cell 3
  go_wp2_with fail
  refine (impl_ExprText d' op' n' name' kids' (.slice A5 kids'.length cA5) _ w.heap.size w1.heap.size z7 o4 o5 o6 c7 (HT.out _ g7)).mono ?_
  rintro e w9 ⟨rfl, b9⟩
  rw [HB.out]
  rw [HOB.out]
  have g8 := g7.trans (b9.mono g7.size)
  have RA8 := RA7.below b9 RA7.lt
  have RB8 := RB7.below b9 RB7.lt
  have a8 := a7.below b9 z7
  have c8 := c7.below b9 z7
  have z8 : w1.heap.size ≤ w9.heap.size := Nat.le_trans z7 b9.size
  clear x0 x1 x2 x3 y0 y1 y2 y3
  clear RA7 RB7 a7 c7
  have x0 : w9.cell? ⟨w1.heap.size, 0, none⟩ = some (.int .i64 op) := RA8.cell 0
  have x1 : w9.cell? ⟨w1.heap.size, 1, none⟩ = some (.int .i64 n) := RA8.cell 1
  have x2 : w9.cell? ⟨w1.heap.size, 2, none⟩ = some (.string name) := RA8.cell 2
  have x3 : w9.cell? ⟨w1.heap.size, 3, none⟩ = some (.slice A3 kids.length cA3) := RA8.cell 3
  have y0 : w9.cell? ⟨w1.heap.size + 1, 0, none⟩ = some (.int .i64 op') := RB8.cell 0
  have y1 : w9.cell? ⟨w1.heap.size + 1, 1, none⟩ = some (.int .i64 n') := RB8.cell 1
  have y2 : w9.cell? ⟨w1.heap.size + 1, 2, none⟩ = some (.string name') := RB8.cell 2
  have y3 : w9.cell? ⟨w1.heap.size + 1, 3, none⟩ = some (.slice A5 kids'.length cA5) := RB8.cell 3
  go_wp2_with fail
  refine (spec_ExprText d op n name kids (.slice A3 kids.length cA3) _ w.heap.size w1.heap.size z8 o1 o2 o3 a8).mono ?_
  rintro e w10 ⟨rfl, b10⟩
  rw [HA.out]
  rw [HOA.out]
  have g9 := g8.trans (b10.mono g8.size)
  have RA9 := RA8.below b10 RA8.lt
  have RB9 := RB8.below b10 RB8.lt
  have a9 := a8.below b10 z8
  have c9 := c8.below b10 z8
  have z9 : w1.heap.size ≤ w10.heap.size := Nat.le_trans z8 b10.size
  clear x0 x1 x2 x3 y0 y1 y2 y3
  clear RA8 RB8 a8 c8
  cases oa
  case false =>
    go_wp2_with fail
    go_ret
    exact ⟨rfl, g9⟩
  cases ob
  case false =>
    go_wp2_with fail
    go_ret
    exact ⟨rfl, g9⟩
  have q1 := HTX.out rfl rfl
  cases s
  case false =>
    go_wp2_with fail
    go_ret
    exact ⟨rfl, g9⟩
  case true =>
    go_wp2_with fail
    go_ret
    exact ⟨rfl, g9⟩

set_option maxRecDepth 100000 in
theorem fnSameExpr_lifted (os : Os) (started : os.Started) (H : Type) (enc : TypeId × Value → H) :
    ReturnsInHanded {} Tryd.checked os 3 .any (fun w args => (Rows.fnSameExprSpec.pre enc Tryd.prog Tryd.f3 [] false w args ∧ laidMetH Tryd.prog [("math/bits.deBruijn32tab", Rows.laid_math_bits_deBruijn32tab), ("math/bits.deBruijn64tab", Rows.laid_math_bits_deBruijn64tab), ("internal/strconv.uint64pow10", Rows.laid_internal_strconv_uint64pow10), ("strconv.ErrRange", Rows.laid_strconv_ErrRange), ("strconv.ErrSyntax", Rows.laid_strconv_ErrSyntax), ("loop.example/wholeway/impl.keys", Rows.laid_loop_example_wholeway_impl_keys), ("loop.example/wholeway/impl.opSign", Rows.laid_loop_example_wholeway_impl_opSign)] w) ∧ sizedMet enc Tryd.prog Tryd.f3 (OpenSpec.ofChange Rows.fnSameExprSpec) false w args) (Rows.fnSameExprSpec.post enc Tryd.prog Tryd.f3 false true false false) := by
  refine returnsInHanded_of_change_and (C := Tryd.checked) (X := fun w _ => laidMetH Tryd.prog [("math/bits.deBruijn32tab", Rows.laid_math_bits_deBruijn32tab), ("math/bits.deBruijn64tab", Rows.laid_math_bits_deBruijn64tab), ("internal/strconv.uint64pow10", Rows.laid_internal_strconv_uint64pow10), ("strconv.ErrRange", Rows.laid_strconv_ErrRange), ("strconv.ErrSyntax", Rows.laid_strconv_ErrSyntax), ("loop.example/wholeway/impl.keys", Rows.laid_loop_example_wholeway_impl_keys), ("loop.example/wholeway/impl.opSign", Rows.laid_loop_example_wholeway_impl_opSign)] w) (fun _ _ _ hh h => h.of_heap hh) own started (by kernel_rfl) Tryd.func3
    (ChangeSpec.witness_shaped (enc := enc) (C := Tryd.checked) (os := os) (X := fun w _ => laidMetH Tryd.prog [("math/bits.deBruijn32tab", Rows.laid_math_bits_deBruijn32tab), ("math/bits.deBruijn64tab", Rows.laid_math_bits_deBruijn64tab), ("internal/strconv.uint64pow10", Rows.laid_internal_strconv_uint64pow10), ("strconv.ErrRange", Rows.laid_strconv_ErrRange), ("strconv.ErrSyntax", Rows.laid_strconv_ErrSyntax), ("loop.example/wholeway/impl.keys", Rows.laid_loop_example_wholeway_impl_keys), ("loop.example/wholeway/impl.opSign", Rows.laid_loop_example_wholeway_impl_opSign)] w) false (World.doorLaid Tryd.prog 400 os) #[.slice none 0 0] 8 rfl (World.shaped_of_RefB (by kernel_rfl) (by kernel_rfl)) (by kernel_rfl) (by kernel_rfl) (by kernel_rfl) (door_metX os _)) ?_
  intro W base args ds gs before hval0 hW _ _ hL _
  have hval : ∀ (j : Nat) t v, Tryd.f3.params[j]? = some t → args[j]? = some v → Value.okWide Tryd.prog W .any base t v := hval0
  obtain ⟨p, q, hA0, hV, hrest⟩ := id hW
  have hA : DataW.TrodAll enc Tryd.prog W 0 (fun _ => true) true Tryd.f3.params.toList args.toList ds p := hA0
  rw [Tryd.params3] at hA hval
  obtain ⟨v0, d0, rfl, rfl, h0⟩ := trodAll_one hA
  obtain ⟨gv0, gv1, rfl⟩ := two_vars hV
  obtain ⟨a, len, cap, rfl⟩ := okWide_slice Tryd.underlying22 (hval 0 _ v0 rfl rfl)
  obtain ⟨fuel0, hf0⟩ := h0
  obtain ⟨da0, vv, hv0, ha0⟩ := dec_slice Tryd.underlying22 (by kernel_rfl) (by decide) dec_u8 hf0
  simp only [Value.cells, List.cons.injEq, and_true] at hv0
  subst hv0
  have hcall := law_SameExpr da0 _ W ha0 (tabx_of hL)
  refine hcall.mono fun e W' ⟨he, hb⟩ => ?_
  subst he
  exact ⟨_, rfl, post_true_vars laidO hW (by kernel_rfl) Tryd.underlying4 (by rw [Tryd.params3]; intro t ht; simp only [List.mem_cons, List.not_mem_nil, or_false] at ht; subst ht; exact ⟨by kernel_rfl, of_decide_eq_true (by kernel_rfl)⟩) vars_ok rfl rfl rfl hb⟩

set_option maxRecDepth 100000 in
set_option maxHeartbeats 1000000 in
theorem fnSameExpr_facts : joinedFacts Tryd.prog 3 Tryd.f3 Rows.fnSameExprSpec Rows.fnSameExprRow = true := by
  unfold joinedFacts
  exact and_mk (and_mk (and_mk (and_mk (and_mk (and_mk (and_mk (and_mk (and_mk (and_mk (and_mk (and_mk (and_mk (and_mk (and_mk (and_mk (and_mk (and_mk (and_mk (and_mk (and_mk (and_mk (and_mk (and_mk (and_mk (and_mk (and_mk (and_mk (and_mk (and_mk (and_mk (by as_aux_lemma => kernel_rfl) laidO) mapsRowedO) (by as_aux_lemma => kernel_rfl)) (by as_aux_lemma => kernel_rfl)) (by as_aux_lemma => kernel_rfl)) (by as_aux_lemma => kernel_rfl)) (by as_aux_lemma => kernel_rfl)) (by as_aux_lemma => kernel_rfl)) (by as_aux_lemma => kernel_rfl)) (by as_aux_lemma => kernel_rfl)) (by as_aux_lemma => kernel_rfl)) (by as_aux_lemma => kernel_rfl)) (by as_aux_lemma => kernel_rfl)) (by as_aux_lemma => kernel_rfl)) (by as_aux_lemma => kernel_rfl)) (by as_aux_lemma => kernel_rfl)) (by as_aux_lemma => kernel_rfl)) (by as_aux_lemma => kernel_rfl)) (by as_aux_lemma => kernel_rfl)) (by as_aux_lemma => kernel_rfl)) (by as_aux_lemma => kernel_rfl)) (by rw [plainKeysO]; rfl)) (by as_aux_lemma => kernel_rfl)) stopsHeardO) mayEnter) (by rw [liftsFinal]; rfl)) (by rw [makeCut]; rfl)) (by as_aux_lemma => kernel_rfl)) (by as_aux_lemma => kernel_rfl)) (by as_aux_lemma => kernel_rfl)) (by as_aux_lemma => kernel_rfl)

theorem fnSameExpr_said : Rows.FnSameExprSaid :=
  OpenClaim.holds_of_wide 3 Tryd.f3 rfl rfl rfl rfl rfl rfl rfl ⟨rfl, rfl, rfl, rfl, rfl⟩ rfl rfl rfl rfl rfl (by kernel_rfl) Tryd.func3 fnSameExpr_facts
    (of_decide_eq_true (by kernel_rfl)) (by unfold Func.isWrapper; first | (rw [if_pos (by decide +kernel)]; kernel_rfl) | (rw [if_neg (by decide +kernel)]; exact ⟨rfl, rfl⟩))
    (fun os started H enc _ => fnSameExpr_lifted os started H enc)

/-- no parameter wants a stand-in -/
theorem fnSameExpr_plain (f : FuncId) (fn : Func) (hf : Tryd.pinned.checked.prog.funcNamed "loop.example/wholeway/laws.FnSameExpr" = some f) (hfn : Tryd.pinned.checked.prog.funcs[f]? = some fn) :
    true = Tryd.pinned.checked.prog.looks [] ∧ ∀ (j : Nat) t, fn.params[j]? = some t → Tryd.pinned.checked.prog.wantsStandIn t = false := by
  obtain rfl : f = 3 := Option.some.inj ((show Tryd.prog.funcNamed "loop.example/wholeway/laws.FnSameExpr" = some 3 by kernel_rfl).symm.trans hf) |>.symm
  obtain rfl : fn = Tryd.f3 := (Option.some.inj (Tryd.func3.symm.trans hfn)).symm
  refine ⟨by kernel_rfl, fun j t ht => ?_⟩
  rw [Tryd.params3] at ht
  have hm : t ∈ [22] := by simpa using Array.mem_of_getElem? ht
  have hall : ([22].all fun u => !Tryd.prog.wantsStandIn u) = true := by kernel_rfl
  exact (show Tryd.prog.wantsStandIn t = false by simpa using List.all_eq_true.1 hall t hm)
theorem fnSameExpr_holds : Rows.FnSameExprCardSaid :=
  Claim7.holds_tied_plain_at .later [] _ _ _ _ fnSameExpr_said (fun _ h => by cases h) (by kernel_rfl) (fun _ h => by cases h) fnSameExpr_row_tie rfl ⟨rfl, rfl⟩ (by kernel_rfl) rfl fnSameExpr_plain (by kernel_rfl)
end Go.Proofs.YthfinoapfbhgcaaDoor
