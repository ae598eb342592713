/-
  Several texts in one: FnFoldAgain.
-/
import Derived.Test.YthfinoapfbhgcaaDoorLawE
import Derived.Test.YthfinoapfbhgcaaDoorSame3
import Derived.Test.YthfinoapfbhgcaaDoorDrawE8
import Derived.Test.YthfinoapfbhgcaaDoorFoldB
namespace Go.Proofs.YthfinoapfbhgcaaDoor
open Go.RowKit Go.ChangeShapes Go.WideShapes Go.Deep
set_option linter.unusedVariables false
set_option linter.unusedSimpArgs false
/-- a pair, its parts laid open -/
theorem PairP.open2 {px : Ex} {ok : Bool} {w : World} {en : Ending} {w' : World} (h : PairP 12 (px, ok) w en w') : ∃ op n name kids A c, en = .returned (.tuple #[.agg #[.int .i64 op, .int .i64 n, .string name, .slice A kids.length c], .bool ok]) ∧ px = .mk op n name kids ∧ I64 op ∧ I64 n ∧ name.size ≤ maxLen ∧ Sl false (exS false 12) w' w.heap.size w'.heap.size kids (.slice A kids.length c) ∧ Below w.heap.size w w' := by
  obtain ⟨op, n, name, kids⟩ := px
  obtain ⟨v3, he, hr, hb⟩ := h
  obtain ⟨A, c, hw, _, _⟩ := (exT_kids 12 (hr false)).form
  change v3 = Value.slice A kids.length c at hw
  subst hw
  obtain ⟨_, -, j0, j1, j2, j3⟩ := exT_open 12 (hr false)
  exact ⟨op, n, name, kids, A, c, he, rfl, j0, j1, j2, (exT_kids 12 (hr false)).exS, hb⟩
set_option maxRecDepth 100000 in
set_option maxHeartbeats 16000000 in
theorem law_FoldAgain (l : List UInt8) (v : Value) (w : World) (hv : Sl false byS w 0 w.heap.size l v) (ht : Tabs w) : Calls Tryd.prog 4 #[v] w (Yes w) := by
  obtain ⟨A, cap, rfl, hlc, hcm⟩ := hv.form
  by_cases hbig : 1048576 < l.length
  · have q0 : decide ((1048576 : Int) < (l.length : Int)) = true := by simp; omega
    go_enter Tryd.func4, Tryd.ntmps4
    go_wp2_with fail
    go_ret
    exact ⟨rfl, Below.refl _ _⟩
  have q0 : decide ((1048576 : Int) < (l.length : Int)) = false := by simp; omega
  go_enter Tryd.func4, Tryd.ntmps4
  go_wp2_with fail
  refine (draw_fold l _ _ hv).mono ?_
  rintro e w1 ⟨op, n, name, kids, A3, c3, rfl, ho, hn64, hnm, SE_1, hz, hb1⟩
  have HT := Lib.hid (fun (w9 : World) (h9 : Below w.heap.size w w9) => ht.below h9 (Nat.le_refl _))
  have zSE_1 : w1.heap.size ≤ w1.heap.size := Nat.le_refl _
  clear ht hv hz
  obtain ⟨pv, hpv⟩ : ∃ pv, foldV (.mk op n name kids) = pv := ⟨_, rfl⟩
  obtain ⟨px, ok⟩ := pv
  have HPV := Lib.hid hpv
  clear hpv
  have y2 := (Below.refl _ w1).alloc (Nat.le_refl _) (.cells #[.int .i64 op, .int .i64 n, .string name, .slice A3 kids.length c3] 25)
  have hb2 : Below w.heap.size w (w1.alloc (.cells #[.int .i64 op, .int .i64 n, .string name, .slice A3 kids.length c3] 25)) := hb1.trans (y2.mono hb1.size)
  have SE_2 := SE_1.below y2 zSE_1
  have zSE_2 := Nat.le_trans zSE_1 y2.size
  clear SE_1 zSE_1
  have RE_2 : Row (w1.alloc (.cells #[.int .i64 op, .int .i64 n, .string name, .slice A3 kids.length c3] 25)) w1.heap.size 25 #[.int .i64 op, .int .i64 n, .string name, .slice A3 kids.length c3] := Row.new _ _ _
  have yRE0 : (w1.alloc (.cells #[.int .i64 op, .int .i64 n, .string name, .slice A3 kids.length c3] 25)).cell? ⟨w1.heap.size, 0, none⟩ = some (.int .i64 op) := RE_2.cell 0
  have yRE1 : (w1.alloc (.cells #[.int .i64 op, .int .i64 n, .string name, .slice A3 kids.length c3] 25)).cell? ⟨w1.heap.size, 1, none⟩ = some (.int .i64 n) := RE_2.cell 1
  have yRE2 : (w1.alloc (.cells #[.int .i64 op, .int .i64 n, .string name, .slice A3 kids.length c3] 25)).cell? ⟨w1.heap.size, 2, none⟩ = some (.string name) := RE_2.cell 2
  have yRE3 : (w1.alloc (.cells #[.int .i64 op, .int .i64 n, .string name, .slice A3 kids.length c3] 25)).cell? ⟨w1.heap.size, 3, none⟩ = some (.slice A3 kids.length c3) := RE_2.cell 3
  go_wp2_with fail
  refine (impl_FoldExpr 9 op n name kids _ _ w.heap.size w1.heap.size zSE_2 ho hn64 hnm SE_2 (HT.out _ hb2)).mono ?_
  rw [HPV.out]
  rintro e w4 hP
  obtain ⟨xop, xn, xname, xkids, A5, c5, rfl, hx, xo, xn64, xnm, hx3, x4⟩ := hP.open2
  clear hP yRE0 yRE1 yRE2 yRE3
  subst hx
  have hb3 : Below w.heap.size w w4 := hb2.trans (x4.mono hb2.size)
  have RE_3 := RE_2.below x4 RE_2.lt
  have SE_3 := SE_2.below x4 zSE_2
  have zSE_3 := Nat.le_trans zSE_2 x4.size
  clear RE_2 SE_2 zSE_2
  have SX_3 := hx3
  have zSX_3 : w4.heap.size ≤ w4.heap.size := Nat.le_refl _
  have y4 := (Below.refl _ w4).alloc (Nat.le_refl _) (.cells #[.int .i64 xop, .int .i64 xn, .string xname, .slice A5 xkids.length c5] 25)
  have hb4 : Below w.heap.size w (w4.alloc (.cells #[.int .i64 xop, .int .i64 xn, .string xname, .slice A5 xkids.length c5] 25)) := hb3.trans (y4.mono hb3.size)
  have RE_4 := RE_3.below y4 RE_3.lt
  have SE_4 := SE_3.below y4 zSE_3
  have zSE_4 := Nat.le_trans zSE_3 y4.size
  have SX_4 := SX_3.below y4 zSX_3
  have zSX_4 := Nat.le_trans zSX_3 y4.size
  clear RE_3 SE_3 zSE_3 SX_3 zSX_3
  have RX_4 : Row (w4.alloc (.cells #[.int .i64 xop, .int .i64 xn, .string xname, .slice A5 xkids.length c5] 25)) w4.heap.size 25 #[.int .i64 xop, .int .i64 xn, .string xname, .slice A5 xkids.length c5] := Row.new _ _ _
  have yRE0 : (w4.alloc (.cells #[.int .i64 xop, .int .i64 xn, .string xname, .slice A5 xkids.length c5] 25)).cell? ⟨w1.heap.size, 0, none⟩ = some (.int .i64 op) := RE_4.cell 0
  have yRE1 : (w4.alloc (.cells #[.int .i64 xop, .int .i64 xn, .string xname, .slice A5 xkids.length c5] 25)).cell? ⟨w1.heap.size, 1, none⟩ = some (.int .i64 n) := RE_4.cell 1
  have yRE2 : (w4.alloc (.cells #[.int .i64 xop, .int .i64 xn, .string xname, .slice A5 xkids.length c5] 25)).cell? ⟨w1.heap.size, 2, none⟩ = some (.string name) := RE_4.cell 2
  have yRE3 : (w4.alloc (.cells #[.int .i64 xop, .int .i64 xn, .string xname, .slice A5 xkids.length c5] 25)).cell? ⟨w1.heap.size, 3, none⟩ = some (.slice A3 kids.length c3) := RE_4.cell 3
  go_wp2_with fail
  refine (spec_FoldExpr 9 op n name kids _ _ w.heap.size w1.heap.size zSE_4 ho hn64 hnm SE_4 (HT.out _ hb4)).mono ?_
  rw [HPV.out]
  rintro e w6 hP
  obtain ⟨wop, wn, wname, wkids, A6, c6, rfl, hw, wo, wn64, wnm, hw3, x6⟩ := hP.open2
  clear hP yRE0 yRE1 yRE2 yRE3
  injection hw with h_1 h_2 h_3 h_4
  subst h_1 h_2 h_3 h_4
  have hb5 : Below w.heap.size w w6 := hb4.trans (x6.mono hb4.size)
  have RE_5 := RE_4.below x6 RE_4.lt
  have RX_5 := RX_4.below x6 RX_4.lt
  have SE_5 := SE_4.below x6 zSE_4
  have zSE_5 := Nat.le_trans zSE_4 x6.size
  have SX_5 := SX_4.below x6 zSX_4
  have zSX_5 := Nat.le_trans zSX_4 x6.size
  clear RE_4 RX_4 SE_4 zSE_4 SX_4 zSX_4
  have SW_5 := hw3
  have zSW_5 : w6.heap.size ≤ w6.heap.size := Nat.le_refl _
  have y6 := (Below.refl _ w6).alloc (Nat.le_refl _) (.cells #[.int .i64 xop, .int .i64 xn, .string xname, .slice A6 xkids.length c6] 25)
  have hb6 : Below w.heap.size w (w6.alloc (.cells #[.int .i64 xop, .int .i64 xn, .string xname, .slice A6 xkids.length c6] 25)) := hb5.trans (y6.mono hb5.size)
  have RE_6 := RE_5.below y6 RE_5.lt
  have RX_6 := RX_5.below y6 RX_5.lt
  have SE_6 := SE_5.below y6 zSE_5
  have zSE_6 := Nat.le_trans zSE_5 y6.size
  have SX_6 := SX_5.below y6 zSX_5
  have zSX_6 := Nat.le_trans zSX_5 y6.size
  have SW_6 := SW_5.below y6 zSW_5
  have zSW_6 := Nat.le_trans zSW_5 y6.size
  clear RE_5 RX_5 SE_5 zSE_5 SX_5 zSX_5 SW_5 zSW_5
  have RW_6 : Row (w6.alloc (.cells #[.int .i64 xop, .int .i64 xn, .string xname, .slice A6 xkids.length c6] 25)) w6.heap.size 25 #[.int .i64 xop, .int .i64 xn, .string xname, .slice A6 xkids.length c6] := Row.new _ _ _
  cases ok
  case false =>
    have yRX0 : (w6.alloc (.cells #[.int .i64 xop, .int .i64 xn, .string xname, .slice A6 xkids.length c6] 25)).cell? ⟨w4.heap.size, 0, none⟩ = some (.int .i64 xop) := RX_6.cell 0
    have yRX1 : (w6.alloc (.cells #[.int .i64 xop, .int .i64 xn, .string xname, .slice A6 xkids.length c6] 25)).cell? ⟨w4.heap.size, 1, none⟩ = some (.int .i64 xn) := RX_6.cell 1
    have yRX2 : (w6.alloc (.cells #[.int .i64 xop, .int .i64 xn, .string xname, .slice A6 xkids.length c6] 25)).cell? ⟨w4.heap.size, 2, none⟩ = some (.string xname) := RX_6.cell 2
    have yRX3 : (w6.alloc (.cells #[.int .i64 xop, .int .i64 xn, .string xname, .slice A6 xkids.length c6] 25)).cell? ⟨w4.heap.size, 3, none⟩ = some (.slice A5 xkids.length c5) := RX_6.cell 3
    have yRW0 : (w6.alloc (.cells #[.int .i64 xop, .int .i64 xn, .string xname, .slice A6 xkids.length c6] 25)).cell? ⟨w6.heap.size, 0, none⟩ = some (.int .i64 xop) := RW_6.cell 0
    have yRW1 : (w6.alloc (.cells #[.int .i64 xop, .int .i64 xn, .string xname, .slice A6 xkids.length c6] 25)).cell? ⟨w6.heap.size, 1, none⟩ = some (.int .i64 xn) := RW_6.cell 1
    have yRW2 : (w6.alloc (.cells #[.int .i64 xop, .int .i64 xn, .string xname, .slice A6 xkids.length c6] 25)).cell? ⟨w6.heap.size, 2, none⟩ = some (.string xname) := RW_6.cell 2
    have yRW3 : (w6.alloc (.cells #[.int .i64 xop, .int .i64 xn, .string xname, .slice A6 xkids.length c6] 25)).cell? ⟨w6.heap.size, 3, none⟩ = some (.slice A6 xkids.length c6) := RW_6.cell 3
    go_wp2_with fail
    refine (spec_SameExpr 12 xop xn xname xkids _ 12 xop xn xname xkids _ _ (w1.alloc (.cells #[.int .i64 op, .int .i64 n, .string name, .slice A3 kids.length c3] 25)).heap.size w4.heap.size (w4.alloc (.cells #[.int .i64 xop, .int .i64 xn, .string xname, .slice A5 xkids.length c5] 25)).heap.size w6.heap.size zSX_6 zSW_6 SX_6 SW_6).mono ?_
    rintro e w8 ⟨he_, x7⟩
    rw [eqB_true rfl] at he_
    subst he_
    clear yRX0 yRX1 yRX2 yRX3 yRW0 yRW1 yRW2 yRW3
    have hb7 : Below w.heap.size w w8 := hb6.trans (x7.mono hb6.size)
    have RE_7 := RE_6.below x7 RE_6.lt
    have RX_7 := RX_6.below x7 RX_6.lt
    have RW_7 := RW_6.below x7 RW_6.lt
    have SE_7 := SE_6.below x7 zSE_6
    have zSE_7 := Nat.le_trans zSE_6 x7.size
    have SX_7 := SX_6.below x7 zSX_6
    have zSX_7 := Nat.le_trans zSX_6 x7.size
    have SW_7 := SW_6.below x7 zSW_6
    have zSW_7 := Nat.le_trans zSW_6 x7.size
    clear RE_6 RX_6 RW_6 SE_6 zSE_6 SX_6 zSX_6 SW_6 zSW_6
    have yRX0 : w8.cell? ⟨w4.heap.size, 0, none⟩ = some (.int .i64 xop) := RX_7.cell 0
    have yRX1 : w8.cell? ⟨w4.heap.size, 1, none⟩ = some (.int .i64 xn) := RX_7.cell 1
    have yRX2 : w8.cell? ⟨w4.heap.size, 2, none⟩ = some (.string xname) := RX_7.cell 2
    have yRX3 : w8.cell? ⟨w4.heap.size, 3, none⟩ = some (.slice A5 xkids.length c5) := RX_7.cell 3
    have yRW0 : w8.cell? ⟨w6.heap.size, 0, none⟩ = some (.int .i64 xop) := RW_7.cell 0
    have yRW1 : w8.cell? ⟨w6.heap.size, 1, none⟩ = some (.int .i64 xn) := RW_7.cell 1
    have yRW2 : w8.cell? ⟨w6.heap.size, 2, none⟩ = some (.string xname) := RW_7.cell 2
    have yRW3 : w8.cell? ⟨w6.heap.size, 3, none⟩ = some (.slice A6 xkids.length c6) := RW_7.cell 3
    go_wp2_with fail
    refine (spec_SameExpr 12 xop xn xname xkids _ 12 xop xn xname xkids _ _ (w1.alloc (.cells #[.int .i64 op, .int .i64 n, .string name, .slice A3 kids.length c3] 25)).heap.size w4.heap.size (w4.alloc (.cells #[.int .i64 xop, .int .i64 xn, .string xname, .slice A5 xkids.length c5] 25)).heap.size w6.heap.size zSX_7 zSW_7 SX_7 SW_7).mono ?_
    rintro e w9 ⟨he_, x8⟩
    rw [eqB_true rfl] at he_
    subst he_
    clear yRX0 yRX1 yRX2 yRX3 yRW0 yRW1 yRW2 yRW3
    have hb8 : Below w.heap.size w w9 := hb7.trans (x8.mono hb7.size)
    have RE_8 := RE_7.below x8 RE_7.lt
    have RX_8 := RX_7.below x8 RX_7.lt
    have RW_8 := RW_7.below x8 RW_7.lt
    have SE_8 := SE_7.below x8 zSE_7
    have zSE_8 := Nat.le_trans zSE_7 x8.size
    have SX_8 := SX_7.below x8 zSX_7
    have zSX_8 := Nat.le_trans zSX_7 x8.size
    have SW_8 := SW_7.below x8 zSW_7
    have zSW_8 := Nat.le_trans zSW_7 x8.size
    clear RE_7 RX_7 RW_7 SE_7 zSE_7 SX_7 zSX_7 SW_7 zSW_7
    go_wp2_with fail
    go_ret
    exact ⟨rfl, hb8⟩
  case true =>
    have yRX0 : (w6.alloc (.cells #[.int .i64 xop, .int .i64 xn, .string xname, .slice A6 xkids.length c6] 25)).cell? ⟨w4.heap.size, 0, none⟩ = some (.int .i64 xop) := RX_6.cell 0
    have yRX1 : (w6.alloc (.cells #[.int .i64 xop, .int .i64 xn, .string xname, .slice A6 xkids.length c6] 25)).cell? ⟨w4.heap.size, 1, none⟩ = some (.int .i64 xn) := RX_6.cell 1
    have yRX2 : (w6.alloc (.cells #[.int .i64 xop, .int .i64 xn, .string xname, .slice A6 xkids.length c6] 25)).cell? ⟨w4.heap.size, 2, none⟩ = some (.string xname) := RX_6.cell 2
    have yRX3 : (w6.alloc (.cells #[.int .i64 xop, .int .i64 xn, .string xname, .slice A6 xkids.length c6] 25)).cell? ⟨w4.heap.size, 3, none⟩ = some (.slice A5 xkids.length c5) := RX_6.cell 3
    have yRW0 : (w6.alloc (.cells #[.int .i64 xop, .int .i64 xn, .string xname, .slice A6 xkids.length c6] 25)).cell? ⟨w6.heap.size, 0, none⟩ = some (.int .i64 xop) := RW_6.cell 0
    have yRW1 : (w6.alloc (.cells #[.int .i64 xop, .int .i64 xn, .string xname, .slice A6 xkids.length c6] 25)).cell? ⟨w6.heap.size, 1, none⟩ = some (.int .i64 xn) := RW_6.cell 1
    have yRW2 : (w6.alloc (.cells #[.int .i64 xop, .int .i64 xn, .string xname, .slice A6 xkids.length c6] 25)).cell? ⟨w6.heap.size, 2, none⟩ = some (.string xname) := RW_6.cell 2
    have yRW3 : (w6.alloc (.cells #[.int .i64 xop, .int .i64 xn, .string xname, .slice A6 xkids.length c6] 25)).cell? ⟨w6.heap.size, 3, none⟩ = some (.slice A6 xkids.length c6) := RW_6.cell 3
    go_wp2_with fail
    refine (spec_SameExpr 12 xop xn xname xkids _ 12 xop xn xname xkids _ _ (w1.alloc (.cells #[.int .i64 op, .int .i64 n, .string name, .slice A3 kids.length c3] 25)).heap.size w4.heap.size (w4.alloc (.cells #[.int .i64 xop, .int .i64 xn, .string xname, .slice A5 xkids.length c5] 25)).heap.size w6.heap.size zSX_6 zSW_6 SX_6 SW_6).mono ?_
    rintro e w8 ⟨he_, x7⟩
    rw [eqB_true rfl] at he_
    subst he_
    clear yRX0 yRX1 yRX2 yRX3 yRW0 yRW1 yRW2 yRW3
    have hb7 : Below w.heap.size w w8 := hb6.trans (x7.mono hb6.size)
    have RE_7 := RE_6.below x7 RE_6.lt
    have RX_7 := RX_6.below x7 RX_6.lt
    have RW_7 := RW_6.below x7 RW_6.lt
    have SE_7 := SE_6.below x7 zSE_6
    have zSE_7 := Nat.le_trans zSE_6 x7.size
    have SX_7 := SX_6.below x7 zSX_6
    have zSX_7 := Nat.le_trans zSX_6 x7.size
    have SW_7 := SW_6.below x7 zSW_6
    have zSW_7 := Nat.le_trans zSW_6 x7.size
    clear RE_6 RX_6 RW_6 SE_6 zSE_6 SX_6 zSX_6 SW_6 zSW_6
    have hve : valE (.mk op n name kids) = true := by
      cases hv : valE (.mk op n name kids) with
      | true => rfl
      | false =>
        have := HPV.out
        rw [foldV_no hv] at this
        injection this with _ h2
    have hxe : foldE 6 (.mk op n name kids) = .mk xop xn xname xkids := by
      have := HPV.out
      rw [foldV_yes hve] at this
      injection this
    have hvx : valE (.mk xop xn xname xkids) = true := hxe ▸ fold_val hve
    have hpx : partsE (.mk xop xn xname xkids) ≤ partsE (.mk op n name kids) := hxe ▸ fold_parts hve
    have hdx : deepE (.mk xop xn xname xkids) ≤ deepE (.mk op n name kids) := hxe ▸ fold_deep hve
    have hx30 := valE_parts hvx
    have HVX := Lib.hid hvx
    have HVE := Lib.hid hve
    have HPX := Lib.hid hpx
    have HDX := Lib.hid hdx
    have HI0 : Hid (foldE 6 (.mk xop xn xname xkids) = .mk xop xn xname xkids ∨ partsE (.mk xop xn xname xkids) + 0 ≤ 30) := Or.inr hx30
    clear hve hxe hvx hpx hdx hx30 HPV
    have hRX8 := RX_7.lt
    have hRE8 := RE_7.lt
    have zE8 := zSE_7
    have zX8 := zSX_7
    have SXL := SX_7
    have hbL := hb7
    have yRX0 : w8.cell? ⟨w4.heap.size, 0, none⟩ = some (.int .i64 xop) := RX_7.cell 0
    have yRX1 : w8.cell? ⟨w4.heap.size, 1, none⟩ = some (.int .i64 xn) := RX_7.cell 1
    have yRX2 : w8.cell? ⟨w4.heap.size, 2, none⟩ = some (.string xname) := RX_7.cell 2
    have yRX3 : w8.cell? ⟨w4.heap.size, 3, none⟩ = some (.slice A5 xkids.length c5) := RX_7.cell 3
    have y8 := (Below.refl _ w8).alloc (Nat.le_refl _) (.cells #[.int .i64 xop, .int .i64 xn, .string xname, .slice A5 xkids.length c5] 25)
    have hb8 : Below w.heap.size w (w8.alloc (.cells #[.int .i64 xop, .int .i64 xn, .string xname, .slice A5 xkids.length c5] 25)) := hb7.trans (y8.mono hb7.size)
    have RE_8 := RE_7.below y8 RE_7.lt
    have RX_8 := RX_7.below y8 RX_7.lt
    have RW_8 := RW_7.below y8 RW_7.lt
    have SE_8 := SE_7.below y8 zSE_7
    have zSE_8 := Nat.le_trans zSE_7 y8.size
    have SX_8 := SX_7.below y8 zSX_7
    have zSX_8 := Nat.le_trans zSX_7 y8.size
    have SW_8 := SW_7.below y8 zSW_7
    have zSW_8 := Nat.le_trans zSW_7 y8.size
    clear RE_7 RX_7 RW_7 SE_7 zSE_7 SX_7 zSX_7 SW_7 zSW_7
    have RY_8 : Row (w8.alloc (.cells #[.int .i64 xop, .int .i64 xn, .string xname, .slice A5 xkids.length c5] 25)) w8.heap.size 25 #[.int .i64 xop, .int .i64 xn, .string xname, .slice A5 xkids.length c5] := Row.new _ _ _
    have hX8 : w4.heap.size < w8.heap.size := hRX8
    have hE8 : w1.heap.size < w8.heap.size := hRE8
    have hs8 : w8.heap.size < (w8.alloc (.cells #[.int .i64 xop, .int .i64 xn, .string xname, .slice A5 xkids.length c5] 25)).heap.size := by simp
    go_wp2_with fail
    go_loopw [50] (fun i wr => ∃ (k D lo' B' : Nat) (yop yn : Int) (yname : ByteArray) (ykids : List Ex) (A8 : Option Addr) (c8 : Nat), k ≤ 30 ∧ i = .int .i64 (k : Int) ∧ Row wr w8.heap.size 25 #[.int .i64 yop, .int .i64 yn, .string yname, .slice A8 ykids.length c8] ∧ I64 yop ∧ I64 yn ∧ yname.size ≤ maxLen ∧ Sl false (exS false D) wr lo' B' ykids (.slice A8 ykids.length c8) ∧ (B' ≤ w8.heap.size ∨ w8.heap.size < lo') ∧ B' ≤ wr.heap.size ∧ Hid (valE (.mk yop yn yname ykids) = true) ∧ Hid (foldE 6 (.mk yop yn yname ykids) = .mk yop yn yname ykids ∨ partsE (.mk yop yn yname ykids) + k ≤ 30) ∧ Below w8.heap.size (w8.alloc (.cells #[.int .i64 xop, .int .i64 xn, .string xname, .slice A5 xkids.length c5] 25)) wr) (fun i _ => 30 - (intOf i).toNat)
    case atStart => exact ⟨0, 12, _, _, xop, xn, xname, xkids, A5, c5, by omega, rfl, RY_8, xo, xn64, xnm, SX_8, Or.inl zX8, zSX_8, HVX, HI0, Below.refl _ _⟩
    case round =>
      obtain ⟨k, D, lo', B', yop, yn, yname, ykids, A8, c8, hk, rfl, RY, yo, yn64, ynm, hx3, hx4, hx5, HYV, HYI, q0⟩ := hrel
      obtain ⟨wk, hwk⟩ : ∃ x, x = wr := ⟨_, rfl⟩
      subst hwk
      have hbk : Below w.heap.size w wk := hb8.trans (q0.mono (by have := hbL.size; omega))
      have hl8 := RY.lt
      have u0 : wk.cell? ⟨w8.heap.size, 0, none⟩ = some (.int .i64 yop) := RY.cell 0
      have u1 : wk.cell? ⟨w8.heap.size, 1, none⟩ = some (.int .i64 yn) := RY.cell 1
      have u2 : wk.cell? ⟨w8.heap.size, 2, none⟩ = some (.string yname) := RY.cell 2
      have u3 : wk.cell? ⟨w8.heap.size, 3, none⟩ = some (.slice A8 ykids.length c8) := RY.cell 3
      have uf0 : wk.frozen? ⟨w8.heap.size, 0, none⟩ = false := RY.frozen 0
      have uf1 : wk.frozen? ⟨w8.heap.size, 1, none⟩ = false := RY.frozen 1
      have uf2 : wk.frozen? ⟨w8.heap.size, 2, none⟩ = false := RY.frozen 2
      have uf3 : wk.frozen? ⟨w8.heap.size, 3, none⟩ = false := RY.frozen 3
      obtain ⟨pv2, hpv2⟩ : ∃ pv2, foldE 6 (.mk yop yn yname ykids) = pv2 := ⟨_, rfl⟩
      have HF := Lib.hid hpv2
      have hfv : foldV (.mk yop yn yname ykids) = (pv2, true) := by rw [foldV_yes HYV.out, hpv2]
      replace hfv := Lib.hid hfv
      clear hpv2
      by_cases hkl : k < 30
      · have hkn : (k : Int) < 30 := by omega
        go_wp2_with fail
        refine (impl_FoldExpr D yop yn yname ykids _ _ lo' B' hx5 yo yn64 ynm hx3 (HT.out _ hbk)).mono ?_
        rw [hfv.out]
        rintro e w9 hP
        obtain ⟨zop, zn, zname, zkids, A9, c9, rfl, hz, zo, zn64, znm, hz3, x9⟩ := hP.open2
        subst hz
        clear hP u0 u1 u2 u3 uf0 uf1 uf2 uf3
        have hb9 : Below w.heap.size w w9 := hbk.trans (x9.mono hbk.size)
        have q9 := q0.trans (x9.mono (Nat.le_of_lt hl8))
        have RY9 := RY.below x9 RY.lt
        have x10 := (Below.refl _ w9).alloc (Nat.le_refl _) (.cells #[.int .i64 zop, .int .i64 zn, .string zname, .slice A9 zkids.length c9] 25)
        have RY10 := RY9.alloc (.cells #[.int .i64 zop, .int .i64 zn, .string zname, .slice A9 zkids.length c9] 25)
        have RZ10 : Row (w9.alloc (.cells #[.int .i64 zop, .int .i64 zn, .string zname, .slice A9 zkids.length c9] 25)) w9.heap.size 25 #[.int .i64 zop, .int .i64 zn, .string zname, .slice A9 zkids.length c9] := Row.new _ _ _
        have hb10 : Below w.heap.size w (w9.alloc (.cells #[.int .i64 zop, .int .i64 zn, .string zname, .slice A9 zkids.length c9] 25)) := hb9.trans (x10.mono hb9.size)
        have q10 := q9.trans (x10.mono (Nat.le_of_lt RY9.lt))
        have hz10 := hz3.below x10 (Nat.le_refl _)
        have hy10 := (hx3.below x9 hx5).below x10 (Nat.le_trans hx5 x9.size)
        have hqz := x10.size
        have hqy := Nat.le_trans (Nat.le_trans hx5 x9.size) x10.size
        have HZV : Hid (valE (.mk zop zn zname zkids) = true) := HF.out ▸ fold_val HYV.out
        have HZI : Hid (foldE 6 (.mk zop zn zname zkids) = .mk zop zn zname zkids ∨ partsE (.mk zop zn zname zkids) + (k + 1) ≤ 30) := by
          have := fold_round HYV.out HYI.out
          rw [HF.out] at this
          exact this
        obtain ⟨pz, hpz⟩ : ∃ pz, partsE (.mk zop zn zname zkids) = pz := ⟨_, rfl⟩
        obtain ⟨py, hpy⟩ : ∃ py, partsE (.mk yop yn yname ykids) = py := ⟨_, rfl⟩
        have hle : pz ≤ py := by rw [← hpz, ← hpy, ← HF.out]; exact fold_parts HYV.out
        have HEQ : Hid (pz = py → Ex.mk zop zn zname zkids = .mk yop yn yname ykids) := fun e => by
          rw [← HF.out]
          exact fold_same HYV.out (by rw [HF.out, hpz, hpy, e])
        have HCZ : Hid (cntE (.mk zop zn zname zkids) = pz) := (cntE_val HZV.out).trans hpz
        have HCY : Hid (cntE (.mk yop yn yname ykids) = py) := (cntE_val HYV.out).trans hpy
        have tgt : decide ((py : Int) < (pz : Int)) = false := by simp; omega
        have tgt2 : decide (py < pz) = false := by simp; omega
        clear hpz hpy hx3 HYI HF hfv
        go_wp2_with fail
        generalize hw10 : w9.alloc (.cells #[.int .i64 zop, .int .i64 zn, .string zname, .slice A9 zkids.length c9] 25) = w10 at x10 hb10 RY10 RZ10 hz10 hy10 hqz hqy q10 ⊢
        have s0Z0 : w10.cell? ⟨w9.heap.size, 0, none⟩ = some (.int .i64 zop) := RZ10.cell 0
        have s0Z1 : w10.cell? ⟨w9.heap.size, 1, none⟩ = some (.int .i64 zn) := RZ10.cell 1
        have s0Z2 : w10.cell? ⟨w9.heap.size, 2, none⟩ = some (.string zname) := RZ10.cell 2
        have s0Z3 : w10.cell? ⟨w9.heap.size, 3, none⟩ = some (.slice A9 zkids.length c9) := RZ10.cell 3
        have s0Y0 : w10.cell? ⟨w8.heap.size, 0, none⟩ = some (.int .i64 yop) := RY10.cell 0
        have s0Y1 : w10.cell? ⟨w8.heap.size, 1, none⟩ = some (.int .i64 yn) := RY10.cell 1
        have s0Y2 : w10.cell? ⟨w8.heap.size, 2, none⟩ = some (.string yname) := RY10.cell 2
        have s0Y3 : w10.cell? ⟨w8.heap.size, 3, none⟩ = some (.slice A8 ykids.length c8) := RY10.cell 3
        have g0 : Below w.heap.size w w10.drew := hb10.drew
        have f0 : Below w10.heap.size w10 w10.drew := (Below.refl _ _).drew
        have RZ_0 : Row w10.drew w9.heap.size 25 #[.int .i64 zop, .int .i64 zn, .string zname, .slice A9 zkids.length c9] := RZ10
        have RY_0 : Row w10.drew w8.heap.size 25 #[.int .i64 yop, .int .i64 yn, .string yname, .slice A8 ykids.length c8] := RY10
        by_cases hpp : pz = py
        · subst hpp
          refine wp_region_held_drew (S := fun w' => (w'.cell? ⟨w9.heap.size, 0, none⟩ = some (.int .i64 zop) ∧ w'.cell? ⟨w9.heap.size, 1, none⟩ = some (.int .i64 zn) ∧ w'.cell? ⟨w9.heap.size, 2, none⟩ = some (.string zname) ∧ w'.cell? ⟨w9.heap.size, 3, none⟩ = some (.slice A9 zkids.length c9) ∧ w'.cell? ⟨w8.heap.size, 0, none⟩ = some (.int .i64 yop) ∧ w'.cell? ⟨w8.heap.size, 1, none⟩ = some (.int .i64 yn) ∧ w'.cell? ⟨w8.heap.size, 2, none⟩ = some (.string yname) ∧ w'.cell? ⟨w8.heap.size, 3, none⟩ = some (.slice A8 ykids.length c8))) (by kernel_rfl) ?_ (fun hHeld => ?_)
          · ((try dsimp only); refine ⟨?_, ?_, ?_, ?_, ?_, ?_, ?_, ?_⟩ <;> assumption)
          refine reg_take (i := 0) (v := ?v1) rfl (by kernel_rfl) (by kernel_rfl) (by kernel_rfl) (fun _ _ _ h => h) (Or.inl ⟨by kernel_rfl, ?h1⟩) (by assumption) ?r1
          case h1 => (intro w hSw; (try dsimp only at hSw); go_simp; try with_reducible rfl)
          try simp only [Act.put, List.setIfInBounds_toArray, List.set_cons_zero, List.set_cons_succ]
          refine reg_take (i := 2) (v := ?v2) rfl (by kernel_rfl) (by kernel_rfl) (by kernel_rfl) (fun _ _ _ h => h) (Or.inl ⟨by kernel_rfl, ?h2⟩) (by assumption) ?r2
          case h2 => (intro w hSw; (try dsimp only at hSw); go_simp; try with_reducible rfl)
          try simp only [Act.put, List.setIfInBounds_toArray, List.set_cons_zero, List.set_cons_succ]
          refine reg_call (i := 1) (by kernel_rfl) rfl (fun K hK => ?_)
          go_simp
          refine (impl_ExprParts 12 zop zn zname zkids (.slice A9 zkids.length c9) _ wk.heap.size w9.heap.size (Nat.le_trans hqz f0.size) zo zn64 znm (hz10.below f0 hqz) (HT.out _ g0)).mono ?_; rw [HCZ.out]; rintro e v1 ⟨rfl, x_1⟩; have g1 : Below w.heap.size w v1 := g0.trans (x_1.mono g0.size); have f1 := f0.trans (x_1.mono f0.size); have RZ_1 := RZ_0.below x_1 RZ_0.lt; have RY_1 := RY_0.below x_1 RY_0.lt; have s1RZ0 : v1.cell? ⟨w9.heap.size, 0, none⟩ = some (.int .i64 zop) := RZ_1.cell 0; have s1RZ1 : v1.cell? ⟨w9.heap.size, 1, none⟩ = some (.int .i64 zn) := RZ_1.cell 1; have s1RZ2 : v1.cell? ⟨w9.heap.size, 2, none⟩ = some (.string zname) := RZ_1.cell 2; have s1RZ3 : v1.cell? ⟨w9.heap.size, 3, none⟩ = some (.slice A9 zkids.length c9) := RZ_1.cell 3; have s1RY0 : v1.cell? ⟨w8.heap.size, 0, none⟩ = some (.int .i64 yop) := RY_1.cell 0; have s1RY1 : v1.cell? ⟨w8.heap.size, 1, none⟩ = some (.int .i64 yn) := RY_1.cell 1; have s1RY2 : v1.cell? ⟨w8.heap.size, 2, none⟩ = some (.string yname) := RY_1.cell 2; have s1RY3 : v1.cell? ⟨w8.heap.size, 3, none⟩ = some (.slice A8 ykids.length c8) := RY_1.cell 3
          refine hK.out _ _ ?_ (fun hHeld => ?_)
          · ((try dsimp only); refine ⟨?_, ?_, ?_, ?_, ?_, ?_, ?_, ?_⟩ <;> assumption)
          clear hK K
          try simp only [Act.put, List.setIfInBounds_toArray, List.set_cons_zero, List.set_cons_succ]
          refine reg_call (i := 3) (by kernel_rfl) rfl (fun K hK => ?_)
          go_simp
          refine (impl_ExprParts D yop yn yname ykids (.slice A8 ykids.length c8) _ lo' B' (Nat.le_trans hqy f1.size) yo yn64 ynm (hy10.below f1 hqy) (HT.out _ g1)).mono ?_; rw [HCY.out]; rintro e v2 ⟨rfl, x_2⟩; have g2 : Below w.heap.size w v2 := g1.trans (x_2.mono g1.size); have f2 := f1.trans (x_2.mono f1.size); have RZ_2 := RZ_1.below x_2 RZ_1.lt; have RY_2 := RY_1.below x_2 RY_1.lt; have s2RZ0 : v2.cell? ⟨w9.heap.size, 0, none⟩ = some (.int .i64 zop) := RZ_2.cell 0; have s2RZ1 : v2.cell? ⟨w9.heap.size, 1, none⟩ = some (.int .i64 zn) := RZ_2.cell 1; have s2RZ2 : v2.cell? ⟨w9.heap.size, 2, none⟩ = some (.string zname) := RZ_2.cell 2; have s2RZ3 : v2.cell? ⟨w9.heap.size, 3, none⟩ = some (.slice A9 zkids.length c9) := RZ_2.cell 3; have s2RY0 : v2.cell? ⟨w8.heap.size, 0, none⟩ = some (.int .i64 yop) := RY_2.cell 0; have s2RY1 : v2.cell? ⟨w8.heap.size, 1, none⟩ = some (.int .i64 yn) := RY_2.cell 1; have s2RY2 : v2.cell? ⟨w8.heap.size, 2, none⟩ = some (.string yname) := RY_2.cell 2; have s2RY3 : v2.cell? ⟨w8.heap.size, 3, none⟩ = some (.slice A8 ykids.length c8) := RY_2.cell 3
          refine hK.out _ _ ?_ (fun hHeld => ?_)
          · ((try dsimp only); refine ⟨?_, ?_, ?_, ?_, ?_, ?_, ?_, ?_⟩ <;> assumption)
          clear hK K
          try simp only [Act.put, List.setIfInBounds_toArray, List.set_cons_zero, List.set_cons_succ]
          refine reg_take (i := 4) (v := ?v5) rfl (by kernel_rfl) (by kernel_rfl) (by kernel_rfl) (fun _ _ _ h => h) (Or.inl ⟨by kernel_rfl, ?h5⟩) (by assumption) ?r5
          case h5 => (intro w hSw; (try dsimp only at hSw); go_simp; try with_reducible rfl)
          try simp only [Act.put, List.setIfInBounds_toArray, List.set_cons_zero, List.set_cons_succ]
          refine reg_take (i := 5) (v := ?v6) rfl (by kernel_rfl) (by kernel_rfl) (by kernel_rfl) (fun _ _ _ h => h) (Or.inl ⟨by kernel_rfl, ?h6⟩) (by assumption) ?r6
          case h6 => (intro w hSw; (try dsimp only at hSw); go_simp; try with_reducible rfl)
          try simp only [Act.put, List.setIfInBounds_toArray, List.set_cons_zero, List.set_cons_succ]
          refine reg_take (i := 6) (v := ?v7) rfl (by kernel_rfl) (by kernel_rfl) (by kernel_rfl) (fun _ _ _ h => h) (Or.inl ⟨by kernel_rfl, ?h7⟩) (by assumption) ?r7
          case h7 => (intro w hSw; (try dsimp only at hSw); go_simp; try with_reducible rfl)
          try simp only [Act.put, List.setIfInBounds_toArray, List.set_cons_zero, List.set_cons_succ]
          refine reg_take (i := 8) (v := ?v8) rfl (by kernel_rfl) (by kernel_rfl) (by kernel_rfl) (fun _ _ _ h => h) (Or.inl ⟨by kernel_rfl, ?h8⟩) (by assumption) ?r8
          case h8 => (intro w hSw; (try dsimp only at hSw); go_simp; try with_reducible rfl)
          try simp only [Act.put, List.setIfInBounds_toArray, List.set_cons_zero, List.set_cons_succ]
          refine reg_call (i := 7) (by kernel_rfl) rfl (fun K hK => ?_)
          go_simp
          refine (impl_ExprParts 12 zop zn zname zkids (.slice A9 zkids.length c9) _ wk.heap.size w9.heap.size (Nat.le_trans hqz f2.size) zo zn64 znm (hz10.below f2 hqz) (HT.out _ g2)).mono ?_; rw [HCZ.out]; rintro e v3 ⟨rfl, x_3⟩; have g3 : Below w.heap.size w v3 := g2.trans (x_3.mono g2.size); have f3 := f2.trans (x_3.mono f2.size); have RZ_3 := RZ_2.below x_3 RZ_2.lt; have RY_3 := RY_2.below x_3 RY_2.lt; have s3RZ0 : v3.cell? ⟨w9.heap.size, 0, none⟩ = some (.int .i64 zop) := RZ_3.cell 0; have s3RZ1 : v3.cell? ⟨w9.heap.size, 1, none⟩ = some (.int .i64 zn) := RZ_3.cell 1; have s3RZ2 : v3.cell? ⟨w9.heap.size, 2, none⟩ = some (.string zname) := RZ_3.cell 2; have s3RZ3 : v3.cell? ⟨w9.heap.size, 3, none⟩ = some (.slice A9 zkids.length c9) := RZ_3.cell 3; have s3RY0 : v3.cell? ⟨w8.heap.size, 0, none⟩ = some (.int .i64 yop) := RY_3.cell 0; have s3RY1 : v3.cell? ⟨w8.heap.size, 1, none⟩ = some (.int .i64 yn) := RY_3.cell 1; have s3RY2 : v3.cell? ⟨w8.heap.size, 2, none⟩ = some (.string yname) := RY_3.cell 2; have s3RY3 : v3.cell? ⟨w8.heap.size, 3, none⟩ = some (.slice A8 ykids.length c8) := RY_3.cell 3
          refine hK.out _ _ ?_ (fun hHeld => ?_)
          · ((try dsimp only); refine ⟨?_, ?_, ?_, ?_, ?_, ?_, ?_, ?_⟩ <;> assumption)
          clear hK K
          try simp only [Act.put, List.setIfInBounds_toArray, List.set_cons_zero, List.set_cons_succ]
          refine reg_call (i := 9) (by kernel_rfl) rfl (fun K hK => ?_)
          go_simp
          refine (impl_ExprParts D yop yn yname ykids (.slice A8 ykids.length c8) _ lo' B' (Nat.le_trans hqy f3.size) yo yn64 ynm (hy10.below f3 hqy) (HT.out _ g3)).mono ?_; rw [HCY.out]; rintro e v4 ⟨rfl, x_4⟩; have g4 : Below w.heap.size w v4 := g3.trans (x_4.mono g3.size); have f4 := f3.trans (x_4.mono f3.size); have RZ_4 := RZ_3.below x_4 RZ_3.lt; have RY_4 := RY_3.below x_4 RY_3.lt; have s4RZ0 : v4.cell? ⟨w9.heap.size, 0, none⟩ = some (.int .i64 zop) := RZ_4.cell 0; have s4RZ1 : v4.cell? ⟨w9.heap.size, 1, none⟩ = some (.int .i64 zn) := RZ_4.cell 1; have s4RZ2 : v4.cell? ⟨w9.heap.size, 2, none⟩ = some (.string zname) := RZ_4.cell 2; have s4RZ3 : v4.cell? ⟨w9.heap.size, 3, none⟩ = some (.slice A9 zkids.length c9) := RZ_4.cell 3; have s4RY0 : v4.cell? ⟨w8.heap.size, 0, none⟩ = some (.int .i64 yop) := RY_4.cell 0; have s4RY1 : v4.cell? ⟨w8.heap.size, 1, none⟩ = some (.int .i64 yn) := RY_4.cell 1; have s4RY2 : v4.cell? ⟨w8.heap.size, 2, none⟩ = some (.string yname) := RY_4.cell 2; have s4RY3 : v4.cell? ⟨w8.heap.size, 3, none⟩ = some (.slice A8 ykids.length c8) := RY_4.cell 3
          refine hK.out _ _ ?_ (fun hHeld => ?_)
          · ((try dsimp only); refine ⟨?_, ?_, ?_, ?_, ?_, ?_, ?_, ?_⟩ <;> assumption)
          clear hK K
          try simp only [Act.put, List.setIfInBounds_toArray, List.set_cons_zero, List.set_cons_succ]
          refine reg_take (i := 10) (v := ?v11) rfl (by kernel_rfl) (by kernel_rfl) (by kernel_rfl) (fun _ _ _ h => h) (Or.inl ⟨by kernel_rfl, ?h11⟩) (by assumption) ?r11
          case h11 => (intro w hSw; (try dsimp only at hSw); go_simp; try with_reducible rfl)
          try simp only [Act.put, List.setIfInBounds_toArray, List.set_cons_zero, List.set_cons_succ]
          refine reg_take (i := 11) (v := ?v12) rfl (by kernel_rfl) (by kernel_rfl) (by kernel_rfl) (fun _ _ _ h => h) (Or.inl ⟨by kernel_rfl, ?h12⟩) (by assumption) ?r12
          case h12 => (intro w hSw; (try dsimp only at hSw); go_simp; try with_reducible rfl)
          try simp only [Act.put, List.setIfInBounds_toArray, List.set_cons_zero, List.set_cons_succ]
          refine reg_take (i := 12) (v := ?v13) rfl (by kernel_rfl) (by kernel_rfl) (by kernel_rfl) (fun _ _ _ h => h) (Or.inl ⟨by kernel_rfl, ?h13⟩) (by assumption) ?r13
          case h13 => (intro w hSw; (try dsimp only at hSw); go_simp; try with_reducible rfl)
          try simp only [Act.put, List.setIfInBounds_toArray, List.set_cons_zero, List.set_cons_succ]
          refine reg_take (i := 13) (v := ?v14) rfl (by kernel_rfl) (by kernel_rfl) (by kernel_rfl) (fun _ _ _ h => h) (Or.inl ⟨by kernel_rfl, ?h14⟩) (by assumption) ?r14
          case h14 => (intro w hSw; (try dsimp only at hSw); go_simp; try with_reducible rfl)
          try simp only [Act.put, List.setIfInBounds_toArray, List.set_cons_zero, List.set_cons_succ]
          refine reg_call (i := 14) (by kernel_rfl) rfl (fun K hK => ?_)
          go_simp
          refine (impl_SameExpr 12 zop zn zname zkids (.slice A9 zkids.length c9) D yop yn yname ykids (.slice A8 ykids.length c8) _ wk.heap.size w9.heap.size lo' B' (Nat.le_trans hqz f4.size) (Nat.le_trans hqy f4.size) (hz10.below f4 hqz) (hy10.below f4 hqy)).mono ?_; rintro e v5 ⟨he1, x_5⟩; have g5 : Below w.heap.size w v5 := g4.trans (x_5.mono g4.size); have f5 := f4.trans (x_5.mono f4.size); rw [eqB_true (HEQ.out rfl)] at he1; subst he1; have RZ_5 := RZ_4.below x_5 RZ_4.lt; have RY_5 := RY_4.below x_5 RY_4.lt; have s5RZ0 : v5.cell? ⟨w9.heap.size, 0, none⟩ = some (.int .i64 zop) := RZ_5.cell 0; have s5RZ1 : v5.cell? ⟨w9.heap.size, 1, none⟩ = some (.int .i64 zn) := RZ_5.cell 1; have s5RZ2 : v5.cell? ⟨w9.heap.size, 2, none⟩ = some (.string zname) := RZ_5.cell 2; have s5RZ3 : v5.cell? ⟨w9.heap.size, 3, none⟩ = some (.slice A9 zkids.length c9) := RZ_5.cell 3; have s5RY0 : v5.cell? ⟨w8.heap.size, 0, none⟩ = some (.int .i64 yop) := RY_5.cell 0; have s5RY1 : v5.cell? ⟨w8.heap.size, 1, none⟩ = some (.int .i64 yn) := RY_5.cell 1; have s5RY2 : v5.cell? ⟨w8.heap.size, 2, none⟩ = some (.string yname) := RY_5.cell 2; have s5RY3 : v5.cell? ⟨w8.heap.size, 3, none⟩ = some (.slice A8 ykids.length c8) := RY_5.cell 3
          refine hK.out _ _ ?_ (fun hHeld => ?_)
          · ((try dsimp only); refine ⟨?_, ?_, ?_, ?_, ?_, ?_, ?_, ?_⟩ <;> assumption)
          clear hK K
          try simp only [Act.put, List.setIfInBounds_toArray, List.set_cons_zero, List.set_cons_succ]
          refine reg_take (i := 15) (v := ?v16) rfl (by kernel_rfl) (by kernel_rfl) (by kernel_rfl) (fun _ _ _ h => h) (Or.inl ⟨by kernel_rfl, ?h16⟩) (by assumption) ?r16
          case h16 => (intro w hSw; (try dsimp only at hSw); go_simp; try with_reducible rfl)
          try simp only [Act.put, List.setIfInBounds_toArray, List.set_cons_zero, List.set_cons_succ]
          refine reg_take (i := 16) (v := ?v17) rfl (by kernel_rfl) (by kernel_rfl) (by kernel_rfl) (fun _ _ _ h => h) (Or.inl ⟨by kernel_rfl, ?h17⟩) (by assumption) ?r17
          case h17 => (intro w hSw; (try dsimp only at hSw); go_simp; try with_reducible rfl)
          try simp only [Act.put, List.setIfInBounds_toArray, List.set_cons_zero, List.set_cons_succ]
          refine reg_take (i := 17) (v := ?v18) rfl (by kernel_rfl) (by kernel_rfl) (by kernel_rfl) (fun _ _ _ h => h) (Or.inl ⟨by kernel_rfl, ?h18⟩) (by assumption) ?r18
          case h18 => (intro w hSw; (try dsimp only at hSw); go_simp; try with_reducible rfl)
          try simp only [Act.put, List.setIfInBounds_toArray, List.set_cons_zero, List.set_cons_succ]
          refine wpAnyH_done (by kernel_rfl) ?_ _
          have sf0 : v5.frozen? ⟨w8.heap.size, 0, none⟩ = false := RY_5.frozen 0
          have sf1 : v5.frozen? ⟨w8.heap.size, 1, none⟩ = false := RY_5.frozen 1
          have sf2 : v5.frozen? ⟨w8.heap.size, 2, none⟩ = false := RY_5.frozen 2
          have sf3 : v5.frozen? ⟨w8.heap.size, 3, none⟩ = false := RY_5.frozen 3
          have RN := (((RY_5.set_ 0 (.int .i64 zop)).set_ 1 (.int .i64 zn)).set_ 2 (.string zname)).set_ 3 (.slice A9 zkids.length c9)
          have qN : Below w8.heap.size (w8.alloc (.cells #[.int .i64 xop, .int .i64 xn, .string xname, .slice A5 xkids.length c5] 25)) ((((v5.setCell ⟨w8.heap.size, 0, none⟩ (.int .i64 zop)).setCell ⟨w8.heap.size, 1, none⟩ (.int .i64 zn)).setCell ⟨w8.heap.size, 2, none⟩ (.string zname)).setCell ⟨w8.heap.size, 3, none⟩ (.slice A9 zkids.length c9)) := (q10.trans (f5.mono (Nat.le_of_lt RY10.lt))).trans (set4_below v5 w8.heap.size _ _ _ _ (Nat.le_refl _))
          have hzN : Sl false (exS false 12) ((((v5.setCell ⟨w8.heap.size, 0, none⟩ (.int .i64 zop)).setCell ⟨w8.heap.size, 1, none⟩ (.int .i64 zn)).setCell ⟨w8.heap.size, 2, none⟩ (.string zname)).setCell ⟨w8.heap.size, 3, none⟩ (.slice A9 zkids.length c9)) wk.heap.size w9.heap.size zkids (.slice A9 zkids.length c9) := (hz10.below f5 hqz).keep (Nat.le_refl _) (Nat.le_refl _) (fun b h1 h2 => set4_block v5 w8.heap.size _ _ _ _ b (by omega))
          have hsN : w9.heap.size ≤ ((((v5.setCell ⟨w8.heap.size, 0, none⟩ (.int .i64 zop)).setCell ⟨w8.heap.size, 1, none⟩ (.int .i64 zn)).setCell ⟨w8.heap.size, 2, none⟩ (.string zname)).setCell ⟨w8.heap.size, 3, none⟩ (.slice A9 zkids.length c9)).heap.size := Nat.le_trans (Nat.le_trans hqz f5.size) (Nat.le_of_eq (set4_size v5 w8.heap.size _ _ _ _).symm)
          clear hz10 hy10 hz3 HEQ HCZ HCY tgt s0Z0 s0Y0 s0Z1 s0Y1 s0Z2 s0Y2 s0Z3 s0Y3
          go_wp2_with fail
          go_roundw
          case rel => exact ⟨k + 1, 12, _, _, zop, zn, zname, zkids, A9, c9, by omega, by go_num, RN, zo, zn64, znm, hzN, Or.inr hl8, hsN, HZV, HZI, qN⟩
          case measure => simp [intOf]; omega
        · have tne : ((pz : Int) == (py : Int)) = false := beq_eq_false_iff_ne.2 (by omega)
          have tne2 : (pz == py) = false := beq_eq_false_iff_ne.2 hpp
          clear hpp
          refine wp_region_held_drew (S := fun w' => (w'.cell? ⟨w9.heap.size, 0, none⟩ = some (.int .i64 zop) ∧ w'.cell? ⟨w9.heap.size, 1, none⟩ = some (.int .i64 zn) ∧ w'.cell? ⟨w9.heap.size, 2, none⟩ = some (.string zname) ∧ w'.cell? ⟨w9.heap.size, 3, none⟩ = some (.slice A9 zkids.length c9) ∧ w'.cell? ⟨w8.heap.size, 0, none⟩ = some (.int .i64 yop) ∧ w'.cell? ⟨w8.heap.size, 1, none⟩ = some (.int .i64 yn) ∧ w'.cell? ⟨w8.heap.size, 2, none⟩ = some (.string yname) ∧ w'.cell? ⟨w8.heap.size, 3, none⟩ = some (.slice A8 ykids.length c8))) (by kernel_rfl) ?_ (fun hHeld => ?_)
          · ((try dsimp only); refine ⟨?_, ?_, ?_, ?_, ?_, ?_, ?_, ?_⟩ <;> assumption)
          refine reg_take (i := 0) (v := ?v19) rfl (by kernel_rfl) (by kernel_rfl) (by kernel_rfl) (fun _ _ _ h => h) (Or.inl ⟨by kernel_rfl, ?h19⟩) (by assumption) ?r19
          case h19 => (intro w hSw; (try dsimp only at hSw); go_simp; try with_reducible rfl)
          try simp only [Act.put, List.setIfInBounds_toArray, List.set_cons_zero, List.set_cons_succ]
          refine reg_take (i := 2) (v := ?v20) rfl (by kernel_rfl) (by kernel_rfl) (by kernel_rfl) (fun _ _ _ h => h) (Or.inl ⟨by kernel_rfl, ?h20⟩) (by assumption) ?r20
          case h20 => (intro w hSw; (try dsimp only at hSw); go_simp; try with_reducible rfl)
          try simp only [Act.put, List.setIfInBounds_toArray, List.set_cons_zero, List.set_cons_succ]
          refine reg_call (i := 1) (by kernel_rfl) rfl (fun K hK => ?_)
          go_simp
          refine (impl_ExprParts 12 zop zn zname zkids (.slice A9 zkids.length c9) _ wk.heap.size w9.heap.size (Nat.le_trans hqz f0.size) zo zn64 znm (hz10.below f0 hqz) (HT.out _ g0)).mono ?_; rw [HCZ.out]; rintro e v1 ⟨rfl, x_1⟩; have g1 : Below w.heap.size w v1 := g0.trans (x_1.mono g0.size); have f1 := f0.trans (x_1.mono f0.size); have RZ_1 := RZ_0.below x_1 RZ_0.lt; have RY_1 := RY_0.below x_1 RY_0.lt; have s1RZ0 : v1.cell? ⟨w9.heap.size, 0, none⟩ = some (.int .i64 zop) := RZ_1.cell 0; have s1RZ1 : v1.cell? ⟨w9.heap.size, 1, none⟩ = some (.int .i64 zn) := RZ_1.cell 1; have s1RZ2 : v1.cell? ⟨w9.heap.size, 2, none⟩ = some (.string zname) := RZ_1.cell 2; have s1RZ3 : v1.cell? ⟨w9.heap.size, 3, none⟩ = some (.slice A9 zkids.length c9) := RZ_1.cell 3; have s1RY0 : v1.cell? ⟨w8.heap.size, 0, none⟩ = some (.int .i64 yop) := RY_1.cell 0; have s1RY1 : v1.cell? ⟨w8.heap.size, 1, none⟩ = some (.int .i64 yn) := RY_1.cell 1; have s1RY2 : v1.cell? ⟨w8.heap.size, 2, none⟩ = some (.string yname) := RY_1.cell 2; have s1RY3 : v1.cell? ⟨w8.heap.size, 3, none⟩ = some (.slice A8 ykids.length c8) := RY_1.cell 3
          refine hK.out _ _ ?_ (fun hHeld => ?_)
          · ((try dsimp only); refine ⟨?_, ?_, ?_, ?_, ?_, ?_, ?_, ?_⟩ <;> assumption)
          clear hK K
          try simp only [Act.put, List.setIfInBounds_toArray, List.set_cons_zero, List.set_cons_succ]
          refine reg_call (i := 3) (by kernel_rfl) rfl (fun K hK => ?_)
          go_simp
          refine (impl_ExprParts D yop yn yname ykids (.slice A8 ykids.length c8) _ lo' B' (Nat.le_trans hqy f1.size) yo yn64 ynm (hy10.below f1 hqy) (HT.out _ g1)).mono ?_; rw [HCY.out]; rintro e v2 ⟨rfl, x_2⟩; have g2 : Below w.heap.size w v2 := g1.trans (x_2.mono g1.size); have f2 := f1.trans (x_2.mono f1.size); have RZ_2 := RZ_1.below x_2 RZ_1.lt; have RY_2 := RY_1.below x_2 RY_1.lt; have s2RZ0 : v2.cell? ⟨w9.heap.size, 0, none⟩ = some (.int .i64 zop) := RZ_2.cell 0; have s2RZ1 : v2.cell? ⟨w9.heap.size, 1, none⟩ = some (.int .i64 zn) := RZ_2.cell 1; have s2RZ2 : v2.cell? ⟨w9.heap.size, 2, none⟩ = some (.string zname) := RZ_2.cell 2; have s2RZ3 : v2.cell? ⟨w9.heap.size, 3, none⟩ = some (.slice A9 zkids.length c9) := RZ_2.cell 3; have s2RY0 : v2.cell? ⟨w8.heap.size, 0, none⟩ = some (.int .i64 yop) := RY_2.cell 0; have s2RY1 : v2.cell? ⟨w8.heap.size, 1, none⟩ = some (.int .i64 yn) := RY_2.cell 1; have s2RY2 : v2.cell? ⟨w8.heap.size, 2, none⟩ = some (.string yname) := RY_2.cell 2; have s2RY3 : v2.cell? ⟨w8.heap.size, 3, none⟩ = some (.slice A8 ykids.length c8) := RY_2.cell 3
          refine hK.out _ _ ?_ (fun hHeld => ?_)
          · ((try dsimp only); refine ⟨?_, ?_, ?_, ?_, ?_, ?_, ?_, ?_⟩ <;> assumption)
          clear hK K
          try simp only [Act.put, List.setIfInBounds_toArray, List.set_cons_zero, List.set_cons_succ]
          refine reg_take (i := 4) (v := ?v23) rfl (by kernel_rfl) (by kernel_rfl) (by kernel_rfl) (fun _ _ _ h => h) (Or.inl ⟨by kernel_rfl, ?h23⟩) (by assumption) ?r23
          case h23 => (intro w hSw; (try dsimp only at hSw); go_simp; try with_reducible rfl)
          try simp only [Act.put, List.setIfInBounds_toArray, List.set_cons_zero, List.set_cons_succ]
          refine reg_take (i := 5) (v := ?v24) rfl (by kernel_rfl) (by kernel_rfl) (by kernel_rfl) (fun _ _ _ h => h) (Or.inl ⟨by kernel_rfl, ?h24⟩) (by assumption) ?r24
          case h24 => (intro w hSw; (try dsimp only at hSw); go_simp; try with_reducible rfl)
          try simp only [Act.put, List.setIfInBounds_toArray, List.set_cons_zero, List.set_cons_succ]
          refine reg_take (i := 6) (v := ?v25) rfl (by kernel_rfl) (by kernel_rfl) (by kernel_rfl) (fun _ _ _ h => h) (Or.inl ⟨by kernel_rfl, ?h25⟩) (by assumption) ?r25
          case h25 => (intro w hSw; (try dsimp only at hSw); go_simp; try with_reducible rfl)
          try simp only [Act.put, List.setIfInBounds_toArray, List.set_cons_zero, List.set_cons_succ]
          refine reg_take (i := 8) (v := ?v26) rfl (by kernel_rfl) (by kernel_rfl) (by kernel_rfl) (fun _ _ _ h => h) (Or.inl ⟨by kernel_rfl, ?h26⟩) (by assumption) ?r26
          case h26 => (intro w hSw; (try dsimp only at hSw); go_simp; try with_reducible rfl)
          try simp only [Act.put, List.setIfInBounds_toArray, List.set_cons_zero, List.set_cons_succ]
          refine reg_call (i := 7) (by kernel_rfl) rfl (fun K hK => ?_)
          go_simp
          refine (impl_ExprParts 12 zop zn zname zkids (.slice A9 zkids.length c9) _ wk.heap.size w9.heap.size (Nat.le_trans hqz f2.size) zo zn64 znm (hz10.below f2 hqz) (HT.out _ g2)).mono ?_; rw [HCZ.out]; rintro e v3 ⟨rfl, x_3⟩; have g3 : Below w.heap.size w v3 := g2.trans (x_3.mono g2.size); have f3 := f2.trans (x_3.mono f2.size); have RZ_3 := RZ_2.below x_3 RZ_2.lt; have RY_3 := RY_2.below x_3 RY_2.lt; have s3RZ0 : v3.cell? ⟨w9.heap.size, 0, none⟩ = some (.int .i64 zop) := RZ_3.cell 0; have s3RZ1 : v3.cell? ⟨w9.heap.size, 1, none⟩ = some (.int .i64 zn) := RZ_3.cell 1; have s3RZ2 : v3.cell? ⟨w9.heap.size, 2, none⟩ = some (.string zname) := RZ_3.cell 2; have s3RZ3 : v3.cell? ⟨w9.heap.size, 3, none⟩ = some (.slice A9 zkids.length c9) := RZ_3.cell 3; have s3RY0 : v3.cell? ⟨w8.heap.size, 0, none⟩ = some (.int .i64 yop) := RY_3.cell 0; have s3RY1 : v3.cell? ⟨w8.heap.size, 1, none⟩ = some (.int .i64 yn) := RY_3.cell 1; have s3RY2 : v3.cell? ⟨w8.heap.size, 2, none⟩ = some (.string yname) := RY_3.cell 2; have s3RY3 : v3.cell? ⟨w8.heap.size, 3, none⟩ = some (.slice A8 ykids.length c8) := RY_3.cell 3
          refine hK.out _ _ ?_ (fun hHeld => ?_)
          · ((try dsimp only); refine ⟨?_, ?_, ?_, ?_, ?_, ?_, ?_, ?_⟩ <;> assumption)
          clear hK K
          try simp only [Act.put, List.setIfInBounds_toArray, List.set_cons_zero, List.set_cons_succ]
          refine reg_call (i := 9) (by kernel_rfl) rfl (fun K hK => ?_)
          go_simp
          refine (impl_ExprParts D yop yn yname ykids (.slice A8 ykids.length c8) _ lo' B' (Nat.le_trans hqy f3.size) yo yn64 ynm (hy10.below f3 hqy) (HT.out _ g3)).mono ?_; rw [HCY.out]; rintro e v4 ⟨rfl, x_4⟩; have g4 : Below w.heap.size w v4 := g3.trans (x_4.mono g3.size); have f4 := f3.trans (x_4.mono f3.size); have RZ_4 := RZ_3.below x_4 RZ_3.lt; have RY_4 := RY_3.below x_4 RY_3.lt; have s4RZ0 : v4.cell? ⟨w9.heap.size, 0, none⟩ = some (.int .i64 zop) := RZ_4.cell 0; have s4RZ1 : v4.cell? ⟨w9.heap.size, 1, none⟩ = some (.int .i64 zn) := RZ_4.cell 1; have s4RZ2 : v4.cell? ⟨w9.heap.size, 2, none⟩ = some (.string zname) := RZ_4.cell 2; have s4RZ3 : v4.cell? ⟨w9.heap.size, 3, none⟩ = some (.slice A9 zkids.length c9) := RZ_4.cell 3; have s4RY0 : v4.cell? ⟨w8.heap.size, 0, none⟩ = some (.int .i64 yop) := RY_4.cell 0; have s4RY1 : v4.cell? ⟨w8.heap.size, 1, none⟩ = some (.int .i64 yn) := RY_4.cell 1; have s4RY2 : v4.cell? ⟨w8.heap.size, 2, none⟩ = some (.string yname) := RY_4.cell 2; have s4RY3 : v4.cell? ⟨w8.heap.size, 3, none⟩ = some (.slice A8 ykids.length c8) := RY_4.cell 3
          refine hK.out _ _ ?_ (fun hHeld => ?_)
          · ((try dsimp only); refine ⟨?_, ?_, ?_, ?_, ?_, ?_, ?_, ?_⟩ <;> assumption)
          clear hK K
          try simp only [Act.put, List.setIfInBounds_toArray, List.set_cons_zero, List.set_cons_succ]
          refine reg_take (i := 10) (v := ?v29) rfl (by kernel_rfl) (by kernel_rfl) (by kernel_rfl) (fun _ _ _ h => h) (Or.inl ⟨by kernel_rfl, ?h29⟩) (by assumption) ?r29
          case h29 => (intro w hSw; (try dsimp only at hSw); go_simp; try with_reducible rfl)
          try simp only [Act.put, List.setIfInBounds_toArray, List.set_cons_zero, List.set_cons_succ]
          refine reg_take (i := 11) (v := ?v30) rfl (by kernel_rfl) (by kernel_rfl) (by kernel_rfl) (fun _ _ _ h => h) (Or.inl ⟨by kernel_rfl, ?h30⟩) (by assumption) ?r30
          case h30 => (intro w hSw; (try dsimp only at hSw); go_simp; try with_reducible rfl)
          try simp only [Act.put, List.setIfInBounds_toArray, List.set_cons_zero, List.set_cons_succ]
          refine reg_take (i := 12) (v := undef) rfl (by kernel_rfl) (by kernel_rfl) (by kernel_rfl) (fun _ _ _ h => h) (Or.inr ⟨by kernel_rfl, rfl⟩) (by assumption) ?_
          try simp only [Act.put, List.setIfInBounds_toArray, List.set_cons_zero, List.set_cons_succ]
          refine reg_take (i := 13) (v := undef) rfl (by kernel_rfl) (by kernel_rfl) (by kernel_rfl) (fun _ _ _ h => h) (Or.inr ⟨by kernel_rfl, rfl⟩) (by assumption) ?_
          try simp only [Act.put, List.setIfInBounds_toArray, List.set_cons_zero, List.set_cons_succ]
          refine reg_take (i := 14) (v := undef) rfl (by kernel_rfl) (by kernel_rfl) (by kernel_rfl) (fun _ _ _ h => h) (Or.inr ⟨by kernel_rfl, rfl⟩) (by assumption) ?_
          try simp only [Act.put, List.setIfInBounds_toArray, List.set_cons_zero, List.set_cons_succ]
          refine reg_take (i := 15) (v := undef) rfl (by kernel_rfl) (by kernel_rfl) (by kernel_rfl) (fun _ _ _ h => h) (Or.inr ⟨by kernel_rfl, rfl⟩) (by assumption) ?_
          try simp only [Act.put, List.setIfInBounds_toArray, List.set_cons_zero, List.set_cons_succ]
          refine reg_take (i := 16) (v := ?v35) rfl (by kernel_rfl) (by kernel_rfl) (by kernel_rfl) (fun _ _ _ h => h) (Or.inl ⟨by kernel_rfl, ?h35⟩) (by assumption) ?r35
          case h35 => (intro w hSw; (try dsimp only at hSw); go_simp; try with_reducible rfl)
          try simp only [Act.put, List.setIfInBounds_toArray, List.set_cons_zero, List.set_cons_succ]
          refine reg_take (i := 17) (v := ?v36) rfl (by kernel_rfl) (by kernel_rfl) (by kernel_rfl) (fun _ _ _ h => h) (Or.inl ⟨by kernel_rfl, ?h36⟩) (by assumption) ?r36
          case h36 => (intro w hSw; (try dsimp only at hSw); go_simp; try with_reducible rfl)
          try simp only [Act.put, List.setIfInBounds_toArray, List.set_cons_zero, List.set_cons_succ]
          refine wpAnyH_done (by kernel_rfl) ?_ _
          have sf0 : v4.frozen? ⟨w8.heap.size, 0, none⟩ = false := RY_4.frozen 0
          have sf1 : v4.frozen? ⟨w8.heap.size, 1, none⟩ = false := RY_4.frozen 1
          have sf2 : v4.frozen? ⟨w8.heap.size, 2, none⟩ = false := RY_4.frozen 2
          have sf3 : v4.frozen? ⟨w8.heap.size, 3, none⟩ = false := RY_4.frozen 3
          have RN := (((RY_4.set_ 0 (.int .i64 zop)).set_ 1 (.int .i64 zn)).set_ 2 (.string zname)).set_ 3 (.slice A9 zkids.length c9)
          have qN : Below w8.heap.size (w8.alloc (.cells #[.int .i64 xop, .int .i64 xn, .string xname, .slice A5 xkids.length c5] 25)) ((((v4.setCell ⟨w8.heap.size, 0, none⟩ (.int .i64 zop)).setCell ⟨w8.heap.size, 1, none⟩ (.int .i64 zn)).setCell ⟨w8.heap.size, 2, none⟩ (.string zname)).setCell ⟨w8.heap.size, 3, none⟩ (.slice A9 zkids.length c9)) := (q10.trans (f4.mono (Nat.le_of_lt RY10.lt))).trans (set4_below v4 w8.heap.size _ _ _ _ (Nat.le_refl _))
          have hzN : Sl false (exS false 12) ((((v4.setCell ⟨w8.heap.size, 0, none⟩ (.int .i64 zop)).setCell ⟨w8.heap.size, 1, none⟩ (.int .i64 zn)).setCell ⟨w8.heap.size, 2, none⟩ (.string zname)).setCell ⟨w8.heap.size, 3, none⟩ (.slice A9 zkids.length c9)) wk.heap.size w9.heap.size zkids (.slice A9 zkids.length c9) := (hz10.below f4 hqz).keep (Nat.le_refl _) (Nat.le_refl _) (fun b h1 h2 => set4_block v4 w8.heap.size _ _ _ _ b (by omega))
          have hsN : w9.heap.size ≤ ((((v4.setCell ⟨w8.heap.size, 0, none⟩ (.int .i64 zop)).setCell ⟨w8.heap.size, 1, none⟩ (.int .i64 zn)).setCell ⟨w8.heap.size, 2, none⟩ (.string zname)).setCell ⟨w8.heap.size, 3, none⟩ (.slice A9 zkids.length c9)).heap.size := Nat.le_trans (Nat.le_trans hqz f4.size) (Nat.le_of_eq (set4_size v4 w8.heap.size _ _ _ _).symm)
          clear hz10 hy10 hz3 HEQ HCZ HCY tgt s0Z0 s0Y0 s0Z1 s0Y1 s0Z2 s0Y2 s0Z3 s0Y3
          go_wp2_with fail
          go_roundw
          case rel => exact ⟨k + 1, 12, _, _, zop, zn, zname, zkids, A9, c9, by omega, by go_num, RN, zo, zn64, znm, hzN, Or.inr hl8, hsN, HZV, HZI, qN⟩
          case measure => simp [intOf]; omega
      · obtain rfl : k = 30 := by omega
        have hfix : pv2 = .mk yop yn yname ykids := by
          rcases HYI.out with h | h
          · exact HF.out.symm.trans h
          · have := partsE_pos (.mk yop yn yname ykids)
            omega
        have RE_k := RE_8.below q0 hE8
        have RX_k := RX_8.below q0 hX8
        have SE_k := SE_8.below q0 zE8
        have SX_k := SX_8.below q0 zX8
        go_wp2_with fail
        refine (impl_FoldExpr D yop yn yname ykids _ _ lo' B' hx5 yo yn64 ynm hx3 (HT.out _ hbk)).mono ?_
        rw [hfv.out, hfix]
        rintro e w9 hP
        obtain ⟨zop, zn, zname, zkids, A11, c11, rfl, hz, zo, zn64, znm, hz3, x9⟩ := hP.open2
        injection hz with h_1 h_2 h_3 h_4
        subst h_1 h_2 h_3 h_4
        clear hP u0 u1 u2 u3 uf0 uf1 uf2 uf3 hfix HF hfv HYI
        have hb9 : Below w.heap.size w w9 := hbk.trans (x9.mono hbk.size)
        have hz8 : w8.heap.size ≤ wk.heap.size := Nat.le_of_lt hl8
        have x10 := (Below.refl _ w9).alloc (Nat.le_refl _) (.cells #[.int .i64 yop, .int .i64 yn, .string yname, .slice A11 ykids.length c11] 25)
        have RE10 := (RE_k.below x9 RE_k.lt).alloc (.cells #[.int .i64 yop, .int .i64 yn, .string yname, .slice A11 ykids.length c11] 25)
        have RX10 := (RX_k.below x9 RX_k.lt).alloc (.cells #[.int .i64 yop, .int .i64 yn, .string yname, .slice A11 ykids.length c11] 25)
        have RY10 := (RY.below x9 RY.lt).alloc (.cells #[.int .i64 yop, .int .i64 yn, .string yname, .slice A11 ykids.length c11] 25)
        have RL10 : Row (w9.alloc (.cells #[.int .i64 yop, .int .i64 yn, .string yname, .slice A11 ykids.length c11] 25)) w9.heap.size 25 #[.int .i64 yop, .int .i64 yn, .string yname, .slice A11 ykids.length c11] := Row.new _ _ _
        have hb10 : Below w.heap.size w (w9.alloc (.cells #[.int .i64 yop, .int .i64 yn, .string yname, .slice A11 ykids.length c11] 25)) := hb9.trans (x10.mono hb9.size)
        have hz10 := hz3.below x10 (Nat.le_refl _)
        have hy10 := (hx3.below x9 hx5).below x10 (Nat.le_trans hx5 x9.size)
        have hE10 := (SE_k.below x9 (Nat.le_trans zE8 hz8)).below x10 (Nat.le_trans (Nat.le_trans zE8 hz8) x9.size)
        have hX10 := (SX_k.below x9 (Nat.le_trans zX8 hz8)).below x10 (Nat.le_trans (Nat.le_trans zX8 hz8) x9.size)
        have hqz := x10.size
        have hqy := Nat.le_trans (Nat.le_trans hx5 x9.size) x10.size
        have hqE := Nat.le_trans (Nat.le_trans (Nat.le_trans zE8 hz8) x9.size) x10.size
        have hqX := Nat.le_trans (Nat.le_trans (Nat.le_trans zX8 hz8) x9.size) x10.size
        obtain ⟨pe, hpe⟩ : ∃ pe, partsE (.mk op n name kids) = pe := ⟨_, rfl⟩
        obtain ⟨ppx, hppx⟩ : ∃ ppx, partsE (.mk xop xn xname xkids) = ppx := ⟨_, rfl⟩
        obtain ⟨de, hde⟩ : ∃ de, deepE (.mk op n name kids) = de := ⟨_, rfl⟩
        obtain ⟨ddx, hddx⟩ : ∃ ddx, deepE (.mk xop xn xname xkids) = ddx := ⟨_, rfl⟩
        have hl1 := HPX.out
        have hl2 := HDX.out
        rw [hpe, hppx] at hl1
        rw [hde, hddx] at hl2
        have HCE : Hid (cntE (.mk op n name kids) = pe) := (cntE_val HVE.out).trans hpe
        have HCX : Hid (cntE (.mk xop xn xname xkids) = ppx) := (cntE_val HVX.out).trans hppx
        have HDE : Hid (dpE (.mk op n name kids) = de) := (dpE_val HVE.out).trans hde
        have HDX2 : Hid (dpE (.mk xop xn xname xkids) = ddx) := (dpE_val HVX.out).trans hddx
        have tl1 : decide ((ppx : Int) ≤ (pe : Int)) = true := by simp; omega
        have tl2 : decide ((ddx : Int) ≤ (de : Int)) = true := by simp; omega
        clear hpe hppx hde hddx hx3 hz3
        go_wp2_with fail
        generalize hw10 : w9.alloc (.cells #[.int .i64 yop, .int .i64 yn, .string yname, .slice A11 ykids.length c11] 25) = w10 at x10 hb10 RE10 RX10 RY10 RL10 hz10 hy10 hE10 hX10 hqz hqy hqE hqX ⊢
        have s0RX0 : w10.cell? ⟨w4.heap.size, 0, none⟩ = some (.int .i64 xop) := RX10.cell 0
        have s0RX1 : w10.cell? ⟨w4.heap.size, 1, none⟩ = some (.int .i64 xn) := RX10.cell 1
        have s0RX2 : w10.cell? ⟨w4.heap.size, 2, none⟩ = some (.string xname) := RX10.cell 2
        have s0RX3 : w10.cell? ⟨w4.heap.size, 3, none⟩ = some (.slice A5 xkids.length c5) := RX10.cell 3
        have s0RE0 : w10.cell? ⟨w1.heap.size, 0, none⟩ = some (.int .i64 op) := RE10.cell 0
        have s0RE1 : w10.cell? ⟨w1.heap.size, 1, none⟩ = some (.int .i64 n) := RE10.cell 1
        have s0RE2 : w10.cell? ⟨w1.heap.size, 2, none⟩ = some (.string name) := RE10.cell 2
        have s0RE3 : w10.cell? ⟨w1.heap.size, 3, none⟩ = some (.slice A3 kids.length c3) := RE10.cell 3
        have s0RL0 : w10.cell? ⟨w9.heap.size, 0, none⟩ = some (.int .i64 yop) := RL10.cell 0
        have s0RL1 : w10.cell? ⟨w9.heap.size, 1, none⟩ = some (.int .i64 yn) := RL10.cell 1
        have s0RL2 : w10.cell? ⟨w9.heap.size, 2, none⟩ = some (.string yname) := RL10.cell 2
        have s0RL3 : w10.cell? ⟨w9.heap.size, 3, none⟩ = some (.slice A11 ykids.length c11) := RL10.cell 3
        have s0RY0 : w10.cell? ⟨w8.heap.size, 0, none⟩ = some (.int .i64 yop) := RY10.cell 0
        have s0RY1 : w10.cell? ⟨w8.heap.size, 1, none⟩ = some (.int .i64 yn) := RY10.cell 1
        have s0RY2 : w10.cell? ⟨w8.heap.size, 2, none⟩ = some (.string yname) := RY10.cell 2
        have s0RY3 : w10.cell? ⟨w8.heap.size, 3, none⟩ = some (.slice A8 ykids.length c8) := RY10.cell 3
        have g0 : Below w.heap.size w w10.drew := hb10.drew
        have f0 : Below w10.heap.size w10 w10.drew := (Below.refl _ _).drew
        have RX_0 : Row w10.drew (w4.heap.size) 25 #[.int .i64 xop, .int .i64 xn, .string xname, .slice A5 xkids.length c5] := RX10
        have RE_0 : Row w10.drew (w1.heap.size) 25 #[.int .i64 op, .int .i64 n, .string name, .slice A3 kids.length c3] := RE10
        have RL_0 : Row w10.drew (w9.heap.size) 25 #[.int .i64 yop, .int .i64 yn, .string yname, .slice A11 ykids.length c11] := RL10
        have RY_0 : Row w10.drew (w8.heap.size) 25 #[.int .i64 yop, .int .i64 yn, .string yname, .slice A8 ykids.length c8] := RY10
        refine wp_region_held_drew (S := fun w' => (w'.cell? ⟨w4.heap.size, 0, none⟩ = some (.int .i64 xop) ∧ w'.cell? ⟨w4.heap.size, 1, none⟩ = some (.int .i64 xn) ∧ w'.cell? ⟨w4.heap.size, 2, none⟩ = some (.string xname) ∧ w'.cell? ⟨w4.heap.size, 3, none⟩ = some (.slice A5 xkids.length c5) ∧ w'.cell? ⟨w1.heap.size, 0, none⟩ = some (.int .i64 op) ∧ w'.cell? ⟨w1.heap.size, 1, none⟩ = some (.int .i64 n) ∧ w'.cell? ⟨w1.heap.size, 2, none⟩ = some (.string name) ∧ w'.cell? ⟨w1.heap.size, 3, none⟩ = some (.slice A3 kids.length c3) ∧ w'.cell? ⟨w9.heap.size, 0, none⟩ = some (.int .i64 yop) ∧ w'.cell? ⟨w9.heap.size, 1, none⟩ = some (.int .i64 yn) ∧ w'.cell? ⟨w9.heap.size, 2, none⟩ = some (.string yname) ∧ w'.cell? ⟨w9.heap.size, 3, none⟩ = some (.slice A11 ykids.length c11) ∧ w'.cell? ⟨w8.heap.size, 0, none⟩ = some (.int .i64 yop) ∧ w'.cell? ⟨w8.heap.size, 1, none⟩ = some (.int .i64 yn) ∧ w'.cell? ⟨w8.heap.size, 2, none⟩ = some (.string yname) ∧ w'.cell? ⟨w8.heap.size, 3, none⟩ = some (.slice A8 ykids.length c8))) (by kernel_rfl) ?_ (fun hHeld => ?_)
        · ((try dsimp only); refine ⟨?_, ?_, ?_, ?_, ?_, ?_, ?_, ?_, ?_, ?_, ?_, ?_, ?_, ?_, ?_, ?_⟩ <;> assumption)
        refine reg_take (i := 0) (v := ?v37) rfl (by kernel_rfl) (by kernel_rfl) (by kernel_rfl) (fun _ _ _ h => h) (Or.inl ⟨by kernel_rfl, ?h37⟩) (by assumption) ?r37
        case h37 => (intro w hSw; (try dsimp only at hSw); go_simp; try with_reducible rfl)
        try simp only [Act.put, List.setIfInBounds_toArray, List.set_cons_zero, List.set_cons_succ]
        refine reg_call (i := 1) (by kernel_rfl) rfl (fun K hK => ?_)
        go_simp
        refine (impl_ExprValid 12 xop xn xname xkids (.slice A5 xkids.length c5) _ (w1.alloc (.cells #[.int .i64 op, .int .i64 n, .string name, .slice A3 kids.length c3] 25)).heap.size w4.heap.size (Nat.le_trans hqX f0.size) xo xn64 xnm (hX10.below f0 hqX) (HT.out _ g0)).mono ?_; rw [HVX.out]; rintro e v1 ⟨rfl, x_1⟩; have g1 : Below w.heap.size w v1 := g0.trans (x_1.mono g0.size); have f1 := f0.trans (x_1.mono f0.size); have RX_1 := RX_0.below x_1 RX_0.lt; have RE_1 := RE_0.below x_1 RE_0.lt; have RL_1 := RL_0.below x_1 RL_0.lt; have RY_1 := RY_0.below x_1 RY_0.lt; have s1RX0 : v1.cell? ⟨w4.heap.size, 0, none⟩ = some (.int .i64 xop) := RX_1.cell 0; have s1RX1 : v1.cell? ⟨w4.heap.size, 1, none⟩ = some (.int .i64 xn) := RX_1.cell 1; have s1RX2 : v1.cell? ⟨w4.heap.size, 2, none⟩ = some (.string xname) := RX_1.cell 2; have s1RX3 : v1.cell? ⟨w4.heap.size, 3, none⟩ = some (.slice A5 xkids.length c5) := RX_1.cell 3; have s1RE0 : v1.cell? ⟨w1.heap.size, 0, none⟩ = some (.int .i64 op) := RE_1.cell 0; have s1RE1 : v1.cell? ⟨w1.heap.size, 1, none⟩ = some (.int .i64 n) := RE_1.cell 1; have s1RE2 : v1.cell? ⟨w1.heap.size, 2, none⟩ = some (.string name) := RE_1.cell 2; have s1RE3 : v1.cell? ⟨w1.heap.size, 3, none⟩ = some (.slice A3 kids.length c3) := RE_1.cell 3; have s1RL0 : v1.cell? ⟨w9.heap.size, 0, none⟩ = some (.int .i64 yop) := RL_1.cell 0; have s1RL1 : v1.cell? ⟨w9.heap.size, 1, none⟩ = some (.int .i64 yn) := RL_1.cell 1; have s1RL2 : v1.cell? ⟨w9.heap.size, 2, none⟩ = some (.string yname) := RL_1.cell 2; have s1RL3 : v1.cell? ⟨w9.heap.size, 3, none⟩ = some (.slice A11 ykids.length c11) := RL_1.cell 3; have s1RY0 : v1.cell? ⟨w8.heap.size, 0, none⟩ = some (.int .i64 yop) := RY_1.cell 0; have s1RY1 : v1.cell? ⟨w8.heap.size, 1, none⟩ = some (.int .i64 yn) := RY_1.cell 1; have s1RY2 : v1.cell? ⟨w8.heap.size, 2, none⟩ = some (.string yname) := RY_1.cell 2; have s1RY3 : v1.cell? ⟨w8.heap.size, 3, none⟩ = some (.slice A8 ykids.length c8) := RY_1.cell 3
        refine hK.out _ _ ?_ (fun hHeld => ?_)
        · ((try dsimp only); refine ⟨?_, ?_, ?_, ?_, ?_, ?_, ?_, ?_, ?_, ?_, ?_, ?_, ?_, ?_, ?_, ?_⟩ <;> assumption)
        clear hK K
        try simp only [Act.put, List.setIfInBounds_toArray, List.set_cons_zero, List.set_cons_succ]
        refine reg_take (i := 2) (v := ?v39) rfl (by kernel_rfl) (by kernel_rfl) (by kernel_rfl) (fun _ _ _ h => h) (Or.inl ⟨by kernel_rfl, ?h39⟩) (by assumption) ?r39
        case h39 => (intro w hSw; (try dsimp only at hSw); go_simp; try with_reducible rfl)
        try simp only [Act.put, List.setIfInBounds_toArray, List.set_cons_zero, List.set_cons_succ]
        refine reg_take (i := 3) (v := ?v40) rfl (by kernel_rfl) (by kernel_rfl) (by kernel_rfl) (fun _ _ _ h => h) (Or.inl ⟨by kernel_rfl, ?h40⟩) (by assumption) ?r40
        case h40 => (intro w hSw; (try dsimp only at hSw); go_simp; try with_reducible rfl)
        try simp only [Act.put, List.setIfInBounds_toArray, List.set_cons_zero, List.set_cons_succ]
        refine reg_take (i := 5) (v := ?v41) rfl (by kernel_rfl) (by kernel_rfl) (by kernel_rfl) (fun _ _ _ h => h) (Or.inl ⟨by kernel_rfl, ?h41⟩) (by assumption) ?r41
        case h41 => (intro w hSw; (try dsimp only at hSw); go_simp; try with_reducible rfl)
        try simp only [Act.put, List.setIfInBounds_toArray, List.set_cons_zero, List.set_cons_succ]
        refine reg_call (i := 4) (by kernel_rfl) rfl (fun K hK => ?_)
        go_simp
        refine (impl_ExprParts 12 xop xn xname xkids (.slice A5 xkids.length c5) _ (w1.alloc (.cells #[.int .i64 op, .int .i64 n, .string name, .slice A3 kids.length c3] 25)).heap.size w4.heap.size (Nat.le_trans hqX f1.size) xo xn64 xnm (hX10.below f1 hqX) (HT.out _ g1)).mono ?_; rw [HCX.out]; rintro e v2 ⟨rfl, x_2⟩; have g2 : Below w.heap.size w v2 := g1.trans (x_2.mono g1.size); have f2 := f1.trans (x_2.mono f1.size); have RX_2 := RX_1.below x_2 RX_1.lt; have RE_2 := RE_1.below x_2 RE_1.lt; have RL_2 := RL_1.below x_2 RL_1.lt; have RY_2 := RY_1.below x_2 RY_1.lt; have s2RX0 : v2.cell? ⟨w4.heap.size, 0, none⟩ = some (.int .i64 xop) := RX_2.cell 0; have s2RX1 : v2.cell? ⟨w4.heap.size, 1, none⟩ = some (.int .i64 xn) := RX_2.cell 1; have s2RX2 : v2.cell? ⟨w4.heap.size, 2, none⟩ = some (.string xname) := RX_2.cell 2; have s2RX3 : v2.cell? ⟨w4.heap.size, 3, none⟩ = some (.slice A5 xkids.length c5) := RX_2.cell 3; have s2RE0 : v2.cell? ⟨w1.heap.size, 0, none⟩ = some (.int .i64 op) := RE_2.cell 0; have s2RE1 : v2.cell? ⟨w1.heap.size, 1, none⟩ = some (.int .i64 n) := RE_2.cell 1; have s2RE2 : v2.cell? ⟨w1.heap.size, 2, none⟩ = some (.string name) := RE_2.cell 2; have s2RE3 : v2.cell? ⟨w1.heap.size, 3, none⟩ = some (.slice A3 kids.length c3) := RE_2.cell 3; have s2RL0 : v2.cell? ⟨w9.heap.size, 0, none⟩ = some (.int .i64 yop) := RL_2.cell 0; have s2RL1 : v2.cell? ⟨w9.heap.size, 1, none⟩ = some (.int .i64 yn) := RL_2.cell 1; have s2RL2 : v2.cell? ⟨w9.heap.size, 2, none⟩ = some (.string yname) := RL_2.cell 2; have s2RL3 : v2.cell? ⟨w9.heap.size, 3, none⟩ = some (.slice A11 ykids.length c11) := RL_2.cell 3; have s2RY0 : v2.cell? ⟨w8.heap.size, 0, none⟩ = some (.int .i64 yop) := RY_2.cell 0; have s2RY1 : v2.cell? ⟨w8.heap.size, 1, none⟩ = some (.int .i64 yn) := RY_2.cell 1; have s2RY2 : v2.cell? ⟨w8.heap.size, 2, none⟩ = some (.string yname) := RY_2.cell 2; have s2RY3 : v2.cell? ⟨w8.heap.size, 3, none⟩ = some (.slice A8 ykids.length c8) := RY_2.cell 3
        refine hK.out _ _ ?_ (fun hHeld => ?_)
        · ((try dsimp only); refine ⟨?_, ?_, ?_, ?_, ?_, ?_, ?_, ?_, ?_, ?_, ?_, ?_, ?_, ?_, ?_, ?_⟩ <;> assumption)
        clear hK K
        try simp only [Act.put, List.setIfInBounds_toArray, List.set_cons_zero, List.set_cons_succ]
        refine reg_call (i := 6) (by kernel_rfl) rfl (fun K hK => ?_)
        go_simp
        refine (impl_ExprParts 9 op n name kids (.slice A3 kids.length c3) _ w.heap.size w1.heap.size (Nat.le_trans hqE f2.size) ho hn64 hnm (hE10.below f2 hqE) (HT.out _ g2)).mono ?_; rw [HCE.out]; rintro e v3 ⟨rfl, x_3⟩; have g3 : Below w.heap.size w v3 := g2.trans (x_3.mono g2.size); have f3 := f2.trans (x_3.mono f2.size); have RX_3 := RX_2.below x_3 RX_2.lt; have RE_3 := RE_2.below x_3 RE_2.lt; have RL_3 := RL_2.below x_3 RL_2.lt; have RY_3 := RY_2.below x_3 RY_2.lt; have s3RX0 : v3.cell? ⟨w4.heap.size, 0, none⟩ = some (.int .i64 xop) := RX_3.cell 0; have s3RX1 : v3.cell? ⟨w4.heap.size, 1, none⟩ = some (.int .i64 xn) := RX_3.cell 1; have s3RX2 : v3.cell? ⟨w4.heap.size, 2, none⟩ = some (.string xname) := RX_3.cell 2; have s3RX3 : v3.cell? ⟨w4.heap.size, 3, none⟩ = some (.slice A5 xkids.length c5) := RX_3.cell 3; have s3RE0 : v3.cell? ⟨w1.heap.size, 0, none⟩ = some (.int .i64 op) := RE_3.cell 0; have s3RE1 : v3.cell? ⟨w1.heap.size, 1, none⟩ = some (.int .i64 n) := RE_3.cell 1; have s3RE2 : v3.cell? ⟨w1.heap.size, 2, none⟩ = some (.string name) := RE_3.cell 2; have s3RE3 : v3.cell? ⟨w1.heap.size, 3, none⟩ = some (.slice A3 kids.length c3) := RE_3.cell 3; have s3RL0 : v3.cell? ⟨w9.heap.size, 0, none⟩ = some (.int .i64 yop) := RL_3.cell 0; have s3RL1 : v3.cell? ⟨w9.heap.size, 1, none⟩ = some (.int .i64 yn) := RL_3.cell 1; have s3RL2 : v3.cell? ⟨w9.heap.size, 2, none⟩ = some (.string yname) := RL_3.cell 2; have s3RL3 : v3.cell? ⟨w9.heap.size, 3, none⟩ = some (.slice A11 ykids.length c11) := RL_3.cell 3; have s3RY0 : v3.cell? ⟨w8.heap.size, 0, none⟩ = some (.int .i64 yop) := RY_3.cell 0; have s3RY1 : v3.cell? ⟨w8.heap.size, 1, none⟩ = some (.int .i64 yn) := RY_3.cell 1; have s3RY2 : v3.cell? ⟨w8.heap.size, 2, none⟩ = some (.string yname) := RY_3.cell 2; have s3RY3 : v3.cell? ⟨w8.heap.size, 3, none⟩ = some (.slice A8 ykids.length c8) := RY_3.cell 3
        refine hK.out _ _ ?_ (fun hHeld => ?_)
        · ((try dsimp only); refine ⟨?_, ?_, ?_, ?_, ?_, ?_, ?_, ?_, ?_, ?_, ?_, ?_, ?_, ?_, ?_, ?_⟩ <;> assumption)
        clear hK K
        try simp only [Act.put, List.setIfInBounds_toArray, List.set_cons_zero, List.set_cons_succ]
        refine reg_take (i := 7) (v := ?v44) rfl (by kernel_rfl) (by kernel_rfl) (by kernel_rfl) (fun _ _ _ h => h) (Or.inl ⟨by kernel_rfl, ?h44⟩) (by assumption) ?r44
        case h44 => (intro w hSw; (try dsimp only at hSw); go_simp; try with_reducible rfl)
        try simp only [Act.put, List.setIfInBounds_toArray, List.set_cons_zero, List.set_cons_succ]
        refine reg_take (i := 8) (v := ?v45) rfl (by kernel_rfl) (by kernel_rfl) (by kernel_rfl) (fun _ _ _ h => h) (Or.inl ⟨by kernel_rfl, ?h45⟩) (by assumption) ?r45
        case h45 => (intro w hSw; (try dsimp only at hSw); go_simp; try with_reducible rfl)
        try simp only [Act.put, List.setIfInBounds_toArray, List.set_cons_zero, List.set_cons_succ]
        refine reg_take (i := 9) (v := ?v46) rfl (by kernel_rfl) (by kernel_rfl) (by kernel_rfl) (fun _ _ _ h => h) (Or.inl ⟨by kernel_rfl, ?h46⟩) (by assumption) ?r46
        case h46 => (intro w hSw; (try dsimp only at hSw); go_simp; try with_reducible rfl)
        try simp only [Act.put, List.setIfInBounds_toArray, List.set_cons_zero, List.set_cons_succ]
        refine reg_take (i := 10) (v := ?v47) rfl (by kernel_rfl) (by kernel_rfl) (by kernel_rfl) (fun _ _ _ h => h) (Or.inl ⟨by kernel_rfl, ?h47⟩) (by assumption) ?r47
        case h47 => (intro w hSw; (try dsimp only at hSw); go_simp; try with_reducible rfl)
        try simp only [Act.put, List.setIfInBounds_toArray, List.set_cons_zero, List.set_cons_succ]
        refine reg_take (i := 12) (v := ?v48) rfl (by kernel_rfl) (by kernel_rfl) (by kernel_rfl) (fun _ _ _ h => h) (Or.inl ⟨by kernel_rfl, ?h48⟩) (by assumption) ?r48
        case h48 => (intro w hSw; (try dsimp only at hSw); go_simp; try with_reducible rfl)
        try simp only [Act.put, List.setIfInBounds_toArray, List.set_cons_zero, List.set_cons_succ]
        refine reg_call (i := 11) (by kernel_rfl) rfl (fun K hK => ?_)
        go_simp
        refine (impl_ExprDeep 12 xop xn xname xkids (.slice A5 xkids.length c5) _ (w1.alloc (.cells #[.int .i64 op, .int .i64 n, .string name, .slice A3 kids.length c3] 25)).heap.size w4.heap.size (Nat.le_trans hqX f3.size) xo xn64 xnm (hX10.below f3 hqX) (HT.out _ g3)).mono ?_; rw [HDX2.out]; rintro e v4 ⟨rfl, x_4⟩; have g4 : Below w.heap.size w v4 := g3.trans (x_4.mono g3.size); have f4 := f3.trans (x_4.mono f3.size); have RX_4 := RX_3.below x_4 RX_3.lt; have RE_4 := RE_3.below x_4 RE_3.lt; have RL_4 := RL_3.below x_4 RL_3.lt; have RY_4 := RY_3.below x_4 RY_3.lt; have s4RX0 : v4.cell? ⟨w4.heap.size, 0, none⟩ = some (.int .i64 xop) := RX_4.cell 0; have s4RX1 : v4.cell? ⟨w4.heap.size, 1, none⟩ = some (.int .i64 xn) := RX_4.cell 1; have s4RX2 : v4.cell? ⟨w4.heap.size, 2, none⟩ = some (.string xname) := RX_4.cell 2; have s4RX3 : v4.cell? ⟨w4.heap.size, 3, none⟩ = some (.slice A5 xkids.length c5) := RX_4.cell 3; have s4RE0 : v4.cell? ⟨w1.heap.size, 0, none⟩ = some (.int .i64 op) := RE_4.cell 0; have s4RE1 : v4.cell? ⟨w1.heap.size, 1, none⟩ = some (.int .i64 n) := RE_4.cell 1; have s4RE2 : v4.cell? ⟨w1.heap.size, 2, none⟩ = some (.string name) := RE_4.cell 2; have s4RE3 : v4.cell? ⟨w1.heap.size, 3, none⟩ = some (.slice A3 kids.length c3) := RE_4.cell 3; have s4RL0 : v4.cell? ⟨w9.heap.size, 0, none⟩ = some (.int .i64 yop) := RL_4.cell 0; have s4RL1 : v4.cell? ⟨w9.heap.size, 1, none⟩ = some (.int .i64 yn) := RL_4.cell 1; have s4RL2 : v4.cell? ⟨w9.heap.size, 2, none⟩ = some (.string yname) := RL_4.cell 2; have s4RL3 : v4.cell? ⟨w9.heap.size, 3, none⟩ = some (.slice A11 ykids.length c11) := RL_4.cell 3; have s4RY0 : v4.cell? ⟨w8.heap.size, 0, none⟩ = some (.int .i64 yop) := RY_4.cell 0; have s4RY1 : v4.cell? ⟨w8.heap.size, 1, none⟩ = some (.int .i64 yn) := RY_4.cell 1; have s4RY2 : v4.cell? ⟨w8.heap.size, 2, none⟩ = some (.string yname) := RY_4.cell 2; have s4RY3 : v4.cell? ⟨w8.heap.size, 3, none⟩ = some (.slice A8 ykids.length c8) := RY_4.cell 3
        refine hK.out _ _ ?_ (fun hHeld => ?_)
        · ((try dsimp only); refine ⟨?_, ?_, ?_, ?_, ?_, ?_, ?_, ?_, ?_, ?_, ?_, ?_, ?_, ?_, ?_, ?_⟩ <;> assumption)
        clear hK K
        try simp only [Act.put, List.setIfInBounds_toArray, List.set_cons_zero, List.set_cons_succ]
        refine reg_call (i := 13) (by kernel_rfl) rfl (fun K hK => ?_)
        go_simp
        refine (impl_ExprDeep 9 op n name kids (.slice A3 kids.length c3) _ w.heap.size w1.heap.size (Nat.le_trans hqE f4.size) ho hn64 hnm (hE10.below f4 hqE) (HT.out _ g4)).mono ?_; rw [HDE.out]; rintro e v5 ⟨rfl, x_5⟩; have g5 : Below w.heap.size w v5 := g4.trans (x_5.mono g4.size); have f5 := f4.trans (x_5.mono f4.size); have RX_5 := RX_4.below x_5 RX_4.lt; have RE_5 := RE_4.below x_5 RE_4.lt; have RL_5 := RL_4.below x_5 RL_4.lt; have RY_5 := RY_4.below x_5 RY_4.lt; have s5RX0 : v5.cell? ⟨w4.heap.size, 0, none⟩ = some (.int .i64 xop) := RX_5.cell 0; have s5RX1 : v5.cell? ⟨w4.heap.size, 1, none⟩ = some (.int .i64 xn) := RX_5.cell 1; have s5RX2 : v5.cell? ⟨w4.heap.size, 2, none⟩ = some (.string xname) := RX_5.cell 2; have s5RX3 : v5.cell? ⟨w4.heap.size, 3, none⟩ = some (.slice A5 xkids.length c5) := RX_5.cell 3; have s5RE0 : v5.cell? ⟨w1.heap.size, 0, none⟩ = some (.int .i64 op) := RE_5.cell 0; have s5RE1 : v5.cell? ⟨w1.heap.size, 1, none⟩ = some (.int .i64 n) := RE_5.cell 1; have s5RE2 : v5.cell? ⟨w1.heap.size, 2, none⟩ = some (.string name) := RE_5.cell 2; have s5RE3 : v5.cell? ⟨w1.heap.size, 3, none⟩ = some (.slice A3 kids.length c3) := RE_5.cell 3; have s5RL0 : v5.cell? ⟨w9.heap.size, 0, none⟩ = some (.int .i64 yop) := RL_5.cell 0; have s5RL1 : v5.cell? ⟨w9.heap.size, 1, none⟩ = some (.int .i64 yn) := RL_5.cell 1; have s5RL2 : v5.cell? ⟨w9.heap.size, 2, none⟩ = some (.string yname) := RL_5.cell 2; have s5RL3 : v5.cell? ⟨w9.heap.size, 3, none⟩ = some (.slice A11 ykids.length c11) := RL_5.cell 3; have s5RY0 : v5.cell? ⟨w8.heap.size, 0, none⟩ = some (.int .i64 yop) := RY_5.cell 0; have s5RY1 : v5.cell? ⟨w8.heap.size, 1, none⟩ = some (.int .i64 yn) := RY_5.cell 1; have s5RY2 : v5.cell? ⟨w8.heap.size, 2, none⟩ = some (.string yname) := RY_5.cell 2; have s5RY3 : v5.cell? ⟨w8.heap.size, 3, none⟩ = some (.slice A8 ykids.length c8) := RY_5.cell 3
        refine hK.out _ _ ?_ (fun hHeld => ?_)
        · ((try dsimp only); refine ⟨?_, ?_, ?_, ?_, ?_, ?_, ?_, ?_, ?_, ?_, ?_, ?_, ?_, ?_, ?_, ?_⟩ <;> assumption)
        clear hK K
        try simp only [Act.put, List.setIfInBounds_toArray, List.set_cons_zero, List.set_cons_succ]
        refine reg_take (i := 14) (v := ?v51) rfl (by kernel_rfl) (by kernel_rfl) (by kernel_rfl) (fun _ _ _ h => h) (Or.inl ⟨by kernel_rfl, ?h51⟩) (by assumption) ?r51
        case h51 => (intro w hSw; (try dsimp only at hSw); go_simp; try with_reducible rfl)
        try simp only [Act.put, List.setIfInBounds_toArray, List.set_cons_zero, List.set_cons_succ]
        refine reg_take (i := 15) (v := ?v52) rfl (by kernel_rfl) (by kernel_rfl) (by kernel_rfl) (fun _ _ _ h => h) (Or.inl ⟨by kernel_rfl, ?h52⟩) (by assumption) ?r52
        case h52 => (intro w hSw; (try dsimp only at hSw); go_simp; try with_reducible rfl)
        try simp only [Act.put, List.setIfInBounds_toArray, List.set_cons_zero, List.set_cons_succ]
        refine reg_take (i := 16) (v := ?v53) rfl (by kernel_rfl) (by kernel_rfl) (by kernel_rfl) (fun _ _ _ h => h) (Or.inl ⟨by kernel_rfl, ?h53⟩) (by assumption) ?r53
        case h53 => (intro w hSw; (try dsimp only at hSw); go_simp; try with_reducible rfl)
        try simp only [Act.put, List.setIfInBounds_toArray, List.set_cons_zero, List.set_cons_succ]
        refine reg_take (i := 17) (v := ?v54) rfl (by kernel_rfl) (by kernel_rfl) (by kernel_rfl) (fun _ _ _ h => h) (Or.inl ⟨by kernel_rfl, ?h54⟩) (by assumption) ?r54
        case h54 => (intro w hSw; (try dsimp only at hSw); go_simp; try with_reducible rfl)
        try simp only [Act.put, List.setIfInBounds_toArray, List.set_cons_zero, List.set_cons_succ]
        refine reg_take (i := 18) (v := ?v55) rfl (by kernel_rfl) (by kernel_rfl) (by kernel_rfl) (fun _ _ _ h => h) (Or.inl ⟨by kernel_rfl, ?h55⟩) (by assumption) ?r55
        case h55 => (intro w hSw; (try dsimp only at hSw); go_simp; try with_reducible rfl)
        try simp only [Act.put, List.setIfInBounds_toArray, List.set_cons_zero, List.set_cons_succ]
        refine reg_call (i := 19) (by kernel_rfl) rfl (fun K hK => ?_)
        go_simp
        refine (impl_SameExpr 12 yop yn yname ykids (.slice A11 ykids.length c11) D yop yn yname ykids (.slice A8 ykids.length c8) _ wk.heap.size w9.heap.size lo' B' (Nat.le_trans hqz f5.size) (Nat.le_trans hqy f5.size) (hz10.below f5 hqz) (hy10.below f5 hqy)).mono ?_; rintro e v6 ⟨he1, x_6⟩; have g6 : Below w.heap.size w v6 := g5.trans (x_6.mono g5.size); have f6 := f5.trans (x_6.mono f5.size); rw [eqB_true rfl] at he1; subst he1; have RX_6 := RX_5.below x_6 RX_5.lt; have RE_6 := RE_5.below x_6 RE_5.lt; have RL_6 := RL_5.below x_6 RL_5.lt; have RY_6 := RY_5.below x_6 RY_5.lt; have s6RX0 : v6.cell? ⟨w4.heap.size, 0, none⟩ = some (.int .i64 xop) := RX_6.cell 0; have s6RX1 : v6.cell? ⟨w4.heap.size, 1, none⟩ = some (.int .i64 xn) := RX_6.cell 1; have s6RX2 : v6.cell? ⟨w4.heap.size, 2, none⟩ = some (.string xname) := RX_6.cell 2; have s6RX3 : v6.cell? ⟨w4.heap.size, 3, none⟩ = some (.slice A5 xkids.length c5) := RX_6.cell 3; have s6RE0 : v6.cell? ⟨w1.heap.size, 0, none⟩ = some (.int .i64 op) := RE_6.cell 0; have s6RE1 : v6.cell? ⟨w1.heap.size, 1, none⟩ = some (.int .i64 n) := RE_6.cell 1; have s6RE2 : v6.cell? ⟨w1.heap.size, 2, none⟩ = some (.string name) := RE_6.cell 2; have s6RE3 : v6.cell? ⟨w1.heap.size, 3, none⟩ = some (.slice A3 kids.length c3) := RE_6.cell 3; have s6RL0 : v6.cell? ⟨w9.heap.size, 0, none⟩ = some (.int .i64 yop) := RL_6.cell 0; have s6RL1 : v6.cell? ⟨w9.heap.size, 1, none⟩ = some (.int .i64 yn) := RL_6.cell 1; have s6RL2 : v6.cell? ⟨w9.heap.size, 2, none⟩ = some (.string yname) := RL_6.cell 2; have s6RL3 : v6.cell? ⟨w9.heap.size, 3, none⟩ = some (.slice A11 ykids.length c11) := RL_6.cell 3; have s6RY0 : v6.cell? ⟨w8.heap.size, 0, none⟩ = some (.int .i64 yop) := RY_6.cell 0; have s6RY1 : v6.cell? ⟨w8.heap.size, 1, none⟩ = some (.int .i64 yn) := RY_6.cell 1; have s6RY2 : v6.cell? ⟨w8.heap.size, 2, none⟩ = some (.string yname) := RY_6.cell 2; have s6RY3 : v6.cell? ⟨w8.heap.size, 3, none⟩ = some (.slice A8 ykids.length c8) := RY_6.cell 3
        refine hK.out _ _ ?_ (fun hHeld => ?_)
        · ((try dsimp only); refine ⟨?_, ?_, ?_, ?_, ?_, ?_, ?_, ?_, ?_, ?_, ?_, ?_, ?_, ?_, ?_, ?_⟩ <;> assumption)
        clear hK K
        try simp only [Act.put, List.setIfInBounds_toArray, List.set_cons_zero, List.set_cons_succ]
        refine reg_take (i := 20) (v := ?v57) rfl (by kernel_rfl) (by kernel_rfl) (by kernel_rfl) (fun _ _ _ h => h) (Or.inl ⟨by kernel_rfl, ?h57⟩) (by assumption) ?r57
        case h57 => (intro w hSw; (try dsimp only at hSw); go_simp; try with_reducible rfl)
        try simp only [Act.put, List.setIfInBounds_toArray, List.set_cons_zero, List.set_cons_succ]
        refine reg_take (i := 21) (v := ?v58) rfl (by kernel_rfl) (by kernel_rfl) (by kernel_rfl) (fun _ _ _ h => h) (Or.inl ⟨by kernel_rfl, ?h58⟩) (by assumption) ?r58
        case h58 => (intro w hSw; (try dsimp only at hSw); go_simp; try with_reducible rfl)
        try simp only [Act.put, List.setIfInBounds_toArray, List.set_cons_zero, List.set_cons_succ]
        refine wpAnyH_done (by kernel_rfl) ?_ _
        go_wp2_with fail
        go_ret
        exact ⟨rfl, g6⟩

set_option maxRecDepth 100000 in
theorem fnFoldAgain_lifted (os : Os) (started : os.Started) (H : Type) (enc : TypeId × Value → H) :
    ReturnsInHanded {} Tryd.checked os 4 .any (fun w args => (Rows.fnFoldAgainSpec.pre enc Tryd.prog Tryd.f4 [] false w args ∧ laidMetH Tryd.prog [("loop.example/wholeway/impl.keys", Rows.laid_loop_example_wholeway_impl_keys), ("loop.example/wholeway/impl.opSign", Rows.laid_loop_example_wholeway_impl_opSign)] w) ∧ sizedMet enc Tryd.prog Tryd.f4 (OpenSpec.ofChange Rows.fnFoldAgainSpec) false w args) (Rows.fnFoldAgainSpec.post enc Tryd.prog Tryd.f4 false true false false) := by
  refine returnsInHanded_of_change_and (C := Tryd.checked) (X := fun w _ => laidMetH Tryd.prog [("loop.example/wholeway/impl.keys", Rows.laid_loop_example_wholeway_impl_keys), ("loop.example/wholeway/impl.opSign", Rows.laid_loop_example_wholeway_impl_opSign)] w) (fun _ _ _ hh h => h.of_heap hh) own started (by kernel_rfl) Tryd.func4
    (ChangeSpec.witness_shaped (enc := enc) (C := Tryd.checked) (os := os) (X := fun w _ => laidMetH Tryd.prog [("loop.example/wholeway/impl.keys", Rows.laid_loop_example_wholeway_impl_keys), ("loop.example/wholeway/impl.opSign", Rows.laid_loop_example_wholeway_impl_opSign)] w) false (World.doorLaid Tryd.prog 400 os) #[.slice none 0 0] 8 rfl (World.shaped_of_RefB (by kernel_rfl) (by kernel_rfl)) (by kernel_rfl) (by kernel_rfl) (by kernel_rfl) (door_met os _)) ?_
  intro W base args ds gs before hval0 hW _ _ hL _
  have hval : ∀ (j : Nat) t v, Tryd.f4.params[j]? = some t → args[j]? = some v → Value.okWide Tryd.prog W .any base t v := hval0
  obtain ⟨p, q, hA0, hV, hrest⟩ := id hW
  have hA : DataW.TrodAll enc Tryd.prog W 0 (fun _ => true) true Tryd.f4.params.toList args.toList ds p := hA0
  rw [Tryd.params4] at hA hval
  obtain ⟨v0, d0, rfl, rfl, h0⟩ := trodAll_one hA
  obtain ⟨gv0, gv1, rfl⟩ := two_vars hV
  obtain ⟨a, len, cap, rfl⟩ := okWide_slice Tryd.underlying22 (hval 0 _ v0 rfl rfl)
  obtain ⟨fuel0, hf0⟩ := h0
  obtain ⟨da0, vv, hv0, ha0⟩ := dec_slice Tryd.underlying22 (by kernel_rfl) (by decide) dec_u8 hf0
  simp only [Value.cells, List.cons.injEq, and_true] at hv0
  subst hv0
  have hcall := law_FoldAgain da0 _ W ha0 (tabs_of hL)
  refine hcall.mono fun e W' ⟨he, hb⟩ => ?_
  subst he
  exact ⟨_, rfl, post_true_vars laidO hW (by kernel_rfl) Tryd.underlying4 (by rw [Tryd.params4]; intro t ht; simp only [List.mem_cons, List.not_mem_nil, or_false] at ht; subst ht; exact ⟨by kernel_rfl, of_decide_eq_true (by kernel_rfl)⟩) vars_ok rfl rfl rfl hb⟩

set_option maxRecDepth 100000 in
set_option maxHeartbeats 1000000 in
theorem fnFoldAgain_facts : joinedFacts Tryd.prog 4 Tryd.f4 Rows.fnFoldAgainSpec Rows.fnFoldAgainRow = true := by
  unfold joinedFacts
  exact and_mk (and_mk (and_mk (and_mk (and_mk (and_mk (and_mk (and_mk (and_mk (and_mk (and_mk (and_mk (and_mk (and_mk (and_mk (and_mk (and_mk (and_mk (and_mk (and_mk (and_mk (and_mk (and_mk (and_mk (and_mk (and_mk (and_mk (and_mk (and_mk (and_mk (and_mk (by as_aux_lemma => kernel_rfl) laidO) mapsRowedO) (by as_aux_lemma => kernel_rfl)) (by as_aux_lemma => kernel_rfl)) (by as_aux_lemma => kernel_rfl)) (by as_aux_lemma => kernel_rfl)) (by as_aux_lemma => kernel_rfl)) (by as_aux_lemma => kernel_rfl)) (by as_aux_lemma => kernel_rfl)) (by as_aux_lemma => kernel_rfl)) (by as_aux_lemma => kernel_rfl)) (by as_aux_lemma => kernel_rfl)) (by as_aux_lemma => kernel_rfl)) (by as_aux_lemma => kernel_rfl)) (by as_aux_lemma => kernel_rfl)) (by as_aux_lemma => kernel_rfl)) (by as_aux_lemma => kernel_rfl)) (by as_aux_lemma => kernel_rfl)) (by as_aux_lemma => kernel_rfl)) (by as_aux_lemma => kernel_rfl)) (by as_aux_lemma => kernel_rfl)) (by rw [plainKeysO]; rfl)) (by as_aux_lemma => kernel_rfl)) stopsHeardO) mayEnter) (by rw [liftsFinal]; rfl)) (by rw [makeCut]; rfl)) (by as_aux_lemma => kernel_rfl)) (by as_aux_lemma => kernel_rfl)) (by as_aux_lemma => kernel_rfl)) (by as_aux_lemma => kernel_rfl)

theorem fnFoldAgain_said : Rows.FnFoldAgainSaid :=
  OpenClaim.holds_of_wide 4 Tryd.f4 rfl rfl rfl rfl rfl rfl rfl ⟨rfl, rfl, rfl, rfl, rfl⟩ rfl rfl rfl rfl rfl (by kernel_rfl) Tryd.func4 fnFoldAgain_facts
    (of_decide_eq_true (by kernel_rfl)) (by unfold Func.isWrapper; first | (rw [if_pos (by decide +kernel)]; kernel_rfl) | (rw [if_neg (by decide +kernel)]; exact ⟨rfl, rfl⟩))
    (fun os started H enc _ => fnFoldAgain_lifted os started H enc)

/-- no parameter wants a stand-in -/
theorem fnFoldAgain_plain (f : FuncId) (fn : Func) (hf : Tryd.pinned.checked.prog.funcNamed "loop.example/wholeway/laws.FnFoldAgain" = some f) (hfn : Tryd.pinned.checked.prog.funcs[f]? = some fn) :
    true = Tryd.pinned.checked.prog.looks [] ∧ ∀ (j : Nat) t, fn.params[j]? = some t → Tryd.pinned.checked.prog.wantsStandIn t = false := by
  obtain rfl : f = 4 := Option.some.inj ((show Tryd.prog.funcNamed "loop.example/wholeway/laws.FnFoldAgain" = some 4 by kernel_rfl).symm.trans hf) |>.symm
  obtain rfl : fn = Tryd.f4 := (Option.some.inj (Tryd.func4.symm.trans hfn)).symm
  refine ⟨by kernel_rfl, fun j t ht => ?_⟩
  rw [Tryd.params4] at ht
  have hm : t ∈ [22] := by simpa using Array.mem_of_getElem? ht
  have hall : ([22].all fun u => !Tryd.prog.wantsStandIn u) = true := by kernel_rfl
  exact (show Tryd.prog.wantsStandIn t = false by simpa using List.all_eq_true.1 hall t hm)
theorem fnFoldAgain_holds : Rows.FnFoldAgainCardSaid :=
  Claim7.holds_tied_plain_at .later [] _ _ _ _ fnFoldAgain_said (fun _ h => by cases h) (by kernel_rfl) (fun _ h => by cases h) fnFoldAgain_row_tie rfl ⟨rfl, rfl⟩ (by kernel_rfl) rfl fnFoldAgain_plain (by kernel_rfl)
end Go.Proofs.YthfinoapfbhgcaaDoor

