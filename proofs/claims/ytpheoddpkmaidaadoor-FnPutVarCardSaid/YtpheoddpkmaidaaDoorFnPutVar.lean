/-
  The law FnPutVar: it returns true for all arguments. Condition: the variables that its row lists read as the table lays them.
-/
import Derived.Test.YtpheoddpkmaidaaDoorLawE
import Derived.Test.YtpheoddpkmaidaaDoorSame3
import Derived.Test.YtpheoddpkmaidaaDoorDrawE7
namespace Go.Proofs.YtpheoddpkmaidaaDoor
open Go.RowKit Go.ChangeShapes Go.WideShapes Go.Deep
set_option linter.unusedVariables false
set_option linter.unusedSimpArgs false
theorem putV_at {e y : Ex} {nm : ByteArray} (h : (putV e nm y).2 = true) : valE e = true ∧ valE y = true ∧ (putV e nm y).1 = putE 6 nm y e ∧ valE (putE 6 nm y e) = true := by
  unfold putV at h ⊢
  split at h
  · rename_i h1
    rw [if_pos h1]
    split at h
    · rename_i h2
      rw [if_pos h2]
      exact ⟨h1.1, h1.2, rfl, h2⟩
    · cases h
  · cases h
theorem putV_self {e : Ex} {nm : ByteArray} (h : valE e = true) (hn : isName nm = true) : putV e nm (.mk 2 0 nm []) = (e, true) := by
  have h1 := put_self (nm := nm) 6 e (val_form h)
  rw [putV_yes h (by rw [var_val, hn]) h1 h]
theorem parts_more {e y : Ex} {nm : ByteArray} (h : valE e = true) : ∃ st m : Nat, partsE y = st + 1 ∧ partsE (putE 6 nm y e) = partsE e + m ∧ m = occ nm (flE 2 e) * st := by
  have h1 := parts_put (nm := nm) (y := y) 6 e (val_form h)
  have h2 := partsE_pos y
  refine ⟨partsE y - 1, occ nm (flE 2 e) * (partsE y - 1), by omega, ?_, rfl⟩
  have h3 : occ nm (flE 2 e) * partsE y = occ nm (flE 2 e) * (partsE y - 1) + occ nm (flE 2 e) := by
    obtain ⟨k, hk⟩ : ∃ k, partsE y = k + 1 := ⟨partsE y - 1, by omega⟩
    rw [hk, Nat.mul_succ]
    simp
  omega
theorem has_occ {e : Ex} (h : valE e = true) (nm : ByteArray) : (nmV 2 e).any (fun x => x.toList == nm.toList) = decide (0 < occ nm (flE 2 e)) := by
  rw [Bool.eq_iff_iff, List.any_eq_true, decide_eq_true_iff, occ_pos, nmV_dd h]
  constructor
  · rintro ⟨x, hx, he⟩
    have := ba_eq he
    subst this
    rw [dd_mem] at hx
    exact hx.resolve_left (fun h => by cases h)
  · intro hm
    exact ⟨nm, (dd_mem _ _).2 (Or.inr hm), by simp⟩
theorem any_takeP {l : List ByteArray} {s : ByteArray} {k : Nat} (hk : k < l.length) : (l.take (k + 1)).any (fun x => x.toList == s.toList) = ((l.take k).any (fun x => x.toList == s.toList) || (l[k].toList == s.toList)) := by
  rw [List.take_succ_eq_append_getElem hk, List.any_append]
  simp
/-- a pair, its parts laid open -/
theorem PairP.open2 {px : Ex} {ok : Bool} {w : World} {en : Ending} {w' : World} (h : PairP 12 (px, ok) w en w') : ∃ op n name kids A c, en = .returned (.tuple #[.agg #[.int .i64 op, .int .i64 n, .string name, .slice A kids.length c], .bool ok]) ∧ px = .mk op n name kids ∧ I64 op ∧ I64 n ∧ name.size ≤ maxLen ∧ Sl false (exS false 12) w' w.heap.size w'.heap.size kids (.slice A kids.length c) ∧ Below w.heap.size w w' := by
  obtain ⟨op, n, name, kids⟩ := px
  obtain ⟨v3, he, hr, hb⟩ := h
  obtain ⟨A, c, hw, _, _⟩ := (exT_kids 12 (hr false)).form
  change v3 = Value.slice A kids.length c at hw
  subst hw
  obtain ⟨_, -, j0, j1, j2, j3⟩ := exT_open 12 (hr false)
  exact ⟨op, n, name, kids, A, c, he, rfl, j0, j1, j2, (exT_kids 12 (hr false)).exS, hb⟩
set_option maxRecDepth 100000 in
set_option maxHeartbeats 16000000 in
theorem law_PutVar (l : List UInt8) (v : Value) (w : World) (hv : Sl false byS w 0 w.heap.size l v) (ht : Tabs w) : Calls Tryd.prog 7 #[v] w (Yes w) := by
  obtain ⟨A, cap, rfl, hlc, hcm⟩ := hv.form
  by_cases hbig : 1048576 < l.length
  · have q0 : decide ((1048576 : Int) < (l.length : Int)) = true := by simp; omega
    go_enter Tryd.func7, Tryd.ntmps7
    go_wp2_with fail
    go_ret
    exact ⟨rfl, Below.refl _ _⟩
  have q0 : decide ((1048576 : Int) < (l.length : Int)) = false := by simp; omega
  go_enter Tryd.func7, Tryd.ntmps7
  go_wp2_with fail
  refine (draw_putvar l _ _ hv).mono ?_
  rintro e w1 ⟨op, n, name, kids, A3, c3, nm, bop, bn, bname, bkids, A4, c4, rfl, ho, hn64, hnm, SE_1, hnms, bo, bn64, bnm, SB_1, hb1⟩
  have HT := Lib.hid (fun (w9 : World) (h9 : Below w.heap.size w w9) => ht.below h9 (Nat.le_refl _))
  have hnmM : nm.size ≤ maxLen := Nat.le_trans hnms (by decide)
  have zSE_1 : w1.heap.size ≤ w1.heap.size := Nat.le_refl _
  have zSB_1 : w1.heap.size ≤ w1.heap.size := Nat.le_refl _
  clear ht hv
  obtain ⟨pv, hpv⟩ : ∃ pv, putV (.mk op n name kids) nm (.mk bop bn bname bkids) = pv := ⟨_, rfl⟩
  obtain ⟨px, ok⟩ := pv
  have HPV := Lib.hid hpv
  clear hpv
  have y2 := (Below.refl _ w1).alloc (Nat.le_refl _) (.cells #[.int .i64 op, .int .i64 n, .string name, .slice A3 kids.length c3] 25)
  have hb2 : Below w.heap.size w (w1.alloc (.cells #[.int .i64 op, .int .i64 n, .string name, .slice A3 kids.length c3] 25)) := hb1.trans (y2.mono hb1.size)
  have SE_2 := SE_1.below y2 zSE_1
  have zSE_2 := Nat.le_trans zSE_1 y2.size
  have SB_2 := SB_1.below y2 zSB_1
  have zSB_2 := Nat.le_trans zSB_1 y2.size
  clear SE_1 zSE_1 SB_1 zSB_1
  have RE_2 : Row (w1.alloc (.cells #[.int .i64 op, .int .i64 n, .string name, .slice A3 kids.length c3] 25)) w1.heap.size 25 #[.int .i64 op, .int .i64 n, .string name, .slice A3 kids.length c3] := Row.new _ _ _
  have y3 := (Below.refl _ (w1.alloc (.cells #[.int .i64 op, .int .i64 n, .string name, .slice A3 kids.length c3] 25))).alloc (Nat.le_refl _) (.cells #[.int .i64 bop, .int .i64 bn, .string bname, .slice A4 bkids.length c4] 25)
  have hb3 : Below w.heap.size w ((w1.alloc (.cells #[.int .i64 op, .int .i64 n, .string name, .slice A3 kids.length c3] 25)).alloc (.cells #[.int .i64 bop, .int .i64 bn, .string bname, .slice A4 bkids.length c4] 25)) := hb2.trans (y3.mono hb2.size)
  have RE_3 := RE_2.below y3 RE_2.lt
  have SE_3 := SE_2.below y3 zSE_2
  have zSE_3 := Nat.le_trans zSE_2 y3.size
  have SB_3 := SB_2.below y3 zSB_2
  have zSB_3 := Nat.le_trans zSB_2 y3.size
  clear RE_2 SE_2 zSE_2 SB_2 zSB_2
  have RB_3 : Row ((w1.alloc (.cells #[.int .i64 op, .int .i64 n, .string name, .slice A3 kids.length c3] 25)).alloc (.cells #[.int .i64 bop, .int .i64 bn, .string bname, .slice A4 bkids.length c4] 25)) (w1.heap.size + 1) 25 #[.int .i64 bop, .int .i64 bn, .string bname, .slice A4 bkids.length c4] := by simpa using Row.new (w1.alloc (.cells #[.int .i64 op, .int .i64 n, .string name, .slice A3 kids.length c3] 25)) 25 #[.int .i64 bop, .int .i64 bn, .string bname, .slice A4 bkids.length c4]
  have yRE0 : ((w1.alloc (.cells #[.int .i64 op, .int .i64 n, .string name, .slice A3 kids.length c3] 25)).alloc (.cells #[.int .i64 bop, .int .i64 bn, .string bname, .slice A4 bkids.length c4] 25)).cell? ⟨w1.heap.size, 0, none⟩ = some (.int .i64 op) := RE_3.cell 0
  have yRE1 : ((w1.alloc (.cells #[.int .i64 op, .int .i64 n, .string name, .slice A3 kids.length c3] 25)).alloc (.cells #[.int .i64 bop, .int .i64 bn, .string bname, .slice A4 bkids.length c4] 25)).cell? ⟨w1.heap.size, 1, none⟩ = some (.int .i64 n) := RE_3.cell 1
  have yRE2 : ((w1.alloc (.cells #[.int .i64 op, .int .i64 n, .string name, .slice A3 kids.length c3] 25)).alloc (.cells #[.int .i64 bop, .int .i64 bn, .string bname, .slice A4 bkids.length c4] 25)).cell? ⟨w1.heap.size, 2, none⟩ = some (.string name) := RE_3.cell 2
  have yRE3 : ((w1.alloc (.cells #[.int .i64 op, .int .i64 n, .string name, .slice A3 kids.length c3] 25)).alloc (.cells #[.int .i64 bop, .int .i64 bn, .string bname, .slice A4 bkids.length c4] 25)).cell? ⟨w1.heap.size, 3, none⟩ = some (.slice A3 kids.length c3) := RE_3.cell 3
  have yRB0 : ((w1.alloc (.cells #[.int .i64 op, .int .i64 n, .string name, .slice A3 kids.length c3] 25)).alloc (.cells #[.int .i64 bop, .int .i64 bn, .string bname, .slice A4 bkids.length c4] 25)).cell? ⟨w1.heap.size + 1, 0, none⟩ = some (.int .i64 bop) := RB_3.cell 0
  have yRB1 : ((w1.alloc (.cells #[.int .i64 op, .int .i64 n, .string name, .slice A3 kids.length c3] 25)).alloc (.cells #[.int .i64 bop, .int .i64 bn, .string bname, .slice A4 bkids.length c4] 25)).cell? ⟨w1.heap.size + 1, 1, none⟩ = some (.int .i64 bn) := RB_3.cell 1
  have yRB2 : ((w1.alloc (.cells #[.int .i64 op, .int .i64 n, .string name, .slice A3 kids.length c3] 25)).alloc (.cells #[.int .i64 bop, .int .i64 bn, .string bname, .slice A4 bkids.length c4] 25)).cell? ⟨w1.heap.size + 1, 2, none⟩ = some (.string bname) := RB_3.cell 2
  have yRB3 : ((w1.alloc (.cells #[.int .i64 op, .int .i64 n, .string name, .slice A3 kids.length c3] 25)).alloc (.cells #[.int .i64 bop, .int .i64 bn, .string bname, .slice A4 bkids.length c4] 25)).cell? ⟨w1.heap.size + 1, 3, none⟩ = some (.slice A4 bkids.length c4) := RB_3.cell 3
  go_wp2_with fail
  refine (impl_PutVar 9 op n name kids _ nm 9 bop bn bname bkids _ _ w.heap.size w1.heap.size w.heap.size w1.heap.size zSE_3 zSB_3 ho hn64 hnm SE_3 bo bn64 bnm SB_3 (HT.out _ hb3)).mono ?_
  rw [HPV.out]
  rintro e w4 hP
  obtain ⟨xop, xn, xname, xkids, A5, c5, rfl, hx, xo, xn64, xnm, hx3, x4⟩ := hP.open2
  clear hP yRE0 yRE1 yRE2 yRE3 yRB0 yRB1 yRB2 yRB3
  subst hx
  have hb4 : Below w.heap.size w w4 := hb3.trans (x4.mono hb3.size)
  have RE_4 := RE_3.below x4 RE_3.lt
  have RB_4 := RB_3.below x4 RB_3.lt
  have SE_4 := SE_3.below x4 zSE_3
  have zSE_4 := Nat.le_trans zSE_3 x4.size
  have SB_4 := SB_3.below x4 zSB_3
  have zSB_4 := Nat.le_trans zSB_3 x4.size
  clear RE_3 RB_3 SE_3 zSE_3 SB_3 zSB_3
  have SX_4 := hx3
  have zSX_4 : w4.heap.size ≤ w4.heap.size := Nat.le_refl _
  have y5 := (Below.refl _ w4).alloc (Nat.le_refl _) (.cells #[.int .i64 xop, .int .i64 xn, .string xname, .slice A5 xkids.length c5] 25)
  have hb5 : Below w.heap.size w (w4.alloc (.cells #[.int .i64 xop, .int .i64 xn, .string xname, .slice A5 xkids.length c5] 25)) := hb4.trans (y5.mono hb4.size)
  have RE_5 := RE_4.below y5 RE_4.lt
  have RB_5 := RB_4.below y5 RB_4.lt
  have SE_5 := SE_4.below y5 zSE_4
  have zSE_5 := Nat.le_trans zSE_4 y5.size
  have SB_5 := SB_4.below y5 zSB_4
  have zSB_5 := Nat.le_trans zSB_4 y5.size
  have SX_5 := SX_4.below y5 zSX_4
  have zSX_5 := Nat.le_trans zSX_4 y5.size
  clear RE_4 RB_4 SE_4 zSE_4 SB_4 zSB_4 SX_4 zSX_4
  have RX_5 : Row (w4.alloc (.cells #[.int .i64 xop, .int .i64 xn, .string xname, .slice A5 xkids.length c5] 25)) w4.heap.size 25 #[.int .i64 xop, .int .i64 xn, .string xname, .slice A5 xkids.length c5] := Row.new _ _ _
  have yRE0 : (w4.alloc (.cells #[.int .i64 xop, .int .i64 xn, .string xname, .slice A5 xkids.length c5] 25)).cell? ⟨w1.heap.size, 0, none⟩ = some (.int .i64 op) := RE_5.cell 0
  have yRE1 : (w4.alloc (.cells #[.int .i64 xop, .int .i64 xn, .string xname, .slice A5 xkids.length c5] 25)).cell? ⟨w1.heap.size, 1, none⟩ = some (.int .i64 n) := RE_5.cell 1
  have yRE2 : (w4.alloc (.cells #[.int .i64 xop, .int .i64 xn, .string xname, .slice A5 xkids.length c5] 25)).cell? ⟨w1.heap.size, 2, none⟩ = some (.string name) := RE_5.cell 2
  have yRE3 : (w4.alloc (.cells #[.int .i64 xop, .int .i64 xn, .string xname, .slice A5 xkids.length c5] 25)).cell? ⟨w1.heap.size, 3, none⟩ = some (.slice A3 kids.length c3) := RE_5.cell 3
  have yRB0 : (w4.alloc (.cells #[.int .i64 xop, .int .i64 xn, .string xname, .slice A5 xkids.length c5] 25)).cell? ⟨w1.heap.size + 1, 0, none⟩ = some (.int .i64 bop) := RB_5.cell 0
  have yRB1 : (w4.alloc (.cells #[.int .i64 xop, .int .i64 xn, .string xname, .slice A5 xkids.length c5] 25)).cell? ⟨w1.heap.size + 1, 1, none⟩ = some (.int .i64 bn) := RB_5.cell 1
  have yRB2 : (w4.alloc (.cells #[.int .i64 xop, .int .i64 xn, .string xname, .slice A5 xkids.length c5] 25)).cell? ⟨w1.heap.size + 1, 2, none⟩ = some (.string bname) := RB_5.cell 2
  have yRB3 : (w4.alloc (.cells #[.int .i64 xop, .int .i64 xn, .string xname, .slice A5 xkids.length c5] 25)).cell? ⟨w1.heap.size + 1, 3, none⟩ = some (.slice A4 bkids.length c4) := RB_5.cell 3
  go_wp2_with fail
  refine (spec_PutVar 9 op n name kids _ nm 9 bop bn bname bkids _ _ w.heap.size w1.heap.size w.heap.size w1.heap.size zSE_5 zSB_5 ho hn64 hnm SE_5 bo bn64 bnm SB_5).mono ?_
  rw [HPV.out]
  rintro e w6 hP
  obtain ⟨wop, wn, wname, wkids, A6, c6, rfl, hw, wo, wn64, wnm, hw3, x6⟩ := hP.open2
  clear hP yRE0 yRE1 yRE2 yRE3 yRB0 yRB1 yRB2 yRB3
  injection hw with h_1 h_2 h_3 h_4
  subst h_1 h_2 h_3 h_4
  have hb6 : Below w.heap.size w w6 := hb5.trans (x6.mono hb5.size)
  have RE_6 := RE_5.below x6 RE_5.lt
  have RB_6 := RB_5.below x6 RB_5.lt
  have RX_6 := RX_5.below x6 RX_5.lt
  have SE_6 := SE_5.below x6 zSE_5
  have zSE_6 := Nat.le_trans zSE_5 x6.size
  have SB_6 := SB_5.below x6 zSB_5
  have zSB_6 := Nat.le_trans zSB_5 x6.size
  have SX_6 := SX_5.below x6 zSX_5
  have zSX_6 := Nat.le_trans zSX_5 x6.size
  clear RE_5 RB_5 RX_5 SE_5 zSE_5 SB_5 zSB_5 SX_5 zSX_5
  have SW_6 := hw3
  have zSW_6 : w6.heap.size ≤ w6.heap.size := Nat.le_refl _
  have y7 := (Below.refl _ w6).alloc (Nat.le_refl _) (.cells #[.int .i64 xop, .int .i64 xn, .string xname, .slice A6 xkids.length c6] 25)
  have hb7 : Below w.heap.size w (w6.alloc (.cells #[.int .i64 xop, .int .i64 xn, .string xname, .slice A6 xkids.length c6] 25)) := hb6.trans (y7.mono hb6.size)
  have RE_7 := RE_6.below y7 RE_6.lt
  have RB_7 := RB_6.below y7 RB_6.lt
  have RX_7 := RX_6.below y7 RX_6.lt
  have SE_7 := SE_6.below y7 zSE_6
  have zSE_7 := Nat.le_trans zSE_6 y7.size
  have SB_7 := SB_6.below y7 zSB_6
  have zSB_7 := Nat.le_trans zSB_6 y7.size
  have SX_7 := SX_6.below y7 zSX_6
  have zSX_7 := Nat.le_trans zSX_6 y7.size
  have SW_7 := SW_6.below y7 zSW_6
  have zSW_7 := Nat.le_trans zSW_6 y7.size
  clear RE_6 RB_6 RX_6 SE_6 zSE_6 SB_6 zSB_6 SX_6 zSX_6 SW_6 zSW_6
  have RW_7 : Row (w6.alloc (.cells #[.int .i64 xop, .int .i64 xn, .string xname, .slice A6 xkids.length c6] 25)) w6.heap.size 25 #[.int .i64 xop, .int .i64 xn, .string xname, .slice A6 xkids.length c6] := Row.new _ _ _
  cases ok
  case false =>
    have yRX0 : (w6.alloc (.cells #[.int .i64 xop, .int .i64 xn, .string xname, .slice A6 xkids.length c6] 25)).cell? ⟨w4.heap.size, 0, none⟩ = some (.int .i64 xop) := RX_7.cell 0
    have yRX1 : (w6.alloc (.cells #[.int .i64 xop, .int .i64 xn, .string xname, .slice A6 xkids.length c6] 25)).cell? ⟨w4.heap.size, 1, none⟩ = some (.int .i64 xn) := RX_7.cell 1
    have yRX2 : (w6.alloc (.cells #[.int .i64 xop, .int .i64 xn, .string xname, .slice A6 xkids.length c6] 25)).cell? ⟨w4.heap.size, 2, none⟩ = some (.string xname) := RX_7.cell 2
    have yRX3 : (w6.alloc (.cells #[.int .i64 xop, .int .i64 xn, .string xname, .slice A6 xkids.length c6] 25)).cell? ⟨w4.heap.size, 3, none⟩ = some (.slice A5 xkids.length c5) := RX_7.cell 3
    have yRW0 : (w6.alloc (.cells #[.int .i64 xop, .int .i64 xn, .string xname, .slice A6 xkids.length c6] 25)).cell? ⟨w6.heap.size, 0, none⟩ = some (.int .i64 xop) := RW_7.cell 0
    have yRW1 : (w6.alloc (.cells #[.int .i64 xop, .int .i64 xn, .string xname, .slice A6 xkids.length c6] 25)).cell? ⟨w6.heap.size, 1, none⟩ = some (.int .i64 xn) := RW_7.cell 1
    have yRW2 : (w6.alloc (.cells #[.int .i64 xop, .int .i64 xn, .string xname, .slice A6 xkids.length c6] 25)).cell? ⟨w6.heap.size, 2, none⟩ = some (.string xname) := RW_7.cell 2
    have yRW3 : (w6.alloc (.cells #[.int .i64 xop, .int .i64 xn, .string xname, .slice A6 xkids.length c6] 25)).cell? ⟨w6.heap.size, 3, none⟩ = some (.slice A6 xkids.length c6) := RW_7.cell 3
    go_wp2_with fail
    refine (spec_SameExpr 12 xop xn xname xkids _ 12 xop xn xname xkids _ _ ((w1.alloc (.cells #[.int .i64 op, .int .i64 n, .string name, .slice A3 kids.length c3] 25)).alloc (.cells #[.int .i64 bop, .int .i64 bn, .string bname, .slice A4 bkids.length c4] 25)).heap.size w4.heap.size (w4.alloc (.cells #[.int .i64 xop, .int .i64 xn, .string xname, .slice A5 xkids.length c5] 25)).heap.size w6.heap.size zSX_7 zSW_7 SX_7 SW_7).mono ?_
    rintro e w8 ⟨he_, x8⟩
    rw [eqB_true rfl] at he_
    subst he_
    clear yRX0 yRX1 yRX2 yRX3 yRW0 yRW1 yRW2 yRW3
    have hb8 : Below w.heap.size w w8 := hb7.trans (x8.mono hb7.size)
    have RE_8 := RE_7.below x8 RE_7.lt
    have RB_8 := RB_7.below x8 RB_7.lt
    have RX_8 := RX_7.below x8 RX_7.lt
    have RW_8 := RW_7.below x8 RW_7.lt
    have SE_8 := SE_7.below x8 zSE_7
    have zSE_8 := Nat.le_trans zSE_7 x8.size
    have SB_8 := SB_7.below x8 zSB_7
    have zSB_8 := Nat.le_trans zSB_7 x8.size
    have SX_8 := SX_7.below x8 zSX_7
    have zSX_8 := Nat.le_trans zSX_7 x8.size
    have SW_8 := SW_7.below x8 zSW_7
    have zSW_8 := Nat.le_trans zSW_7 x8.size
    clear RE_7 RB_7 RX_7 RW_7 SE_7 zSE_7 SB_7 zSB_7 SX_7 zSX_7 SW_7 zSW_7
    have yRX0 : w8.cell? ⟨w4.heap.size, 0, none⟩ = some (.int .i64 xop) := RX_8.cell 0
    have yRX1 : w8.cell? ⟨w4.heap.size, 1, none⟩ = some (.int .i64 xn) := RX_8.cell 1
    have yRX2 : w8.cell? ⟨w4.heap.size, 2, none⟩ = some (.string xname) := RX_8.cell 2
    have yRX3 : w8.cell? ⟨w4.heap.size, 3, none⟩ = some (.slice A5 xkids.length c5) := RX_8.cell 3
    have yRW0 : w8.cell? ⟨w6.heap.size, 0, none⟩ = some (.int .i64 xop) := RW_8.cell 0
    have yRW1 : w8.cell? ⟨w6.heap.size, 1, none⟩ = some (.int .i64 xn) := RW_8.cell 1
    have yRW2 : w8.cell? ⟨w6.heap.size, 2, none⟩ = some (.string xname) := RW_8.cell 2
    have yRW3 : w8.cell? ⟨w6.heap.size, 3, none⟩ = some (.slice A6 xkids.length c6) := RW_8.cell 3
    go_wp2_with fail
    refine (spec_SameExpr 12 xop xn xname xkids _ 12 xop xn xname xkids _ _ ((w1.alloc (.cells #[.int .i64 op, .int .i64 n, .string name, .slice A3 kids.length c3] 25)).alloc (.cells #[.int .i64 bop, .int .i64 bn, .string bname, .slice A4 bkids.length c4] 25)).heap.size w4.heap.size (w4.alloc (.cells #[.int .i64 xop, .int .i64 xn, .string xname, .slice A5 xkids.length c5] 25)).heap.size w6.heap.size zSX_8 zSW_8 SX_8 SW_8).mono ?_
    rintro e w9 ⟨he_, x9⟩
    rw [eqB_true rfl] at he_
    subst he_
    clear yRX0 yRX1 yRX2 yRX3 yRW0 yRW1 yRW2 yRW3
    have hb9 : Below w.heap.size w w9 := hb8.trans (x9.mono hb8.size)
    have RE_9 := RE_8.below x9 RE_8.lt
    have RB_9 := RB_8.below x9 RB_8.lt
    have RX_9 := RX_8.below x9 RX_8.lt
    have RW_9 := RW_8.below x9 RW_8.lt
    have SE_9 := SE_8.below x9 zSE_8
    have zSE_9 := Nat.le_trans zSE_8 x9.size
    have SB_9 := SB_8.below x9 zSB_8
    have zSB_9 := Nat.le_trans zSB_8 x9.size
    have SX_9 := SX_8.below x9 zSX_8
    have zSX_9 := Nat.le_trans zSX_8 x9.size
    have SW_9 := SW_8.below x9 zSW_8
    have zSW_9 := Nat.le_trans zSW_8 x9.size
    clear RE_8 RB_8 RX_8 RW_8 SE_8 zSE_8 SB_8 zSB_8 SX_8 zSX_8 SW_8 zSW_8
    go_wp2_with fail
    go_ret
    exact ⟨rfl, hb9⟩
  case true =>
    have yRX0 : (w6.alloc (.cells #[.int .i64 xop, .int .i64 xn, .string xname, .slice A6 xkids.length c6] 25)).cell? ⟨w4.heap.size, 0, none⟩ = some (.int .i64 xop) := RX_7.cell 0
    have yRX1 : (w6.alloc (.cells #[.int .i64 xop, .int .i64 xn, .string xname, .slice A6 xkids.length c6] 25)).cell? ⟨w4.heap.size, 1, none⟩ = some (.int .i64 xn) := RX_7.cell 1
    have yRX2 : (w6.alloc (.cells #[.int .i64 xop, .int .i64 xn, .string xname, .slice A6 xkids.length c6] 25)).cell? ⟨w4.heap.size, 2, none⟩ = some (.string xname) := RX_7.cell 2
    have yRX3 : (w6.alloc (.cells #[.int .i64 xop, .int .i64 xn, .string xname, .slice A6 xkids.length c6] 25)).cell? ⟨w4.heap.size, 3, none⟩ = some (.slice A5 xkids.length c5) := RX_7.cell 3
    have yRW0 : (w6.alloc (.cells #[.int .i64 xop, .int .i64 xn, .string xname, .slice A6 xkids.length c6] 25)).cell? ⟨w6.heap.size, 0, none⟩ = some (.int .i64 xop) := RW_7.cell 0
    have yRW1 : (w6.alloc (.cells #[.int .i64 xop, .int .i64 xn, .string xname, .slice A6 xkids.length c6] 25)).cell? ⟨w6.heap.size, 1, none⟩ = some (.int .i64 xn) := RW_7.cell 1
    have yRW2 : (w6.alloc (.cells #[.int .i64 xop, .int .i64 xn, .string xname, .slice A6 xkids.length c6] 25)).cell? ⟨w6.heap.size, 2, none⟩ = some (.string xname) := RW_7.cell 2
    have yRW3 : (w6.alloc (.cells #[.int .i64 xop, .int .i64 xn, .string xname, .slice A6 xkids.length c6] 25)).cell? ⟨w6.heap.size, 3, none⟩ = some (.slice A6 xkids.length c6) := RW_7.cell 3
    go_wp2_with fail
    refine (spec_SameExpr 12 xop xn xname xkids _ 12 xop xn xname xkids _ _ ((w1.alloc (.cells #[.int .i64 op, .int .i64 n, .string name, .slice A3 kids.length c3] 25)).alloc (.cells #[.int .i64 bop, .int .i64 bn, .string bname, .slice A4 bkids.length c4] 25)).heap.size w4.heap.size (w4.alloc (.cells #[.int .i64 xop, .int .i64 xn, .string xname, .slice A5 xkids.length c5] 25)).heap.size w6.heap.size zSX_7 zSW_7 SX_7 SW_7).mono ?_
    rintro e w8 ⟨he_, x8⟩
    rw [eqB_true rfl] at he_
    subst he_
    clear yRX0 yRX1 yRX2 yRX3 yRW0 yRW1 yRW2 yRW3
    have hb8 : Below w.heap.size w w8 := hb7.trans (x8.mono hb7.size)
    have RE_8 := RE_7.below x8 RE_7.lt
    have RB_8 := RB_7.below x8 RB_7.lt
    have RX_8 := RX_7.below x8 RX_7.lt
    have RW_8 := RW_7.below x8 RW_7.lt
    have SE_8 := SE_7.below x8 zSE_7
    have zSE_8 := Nat.le_trans zSE_7 x8.size
    have SB_8 := SB_7.below x8 zSB_7
    have zSB_8 := Nat.le_trans zSB_7 x8.size
    have SX_8 := SX_7.below x8 zSX_7
    have zSX_8 := Nat.le_trans zSX_7 x8.size
    have SW_8 := SW_7.below x8 zSW_7
    have zSW_8 := Nat.le_trans zSW_7 x8.size
    clear RE_7 RB_7 RX_7 RW_7 SE_7 zSE_7 SB_7 zSB_7 SX_7 zSX_7 SW_7 zSW_7
    have hat := putV_at (e := .mk op n name kids) (y := .mk bop bn bname bkids) (nm := nm) (by rw [HPV.out])
    rw [HPV.out] at hat
    obtain ⟨hve, hvb, hxe, hvx⟩ := hat
    change Ex.mk xop xn xname xkids = _ at hxe
    rw [← hxe] at hvx
    obtain ⟨st, m, hst, hm, hmo⟩ := parts_more (nm := nm) (y := .mk bop bn bname bkids) hve
    rw [← hxe] at hm
    obtain ⟨pe, hpe⟩ : ∃ pe, partsE (.mk op n name kids) = pe := ⟨_, rfl⟩
    rw [hpe] at hm
    obtain ⟨oc, hoc⟩ : ∃ oc, occ nm (flE 2 (.mk op n name kids)) = oc := ⟨_, rfl⟩
    rw [hoc] at hmo
    have hx30 := valE_parts hvx
    rw [hm] at hx30
    have hb30 := valE_parts hvb
    rw [hst] at hb30
    have HCX : Hid (cntE (.mk xop xn xname xkids) = pe + m) := (cntE_val hvx).trans hm
    have HCE : Hid (cntE (.mk op n name kids) = pe) := (cntE_val hve).trans hpe
    have HCB : Hid (cntE (.mk bop bn bname bkids) = st + 1) := (cntE_val hvb).trans hst
    have HVE := Lib.hid hve
    have HVX := Lib.hid hvx
    have HXE := Lib.hid hxe
    have HOC := Lib.hid hoc
    have HMO := Lib.hid hmo
    clear hmo hpe hm hst hoc hxe hve hvb hvx HPV
    go_wp2_with fail
    have sRX0 : w8.cell? ⟨w4.heap.size, 0, none⟩ = some (.int .i64 xop) := RX_8.cell 0
    have sRX1 : w8.cell? ⟨w4.heap.size, 1, none⟩ = some (.int .i64 xn) := RX_8.cell 1
    have sRX2 : w8.cell? ⟨w4.heap.size, 2, none⟩ = some (.string xname) := RX_8.cell 2
    have sRX3 : w8.cell? ⟨w4.heap.size, 3, none⟩ = some (.slice A5 xkids.length c5) := RX_8.cell 3
    have sRE0 : w8.cell? ⟨w1.heap.size, 0, none⟩ = some (.int .i64 op) := RE_8.cell 0
    have sRE1 : w8.cell? ⟨w1.heap.size, 1, none⟩ = some (.int .i64 n) := RE_8.cell 1
    have sRE2 : w8.cell? ⟨w1.heap.size, 2, none⟩ = some (.string name) := RE_8.cell 2
    have sRE3 : w8.cell? ⟨w1.heap.size, 3, none⟩ = some (.slice A3 kids.length c3) := RE_8.cell 3
    have g0 : Below w.heap.size w w8.drew := hb8.drew
    have f0 : Below w8.heap.size w8 w8.drew := (Below.refl _ _).drew
    have RXd_0 : Row w8.drew (w4.heap.size) 25 #[.int .i64 xop, .int .i64 xn, .string xname, .slice A5 xkids.length c5] := RX_8
    have REd_0 : Row w8.drew (w1.heap.size) 25 #[.int .i64 op, .int .i64 n, .string name, .slice A3 kids.length c3] := RE_8
    refine wp_region_held_drew (S := fun w' => (w'.cell? ⟨w4.heap.size, 0, none⟩ = some (.int .i64 xop) ∧ w'.cell? ⟨w4.heap.size, 1, none⟩ = some (.int .i64 xn) ∧ w'.cell? ⟨w4.heap.size, 2, none⟩ = some (.string xname) ∧ w'.cell? ⟨w4.heap.size, 3, none⟩ = some (.slice A5 xkids.length c5) ∧ w'.cell? ⟨w1.heap.size, 0, none⟩ = some (.int .i64 op) ∧ w'.cell? ⟨w1.heap.size, 1, none⟩ = some (.int .i64 n) ∧ w'.cell? ⟨w1.heap.size, 2, none⟩ = some (.string name) ∧ w'.cell? ⟨w1.heap.size, 3, none⟩ = some (.slice A3 kids.length c3))) (by kernel_rfl) ?_ (fun hHeld => ?_)
    · ((try dsimp only); refine ⟨?_, ?_, ?_, ?_, ?_, ?_, ?_, ?_⟩ <;> assumption)
    refine reg_take (i := 0) (v := ?v1) rfl (by kernel_rfl) (by kernel_rfl) (by kernel_rfl) (fun _ _ _ h => h) (Or.inl ⟨by kernel_rfl, ?h1⟩) (by assumption) ?r1
    case h1 => (intro w hSw; (try dsimp only at hSw); go_simp; try with_reducible rfl)
    try simp only [Act.put, List.setIfInBounds_toArray, List.set_cons_zero, List.set_cons_succ]
    refine reg_take (i := 2) (v := ?v2) rfl (by kernel_rfl) (by kernel_rfl) (by kernel_rfl) (fun _ _ _ h => h) (Or.inl ⟨by kernel_rfl, ?h2⟩) (by assumption) ?r2
    case h2 => (intro w hSw; (try dsimp only at hSw); go_simp; try with_reducible rfl)
    try simp only [Act.put, List.setIfInBounds_toArray, List.set_cons_zero, List.set_cons_succ]
    refine reg_call (i := 1) (by kernel_rfl) rfl (fun K hK => ?_)
    go_simp
    refine (impl_ExprParts 12 xop xn xname xkids _ _ ((w1.alloc (.cells #[.int .i64 op, .int .i64 n, .string name, .slice A3 kids.length c3] 25)).alloc (.cells #[.int .i64 bop, .int .i64 bn, .string bname, .slice A4 bkids.length c4] 25)).heap.size w4.heap.size (Nat.le_trans zSX_8 f0.size) xo xn64 xnm (SX_8.below f0 zSX_8) (HT.out _ g0)).mono ?_; rw [HCX.out]; rintro e v1 ⟨rfl, x_1⟩; have g1 : Below w.heap.size w v1 := g0.trans (x_1.mono g0.size); have f1 := f0.trans (x_1.mono f0.size); have RXd_1 := RXd_0.below x_1 RXd_0.lt; have REd_1 := REd_0.below x_1 REd_0.lt; have s1RX0 : v1.cell? ⟨w4.heap.size, 0, none⟩ = some (.int .i64 xop) := RXd_1.cell 0; have s1RX1 : v1.cell? ⟨w4.heap.size, 1, none⟩ = some (.int .i64 xn) := RXd_1.cell 1; have s1RX2 : v1.cell? ⟨w4.heap.size, 2, none⟩ = some (.string xname) := RXd_1.cell 2; have s1RX3 : v1.cell? ⟨w4.heap.size, 3, none⟩ = some (.slice A5 xkids.length c5) := RXd_1.cell 3; have s1RE0 : v1.cell? ⟨w1.heap.size, 0, none⟩ = some (.int .i64 op) := REd_1.cell 0; have s1RE1 : v1.cell? ⟨w1.heap.size, 1, none⟩ = some (.int .i64 n) := REd_1.cell 1; have s1RE2 : v1.cell? ⟨w1.heap.size, 2, none⟩ = some (.string name) := REd_1.cell 2; have s1RE3 : v1.cell? ⟨w1.heap.size, 3, none⟩ = some (.slice A3 kids.length c3) := REd_1.cell 3
    refine hK.out _ _ ?_ (fun hHeld => ?_)
    · ((try dsimp only); refine ⟨?_, ?_, ?_, ?_, ?_, ?_, ?_, ?_⟩ <;> assumption)
    clear hK K
    try simp only [Act.put, List.setIfInBounds_toArray, List.set_cons_zero, List.set_cons_succ]
    refine reg_call (i := 3) (by kernel_rfl) rfl (fun K hK => ?_)
    go_simp
    refine (impl_ExprParts 9 op n name kids _ _ w.heap.size w1.heap.size (Nat.le_trans zSE_8 f1.size) ho hn64 hnm (SE_8.below f1 zSE_8) (HT.out _ g1)).mono ?_; rw [HCE.out]; rintro e v2 ⟨rfl, x_2⟩; have g2 : Below w.heap.size w v2 := g1.trans (x_2.mono g1.size); have f2 := f1.trans (x_2.mono f1.size); have RXd_2 := RXd_1.below x_2 RXd_1.lt; have REd_2 := REd_1.below x_2 REd_1.lt; have s2RX0 : v2.cell? ⟨w4.heap.size, 0, none⟩ = some (.int .i64 xop) := RXd_2.cell 0; have s2RX1 : v2.cell? ⟨w4.heap.size, 1, none⟩ = some (.int .i64 xn) := RXd_2.cell 1; have s2RX2 : v2.cell? ⟨w4.heap.size, 2, none⟩ = some (.string xname) := RXd_2.cell 2; have s2RX3 : v2.cell? ⟨w4.heap.size, 3, none⟩ = some (.slice A5 xkids.length c5) := RXd_2.cell 3; have s2RE0 : v2.cell? ⟨w1.heap.size, 0, none⟩ = some (.int .i64 op) := REd_2.cell 0; have s2RE1 : v2.cell? ⟨w1.heap.size, 1, none⟩ = some (.int .i64 n) := REd_2.cell 1; have s2RE2 : v2.cell? ⟨w1.heap.size, 2, none⟩ = some (.string name) := REd_2.cell 2; have s2RE3 : v2.cell? ⟨w1.heap.size, 3, none⟩ = some (.slice A3 kids.length c3) := REd_2.cell 3
    refine hK.out _ _ ?_ (fun hHeld => ?_)
    · ((try dsimp only); refine ⟨?_, ?_, ?_, ?_, ?_, ?_, ?_, ?_⟩ <;> assumption)
    clear hK K
    try simp only [Act.put, List.setIfInBounds_toArray, List.set_cons_zero, List.set_cons_succ]
    refine reg_take (i := 4) (v := ?v5) rfl (by kernel_rfl) (by kernel_rfl) (by kernel_rfl) (fun _ _ _ h => h) (Or.inl ⟨by kernel_rfl, ?h5⟩) (by assumption) ?r5
    case h5 => (intro w hSw; (try dsimp only at hSw); go_simp; try with_reducible rfl)
    try simp only [Act.put, List.setIfInBounds_toArray, List.set_cons_zero, List.set_cons_succ]
    refine reg_take (i := 5) (v := ?v6) rfl (by kernel_rfl) (by kernel_rfl) (by kernel_rfl) (fun _ _ _ h => h) (Or.inl ⟨by kernel_rfl, ?h6⟩) (by assumption) ?r6
    case h6 => (intro w hSw; (try dsimp only at hSw); go_simp; try with_reducible rfl)
    try simp only [Act.put, List.setIfInBounds_toArray, List.set_cons_zero, List.set_cons_succ]
    refine wpAnyH_done (by kernel_rfl) ?_ _
    clear sRX0 sRX1 sRX2 sRX3 sRE0 sRE1 sRE2 sRE3
    clear s1RX0 s1RX1 s1RX2 s1RX3 s1RE0 s1RE1 s1RE2 s1RE3 s2RX0 s2RX1 s2RX2 s2RX3 s2RE0 s2RE1 s2RE2 s2RE3 RXd_0 RXd_1 RXd_2 REd_0 REd_1 REd_2
    have hb9 : Below w.heap.size w v2 := hb8.trans (f2.mono hb8.size)
    have RE_9 := RE_8.below f2 RE_8.lt
    have RB_9 := RB_8.below f2 RB_8.lt
    have RX_9 := RX_8.below f2 RX_8.lt
    have RW_9 := RW_8.below f2 RW_8.lt
    have SE_9 := SE_8.below f2 zSE_8
    have zSE_9 := Nat.le_trans zSE_8 f2.size
    have SB_9 := SB_8.below f2 zSB_8
    have zSB_9 := Nat.le_trans zSB_8 f2.size
    have SX_9 := SX_8.below f2 zSX_8
    have zSX_9 := Nat.le_trans zSX_8 f2.size
    have SW_9 := SW_8.below f2 zSW_8
    have zSW_9 := Nat.le_trans zSW_8 f2.size
    clear RE_8 RB_8 RX_8 RW_8 SE_8 zSE_8 SB_8 zSB_8 SX_8 zSX_8 SW_8 zSW_8
    have yRB0 : v2.cell? ⟨w1.heap.size + 1, 0, none⟩ = some (.int .i64 bop) := RB_9.cell 0
    have yRB1 : v2.cell? ⟨w1.heap.size + 1, 1, none⟩ = some (.int .i64 bn) := RB_9.cell 1
    have yRB2 : v2.cell? ⟨w1.heap.size + 1, 2, none⟩ = some (.string bname) := RB_9.cell 2
    have yRB3 : v2.cell? ⟨w1.heap.size + 1, 3, none⟩ = some (.slice A4 bkids.length c4) := RB_9.cell 3
    go_wp2_with fail
    refine (impl_ExprParts 9 bop bn bname bkids _ _ w.heap.size w1.heap.size zSB_9 bo bn64 bnm SB_9 (HT.out _ hb9)).mono ?_
    rw [HCB.out]
    rintro e w12 ⟨rfl, x12⟩
    clear yRB0 yRB1 yRB2 yRB3
    have hb10 : Below w.heap.size w w12 := hb9.trans (x12.mono hb9.size)
    have RE_10 := RE_9.below x12 RE_9.lt
    have RB_10 := RB_9.below x12 RB_9.lt
    have RX_10 := RX_9.below x12 RX_9.lt
    have RW_10 := RW_9.below x12 RW_9.lt
    have SE_10 := SE_9.below x12 zSE_9
    have zSE_10 := Nat.le_trans zSE_9 x12.size
    have SB_10 := SB_9.below x12 zSB_9
    have zSB_10 := Nat.le_trans zSB_9 x12.size
    have SX_10 := SX_9.below x12 zSX_9
    have zSX_10 := Nat.le_trans zSX_9 x12.size
    have SW_10 := SW_9.below x12 zSW_9
    have zSW_10 := Nat.le_trans zSW_9 x12.size
    clear RE_9 RB_9 RX_9 RW_9 SE_9 zSE_9 SB_9 zSB_9 SX_9 zSX_9 SW_9 zSW_9
    obtain ⟨VL, hVL⟩ : ∃ VL, nmV 2 (.mk op n name kids) = VL := ⟨_, rfl⟩
    have HVL := Lib.hid hVL
    clear hVL
    have yRE0 : w12.cell? ⟨w1.heap.size, 0, none⟩ = some (.int .i64 op) := RE_10.cell 0
    have yRE1 : w12.cell? ⟨w1.heap.size, 1, none⟩ = some (.int .i64 n) := RE_10.cell 1
    have yRE2 : w12.cell? ⟨w1.heap.size, 2, none⟩ = some (.string name) := RE_10.cell 2
    have yRE3 : w12.cell? ⟨w1.heap.size, 3, none⟩ = some (.slice A3 kids.length c3) := RE_10.cell 3
    go_wp2_with fail
    refine (impl_VarsOf 9 op n name kids _ _ w.heap.size w1.heap.size zSE_10 ho hn64 hnm SE_10 (HT.out _ hb10)).mono ?_
    rw [HVL.out]
    rintro e w13 ⟨v13, rfl, hl13, x13⟩
    have p13 := hl13 false
    clear hl13
    obtain ⟨A13, c13, hf13, hlc13, hcm13⟩ := p13.form
    subst hf13
    clear yRE0 yRE1 yRE2 yRE3
    have hb11 : Below w.heap.size w w13 := hb10.trans (x13.mono hb10.size)
    have RE_11 := RE_10.below x13 RE_10.lt
    have RB_11 := RB_10.below x13 RB_10.lt
    have RX_11 := RX_10.below x13 RX_10.lt
    have RW_11 := RW_10.below x13 RW_10.lt
    have SE_11 := SE_10.below x13 zSE_10
    have zSE_11 := Nat.le_trans zSE_10 x13.size
    have SB_11 := SB_10.below x13 zSB_10
    have zSB_11 := Nat.le_trans zSB_10 x13.size
    have SX_11 := SX_10.below x13 zSX_10
    have zSX_11 := Nat.le_trans zSX_10 x13.size
    have SW_11 := SW_10.below x13 zSW_10
    have zSW_11 := Nat.le_trans zSW_10 x13.size
    clear RE_10 RB_10 RX_10 RW_10 SE_10 zSE_10 SB_10 zSB_10 SX_10 zSX_10 SW_10 zSW_10
    go_wp2_with fail
    go_loopw [12, 73] (fun h i w3r => ∃ (q : Nat) (hb : Bool), q ≤ VL.length ∧ h = .bool hb ∧ i = .int .i64 (q : Int) ∧ Hid (hb = (VL.take q).any (fun x => x.toList == nm.toList)) ∧ w13 = w3r) (fun _ i _ => VL.length - (intOf i).toNat)
    case atStart => exact ⟨0, false, by omega, rfl, rfl, (by show _ = _; simp), rfl⟩
    case round =>
      obtain ⟨q, hasb, hq, rfl, rfl, HH, rfl⟩ := hrel
      by_cases hql : q < VL.length
      · obtain ⟨bt, ot, t, hAt, _, _, HTt, htm, ct0⟩ := str_get p13 hql
        subst hAt
        have hqn : (q : Int) < (VL.length : Int) := by omega
        have hqi : (0 : Int) ≤ (q : Int) := by omega
        have hst : Hid ((VL.take (q + 1)).any (fun x => x.toList == nm.toList) = (hasb || (t.toList == nm.toList))) := by
          show _ = _
          rw [any_takeP hql, HTt.out, HH.out]
        clear HH
        cases hasb
        case true =>
          go_wp2_with fail
          go_roundw
          case rel => exact ⟨q + 1, true, by omega, rfl, by go_num, hst.out.symm, by first | rfl | trivial⟩
          case measure => simp [intOf]; omega
        case false =>
          cases hc : (t.toList == nm.toList)
          all_goals
            rw [hc] at hst
            go_wp2_with fail
            go_roundw
            case rel => exact ⟨q + 1, _, by omega, rfl, by go_num, hst.out.symm, by first | rfl | trivial⟩
            case measure => simp [intOf]; omega
      · obtain rfl : q = VL.length := by omega
        have hh := HH.out
        rw [List.take_length, ← HVL.out, has_occ HVE.out, HOC.out] at hh
        have HHO := Lib.hid hh
        clear HH hh p13
        obtain ⟨isn, hisn⟩ : ∃ isn, isName nm = isn := ⟨_, rfl⟩
        have HIN := Lib.hid hisn
        clear hisn
        cases isn
        case true =>
          have yRE0 : w13.cell? ⟨w1.heap.size, 0, none⟩ = some (.int .i64 op) := RE_11.cell 0
          have yRE1 : w13.cell? ⟨w1.heap.size, 1, none⟩ = some (.int .i64 n) := RE_11.cell 1
          have yRE2 : w13.cell? ⟨w1.heap.size, 2, none⟩ = some (.string name) := RE_11.cell 2
          have yRE3 : w13.cell? ⟨w1.heap.size, 3, none⟩ = some (.slice A3 kids.length c3) := RE_11.cell 3
          go_wp2_with fail
          refine (impl_PutVar 9 op n name kids _ nm 0 2 0 nm [] (.slice none 0 0) _ w.heap.size w1.heap.size 0 0 zSE_11 (Nat.zero_le _) ho hn64 hnm SE_11 ⟨by omega, by omega⟩ ⟨by omega, by omega⟩ hnmM (Sl.nil_ _ _ _ _ _) (HT.out _ hb11)).mono ?_
          rw [putV_self HVE.out HIN.out]
          rintro e w14 hP
          obtain ⟨aop, an, aname, akids, A7, c7, rfl, ha, ao, an64, anm, ha3, x14⟩ := hP.open2
          injection ha with h_1 h_2 h_3 h_4
          subst h_1 h_2 h_3 h_4
          clear hP yRE0 yRE1 yRE2 yRE3
          have hb12 : Below w.heap.size w w14 := hb11.trans (x14.mono hb11.size)
          have RE_12 := RE_11.below x14 RE_11.lt
          have RB_12 := RB_11.below x14 RB_11.lt
          have RX_12 := RX_11.below x14 RX_11.lt
          have RW_12 := RW_11.below x14 RW_11.lt
          have SE_12 := SE_11.below x14 zSE_11
          have zSE_12 := Nat.le_trans zSE_11 x14.size
          have SB_12 := SB_11.below x14 zSB_11
          have zSB_12 := Nat.le_trans zSB_11 x14.size
          have SX_12 := SX_11.below x14 zSX_11
          have zSX_12 := Nat.le_trans zSX_11 x14.size
          have SW_12 := SW_11.below x14 zSW_11
          have zSW_12 := Nat.le_trans zSW_11 x14.size
          clear RE_11 RB_11 RX_11 RW_11 SE_11 zSE_11 SB_11 zSB_11 SX_11 zSX_11 SW_11 zSW_11
          have SA_12 := ha3
          have zSA_12 : w14.heap.size ≤ w14.heap.size := Nat.le_refl _
          have y13 := (Below.refl _ w14).alloc (Nat.le_refl _) (.cells #[.int .i64 op, .int .i64 n, .string name, .slice A7 kids.length c7] 25)
          have hb13 : Below w.heap.size w (w14.alloc (.cells #[.int .i64 op, .int .i64 n, .string name, .slice A7 kids.length c7] 25)) := hb12.trans (y13.mono hb12.size)
          have RE_13 := RE_12.below y13 RE_12.lt
          have RB_13 := RB_12.below y13 RB_12.lt
          have RX_13 := RX_12.below y13 RX_12.lt
          have RW_13 := RW_12.below y13 RW_12.lt
          have SE_13 := SE_12.below y13 zSE_12
          have zSE_13 := Nat.le_trans zSE_12 y13.size
          have SB_13 := SB_12.below y13 zSB_12
          have zSB_13 := Nat.le_trans zSB_12 y13.size
          have SX_13 := SX_12.below y13 zSX_12
          have zSX_13 := Nat.le_trans zSX_12 y13.size
          have SW_13 := SW_12.below y13 zSW_12
          have zSW_13 := Nat.le_trans zSW_12 y13.size
          have SA_13 := SA_12.below y13 zSA_12
          have zSA_13 := Nat.le_trans zSA_12 y13.size
          clear RE_12 RB_12 RX_12 RW_12 SE_12 zSE_12 SB_12 zSB_12 SX_12 zSX_12 SW_12 zSW_12 SA_12 zSA_12
          have RA_13 : Row (w14.alloc (.cells #[.int .i64 op, .int .i64 n, .string name, .slice A7 kids.length c7] 25)) w14.heap.size 25 #[.int .i64 op, .int .i64 n, .string name, .slice A7 kids.length c7] := Row.new _ _ _
          go_wp2_with fail
          refine (impl_IsName nm _ hnmM (HT.out _ hb13).1).mono ?_
          rw [HIN.out]
          rintro e w16 ⟨rfl, x16⟩
          have hb14 : Below w.heap.size w w16 := hb13.trans (x16.mono hb13.size)
          have RE_14 := RE_13.below x16 RE_13.lt
          have RB_14 := RB_13.below x16 RB_13.lt
          have RX_14 := RX_13.below x16 RX_13.lt
          have RW_14 := RW_13.below x16 RW_13.lt
          have RA_14 := RA_13.below x16 RA_13.lt
          have SE_14 := SE_13.below x16 zSE_13
          have zSE_14 := Nat.le_trans zSE_13 x16.size
          have SB_14 := SB_13.below x16 zSB_13
          have zSB_14 := Nat.le_trans zSB_13 x16.size
          have SX_14 := SX_13.below x16 zSX_13
          have zSX_14 := Nat.le_trans zSX_13 x16.size
          have SW_14 := SW_13.below x16 zSW_13
          have zSW_14 := Nat.le_trans zSW_13 x16.size
          have SA_14 := SA_13.below x16 zSA_13
          have zSA_14 := Nat.le_trans zSA_13 x16.size
          clear RE_13 RB_13 RX_13 RW_13 RA_13 SE_13 zSE_13 SB_13 zSB_13 SX_13 zSX_13 SW_13 zSW_13 SA_13 zSA_13
          have yRA0 : w16.cell? ⟨w14.heap.size, 0, none⟩ = some (.int .i64 op) := RA_14.cell 0
          have yRA1 : w16.cell? ⟨w14.heap.size, 1, none⟩ = some (.int .i64 n) := RA_14.cell 1
          have yRA2 : w16.cell? ⟨w14.heap.size, 2, none⟩ = some (.string name) := RA_14.cell 2
          have yRA3 : w16.cell? ⟨w14.heap.size, 3, none⟩ = some (.slice A7 kids.length c7) := RA_14.cell 3
          have yRE0 : w16.cell? ⟨w1.heap.size, 0, none⟩ = some (.int .i64 op) := RE_14.cell 0
          have yRE1 : w16.cell? ⟨w1.heap.size, 1, none⟩ = some (.int .i64 n) := RE_14.cell 1
          have yRE2 : w16.cell? ⟨w1.heap.size, 2, none⟩ = some (.string name) := RE_14.cell 2
          have yRE3 : w16.cell? ⟨w1.heap.size, 3, none⟩ = some (.slice A3 kids.length c3) := RE_14.cell 3
          go_wp2_with fail
          refine (impl_SameExpr 12 op n name kids _ 9 op n name kids _ _ w13.heap.size w14.heap.size w.heap.size w1.heap.size zSA_14 zSE_14 SA_14 SE_14).mono ?_
          rintro e w17 ⟨he_, x15⟩
          rw [eqB_true rfl] at he_
          subst he_
          clear yRA0 yRA1 yRA2 yRA3 yRE0 yRE1 yRE2 yRE3
          have hb15 : Below w.heap.size w w17 := hb14.trans (x15.mono hb14.size)
          have RE_15 := RE_14.below x15 RE_14.lt
          have RB_15 := RB_14.below x15 RB_14.lt
          have RX_15 := RX_14.below x15 RX_14.lt
          have RW_15 := RW_14.below x15 RW_14.lt
          have RA_15 := RA_14.below x15 RA_14.lt
          have SE_15 := SE_14.below x15 zSE_14
          have zSE_15 := Nat.le_trans zSE_14 x15.size
          have SB_15 := SB_14.below x15 zSB_14
          have zSB_15 := Nat.le_trans zSB_14 x15.size
          have SX_15 := SX_14.below x15 zSX_14
          have zSX_15 := Nat.le_trans zSX_14 x15.size
          have SW_15 := SW_14.below x15 zSW_14
          have zSW_15 := Nat.le_trans zSW_14 x15.size
          have SA_15 := SA_14.below x15 zSA_14
          have zSA_15 := Nat.le_trans zSA_14 x15.size
          clear RE_14 RB_14 RX_14 RW_14 RA_14 SE_14 zSE_14 SB_14 zSB_14 SX_14 zSX_14 SW_14 zSW_14 SA_14 zSA_14
          by_cases hoc0 : 0 < oc
          · obtain rfl : hasb = true := by rw [HHO.out]; simpa using hoc0
            by_cases hst0 : st = 0
            · subst hst0
              obtain rfl : m = 0 := by rw [HMO.out]; simp
              have yRX0 : w17.cell? ⟨w4.heap.size, 0, none⟩ = some (.int .i64 xop) := RX_15.cell 0
              have yRX1 : w17.cell? ⟨w4.heap.size, 1, none⟩ = some (.int .i64 xn) := RX_15.cell 1
              have yRX2 : w17.cell? ⟨w4.heap.size, 2, none⟩ = some (.string xname) := RX_15.cell 2
              have yRX3 : w17.cell? ⟨w4.heap.size, 3, none⟩ = some (.slice A5 xkids.length c5) := RX_15.cell 3
              go_wp2_with fail
              refine (impl_ExprValid 12 xop xn xname xkids _ _ ((w1.alloc (.cells #[.int .i64 op, .int .i64 n, .string name, .slice A3 kids.length c3] 25)).alloc (.cells #[.int .i64 bop, .int .i64 bn, .string bname, .slice A4 bkids.length c4] 25)).heap.size w4.heap.size zSX_15 xo xn64 xnm SX_15 (HT.out _ hb15)).mono ?_
              rw [HVX.out]
              rintro e w30 ⟨rfl, x30⟩
              clear yRX0 yRX1 yRX2 yRX3
              have hb16 : Below w.heap.size w w30 := hb15.trans (x30.mono hb15.size)
              have RE_16 := RE_15.below x30 RE_15.lt
              have RB_16 := RB_15.below x30 RB_15.lt
              have RX_16 := RX_15.below x30 RX_15.lt
              have RW_16 := RW_15.below x30 RW_15.lt
              have RA_16 := RA_15.below x30 RA_15.lt
              have SE_16 := SE_15.below x30 zSE_15
              have zSE_16 := Nat.le_trans zSE_15 x30.size
              have SB_16 := SB_15.below x30 zSB_15
              have zSB_16 := Nat.le_trans zSB_15 x30.size
              have SX_16 := SX_15.below x30 zSX_15
              have zSX_16 := Nat.le_trans zSX_15 x30.size
              have SW_16 := SW_15.below x30 zSW_15
              have zSW_16 := Nat.le_trans zSW_15 x30.size
              have SA_16 := SA_15.below x30 zSA_15
              have zSA_16 := Nat.le_trans zSA_15 x30.size
              clear RE_15 RB_15 RX_15 RW_15 RA_15 SE_15 zSE_15 SB_15 zSB_15 SX_15 zSX_15 SW_15 zSW_15 SA_15 zSA_15
              go_wp2_with fail
              go_ret
              exact ⟨rfl, hb16⟩
            · have hE : (pe : Int) + (m : Int) - (pe : Int) = (m : Int) := by omega
              have hle : st ≤ m := by rw [HMO.out]; exact Nat.le_mul_of_pos_left st hoc0
              have tz : ((st : Int) == 0) = false := by simp; omega
              have tzn : ¬ (st : Int) = 0 := by omega
              have tm : (((m : Int).tmod (st : Int)) == 0) = true := by rw [HMO.out]; simp
              have tm2 : (((m : Int) % (st : Int)) == 0) = true := by rw [HMO.out]; simp
              have tg : decide ((st : Int) ≤ (m : Int)) = true := by simp; omega
              have tp : (0 : Int) < (st : Int) := by omega
              have yRX0 : w17.cell? ⟨w4.heap.size, 0, none⟩ = some (.int .i64 xop) := RX_15.cell 0
              have yRX1 : w17.cell? ⟨w4.heap.size, 1, none⟩ = some (.int .i64 xn) := RX_15.cell 1
              have yRX2 : w17.cell? ⟨w4.heap.size, 2, none⟩ = some (.string xname) := RX_15.cell 2
              have yRX3 : w17.cell? ⟨w4.heap.size, 3, none⟩ = some (.slice A5 xkids.length c5) := RX_15.cell 3
              go_wp2_with fail
              refine (impl_ExprValid 12 xop xn xname xkids _ _ ((w1.alloc (.cells #[.int .i64 op, .int .i64 n, .string name, .slice A3 kids.length c3] 25)).alloc (.cells #[.int .i64 bop, .int .i64 bn, .string bname, .slice A4 bkids.length c4] 25)).heap.size w4.heap.size zSX_15 xo xn64 xnm SX_15 (HT.out _ hb15)).mono ?_
              rw [HVX.out]
              rintro e w30 ⟨rfl, x30⟩
              clear yRX0 yRX1 yRX2 yRX3
              have hb16 : Below w.heap.size w w30 := hb15.trans (x30.mono hb15.size)
              have RE_16 := RE_15.below x30 RE_15.lt
              have RB_16 := RB_15.below x30 RB_15.lt
              have RX_16 := RX_15.below x30 RX_15.lt
              have RW_16 := RW_15.below x30 RW_15.lt
              have RA_16 := RA_15.below x30 RA_15.lt
              have SE_16 := SE_15.below x30 zSE_15
              have zSE_16 := Nat.le_trans zSE_15 x30.size
              have SB_16 := SB_15.below x30 zSB_15
              have zSB_16 := Nat.le_trans zSB_15 x30.size
              have SX_16 := SX_15.below x30 zSX_15
              have zSX_16 := Nat.le_trans zSX_15 x30.size
              have SW_16 := SW_15.below x30 zSW_15
              have zSW_16 := Nat.le_trans zSW_15 x30.size
              have SA_16 := SA_15.below x30 zSA_15
              have zSA_16 := Nat.le_trans zSA_15 x30.size
              clear RE_15 RB_15 RX_15 RW_15 RA_15 SE_15 zSE_15 SB_15 zSB_15 SX_15 zSX_15 SW_15 zSW_15 SA_15 zSA_15
              go_wp2_with fail
              go_ret
              exact ⟨rfl, hb16⟩
          · obtain rfl : hasb = false := by rw [HHO.out]; simpa using hoc0
            obtain rfl : oc = 0 := by omega
            obtain rfl : m = 0 := by rw [HMO.out]; simp
            have HSX : Hid (eqB (Ex.mk xop xn xname xkids) (Ex.mk op n name kids) = true) := eqB_true (HXE.out.trans (put_id 6 _ (fun hin => by have := occ_pos.2 hin; rw [HOC.out] at this; omega)))
            by_cases hst0 : st = 0
            · subst hst0
              have yRX0 : w17.cell? ⟨w4.heap.size, 0, none⟩ = some (.int .i64 xop) := RX_15.cell 0
              have yRX1 : w17.cell? ⟨w4.heap.size, 1, none⟩ = some (.int .i64 xn) := RX_15.cell 1
              have yRX2 : w17.cell? ⟨w4.heap.size, 2, none⟩ = some (.string xname) := RX_15.cell 2
              have yRX3 : w17.cell? ⟨w4.heap.size, 3, none⟩ = some (.slice A5 xkids.length c5) := RX_15.cell 3
              go_wp2_with fail
              refine (impl_ExprValid 12 xop xn xname xkids _ _ ((w1.alloc (.cells #[.int .i64 op, .int .i64 n, .string name, .slice A3 kids.length c3] 25)).alloc (.cells #[.int .i64 bop, .int .i64 bn, .string bname, .slice A4 bkids.length c4] 25)).heap.size w4.heap.size zSX_15 xo xn64 xnm SX_15 (HT.out _ hb15)).mono ?_
              rw [HVX.out]
              rintro e w30 ⟨rfl, x30⟩
              clear yRX0 yRX1 yRX2 yRX3
              have hb16 : Below w.heap.size w w30 := hb15.trans (x30.mono hb15.size)
              have RE_16 := RE_15.below x30 RE_15.lt
              have RB_16 := RB_15.below x30 RB_15.lt
              have RX_16 := RX_15.below x30 RX_15.lt
              have RW_16 := RW_15.below x30 RW_15.lt
              have RA_16 := RA_15.below x30 RA_15.lt
              have SE_16 := SE_15.below x30 zSE_15
              have zSE_16 := Nat.le_trans zSE_15 x30.size
              have SB_16 := SB_15.below x30 zSB_15
              have zSB_16 := Nat.le_trans zSB_15 x30.size
              have SX_16 := SX_15.below x30 zSX_15
              have zSX_16 := Nat.le_trans zSX_15 x30.size
              have SW_16 := SW_15.below x30 zSW_15
              have zSW_16 := Nat.le_trans zSW_15 x30.size
              have SA_16 := SA_15.below x30 zSA_15
              have zSA_16 := Nat.le_trans zSA_15 x30.size
              clear RE_15 RB_15 RX_15 RW_15 RA_15 SE_15 zSE_15 SB_15 zSB_15 SX_15 zSX_15 SW_15 zSW_15 SA_15 zSA_15
              have yRX0 : w30.cell? ⟨w4.heap.size, 0, none⟩ = some (.int .i64 xop) := RX_16.cell 0
              have yRX1 : w30.cell? ⟨w4.heap.size, 1, none⟩ = some (.int .i64 xn) := RX_16.cell 1
              have yRX2 : w30.cell? ⟨w4.heap.size, 2, none⟩ = some (.string xname) := RX_16.cell 2
              have yRX3 : w30.cell? ⟨w4.heap.size, 3, none⟩ = some (.slice A5 xkids.length c5) := RX_16.cell 3
              have yRE0 : w30.cell? ⟨w1.heap.size, 0, none⟩ = some (.int .i64 op) := RE_16.cell 0
              have yRE1 : w30.cell? ⟨w1.heap.size, 1, none⟩ = some (.int .i64 n) := RE_16.cell 1
              have yRE2 : w30.cell? ⟨w1.heap.size, 2, none⟩ = some (.string name) := RE_16.cell 2
              have yRE3 : w30.cell? ⟨w1.heap.size, 3, none⟩ = some (.slice A3 kids.length c3) := RE_16.cell 3
              go_wp2_with fail
              refine (impl_SameExpr 12 xop xn xname xkids _ 9 op n name kids _ _ ((w1.alloc (.cells #[.int .i64 op, .int .i64 n, .string name, .slice A3 kids.length c3] 25)).alloc (.cells #[.int .i64 bop, .int .i64 bn, .string bname, .slice A4 bkids.length c4] 25)).heap.size w4.heap.size w.heap.size w1.heap.size zSX_16 zSE_16 SX_16 SE_16).mono ?_
              rintro e w31 ⟨he_, x17⟩
              rw [HSX.out] at he_
              subst he_
              clear yRX0 yRX1 yRX2 yRX3 yRE0 yRE1 yRE2 yRE3
              have hb17 : Below w.heap.size w w31 := hb16.trans (x17.mono hb16.size)
              have RE_17 := RE_16.below x17 RE_16.lt
              have RB_17 := RB_16.below x17 RB_16.lt
              have RX_17 := RX_16.below x17 RX_16.lt
              have RW_17 := RW_16.below x17 RW_16.lt
              have RA_17 := RA_16.below x17 RA_16.lt
              have SE_17 := SE_16.below x17 zSE_16
              have zSE_17 := Nat.le_trans zSE_16 x17.size
              have SB_17 := SB_16.below x17 zSB_16
              have zSB_17 := Nat.le_trans zSB_16 x17.size
              have SX_17 := SX_16.below x17 zSX_16
              have zSX_17 := Nat.le_trans zSX_16 x17.size
              have SW_17 := SW_16.below x17 zSW_16
              have zSW_17 := Nat.le_trans zSW_16 x17.size
              have SA_17 := SA_16.below x17 zSA_16
              have zSA_17 := Nat.le_trans zSA_16 x17.size
              clear RE_16 RB_16 RX_16 RW_16 RA_16 SE_16 zSE_16 SB_16 zSB_16 SX_16 zSX_16 SW_16 zSW_16 SA_16 zSA_16
              go_wp2_with fail
              go_ret
              exact ⟨rfl, hb17⟩
            · have tp : (0 : Int) < (st : Int) := by omega
              have yRX0 : w17.cell? ⟨w4.heap.size, 0, none⟩ = some (.int .i64 xop) := RX_15.cell 0
              have yRX1 : w17.cell? ⟨w4.heap.size, 1, none⟩ = some (.int .i64 xn) := RX_15.cell 1
              have yRX2 : w17.cell? ⟨w4.heap.size, 2, none⟩ = some (.string xname) := RX_15.cell 2
              have yRX3 : w17.cell? ⟨w4.heap.size, 3, none⟩ = some (.slice A5 xkids.length c5) := RX_15.cell 3
              go_wp2_with fail
              refine (impl_ExprValid 12 xop xn xname xkids _ _ ((w1.alloc (.cells #[.int .i64 op, .int .i64 n, .string name, .slice A3 kids.length c3] 25)).alloc (.cells #[.int .i64 bop, .int .i64 bn, .string bname, .slice A4 bkids.length c4] 25)).heap.size w4.heap.size zSX_15 xo xn64 xnm SX_15 (HT.out _ hb15)).mono ?_
              rw [HVX.out]
              rintro e w30 ⟨rfl, x30⟩
              clear yRX0 yRX1 yRX2 yRX3
              have hb16 : Below w.heap.size w w30 := hb15.trans (x30.mono hb15.size)
              have RE_16 := RE_15.below x30 RE_15.lt
              have RB_16 := RB_15.below x30 RB_15.lt
              have RX_16 := RX_15.below x30 RX_15.lt
              have RW_16 := RW_15.below x30 RW_15.lt
              have RA_16 := RA_15.below x30 RA_15.lt
              have SE_16 := SE_15.below x30 zSE_15
              have zSE_16 := Nat.le_trans zSE_15 x30.size
              have SB_16 := SB_15.below x30 zSB_15
              have zSB_16 := Nat.le_trans zSB_15 x30.size
              have SX_16 := SX_15.below x30 zSX_15
              have zSX_16 := Nat.le_trans zSX_15 x30.size
              have SW_16 := SW_15.below x30 zSW_15
              have zSW_16 := Nat.le_trans zSW_15 x30.size
              have SA_16 := SA_15.below x30 zSA_15
              have zSA_16 := Nat.le_trans zSA_15 x30.size
              clear RE_15 RB_15 RX_15 RW_15 RA_15 SE_15 zSE_15 SB_15 zSB_15 SX_15 zSX_15 SW_15 zSW_15 SA_15 zSA_15
              have yRX0 : w30.cell? ⟨w4.heap.size, 0, none⟩ = some (.int .i64 xop) := RX_16.cell 0
              have yRX1 : w30.cell? ⟨w4.heap.size, 1, none⟩ = some (.int .i64 xn) := RX_16.cell 1
              have yRX2 : w30.cell? ⟨w4.heap.size, 2, none⟩ = some (.string xname) := RX_16.cell 2
              have yRX3 : w30.cell? ⟨w4.heap.size, 3, none⟩ = some (.slice A5 xkids.length c5) := RX_16.cell 3
              have yRE0 : w30.cell? ⟨w1.heap.size, 0, none⟩ = some (.int .i64 op) := RE_16.cell 0
              have yRE1 : w30.cell? ⟨w1.heap.size, 1, none⟩ = some (.int .i64 n) := RE_16.cell 1
              have yRE2 : w30.cell? ⟨w1.heap.size, 2, none⟩ = some (.string name) := RE_16.cell 2
              have yRE3 : w30.cell? ⟨w1.heap.size, 3, none⟩ = some (.slice A3 kids.length c3) := RE_16.cell 3
              go_wp2_with fail
              refine (impl_SameExpr 12 xop xn xname xkids _ 9 op n name kids _ _ ((w1.alloc (.cells #[.int .i64 op, .int .i64 n, .string name, .slice A3 kids.length c3] 25)).alloc (.cells #[.int .i64 bop, .int .i64 bn, .string bname, .slice A4 bkids.length c4] 25)).heap.size w4.heap.size w.heap.size w1.heap.size zSX_16 zSE_16 SX_16 SE_16).mono ?_
              rintro e w31 ⟨he_, x17⟩
              rw [HSX.out] at he_
              subst he_
              clear yRX0 yRX1 yRX2 yRX3 yRE0 yRE1 yRE2 yRE3
              have hb17 : Below w.heap.size w w31 := hb16.trans (x17.mono hb16.size)
              have RE_17 := RE_16.below x17 RE_16.lt
              have RB_17 := RB_16.below x17 RB_16.lt
              have RX_17 := RX_16.below x17 RX_16.lt
              have RW_17 := RW_16.below x17 RW_16.lt
              have RA_17 := RA_16.below x17 RA_16.lt
              have SE_17 := SE_16.below x17 zSE_16
              have zSE_17 := Nat.le_trans zSE_16 x17.size
              have SB_17 := SB_16.below x17 zSB_16
              have zSB_17 := Nat.le_trans zSB_16 x17.size
              have SX_17 := SX_16.below x17 zSX_16
              have zSX_17 := Nat.le_trans zSX_16 x17.size
              have SW_17 := SW_16.below x17 zSW_16
              have zSW_17 := Nat.le_trans zSW_16 x17.size
              have SA_17 := SA_16.below x17 zSA_16
              have zSA_17 := Nat.le_trans zSA_16 x17.size
              clear RE_16 RB_16 RX_16 RW_16 RA_16 SE_16 zSE_16 SB_16 zSB_16 SX_16 zSX_16 SW_16 zSW_16 SA_16 zSA_16
              go_wp2_with fail
              go_ret
              exact ⟨rfl, hb17⟩
        case false =>
          have yRE0 : w13.cell? ⟨w1.heap.size, 0, none⟩ = some (.int .i64 op) := RE_11.cell 0
          have yRE1 : w13.cell? ⟨w1.heap.size, 1, none⟩ = some (.int .i64 n) := RE_11.cell 1
          have yRE2 : w13.cell? ⟨w1.heap.size, 2, none⟩ = some (.string name) := RE_11.cell 2
          have yRE3 : w13.cell? ⟨w1.heap.size, 3, none⟩ = some (.slice A3 kids.length c3) := RE_11.cell 3
          go_wp2_with fail
          refine (impl_PutVar 9 op n name kids _ nm 0 2 0 nm [] (.slice none 0 0) _ w.heap.size w1.heap.size 0 0 zSE_11 (Nat.zero_le _) ho hn64 hnm SE_11 ⟨by omega, by omega⟩ ⟨by omega, by omega⟩ hnmM (Sl.nil_ _ _ _ _ _) (HT.out _ hb11)).mono ?_
          obtain ⟨av, hav⟩ : ∃ av, putV (.mk op n name kids) nm (.mk 2 0 nm []) = av := ⟨_, rfl⟩
          rw [hav]
          clear hav
          obtain ⟨ax, fine⟩ := av
          rintro e w14 hP
          obtain ⟨aop, an, aname, akids, A7, c7, rfl, ha, ao, an64, anm, ha3, x14⟩ := hP.open2
          clear ha
          clear hP yRE0 yRE1 yRE2 yRE3
          have hb12 : Below w.heap.size w w14 := hb11.trans (x14.mono hb11.size)
          have RE_12 := RE_11.below x14 RE_11.lt
          have RB_12 := RB_11.below x14 RB_11.lt
          have RX_12 := RX_11.below x14 RX_11.lt
          have RW_12 := RW_11.below x14 RW_11.lt
          have SE_12 := SE_11.below x14 zSE_11
          have zSE_12 := Nat.le_trans zSE_11 x14.size
          have SB_12 := SB_11.below x14 zSB_11
          have zSB_12 := Nat.le_trans zSB_11 x14.size
          have SX_12 := SX_11.below x14 zSX_11
          have zSX_12 := Nat.le_trans zSX_11 x14.size
          have SW_12 := SW_11.below x14 zSW_11
          have zSW_12 := Nat.le_trans zSW_11 x14.size
          clear RE_11 RB_11 RX_11 RW_11 SE_11 zSE_11 SB_11 zSB_11 SX_11 zSX_11 SW_11 zSW_11
          have y13 := (Below.refl _ w14).alloc (Nat.le_refl _) (.cells #[.int .i64 aop, .int .i64 an, .string aname, .slice A7 akids.length c7] 25)
          have hb13 : Below w.heap.size w (w14.alloc (.cells #[.int .i64 aop, .int .i64 an, .string aname, .slice A7 akids.length c7] 25)) := hb12.trans (y13.mono hb12.size)
          have RE_13 := RE_12.below y13 RE_12.lt
          have RB_13 := RB_12.below y13 RB_12.lt
          have RX_13 := RX_12.below y13 RX_12.lt
          have RW_13 := RW_12.below y13 RW_12.lt
          have SE_13 := SE_12.below y13 zSE_12
          have zSE_13 := Nat.le_trans zSE_12 y13.size
          have SB_13 := SB_12.below y13 zSB_12
          have zSB_13 := Nat.le_trans zSB_12 y13.size
          have SX_13 := SX_12.below y13 zSX_12
          have zSX_13 := Nat.le_trans zSX_12 y13.size
          have SW_13 := SW_12.below y13 zSW_12
          have zSW_13 := Nat.le_trans zSW_12 y13.size
          clear RE_12 RB_12 RX_12 RW_12 SE_12 zSE_12 SB_12 zSB_12 SX_12 zSX_12 SW_12 zSW_12
          have RA_13 : Row (w14.alloc (.cells #[.int .i64 aop, .int .i64 an, .string aname, .slice A7 akids.length c7] 25)) w14.heap.size 25 #[.int .i64 aop, .int .i64 an, .string aname, .slice A7 akids.length c7] := Row.new _ _ _
          go_wp2_with fail
          refine (impl_IsName nm _ hnmM (HT.out _ hb13).1).mono ?_
          rw [HIN.out]
          rintro e w16 ⟨rfl, x16⟩
          have hb14 : Below w.heap.size w w16 := hb13.trans (x16.mono hb13.size)
          have RE_14 := RE_13.below x16 RE_13.lt
          have RB_14 := RB_13.below x16 RB_13.lt
          have RX_14 := RX_13.below x16 RX_13.lt
          have RW_14 := RW_13.below x16 RW_13.lt
          have RA_14 := RA_13.below x16 RA_13.lt
          have SE_14 := SE_13.below x16 zSE_13
          have zSE_14 := Nat.le_trans zSE_13 x16.size
          have SB_14 := SB_13.below x16 zSB_13
          have zSB_14 := Nat.le_trans zSB_13 x16.size
          have SX_14 := SX_13.below x16 zSX_13
          have zSX_14 := Nat.le_trans zSX_13 x16.size
          have SW_14 := SW_13.below x16 zSW_13
          have zSW_14 := Nat.le_trans zSW_13 x16.size
          clear RE_13 RB_13 RX_13 RW_13 RA_13 SE_13 zSE_13 SB_13 zSB_13 SX_13 zSX_13 SW_13 zSW_13
          by_cases hoc0 : 0 < oc
          · obtain rfl : hasb = true := by rw [HHO.out]; simpa using hoc0
            by_cases hst0 : st = 0
            · subst hst0
              obtain rfl : m = 0 := by rw [HMO.out]; simp
              have yRX0 : w16.cell? ⟨w4.heap.size, 0, none⟩ = some (.int .i64 xop) := RX_14.cell 0
              have yRX1 : w16.cell? ⟨w4.heap.size, 1, none⟩ = some (.int .i64 xn) := RX_14.cell 1
              have yRX2 : w16.cell? ⟨w4.heap.size, 2, none⟩ = some (.string xname) := RX_14.cell 2
              have yRX3 : w16.cell? ⟨w4.heap.size, 3, none⟩ = some (.slice A5 xkids.length c5) := RX_14.cell 3
              go_wp2_with fail
              refine (impl_ExprValid 12 xop xn xname xkids _ _ ((w1.alloc (.cells #[.int .i64 op, .int .i64 n, .string name, .slice A3 kids.length c3] 25)).alloc (.cells #[.int .i64 bop, .int .i64 bn, .string bname, .slice A4 bkids.length c4] 25)).heap.size w4.heap.size zSX_14 xo xn64 xnm SX_14 (HT.out _ hb14)).mono ?_
              rw [HVX.out]
              rintro e w30 ⟨rfl, x30⟩
              clear yRX0 yRX1 yRX2 yRX3
              have hb15 : Below w.heap.size w w30 := hb14.trans (x30.mono hb14.size)
              have RE_15 := RE_14.below x30 RE_14.lt
              have RB_15 := RB_14.below x30 RB_14.lt
              have RX_15 := RX_14.below x30 RX_14.lt
              have RW_15 := RW_14.below x30 RW_14.lt
              have RA_15 := RA_14.below x30 RA_14.lt
              have SE_15 := SE_14.below x30 zSE_14
              have zSE_15 := Nat.le_trans zSE_14 x30.size
              have SB_15 := SB_14.below x30 zSB_14
              have zSB_15 := Nat.le_trans zSB_14 x30.size
              have SX_15 := SX_14.below x30 zSX_14
              have zSX_15 := Nat.le_trans zSX_14 x30.size
              have SW_15 := SW_14.below x30 zSW_14
              have zSW_15 := Nat.le_trans zSW_14 x30.size
              clear RE_14 RB_14 RX_14 RW_14 RA_14 SE_14 zSE_14 SB_14 zSB_14 SX_14 zSX_14 SW_14 zSW_14
              go_wp2_with fail
              go_ret
              exact ⟨rfl, hb15⟩
            · have hE : (pe : Int) + (m : Int) - (pe : Int) = (m : Int) := by omega
              have hle : st ≤ m := by rw [HMO.out]; exact Nat.le_mul_of_pos_left st hoc0
              have tz : ((st : Int) == 0) = false := by simp; omega
              have tzn : ¬ (st : Int) = 0 := by omega
              have tm : (((m : Int).tmod (st : Int)) == 0) = true := by rw [HMO.out]; simp
              have tm2 : (((m : Int) % (st : Int)) == 0) = true := by rw [HMO.out]; simp
              have tg : decide ((st : Int) ≤ (m : Int)) = true := by simp; omega
              have tp : (0 : Int) < (st : Int) := by omega
              have yRX0 : w16.cell? ⟨w4.heap.size, 0, none⟩ = some (.int .i64 xop) := RX_14.cell 0
              have yRX1 : w16.cell? ⟨w4.heap.size, 1, none⟩ = some (.int .i64 xn) := RX_14.cell 1
              have yRX2 : w16.cell? ⟨w4.heap.size, 2, none⟩ = some (.string xname) := RX_14.cell 2
              have yRX3 : w16.cell? ⟨w4.heap.size, 3, none⟩ = some (.slice A5 xkids.length c5) := RX_14.cell 3
              go_wp2_with fail
              refine (impl_ExprValid 12 xop xn xname xkids _ _ ((w1.alloc (.cells #[.int .i64 op, .int .i64 n, .string name, .slice A3 kids.length c3] 25)).alloc (.cells #[.int .i64 bop, .int .i64 bn, .string bname, .slice A4 bkids.length c4] 25)).heap.size w4.heap.size zSX_14 xo xn64 xnm SX_14 (HT.out _ hb14)).mono ?_
              rw [HVX.out]
              rintro e w30 ⟨rfl, x30⟩
              clear yRX0 yRX1 yRX2 yRX3
              have hb15 : Below w.heap.size w w30 := hb14.trans (x30.mono hb14.size)
              have RE_15 := RE_14.below x30 RE_14.lt
              have RB_15 := RB_14.below x30 RB_14.lt
              have RX_15 := RX_14.below x30 RX_14.lt
              have RW_15 := RW_14.below x30 RW_14.lt
              have RA_15 := RA_14.below x30 RA_14.lt
              have SE_15 := SE_14.below x30 zSE_14
              have zSE_15 := Nat.le_trans zSE_14 x30.size
              have SB_15 := SB_14.below x30 zSB_14
              have zSB_15 := Nat.le_trans zSB_14 x30.size
              have SX_15 := SX_14.below x30 zSX_14
              have zSX_15 := Nat.le_trans zSX_14 x30.size
              have SW_15 := SW_14.below x30 zSW_14
              have zSW_15 := Nat.le_trans zSW_14 x30.size
              clear RE_14 RB_14 RX_14 RW_14 RA_14 SE_14 zSE_14 SB_14 zSB_14 SX_14 zSX_14 SW_14 zSW_14
              go_wp2_with fail
              go_ret
              exact ⟨rfl, hb15⟩
          · obtain rfl : hasb = false := by rw [HHO.out]; simpa using hoc0
            obtain rfl : oc = 0 := by omega
            obtain rfl : m = 0 := by rw [HMO.out]; simp
            have HSX : Hid (eqB (Ex.mk xop xn xname xkids) (Ex.mk op n name kids) = true) := eqB_true (HXE.out.trans (put_id 6 _ (fun hin => by have := occ_pos.2 hin; rw [HOC.out] at this; omega)))
            by_cases hst0 : st = 0
            · subst hst0
              have yRX0 : w16.cell? ⟨w4.heap.size, 0, none⟩ = some (.int .i64 xop) := RX_14.cell 0
              have yRX1 : w16.cell? ⟨w4.heap.size, 1, none⟩ = some (.int .i64 xn) := RX_14.cell 1
              have yRX2 : w16.cell? ⟨w4.heap.size, 2, none⟩ = some (.string xname) := RX_14.cell 2
              have yRX3 : w16.cell? ⟨w4.heap.size, 3, none⟩ = some (.slice A5 xkids.length c5) := RX_14.cell 3
              go_wp2_with fail
              refine (impl_ExprValid 12 xop xn xname xkids _ _ ((w1.alloc (.cells #[.int .i64 op, .int .i64 n, .string name, .slice A3 kids.length c3] 25)).alloc (.cells #[.int .i64 bop, .int .i64 bn, .string bname, .slice A4 bkids.length c4] 25)).heap.size w4.heap.size zSX_14 xo xn64 xnm SX_14 (HT.out _ hb14)).mono ?_
              rw [HVX.out]
              rintro e w30 ⟨rfl, x30⟩
              clear yRX0 yRX1 yRX2 yRX3
              have hb15 : Below w.heap.size w w30 := hb14.trans (x30.mono hb14.size)
              have RE_15 := RE_14.below x30 RE_14.lt
              have RB_15 := RB_14.below x30 RB_14.lt
              have RX_15 := RX_14.below x30 RX_14.lt
              have RW_15 := RW_14.below x30 RW_14.lt
              have RA_15 := RA_14.below x30 RA_14.lt
              have SE_15 := SE_14.below x30 zSE_14
              have zSE_15 := Nat.le_trans zSE_14 x30.size
              have SB_15 := SB_14.below x30 zSB_14
              have zSB_15 := Nat.le_trans zSB_14 x30.size
              have SX_15 := SX_14.below x30 zSX_14
              have zSX_15 := Nat.le_trans zSX_14 x30.size
              have SW_15 := SW_14.below x30 zSW_14
              have zSW_15 := Nat.le_trans zSW_14 x30.size
              clear RE_14 RB_14 RX_14 RW_14 RA_14 SE_14 zSE_14 SB_14 zSB_14 SX_14 zSX_14 SW_14 zSW_14
              have yRX0 : w30.cell? ⟨w4.heap.size, 0, none⟩ = some (.int .i64 xop) := RX_15.cell 0
              have yRX1 : w30.cell? ⟨w4.heap.size, 1, none⟩ = some (.int .i64 xn) := RX_15.cell 1
              have yRX2 : w30.cell? ⟨w4.heap.size, 2, none⟩ = some (.string xname) := RX_15.cell 2
              have yRX3 : w30.cell? ⟨w4.heap.size, 3, none⟩ = some (.slice A5 xkids.length c5) := RX_15.cell 3
              have yRE0 : w30.cell? ⟨w1.heap.size, 0, none⟩ = some (.int .i64 op) := RE_15.cell 0
              have yRE1 : w30.cell? ⟨w1.heap.size, 1, none⟩ = some (.int .i64 n) := RE_15.cell 1
              have yRE2 : w30.cell? ⟨w1.heap.size, 2, none⟩ = some (.string name) := RE_15.cell 2
              have yRE3 : w30.cell? ⟨w1.heap.size, 3, none⟩ = some (.slice A3 kids.length c3) := RE_15.cell 3
              go_wp2_with fail
              refine (impl_SameExpr 12 xop xn xname xkids _ 9 op n name kids _ _ ((w1.alloc (.cells #[.int .i64 op, .int .i64 n, .string name, .slice A3 kids.length c3] 25)).alloc (.cells #[.int .i64 bop, .int .i64 bn, .string bname, .slice A4 bkids.length c4] 25)).heap.size w4.heap.size w.heap.size w1.heap.size zSX_15 zSE_15 SX_15 SE_15).mono ?_
              rintro e w31 ⟨he_, x16⟩
              rw [HSX.out] at he_
              subst he_
              clear yRX0 yRX1 yRX2 yRX3 yRE0 yRE1 yRE2 yRE3
              have hb16 : Below w.heap.size w w31 := hb15.trans (x16.mono hb15.size)
              have RE_16 := RE_15.below x16 RE_15.lt
              have RB_16 := RB_15.below x16 RB_15.lt
              have RX_16 := RX_15.below x16 RX_15.lt
              have RW_16 := RW_15.below x16 RW_15.lt
              have RA_16 := RA_15.below x16 RA_15.lt
              have SE_16 := SE_15.below x16 zSE_15
              have zSE_16 := Nat.le_trans zSE_15 x16.size
              have SB_16 := SB_15.below x16 zSB_15
              have zSB_16 := Nat.le_trans zSB_15 x16.size
              have SX_16 := SX_15.below x16 zSX_15
              have zSX_16 := Nat.le_trans zSX_15 x16.size
              have SW_16 := SW_15.below x16 zSW_15
              have zSW_16 := Nat.le_trans zSW_15 x16.size
              clear RE_15 RB_15 RX_15 RW_15 RA_15 SE_15 zSE_15 SB_15 zSB_15 SX_15 zSX_15 SW_15 zSW_15
              go_wp2_with fail
              go_ret
              exact ⟨rfl, hb16⟩
            · have tp : (0 : Int) < (st : Int) := by omega
              have yRX0 : w16.cell? ⟨w4.heap.size, 0, none⟩ = some (.int .i64 xop) := RX_14.cell 0
              have yRX1 : w16.cell? ⟨w4.heap.size, 1, none⟩ = some (.int .i64 xn) := RX_14.cell 1
              have yRX2 : w16.cell? ⟨w4.heap.size, 2, none⟩ = some (.string xname) := RX_14.cell 2
              have yRX3 : w16.cell? ⟨w4.heap.size, 3, none⟩ = some (.slice A5 xkids.length c5) := RX_14.cell 3
              go_wp2_with fail
              refine (impl_ExprValid 12 xop xn xname xkids _ _ ((w1.alloc (.cells #[.int .i64 op, .int .i64 n, .string name, .slice A3 kids.length c3] 25)).alloc (.cells #[.int .i64 bop, .int .i64 bn, .string bname, .slice A4 bkids.length c4] 25)).heap.size w4.heap.size zSX_14 xo xn64 xnm SX_14 (HT.out _ hb14)).mono ?_
              rw [HVX.out]
              rintro e w30 ⟨rfl, x30⟩
              clear yRX0 yRX1 yRX2 yRX3
              have hb15 : Below w.heap.size w w30 := hb14.trans (x30.mono hb14.size)
              have RE_15 := RE_14.below x30 RE_14.lt
              have RB_15 := RB_14.below x30 RB_14.lt
              have RX_15 := RX_14.below x30 RX_14.lt
              have RW_15 := RW_14.below x30 RW_14.lt
              have RA_15 := RA_14.below x30 RA_14.lt
              have SE_15 := SE_14.below x30 zSE_14
              have zSE_15 := Nat.le_trans zSE_14 x30.size
              have SB_15 := SB_14.below x30 zSB_14
              have zSB_15 := Nat.le_trans zSB_14 x30.size
              have SX_15 := SX_14.below x30 zSX_14
              have zSX_15 := Nat.le_trans zSX_14 x30.size
              have SW_15 := SW_14.below x30 zSW_14
              have zSW_15 := Nat.le_trans zSW_14 x30.size
              clear RE_14 RB_14 RX_14 RW_14 RA_14 SE_14 zSE_14 SB_14 zSB_14 SX_14 zSX_14 SW_14 zSW_14
              have yRX0 : w30.cell? ⟨w4.heap.size, 0, none⟩ = some (.int .i64 xop) := RX_15.cell 0
              have yRX1 : w30.cell? ⟨w4.heap.size, 1, none⟩ = some (.int .i64 xn) := RX_15.cell 1
              have yRX2 : w30.cell? ⟨w4.heap.size, 2, none⟩ = some (.string xname) := RX_15.cell 2
              have yRX3 : w30.cell? ⟨w4.heap.size, 3, none⟩ = some (.slice A5 xkids.length c5) := RX_15.cell 3
              have yRE0 : w30.cell? ⟨w1.heap.size, 0, none⟩ = some (.int .i64 op) := RE_15.cell 0
              have yRE1 : w30.cell? ⟨w1.heap.size, 1, none⟩ = some (.int .i64 n) := RE_15.cell 1
              have yRE2 : w30.cell? ⟨w1.heap.size, 2, none⟩ = some (.string name) := RE_15.cell 2
              have yRE3 : w30.cell? ⟨w1.heap.size, 3, none⟩ = some (.slice A3 kids.length c3) := RE_15.cell 3
              go_wp2_with fail
              refine (impl_SameExpr 12 xop xn xname xkids _ 9 op n name kids _ _ ((w1.alloc (.cells #[.int .i64 op, .int .i64 n, .string name, .slice A3 kids.length c3] 25)).alloc (.cells #[.int .i64 bop, .int .i64 bn, .string bname, .slice A4 bkids.length c4] 25)).heap.size w4.heap.size w.heap.size w1.heap.size zSX_15 zSE_15 SX_15 SE_15).mono ?_
              rintro e w31 ⟨he_, x16⟩
              rw [HSX.out] at he_
              subst he_
              clear yRX0 yRX1 yRX2 yRX3 yRE0 yRE1 yRE2 yRE3
              have hb16 : Below w.heap.size w w31 := hb15.trans (x16.mono hb15.size)
              have RE_16 := RE_15.below x16 RE_15.lt
              have RB_16 := RB_15.below x16 RB_15.lt
              have RX_16 := RX_15.below x16 RX_15.lt
              have RW_16 := RW_15.below x16 RW_15.lt
              have RA_16 := RA_15.below x16 RA_15.lt
              have SE_16 := SE_15.below x16 zSE_15
              have zSE_16 := Nat.le_trans zSE_15 x16.size
              have SB_16 := SB_15.below x16 zSB_15
              have zSB_16 := Nat.le_trans zSB_15 x16.size
              have SX_16 := SX_15.below x16 zSX_15
              have zSX_16 := Nat.le_trans zSX_15 x16.size
              have SW_16 := SW_15.below x16 zSW_15
              have zSW_16 := Nat.le_trans zSW_15 x16.size
              clear RE_15 RB_15 RX_15 RW_15 RA_15 SE_15 zSE_15 SB_15 zSB_15 SX_15 zSX_15 SW_15 zSW_15
              go_wp2_with fail
              go_ret
              exact ⟨rfl, hb16⟩

set_option maxRecDepth 100000 in
theorem fnPutVar_lifted (os : Os) (started : os.Started) (H : Type) (enc : TypeId × Value → H) :
    ReturnsInHanded {} Tryd.checked os 7 .any (fun w args => (Rows.fnPutVarSpec.pre enc Tryd.prog Tryd.f7 [] false w args ∧ laidMetH Tryd.prog [("loop.example/wholeway/impl.keys", Rows.laid_loop_example_wholeway_impl_keys), ("loop.example/wholeway/impl.opSign", Rows.laid_loop_example_wholeway_impl_opSign)] w) ∧ sizedMet enc Tryd.prog Tryd.f7 (OpenSpec.ofChange Rows.fnPutVarSpec) false w args) (Rows.fnPutVarSpec.post enc Tryd.prog Tryd.f7 false true false false) := by
  refine returnsInHanded_of_change_and (C := Tryd.checked) (X := fun w _ => laidMetH Tryd.prog [("loop.example/wholeway/impl.keys", Rows.laid_loop_example_wholeway_impl_keys), ("loop.example/wholeway/impl.opSign", Rows.laid_loop_example_wholeway_impl_opSign)] w) (fun _ _ _ hh h => h.of_heap hh) own started (by kernel_rfl) Tryd.func7
    (ChangeSpec.witness_shaped (enc := enc) (C := Tryd.checked) (os := os) (X := fun w _ => laidMetH Tryd.prog [("loop.example/wholeway/impl.keys", Rows.laid_loop_example_wholeway_impl_keys), ("loop.example/wholeway/impl.opSign", Rows.laid_loop_example_wholeway_impl_opSign)] w) false (World.doorLaid Tryd.prog 400 os) #[.slice none 0 0] 8 rfl (World.shaped_of_RefB (by kernel_rfl) (by kernel_rfl)) (by kernel_rfl) (by kernel_rfl) (by kernel_rfl) (door_met os _)) ?_
  intro W base args ds gs before hval0 hW _ _ hL _
  have hval : ∀ (j : Nat) t v, Tryd.f7.params[j]? = some t → args[j]? = some v → Value.okWide Tryd.prog W .any base t v := hval0
  obtain ⟨p, q, hA0, hV, hrest⟩ := id hW
  have hA : DataW.TrodAll enc Tryd.prog W 0 (fun _ => true) true Tryd.f7.params.toList args.toList ds p := hA0
  rw [Tryd.params7] at hA hval
  obtain ⟨v0, d0, rfl, rfl, h0⟩ := trodAll_one hA
  obtain ⟨gv0, gv1, rfl⟩ := two_vars hV
  obtain ⟨a, len, cap, rfl⟩ := okWide_slice Tryd.underlying22 (hval 0 _ v0 rfl rfl)
  obtain ⟨fuel0, hf0⟩ := h0
  obtain ⟨da0, vv, hv0, ha0⟩ := dec_slice Tryd.underlying22 (by kernel_rfl) (by decide) dec_u8 hf0
  simp only [Value.cells, List.cons.injEq, and_true] at hv0
  subst hv0
  have hcall := law_PutVar da0 _ W ha0 (tabs_of hL)
  refine hcall.mono fun e W' ⟨he, hb⟩ => ?_
  subst he
  exact ⟨_, rfl, post_true_vars laidO hW (by kernel_rfl) Tryd.underlying4 (by rw [Tryd.params7]; intro t ht; simp only [List.mem_cons, List.not_mem_nil, or_false] at ht; subst ht; exact ⟨by kernel_rfl, of_decide_eq_true (by kernel_rfl)⟩) vars_ok rfl rfl rfl hb⟩

set_option maxRecDepth 100000 in
set_option maxHeartbeats 1000000 in
theorem fnPutVar_facts : joinedFacts Tryd.prog 7 Tryd.f7 Rows.fnPutVarSpec Rows.fnPutVarRow = true := by
  unfold joinedFacts
  exact and_mk (and_mk (and_mk (and_mk (and_mk (and_mk (and_mk (and_mk (and_mk (and_mk (and_mk (and_mk (and_mk (and_mk (and_mk (and_mk (and_mk (and_mk (and_mk (and_mk (and_mk (and_mk (and_mk (and_mk (and_mk (and_mk (and_mk (and_mk (and_mk (and_mk (and_mk (by as_aux_lemma => kernel_rfl) laidO) mapsRowedO) (by as_aux_lemma => kernel_rfl)) (by as_aux_lemma => kernel_rfl)) (by as_aux_lemma => kernel_rfl)) (by as_aux_lemma => kernel_rfl)) (by as_aux_lemma => kernel_rfl)) (by as_aux_lemma => kernel_rfl)) (by as_aux_lemma => kernel_rfl)) (by as_aux_lemma => kernel_rfl)) (by as_aux_lemma => kernel_rfl)) (by as_aux_lemma => kernel_rfl)) (by as_aux_lemma => kernel_rfl)) (by as_aux_lemma => kernel_rfl)) (by as_aux_lemma => kernel_rfl)) (by as_aux_lemma => kernel_rfl)) (by as_aux_lemma => kernel_rfl)) (by as_aux_lemma => kernel_rfl)) (by as_aux_lemma => kernel_rfl)) (by as_aux_lemma => kernel_rfl)) (by as_aux_lemma => kernel_rfl)) (by rw [plainKeysO]; rfl)) (by as_aux_lemma => kernel_rfl)) stopsHeardO) mayEnter) (by rw [liftsFinal]; rfl)) (by rw [makeCut]; rfl)) (by as_aux_lemma => kernel_rfl)) (by as_aux_lemma => kernel_rfl)) (by as_aux_lemma => kernel_rfl)) (by as_aux_lemma => kernel_rfl)

theorem fnPutVar_said : Rows.FnPutVarSaid :=
  OpenClaim.holds_of_wide 7 Tryd.f7 rfl rfl rfl rfl rfl rfl rfl ⟨rfl, rfl, rfl, rfl, rfl⟩ rfl rfl rfl rfl rfl (by kernel_rfl) Tryd.func7 fnPutVar_facts
    (of_decide_eq_true (by kernel_rfl)) (by unfold Func.isWrapper; first | (rw [if_pos (by decide +kernel)]; kernel_rfl) | (rw [if_neg (by decide +kernel)]; exact ⟨rfl, rfl⟩))
    (fun os started H enc _ => fnPutVar_lifted os started H enc)

/-- no parameter wants a stand-in -/
theorem fnPutVar_plain (f : FuncId) (fn : Func) (hf : Tryd.pinned.checked.prog.funcNamed "loop.example/wholeway/laws.FnPutVar" = some f) (hfn : Tryd.pinned.checked.prog.funcs[f]? = some fn) :
    true = Tryd.pinned.checked.prog.looks [] ∧ ∀ (j : Nat) t, fn.params[j]? = some t → Tryd.pinned.checked.prog.wantsStandIn t = false := by
  obtain rfl : f = 7 := Option.some.inj ((show Tryd.prog.funcNamed "loop.example/wholeway/laws.FnPutVar" = some 7 by kernel_rfl).symm.trans hf) |>.symm
  obtain rfl : fn = Tryd.f7 := (Option.some.inj (Tryd.func7.symm.trans hfn)).symm
  refine ⟨by kernel_rfl, fun j t ht => ?_⟩
  rw [Tryd.params7] at ht
  have hm : t ∈ [22] := by simpa using Array.mem_of_getElem? ht
  have hall : ([22].all fun u => !Tryd.prog.wantsStandIn u) = true := by kernel_rfl
  exact (show Tryd.prog.wantsStandIn t = false by simpa using List.all_eq_true.1 hall t hm)
theorem fnPutVar_holds : Rows.FnPutVarCardSaid :=
  Claim7.holds_tied_plain_at .later [] _ _ _ _ fnPutVar_said (fun _ h => by cases h) (by kernel_rfl) (fun _ h => by cases h) fnPutVar_row_tie rfl ⟨rfl, rfl⟩ (by kernel_rfl) rfl fnPutVar_plain (by kernel_rfl)
end Go.Proofs.YtpheoddpkmaidaaDoor
