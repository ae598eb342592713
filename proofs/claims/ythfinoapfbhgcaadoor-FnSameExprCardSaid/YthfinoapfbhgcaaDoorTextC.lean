/-
  The text of an expression, by the program and by the reference. Conditions: the argument reads as data; for the program, the tables lie.
-/
import Derived.Test.YthfinoapfbhgcaaDoorWords
import Derived.Test.YthfinoapfbhgcaaDoorTextL
import Derived.Test.YthfinoapfbhgcaaDoorJoin1
namespace Go.Proofs.YthfinoapfbhgcaaDoor
open Go.RowKit Go.ChangeShapes Go.WideShapes Go.Deep
set_option linter.unusedVariables false
set_option linter.unusedSimpArgs false
/-- the text of an expression; none if it is not valid -/
def txV (e : Ex) : ByteArray := if valE e = true then txE 6 1 e else ⟨#[]⟩
theorem txV_yes {e : Ex} (h : valE e = true) : txV e = txE 6 1 e := if_pos h
theorem txV_no {e : Ex} (h : valE e = false) : txV e = ⟨#[]⟩ := if_neg (by rw [h]; decide)
theorem val_parts {e : Ex} (h : valE e = true) : formB 6 e = true ∧ partsE e ≤ 30 := by
  rw [valE_form, Bool.and_eq_true, decide_eq_true_eq] at h
  exact h
set_option maxRecDepth 100000 in
theorem spec_ExprText (d : Nat) (op n : Int) (name : ByteArray) (kids : List Ex) (v3 : Value) (w : World) (lo B : Nat) (hB : B ≤ w.heap.size) (ho : I64 op) (hn64 : I64 n) (hnm : name.size ≤ maxLen) (h3 : Sl false (exS false d) w lo B kids v3) :
    Calls Tryd.prog 9 #[.agg #[.int .i64 op, .int .i64 n, .string name, v3]] w (RetV (.tuple #[.string (txV (.mk op n name kids)), .bool (valE (.mk op n name kids))]) w) := by
  obtain ⟨A, p, hf, hl1, hl2⟩ := h3.form
  subst hf
  have hb0 : Below w.heap.size w (w.alloc (.cells #[.int .i64 op, .int .i64 n, .string name, .slice A kids.length p] 25)) := (Below.refl _ _).alloc (Nat.le_refl _) _
  have R0 : Row (w.alloc (.cells #[.int .i64 op, .int .i64 n, .string name, .slice A kids.length p] 25)) w.heap.size 25 #[.int .i64 op, .int .i64 n, .string name, .slice A kids.length p] := Row.new w _ _
  go_enter Tryd.func9, Tryd.ntmps9
  go_wp2_with fail
  refine (spec_ExprValid d op n name kids _ _ lo B (Nat.le_trans hB hb0.size) ho hn64 hnm (h3.below hb0 hB)).mono ?_
  rintro e w1 ⟨rfl, b1⟩
  have hb1 : Below w.heap.size w w1 := hb0.trans (b1.mono hb0.size)
  have R1 := R0.below b1 R0.lt
  cases hv : valE (.mk op n name kids)
  case false =>
    have E : Hid (txV (.mk op n name kids) = ⟨#[]⟩) := txV_no hv
    go_wp2_with fail
    go_ret2
    exact RetV.mk (by rw [E.out, hv] <;> rfl) rfl hb1
  case true =>
    have E : Hid (txV (.mk op n name kids) = txE 6 1 (.mk op n name kids)) := txV_yes hv
    obtain ⟨hf, hp⟩ := val_parts hv
    have y0 : w1.cell? ⟨w.heap.size, 0, none⟩ = some (.int .i64 op) := R1.cell 0
    have y1 : w1.cell? ⟨w.heap.size, 1, none⟩ = some (.int .i64 n) := R1.cell 1
    have y2 : w1.cell? ⟨w.heap.size, 2, none⟩ = some (.string name) := R1.cell 2
    have y3 : w1.cell? ⟨w.heap.size, 3, none⟩ = some (.slice A kids.length p) := R1.cell 3
    go_wp2_with fail
    refine (spec_l2Text 6 1 d op n name kids _ _ lo B (Nat.le_trans hB hb1.size) ho hn64 hnm (h3.below hb1 hB) hf hp (by omega)).mono ?_
    rintro e w2 ⟨rfl, b2⟩
    have hb2 : Below w.heap.size w w2 := hb1.trans (b2.mono hb1.size)
    go_wp2_with fail
    go_ret2
    exact RetV.mk (by rw [E.out, hv] <;> rfl) rfl hb2
theorem own_nilW (w : World) (base : Nat) : OwnW w base (.slice none 0 0) [] := ⟨rfl, Or.inl ⟨rfl, rfl⟩⟩
set_option maxRecDepth 100000 in
theorem impl_ExprText (d : Nat) (op n : Int) (name : ByteArray) (kids : List Ex) (v3 : Value) (w : World) (lo B : Nat) (hB : B ≤ w.heap.size) (ho : I64 op) (hn64 : I64 n) (hnm : name.size ≤ maxLen) (h3 : Sl false (exS false d) w lo B kids v3) (ht : TabX w) :
    Calls Tryd.prog 8 #[.agg #[.int .i64 op, .int .i64 n, .string name, v3]] w (RetV (.tuple #[.string (txV (.mk op n name kids)), .bool (valE (.mk op n name kids))]) w) := by
  obtain ⟨A, p, hf, hl1, hl2⟩ := h3.form
  subst hf
  have hb0 : Below w.heap.size w (w.alloc (.cells #[.int .i64 op, .int .i64 n, .string name, .slice A kids.length p] 25)) := (Below.refl _ _).alloc (Nat.le_refl _) _
  have R0 : Row (w.alloc (.cells #[.int .i64 op, .int .i64 n, .string name, .slice A kids.length p] 25)) w.heap.size 25 #[.int .i64 op, .int .i64 n, .string name, .slice A kids.length p] := Row.new w _ _
  go_enter Tryd.func8, Tryd.ntmps8
  go_wp2_with fail
  refine (impl_ExprValid d op n name kids _ _ lo B (Nat.le_trans hB hb0.size) ho hn64 hnm (h3.below hb0 hB) (ht.1.below hb0 (Nat.le_refl _))).mono ?_
  rintro e w1 ⟨rfl, b1⟩
  have hb1 : Below w.heap.size w w1 := hb0.trans (b1.mono hb0.size)
  have R1 := R0.below b1 R0.lt
  cases hv : valE (.mk op n name kids)
  case false =>
    have E : Hid (txV (.mk op n name kids) = ⟨#[]⟩) := txV_no hv
    go_wp2_with fail
    go_ret2
    exact RetV.mk (by rw [E.out, hv] <;> rfl) rfl hb1
  case true =>
    have E : Hid (txV (.mk op n name kids) = txE 6 1 (.mk op n name kids)) := txV_yes hv
    obtain ⟨hf, hp⟩ := val_parts hv
    have HV := Lib.hid (text_ok hv)
    have HS := Lib.hid (short_word false _ hf)
    have hL := wdE_len 6 false _ hf
    have y0 : w1.cell? ⟨w.heap.size, 0, none⟩ = some (.int .i64 op) := R1.cell 0
    have y1 : w1.cell? ⟨w.heap.size, 1, none⟩ = some (.int .i64 n) := R1.cell 1
    have y2 : w1.cell? ⟨w.heap.size, 2, none⟩ = some (.string name) := R1.cell 2
    have y3 : w1.cell? ⟨w.heap.size, 3, none⟩ = some (.slice A kids.length p) := R1.cell 3
    have HVV := Lib.hid hv
    clear hv
    go_wp2_with fail
    refine (impl_exprWords 6 false d op n name kids (.slice A kids.length p) _ lo B w1.heap.size (.slice none 0 0) [] (Nat.le_trans hB hb1.size) (Nat.le_refl _) ho hn64 hnm (h3.below hb1 hB) hf hp (fun w9 b9 => (ht.below hb1 (Nat.le_refl _)).below b9 (Nat.le_refl _)) (own_nilW _ _) (by simp; omega)).mono ?_
    rintro e w2 ⟨v2, rfl, own2, g2⟩
    rw [List.nil_append] at own2
    have b2 : Below w1.heap.size w1 w2 := g2.below (Nat.le_refl _) (fun k hk => by cases hk)
    have hb2 : Below w.heap.size w w2 := hb1.trans (b2.mono hb1.size)
    obtain ⟨A2, c2, hv2⟩ := own2.form
    subst hv2
    have hbk := words_bulk HS.out
    go_wp2_with fail
    refine (impl_JoinWords (wdE 6 false (.mk op n name kids)) _ w2 w1.heap.size w2.heap.size (Nat.le_refl _) (by omega) (Sl.of_ownW own2 (short_mem HS.out) (Nat.le_refl _) false) ((ht.1.below hb2 (Nat.le_refl _)).1)).mono ?_
    rw [HV.out]
    rintro e w3 ⟨rfl, b3⟩
    have hb3 : Below w.heap.size w w3 := hb2.trans (b3.mono hb2.size)
    go_wp2_with fail
    go_ret2
    exact RetV.mk (by rw [E.out, HVV.out] <;> rfl) rfl hb3
end Go.Proofs.YthfinoapfbhgcaaDoor
