/-
  The law FnExprForm: it returns true for all arguments. Condition: the variables that its row lists read as the table lays them.
-/
import Derived.Test.YtpheoddpkmaidaaDoorLaws2
import Derived.Test.YtpheoddpkmaidaaDoorDrawE6
namespace Go.Proofs.YtpheoddpkmaidaaDoor
open Go.RowKit Go.ChangeShapes Go.WideShapes Go.Deep
set_option linter.unusedVariables false
set_option linter.unusedSimpArgs false
theorem impl_ExprText_no (d : Nat) (op n : Int) (name : ByteArray) (kids : List Ex) (v3 : Value) (w : World) (lo B : Nat) (hB : B ≤ w.heap.size) (ho : I64 op) (hn64 : I64 n) (hnm : name.size ≤ maxLen) (h3 : Sl false (exS false d) w lo B kids v3) (ht : Tabs w) (hv : valE (.mk op n name kids) = false) :
    Calls Tryd.prog 13 #[.agg #[.int .i64 op, .int .i64 n, .string name, v3]] w (RetV (.tuple #[.string ⟨#[]⟩, .bool false]) w) := by
  obtain ⟨A, p, hf, hl1, hl2⟩ := h3.form
  subst hf
  have hb0 : Below w.heap.size w (w.alloc (.cells #[.int .i64 op, .int .i64 n, .string name, .slice A kids.length p] 25)) := (Below.refl _ _).alloc (Nat.le_refl _) _
  go_enter Tryd.func13, Tryd.ntmps13
  go_wp2_with fail
  refine (impl_ExprValid d op n name kids _ _ lo B (Nat.le_trans hB hb0.size) ho hn64 hnm (h3.below hb0 hB) (ht.below hb0 (Nat.le_refl _))).mono ?_
  rw [hv]
  rintro e w1 ⟨rfl, b1⟩
  have hb1 := hb0.trans (b1.mono hb0.size)
  go_wp2_with fail
  go_ret2
  exact ⟨rfl, hb1⟩
theorem sl_one {d : Nat} {w : World} {lo B g : Nat} {a : Ex} {c0 c1 c2 c3 : Value} (R : Row w g 25 #[c0, c1, c2, c3]) (hlo : lo ≤ g) (hg : g < B) (h : (exS false d).rep w lo B a [c0, c1, c2, c3]) : Sl false (exS false d) w lo B [a] (.slice (some ⟨g, 0, none⟩) 1 1) := by
  refine Sl.of_row (l := [a]) R hlo hg (by simp) (by decide) ?_
  intro i b hi hb
  obtain rfl : i = 0 := by simp at hi; exact hi
  have hb' := Option.some.inj hb
  subst hb'
  refine ⟨_, h, fun j u hu => ?_⟩
  simpa using hu
theorem not_no {e : Ex} (h : valE e = false) : valE (.mk 11 0 ⟨#[]⟩ [e]) = false := by
  rw [val_not]
  cases h5 : formB 5 e with
  | false => rfl
  | true =>
    by_cases hp : partsE e + 1 ≤ 30
    · rw [val_mk (formB_mono 5 e h5) (by omega)] at h
      cases h
    · rw [decide_eq_false hp]
      rfl
theorem not_yes {e : Ex} (h : valE e = true) : valE (.mk 11 0 ⟨#[]⟩ [e]) = (decide (deepE e < 6) && decide (partsE e < 30)) := by
  rw [val_not, form_deep 6 e 5 (val_form h)]
  congr 1
  congr 1
  exact propext (by omega)
set_option maxRecDepth 100000 in
set_option maxHeartbeats 16000000 in
theorem law_ExprForm (l : List UInt8) (v : Value) (w : World) (hv : Sl false byS w 0 w.heap.size l v) (ht : Tabs w) : Calls Tryd.prog 9 #[v] w (Yes w) := by
  obtain ⟨A, cap, rfl, hlc, hcm⟩ := hv.form
  by_cases hbig : 1048576 < l.length
  · have q0 : decide ((1048576 : Int) < (l.length : Int)) = true := by simp; omega
    go_enter Tryd.func9, Tryd.ntmps9
    go_wp2_with fail
    go_ret
    exact ⟨rfl, Below.refl _ _⟩
  have q0 : decide ((1048576 : Int) < (l.length : Int)) = false := by simp; omega
  go_enter Tryd.func9, Tryd.ntmps9
  go_wp2_with fail
  refine (draw_valid l _ _ hv).mono ?_
  rintro e w1 ⟨op, n, name, kids, A3, c3, rfl, ho, hn64, hnm, h3, hz, b1⟩
  have HT := Lib.hid (fun (w9 : World) (h9 : Below w.heap.size w w9) => ht.below h9 (Nat.le_refl _))
  have hkc : kids.length ≤ c3 ∧ c3 ≤ 9223372036854775807 := by
    obtain ⟨_, _, hf, h4, h5⟩ := h3.form
    injection hf with _ _ e3
    subst e3
    exact ⟨h4, h5⟩
  obtain ⟨hkc1, hkc2⟩ := hkc
  have st2 := (Below.refl _ w1).alloc (Nat.le_refl _) (.cells #[.int .i64 op, .int .i64 n, .string name, .slice A3 kids.length c3] 25)
  have hb2 : Below w.heap.size w (w1.alloc (.cells #[.int .i64 op, .int .i64 n, .string name, .slice A3 kids.length c3] 25)) := b1.alloc b1.size (.cells #[.int .i64 op, .int .i64 n, .string name, .slice A3 kids.length c3] 25)
  have R2 : Row (w1.alloc (.cells #[.int .i64 op, .int .i64 n, .string name, .slice A3 kids.length c3] 25)) w1.heap.size 25 #[.int .i64 op, .int .i64 n, .string name, .slice A3 kids.length c3] := Row.new _ _ _
  have h32 : Sl false (exS false 9) (w1.alloc (.cells #[.int .i64 op, .int .i64 n, .string name, .slice A3 kids.length c3] 25)) w.heap.size w1.heap.size kids (.slice A3 kids.length c3) := h3.below st2 (Nat.le_refl _)
  have hwb := b1.size
  have hs2 : w1.heap.size < (w1.alloc (.cells #[.int .i64 op, .int .i64 n, .string name, .slice A3 kids.length c3] 25)).heap.size := by simp
  clear ht hv h3
  obtain ⟨is, hval⟩ : ∃ is, valE (.mk op n name kids) = is := ⟨_, rfl⟩
  have HV := Lib.hid hval
  clear hval
  have e2 : Below (w1.alloc (.cells #[.int .i64 op, .int .i64 n, .string name, .slice A3 kids.length c3] 25)).heap.size (w1.alloc (.cells #[.int .i64 op, .int .i64 n, .string name, .slice A3 kids.length c3] 25)) (w1.alloc (.cells #[.int .i64 op, .int .i64 n, .string name, .slice A3 kids.length c3] 25)) := Below.refl _ _
  have y0 : (w1.alloc (.cells #[.int .i64 op, .int .i64 n, .string name, .slice A3 kids.length c3] 25)).cell? ⟨w1.heap.size, 0, none⟩ = some (.int .i64 op) := R2.cell 0
  have y1 : (w1.alloc (.cells #[.int .i64 op, .int .i64 n, .string name, .slice A3 kids.length c3] 25)).cell? ⟨w1.heap.size, 1, none⟩ = some (.int .i64 n) := R2.cell 1
  have y2 : (w1.alloc (.cells #[.int .i64 op, .int .i64 n, .string name, .slice A3 kids.length c3] 25)).cell? ⟨w1.heap.size, 2, none⟩ = some (.string name) := R2.cell 2
  have y3 : (w1.alloc (.cells #[.int .i64 op, .int .i64 n, .string name, .slice A3 kids.length c3] 25)).cell? ⟨w1.heap.size, 3, none⟩ = some (.slice A3 kids.length c3) := R2.cell 3
  go_wp2_with fail
  refine (impl_ExprValid 9 op n name kids (.slice A3 kids.length c3) _ w.heap.size w1.heap.size (Nat.le_trans (Nat.le_of_lt hs2) (e2).size) ho hn64 hnm (h32.below e2 (Nat.le_of_lt hs2)) (HT.out _ hb2)).mono ?_
  rw [HV.out]
  rintro e w3 ⟨rfl, x3⟩
  have hb3 : Below w.heap.size w w3 := hb2.trans (x3.mono hb2.size)
  have e3 := e2.trans (x3.mono e2.size)
  have R3 := R2.below x3 R2.lt
  have ya0 : w3.cell? ⟨w1.heap.size, 0, none⟩ = some (.int .i64 op) := R3.cell 0
  have ya1 : w3.cell? ⟨w1.heap.size, 1, none⟩ = some (.int .i64 n) := R3.cell 1
  have ya2 : w3.cell? ⟨w1.heap.size, 2, none⟩ = some (.string name) := R3.cell 2
  have ya3 : w3.cell? ⟨w1.heap.size, 3, none⟩ = some (.slice A3 kids.length c3) := R3.cell 3
  go_wp2_with fail
  refine (spec_ExprValid 9 op n name kids (.slice A3 kids.length c3) _ w.heap.size w1.heap.size (Nat.le_trans (Nat.le_of_lt hs2) (e3).size) ho hn64 hnm (h32.below e3 (Nat.le_of_lt hs2))).mono ?_
  rw [HV.out]
  rintro e w4 ⟨rfl, x4⟩
  have hb4 : Below w.heap.size w w4 := hb3.trans (x4.mono hb3.size)
  have e4 := e3.trans (x4.mono e3.size)
  have R4 := R3.below x4 R3.lt
  have yb0 : w4.cell? ⟨w1.heap.size, 0, none⟩ = some (.int .i64 op) := R4.cell 0
  have yb1 : w4.cell? ⟨w1.heap.size, 1, none⟩ = some (.int .i64 n) := R4.cell 1
  have yb2 : w4.cell? ⟨w1.heap.size, 2, none⟩ = some (.string name) := R4.cell 2
  have yb3 : w4.cell? ⟨w1.heap.size, 3, none⟩ = some (.slice A3 kids.length c3) := R4.cell 3
  have HK : Hid (is = true → ∀ k ∈ kids, valE k = true) := fun h k hk => val_kid (HV.out.trans h) hk
  cases is
  case false =>
    go_wp2_with fail
    go_loopw [26] (fun i wr => ∃ k : Nat, k ≤ kids.length ∧ i = .int .i64 (k : Int) ∧ Row wr w1.heap.size 25 #[.int .i64 op, .int .i64 n, .string name, .slice A3 kids.length c3] ∧ Below w.heap.size w wr ∧ Below (w1.alloc (.cells #[.int .i64 op, .int .i64 n, .string name, .slice A3 kids.length c3] 25)).heap.size (w1.alloc (.cells #[.int .i64 op, .int .i64 n, .string name, .slice A3 kids.length c3] 25)) wr) (fun i _ => kids.length - (intOf i).toNat)
    case atStart => exact ⟨0, by omega, rfl, R4, hb4, e4⟩
    case round =>
      obtain ⟨k, hk, rfl, R, hb, ex⟩ := hrel
      have hws := ex.size
      by_cases hkl : k < kids.length
      · obtain ⟨b, o, op', n', name', kids', v', rfl, _, hbB, HL, g0, g1, g2, g3, k0, k1, k2, k3⟩ := ex_get 8 (h32.below ex (Nat.le_of_lt hs2)) hkl
        obtain ⟨A', p', hf', _, _⟩ := g3.form
        change _ = Value.slice A' kids'.length p' at hf'
        subst hf'
        have hkn : (k : Int) < (kids.length : Int) := by omega
        have hki : (0 : Int) ≤ (k : Int) := by omega
        have x7 := (Below.refl _ wr).alloc (Nat.le_refl _) (.cells #[.int .i64 op', .int .i64 n', .string name', .slice A' kids'.length p'] 25)
        have hb7 := hb.trans (x7.mono hb.size)
        have e7 := ex.trans (x7.mono ex.size)
        have R8 := R.alloc (.cells #[.int .i64 op', .int .i64 n', .string name', .slice A' kids'.length p'] 25)
        go_wp2_with fail
        go_roundw
        case rel => exact ⟨k + 1, by omega, by go_num, R8, hb7, e7⟩
        case measure => simp [intOf]; omega
      · obtain rfl : k = kids.length := by omega
        have yc0 : wr.cell? ⟨w1.heap.size, 0, none⟩ = some (.int .i64 op) := R.cell 0
        have yc1 : wr.cell? ⟨w1.heap.size, 1, none⟩ = some (.int .i64 n) := R.cell 1
        have yc2 : wr.cell? ⟨w1.heap.size, 2, none⟩ = some (.string name) := R.cell 2
        have yc3 : wr.cell? ⟨w1.heap.size, 3, none⟩ = some (.slice A3 kids.length c3) := R.cell 3
        have RE0 := R.alloc (.cells #[.int .i64 op, .int .i64 (-1), .string name, .slice A3 kids.length c3] 25)
        have RE1 := RE0.alloc (.cells #[.int .i64 op, .int .i64 n, .string ⟨#[100, 111]⟩, .slice A3 kids.length c3] 25)
        have yd0 : (wr.alloc (.cells #[.int .i64 op, .int .i64 (-1), .string name, .slice A3 kids.length c3] 25)).cell? ⟨w1.heap.size, 0, none⟩ = some (.int .i64 op) := RE0.cell 0
        have yd1 : (wr.alloc (.cells #[.int .i64 op, .int .i64 (-1), .string name, .slice A3 kids.length c3] 25)).cell? ⟨w1.heap.size, 1, none⟩ = some (.int .i64 n) := RE0.cell 1
        have yd2 : (wr.alloc (.cells #[.int .i64 op, .int .i64 (-1), .string name, .slice A3 kids.length c3] 25)).cell? ⟨w1.heap.size, 2, none⟩ = some (.string name) := RE0.cell 2
        have yd3 : (wr.alloc (.cells #[.int .i64 op, .int .i64 (-1), .string name, .slice A3 kids.length c3] 25)).cell? ⟨w1.heap.size, 3, none⟩ = some (.slice A3 kids.length c3) := RE0.cell 3
        have ye0 : ((wr.alloc (.cells #[.int .i64 op, .int .i64 (-1), .string name, .slice A3 kids.length c3] 25)).alloc (.cells #[.int .i64 op, .int .i64 n, .string ⟨#[100, 111]⟩, .slice A3 kids.length c3] 25)).cell? ⟨w1.heap.size, 0, none⟩ = some (.int .i64 op) := RE1.cell 0
        have ye1 : ((wr.alloc (.cells #[.int .i64 op, .int .i64 (-1), .string name, .slice A3 kids.length c3] 25)).alloc (.cells #[.int .i64 op, .int .i64 n, .string ⟨#[100, 111]⟩, .slice A3 kids.length c3] 25)).cell? ⟨w1.heap.size, 1, none⟩ = some (.int .i64 n) := RE1.cell 1
        have ye2 : ((wr.alloc (.cells #[.int .i64 op, .int .i64 (-1), .string name, .slice A3 kids.length c3] 25)).alloc (.cells #[.int .i64 op, .int .i64 n, .string ⟨#[100, 111]⟩, .slice A3 kids.length c3] 25)).cell? ⟨w1.heap.size, 2, none⟩ = some (.string name) := RE1.cell 2
        have ye3 : ((wr.alloc (.cells #[.int .i64 op, .int .i64 (-1), .string name, .slice A3 kids.length c3] 25)).alloc (.cells #[.int .i64 op, .int .i64 n, .string ⟨#[100, 111]⟩, .slice A3 kids.length c3] 25)).cell? ⟨w1.heap.size, 3, none⟩ = some (.slice A3 kids.length c3) := RE1.cell 3
        have RX_ : Row ((((wr.alloc (.cells #[.int .i64 op, .int .i64 (-1), .string name, .slice A3 kids.length c3] 25)).alloc (.cells #[.int .i64 op, .int .i64 n, .string ⟨#[100, 111]⟩, .slice A3 kids.length c3] 25)).alloc (.cells #[.int .i64 op, .int .i64 n, .string name, .slice A3 kids.length c3] 25)).alloc (.cells #[.int .i64 11, .int .i64 0, .string ⟨#[]⟩, .slice (some ⟨wr.heap.size + 1 + 1, 0, none⟩) 1 1] 25)) (wr.heap.size) 25 #[.int .i64 op, .int .i64 (-1), .string name, .slice A3 kids.length c3] := (((Row.new wr _ _).alloc _).alloc _).alloc _
        have RY_ : Row ((((wr.alloc (.cells #[.int .i64 op, .int .i64 (-1), .string name, .slice A3 kids.length c3] 25)).alloc (.cells #[.int .i64 op, .int .i64 n, .string ⟨#[100, 111]⟩, .slice A3 kids.length c3] 25)).alloc (.cells #[.int .i64 op, .int .i64 n, .string name, .slice A3 kids.length c3] 25)).alloc (.cells #[.int .i64 11, .int .i64 0, .string ⟨#[]⟩, .slice (some ⟨wr.heap.size + 1 + 1, 0, none⟩) 1 1] 25)) (wr.heap.size + 1) 25 #[.int .i64 op, .int .i64 n, .string ⟨#[100, 111]⟩, .slice A3 kids.length c3] := Row.alloc (Row.alloc (by simpa using Row.new (wr.alloc (.cells #[.int .i64 op, .int .i64 (-1), .string name, .slice A3 kids.length c3] 25)) 25 #[.int .i64 op, .int .i64 n, .string ⟨#[100, 111]⟩, .slice A3 kids.length c3]) _) _
        have RR_ : Row ((((wr.alloc (.cells #[.int .i64 op, .int .i64 (-1), .string name, .slice A3 kids.length c3] 25)).alloc (.cells #[.int .i64 op, .int .i64 n, .string ⟨#[100, 111]⟩, .slice A3 kids.length c3] 25)).alloc (.cells #[.int .i64 op, .int .i64 n, .string name, .slice A3 kids.length c3] 25)).alloc (.cells #[.int .i64 11, .int .i64 0, .string ⟨#[]⟩, .slice (some ⟨wr.heap.size + 1 + 1, 0, none⟩) 1 1] 25)) (wr.heap.size + 1 + 1) 25 #[.int .i64 op, .int .i64 n, .string name, .slice A3 kids.length c3] := Row.alloc (by simpa using Row.new ((wr.alloc (.cells #[.int .i64 op, .int .i64 (-1), .string name, .slice A3 kids.length c3] 25)).alloc (.cells #[.int .i64 op, .int .i64 n, .string ⟨#[100, 111]⟩, .slice A3 kids.length c3] 25)) 25 #[.int .i64 op, .int .i64 n, .string name, .slice A3 kids.length c3]) _
        have RZ_ : Row ((((wr.alloc (.cells #[.int .i64 op, .int .i64 (-1), .string name, .slice A3 kids.length c3] 25)).alloc (.cells #[.int .i64 op, .int .i64 n, .string ⟨#[100, 111]⟩, .slice A3 kids.length c3] 25)).alloc (.cells #[.int .i64 op, .int .i64 n, .string name, .slice A3 kids.length c3] 25)).alloc (.cells #[.int .i64 11, .int .i64 0, .string ⟨#[]⟩, .slice (some ⟨wr.heap.size + 1 + 1, 0, none⟩) 1 1] 25)) (wr.heap.size + 1 + 1 + 1) 25 #[.int .i64 11, .int .i64 0, .string ⟨#[]⟩, .slice (some ⟨wr.heap.size + 1 + 1, 0, none⟩) 1 1] := by simpa using Row.new (((wr.alloc (.cells #[.int .i64 op, .int .i64 (-1), .string name, .slice A3 kids.length c3] 25)).alloc (.cells #[.int .i64 op, .int .i64 n, .string ⟨#[100, 111]⟩, .slice A3 kids.length c3] 25)).alloc (.cells #[.int .i64 op, .int .i64 n, .string name, .slice A3 kids.length c3] 25)) 25 #[.int .i64 11, .int .i64 0, .string ⟨#[]⟩, .slice (some ⟨wr.heap.size + 1 + 1, 0, none⟩) 1 1]
        have RE_ := (RE1.alloc (.cells #[.int .i64 op, .int .i64 n, .string name, .slice A3 kids.length c3] 25)).alloc (.cells #[.int .i64 11, .int .i64 0, .string ⟨#[]⟩, .slice (some ⟨wr.heap.size + 1 + 1, 0, none⟩) 1 1] 25)
        have sX := (Below.refl _ wr).alloc (Nat.le_refl _) (.cells #[.int .i64 op, .int .i64 (-1), .string name, .slice A3 kids.length c3] 25)
        have sZ : Below wr.heap.size wr ((((wr.alloc (.cells #[.int .i64 op, .int .i64 (-1), .string name, .slice A3 kids.length c3] 25)).alloc (.cells #[.int .i64 op, .int .i64 n, .string ⟨#[100, 111]⟩, .slice A3 kids.length c3] 25)).alloc (.cells #[.int .i64 op, .int .i64 n, .string name, .slice A3 kids.length c3] 25)).alloc (.cells #[.int .i64 11, .int .i64 0, .string ⟨#[]⟩, .slice (some ⟨wr.heap.size + 1 + 1, 0, none⟩) 1 1] 25)) := (((((Below.refl _ wr).alloc (Nat.le_refl _) _).alloc (by simp) _).alloc (by simp; omega) _).alloc (by simp; omega) _)
        have gZ : Below w.heap.size w ((((wr.alloc (.cells #[.int .i64 op, .int .i64 (-1), .string name, .slice A3 kids.length c3] 25)).alloc (.cells #[.int .i64 op, .int .i64 n, .string ⟨#[100, 111]⟩, .slice A3 kids.length c3] 25)).alloc (.cells #[.int .i64 op, .int .i64 n, .string name, .slice A3 kids.length c3] 25)).alloc (.cells #[.int .i64 11, .int .i64 0, .string ⟨#[]⟩, .slice (some ⟨wr.heap.size + 1 + 1, 0, none⟩) 1 1] 25)) := hb.trans (sZ.mono hb.size)
        have eZ := ex.trans (sZ.mono ex.size)
        have hszZ : ((((wr.alloc (.cells #[.int .i64 op, .int .i64 (-1), .string name, .slice A3 kids.length c3] 25)).alloc (.cells #[.int .i64 op, .int .i64 n, .string ⟨#[100, 111]⟩, .slice A3 kids.length c3] 25)).alloc (.cells #[.int .i64 op, .int .i64 n, .string name, .slice A3 kids.length c3] 25)).alloc (.cells #[.int .i64 11, .int .i64 0, .string ⟨#[]⟩, .slice (some ⟨wr.heap.size + 1 + 1, 0, none⟩) 1 1] 25)).heap.size = wr.heap.size + 1 + 1 + 1 + 1 := by simp
        have h3Z := h32.below eZ (Nat.le_of_lt hs2)
        have hn1 : I64 (-1) := ⟨by omega, by omega⟩
        have h11 : I64 11 := ⟨by omega, by omega⟩
        have h00 : I64 0 := ⟨by omega, by omega⟩
        have hem : (⟨#[]⟩ : ByteArray).size ≤ maxLen := by decide
        have hdo : (⟨#[100, 111]⟩ : ByteArray).size ≤ maxLen := by decide
        have hB1 : w1.heap.size ≤ ((((wr.alloc (.cells #[.int .i64 op, .int .i64 (-1), .string name, .slice A3 kids.length c3] 25)).alloc (.cells #[.int .i64 op, .int .i64 n, .string ⟨#[100, 111]⟩, .slice A3 kids.length c3] 25)).alloc (.cells #[.int .i64 op, .int .i64 n, .string name, .slice A3 kids.length c3] 25)).alloc (.cells #[.int .i64 11, .int .i64 0, .string ⟨#[]⟩, .slice (some ⟨wr.heap.size + 1 + 1, 0, none⟩) 1 1] 25)).heap.size := by rw [hszZ]; omega
        have hzZ : Sl false (exS false 10) ((((wr.alloc (.cells #[.int .i64 op, .int .i64 (-1), .string name, .slice A3 kids.length c3] 25)).alloc (.cells #[.int .i64 op, .int .i64 n, .string ⟨#[100, 111]⟩, .slice A3 kids.length c3] 25)).alloc (.cells #[.int .i64 op, .int .i64 n, .string name, .slice A3 kids.length c3] 25)).alloc (.cells #[.int .i64 11, .int .i64 0, .string ⟨#[]⟩, .slice (some ⟨wr.heap.size + 1 + 1, 0, none⟩) 1 1] 25)) w.heap.size (wr.heap.size + 1 + 1 + 1) [.mk op n name kids] (.slice (some ⟨wr.heap.size + 1 + 1, 0, none⟩) 1 1) := sl_one RR_ (by omega) (Nat.lt_succ_self _) (ex_mk false 9 op n name kids _ ho hn64 hnm (h3Z.more (Nat.le_refl _) (by omega)))
        have yx0 : ((((wr.alloc (.cells #[.int .i64 op, .int .i64 (-1), .string name, .slice A3 kids.length c3] 25)).alloc (.cells #[.int .i64 op, .int .i64 n, .string ⟨#[100, 111]⟩, .slice A3 kids.length c3] 25)).alloc (.cells #[.int .i64 op, .int .i64 n, .string name, .slice A3 kids.length c3] 25)).alloc (.cells #[.int .i64 11, .int .i64 0, .string ⟨#[]⟩, .slice (some ⟨wr.heap.size + 1 + 1, 0, none⟩) 1 1] 25)).cell? ⟨wr.heap.size, 0, none⟩ = some (.int .i64 op) := RX_.cell 0
        have yx1 : ((((wr.alloc (.cells #[.int .i64 op, .int .i64 (-1), .string name, .slice A3 kids.length c3] 25)).alloc (.cells #[.int .i64 op, .int .i64 n, .string ⟨#[100, 111]⟩, .slice A3 kids.length c3] 25)).alloc (.cells #[.int .i64 op, .int .i64 n, .string name, .slice A3 kids.length c3] 25)).alloc (.cells #[.int .i64 11, .int .i64 0, .string ⟨#[]⟩, .slice (some ⟨wr.heap.size + 1 + 1, 0, none⟩) 1 1] 25)).cell? ⟨wr.heap.size, 1, none⟩ = some (.int .i64 (-1)) := RX_.cell 1
        have yx2 : ((((wr.alloc (.cells #[.int .i64 op, .int .i64 (-1), .string name, .slice A3 kids.length c3] 25)).alloc (.cells #[.int .i64 op, .int .i64 n, .string ⟨#[100, 111]⟩, .slice A3 kids.length c3] 25)).alloc (.cells #[.int .i64 op, .int .i64 n, .string name, .slice A3 kids.length c3] 25)).alloc (.cells #[.int .i64 11, .int .i64 0, .string ⟨#[]⟩, .slice (some ⟨wr.heap.size + 1 + 1, 0, none⟩) 1 1] 25)).cell? ⟨wr.heap.size, 2, none⟩ = some (.string name) := RX_.cell 2
        have yx3 : ((((wr.alloc (.cells #[.int .i64 op, .int .i64 (-1), .string name, .slice A3 kids.length c3] 25)).alloc (.cells #[.int .i64 op, .int .i64 n, .string ⟨#[100, 111]⟩, .slice A3 kids.length c3] 25)).alloc (.cells #[.int .i64 op, .int .i64 n, .string name, .slice A3 kids.length c3] 25)).alloc (.cells #[.int .i64 11, .int .i64 0, .string ⟨#[]⟩, .slice (some ⟨wr.heap.size + 1 + 1, 0, none⟩) 1 1] 25)).cell? ⟨wr.heap.size, 3, none⟩ = some (.slice A3 kids.length c3) := RX_.cell 3
        go_wp2_with fail
        refine (impl_ExprText_no 9 op (-1) name kids (.slice A3 kids.length c3) _ w.heap.size w1.heap.size hB1 ho hn1 hnm h3Z (HT.out _ gZ) val_neg).mono ?_
        rintro e w5 ⟨rfl, x5⟩
        have g5 : Below w.heap.size w w5 := gZ.trans (x5.mono gZ.size)
        have h35 := h3Z.below x5 hB1
        have hzB : wr.heap.size + 1 + 1 + 1 ≤ ((((wr.alloc (.cells #[.int .i64 op, .int .i64 (-1), .string name, .slice A3 kids.length c3] 25)).alloc (.cells #[.int .i64 op, .int .i64 n, .string ⟨#[100, 111]⟩, .slice A3 kids.length c3] 25)).alloc (.cells #[.int .i64 op, .int .i64 n, .string name, .slice A3 kids.length c3] 25)).alloc (.cells #[.int .i64 11, .int .i64 0, .string ⟨#[]⟩, .slice (some ⟨wr.heap.size + 1 + 1, 0, none⟩) 1 1] 25)).heap.size := by rw [hszZ]; omega
        have hz5 := hzZ.below x5 hzB
        have hB5 := Nat.le_trans hB1 x5.size
        have hBz := Nat.le_trans hzB x5.size
        have RX5_ := RX_.below x5 RX_.lt
        have RY5_ := RY_.below x5 RY_.lt
        have RZ5_ := RZ_.below x5 RZ_.lt
        have RE5_ := RE_.below x5 RE_.lt
        have sX0 : w5.cell? ⟨wr.heap.size, 0, none⟩ = some (.int .i64 op) := RX5_.cell 0
        have sX1 : w5.cell? ⟨wr.heap.size, 1, none⟩ = some (.int .i64 (-1)) := RX5_.cell 1
        have sX2 : w5.cell? ⟨wr.heap.size, 2, none⟩ = some (.string name) := RX5_.cell 2
        have sX3 : w5.cell? ⟨wr.heap.size, 3, none⟩ = some (.slice A3 kids.length c3) := RX5_.cell 3
        have sY0 : w5.cell? ⟨wr.heap.size + 1, 0, none⟩ = some (.int .i64 op) := RY5_.cell 0
        have sY1 : w5.cell? ⟨wr.heap.size + 1, 1, none⟩ = some (.int .i64 n) := RY5_.cell 1
        have sY2 : w5.cell? ⟨wr.heap.size + 1, 2, none⟩ = some (.string ⟨#[100, 111]⟩) := RY5_.cell 2
        have sY3 : w5.cell? ⟨wr.heap.size + 1, 3, none⟩ = some (.slice A3 kids.length c3) := RY5_.cell 3
        have sZ0 : w5.cell? ⟨wr.heap.size + 1 + 1 + 1, 0, none⟩ = some (.int .i64 11) := RZ5_.cell 0
        have sZ1 : w5.cell? ⟨wr.heap.size + 1 + 1 + 1, 1, none⟩ = some (.int .i64 0) := RZ5_.cell 1
        have sZ2 : w5.cell? ⟨wr.heap.size + 1 + 1 + 1, 2, none⟩ = some (.string ⟨#[]⟩) := RZ5_.cell 2
        have sZ3 : w5.cell? ⟨wr.heap.size + 1 + 1 + 1, 3, none⟩ = some (.slice (some ⟨wr.heap.size + 1 + 1, 0, none⟩) 1 1) := RZ5_.cell 3
        have sE0 : w5.cell? ⟨w1.heap.size, 0, none⟩ = some (.int .i64 op) := RE5_.cell 0
        have sE1 : w5.cell? ⟨w1.heap.size, 1, none⟩ = some (.int .i64 n) := RE5_.cell 1
        have sE2 : w5.cell? ⟨w1.heap.size, 2, none⟩ = some (.string name) := RE5_.cell 2
        have sE3 : w5.cell? ⟨w1.heap.size, 3, none⟩ = some (.slice A3 kids.length c3) := RE5_.cell 3
        have RXd_ : Row w5.drew (wr.heap.size) 25 #[.int .i64 op, .int .i64 (-1), .string name, .slice A3 kids.length c3] := RX5_
        have RYd_ : Row w5.drew (wr.heap.size + 1) 25 #[.int .i64 op, .int .i64 n, .string ⟨#[100, 111]⟩, .slice A3 kids.length c3] := RY5_
        have RZd_ : Row w5.drew (wr.heap.size + 1 + 1 + 1) 25 #[.int .i64 11, .int .i64 0, .string ⟨#[]⟩, .slice (some ⟨wr.heap.size + 1 + 1, 0, none⟩) 1 1] := RZ5_
        have REd_ : Row w5.drew (w1.heap.size) 25 #[.int .i64 op, .int .i64 n, .string name, .slice A3 kids.length c3] := RE5_
        have g0 : Below w.heap.size w w5.drew := g5.drew
        have f0 : Below w5.heap.size w5 w5.drew := (Below.refl _ _).drew
        clear RX_ RY_ RR_ RZ_ RE_ RE0 RE1 sX sZ gZ eZ hzZ h3Z hszZ yd0 ye0 yx0 yc0 yd1 ye1 yx1 yc1 yd2 ye2 yx2 yc2 yd3 ye3 yx3 yc3
        have HZ : Hid (valE (.mk 11 0 ⟨#[]⟩ [.mk op n name kids]) = false) := not_no HV.out
        go_wp2_with fail
        refine wp_region_held_drew (S := fun w' => (w'.cell? ⟨wr.heap.size, 0, none⟩ = some (.int .i64 op) ∧ w'.cell? ⟨wr.heap.size, 1, none⟩ = some (.int .i64 (-1)) ∧ w'.cell? ⟨wr.heap.size, 2, none⟩ = some (.string name) ∧ w'.cell? ⟨wr.heap.size, 3, none⟩ = some (.slice A3 kids.length c3) ∧ w'.cell? ⟨wr.heap.size + 1, 0, none⟩ = some (.int .i64 op) ∧ w'.cell? ⟨wr.heap.size + 1, 1, none⟩ = some (.int .i64 n) ∧ w'.cell? ⟨wr.heap.size + 1, 2, none⟩ = some (.string ⟨#[100, 111]⟩) ∧ w'.cell? ⟨wr.heap.size + 1, 3, none⟩ = some (.slice A3 kids.length c3) ∧ w'.cell? ⟨wr.heap.size + 1 + 1 + 1, 0, none⟩ = some (.int .i64 11) ∧ w'.cell? ⟨wr.heap.size + 1 + 1 + 1, 1, none⟩ = some (.int .i64 0) ∧ w'.cell? ⟨wr.heap.size + 1 + 1 + 1, 2, none⟩ = some (.string ⟨#[]⟩) ∧ w'.cell? ⟨wr.heap.size + 1 + 1 + 1, 3, none⟩ = some (.slice (some ⟨wr.heap.size + 1 + 1, 0, none⟩) 1 1) ∧ w'.cell? ⟨w1.heap.size, 0, none⟩ = some (.int .i64 op) ∧ w'.cell? ⟨w1.heap.size, 1, none⟩ = some (.int .i64 n) ∧ w'.cell? ⟨w1.heap.size, 2, none⟩ = some (.string name) ∧ w'.cell? ⟨w1.heap.size, 3, none⟩ = some (.slice A3 kids.length c3))) (by kernel_rfl) ?_ (fun hHeld => ?_)
        · ((try dsimp only); refine ⟨?_, ?_, ?_, ?_, ?_, ?_, ?_, ?_, ?_, ?_, ?_, ?_, ?_, ?_, ?_, ?_⟩ <;> assumption)
        refine reg_take (i := 0) (v := ?v1) rfl (by kernel_rfl) (by kernel_rfl) (by kernel_rfl) (fun _ _ _ h => h) (Or.inl ⟨by kernel_rfl, ?h1⟩) (by assumption) ?r1
        case h1 => (intro w hSw; (try dsimp only at hSw); go_simp; try with_reducible rfl)
        try simp only [Act.put, List.setIfInBounds_toArray, List.set_cons_zero, List.set_cons_succ]
        refine reg_take (i := 1) (v := ?v2) rfl (by kernel_rfl) (by kernel_rfl) (by kernel_rfl) (fun _ _ _ h => h) (Or.inl ⟨by kernel_rfl, ?h2⟩) (by assumption) ?r2
        case h2 => (intro w hSw; (try dsimp only at hSw); go_simp; try with_reducible rfl)
        try simp only [Act.put, List.setIfInBounds_toArray, List.set_cons_zero, List.set_cons_succ]
        refine reg_take (i := 2) (v := ?v3) rfl (by kernel_rfl) (by kernel_rfl) (by kernel_rfl) (fun _ _ _ h => h) (Or.inl ⟨by kernel_rfl, ?h3⟩) (by assumption) ?r3
        case h3 => (intro w hSw; (try dsimp only at hSw); go_simp; try with_reducible rfl)
        try simp only [Act.put, List.setIfInBounds_toArray, List.set_cons_zero, List.set_cons_succ]
        refine reg_take (i := 3) (v := ?v4) rfl (by kernel_rfl) (by kernel_rfl) (by kernel_rfl) (fun _ _ _ h => h) (Or.inl ⟨by kernel_rfl, ?h4⟩) (by assumption) ?r4
        case h4 => (intro w hSw; (try dsimp only at hSw); go_simp; try with_reducible rfl)
        try simp only [Act.put, List.setIfInBounds_toArray, List.set_cons_zero, List.set_cons_succ]
        refine reg_call (i := 4) (by kernel_rfl) rfl (fun K hK => ?_)
        go_simp
        have q_ := f0; clear q_; refine (impl_ExprValid 9 op (-1) name kids (.slice A3 kids.length c3) w5.drew w.heap.size w1.heap.size (Nat.le_trans hB5 f0.size) ho hn1 hnm (h35.below f0 hB5) (HT.out _ g0)).mono ?_; rw [val_neg]; rintro e v1 ⟨rfl, x_1⟩; have g1 : Below w.heap.size w v1 := g0.trans (x_1.mono g0.size); have f1 := f0.trans (x_1.mono f0.size); have RX1_ := RXd_.below x_1 RXd_.lt; have RY1_ := RYd_.below x_1 RYd_.lt; have RZ1_ := RZd_.below x_1 RZd_.lt; have RE1_ := REd_.below x_1 REd_.lt; have s1X0 : v1.cell? ⟨wr.heap.size, 0, none⟩ = some (.int .i64 op) := RX1_.cell 0; have s1X1 : v1.cell? ⟨wr.heap.size, 1, none⟩ = some (.int .i64 (-1)) := RX1_.cell 1; have s1X2 : v1.cell? ⟨wr.heap.size, 2, none⟩ = some (.string name) := RX1_.cell 2; have s1X3 : v1.cell? ⟨wr.heap.size, 3, none⟩ = some (.slice A3 kids.length c3) := RX1_.cell 3; have s1Y0 : v1.cell? ⟨wr.heap.size + 1, 0, none⟩ = some (.int .i64 op) := RY1_.cell 0; have s1Y1 : v1.cell? ⟨wr.heap.size + 1, 1, none⟩ = some (.int .i64 n) := RY1_.cell 1; have s1Y2 : v1.cell? ⟨wr.heap.size + 1, 2, none⟩ = some (.string ⟨#[100, 111]⟩) := RY1_.cell 2; have s1Y3 : v1.cell? ⟨wr.heap.size + 1, 3, none⟩ = some (.slice A3 kids.length c3) := RY1_.cell 3; have s1Z0 : v1.cell? ⟨wr.heap.size + 1 + 1 + 1, 0, none⟩ = some (.int .i64 11) := RZ1_.cell 0; have s1Z1 : v1.cell? ⟨wr.heap.size + 1 + 1 + 1, 1, none⟩ = some (.int .i64 0) := RZ1_.cell 1; have s1Z2 : v1.cell? ⟨wr.heap.size + 1 + 1 + 1, 2, none⟩ = some (.string ⟨#[]⟩) := RZ1_.cell 2; have s1Z3 : v1.cell? ⟨wr.heap.size + 1 + 1 + 1, 3, none⟩ = some (.slice (some ⟨wr.heap.size + 1 + 1, 0, none⟩) 1 1) := RZ1_.cell 3; have s1E0 : v1.cell? ⟨w1.heap.size, 0, none⟩ = some (.int .i64 op) := RE1_.cell 0; have s1E1 : v1.cell? ⟨w1.heap.size, 1, none⟩ = some (.int .i64 n) := RE1_.cell 1; have s1E2 : v1.cell? ⟨w1.heap.size, 2, none⟩ = some (.string name) := RE1_.cell 2; have s1E3 : v1.cell? ⟨w1.heap.size, 3, none⟩ = some (.slice A3 kids.length c3) := RE1_.cell 3
        refine hK.out _ _ ?_ (fun hHeld => ?_)
        · ((try dsimp only); refine ⟨?_, ?_, ?_, ?_, ?_, ?_, ?_, ?_, ?_, ?_, ?_, ?_, ?_, ?_, ?_, ?_⟩ <;> assumption)
        clear hK K
        try simp only [Act.put, List.setIfInBounds_toArray, List.set_cons_zero, List.set_cons_succ]
        refine reg_take (i := 5) (v := ?v6) rfl (by kernel_rfl) (by kernel_rfl) (by kernel_rfl) (fun _ _ _ h => h) (Or.inl ⟨by kernel_rfl, ?h6⟩) (by assumption) ?r6
        case h6 => (intro w hSw; (try dsimp only at hSw); go_simp; try with_reducible rfl)
        try simp only [Act.put, List.setIfInBounds_toArray, List.set_cons_zero, List.set_cons_succ]
        refine reg_take (i := 6) (v := ?v7) rfl (by kernel_rfl) (by kernel_rfl) (by kernel_rfl) (fun _ _ _ h => h) (Or.inl ⟨by kernel_rfl, ?h7⟩) (by assumption) ?r7
        case h7 => (intro w hSw; (try dsimp only at hSw); go_simp; try with_reducible rfl)
        try simp only [Act.put, List.setIfInBounds_toArray, List.set_cons_zero, List.set_cons_succ]
        refine reg_take (i := 7) (v := ?v8) rfl (by kernel_rfl) (by kernel_rfl) (by kernel_rfl) (fun _ _ _ h => h) (Or.inl ⟨by kernel_rfl, ?h8⟩) (by assumption) ?r8
        case h8 => (intro w hSw; (try dsimp only at hSw); go_simp; try with_reducible rfl)
        try simp only [Act.put, List.setIfInBounds_toArray, List.set_cons_zero, List.set_cons_succ]
        refine reg_take (i := 8) (v := ?v9) rfl (by kernel_rfl) (by kernel_rfl) (by kernel_rfl) (fun _ _ _ h => h) (Or.inl ⟨by kernel_rfl, ?h9⟩) (by assumption) ?r9
        case h9 => (intro w hSw; (try dsimp only at hSw); go_simp; try with_reducible rfl)
        try simp only [Act.put, List.setIfInBounds_toArray, List.set_cons_zero, List.set_cons_succ]
        refine reg_call (i := 9) (by kernel_rfl) rfl (fun K hK => ?_)
        go_simp
        have q_ := f1; clear q_; refine (impl_ExprValid 9 op n ⟨#[100, 111]⟩ kids (.slice A3 kids.length c3) v1 w.heap.size w1.heap.size (Nat.le_trans hB5 f1.size) ho hn64 hdo (h35.below f1 hB5) (HT.out _ g1)).mono ?_; rw [val_do]; rintro e v2 ⟨rfl, x_2⟩; have g2 : Below w.heap.size w v2 := g1.trans (x_2.mono g1.size); have f2 := f1.trans (x_2.mono f1.size); have RX2_ := RX1_.below x_2 RX1_.lt; have RY2_ := RY1_.below x_2 RY1_.lt; have RZ2_ := RZ1_.below x_2 RZ1_.lt; have RE2_ := RE1_.below x_2 RE1_.lt; have s2X0 : v2.cell? ⟨wr.heap.size, 0, none⟩ = some (.int .i64 op) := RX2_.cell 0; have s2X1 : v2.cell? ⟨wr.heap.size, 1, none⟩ = some (.int .i64 (-1)) := RX2_.cell 1; have s2X2 : v2.cell? ⟨wr.heap.size, 2, none⟩ = some (.string name) := RX2_.cell 2; have s2X3 : v2.cell? ⟨wr.heap.size, 3, none⟩ = some (.slice A3 kids.length c3) := RX2_.cell 3; have s2Y0 : v2.cell? ⟨wr.heap.size + 1, 0, none⟩ = some (.int .i64 op) := RY2_.cell 0; have s2Y1 : v2.cell? ⟨wr.heap.size + 1, 1, none⟩ = some (.int .i64 n) := RY2_.cell 1; have s2Y2 : v2.cell? ⟨wr.heap.size + 1, 2, none⟩ = some (.string ⟨#[100, 111]⟩) := RY2_.cell 2; have s2Y3 : v2.cell? ⟨wr.heap.size + 1, 3, none⟩ = some (.slice A3 kids.length c3) := RY2_.cell 3; have s2Z0 : v2.cell? ⟨wr.heap.size + 1 + 1 + 1, 0, none⟩ = some (.int .i64 11) := RZ2_.cell 0; have s2Z1 : v2.cell? ⟨wr.heap.size + 1 + 1 + 1, 1, none⟩ = some (.int .i64 0) := RZ2_.cell 1; have s2Z2 : v2.cell? ⟨wr.heap.size + 1 + 1 + 1, 2, none⟩ = some (.string ⟨#[]⟩) := RZ2_.cell 2; have s2Z3 : v2.cell? ⟨wr.heap.size + 1 + 1 + 1, 3, none⟩ = some (.slice (some ⟨wr.heap.size + 1 + 1, 0, none⟩) 1 1) := RZ2_.cell 3; have s2E0 : v2.cell? ⟨w1.heap.size, 0, none⟩ = some (.int .i64 op) := RE2_.cell 0; have s2E1 : v2.cell? ⟨w1.heap.size, 1, none⟩ = some (.int .i64 n) := RE2_.cell 1; have s2E2 : v2.cell? ⟨w1.heap.size, 2, none⟩ = some (.string name) := RE2_.cell 2; have s2E3 : v2.cell? ⟨w1.heap.size, 3, none⟩ = some (.slice A3 kids.length c3) := RE2_.cell 3
        refine hK.out _ _ ?_ (fun hHeld => ?_)
        · ((try dsimp only); refine ⟨?_, ?_, ?_, ?_, ?_, ?_, ?_, ?_, ?_, ?_, ?_, ?_, ?_, ?_, ?_, ?_⟩ <;> assumption)
        clear hK K
        try simp only [Act.put, List.setIfInBounds_toArray, List.set_cons_zero, List.set_cons_succ]
        refine reg_take (i := 10) (v := ?v11) rfl (by kernel_rfl) (by kernel_rfl) (by kernel_rfl) (fun _ _ _ h => h) (Or.inl ⟨by kernel_rfl, ?h11⟩) (by assumption) ?r11
        case h11 => (intro w hSw; (try dsimp only at hSw); go_simp; try with_reducible rfl)
        try simp only [Act.put, List.setIfInBounds_toArray, List.set_cons_zero, List.set_cons_succ]
        refine reg_take (i := 11) (v := ?v12) rfl (by kernel_rfl) (by kernel_rfl) (by kernel_rfl) (fun _ _ _ h => h) (Or.inl ⟨by kernel_rfl, ?h12⟩) (by assumption) ?r12
        case h12 => (intro w hSw; (try dsimp only at hSw); go_simp; try with_reducible rfl)
        try simp only [Act.put, List.setIfInBounds_toArray, List.set_cons_zero, List.set_cons_succ]
        refine reg_take (i := 12) (v := ?v13) rfl (by kernel_rfl) (by kernel_rfl) (by kernel_rfl) (fun _ _ _ h => h) (Or.inl ⟨by kernel_rfl, ?h13⟩) (by assumption) ?r13
        case h13 => (intro w hSw; (try dsimp only at hSw); go_simp; try with_reducible rfl)
        try simp only [Act.put, List.setIfInBounds_toArray, List.set_cons_zero, List.set_cons_succ]
        refine reg_take (i := 13) (v := ?v14) rfl (by kernel_rfl) (by kernel_rfl) (by kernel_rfl) (fun _ _ _ h => h) (Or.inl ⟨by kernel_rfl, ?h14⟩) (by assumption) ?r14
        case h14 => (intro w hSw; (try dsimp only at hSw); go_simp; try with_reducible rfl)
        try simp only [Act.put, List.setIfInBounds_toArray, List.set_cons_zero, List.set_cons_succ]
        refine reg_call (i := 14) (by kernel_rfl) rfl (fun K hK => ?_)
        go_simp
        have q_ := f2; clear q_; refine (impl_ExprValid 10 11 0 ⟨#[]⟩ [.mk op n name kids] (.slice (some ⟨wr.heap.size + 1 + 1, 0, none⟩) 1 1) v2 w.heap.size (wr.heap.size + 1 + 1 + 1) (Nat.le_trans hBz f2.size) h11 h00 hem (hz5.below f2 hBz) (HT.out _ g2)).mono ?_; rw [HZ.out]; rintro e v3 ⟨rfl, x_3⟩; have g3 : Below w.heap.size w v3 := g2.trans (x_3.mono g2.size); have f3 := f2.trans (x_3.mono f2.size); have RX3_ := RX2_.below x_3 RX2_.lt; have RY3_ := RY2_.below x_3 RY2_.lt; have RZ3_ := RZ2_.below x_3 RZ2_.lt; have RE3_ := RE2_.below x_3 RE2_.lt; have s3X0 : v3.cell? ⟨wr.heap.size, 0, none⟩ = some (.int .i64 op) := RX3_.cell 0; have s3X1 : v3.cell? ⟨wr.heap.size, 1, none⟩ = some (.int .i64 (-1)) := RX3_.cell 1; have s3X2 : v3.cell? ⟨wr.heap.size, 2, none⟩ = some (.string name) := RX3_.cell 2; have s3X3 : v3.cell? ⟨wr.heap.size, 3, none⟩ = some (.slice A3 kids.length c3) := RX3_.cell 3; have s3Y0 : v3.cell? ⟨wr.heap.size + 1, 0, none⟩ = some (.int .i64 op) := RY3_.cell 0; have s3Y1 : v3.cell? ⟨wr.heap.size + 1, 1, none⟩ = some (.int .i64 n) := RY3_.cell 1; have s3Y2 : v3.cell? ⟨wr.heap.size + 1, 2, none⟩ = some (.string ⟨#[100, 111]⟩) := RY3_.cell 2; have s3Y3 : v3.cell? ⟨wr.heap.size + 1, 3, none⟩ = some (.slice A3 kids.length c3) := RY3_.cell 3; have s3Z0 : v3.cell? ⟨wr.heap.size + 1 + 1 + 1, 0, none⟩ = some (.int .i64 11) := RZ3_.cell 0; have s3Z1 : v3.cell? ⟨wr.heap.size + 1 + 1 + 1, 1, none⟩ = some (.int .i64 0) := RZ3_.cell 1; have s3Z2 : v3.cell? ⟨wr.heap.size + 1 + 1 + 1, 2, none⟩ = some (.string ⟨#[]⟩) := RZ3_.cell 2; have s3Z3 : v3.cell? ⟨wr.heap.size + 1 + 1 + 1, 3, none⟩ = some (.slice (some ⟨wr.heap.size + 1 + 1, 0, none⟩) 1 1) := RZ3_.cell 3; have s3E0 : v3.cell? ⟨w1.heap.size, 0, none⟩ = some (.int .i64 op) := RE3_.cell 0; have s3E1 : v3.cell? ⟨w1.heap.size, 1, none⟩ = some (.int .i64 n) := RE3_.cell 1; have s3E2 : v3.cell? ⟨w1.heap.size, 2, none⟩ = some (.string name) := RE3_.cell 2; have s3E3 : v3.cell? ⟨w1.heap.size, 3, none⟩ = some (.slice A3 kids.length c3) := RE3_.cell 3
        refine hK.out _ _ ?_ (fun hHeld => ?_)
        · ((try dsimp only); refine ⟨?_, ?_, ?_, ?_, ?_, ?_, ?_, ?_, ?_, ?_, ?_, ?_, ?_, ?_, ?_, ?_⟩ <;> assumption)
        clear hK K
        try simp only [Act.put, List.setIfInBounds_toArray, List.set_cons_zero, List.set_cons_succ]
        refine reg_take (i := 15) (v := ?v16) rfl (by kernel_rfl) (by kernel_rfl) (by kernel_rfl) (fun _ _ _ h => h) (Or.inl ⟨by kernel_rfl, ?h16⟩) (by assumption) ?r16
        case h16 => (intro w hSw; (try dsimp only at hSw); go_simp; try with_reducible rfl)
        try simp only [Act.put, List.setIfInBounds_toArray, List.set_cons_zero, List.set_cons_succ]
        refine reg_take (i := 16) (v := ?v17) rfl (by kernel_rfl) (by kernel_rfl) (by kernel_rfl) (fun _ _ _ h => h) (Or.inl ⟨by kernel_rfl, ?h17⟩) (by assumption) ?r17
        case h17 => (intro w hSw; (try dsimp only at hSw); go_simp; try with_reducible rfl)
        try simp only [Act.put, List.setIfInBounds_toArray, List.set_cons_zero, List.set_cons_succ]
        refine reg_take (i := 17) (v := undef) rfl (by kernel_rfl) (by kernel_rfl) (by kernel_rfl) (fun _ _ _ h => h) (Or.inr ⟨by kernel_rfl, rfl⟩) (by assumption) ?_
        try simp only [Act.put, List.setIfInBounds_toArray, List.set_cons_zero, List.set_cons_succ]
        refine reg_take (i := 18) (v := ?v19) rfl (by kernel_rfl) (by kernel_rfl) (by kernel_rfl) (fun _ _ _ h => h) (Or.inl ⟨by kernel_rfl, ?h19⟩) (by assumption) ?r19
        case h19 => (intro w hSw; (try dsimp only at hSw); go_simp; try with_reducible rfl)
        try simp only [Act.put, List.setIfInBounds_toArray, List.set_cons_zero, List.set_cons_succ]
        refine reg_take (i := 19) (v := ?v20) rfl (by kernel_rfl) (by kernel_rfl) (by kernel_rfl) (fun _ _ _ h => h) (Or.inl ⟨by kernel_rfl, ?h20⟩) (by assumption) ?r20
        case h20 => (intro w hSw; (try dsimp only at hSw); go_simp; try with_reducible rfl)
        try simp only [Act.put, List.setIfInBounds_toArray, List.set_cons_zero, List.set_cons_succ]
        refine reg_take (i := 20) (v := ?v21) rfl (by kernel_rfl) (by kernel_rfl) (by kernel_rfl) (fun _ _ _ h => h) (Or.inl ⟨by kernel_rfl, ?h21⟩) (by assumption) ?r21
        case h21 => (intro w hSw; (try dsimp only at hSw); go_simp; try with_reducible rfl)
        try simp only [Act.put, List.setIfInBounds_toArray, List.set_cons_zero, List.set_cons_succ]
        refine reg_take (i := 21) (v := ?v22) rfl (by kernel_rfl) (by kernel_rfl) (by kernel_rfl) (fun _ _ _ h => h) (Or.inl ⟨by kernel_rfl, ?h22⟩) (by assumption) ?r22
        case h22 => (intro w hSw; (try dsimp only at hSw); go_simp; try with_reducible rfl)
        try simp only [Act.put, List.setIfInBounds_toArray, List.set_cons_zero, List.set_cons_succ]
        refine reg_take (i := 22) (v := ?v23) rfl (by kernel_rfl) (by kernel_rfl) (by kernel_rfl) (fun _ _ _ h => h) (Or.inl ⟨by kernel_rfl, ?h23⟩) (by assumption) ?r23
        case h23 => (intro w hSw; (try dsimp only at hSw); go_simp; try with_reducible rfl)
        try simp only [Act.put, List.setIfInBounds_toArray, List.set_cons_zero, List.set_cons_succ]
        refine reg_take (i := 23) (v := ?v24) rfl (by kernel_rfl) (by kernel_rfl) (by kernel_rfl) (fun _ _ _ h => h) (Or.inl ⟨by kernel_rfl, ?h24⟩) (by assumption) ?r24
        case h24 => (intro w hSw; (try dsimp only at hSw); go_simp; try with_reducible rfl)
        try simp only [Act.put, List.setIfInBounds_toArray, List.set_cons_zero, List.set_cons_succ]
        refine reg_take (i := 24) (v := undef) rfl (by kernel_rfl) (by kernel_rfl) (by kernel_rfl) (fun _ _ _ h => h) (Or.inr ⟨by kernel_rfl, rfl⟩) (by assumption) ?_
        try simp only [Act.put, List.setIfInBounds_toArray, List.set_cons_zero, List.set_cons_succ]
        refine reg_take (i := 25) (v := undef) rfl (by kernel_rfl) (by kernel_rfl) (by kernel_rfl) (fun _ _ _ h => h) (Or.inr ⟨by kernel_rfl, rfl⟩) (by assumption) ?_
        try simp only [Act.put, List.setIfInBounds_toArray, List.set_cons_zero, List.set_cons_succ]
        refine reg_take (i := 26) (v := undef) rfl (by kernel_rfl) (by kernel_rfl) (by kernel_rfl) (fun _ _ _ h => h) (Or.inr ⟨by kernel_rfl, rfl⟩) (by assumption) ?_
        try simp only [Act.put, List.setIfInBounds_toArray, List.set_cons_zero, List.set_cons_succ]
        refine reg_take (i := 27) (v := undef) rfl (by kernel_rfl) (by kernel_rfl) (by kernel_rfl) (fun _ _ _ h => h) (Or.inr ⟨by kernel_rfl, rfl⟩) (by assumption) ?_
        try simp only [Act.put, List.setIfInBounds_toArray, List.set_cons_zero, List.set_cons_succ]
        refine reg_take (i := 28) (v := undef) rfl (by kernel_rfl) (by kernel_rfl) (by kernel_rfl) (fun _ _ _ h => h) (Or.inr ⟨by kernel_rfl, rfl⟩) (by assumption) ?_
        try simp only [Act.put, List.setIfInBounds_toArray, List.set_cons_zero, List.set_cons_succ]
        refine reg_take (i := 29) (v := undef) rfl (by kernel_rfl) (by kernel_rfl) (by kernel_rfl) (fun _ _ _ h => h) (Or.inr ⟨by kernel_rfl, rfl⟩) (by assumption) ?_
        try simp only [Act.put, List.setIfInBounds_toArray, List.set_cons_zero, List.set_cons_succ]
        refine reg_take (i := 30) (v := undef) rfl (by kernel_rfl) (by kernel_rfl) (by kernel_rfl) (fun _ _ _ h => h) (Or.inr ⟨by kernel_rfl, rfl⟩) (by assumption) ?_
        try simp only [Act.put, List.setIfInBounds_toArray, List.set_cons_zero, List.set_cons_succ]
        refine reg_take (i := 31) (v := undef) rfl (by kernel_rfl) (by kernel_rfl) (by kernel_rfl) (fun _ _ _ h => h) (Or.inr ⟨by kernel_rfl, rfl⟩) (by assumption) ?_
        try simp only [Act.put, List.setIfInBounds_toArray, List.set_cons_zero, List.set_cons_succ]
        refine reg_take (i := 32) (v := undef) rfl (by kernel_rfl) (by kernel_rfl) (by kernel_rfl) (fun _ _ _ h => h) (Or.inr ⟨by kernel_rfl, rfl⟩) (by assumption) ?_
        try simp only [Act.put, List.setIfInBounds_toArray, List.set_cons_zero, List.set_cons_succ]
        refine reg_take (i := 33) (v := undef) rfl (by kernel_rfl) (by kernel_rfl) (by kernel_rfl) (fun _ _ _ h => h) (Or.inr ⟨by kernel_rfl, rfl⟩) (by assumption) ?_
        try simp only [Act.put, List.setIfInBounds_toArray, List.set_cons_zero, List.set_cons_succ]
        refine reg_take (i := 34) (v := undef) rfl (by kernel_rfl) (by kernel_rfl) (by kernel_rfl) (fun _ _ _ h => h) (Or.inr ⟨by kernel_rfl, rfl⟩) (by assumption) ?_
        try simp only [Act.put, List.setIfInBounds_toArray, List.set_cons_zero, List.set_cons_succ]
        refine reg_take (i := 35) (v := ?v36) rfl (by kernel_rfl) (by kernel_rfl) (by kernel_rfl) (fun _ _ _ h => h) (Or.inl ⟨by kernel_rfl, ?h36⟩) (by assumption) ?r36
        case h36 => (intro w hSw; (try dsimp only at hSw); go_simp; try with_reducible rfl)
        try simp only [Act.put, List.setIfInBounds_toArray, List.set_cons_zero, List.set_cons_succ]
        refine reg_take (i := 36) (v := ?v37) rfl (by kernel_rfl) (by kernel_rfl) (by kernel_rfl) (fun _ _ _ h => h) (Or.inl ⟨by kernel_rfl, ?h37⟩) (by assumption) ?r37
        case h37 => (intro w hSw; (try dsimp only at hSw); go_simp; try with_reducible rfl)
        try simp only [Act.put, List.setIfInBounds_toArray, List.set_cons_zero, List.set_cons_succ]
        refine reg_take (i := 37) (v := ?v38) rfl (by kernel_rfl) (by kernel_rfl) (by kernel_rfl) (fun _ _ _ h => h) (Or.inl ⟨by kernel_rfl, ?h38⟩) (by assumption) ?r38
        case h38 => (intro w hSw; (try dsimp only at hSw); go_simp; try with_reducible rfl)
        try simp only [Act.put, List.setIfInBounds_toArray, List.set_cons_zero, List.set_cons_succ]
        refine wpAnyH_done (by kernel_rfl) ?_ _
        go_wp2_with fail
        go_ret
        exact ⟨rfl, g3⟩
  case true =>
    go_wp2_with fail
    go_loopw [26] (fun i wr => ∃ k : Nat, k ≤ kids.length ∧ i = .int .i64 (k : Int) ∧ Row wr w1.heap.size 25 #[.int .i64 op, .int .i64 n, .string name, .slice A3 kids.length c3] ∧ Below w.heap.size w wr ∧ Below (w1.alloc (.cells #[.int .i64 op, .int .i64 n, .string name, .slice A3 kids.length c3] 25)).heap.size (w1.alloc (.cells #[.int .i64 op, .int .i64 n, .string name, .slice A3 kids.length c3] 25)) wr) (fun i _ => kids.length - (intOf i).toNat)
    case atStart => exact ⟨0, by omega, rfl, R4, hb4, e4⟩
    case round =>
      obtain ⟨k, hk, rfl, R, hb, ex⟩ := hrel
      have hws := ex.size
      by_cases hkl : k < kids.length
      · obtain ⟨b, o, op', n', name', kids', v', rfl, _, hbB, HL, g0, g1, g2, g3, k0, k1, k2, k3⟩ := ex_get 8 (h32.below ex (Nat.le_of_lt hs2)) hkl
        obtain ⟨A', p', hf', _, _⟩ := g3.form
        change _ = Value.slice A' kids'.length p' at hf'
        subst hf'
        have hkn : (k : Int) < (kids.length : Int) := by omega
        have hki : (0 : Int) ≤ (k : Int) := by omega
        have x7 := (Below.refl _ wr).alloc (Nat.le_refl _) (.cells #[.int .i64 op', .int .i64 n', .string name', .slice A' kids'.length p'] 25)
        have hb7 := hb.trans (x7.mono hb.size)
        have e7 := ex.trans (x7.mono ex.size)
        have HVK : Hid (valE (.mk op' n' name' kids') = true) := HK.out (by simp) _ (HL.out ▸ List.getElem_mem hkl)
        go_wp2_with fail
        refine (impl_ExprValid 8 op' n' name' kids' (.slice A' kids'.length p') _ w.heap.size w1.heap.size (Nat.le_trans (Nat.le_of_lt hs2) e7.size) g0 g1 g2 (g3.below x7 (by omega)) (HT.out _ hb7)).mono ?_
        rw [HVK.out]
        rintro e w8 ⟨rfl, x8⟩
        have hb8 := hb7.trans (x8.mono hb7.size)
        have e8 := e7.trans (x8.mono e7.size)
        have R8 := (R.alloc (.cells #[.int .i64 op', .int .i64 n', .string name', .slice A' kids'.length p'] 25)).below x8 (R.alloc (.cells #[.int .i64 op', .int .i64 n', .string name', .slice A' kids'.length p'] 25)).lt
        go_wp2_with fail
        go_roundw
        case rel => exact ⟨k + 1, by omega, by go_num, R8, hb8, e8⟩
        case measure => simp [intOf]; omega
      · obtain rfl : k = kids.length := by omega
        have yc0 : wr.cell? ⟨w1.heap.size, 0, none⟩ = some (.int .i64 op) := R.cell 0
        have yc1 : wr.cell? ⟨w1.heap.size, 1, none⟩ = some (.int .i64 n) := R.cell 1
        have yc2 : wr.cell? ⟨w1.heap.size, 2, none⟩ = some (.string name) := R.cell 2
        have yc3 : wr.cell? ⟨w1.heap.size, 3, none⟩ = some (.slice A3 kids.length c3) := R.cell 3
        have RE0 := R.alloc (.cells #[.int .i64 op, .int .i64 (-1), .string name, .slice A3 kids.length c3] 25)
        have RE1 := RE0.alloc (.cells #[.int .i64 op, .int .i64 n, .string ⟨#[100, 111]⟩, .slice A3 kids.length c3] 25)
        have yd0 : (wr.alloc (.cells #[.int .i64 op, .int .i64 (-1), .string name, .slice A3 kids.length c3] 25)).cell? ⟨w1.heap.size, 0, none⟩ = some (.int .i64 op) := RE0.cell 0
        have yd1 : (wr.alloc (.cells #[.int .i64 op, .int .i64 (-1), .string name, .slice A3 kids.length c3] 25)).cell? ⟨w1.heap.size, 1, none⟩ = some (.int .i64 n) := RE0.cell 1
        have yd2 : (wr.alloc (.cells #[.int .i64 op, .int .i64 (-1), .string name, .slice A3 kids.length c3] 25)).cell? ⟨w1.heap.size, 2, none⟩ = some (.string name) := RE0.cell 2
        have yd3 : (wr.alloc (.cells #[.int .i64 op, .int .i64 (-1), .string name, .slice A3 kids.length c3] 25)).cell? ⟨w1.heap.size, 3, none⟩ = some (.slice A3 kids.length c3) := RE0.cell 3
        have ye0 : ((wr.alloc (.cells #[.int .i64 op, .int .i64 (-1), .string name, .slice A3 kids.length c3] 25)).alloc (.cells #[.int .i64 op, .int .i64 n, .string ⟨#[100, 111]⟩, .slice A3 kids.length c3] 25)).cell? ⟨w1.heap.size, 0, none⟩ = some (.int .i64 op) := RE1.cell 0
        have ye1 : ((wr.alloc (.cells #[.int .i64 op, .int .i64 (-1), .string name, .slice A3 kids.length c3] 25)).alloc (.cells #[.int .i64 op, .int .i64 n, .string ⟨#[100, 111]⟩, .slice A3 kids.length c3] 25)).cell? ⟨w1.heap.size, 1, none⟩ = some (.int .i64 n) := RE1.cell 1
        have ye2 : ((wr.alloc (.cells #[.int .i64 op, .int .i64 (-1), .string name, .slice A3 kids.length c3] 25)).alloc (.cells #[.int .i64 op, .int .i64 n, .string ⟨#[100, 111]⟩, .slice A3 kids.length c3] 25)).cell? ⟨w1.heap.size, 2, none⟩ = some (.string name) := RE1.cell 2
        have ye3 : ((wr.alloc (.cells #[.int .i64 op, .int .i64 (-1), .string name, .slice A3 kids.length c3] 25)).alloc (.cells #[.int .i64 op, .int .i64 n, .string ⟨#[100, 111]⟩, .slice A3 kids.length c3] 25)).cell? ⟨w1.heap.size, 3, none⟩ = some (.slice A3 kids.length c3) := RE1.cell 3
        have RX_ : Row ((((wr.alloc (.cells #[.int .i64 op, .int .i64 (-1), .string name, .slice A3 kids.length c3] 25)).alloc (.cells #[.int .i64 op, .int .i64 n, .string ⟨#[100, 111]⟩, .slice A3 kids.length c3] 25)).alloc (.cells #[.int .i64 op, .int .i64 n, .string name, .slice A3 kids.length c3] 25)).alloc (.cells #[.int .i64 11, .int .i64 0, .string ⟨#[]⟩, .slice (some ⟨wr.heap.size + 1 + 1, 0, none⟩) 1 1] 25)) (wr.heap.size) 25 #[.int .i64 op, .int .i64 (-1), .string name, .slice A3 kids.length c3] := (((Row.new wr _ _).alloc _).alloc _).alloc _
        have RY_ : Row ((((wr.alloc (.cells #[.int .i64 op, .int .i64 (-1), .string name, .slice A3 kids.length c3] 25)).alloc (.cells #[.int .i64 op, .int .i64 n, .string ⟨#[100, 111]⟩, .slice A3 kids.length c3] 25)).alloc (.cells #[.int .i64 op, .int .i64 n, .string name, .slice A3 kids.length c3] 25)).alloc (.cells #[.int .i64 11, .int .i64 0, .string ⟨#[]⟩, .slice (some ⟨wr.heap.size + 1 + 1, 0, none⟩) 1 1] 25)) (wr.heap.size + 1) 25 #[.int .i64 op, .int .i64 n, .string ⟨#[100, 111]⟩, .slice A3 kids.length c3] := Row.alloc (Row.alloc (by simpa using Row.new (wr.alloc (.cells #[.int .i64 op, .int .i64 (-1), .string name, .slice A3 kids.length c3] 25)) 25 #[.int .i64 op, .int .i64 n, .string ⟨#[100, 111]⟩, .slice A3 kids.length c3]) _) _
        have RR_ : Row ((((wr.alloc (.cells #[.int .i64 op, .int .i64 (-1), .string name, .slice A3 kids.length c3] 25)).alloc (.cells #[.int .i64 op, .int .i64 n, .string ⟨#[100, 111]⟩, .slice A3 kids.length c3] 25)).alloc (.cells #[.int .i64 op, .int .i64 n, .string name, .slice A3 kids.length c3] 25)).alloc (.cells #[.int .i64 11, .int .i64 0, .string ⟨#[]⟩, .slice (some ⟨wr.heap.size + 1 + 1, 0, none⟩) 1 1] 25)) (wr.heap.size + 1 + 1) 25 #[.int .i64 op, .int .i64 n, .string name, .slice A3 kids.length c3] := Row.alloc (by simpa using Row.new ((wr.alloc (.cells #[.int .i64 op, .int .i64 (-1), .string name, .slice A3 kids.length c3] 25)).alloc (.cells #[.int .i64 op, .int .i64 n, .string ⟨#[100, 111]⟩, .slice A3 kids.length c3] 25)) 25 #[.int .i64 op, .int .i64 n, .string name, .slice A3 kids.length c3]) _
        have RZ_ : Row ((((wr.alloc (.cells #[.int .i64 op, .int .i64 (-1), .string name, .slice A3 kids.length c3] 25)).alloc (.cells #[.int .i64 op, .int .i64 n, .string ⟨#[100, 111]⟩, .slice A3 kids.length c3] 25)).alloc (.cells #[.int .i64 op, .int .i64 n, .string name, .slice A3 kids.length c3] 25)).alloc (.cells #[.int .i64 11, .int .i64 0, .string ⟨#[]⟩, .slice (some ⟨wr.heap.size + 1 + 1, 0, none⟩) 1 1] 25)) (wr.heap.size + 1 + 1 + 1) 25 #[.int .i64 11, .int .i64 0, .string ⟨#[]⟩, .slice (some ⟨wr.heap.size + 1 + 1, 0, none⟩) 1 1] := by simpa using Row.new (((wr.alloc (.cells #[.int .i64 op, .int .i64 (-1), .string name, .slice A3 kids.length c3] 25)).alloc (.cells #[.int .i64 op, .int .i64 n, .string ⟨#[100, 111]⟩, .slice A3 kids.length c3] 25)).alloc (.cells #[.int .i64 op, .int .i64 n, .string name, .slice A3 kids.length c3] 25)) 25 #[.int .i64 11, .int .i64 0, .string ⟨#[]⟩, .slice (some ⟨wr.heap.size + 1 + 1, 0, none⟩) 1 1]
        have RE_ := (RE1.alloc (.cells #[.int .i64 op, .int .i64 n, .string name, .slice A3 kids.length c3] 25)).alloc (.cells #[.int .i64 11, .int .i64 0, .string ⟨#[]⟩, .slice (some ⟨wr.heap.size + 1 + 1, 0, none⟩) 1 1] 25)
        have sX := (Below.refl _ wr).alloc (Nat.le_refl _) (.cells #[.int .i64 op, .int .i64 (-1), .string name, .slice A3 kids.length c3] 25)
        have sZ : Below wr.heap.size wr ((((wr.alloc (.cells #[.int .i64 op, .int .i64 (-1), .string name, .slice A3 kids.length c3] 25)).alloc (.cells #[.int .i64 op, .int .i64 n, .string ⟨#[100, 111]⟩, .slice A3 kids.length c3] 25)).alloc (.cells #[.int .i64 op, .int .i64 n, .string name, .slice A3 kids.length c3] 25)).alloc (.cells #[.int .i64 11, .int .i64 0, .string ⟨#[]⟩, .slice (some ⟨wr.heap.size + 1 + 1, 0, none⟩) 1 1] 25)) := (((((Below.refl _ wr).alloc (Nat.le_refl _) _).alloc (by simp) _).alloc (by simp; omega) _).alloc (by simp; omega) _)
        have gZ : Below w.heap.size w ((((wr.alloc (.cells #[.int .i64 op, .int .i64 (-1), .string name, .slice A3 kids.length c3] 25)).alloc (.cells #[.int .i64 op, .int .i64 n, .string ⟨#[100, 111]⟩, .slice A3 kids.length c3] 25)).alloc (.cells #[.int .i64 op, .int .i64 n, .string name, .slice A3 kids.length c3] 25)).alloc (.cells #[.int .i64 11, .int .i64 0, .string ⟨#[]⟩, .slice (some ⟨wr.heap.size + 1 + 1, 0, none⟩) 1 1] 25)) := hb.trans (sZ.mono hb.size)
        have eZ := ex.trans (sZ.mono ex.size)
        have hszZ : ((((wr.alloc (.cells #[.int .i64 op, .int .i64 (-1), .string name, .slice A3 kids.length c3] 25)).alloc (.cells #[.int .i64 op, .int .i64 n, .string ⟨#[100, 111]⟩, .slice A3 kids.length c3] 25)).alloc (.cells #[.int .i64 op, .int .i64 n, .string name, .slice A3 kids.length c3] 25)).alloc (.cells #[.int .i64 11, .int .i64 0, .string ⟨#[]⟩, .slice (some ⟨wr.heap.size + 1 + 1, 0, none⟩) 1 1] 25)).heap.size = wr.heap.size + 1 + 1 + 1 + 1 := by simp
        have h3Z := h32.below eZ (Nat.le_of_lt hs2)
        have hn1 : I64 (-1) := ⟨by omega, by omega⟩
        have h11 : I64 11 := ⟨by omega, by omega⟩
        have h00 : I64 0 := ⟨by omega, by omega⟩
        have hem : (⟨#[]⟩ : ByteArray).size ≤ maxLen := by decide
        have hdo : (⟨#[100, 111]⟩ : ByteArray).size ≤ maxLen := by decide
        have hB1 : w1.heap.size ≤ ((((wr.alloc (.cells #[.int .i64 op, .int .i64 (-1), .string name, .slice A3 kids.length c3] 25)).alloc (.cells #[.int .i64 op, .int .i64 n, .string ⟨#[100, 111]⟩, .slice A3 kids.length c3] 25)).alloc (.cells #[.int .i64 op, .int .i64 n, .string name, .slice A3 kids.length c3] 25)).alloc (.cells #[.int .i64 11, .int .i64 0, .string ⟨#[]⟩, .slice (some ⟨wr.heap.size + 1 + 1, 0, none⟩) 1 1] 25)).heap.size := by rw [hszZ]; omega
        have hzZ : Sl false (exS false 10) ((((wr.alloc (.cells #[.int .i64 op, .int .i64 (-1), .string name, .slice A3 kids.length c3] 25)).alloc (.cells #[.int .i64 op, .int .i64 n, .string ⟨#[100, 111]⟩, .slice A3 kids.length c3] 25)).alloc (.cells #[.int .i64 op, .int .i64 n, .string name, .slice A3 kids.length c3] 25)).alloc (.cells #[.int .i64 11, .int .i64 0, .string ⟨#[]⟩, .slice (some ⟨wr.heap.size + 1 + 1, 0, none⟩) 1 1] 25)) w.heap.size (wr.heap.size + 1 + 1 + 1) [.mk op n name kids] (.slice (some ⟨wr.heap.size + 1 + 1, 0, none⟩) 1 1) := sl_one RR_ (by omega) (Nat.lt_succ_self _) (ex_mk false 9 op n name kids _ ho hn64 hnm (h3Z.more (Nat.le_refl _) (by omega)))
        have yx0 : ((((wr.alloc (.cells #[.int .i64 op, .int .i64 (-1), .string name, .slice A3 kids.length c3] 25)).alloc (.cells #[.int .i64 op, .int .i64 n, .string ⟨#[100, 111]⟩, .slice A3 kids.length c3] 25)).alloc (.cells #[.int .i64 op, .int .i64 n, .string name, .slice A3 kids.length c3] 25)).alloc (.cells #[.int .i64 11, .int .i64 0, .string ⟨#[]⟩, .slice (some ⟨wr.heap.size + 1 + 1, 0, none⟩) 1 1] 25)).cell? ⟨wr.heap.size, 0, none⟩ = some (.int .i64 op) := RX_.cell 0
        have yx1 : ((((wr.alloc (.cells #[.int .i64 op, .int .i64 (-1), .string name, .slice A3 kids.length c3] 25)).alloc (.cells #[.int .i64 op, .int .i64 n, .string ⟨#[100, 111]⟩, .slice A3 kids.length c3] 25)).alloc (.cells #[.int .i64 op, .int .i64 n, .string name, .slice A3 kids.length c3] 25)).alloc (.cells #[.int .i64 11, .int .i64 0, .string ⟨#[]⟩, .slice (some ⟨wr.heap.size + 1 + 1, 0, none⟩) 1 1] 25)).cell? ⟨wr.heap.size, 1, none⟩ = some (.int .i64 (-1)) := RX_.cell 1
        have yx2 : ((((wr.alloc (.cells #[.int .i64 op, .int .i64 (-1), .string name, .slice A3 kids.length c3] 25)).alloc (.cells #[.int .i64 op, .int .i64 n, .string ⟨#[100, 111]⟩, .slice A3 kids.length c3] 25)).alloc (.cells #[.int .i64 op, .int .i64 n, .string name, .slice A3 kids.length c3] 25)).alloc (.cells #[.int .i64 11, .int .i64 0, .string ⟨#[]⟩, .slice (some ⟨wr.heap.size + 1 + 1, 0, none⟩) 1 1] 25)).cell? ⟨wr.heap.size, 2, none⟩ = some (.string name) := RX_.cell 2
        have yx3 : ((((wr.alloc (.cells #[.int .i64 op, .int .i64 (-1), .string name, .slice A3 kids.length c3] 25)).alloc (.cells #[.int .i64 op, .int .i64 n, .string ⟨#[100, 111]⟩, .slice A3 kids.length c3] 25)).alloc (.cells #[.int .i64 op, .int .i64 n, .string name, .slice A3 kids.length c3] 25)).alloc (.cells #[.int .i64 11, .int .i64 0, .string ⟨#[]⟩, .slice (some ⟨wr.heap.size + 1 + 1, 0, none⟩) 1 1] 25)).cell? ⟨wr.heap.size, 3, none⟩ = some (.slice A3 kids.length c3) := RX_.cell 3
        go_wp2_with fail
        refine (impl_ExprText_no 9 op (-1) name kids (.slice A3 kids.length c3) _ w.heap.size w1.heap.size hB1 ho hn1 hnm h3Z (HT.out _ gZ) val_neg).mono ?_
        rintro e w5 ⟨rfl, x5⟩
        have g5 : Below w.heap.size w w5 := gZ.trans (x5.mono gZ.size)
        have h35 := h3Z.below x5 hB1
        have hzB : wr.heap.size + 1 + 1 + 1 ≤ ((((wr.alloc (.cells #[.int .i64 op, .int .i64 (-1), .string name, .slice A3 kids.length c3] 25)).alloc (.cells #[.int .i64 op, .int .i64 n, .string ⟨#[100, 111]⟩, .slice A3 kids.length c3] 25)).alloc (.cells #[.int .i64 op, .int .i64 n, .string name, .slice A3 kids.length c3] 25)).alloc (.cells #[.int .i64 11, .int .i64 0, .string ⟨#[]⟩, .slice (some ⟨wr.heap.size + 1 + 1, 0, none⟩) 1 1] 25)).heap.size := by rw [hszZ]; omega
        have hz5 := hzZ.below x5 hzB
        have hB5 := Nat.le_trans hB1 x5.size
        have hBz := Nat.le_trans hzB x5.size
        have RX5_ := RX_.below x5 RX_.lt
        have RY5_ := RY_.below x5 RY_.lt
        have RZ5_ := RZ_.below x5 RZ_.lt
        have RE5_ := RE_.below x5 RE_.lt
        have sX0 : w5.cell? ⟨wr.heap.size, 0, none⟩ = some (.int .i64 op) := RX5_.cell 0
        have sX1 : w5.cell? ⟨wr.heap.size, 1, none⟩ = some (.int .i64 (-1)) := RX5_.cell 1
        have sX2 : w5.cell? ⟨wr.heap.size, 2, none⟩ = some (.string name) := RX5_.cell 2
        have sX3 : w5.cell? ⟨wr.heap.size, 3, none⟩ = some (.slice A3 kids.length c3) := RX5_.cell 3
        have sY0 : w5.cell? ⟨wr.heap.size + 1, 0, none⟩ = some (.int .i64 op) := RY5_.cell 0
        have sY1 : w5.cell? ⟨wr.heap.size + 1, 1, none⟩ = some (.int .i64 n) := RY5_.cell 1
        have sY2 : w5.cell? ⟨wr.heap.size + 1, 2, none⟩ = some (.string ⟨#[100, 111]⟩) := RY5_.cell 2
        have sY3 : w5.cell? ⟨wr.heap.size + 1, 3, none⟩ = some (.slice A3 kids.length c3) := RY5_.cell 3
        have sZ0 : w5.cell? ⟨wr.heap.size + 1 + 1 + 1, 0, none⟩ = some (.int .i64 11) := RZ5_.cell 0
        have sZ1 : w5.cell? ⟨wr.heap.size + 1 + 1 + 1, 1, none⟩ = some (.int .i64 0) := RZ5_.cell 1
        have sZ2 : w5.cell? ⟨wr.heap.size + 1 + 1 + 1, 2, none⟩ = some (.string ⟨#[]⟩) := RZ5_.cell 2
        have sZ3 : w5.cell? ⟨wr.heap.size + 1 + 1 + 1, 3, none⟩ = some (.slice (some ⟨wr.heap.size + 1 + 1, 0, none⟩) 1 1) := RZ5_.cell 3
        have sE0 : w5.cell? ⟨w1.heap.size, 0, none⟩ = some (.int .i64 op) := RE5_.cell 0
        have sE1 : w5.cell? ⟨w1.heap.size, 1, none⟩ = some (.int .i64 n) := RE5_.cell 1
        have sE2 : w5.cell? ⟨w1.heap.size, 2, none⟩ = some (.string name) := RE5_.cell 2
        have sE3 : w5.cell? ⟨w1.heap.size, 3, none⟩ = some (.slice A3 kids.length c3) := RE5_.cell 3
        have RXd_ : Row w5.drew (wr.heap.size) 25 #[.int .i64 op, .int .i64 (-1), .string name, .slice A3 kids.length c3] := RX5_
        have RYd_ : Row w5.drew (wr.heap.size + 1) 25 #[.int .i64 op, .int .i64 n, .string ⟨#[100, 111]⟩, .slice A3 kids.length c3] := RY5_
        have RZd_ : Row w5.drew (wr.heap.size + 1 + 1 + 1) 25 #[.int .i64 11, .int .i64 0, .string ⟨#[]⟩, .slice (some ⟨wr.heap.size + 1 + 1, 0, none⟩) 1 1] := RZ5_
        have REd_ : Row w5.drew (w1.heap.size) 25 #[.int .i64 op, .int .i64 n, .string name, .slice A3 kids.length c3] := RE5_
        have g0 : Below w.heap.size w w5.drew := g5.drew
        have f0 : Below w5.heap.size w5 w5.drew := (Below.refl _ _).drew
        clear RX_ RY_ RR_ RZ_ RE_ RE0 RE1 sX sZ gZ eZ hzZ h3Z hszZ yd0 ye0 yx0 yc0 yd1 ye1 yx1 yc1 yd2 ye2 yx2 yc2 yd3 ye3 yx3 yc3
        have HDv : Hid (dpE (.mk op n name kids) = deepE (.mk op n name kids)) := dpE_val HV.out
        have HCv : Hid (cntE (.mk op n name kids) = partsE (.mk op n name kids)) := cntE_val HV.out
        have hny := not_yes HV.out
        obtain ⟨dq, hdq⟩ : ∃ dq, deepE (.mk op n name kids) = dq := ⟨_, rfl⟩
        obtain ⟨pq, hpq⟩ : ∃ pq, partsE (.mk op n name kids) = pq := ⟨_, rfl⟩
        rw [hdq, hpq] at hny
        rw [hdq] at HDv
        rw [hpq] at HCv
        clear hdq hpq
        by_cases hd : dq < 6
        · have td : decide ((dq : Int) < 6) = true := by simp; omega
          by_cases hp : pq < 30
          · have tp : decide ((pq : Int) < 30) = true := by simp; omega
            have HZ : Hid (valE (.mk 11 0 ⟨#[]⟩ [.mk op n name kids]) = true) := by show _ = _; rw [hny, decide_eq_true hd, decide_eq_true hp]; rfl
            clear hny
            go_wp2_with fail
            refine wp_region_held_drew (S := fun w' => (w'.cell? ⟨wr.heap.size, 0, none⟩ = some (.int .i64 op) ∧ w'.cell? ⟨wr.heap.size, 1, none⟩ = some (.int .i64 (-1)) ∧ w'.cell? ⟨wr.heap.size, 2, none⟩ = some (.string name) ∧ w'.cell? ⟨wr.heap.size, 3, none⟩ = some (.slice A3 kids.length c3) ∧ w'.cell? ⟨wr.heap.size + 1, 0, none⟩ = some (.int .i64 op) ∧ w'.cell? ⟨wr.heap.size + 1, 1, none⟩ = some (.int .i64 n) ∧ w'.cell? ⟨wr.heap.size + 1, 2, none⟩ = some (.string ⟨#[100, 111]⟩) ∧ w'.cell? ⟨wr.heap.size + 1, 3, none⟩ = some (.slice A3 kids.length c3) ∧ w'.cell? ⟨wr.heap.size + 1 + 1 + 1, 0, none⟩ = some (.int .i64 11) ∧ w'.cell? ⟨wr.heap.size + 1 + 1 + 1, 1, none⟩ = some (.int .i64 0) ∧ w'.cell? ⟨wr.heap.size + 1 + 1 + 1, 2, none⟩ = some (.string ⟨#[]⟩) ∧ w'.cell? ⟨wr.heap.size + 1 + 1 + 1, 3, none⟩ = some (.slice (some ⟨wr.heap.size + 1 + 1, 0, none⟩) 1 1) ∧ w'.cell? ⟨w1.heap.size, 0, none⟩ = some (.int .i64 op) ∧ w'.cell? ⟨w1.heap.size, 1, none⟩ = some (.int .i64 n) ∧ w'.cell? ⟨w1.heap.size, 2, none⟩ = some (.string name) ∧ w'.cell? ⟨w1.heap.size, 3, none⟩ = some (.slice A3 kids.length c3))) (by kernel_rfl) ?_ (fun hHeld => ?_)
            · ((try dsimp only); refine ⟨?_, ?_, ?_, ?_, ?_, ?_, ?_, ?_, ?_, ?_, ?_, ?_, ?_, ?_, ?_, ?_⟩ <;> assumption)
            refine reg_take (i := 0) (v := ?v39) rfl (by kernel_rfl) (by kernel_rfl) (by kernel_rfl) (fun _ _ _ h => h) (Or.inl ⟨by kernel_rfl, ?h39⟩) (by assumption) ?r39
            case h39 => (intro w hSw; (try dsimp only at hSw); go_simp; try with_reducible rfl)
            try simp only [Act.put, List.setIfInBounds_toArray, List.set_cons_zero, List.set_cons_succ]
            refine reg_take (i := 1) (v := ?v40) rfl (by kernel_rfl) (by kernel_rfl) (by kernel_rfl) (fun _ _ _ h => h) (Or.inl ⟨by kernel_rfl, ?h40⟩) (by assumption) ?r40
            case h40 => (intro w hSw; (try dsimp only at hSw); go_simp; try with_reducible rfl)
            try simp only [Act.put, List.setIfInBounds_toArray, List.set_cons_zero, List.set_cons_succ]
            refine reg_take (i := 2) (v := ?v41) rfl (by kernel_rfl) (by kernel_rfl) (by kernel_rfl) (fun _ _ _ h => h) (Or.inl ⟨by kernel_rfl, ?h41⟩) (by assumption) ?r41
            case h41 => (intro w hSw; (try dsimp only at hSw); go_simp; try with_reducible rfl)
            try simp only [Act.put, List.setIfInBounds_toArray, List.set_cons_zero, List.set_cons_succ]
            refine reg_take (i := 3) (v := ?v42) rfl (by kernel_rfl) (by kernel_rfl) (by kernel_rfl) (fun _ _ _ h => h) (Or.inl ⟨by kernel_rfl, ?h42⟩) (by assumption) ?r42
            case h42 => (intro w hSw; (try dsimp only at hSw); go_simp; try with_reducible rfl)
            try simp only [Act.put, List.setIfInBounds_toArray, List.set_cons_zero, List.set_cons_succ]
            refine reg_call (i := 4) (by kernel_rfl) rfl (fun K hK => ?_)
            go_simp
            have q_ := f0; clear q_; refine (impl_ExprValid 9 op (-1) name kids (.slice A3 kids.length c3) w5.drew w.heap.size w1.heap.size (Nat.le_trans hB5 f0.size) ho hn1 hnm (h35.below f0 hB5) (HT.out _ g0)).mono ?_; rw [val_neg]; rintro e v1 ⟨rfl, x_1⟩; have g1 : Below w.heap.size w v1 := g0.trans (x_1.mono g0.size); have f1 := f0.trans (x_1.mono f0.size); have RX1_ := RXd_.below x_1 RXd_.lt; have RY1_ := RYd_.below x_1 RYd_.lt; have RZ1_ := RZd_.below x_1 RZd_.lt; have RE1_ := REd_.below x_1 REd_.lt; have s1X0 : v1.cell? ⟨wr.heap.size, 0, none⟩ = some (.int .i64 op) := RX1_.cell 0; have s1X1 : v1.cell? ⟨wr.heap.size, 1, none⟩ = some (.int .i64 (-1)) := RX1_.cell 1; have s1X2 : v1.cell? ⟨wr.heap.size, 2, none⟩ = some (.string name) := RX1_.cell 2; have s1X3 : v1.cell? ⟨wr.heap.size, 3, none⟩ = some (.slice A3 kids.length c3) := RX1_.cell 3; have s1Y0 : v1.cell? ⟨wr.heap.size + 1, 0, none⟩ = some (.int .i64 op) := RY1_.cell 0; have s1Y1 : v1.cell? ⟨wr.heap.size + 1, 1, none⟩ = some (.int .i64 n) := RY1_.cell 1; have s1Y2 : v1.cell? ⟨wr.heap.size + 1, 2, none⟩ = some (.string ⟨#[100, 111]⟩) := RY1_.cell 2; have s1Y3 : v1.cell? ⟨wr.heap.size + 1, 3, none⟩ = some (.slice A3 kids.length c3) := RY1_.cell 3; have s1Z0 : v1.cell? ⟨wr.heap.size + 1 + 1 + 1, 0, none⟩ = some (.int .i64 11) := RZ1_.cell 0; have s1Z1 : v1.cell? ⟨wr.heap.size + 1 + 1 + 1, 1, none⟩ = some (.int .i64 0) := RZ1_.cell 1; have s1Z2 : v1.cell? ⟨wr.heap.size + 1 + 1 + 1, 2, none⟩ = some (.string ⟨#[]⟩) := RZ1_.cell 2; have s1Z3 : v1.cell? ⟨wr.heap.size + 1 + 1 + 1, 3, none⟩ = some (.slice (some ⟨wr.heap.size + 1 + 1, 0, none⟩) 1 1) := RZ1_.cell 3; have s1E0 : v1.cell? ⟨w1.heap.size, 0, none⟩ = some (.int .i64 op) := RE1_.cell 0; have s1E1 : v1.cell? ⟨w1.heap.size, 1, none⟩ = some (.int .i64 n) := RE1_.cell 1; have s1E2 : v1.cell? ⟨w1.heap.size, 2, none⟩ = some (.string name) := RE1_.cell 2; have s1E3 : v1.cell? ⟨w1.heap.size, 3, none⟩ = some (.slice A3 kids.length c3) := RE1_.cell 3
            refine hK.out _ _ ?_ (fun hHeld => ?_)
            · ((try dsimp only); refine ⟨?_, ?_, ?_, ?_, ?_, ?_, ?_, ?_, ?_, ?_, ?_, ?_, ?_, ?_, ?_, ?_⟩ <;> assumption)
            clear hK K
            try simp only [Act.put, List.setIfInBounds_toArray, List.set_cons_zero, List.set_cons_succ]
            refine reg_take (i := 5) (v := ?v44) rfl (by kernel_rfl) (by kernel_rfl) (by kernel_rfl) (fun _ _ _ h => h) (Or.inl ⟨by kernel_rfl, ?h44⟩) (by assumption) ?r44
            case h44 => (intro w hSw; (try dsimp only at hSw); go_simp; try with_reducible rfl)
            try simp only [Act.put, List.setIfInBounds_toArray, List.set_cons_zero, List.set_cons_succ]
            refine reg_take (i := 6) (v := ?v45) rfl (by kernel_rfl) (by kernel_rfl) (by kernel_rfl) (fun _ _ _ h => h) (Or.inl ⟨by kernel_rfl, ?h45⟩) (by assumption) ?r45
            case h45 => (intro w hSw; (try dsimp only at hSw); go_simp; try with_reducible rfl)
            try simp only [Act.put, List.setIfInBounds_toArray, List.set_cons_zero, List.set_cons_succ]
            refine reg_take (i := 7) (v := ?v46) rfl (by kernel_rfl) (by kernel_rfl) (by kernel_rfl) (fun _ _ _ h => h) (Or.inl ⟨by kernel_rfl, ?h46⟩) (by assumption) ?r46
            case h46 => (intro w hSw; (try dsimp only at hSw); go_simp; try with_reducible rfl)
            try simp only [Act.put, List.setIfInBounds_toArray, List.set_cons_zero, List.set_cons_succ]
            refine reg_take (i := 8) (v := ?v47) rfl (by kernel_rfl) (by kernel_rfl) (by kernel_rfl) (fun _ _ _ h => h) (Or.inl ⟨by kernel_rfl, ?h47⟩) (by assumption) ?r47
            case h47 => (intro w hSw; (try dsimp only at hSw); go_simp; try with_reducible rfl)
            try simp only [Act.put, List.setIfInBounds_toArray, List.set_cons_zero, List.set_cons_succ]
            refine reg_call (i := 9) (by kernel_rfl) rfl (fun K hK => ?_)
            go_simp
            have q_ := f1; clear q_; refine (impl_ExprValid 9 op n ⟨#[100, 111]⟩ kids (.slice A3 kids.length c3) v1 w.heap.size w1.heap.size (Nat.le_trans hB5 f1.size) ho hn64 hdo (h35.below f1 hB5) (HT.out _ g1)).mono ?_; rw [val_do]; rintro e v2 ⟨rfl, x_2⟩; have g2 : Below w.heap.size w v2 := g1.trans (x_2.mono g1.size); have f2 := f1.trans (x_2.mono f1.size); have RX2_ := RX1_.below x_2 RX1_.lt; have RY2_ := RY1_.below x_2 RY1_.lt; have RZ2_ := RZ1_.below x_2 RZ1_.lt; have RE2_ := RE1_.below x_2 RE1_.lt; have s2X0 : v2.cell? ⟨wr.heap.size, 0, none⟩ = some (.int .i64 op) := RX2_.cell 0; have s2X1 : v2.cell? ⟨wr.heap.size, 1, none⟩ = some (.int .i64 (-1)) := RX2_.cell 1; have s2X2 : v2.cell? ⟨wr.heap.size, 2, none⟩ = some (.string name) := RX2_.cell 2; have s2X3 : v2.cell? ⟨wr.heap.size, 3, none⟩ = some (.slice A3 kids.length c3) := RX2_.cell 3; have s2Y0 : v2.cell? ⟨wr.heap.size + 1, 0, none⟩ = some (.int .i64 op) := RY2_.cell 0; have s2Y1 : v2.cell? ⟨wr.heap.size + 1, 1, none⟩ = some (.int .i64 n) := RY2_.cell 1; have s2Y2 : v2.cell? ⟨wr.heap.size + 1, 2, none⟩ = some (.string ⟨#[100, 111]⟩) := RY2_.cell 2; have s2Y3 : v2.cell? ⟨wr.heap.size + 1, 3, none⟩ = some (.slice A3 kids.length c3) := RY2_.cell 3; have s2Z0 : v2.cell? ⟨wr.heap.size + 1 + 1 + 1, 0, none⟩ = some (.int .i64 11) := RZ2_.cell 0; have s2Z1 : v2.cell? ⟨wr.heap.size + 1 + 1 + 1, 1, none⟩ = some (.int .i64 0) := RZ2_.cell 1; have s2Z2 : v2.cell? ⟨wr.heap.size + 1 + 1 + 1, 2, none⟩ = some (.string ⟨#[]⟩) := RZ2_.cell 2; have s2Z3 : v2.cell? ⟨wr.heap.size + 1 + 1 + 1, 3, none⟩ = some (.slice (some ⟨wr.heap.size + 1 + 1, 0, none⟩) 1 1) := RZ2_.cell 3; have s2E0 : v2.cell? ⟨w1.heap.size, 0, none⟩ = some (.int .i64 op) := RE2_.cell 0; have s2E1 : v2.cell? ⟨w1.heap.size, 1, none⟩ = some (.int .i64 n) := RE2_.cell 1; have s2E2 : v2.cell? ⟨w1.heap.size, 2, none⟩ = some (.string name) := RE2_.cell 2; have s2E3 : v2.cell? ⟨w1.heap.size, 3, none⟩ = some (.slice A3 kids.length c3) := RE2_.cell 3
            refine hK.out _ _ ?_ (fun hHeld => ?_)
            · ((try dsimp only); refine ⟨?_, ?_, ?_, ?_, ?_, ?_, ?_, ?_, ?_, ?_, ?_, ?_, ?_, ?_, ?_, ?_⟩ <;> assumption)
            clear hK K
            try simp only [Act.put, List.setIfInBounds_toArray, List.set_cons_zero, List.set_cons_succ]
            refine reg_take (i := 10) (v := ?v49) rfl (by kernel_rfl) (by kernel_rfl) (by kernel_rfl) (fun _ _ _ h => h) (Or.inl ⟨by kernel_rfl, ?h49⟩) (by assumption) ?r49
            case h49 => (intro w hSw; (try dsimp only at hSw); go_simp; try with_reducible rfl)
            try simp only [Act.put, List.setIfInBounds_toArray, List.set_cons_zero, List.set_cons_succ]
            refine reg_take (i := 11) (v := ?v50) rfl (by kernel_rfl) (by kernel_rfl) (by kernel_rfl) (fun _ _ _ h => h) (Or.inl ⟨by kernel_rfl, ?h50⟩) (by assumption) ?r50
            case h50 => (intro w hSw; (try dsimp only at hSw); go_simp; try with_reducible rfl)
            try simp only [Act.put, List.setIfInBounds_toArray, List.set_cons_zero, List.set_cons_succ]
            refine reg_take (i := 12) (v := ?v51) rfl (by kernel_rfl) (by kernel_rfl) (by kernel_rfl) (fun _ _ _ h => h) (Or.inl ⟨by kernel_rfl, ?h51⟩) (by assumption) ?r51
            case h51 => (intro w hSw; (try dsimp only at hSw); go_simp; try with_reducible rfl)
            try simp only [Act.put, List.setIfInBounds_toArray, List.set_cons_zero, List.set_cons_succ]
            refine reg_take (i := 13) (v := ?v52) rfl (by kernel_rfl) (by kernel_rfl) (by kernel_rfl) (fun _ _ _ h => h) (Or.inl ⟨by kernel_rfl, ?h52⟩) (by assumption) ?r52
            case h52 => (intro w hSw; (try dsimp only at hSw); go_simp; try with_reducible rfl)
            try simp only [Act.put, List.setIfInBounds_toArray, List.set_cons_zero, List.set_cons_succ]
            refine reg_call (i := 14) (by kernel_rfl) rfl (fun K hK => ?_)
            go_simp
            have q_ := f2; clear q_; refine (impl_ExprValid 10 11 0 ⟨#[]⟩ [.mk op n name kids] (.slice (some ⟨wr.heap.size + 1 + 1, 0, none⟩) 1 1) v2 w.heap.size (wr.heap.size + 1 + 1 + 1) (Nat.le_trans hBz f2.size) h11 h00 hem (hz5.below f2 hBz) (HT.out _ g2)).mono ?_; rw [HZ.out]; rintro e v3 ⟨rfl, x_3⟩; have g3 : Below w.heap.size w v3 := g2.trans (x_3.mono g2.size); have f3 := f2.trans (x_3.mono f2.size); have RX3_ := RX2_.below x_3 RX2_.lt; have RY3_ := RY2_.below x_3 RY2_.lt; have RZ3_ := RZ2_.below x_3 RZ2_.lt; have RE3_ := RE2_.below x_3 RE2_.lt; have s3X0 : v3.cell? ⟨wr.heap.size, 0, none⟩ = some (.int .i64 op) := RX3_.cell 0; have s3X1 : v3.cell? ⟨wr.heap.size, 1, none⟩ = some (.int .i64 (-1)) := RX3_.cell 1; have s3X2 : v3.cell? ⟨wr.heap.size, 2, none⟩ = some (.string name) := RX3_.cell 2; have s3X3 : v3.cell? ⟨wr.heap.size, 3, none⟩ = some (.slice A3 kids.length c3) := RX3_.cell 3; have s3Y0 : v3.cell? ⟨wr.heap.size + 1, 0, none⟩ = some (.int .i64 op) := RY3_.cell 0; have s3Y1 : v3.cell? ⟨wr.heap.size + 1, 1, none⟩ = some (.int .i64 n) := RY3_.cell 1; have s3Y2 : v3.cell? ⟨wr.heap.size + 1, 2, none⟩ = some (.string ⟨#[100, 111]⟩) := RY3_.cell 2; have s3Y3 : v3.cell? ⟨wr.heap.size + 1, 3, none⟩ = some (.slice A3 kids.length c3) := RY3_.cell 3; have s3Z0 : v3.cell? ⟨wr.heap.size + 1 + 1 + 1, 0, none⟩ = some (.int .i64 11) := RZ3_.cell 0; have s3Z1 : v3.cell? ⟨wr.heap.size + 1 + 1 + 1, 1, none⟩ = some (.int .i64 0) := RZ3_.cell 1; have s3Z2 : v3.cell? ⟨wr.heap.size + 1 + 1 + 1, 2, none⟩ = some (.string ⟨#[]⟩) := RZ3_.cell 2; have s3Z3 : v3.cell? ⟨wr.heap.size + 1 + 1 + 1, 3, none⟩ = some (.slice (some ⟨wr.heap.size + 1 + 1, 0, none⟩) 1 1) := RZ3_.cell 3; have s3E0 : v3.cell? ⟨w1.heap.size, 0, none⟩ = some (.int .i64 op) := RE3_.cell 0; have s3E1 : v3.cell? ⟨w1.heap.size, 1, none⟩ = some (.int .i64 n) := RE3_.cell 1; have s3E2 : v3.cell? ⟨w1.heap.size, 2, none⟩ = some (.string name) := RE3_.cell 2; have s3E3 : v3.cell? ⟨w1.heap.size, 3, none⟩ = some (.slice A3 kids.length c3) := RE3_.cell 3
            refine hK.out _ _ ?_ (fun hHeld => ?_)
            · ((try dsimp only); refine ⟨?_, ?_, ?_, ?_, ?_, ?_, ?_, ?_, ?_, ?_, ?_, ?_, ?_, ?_, ?_, ?_⟩ <;> assumption)
            clear hK K
            try simp only [Act.put, List.setIfInBounds_toArray, List.set_cons_zero, List.set_cons_succ]
            refine reg_take (i := 15) (v := ?v54) rfl (by kernel_rfl) (by kernel_rfl) (by kernel_rfl) (fun _ _ _ h => h) (Or.inl ⟨by kernel_rfl, ?h54⟩) (by assumption) ?r54
            case h54 => (intro w hSw; (try dsimp only at hSw); go_simp; try with_reducible rfl)
            try simp only [Act.put, List.setIfInBounds_toArray, List.set_cons_zero, List.set_cons_succ]
            refine reg_take (i := 16) (v := ?v55) rfl (by kernel_rfl) (by kernel_rfl) (by kernel_rfl) (fun _ _ _ h => h) (Or.inl ⟨by kernel_rfl, ?h55⟩) (by assumption) ?r55
            case h55 => (intro w hSw; (try dsimp only at hSw); go_simp; try with_reducible rfl)
            try simp only [Act.put, List.setIfInBounds_toArray, List.set_cons_zero, List.set_cons_succ]
            refine reg_take (i := 17) (v := ?v56) rfl (by kernel_rfl) (by kernel_rfl) (by kernel_rfl) (fun _ _ _ h => h) (Or.inl ⟨by kernel_rfl, ?h56⟩) (by assumption) ?r56
            case h56 => (intro w hSw; (try dsimp only at hSw); go_simp; try with_reducible rfl)
            try simp only [Act.put, List.setIfInBounds_toArray, List.set_cons_zero, List.set_cons_succ]
            refine reg_take (i := 18) (v := ?v57) rfl (by kernel_rfl) (by kernel_rfl) (by kernel_rfl) (fun _ _ _ h => h) (Or.inl ⟨by kernel_rfl, ?h57⟩) (by assumption) ?r57
            case h57 => (intro w hSw; (try dsimp only at hSw); go_simp; try with_reducible rfl)
            try simp only [Act.put, List.setIfInBounds_toArray, List.set_cons_zero, List.set_cons_succ]
            refine reg_take (i := 19) (v := ?v58) rfl (by kernel_rfl) (by kernel_rfl) (by kernel_rfl) (fun _ _ _ h => h) (Or.inl ⟨by kernel_rfl, ?h58⟩) (by assumption) ?r58
            case h58 => (intro w hSw; (try dsimp only at hSw); go_simp; try with_reducible rfl)
            try simp only [Act.put, List.setIfInBounds_toArray, List.set_cons_zero, List.set_cons_succ]
            refine reg_take (i := 20) (v := ?v59) rfl (by kernel_rfl) (by kernel_rfl) (by kernel_rfl) (fun _ _ _ h => h) (Or.inl ⟨by kernel_rfl, ?h59⟩) (by assumption) ?r59
            case h59 => (intro w hSw; (try dsimp only at hSw); go_simp; try with_reducible rfl)
            try simp only [Act.put, List.setIfInBounds_toArray, List.set_cons_zero, List.set_cons_succ]
            refine reg_take (i := 21) (v := ?v60) rfl (by kernel_rfl) (by kernel_rfl) (by kernel_rfl) (fun _ _ _ h => h) (Or.inl ⟨by kernel_rfl, ?h60⟩) (by assumption) ?r60
            case h60 => (intro w hSw; (try dsimp only at hSw); go_simp; try with_reducible rfl)
            try simp only [Act.put, List.setIfInBounds_toArray, List.set_cons_zero, List.set_cons_succ]
            refine reg_take (i := 22) (v := ?v61) rfl (by kernel_rfl) (by kernel_rfl) (by kernel_rfl) (fun _ _ _ h => h) (Or.inl ⟨by kernel_rfl, ?h61⟩) (by assumption) ?r61
            case h61 => (intro w hSw; (try dsimp only at hSw); go_simp; try with_reducible rfl)
            try simp only [Act.put, List.setIfInBounds_toArray, List.set_cons_zero, List.set_cons_succ]
            refine reg_take (i := 23) (v := ?v62) rfl (by kernel_rfl) (by kernel_rfl) (by kernel_rfl) (fun _ _ _ h => h) (Or.inl ⟨by kernel_rfl, ?h62⟩) (by assumption) ?r62
            case h62 => (intro w hSw; (try dsimp only at hSw); go_simp; try with_reducible rfl)
            try simp only [Act.put, List.setIfInBounds_toArray, List.set_cons_zero, List.set_cons_succ]
            refine reg_take (i := 24) (v := ?v63) rfl (by kernel_rfl) (by kernel_rfl) (by kernel_rfl) (fun _ _ _ h => h) (Or.inl ⟨by kernel_rfl, ?h63⟩) (by assumption) ?r63
            case h63 => (intro w hSw; (try dsimp only at hSw); go_simp; try with_reducible rfl)
            try simp only [Act.put, List.setIfInBounds_toArray, List.set_cons_zero, List.set_cons_succ]
            refine reg_take (i := 26) (v := ?v64) rfl (by kernel_rfl) (by kernel_rfl) (by kernel_rfl) (fun _ _ _ h => h) (Or.inl ⟨by kernel_rfl, ?h64⟩) (by assumption) ?r64
            case h64 => (intro w hSw; (try dsimp only at hSw); go_simp; try with_reducible rfl)
            try simp only [Act.put, List.setIfInBounds_toArray, List.set_cons_zero, List.set_cons_succ]
            refine reg_call (i := 25) (by kernel_rfl) rfl (fun K hK => ?_)
            go_simp
            have q_ := f3; clear q_; refine (impl_ExprValid 10 11 0 ⟨#[]⟩ [.mk op n name kids] (.slice (some ⟨wr.heap.size + 1 + 1, 0, none⟩) 1 1) v3 w.heap.size (wr.heap.size + 1 + 1 + 1) (Nat.le_trans hBz f3.size) h11 h00 hem (hz5.below f3 hBz) (HT.out _ g3)).mono ?_; rw [HZ.out]; rintro e v4 ⟨rfl, x_4⟩; have g4 : Below w.heap.size w v4 := g3.trans (x_4.mono g3.size); have f4 := f3.trans (x_4.mono f3.size); have RX4_ := RX3_.below x_4 RX3_.lt; have RY4_ := RY3_.below x_4 RY3_.lt; have RZ4_ := RZ3_.below x_4 RZ3_.lt; have RE4_ := RE3_.below x_4 RE3_.lt; have s4X0 : v4.cell? ⟨wr.heap.size, 0, none⟩ = some (.int .i64 op) := RX4_.cell 0; have s4X1 : v4.cell? ⟨wr.heap.size, 1, none⟩ = some (.int .i64 (-1)) := RX4_.cell 1; have s4X2 : v4.cell? ⟨wr.heap.size, 2, none⟩ = some (.string name) := RX4_.cell 2; have s4X3 : v4.cell? ⟨wr.heap.size, 3, none⟩ = some (.slice A3 kids.length c3) := RX4_.cell 3; have s4Y0 : v4.cell? ⟨wr.heap.size + 1, 0, none⟩ = some (.int .i64 op) := RY4_.cell 0; have s4Y1 : v4.cell? ⟨wr.heap.size + 1, 1, none⟩ = some (.int .i64 n) := RY4_.cell 1; have s4Y2 : v4.cell? ⟨wr.heap.size + 1, 2, none⟩ = some (.string ⟨#[100, 111]⟩) := RY4_.cell 2; have s4Y3 : v4.cell? ⟨wr.heap.size + 1, 3, none⟩ = some (.slice A3 kids.length c3) := RY4_.cell 3; have s4Z0 : v4.cell? ⟨wr.heap.size + 1 + 1 + 1, 0, none⟩ = some (.int .i64 11) := RZ4_.cell 0; have s4Z1 : v4.cell? ⟨wr.heap.size + 1 + 1 + 1, 1, none⟩ = some (.int .i64 0) := RZ4_.cell 1; have s4Z2 : v4.cell? ⟨wr.heap.size + 1 + 1 + 1, 2, none⟩ = some (.string ⟨#[]⟩) := RZ4_.cell 2; have s4Z3 : v4.cell? ⟨wr.heap.size + 1 + 1 + 1, 3, none⟩ = some (.slice (some ⟨wr.heap.size + 1 + 1, 0, none⟩) 1 1) := RZ4_.cell 3; have s4E0 : v4.cell? ⟨w1.heap.size, 0, none⟩ = some (.int .i64 op) := RE4_.cell 0; have s4E1 : v4.cell? ⟨w1.heap.size, 1, none⟩ = some (.int .i64 n) := RE4_.cell 1; have s4E2 : v4.cell? ⟨w1.heap.size, 2, none⟩ = some (.string name) := RE4_.cell 2; have s4E3 : v4.cell? ⟨w1.heap.size, 3, none⟩ = some (.slice A3 kids.length c3) := RE4_.cell 3
            refine hK.out _ _ ?_ (fun hHeld => ?_)
            · ((try dsimp only); refine ⟨?_, ?_, ?_, ?_, ?_, ?_, ?_, ?_, ?_, ?_, ?_, ?_, ?_, ?_, ?_, ?_⟩ <;> assumption)
            clear hK K
            try simp only [Act.put, List.setIfInBounds_toArray, List.set_cons_zero, List.set_cons_succ]
            refine reg_call (i := 27) (by kernel_rfl) rfl (fun K hK => ?_)
            go_simp
            have q_ := f4; clear q_; refine (impl_ExprDeep 9 op n name kids (.slice A3 kids.length c3) v4 w.heap.size w1.heap.size (Nat.le_trans hB5 f4.size) ho hn64 hnm (h35.below f4 hB5) (HT.out _ g4)).mono ?_; rw [HDv.out]; rintro e v5 ⟨rfl, x_5⟩; have g5 : Below w.heap.size w v5 := g4.trans (x_5.mono g4.size); have f5 := f4.trans (x_5.mono f4.size); have RX5_ := RX4_.below x_5 RX4_.lt; have RY5_ := RY4_.below x_5 RY4_.lt; have RZ5_ := RZ4_.below x_5 RZ4_.lt; have RE5_ := RE4_.below x_5 RE4_.lt; have s5X0 : v5.cell? ⟨wr.heap.size, 0, none⟩ = some (.int .i64 op) := RX5_.cell 0; have s5X1 : v5.cell? ⟨wr.heap.size, 1, none⟩ = some (.int .i64 (-1)) := RX5_.cell 1; have s5X2 : v5.cell? ⟨wr.heap.size, 2, none⟩ = some (.string name) := RX5_.cell 2; have s5X3 : v5.cell? ⟨wr.heap.size, 3, none⟩ = some (.slice A3 kids.length c3) := RX5_.cell 3; have s5Y0 : v5.cell? ⟨wr.heap.size + 1, 0, none⟩ = some (.int .i64 op) := RY5_.cell 0; have s5Y1 : v5.cell? ⟨wr.heap.size + 1, 1, none⟩ = some (.int .i64 n) := RY5_.cell 1; have s5Y2 : v5.cell? ⟨wr.heap.size + 1, 2, none⟩ = some (.string ⟨#[100, 111]⟩) := RY5_.cell 2; have s5Y3 : v5.cell? ⟨wr.heap.size + 1, 3, none⟩ = some (.slice A3 kids.length c3) := RY5_.cell 3; have s5Z0 : v5.cell? ⟨wr.heap.size + 1 + 1 + 1, 0, none⟩ = some (.int .i64 11) := RZ5_.cell 0; have s5Z1 : v5.cell? ⟨wr.heap.size + 1 + 1 + 1, 1, none⟩ = some (.int .i64 0) := RZ5_.cell 1; have s5Z2 : v5.cell? ⟨wr.heap.size + 1 + 1 + 1, 2, none⟩ = some (.string ⟨#[]⟩) := RZ5_.cell 2; have s5Z3 : v5.cell? ⟨wr.heap.size + 1 + 1 + 1, 3, none⟩ = some (.slice (some ⟨wr.heap.size + 1 + 1, 0, none⟩) 1 1) := RZ5_.cell 3; have s5E0 : v5.cell? ⟨w1.heap.size, 0, none⟩ = some (.int .i64 op) := RE5_.cell 0; have s5E1 : v5.cell? ⟨w1.heap.size, 1, none⟩ = some (.int .i64 n) := RE5_.cell 1; have s5E2 : v5.cell? ⟨w1.heap.size, 2, none⟩ = some (.string name) := RE5_.cell 2; have s5E3 : v5.cell? ⟨w1.heap.size, 3, none⟩ = some (.slice A3 kids.length c3) := RE5_.cell 3
            refine hK.out _ _ ?_ (fun hHeld => ?_)
            · ((try dsimp only); refine ⟨?_, ?_, ?_, ?_, ?_, ?_, ?_, ?_, ?_, ?_, ?_, ?_, ?_, ?_, ?_, ?_⟩ <;> assumption)
            clear hK K
            try simp only [Act.put, List.setIfInBounds_toArray, List.set_cons_zero, List.set_cons_succ]
            refine reg_take (i := 28) (v := ?v67) rfl (by kernel_rfl) (by kernel_rfl) (by kernel_rfl) (fun _ _ _ h => h) (Or.inl ⟨by kernel_rfl, ?h67⟩) (by assumption) ?r67
            case h67 => (intro w hSw; (try dsimp only at hSw); go_simp; try with_reducible rfl)
            try simp only [Act.put, List.setIfInBounds_toArray, List.set_cons_zero, List.set_cons_succ]
            refine reg_take (i := 29) (v := ?v68) rfl (by kernel_rfl) (by kernel_rfl) (by kernel_rfl) (fun _ _ _ h => h) (Or.inl ⟨by kernel_rfl, ?h68⟩) (by assumption) ?r68
            case h68 => (intro w hSw; (try dsimp only at hSw); go_simp; try with_reducible rfl)
            try simp only [Act.put, List.setIfInBounds_toArray, List.set_cons_zero, List.set_cons_succ]
            refine reg_take (i := 30) (v := ?v69) rfl (by kernel_rfl) (by kernel_rfl) (by kernel_rfl) (fun _ _ _ h => h) (Or.inl ⟨by kernel_rfl, ?h69⟩) (by assumption) ?r69
            case h69 => (intro w hSw; (try dsimp only at hSw); go_simp; try with_reducible rfl)
            try simp only [Act.put, List.setIfInBounds_toArray, List.set_cons_zero, List.set_cons_succ]
            refine reg_call (i := 31) (by kernel_rfl) rfl (fun K hK => ?_)
            go_simp
            have q_ := f5; clear q_; refine (impl_ExprParts 9 op n name kids (.slice A3 kids.length c3) v5 w.heap.size w1.heap.size (Nat.le_trans hB5 f5.size) ho hn64 hnm (h35.below f5 hB5) (HT.out _ g5)).mono ?_; rw [HCv.out]; rintro e v6 ⟨rfl, x_6⟩; have g6 : Below w.heap.size w v6 := g5.trans (x_6.mono g5.size); have f6 := f5.trans (x_6.mono f5.size); have RX6_ := RX5_.below x_6 RX5_.lt; have RY6_ := RY5_.below x_6 RY5_.lt; have RZ6_ := RZ5_.below x_6 RZ5_.lt; have RE6_ := RE5_.below x_6 RE5_.lt; have s6X0 : v6.cell? ⟨wr.heap.size, 0, none⟩ = some (.int .i64 op) := RX6_.cell 0; have s6X1 : v6.cell? ⟨wr.heap.size, 1, none⟩ = some (.int .i64 (-1)) := RX6_.cell 1; have s6X2 : v6.cell? ⟨wr.heap.size, 2, none⟩ = some (.string name) := RX6_.cell 2; have s6X3 : v6.cell? ⟨wr.heap.size, 3, none⟩ = some (.slice A3 kids.length c3) := RX6_.cell 3; have s6Y0 : v6.cell? ⟨wr.heap.size + 1, 0, none⟩ = some (.int .i64 op) := RY6_.cell 0; have s6Y1 : v6.cell? ⟨wr.heap.size + 1, 1, none⟩ = some (.int .i64 n) := RY6_.cell 1; have s6Y2 : v6.cell? ⟨wr.heap.size + 1, 2, none⟩ = some (.string ⟨#[100, 111]⟩) := RY6_.cell 2; have s6Y3 : v6.cell? ⟨wr.heap.size + 1, 3, none⟩ = some (.slice A3 kids.length c3) := RY6_.cell 3; have s6Z0 : v6.cell? ⟨wr.heap.size + 1 + 1 + 1, 0, none⟩ = some (.int .i64 11) := RZ6_.cell 0; have s6Z1 : v6.cell? ⟨wr.heap.size + 1 + 1 + 1, 1, none⟩ = some (.int .i64 0) := RZ6_.cell 1; have s6Z2 : v6.cell? ⟨wr.heap.size + 1 + 1 + 1, 2, none⟩ = some (.string ⟨#[]⟩) := RZ6_.cell 2; have s6Z3 : v6.cell? ⟨wr.heap.size + 1 + 1 + 1, 3, none⟩ = some (.slice (some ⟨wr.heap.size + 1 + 1, 0, none⟩) 1 1) := RZ6_.cell 3; have s6E0 : v6.cell? ⟨w1.heap.size, 0, none⟩ = some (.int .i64 op) := RE6_.cell 0; have s6E1 : v6.cell? ⟨w1.heap.size, 1, none⟩ = some (.int .i64 n) := RE6_.cell 1; have s6E2 : v6.cell? ⟨w1.heap.size, 2, none⟩ = some (.string name) := RE6_.cell 2; have s6E3 : v6.cell? ⟨w1.heap.size, 3, none⟩ = some (.slice A3 kids.length c3) := RE6_.cell 3
            refine hK.out _ _ ?_ (fun hHeld => ?_)
            · ((try dsimp only); refine ⟨?_, ?_, ?_, ?_, ?_, ?_, ?_, ?_, ?_, ?_, ?_, ?_, ?_, ?_, ?_, ?_⟩ <;> assumption)
            clear hK K
            try simp only [Act.put, List.setIfInBounds_toArray, List.set_cons_zero, List.set_cons_succ]
            refine reg_take (i := 32) (v := ?v71) rfl (by kernel_rfl) (by kernel_rfl) (by kernel_rfl) (fun _ _ _ h => h) (Or.inl ⟨by kernel_rfl, ?h71⟩) (by assumption) ?r71
            case h71 => (intro w hSw; (try dsimp only at hSw); go_simp; try with_reducible rfl)
            try simp only [Act.put, List.setIfInBounds_toArray, List.set_cons_zero, List.set_cons_succ]
            refine reg_take (i := 33) (v := ?v72) rfl (by kernel_rfl) (by kernel_rfl) (by kernel_rfl) (fun _ _ _ h => h) (Or.inl ⟨by kernel_rfl, ?h72⟩) (by assumption) ?r72
            case h72 => (intro w hSw; (try dsimp only at hSw); go_simp; try with_reducible rfl)
            try simp only [Act.put, List.setIfInBounds_toArray, List.set_cons_zero, List.set_cons_succ]
            refine reg_take (i := 34) (v := ?v73) rfl (by kernel_rfl) (by kernel_rfl) (by kernel_rfl) (fun _ _ _ h => h) (Or.inl ⟨by kernel_rfl, ?h73⟩) (by assumption) ?r73
            case h73 => (intro w hSw; (try dsimp only at hSw); go_simp; try with_reducible rfl)
            try simp only [Act.put, List.setIfInBounds_toArray, List.set_cons_zero, List.set_cons_succ]
            refine reg_take (i := 35) (v := ?v74) rfl (by kernel_rfl) (by kernel_rfl) (by kernel_rfl) (fun _ _ _ h => h) (Or.inl ⟨by kernel_rfl, ?h74⟩) (by assumption) ?r74
            case h74 => (intro w hSw; (try dsimp only at hSw); go_simp; try with_reducible rfl)
            try simp only [Act.put, List.setIfInBounds_toArray, List.set_cons_zero, List.set_cons_succ]
            refine reg_take (i := 36) (v := ?v75) rfl (by kernel_rfl) (by kernel_rfl) (by kernel_rfl) (fun _ _ _ h => h) (Or.inl ⟨by kernel_rfl, ?h75⟩) (by assumption) ?r75
            case h75 => (intro w hSw; (try dsimp only at hSw); go_simp; try with_reducible rfl)
            try simp only [Act.put, List.setIfInBounds_toArray, List.set_cons_zero, List.set_cons_succ]
            refine reg_take (i := 37) (v := ?v76) rfl (by kernel_rfl) (by kernel_rfl) (by kernel_rfl) (fun _ _ _ h => h) (Or.inl ⟨by kernel_rfl, ?h76⟩) (by assumption) ?r76
            case h76 => (intro w hSw; (try dsimp only at hSw); go_simp; try with_reducible rfl)
            try simp only [Act.put, List.setIfInBounds_toArray, List.set_cons_zero, List.set_cons_succ]
            refine wpAnyH_done (by kernel_rfl) ?_ _
            go_wp2_with fail
            go_ret
            exact ⟨rfl, g6⟩
          · have tp : decide ((pq : Int) < 30) = false := by simp; omega
            have HZ : Hid (valE (.mk 11 0 ⟨#[]⟩ [.mk op n name kids]) = false) := by show _ = _; rw [hny, decide_eq_false hp, Bool.and_false]
            clear hny
            go_wp2_with fail
            refine wp_region_held_drew (S := fun w' => (w'.cell? ⟨wr.heap.size, 0, none⟩ = some (.int .i64 op) ∧ w'.cell? ⟨wr.heap.size, 1, none⟩ = some (.int .i64 (-1)) ∧ w'.cell? ⟨wr.heap.size, 2, none⟩ = some (.string name) ∧ w'.cell? ⟨wr.heap.size, 3, none⟩ = some (.slice A3 kids.length c3) ∧ w'.cell? ⟨wr.heap.size + 1, 0, none⟩ = some (.int .i64 op) ∧ w'.cell? ⟨wr.heap.size + 1, 1, none⟩ = some (.int .i64 n) ∧ w'.cell? ⟨wr.heap.size + 1, 2, none⟩ = some (.string ⟨#[100, 111]⟩) ∧ w'.cell? ⟨wr.heap.size + 1, 3, none⟩ = some (.slice A3 kids.length c3) ∧ w'.cell? ⟨wr.heap.size + 1 + 1 + 1, 0, none⟩ = some (.int .i64 11) ∧ w'.cell? ⟨wr.heap.size + 1 + 1 + 1, 1, none⟩ = some (.int .i64 0) ∧ w'.cell? ⟨wr.heap.size + 1 + 1 + 1, 2, none⟩ = some (.string ⟨#[]⟩) ∧ w'.cell? ⟨wr.heap.size + 1 + 1 + 1, 3, none⟩ = some (.slice (some ⟨wr.heap.size + 1 + 1, 0, none⟩) 1 1) ∧ w'.cell? ⟨w1.heap.size, 0, none⟩ = some (.int .i64 op) ∧ w'.cell? ⟨w1.heap.size, 1, none⟩ = some (.int .i64 n) ∧ w'.cell? ⟨w1.heap.size, 2, none⟩ = some (.string name) ∧ w'.cell? ⟨w1.heap.size, 3, none⟩ = some (.slice A3 kids.length c3))) (by kernel_rfl) ?_ (fun hHeld => ?_)
            · ((try dsimp only); refine ⟨?_, ?_, ?_, ?_, ?_, ?_, ?_, ?_, ?_, ?_, ?_, ?_, ?_, ?_, ?_, ?_⟩ <;> assumption)
            refine reg_take (i := 0) (v := ?v77) rfl (by kernel_rfl) (by kernel_rfl) (by kernel_rfl) (fun _ _ _ h => h) (Or.inl ⟨by kernel_rfl, ?h77⟩) (by assumption) ?r77
            case h77 => (intro w hSw; (try dsimp only at hSw); go_simp; try with_reducible rfl)
            try simp only [Act.put, List.setIfInBounds_toArray, List.set_cons_zero, List.set_cons_succ]
            refine reg_take (i := 1) (v := ?v78) rfl (by kernel_rfl) (by kernel_rfl) (by kernel_rfl) (fun _ _ _ h => h) (Or.inl ⟨by kernel_rfl, ?h78⟩) (by assumption) ?r78
            case h78 => (intro w hSw; (try dsimp only at hSw); go_simp; try with_reducible rfl)
            try simp only [Act.put, List.setIfInBounds_toArray, List.set_cons_zero, List.set_cons_succ]
            refine reg_take (i := 2) (v := ?v79) rfl (by kernel_rfl) (by kernel_rfl) (by kernel_rfl) (fun _ _ _ h => h) (Or.inl ⟨by kernel_rfl, ?h79⟩) (by assumption) ?r79
            case h79 => (intro w hSw; (try dsimp only at hSw); go_simp; try with_reducible rfl)
            try simp only [Act.put, List.setIfInBounds_toArray, List.set_cons_zero, List.set_cons_succ]
            refine reg_take (i := 3) (v := ?v80) rfl (by kernel_rfl) (by kernel_rfl) (by kernel_rfl) (fun _ _ _ h => h) (Or.inl ⟨by kernel_rfl, ?h80⟩) (by assumption) ?r80
            case h80 => (intro w hSw; (try dsimp only at hSw); go_simp; try with_reducible rfl)
            try simp only [Act.put, List.setIfInBounds_toArray, List.set_cons_zero, List.set_cons_succ]
            refine reg_call (i := 4) (by kernel_rfl) rfl (fun K hK => ?_)
            go_simp
            have q_ := f0; clear q_; refine (impl_ExprValid 9 op (-1) name kids (.slice A3 kids.length c3) w5.drew w.heap.size w1.heap.size (Nat.le_trans hB5 f0.size) ho hn1 hnm (h35.below f0 hB5) (HT.out _ g0)).mono ?_; rw [val_neg]; rintro e v1 ⟨rfl, x_1⟩; have g1 : Below w.heap.size w v1 := g0.trans (x_1.mono g0.size); have f1 := f0.trans (x_1.mono f0.size); have RX1_ := RXd_.below x_1 RXd_.lt; have RY1_ := RYd_.below x_1 RYd_.lt; have RZ1_ := RZd_.below x_1 RZd_.lt; have RE1_ := REd_.below x_1 REd_.lt; have s1X0 : v1.cell? ⟨wr.heap.size, 0, none⟩ = some (.int .i64 op) := RX1_.cell 0; have s1X1 : v1.cell? ⟨wr.heap.size, 1, none⟩ = some (.int .i64 (-1)) := RX1_.cell 1; have s1X2 : v1.cell? ⟨wr.heap.size, 2, none⟩ = some (.string name) := RX1_.cell 2; have s1X3 : v1.cell? ⟨wr.heap.size, 3, none⟩ = some (.slice A3 kids.length c3) := RX1_.cell 3; have s1Y0 : v1.cell? ⟨wr.heap.size + 1, 0, none⟩ = some (.int .i64 op) := RY1_.cell 0; have s1Y1 : v1.cell? ⟨wr.heap.size + 1, 1, none⟩ = some (.int .i64 n) := RY1_.cell 1; have s1Y2 : v1.cell? ⟨wr.heap.size + 1, 2, none⟩ = some (.string ⟨#[100, 111]⟩) := RY1_.cell 2; have s1Y3 : v1.cell? ⟨wr.heap.size + 1, 3, none⟩ = some (.slice A3 kids.length c3) := RY1_.cell 3; have s1Z0 : v1.cell? ⟨wr.heap.size + 1 + 1 + 1, 0, none⟩ = some (.int .i64 11) := RZ1_.cell 0; have s1Z1 : v1.cell? ⟨wr.heap.size + 1 + 1 + 1, 1, none⟩ = some (.int .i64 0) := RZ1_.cell 1; have s1Z2 : v1.cell? ⟨wr.heap.size + 1 + 1 + 1, 2, none⟩ = some (.string ⟨#[]⟩) := RZ1_.cell 2; have s1Z3 : v1.cell? ⟨wr.heap.size + 1 + 1 + 1, 3, none⟩ = some (.slice (some ⟨wr.heap.size + 1 + 1, 0, none⟩) 1 1) := RZ1_.cell 3; have s1E0 : v1.cell? ⟨w1.heap.size, 0, none⟩ = some (.int .i64 op) := RE1_.cell 0; have s1E1 : v1.cell? ⟨w1.heap.size, 1, none⟩ = some (.int .i64 n) := RE1_.cell 1; have s1E2 : v1.cell? ⟨w1.heap.size, 2, none⟩ = some (.string name) := RE1_.cell 2; have s1E3 : v1.cell? ⟨w1.heap.size, 3, none⟩ = some (.slice A3 kids.length c3) := RE1_.cell 3
            refine hK.out _ _ ?_ (fun hHeld => ?_)
            · ((try dsimp only); refine ⟨?_, ?_, ?_, ?_, ?_, ?_, ?_, ?_, ?_, ?_, ?_, ?_, ?_, ?_, ?_, ?_⟩ <;> assumption)
            clear hK K
            try simp only [Act.put, List.setIfInBounds_toArray, List.set_cons_zero, List.set_cons_succ]
            refine reg_take (i := 5) (v := ?v82) rfl (by kernel_rfl) (by kernel_rfl) (by kernel_rfl) (fun _ _ _ h => h) (Or.inl ⟨by kernel_rfl, ?h82⟩) (by assumption) ?r82
            case h82 => (intro w hSw; (try dsimp only at hSw); go_simp; try with_reducible rfl)
            try simp only [Act.put, List.setIfInBounds_toArray, List.set_cons_zero, List.set_cons_succ]
            refine reg_take (i := 6) (v := ?v83) rfl (by kernel_rfl) (by kernel_rfl) (by kernel_rfl) (fun _ _ _ h => h) (Or.inl ⟨by kernel_rfl, ?h83⟩) (by assumption) ?r83
            case h83 => (intro w hSw; (try dsimp only at hSw); go_simp; try with_reducible rfl)
            try simp only [Act.put, List.setIfInBounds_toArray, List.set_cons_zero, List.set_cons_succ]
            refine reg_take (i := 7) (v := ?v84) rfl (by kernel_rfl) (by kernel_rfl) (by kernel_rfl) (fun _ _ _ h => h) (Or.inl ⟨by kernel_rfl, ?h84⟩) (by assumption) ?r84
            case h84 => (intro w hSw; (try dsimp only at hSw); go_simp; try with_reducible rfl)
            try simp only [Act.put, List.setIfInBounds_toArray, List.set_cons_zero, List.set_cons_succ]
            refine reg_take (i := 8) (v := ?v85) rfl (by kernel_rfl) (by kernel_rfl) (by kernel_rfl) (fun _ _ _ h => h) (Or.inl ⟨by kernel_rfl, ?h85⟩) (by assumption) ?r85
            case h85 => (intro w hSw; (try dsimp only at hSw); go_simp; try with_reducible rfl)
            try simp only [Act.put, List.setIfInBounds_toArray, List.set_cons_zero, List.set_cons_succ]
            refine reg_call (i := 9) (by kernel_rfl) rfl (fun K hK => ?_)
            go_simp
            have q_ := f1; clear q_; refine (impl_ExprValid 9 op n ⟨#[100, 111]⟩ kids (.slice A3 kids.length c3) v1 w.heap.size w1.heap.size (Nat.le_trans hB5 f1.size) ho hn64 hdo (h35.below f1 hB5) (HT.out _ g1)).mono ?_; rw [val_do]; rintro e v2 ⟨rfl, x_2⟩; have g2 : Below w.heap.size w v2 := g1.trans (x_2.mono g1.size); have f2 := f1.trans (x_2.mono f1.size); have RX2_ := RX1_.below x_2 RX1_.lt; have RY2_ := RY1_.below x_2 RY1_.lt; have RZ2_ := RZ1_.below x_2 RZ1_.lt; have RE2_ := RE1_.below x_2 RE1_.lt; have s2X0 : v2.cell? ⟨wr.heap.size, 0, none⟩ = some (.int .i64 op) := RX2_.cell 0; have s2X1 : v2.cell? ⟨wr.heap.size, 1, none⟩ = some (.int .i64 (-1)) := RX2_.cell 1; have s2X2 : v2.cell? ⟨wr.heap.size, 2, none⟩ = some (.string name) := RX2_.cell 2; have s2X3 : v2.cell? ⟨wr.heap.size, 3, none⟩ = some (.slice A3 kids.length c3) := RX2_.cell 3; have s2Y0 : v2.cell? ⟨wr.heap.size + 1, 0, none⟩ = some (.int .i64 op) := RY2_.cell 0; have s2Y1 : v2.cell? ⟨wr.heap.size + 1, 1, none⟩ = some (.int .i64 n) := RY2_.cell 1; have s2Y2 : v2.cell? ⟨wr.heap.size + 1, 2, none⟩ = some (.string ⟨#[100, 111]⟩) := RY2_.cell 2; have s2Y3 : v2.cell? ⟨wr.heap.size + 1, 3, none⟩ = some (.slice A3 kids.length c3) := RY2_.cell 3; have s2Z0 : v2.cell? ⟨wr.heap.size + 1 + 1 + 1, 0, none⟩ = some (.int .i64 11) := RZ2_.cell 0; have s2Z1 : v2.cell? ⟨wr.heap.size + 1 + 1 + 1, 1, none⟩ = some (.int .i64 0) := RZ2_.cell 1; have s2Z2 : v2.cell? ⟨wr.heap.size + 1 + 1 + 1, 2, none⟩ = some (.string ⟨#[]⟩) := RZ2_.cell 2; have s2Z3 : v2.cell? ⟨wr.heap.size + 1 + 1 + 1, 3, none⟩ = some (.slice (some ⟨wr.heap.size + 1 + 1, 0, none⟩) 1 1) := RZ2_.cell 3; have s2E0 : v2.cell? ⟨w1.heap.size, 0, none⟩ = some (.int .i64 op) := RE2_.cell 0; have s2E1 : v2.cell? ⟨w1.heap.size, 1, none⟩ = some (.int .i64 n) := RE2_.cell 1; have s2E2 : v2.cell? ⟨w1.heap.size, 2, none⟩ = some (.string name) := RE2_.cell 2; have s2E3 : v2.cell? ⟨w1.heap.size, 3, none⟩ = some (.slice A3 kids.length c3) := RE2_.cell 3
            refine hK.out _ _ ?_ (fun hHeld => ?_)
            · ((try dsimp only); refine ⟨?_, ?_, ?_, ?_, ?_, ?_, ?_, ?_, ?_, ?_, ?_, ?_, ?_, ?_, ?_, ?_⟩ <;> assumption)
            clear hK K
            try simp only [Act.put, List.setIfInBounds_toArray, List.set_cons_zero, List.set_cons_succ]
            refine reg_take (i := 10) (v := ?v87) rfl (by kernel_rfl) (by kernel_rfl) (by kernel_rfl) (fun _ _ _ h => h) (Or.inl ⟨by kernel_rfl, ?h87⟩) (by assumption) ?r87
            case h87 => (intro w hSw; (try dsimp only at hSw); go_simp; try with_reducible rfl)
            try simp only [Act.put, List.setIfInBounds_toArray, List.set_cons_zero, List.set_cons_succ]
            refine reg_take (i := 11) (v := ?v88) rfl (by kernel_rfl) (by kernel_rfl) (by kernel_rfl) (fun _ _ _ h => h) (Or.inl ⟨by kernel_rfl, ?h88⟩) (by assumption) ?r88
            case h88 => (intro w hSw; (try dsimp only at hSw); go_simp; try with_reducible rfl)
            try simp only [Act.put, List.setIfInBounds_toArray, List.set_cons_zero, List.set_cons_succ]
            refine reg_take (i := 12) (v := ?v89) rfl (by kernel_rfl) (by kernel_rfl) (by kernel_rfl) (fun _ _ _ h => h) (Or.inl ⟨by kernel_rfl, ?h89⟩) (by assumption) ?r89
            case h89 => (intro w hSw; (try dsimp only at hSw); go_simp; try with_reducible rfl)
            try simp only [Act.put, List.setIfInBounds_toArray, List.set_cons_zero, List.set_cons_succ]
            refine reg_take (i := 13) (v := ?v90) rfl (by kernel_rfl) (by kernel_rfl) (by kernel_rfl) (fun _ _ _ h => h) (Or.inl ⟨by kernel_rfl, ?h90⟩) (by assumption) ?r90
            case h90 => (intro w hSw; (try dsimp only at hSw); go_simp; try with_reducible rfl)
            try simp only [Act.put, List.setIfInBounds_toArray, List.set_cons_zero, List.set_cons_succ]
            refine reg_call (i := 14) (by kernel_rfl) rfl (fun K hK => ?_)
            go_simp
            have q_ := f2; clear q_; refine (impl_ExprValid 10 11 0 ⟨#[]⟩ [.mk op n name kids] (.slice (some ⟨wr.heap.size + 1 + 1, 0, none⟩) 1 1) v2 w.heap.size (wr.heap.size + 1 + 1 + 1) (Nat.le_trans hBz f2.size) h11 h00 hem (hz5.below f2 hBz) (HT.out _ g2)).mono ?_; rw [HZ.out]; rintro e v3 ⟨rfl, x_3⟩; have g3 : Below w.heap.size w v3 := g2.trans (x_3.mono g2.size); have f3 := f2.trans (x_3.mono f2.size); have RX3_ := RX2_.below x_3 RX2_.lt; have RY3_ := RY2_.below x_3 RY2_.lt; have RZ3_ := RZ2_.below x_3 RZ2_.lt; have RE3_ := RE2_.below x_3 RE2_.lt; have s3X0 : v3.cell? ⟨wr.heap.size, 0, none⟩ = some (.int .i64 op) := RX3_.cell 0; have s3X1 : v3.cell? ⟨wr.heap.size, 1, none⟩ = some (.int .i64 (-1)) := RX3_.cell 1; have s3X2 : v3.cell? ⟨wr.heap.size, 2, none⟩ = some (.string name) := RX3_.cell 2; have s3X3 : v3.cell? ⟨wr.heap.size, 3, none⟩ = some (.slice A3 kids.length c3) := RX3_.cell 3; have s3Y0 : v3.cell? ⟨wr.heap.size + 1, 0, none⟩ = some (.int .i64 op) := RY3_.cell 0; have s3Y1 : v3.cell? ⟨wr.heap.size + 1, 1, none⟩ = some (.int .i64 n) := RY3_.cell 1; have s3Y2 : v3.cell? ⟨wr.heap.size + 1, 2, none⟩ = some (.string ⟨#[100, 111]⟩) := RY3_.cell 2; have s3Y3 : v3.cell? ⟨wr.heap.size + 1, 3, none⟩ = some (.slice A3 kids.length c3) := RY3_.cell 3; have s3Z0 : v3.cell? ⟨wr.heap.size + 1 + 1 + 1, 0, none⟩ = some (.int .i64 11) := RZ3_.cell 0; have s3Z1 : v3.cell? ⟨wr.heap.size + 1 + 1 + 1, 1, none⟩ = some (.int .i64 0) := RZ3_.cell 1; have s3Z2 : v3.cell? ⟨wr.heap.size + 1 + 1 + 1, 2, none⟩ = some (.string ⟨#[]⟩) := RZ3_.cell 2; have s3Z3 : v3.cell? ⟨wr.heap.size + 1 + 1 + 1, 3, none⟩ = some (.slice (some ⟨wr.heap.size + 1 + 1, 0, none⟩) 1 1) := RZ3_.cell 3; have s3E0 : v3.cell? ⟨w1.heap.size, 0, none⟩ = some (.int .i64 op) := RE3_.cell 0; have s3E1 : v3.cell? ⟨w1.heap.size, 1, none⟩ = some (.int .i64 n) := RE3_.cell 1; have s3E2 : v3.cell? ⟨w1.heap.size, 2, none⟩ = some (.string name) := RE3_.cell 2; have s3E3 : v3.cell? ⟨w1.heap.size, 3, none⟩ = some (.slice A3 kids.length c3) := RE3_.cell 3
            refine hK.out _ _ ?_ (fun hHeld => ?_)
            · ((try dsimp only); refine ⟨?_, ?_, ?_, ?_, ?_, ?_, ?_, ?_, ?_, ?_, ?_, ?_, ?_, ?_, ?_, ?_⟩ <;> assumption)
            clear hK K
            try simp only [Act.put, List.setIfInBounds_toArray, List.set_cons_zero, List.set_cons_succ]
            refine reg_take (i := 15) (v := ?v92) rfl (by kernel_rfl) (by kernel_rfl) (by kernel_rfl) (fun _ _ _ h => h) (Or.inl ⟨by kernel_rfl, ?h92⟩) (by assumption) ?r92
            case h92 => (intro w hSw; (try dsimp only at hSw); go_simp; try with_reducible rfl)
            try simp only [Act.put, List.setIfInBounds_toArray, List.set_cons_zero, List.set_cons_succ]
            refine reg_take (i := 16) (v := ?v93) rfl (by kernel_rfl) (by kernel_rfl) (by kernel_rfl) (fun _ _ _ h => h) (Or.inl ⟨by kernel_rfl, ?h93⟩) (by assumption) ?r93
            case h93 => (intro w hSw; (try dsimp only at hSw); go_simp; try with_reducible rfl)
            try simp only [Act.put, List.setIfInBounds_toArray, List.set_cons_zero, List.set_cons_succ]
            refine reg_take (i := 17) (v := undef) rfl (by kernel_rfl) (by kernel_rfl) (by kernel_rfl) (fun _ _ _ h => h) (Or.inr ⟨by kernel_rfl, rfl⟩) (by assumption) ?_
            try simp only [Act.put, List.setIfInBounds_toArray, List.set_cons_zero, List.set_cons_succ]
            refine reg_take (i := 18) (v := ?v95) rfl (by kernel_rfl) (by kernel_rfl) (by kernel_rfl) (fun _ _ _ h => h) (Or.inl ⟨by kernel_rfl, ?h95⟩) (by assumption) ?r95
            case h95 => (intro w hSw; (try dsimp only at hSw); go_simp; try with_reducible rfl)
            try simp only [Act.put, List.setIfInBounds_toArray, List.set_cons_zero, List.set_cons_succ]
            refine reg_take (i := 19) (v := ?v96) rfl (by kernel_rfl) (by kernel_rfl) (by kernel_rfl) (fun _ _ _ h => h) (Or.inl ⟨by kernel_rfl, ?h96⟩) (by assumption) ?r96
            case h96 => (intro w hSw; (try dsimp only at hSw); go_simp; try with_reducible rfl)
            try simp only [Act.put, List.setIfInBounds_toArray, List.set_cons_zero, List.set_cons_succ]
            refine reg_take (i := 20) (v := ?v97) rfl (by kernel_rfl) (by kernel_rfl) (by kernel_rfl) (fun _ _ _ h => h) (Or.inl ⟨by kernel_rfl, ?h97⟩) (by assumption) ?r97
            case h97 => (intro w hSw; (try dsimp only at hSw); go_simp; try with_reducible rfl)
            try simp only [Act.put, List.setIfInBounds_toArray, List.set_cons_zero, List.set_cons_succ]
            refine reg_take (i := 21) (v := ?v98) rfl (by kernel_rfl) (by kernel_rfl) (by kernel_rfl) (fun _ _ _ h => h) (Or.inl ⟨by kernel_rfl, ?h98⟩) (by assumption) ?r98
            case h98 => (intro w hSw; (try dsimp only at hSw); go_simp; try with_reducible rfl)
            try simp only [Act.put, List.setIfInBounds_toArray, List.set_cons_zero, List.set_cons_succ]
            refine reg_take (i := 22) (v := ?v99) rfl (by kernel_rfl) (by kernel_rfl) (by kernel_rfl) (fun _ _ _ h => h) (Or.inl ⟨by kernel_rfl, ?h99⟩) (by assumption) ?r99
            case h99 => (intro w hSw; (try dsimp only at hSw); go_simp; try with_reducible rfl)
            try simp only [Act.put, List.setIfInBounds_toArray, List.set_cons_zero, List.set_cons_succ]
            refine reg_take (i := 23) (v := ?v100) rfl (by kernel_rfl) (by kernel_rfl) (by kernel_rfl) (fun _ _ _ h => h) (Or.inl ⟨by kernel_rfl, ?h100⟩) (by assumption) ?r100
            case h100 => (intro w hSw; (try dsimp only at hSw); go_simp; try with_reducible rfl)
            try simp only [Act.put, List.setIfInBounds_toArray, List.set_cons_zero, List.set_cons_succ]
            refine reg_take (i := 24) (v := ?v101) rfl (by kernel_rfl) (by kernel_rfl) (by kernel_rfl) (fun _ _ _ h => h) (Or.inl ⟨by kernel_rfl, ?h101⟩) (by assumption) ?r101
            case h101 => (intro w hSw; (try dsimp only at hSw); go_simp; try with_reducible rfl)
            try simp only [Act.put, List.setIfInBounds_toArray, List.set_cons_zero, List.set_cons_succ]
            refine reg_take (i := 26) (v := ?v102) rfl (by kernel_rfl) (by kernel_rfl) (by kernel_rfl) (fun _ _ _ h => h) (Or.inl ⟨by kernel_rfl, ?h102⟩) (by assumption) ?r102
            case h102 => (intro w hSw; (try dsimp only at hSw); go_simp; try with_reducible rfl)
            try simp only [Act.put, List.setIfInBounds_toArray, List.set_cons_zero, List.set_cons_succ]
            refine reg_call (i := 25) (by kernel_rfl) rfl (fun K hK => ?_)
            go_simp
            have q_ := f3; clear q_; refine (impl_ExprValid 10 11 0 ⟨#[]⟩ [.mk op n name kids] (.slice (some ⟨wr.heap.size + 1 + 1, 0, none⟩) 1 1) v3 w.heap.size (wr.heap.size + 1 + 1 + 1) (Nat.le_trans hBz f3.size) h11 h00 hem (hz5.below f3 hBz) (HT.out _ g3)).mono ?_; rw [HZ.out]; rintro e v4 ⟨rfl, x_4⟩; have g4 : Below w.heap.size w v4 := g3.trans (x_4.mono g3.size); have f4 := f3.trans (x_4.mono f3.size); have RX4_ := RX3_.below x_4 RX3_.lt; have RY4_ := RY3_.below x_4 RY3_.lt; have RZ4_ := RZ3_.below x_4 RZ3_.lt; have RE4_ := RE3_.below x_4 RE3_.lt; have s4X0 : v4.cell? ⟨wr.heap.size, 0, none⟩ = some (.int .i64 op) := RX4_.cell 0; have s4X1 : v4.cell? ⟨wr.heap.size, 1, none⟩ = some (.int .i64 (-1)) := RX4_.cell 1; have s4X2 : v4.cell? ⟨wr.heap.size, 2, none⟩ = some (.string name) := RX4_.cell 2; have s4X3 : v4.cell? ⟨wr.heap.size, 3, none⟩ = some (.slice A3 kids.length c3) := RX4_.cell 3; have s4Y0 : v4.cell? ⟨wr.heap.size + 1, 0, none⟩ = some (.int .i64 op) := RY4_.cell 0; have s4Y1 : v4.cell? ⟨wr.heap.size + 1, 1, none⟩ = some (.int .i64 n) := RY4_.cell 1; have s4Y2 : v4.cell? ⟨wr.heap.size + 1, 2, none⟩ = some (.string ⟨#[100, 111]⟩) := RY4_.cell 2; have s4Y3 : v4.cell? ⟨wr.heap.size + 1, 3, none⟩ = some (.slice A3 kids.length c3) := RY4_.cell 3; have s4Z0 : v4.cell? ⟨wr.heap.size + 1 + 1 + 1, 0, none⟩ = some (.int .i64 11) := RZ4_.cell 0; have s4Z1 : v4.cell? ⟨wr.heap.size + 1 + 1 + 1, 1, none⟩ = some (.int .i64 0) := RZ4_.cell 1; have s4Z2 : v4.cell? ⟨wr.heap.size + 1 + 1 + 1, 2, none⟩ = some (.string ⟨#[]⟩) := RZ4_.cell 2; have s4Z3 : v4.cell? ⟨wr.heap.size + 1 + 1 + 1, 3, none⟩ = some (.slice (some ⟨wr.heap.size + 1 + 1, 0, none⟩) 1 1) := RZ4_.cell 3; have s4E0 : v4.cell? ⟨w1.heap.size, 0, none⟩ = some (.int .i64 op) := RE4_.cell 0; have s4E1 : v4.cell? ⟨w1.heap.size, 1, none⟩ = some (.int .i64 n) := RE4_.cell 1; have s4E2 : v4.cell? ⟨w1.heap.size, 2, none⟩ = some (.string name) := RE4_.cell 2; have s4E3 : v4.cell? ⟨w1.heap.size, 3, none⟩ = some (.slice A3 kids.length c3) := RE4_.cell 3
            refine hK.out _ _ ?_ (fun hHeld => ?_)
            · ((try dsimp only); refine ⟨?_, ?_, ?_, ?_, ?_, ?_, ?_, ?_, ?_, ?_, ?_, ?_, ?_, ?_, ?_, ?_⟩ <;> assumption)
            clear hK K
            try simp only [Act.put, List.setIfInBounds_toArray, List.set_cons_zero, List.set_cons_succ]
            refine reg_call (i := 27) (by kernel_rfl) rfl (fun K hK => ?_)
            go_simp
            have q_ := f4; clear q_; refine (impl_ExprDeep 9 op n name kids (.slice A3 kids.length c3) v4 w.heap.size w1.heap.size (Nat.le_trans hB5 f4.size) ho hn64 hnm (h35.below f4 hB5) (HT.out _ g4)).mono ?_; rw [HDv.out]; rintro e v5 ⟨rfl, x_5⟩; have g5 : Below w.heap.size w v5 := g4.trans (x_5.mono g4.size); have f5 := f4.trans (x_5.mono f4.size); have RX5_ := RX4_.below x_5 RX4_.lt; have RY5_ := RY4_.below x_5 RY4_.lt; have RZ5_ := RZ4_.below x_5 RZ4_.lt; have RE5_ := RE4_.below x_5 RE4_.lt; have s5X0 : v5.cell? ⟨wr.heap.size, 0, none⟩ = some (.int .i64 op) := RX5_.cell 0; have s5X1 : v5.cell? ⟨wr.heap.size, 1, none⟩ = some (.int .i64 (-1)) := RX5_.cell 1; have s5X2 : v5.cell? ⟨wr.heap.size, 2, none⟩ = some (.string name) := RX5_.cell 2; have s5X3 : v5.cell? ⟨wr.heap.size, 3, none⟩ = some (.slice A3 kids.length c3) := RX5_.cell 3; have s5Y0 : v5.cell? ⟨wr.heap.size + 1, 0, none⟩ = some (.int .i64 op) := RY5_.cell 0; have s5Y1 : v5.cell? ⟨wr.heap.size + 1, 1, none⟩ = some (.int .i64 n) := RY5_.cell 1; have s5Y2 : v5.cell? ⟨wr.heap.size + 1, 2, none⟩ = some (.string ⟨#[100, 111]⟩) := RY5_.cell 2; have s5Y3 : v5.cell? ⟨wr.heap.size + 1, 3, none⟩ = some (.slice A3 kids.length c3) := RY5_.cell 3; have s5Z0 : v5.cell? ⟨wr.heap.size + 1 + 1 + 1, 0, none⟩ = some (.int .i64 11) := RZ5_.cell 0; have s5Z1 : v5.cell? ⟨wr.heap.size + 1 + 1 + 1, 1, none⟩ = some (.int .i64 0) := RZ5_.cell 1; have s5Z2 : v5.cell? ⟨wr.heap.size + 1 + 1 + 1, 2, none⟩ = some (.string ⟨#[]⟩) := RZ5_.cell 2; have s5Z3 : v5.cell? ⟨wr.heap.size + 1 + 1 + 1, 3, none⟩ = some (.slice (some ⟨wr.heap.size + 1 + 1, 0, none⟩) 1 1) := RZ5_.cell 3; have s5E0 : v5.cell? ⟨w1.heap.size, 0, none⟩ = some (.int .i64 op) := RE5_.cell 0; have s5E1 : v5.cell? ⟨w1.heap.size, 1, none⟩ = some (.int .i64 n) := RE5_.cell 1; have s5E2 : v5.cell? ⟨w1.heap.size, 2, none⟩ = some (.string name) := RE5_.cell 2; have s5E3 : v5.cell? ⟨w1.heap.size, 3, none⟩ = some (.slice A3 kids.length c3) := RE5_.cell 3
            refine hK.out _ _ ?_ (fun hHeld => ?_)
            · ((try dsimp only); refine ⟨?_, ?_, ?_, ?_, ?_, ?_, ?_, ?_, ?_, ?_, ?_, ?_, ?_, ?_, ?_, ?_⟩ <;> assumption)
            clear hK K
            try simp only [Act.put, List.setIfInBounds_toArray, List.set_cons_zero, List.set_cons_succ]
            refine reg_take (i := 28) (v := ?v105) rfl (by kernel_rfl) (by kernel_rfl) (by kernel_rfl) (fun _ _ _ h => h) (Or.inl ⟨by kernel_rfl, ?h105⟩) (by assumption) ?r105
            case h105 => (intro w hSw; (try dsimp only at hSw); go_simp; try with_reducible rfl)
            try simp only [Act.put, List.setIfInBounds_toArray, List.set_cons_zero, List.set_cons_succ]
            refine reg_take (i := 29) (v := ?v106) rfl (by kernel_rfl) (by kernel_rfl) (by kernel_rfl) (fun _ _ _ h => h) (Or.inl ⟨by kernel_rfl, ?h106⟩) (by assumption) ?r106
            case h106 => (intro w hSw; (try dsimp only at hSw); go_simp; try with_reducible rfl)
            try simp only [Act.put, List.setIfInBounds_toArray, List.set_cons_zero, List.set_cons_succ]
            refine reg_take (i := 30) (v := ?v107) rfl (by kernel_rfl) (by kernel_rfl) (by kernel_rfl) (fun _ _ _ h => h) (Or.inl ⟨by kernel_rfl, ?h107⟩) (by assumption) ?r107
            case h107 => (intro w hSw; (try dsimp only at hSw); go_simp; try with_reducible rfl)
            try simp only [Act.put, List.setIfInBounds_toArray, List.set_cons_zero, List.set_cons_succ]
            refine reg_call (i := 31) (by kernel_rfl) rfl (fun K hK => ?_)
            go_simp
            have q_ := f5; clear q_; refine (impl_ExprParts 9 op n name kids (.slice A3 kids.length c3) v5 w.heap.size w1.heap.size (Nat.le_trans hB5 f5.size) ho hn64 hnm (h35.below f5 hB5) (HT.out _ g5)).mono ?_; rw [HCv.out]; rintro e v6 ⟨rfl, x_6⟩; have g6 : Below w.heap.size w v6 := g5.trans (x_6.mono g5.size); have f6 := f5.trans (x_6.mono f5.size); have RX6_ := RX5_.below x_6 RX5_.lt; have RY6_ := RY5_.below x_6 RY5_.lt; have RZ6_ := RZ5_.below x_6 RZ5_.lt; have RE6_ := RE5_.below x_6 RE5_.lt; have s6X0 : v6.cell? ⟨wr.heap.size, 0, none⟩ = some (.int .i64 op) := RX6_.cell 0; have s6X1 : v6.cell? ⟨wr.heap.size, 1, none⟩ = some (.int .i64 (-1)) := RX6_.cell 1; have s6X2 : v6.cell? ⟨wr.heap.size, 2, none⟩ = some (.string name) := RX6_.cell 2; have s6X3 : v6.cell? ⟨wr.heap.size, 3, none⟩ = some (.slice A3 kids.length c3) := RX6_.cell 3; have s6Y0 : v6.cell? ⟨wr.heap.size + 1, 0, none⟩ = some (.int .i64 op) := RY6_.cell 0; have s6Y1 : v6.cell? ⟨wr.heap.size + 1, 1, none⟩ = some (.int .i64 n) := RY6_.cell 1; have s6Y2 : v6.cell? ⟨wr.heap.size + 1, 2, none⟩ = some (.string ⟨#[100, 111]⟩) := RY6_.cell 2; have s6Y3 : v6.cell? ⟨wr.heap.size + 1, 3, none⟩ = some (.slice A3 kids.length c3) := RY6_.cell 3; have s6Z0 : v6.cell? ⟨wr.heap.size + 1 + 1 + 1, 0, none⟩ = some (.int .i64 11) := RZ6_.cell 0; have s6Z1 : v6.cell? ⟨wr.heap.size + 1 + 1 + 1, 1, none⟩ = some (.int .i64 0) := RZ6_.cell 1; have s6Z2 : v6.cell? ⟨wr.heap.size + 1 + 1 + 1, 2, none⟩ = some (.string ⟨#[]⟩) := RZ6_.cell 2; have s6Z3 : v6.cell? ⟨wr.heap.size + 1 + 1 + 1, 3, none⟩ = some (.slice (some ⟨wr.heap.size + 1 + 1, 0, none⟩) 1 1) := RZ6_.cell 3; have s6E0 : v6.cell? ⟨w1.heap.size, 0, none⟩ = some (.int .i64 op) := RE6_.cell 0; have s6E1 : v6.cell? ⟨w1.heap.size, 1, none⟩ = some (.int .i64 n) := RE6_.cell 1; have s6E2 : v6.cell? ⟨w1.heap.size, 2, none⟩ = some (.string name) := RE6_.cell 2; have s6E3 : v6.cell? ⟨w1.heap.size, 3, none⟩ = some (.slice A3 kids.length c3) := RE6_.cell 3
            refine hK.out _ _ ?_ (fun hHeld => ?_)
            · ((try dsimp only); refine ⟨?_, ?_, ?_, ?_, ?_, ?_, ?_, ?_, ?_, ?_, ?_, ?_, ?_, ?_, ?_, ?_⟩ <;> assumption)
            clear hK K
            try simp only [Act.put, List.setIfInBounds_toArray, List.set_cons_zero, List.set_cons_succ]
            refine reg_take (i := 32) (v := ?v109) rfl (by kernel_rfl) (by kernel_rfl) (by kernel_rfl) (fun _ _ _ h => h) (Or.inl ⟨by kernel_rfl, ?h109⟩) (by assumption) ?r109
            case h109 => (intro w hSw; (try dsimp only at hSw); go_simp; try with_reducible rfl)
            try simp only [Act.put, List.setIfInBounds_toArray, List.set_cons_zero, List.set_cons_succ]
            refine reg_take (i := 33) (v := ?v110) rfl (by kernel_rfl) (by kernel_rfl) (by kernel_rfl) (fun _ _ _ h => h) (Or.inl ⟨by kernel_rfl, ?h110⟩) (by assumption) ?r110
            case h110 => (intro w hSw; (try dsimp only at hSw); go_simp; try with_reducible rfl)
            try simp only [Act.put, List.setIfInBounds_toArray, List.set_cons_zero, List.set_cons_succ]
            refine reg_take (i := 34) (v := ?v111) rfl (by kernel_rfl) (by kernel_rfl) (by kernel_rfl) (fun _ _ _ h => h) (Or.inl ⟨by kernel_rfl, ?h111⟩) (by assumption) ?r111
            case h111 => (intro w hSw; (try dsimp only at hSw); go_simp; try with_reducible rfl)
            try simp only [Act.put, List.setIfInBounds_toArray, List.set_cons_zero, List.set_cons_succ]
            refine reg_take (i := 35) (v := ?v112) rfl (by kernel_rfl) (by kernel_rfl) (by kernel_rfl) (fun _ _ _ h => h) (Or.inl ⟨by kernel_rfl, ?h112⟩) (by assumption) ?r112
            case h112 => (intro w hSw; (try dsimp only at hSw); go_simp; try with_reducible rfl)
            try simp only [Act.put, List.setIfInBounds_toArray, List.set_cons_zero, List.set_cons_succ]
            refine reg_take (i := 36) (v := ?v113) rfl (by kernel_rfl) (by kernel_rfl) (by kernel_rfl) (fun _ _ _ h => h) (Or.inl ⟨by kernel_rfl, ?h113⟩) (by assumption) ?r113
            case h113 => (intro w hSw; (try dsimp only at hSw); go_simp; try with_reducible rfl)
            try simp only [Act.put, List.setIfInBounds_toArray, List.set_cons_zero, List.set_cons_succ]
            refine reg_take (i := 37) (v := ?v114) rfl (by kernel_rfl) (by kernel_rfl) (by kernel_rfl) (fun _ _ _ h => h) (Or.inl ⟨by kernel_rfl, ?h114⟩) (by assumption) ?r114
            case h114 => (intro w hSw; (try dsimp only at hSw); go_simp; try with_reducible rfl)
            try simp only [Act.put, List.setIfInBounds_toArray, List.set_cons_zero, List.set_cons_succ]
            refine wpAnyH_done (by kernel_rfl) ?_ _
            go_wp2_with fail
            go_ret
            exact ⟨rfl, g6⟩
        · have td : decide ((dq : Int) < 6) = false := by simp; omega
          have HZ : Hid (valE (.mk 11 0 ⟨#[]⟩ [.mk op n name kids]) = false) := by show _ = _; rw [hny, decide_eq_false hd]; rfl
          clear hny
          go_wp2_with fail
          refine wp_region_held_drew (S := fun w' => (w'.cell? ⟨wr.heap.size, 0, none⟩ = some (.int .i64 op) ∧ w'.cell? ⟨wr.heap.size, 1, none⟩ = some (.int .i64 (-1)) ∧ w'.cell? ⟨wr.heap.size, 2, none⟩ = some (.string name) ∧ w'.cell? ⟨wr.heap.size, 3, none⟩ = some (.slice A3 kids.length c3) ∧ w'.cell? ⟨wr.heap.size + 1, 0, none⟩ = some (.int .i64 op) ∧ w'.cell? ⟨wr.heap.size + 1, 1, none⟩ = some (.int .i64 n) ∧ w'.cell? ⟨wr.heap.size + 1, 2, none⟩ = some (.string ⟨#[100, 111]⟩) ∧ w'.cell? ⟨wr.heap.size + 1, 3, none⟩ = some (.slice A3 kids.length c3) ∧ w'.cell? ⟨wr.heap.size + 1 + 1 + 1, 0, none⟩ = some (.int .i64 11) ∧ w'.cell? ⟨wr.heap.size + 1 + 1 + 1, 1, none⟩ = some (.int .i64 0) ∧ w'.cell? ⟨wr.heap.size + 1 + 1 + 1, 2, none⟩ = some (.string ⟨#[]⟩) ∧ w'.cell? ⟨wr.heap.size + 1 + 1 + 1, 3, none⟩ = some (.slice (some ⟨wr.heap.size + 1 + 1, 0, none⟩) 1 1) ∧ w'.cell? ⟨w1.heap.size, 0, none⟩ = some (.int .i64 op) ∧ w'.cell? ⟨w1.heap.size, 1, none⟩ = some (.int .i64 n) ∧ w'.cell? ⟨w1.heap.size, 2, none⟩ = some (.string name) ∧ w'.cell? ⟨w1.heap.size, 3, none⟩ = some (.slice A3 kids.length c3))) (by kernel_rfl) ?_ (fun hHeld => ?_)
          · ((try dsimp only); refine ⟨?_, ?_, ?_, ?_, ?_, ?_, ?_, ?_, ?_, ?_, ?_, ?_, ?_, ?_, ?_, ?_⟩ <;> assumption)
          refine reg_take (i := 0) (v := ?v115) rfl (by kernel_rfl) (by kernel_rfl) (by kernel_rfl) (fun _ _ _ h => h) (Or.inl ⟨by kernel_rfl, ?h115⟩) (by assumption) ?r115
          case h115 => (intro w hSw; (try dsimp only at hSw); go_simp; try with_reducible rfl)
          try simp only [Act.put, List.setIfInBounds_toArray, List.set_cons_zero, List.set_cons_succ]
          refine reg_take (i := 1) (v := ?v116) rfl (by kernel_rfl) (by kernel_rfl) (by kernel_rfl) (fun _ _ _ h => h) (Or.inl ⟨by kernel_rfl, ?h116⟩) (by assumption) ?r116
          case h116 => (intro w hSw; (try dsimp only at hSw); go_simp; try with_reducible rfl)
          try simp only [Act.put, List.setIfInBounds_toArray, List.set_cons_zero, List.set_cons_succ]
          refine reg_take (i := 2) (v := ?v117) rfl (by kernel_rfl) (by kernel_rfl) (by kernel_rfl) (fun _ _ _ h => h) (Or.inl ⟨by kernel_rfl, ?h117⟩) (by assumption) ?r117
          case h117 => (intro w hSw; (try dsimp only at hSw); go_simp; try with_reducible rfl)
          try simp only [Act.put, List.setIfInBounds_toArray, List.set_cons_zero, List.set_cons_succ]
          refine reg_take (i := 3) (v := ?v118) rfl (by kernel_rfl) (by kernel_rfl) (by kernel_rfl) (fun _ _ _ h => h) (Or.inl ⟨by kernel_rfl, ?h118⟩) (by assumption) ?r118
          case h118 => (intro w hSw; (try dsimp only at hSw); go_simp; try with_reducible rfl)
          try simp only [Act.put, List.setIfInBounds_toArray, List.set_cons_zero, List.set_cons_succ]
          refine reg_call (i := 4) (by kernel_rfl) rfl (fun K hK => ?_)
          go_simp
          have q_ := f0; clear q_; refine (impl_ExprValid 9 op (-1) name kids (.slice A3 kids.length c3) w5.drew w.heap.size w1.heap.size (Nat.le_trans hB5 f0.size) ho hn1 hnm (h35.below f0 hB5) (HT.out _ g0)).mono ?_; rw [val_neg]; rintro e v1 ⟨rfl, x_1⟩; have g1 : Below w.heap.size w v1 := g0.trans (x_1.mono g0.size); have f1 := f0.trans (x_1.mono f0.size); have RX1_ := RXd_.below x_1 RXd_.lt; have RY1_ := RYd_.below x_1 RYd_.lt; have RZ1_ := RZd_.below x_1 RZd_.lt; have RE1_ := REd_.below x_1 REd_.lt; have s1X0 : v1.cell? ⟨wr.heap.size, 0, none⟩ = some (.int .i64 op) := RX1_.cell 0; have s1X1 : v1.cell? ⟨wr.heap.size, 1, none⟩ = some (.int .i64 (-1)) := RX1_.cell 1; have s1X2 : v1.cell? ⟨wr.heap.size, 2, none⟩ = some (.string name) := RX1_.cell 2; have s1X3 : v1.cell? ⟨wr.heap.size, 3, none⟩ = some (.slice A3 kids.length c3) := RX1_.cell 3; have s1Y0 : v1.cell? ⟨wr.heap.size + 1, 0, none⟩ = some (.int .i64 op) := RY1_.cell 0; have s1Y1 : v1.cell? ⟨wr.heap.size + 1, 1, none⟩ = some (.int .i64 n) := RY1_.cell 1; have s1Y2 : v1.cell? ⟨wr.heap.size + 1, 2, none⟩ = some (.string ⟨#[100, 111]⟩) := RY1_.cell 2; have s1Y3 : v1.cell? ⟨wr.heap.size + 1, 3, none⟩ = some (.slice A3 kids.length c3) := RY1_.cell 3; have s1Z0 : v1.cell? ⟨wr.heap.size + 1 + 1 + 1, 0, none⟩ = some (.int .i64 11) := RZ1_.cell 0; have s1Z1 : v1.cell? ⟨wr.heap.size + 1 + 1 + 1, 1, none⟩ = some (.int .i64 0) := RZ1_.cell 1; have s1Z2 : v1.cell? ⟨wr.heap.size + 1 + 1 + 1, 2, none⟩ = some (.string ⟨#[]⟩) := RZ1_.cell 2; have s1Z3 : v1.cell? ⟨wr.heap.size + 1 + 1 + 1, 3, none⟩ = some (.slice (some ⟨wr.heap.size + 1 + 1, 0, none⟩) 1 1) := RZ1_.cell 3; have s1E0 : v1.cell? ⟨w1.heap.size, 0, none⟩ = some (.int .i64 op) := RE1_.cell 0; have s1E1 : v1.cell? ⟨w1.heap.size, 1, none⟩ = some (.int .i64 n) := RE1_.cell 1; have s1E2 : v1.cell? ⟨w1.heap.size, 2, none⟩ = some (.string name) := RE1_.cell 2; have s1E3 : v1.cell? ⟨w1.heap.size, 3, none⟩ = some (.slice A3 kids.length c3) := RE1_.cell 3
          refine hK.out _ _ ?_ (fun hHeld => ?_)
          · ((try dsimp only); refine ⟨?_, ?_, ?_, ?_, ?_, ?_, ?_, ?_, ?_, ?_, ?_, ?_, ?_, ?_, ?_, ?_⟩ <;> assumption)
          clear hK K
          try simp only [Act.put, List.setIfInBounds_toArray, List.set_cons_zero, List.set_cons_succ]
          refine reg_take (i := 5) (v := ?v120) rfl (by kernel_rfl) (by kernel_rfl) (by kernel_rfl) (fun _ _ _ h => h) (Or.inl ⟨by kernel_rfl, ?h120⟩) (by assumption) ?r120
          case h120 => (intro w hSw; (try dsimp only at hSw); go_simp; try with_reducible rfl)
          try simp only [Act.put, List.setIfInBounds_toArray, List.set_cons_zero, List.set_cons_succ]
          refine reg_take (i := 6) (v := ?v121) rfl (by kernel_rfl) (by kernel_rfl) (by kernel_rfl) (fun _ _ _ h => h) (Or.inl ⟨by kernel_rfl, ?h121⟩) (by assumption) ?r121
          case h121 => (intro w hSw; (try dsimp only at hSw); go_simp; try with_reducible rfl)
          try simp only [Act.put, List.setIfInBounds_toArray, List.set_cons_zero, List.set_cons_succ]
          refine reg_take (i := 7) (v := ?v122) rfl (by kernel_rfl) (by kernel_rfl) (by kernel_rfl) (fun _ _ _ h => h) (Or.inl ⟨by kernel_rfl, ?h122⟩) (by assumption) ?r122
          case h122 => (intro w hSw; (try dsimp only at hSw); go_simp; try with_reducible rfl)
          try simp only [Act.put, List.setIfInBounds_toArray, List.set_cons_zero, List.set_cons_succ]
          refine reg_take (i := 8) (v := ?v123) rfl (by kernel_rfl) (by kernel_rfl) (by kernel_rfl) (fun _ _ _ h => h) (Or.inl ⟨by kernel_rfl, ?h123⟩) (by assumption) ?r123
          case h123 => (intro w hSw; (try dsimp only at hSw); go_simp; try with_reducible rfl)
          try simp only [Act.put, List.setIfInBounds_toArray, List.set_cons_zero, List.set_cons_succ]
          refine reg_call (i := 9) (by kernel_rfl) rfl (fun K hK => ?_)
          go_simp
          have q_ := f1; clear q_; refine (impl_ExprValid 9 op n ⟨#[100, 111]⟩ kids (.slice A3 kids.length c3) v1 w.heap.size w1.heap.size (Nat.le_trans hB5 f1.size) ho hn64 hdo (h35.below f1 hB5) (HT.out _ g1)).mono ?_; rw [val_do]; rintro e v2 ⟨rfl, x_2⟩; have g2 : Below w.heap.size w v2 := g1.trans (x_2.mono g1.size); have f2 := f1.trans (x_2.mono f1.size); have RX2_ := RX1_.below x_2 RX1_.lt; have RY2_ := RY1_.below x_2 RY1_.lt; have RZ2_ := RZ1_.below x_2 RZ1_.lt; have RE2_ := RE1_.below x_2 RE1_.lt; have s2X0 : v2.cell? ⟨wr.heap.size, 0, none⟩ = some (.int .i64 op) := RX2_.cell 0; have s2X1 : v2.cell? ⟨wr.heap.size, 1, none⟩ = some (.int .i64 (-1)) := RX2_.cell 1; have s2X2 : v2.cell? ⟨wr.heap.size, 2, none⟩ = some (.string name) := RX2_.cell 2; have s2X3 : v2.cell? ⟨wr.heap.size, 3, none⟩ = some (.slice A3 kids.length c3) := RX2_.cell 3; have s2Y0 : v2.cell? ⟨wr.heap.size + 1, 0, none⟩ = some (.int .i64 op) := RY2_.cell 0; have s2Y1 : v2.cell? ⟨wr.heap.size + 1, 1, none⟩ = some (.int .i64 n) := RY2_.cell 1; have s2Y2 : v2.cell? ⟨wr.heap.size + 1, 2, none⟩ = some (.string ⟨#[100, 111]⟩) := RY2_.cell 2; have s2Y3 : v2.cell? ⟨wr.heap.size + 1, 3, none⟩ = some (.slice A3 kids.length c3) := RY2_.cell 3; have s2Z0 : v2.cell? ⟨wr.heap.size + 1 + 1 + 1, 0, none⟩ = some (.int .i64 11) := RZ2_.cell 0; have s2Z1 : v2.cell? ⟨wr.heap.size + 1 + 1 + 1, 1, none⟩ = some (.int .i64 0) := RZ2_.cell 1; have s2Z2 : v2.cell? ⟨wr.heap.size + 1 + 1 + 1, 2, none⟩ = some (.string ⟨#[]⟩) := RZ2_.cell 2; have s2Z3 : v2.cell? ⟨wr.heap.size + 1 + 1 + 1, 3, none⟩ = some (.slice (some ⟨wr.heap.size + 1 + 1, 0, none⟩) 1 1) := RZ2_.cell 3; have s2E0 : v2.cell? ⟨w1.heap.size, 0, none⟩ = some (.int .i64 op) := RE2_.cell 0; have s2E1 : v2.cell? ⟨w1.heap.size, 1, none⟩ = some (.int .i64 n) := RE2_.cell 1; have s2E2 : v2.cell? ⟨w1.heap.size, 2, none⟩ = some (.string name) := RE2_.cell 2; have s2E3 : v2.cell? ⟨w1.heap.size, 3, none⟩ = some (.slice A3 kids.length c3) := RE2_.cell 3
          refine hK.out _ _ ?_ (fun hHeld => ?_)
          · ((try dsimp only); refine ⟨?_, ?_, ?_, ?_, ?_, ?_, ?_, ?_, ?_, ?_, ?_, ?_, ?_, ?_, ?_, ?_⟩ <;> assumption)
          clear hK K
          try simp only [Act.put, List.setIfInBounds_toArray, List.set_cons_zero, List.set_cons_succ]
          refine reg_take (i := 10) (v := ?v125) rfl (by kernel_rfl) (by kernel_rfl) (by kernel_rfl) (fun _ _ _ h => h) (Or.inl ⟨by kernel_rfl, ?h125⟩) (by assumption) ?r125
          case h125 => (intro w hSw; (try dsimp only at hSw); go_simp; try with_reducible rfl)
          try simp only [Act.put, List.setIfInBounds_toArray, List.set_cons_zero, List.set_cons_succ]
          refine reg_take (i := 11) (v := ?v126) rfl (by kernel_rfl) (by kernel_rfl) (by kernel_rfl) (fun _ _ _ h => h) (Or.inl ⟨by kernel_rfl, ?h126⟩) (by assumption) ?r126
          case h126 => (intro w hSw; (try dsimp only at hSw); go_simp; try with_reducible rfl)
          try simp only [Act.put, List.setIfInBounds_toArray, List.set_cons_zero, List.set_cons_succ]
          refine reg_take (i := 12) (v := ?v127) rfl (by kernel_rfl) (by kernel_rfl) (by kernel_rfl) (fun _ _ _ h => h) (Or.inl ⟨by kernel_rfl, ?h127⟩) (by assumption) ?r127
          case h127 => (intro w hSw; (try dsimp only at hSw); go_simp; try with_reducible rfl)
          try simp only [Act.put, List.setIfInBounds_toArray, List.set_cons_zero, List.set_cons_succ]
          refine reg_take (i := 13) (v := ?v128) rfl (by kernel_rfl) (by kernel_rfl) (by kernel_rfl) (fun _ _ _ h => h) (Or.inl ⟨by kernel_rfl, ?h128⟩) (by assumption) ?r128
          case h128 => (intro w hSw; (try dsimp only at hSw); go_simp; try with_reducible rfl)
          try simp only [Act.put, List.setIfInBounds_toArray, List.set_cons_zero, List.set_cons_succ]
          refine reg_call (i := 14) (by kernel_rfl) rfl (fun K hK => ?_)
          go_simp
          have q_ := f2; clear q_; refine (impl_ExprValid 10 11 0 ⟨#[]⟩ [.mk op n name kids] (.slice (some ⟨wr.heap.size + 1 + 1, 0, none⟩) 1 1) v2 w.heap.size (wr.heap.size + 1 + 1 + 1) (Nat.le_trans hBz f2.size) h11 h00 hem (hz5.below f2 hBz) (HT.out _ g2)).mono ?_; rw [HZ.out]; rintro e v3 ⟨rfl, x_3⟩; have g3 : Below w.heap.size w v3 := g2.trans (x_3.mono g2.size); have f3 := f2.trans (x_3.mono f2.size); have RX3_ := RX2_.below x_3 RX2_.lt; have RY3_ := RY2_.below x_3 RY2_.lt; have RZ3_ := RZ2_.below x_3 RZ2_.lt; have RE3_ := RE2_.below x_3 RE2_.lt; have s3X0 : v3.cell? ⟨wr.heap.size, 0, none⟩ = some (.int .i64 op) := RX3_.cell 0; have s3X1 : v3.cell? ⟨wr.heap.size, 1, none⟩ = some (.int .i64 (-1)) := RX3_.cell 1; have s3X2 : v3.cell? ⟨wr.heap.size, 2, none⟩ = some (.string name) := RX3_.cell 2; have s3X3 : v3.cell? ⟨wr.heap.size, 3, none⟩ = some (.slice A3 kids.length c3) := RX3_.cell 3; have s3Y0 : v3.cell? ⟨wr.heap.size + 1, 0, none⟩ = some (.int .i64 op) := RY3_.cell 0; have s3Y1 : v3.cell? ⟨wr.heap.size + 1, 1, none⟩ = some (.int .i64 n) := RY3_.cell 1; have s3Y2 : v3.cell? ⟨wr.heap.size + 1, 2, none⟩ = some (.string ⟨#[100, 111]⟩) := RY3_.cell 2; have s3Y3 : v3.cell? ⟨wr.heap.size + 1, 3, none⟩ = some (.slice A3 kids.length c3) := RY3_.cell 3; have s3Z0 : v3.cell? ⟨wr.heap.size + 1 + 1 + 1, 0, none⟩ = some (.int .i64 11) := RZ3_.cell 0; have s3Z1 : v3.cell? ⟨wr.heap.size + 1 + 1 + 1, 1, none⟩ = some (.int .i64 0) := RZ3_.cell 1; have s3Z2 : v3.cell? ⟨wr.heap.size + 1 + 1 + 1, 2, none⟩ = some (.string ⟨#[]⟩) := RZ3_.cell 2; have s3Z3 : v3.cell? ⟨wr.heap.size + 1 + 1 + 1, 3, none⟩ = some (.slice (some ⟨wr.heap.size + 1 + 1, 0, none⟩) 1 1) := RZ3_.cell 3; have s3E0 : v3.cell? ⟨w1.heap.size, 0, none⟩ = some (.int .i64 op) := RE3_.cell 0; have s3E1 : v3.cell? ⟨w1.heap.size, 1, none⟩ = some (.int .i64 n) := RE3_.cell 1; have s3E2 : v3.cell? ⟨w1.heap.size, 2, none⟩ = some (.string name) := RE3_.cell 2; have s3E3 : v3.cell? ⟨w1.heap.size, 3, none⟩ = some (.slice A3 kids.length c3) := RE3_.cell 3
          refine hK.out _ _ ?_ (fun hHeld => ?_)
          · ((try dsimp only); refine ⟨?_, ?_, ?_, ?_, ?_, ?_, ?_, ?_, ?_, ?_, ?_, ?_, ?_, ?_, ?_, ?_⟩ <;> assumption)
          clear hK K
          try simp only [Act.put, List.setIfInBounds_toArray, List.set_cons_zero, List.set_cons_succ]
          refine reg_take (i := 15) (v := ?v130) rfl (by kernel_rfl) (by kernel_rfl) (by kernel_rfl) (fun _ _ _ h => h) (Or.inl ⟨by kernel_rfl, ?h130⟩) (by assumption) ?r130
          case h130 => (intro w hSw; (try dsimp only at hSw); go_simp; try with_reducible rfl)
          try simp only [Act.put, List.setIfInBounds_toArray, List.set_cons_zero, List.set_cons_succ]
          refine reg_take (i := 16) (v := ?v131) rfl (by kernel_rfl) (by kernel_rfl) (by kernel_rfl) (fun _ _ _ h => h) (Or.inl ⟨by kernel_rfl, ?h131⟩) (by assumption) ?r131
          case h131 => (intro w hSw; (try dsimp only at hSw); go_simp; try with_reducible rfl)
          try simp only [Act.put, List.setIfInBounds_toArray, List.set_cons_zero, List.set_cons_succ]
          refine reg_take (i := 17) (v := undef) rfl (by kernel_rfl) (by kernel_rfl) (by kernel_rfl) (fun _ _ _ h => h) (Or.inr ⟨by kernel_rfl, rfl⟩) (by assumption) ?_
          try simp only [Act.put, List.setIfInBounds_toArray, List.set_cons_zero, List.set_cons_succ]
          refine reg_take (i := 18) (v := ?v133) rfl (by kernel_rfl) (by kernel_rfl) (by kernel_rfl) (fun _ _ _ h => h) (Or.inl ⟨by kernel_rfl, ?h133⟩) (by assumption) ?r133
          case h133 => (intro w hSw; (try dsimp only at hSw); go_simp; try with_reducible rfl)
          try simp only [Act.put, List.setIfInBounds_toArray, List.set_cons_zero, List.set_cons_succ]
          refine reg_take (i := 19) (v := ?v134) rfl (by kernel_rfl) (by kernel_rfl) (by kernel_rfl) (fun _ _ _ h => h) (Or.inl ⟨by kernel_rfl, ?h134⟩) (by assumption) ?r134
          case h134 => (intro w hSw; (try dsimp only at hSw); go_simp; try with_reducible rfl)
          try simp only [Act.put, List.setIfInBounds_toArray, List.set_cons_zero, List.set_cons_succ]
          refine reg_take (i := 20) (v := ?v135) rfl (by kernel_rfl) (by kernel_rfl) (by kernel_rfl) (fun _ _ _ h => h) (Or.inl ⟨by kernel_rfl, ?h135⟩) (by assumption) ?r135
          case h135 => (intro w hSw; (try dsimp only at hSw); go_simp; try with_reducible rfl)
          try simp only [Act.put, List.setIfInBounds_toArray, List.set_cons_zero, List.set_cons_succ]
          refine reg_take (i := 21) (v := ?v136) rfl (by kernel_rfl) (by kernel_rfl) (by kernel_rfl) (fun _ _ _ h => h) (Or.inl ⟨by kernel_rfl, ?h136⟩) (by assumption) ?r136
          case h136 => (intro w hSw; (try dsimp only at hSw); go_simp; try with_reducible rfl)
          try simp only [Act.put, List.setIfInBounds_toArray, List.set_cons_zero, List.set_cons_succ]
          refine reg_take (i := 22) (v := ?v137) rfl (by kernel_rfl) (by kernel_rfl) (by kernel_rfl) (fun _ _ _ h => h) (Or.inl ⟨by kernel_rfl, ?h137⟩) (by assumption) ?r137
          case h137 => (intro w hSw; (try dsimp only at hSw); go_simp; try with_reducible rfl)
          try simp only [Act.put, List.setIfInBounds_toArray, List.set_cons_zero, List.set_cons_succ]
          refine reg_take (i := 23) (v := ?v138) rfl (by kernel_rfl) (by kernel_rfl) (by kernel_rfl) (fun _ _ _ h => h) (Or.inl ⟨by kernel_rfl, ?h138⟩) (by assumption) ?r138
          case h138 => (intro w hSw; (try dsimp only at hSw); go_simp; try with_reducible rfl)
          try simp only [Act.put, List.setIfInBounds_toArray, List.set_cons_zero, List.set_cons_succ]
          refine reg_take (i := 24) (v := ?v139) rfl (by kernel_rfl) (by kernel_rfl) (by kernel_rfl) (fun _ _ _ h => h) (Or.inl ⟨by kernel_rfl, ?h139⟩) (by assumption) ?r139
          case h139 => (intro w hSw; (try dsimp only at hSw); go_simp; try with_reducible rfl)
          try simp only [Act.put, List.setIfInBounds_toArray, List.set_cons_zero, List.set_cons_succ]
          refine reg_take (i := 26) (v := ?v140) rfl (by kernel_rfl) (by kernel_rfl) (by kernel_rfl) (fun _ _ _ h => h) (Or.inl ⟨by kernel_rfl, ?h140⟩) (by assumption) ?r140
          case h140 => (intro w hSw; (try dsimp only at hSw); go_simp; try with_reducible rfl)
          try simp only [Act.put, List.setIfInBounds_toArray, List.set_cons_zero, List.set_cons_succ]
          refine reg_call (i := 25) (by kernel_rfl) rfl (fun K hK => ?_)
          go_simp
          have q_ := f3; clear q_; refine (impl_ExprValid 10 11 0 ⟨#[]⟩ [.mk op n name kids] (.slice (some ⟨wr.heap.size + 1 + 1, 0, none⟩) 1 1) v3 w.heap.size (wr.heap.size + 1 + 1 + 1) (Nat.le_trans hBz f3.size) h11 h00 hem (hz5.below f3 hBz) (HT.out _ g3)).mono ?_; rw [HZ.out]; rintro e v4 ⟨rfl, x_4⟩; have g4 : Below w.heap.size w v4 := g3.trans (x_4.mono g3.size); have f4 := f3.trans (x_4.mono f3.size); have RX4_ := RX3_.below x_4 RX3_.lt; have RY4_ := RY3_.below x_4 RY3_.lt; have RZ4_ := RZ3_.below x_4 RZ3_.lt; have RE4_ := RE3_.below x_4 RE3_.lt; have s4X0 : v4.cell? ⟨wr.heap.size, 0, none⟩ = some (.int .i64 op) := RX4_.cell 0; have s4X1 : v4.cell? ⟨wr.heap.size, 1, none⟩ = some (.int .i64 (-1)) := RX4_.cell 1; have s4X2 : v4.cell? ⟨wr.heap.size, 2, none⟩ = some (.string name) := RX4_.cell 2; have s4X3 : v4.cell? ⟨wr.heap.size, 3, none⟩ = some (.slice A3 kids.length c3) := RX4_.cell 3; have s4Y0 : v4.cell? ⟨wr.heap.size + 1, 0, none⟩ = some (.int .i64 op) := RY4_.cell 0; have s4Y1 : v4.cell? ⟨wr.heap.size + 1, 1, none⟩ = some (.int .i64 n) := RY4_.cell 1; have s4Y2 : v4.cell? ⟨wr.heap.size + 1, 2, none⟩ = some (.string ⟨#[100, 111]⟩) := RY4_.cell 2; have s4Y3 : v4.cell? ⟨wr.heap.size + 1, 3, none⟩ = some (.slice A3 kids.length c3) := RY4_.cell 3; have s4Z0 : v4.cell? ⟨wr.heap.size + 1 + 1 + 1, 0, none⟩ = some (.int .i64 11) := RZ4_.cell 0; have s4Z1 : v4.cell? ⟨wr.heap.size + 1 + 1 + 1, 1, none⟩ = some (.int .i64 0) := RZ4_.cell 1; have s4Z2 : v4.cell? ⟨wr.heap.size + 1 + 1 + 1, 2, none⟩ = some (.string ⟨#[]⟩) := RZ4_.cell 2; have s4Z3 : v4.cell? ⟨wr.heap.size + 1 + 1 + 1, 3, none⟩ = some (.slice (some ⟨wr.heap.size + 1 + 1, 0, none⟩) 1 1) := RZ4_.cell 3; have s4E0 : v4.cell? ⟨w1.heap.size, 0, none⟩ = some (.int .i64 op) := RE4_.cell 0; have s4E1 : v4.cell? ⟨w1.heap.size, 1, none⟩ = some (.int .i64 n) := RE4_.cell 1; have s4E2 : v4.cell? ⟨w1.heap.size, 2, none⟩ = some (.string name) := RE4_.cell 2; have s4E3 : v4.cell? ⟨w1.heap.size, 3, none⟩ = some (.slice A3 kids.length c3) := RE4_.cell 3
          refine hK.out _ _ ?_ (fun hHeld => ?_)
          · ((try dsimp only); refine ⟨?_, ?_, ?_, ?_, ?_, ?_, ?_, ?_, ?_, ?_, ?_, ?_, ?_, ?_, ?_, ?_⟩ <;> assumption)
          clear hK K
          try simp only [Act.put, List.setIfInBounds_toArray, List.set_cons_zero, List.set_cons_succ]
          refine reg_call (i := 27) (by kernel_rfl) rfl (fun K hK => ?_)
          go_simp
          have q_ := f4; clear q_; refine (impl_ExprDeep 9 op n name kids (.slice A3 kids.length c3) v4 w.heap.size w1.heap.size (Nat.le_trans hB5 f4.size) ho hn64 hnm (h35.below f4 hB5) (HT.out _ g4)).mono ?_; rw [HDv.out]; rintro e v5 ⟨rfl, x_5⟩; have g5 : Below w.heap.size w v5 := g4.trans (x_5.mono g4.size); have f5 := f4.trans (x_5.mono f4.size); have RX5_ := RX4_.below x_5 RX4_.lt; have RY5_ := RY4_.below x_5 RY4_.lt; have RZ5_ := RZ4_.below x_5 RZ4_.lt; have RE5_ := RE4_.below x_5 RE4_.lt; have s5X0 : v5.cell? ⟨wr.heap.size, 0, none⟩ = some (.int .i64 op) := RX5_.cell 0; have s5X1 : v5.cell? ⟨wr.heap.size, 1, none⟩ = some (.int .i64 (-1)) := RX5_.cell 1; have s5X2 : v5.cell? ⟨wr.heap.size, 2, none⟩ = some (.string name) := RX5_.cell 2; have s5X3 : v5.cell? ⟨wr.heap.size, 3, none⟩ = some (.slice A3 kids.length c3) := RX5_.cell 3; have s5Y0 : v5.cell? ⟨wr.heap.size + 1, 0, none⟩ = some (.int .i64 op) := RY5_.cell 0; have s5Y1 : v5.cell? ⟨wr.heap.size + 1, 1, none⟩ = some (.int .i64 n) := RY5_.cell 1; have s5Y2 : v5.cell? ⟨wr.heap.size + 1, 2, none⟩ = some (.string ⟨#[100, 111]⟩) := RY5_.cell 2; have s5Y3 : v5.cell? ⟨wr.heap.size + 1, 3, none⟩ = some (.slice A3 kids.length c3) := RY5_.cell 3; have s5Z0 : v5.cell? ⟨wr.heap.size + 1 + 1 + 1, 0, none⟩ = some (.int .i64 11) := RZ5_.cell 0; have s5Z1 : v5.cell? ⟨wr.heap.size + 1 + 1 + 1, 1, none⟩ = some (.int .i64 0) := RZ5_.cell 1; have s5Z2 : v5.cell? ⟨wr.heap.size + 1 + 1 + 1, 2, none⟩ = some (.string ⟨#[]⟩) := RZ5_.cell 2; have s5Z3 : v5.cell? ⟨wr.heap.size + 1 + 1 + 1, 3, none⟩ = some (.slice (some ⟨wr.heap.size + 1 + 1, 0, none⟩) 1 1) := RZ5_.cell 3; have s5E0 : v5.cell? ⟨w1.heap.size, 0, none⟩ = some (.int .i64 op) := RE5_.cell 0; have s5E1 : v5.cell? ⟨w1.heap.size, 1, none⟩ = some (.int .i64 n) := RE5_.cell 1; have s5E2 : v5.cell? ⟨w1.heap.size, 2, none⟩ = some (.string name) := RE5_.cell 2; have s5E3 : v5.cell? ⟨w1.heap.size, 3, none⟩ = some (.slice A3 kids.length c3) := RE5_.cell 3
          refine hK.out _ _ ?_ (fun hHeld => ?_)
          · ((try dsimp only); refine ⟨?_, ?_, ?_, ?_, ?_, ?_, ?_, ?_, ?_, ?_, ?_, ?_, ?_, ?_, ?_, ?_⟩ <;> assumption)
          clear hK K
          try simp only [Act.put, List.setIfInBounds_toArray, List.set_cons_zero, List.set_cons_succ]
          refine reg_take (i := 28) (v := ?v143) rfl (by kernel_rfl) (by kernel_rfl) (by kernel_rfl) (fun _ _ _ h => h) (Or.inl ⟨by kernel_rfl, ?h143⟩) (by assumption) ?r143
          case h143 => (intro w hSw; (try dsimp only at hSw); go_simp; try with_reducible rfl)
          try simp only [Act.put, List.setIfInBounds_toArray, List.set_cons_zero, List.set_cons_succ]
          refine reg_take (i := 29) (v := ?v144) rfl (by kernel_rfl) (by kernel_rfl) (by kernel_rfl) (fun _ _ _ h => h) (Or.inl ⟨by kernel_rfl, ?h144⟩) (by assumption) ?r144
          case h144 => (intro w hSw; (try dsimp only at hSw); go_simp; try with_reducible rfl)
          try simp only [Act.put, List.setIfInBounds_toArray, List.set_cons_zero, List.set_cons_succ]
          refine reg_take (i := 30) (v := undef) rfl (by kernel_rfl) (by kernel_rfl) (by kernel_rfl) (fun _ _ _ h => h) (Or.inr ⟨by kernel_rfl, rfl⟩) (by assumption) ?_
          try simp only [Act.put, List.setIfInBounds_toArray, List.set_cons_zero, List.set_cons_succ]
          refine reg_take (i := 31) (v := undef) rfl (by kernel_rfl) (by kernel_rfl) (by kernel_rfl) (fun _ _ _ h => h) (Or.inr ⟨by kernel_rfl, rfl⟩) (by assumption) ?_
          try simp only [Act.put, List.setIfInBounds_toArray, List.set_cons_zero, List.set_cons_succ]
          refine reg_take (i := 32) (v := undef) rfl (by kernel_rfl) (by kernel_rfl) (by kernel_rfl) (fun _ _ _ h => h) (Or.inr ⟨by kernel_rfl, rfl⟩) (by assumption) ?_
          try simp only [Act.put, List.setIfInBounds_toArray, List.set_cons_zero, List.set_cons_succ]
          refine reg_take (i := 33) (v := ?v148) rfl (by kernel_rfl) (by kernel_rfl) (by kernel_rfl) (fun _ _ _ h => h) (Or.inl ⟨by kernel_rfl, ?h148⟩) (by assumption) ?r148
          case h148 => (intro w hSw; (try dsimp only at hSw); go_simp; try with_reducible rfl)
          try simp only [Act.put, List.setIfInBounds_toArray, List.set_cons_zero, List.set_cons_succ]
          refine reg_take (i := 34) (v := ?v149) rfl (by kernel_rfl) (by kernel_rfl) (by kernel_rfl) (fun _ _ _ h => h) (Or.inl ⟨by kernel_rfl, ?h149⟩) (by assumption) ?r149
          case h149 => (intro w hSw; (try dsimp only at hSw); go_simp; try with_reducible rfl)
          try simp only [Act.put, List.setIfInBounds_toArray, List.set_cons_zero, List.set_cons_succ]
          refine reg_take (i := 35) (v := ?v150) rfl (by kernel_rfl) (by kernel_rfl) (by kernel_rfl) (fun _ _ _ h => h) (Or.inl ⟨by kernel_rfl, ?h150⟩) (by assumption) ?r150
          case h150 => (intro w hSw; (try dsimp only at hSw); go_simp; try with_reducible rfl)
          try simp only [Act.put, List.setIfInBounds_toArray, List.set_cons_zero, List.set_cons_succ]
          refine reg_take (i := 36) (v := ?v151) rfl (by kernel_rfl) (by kernel_rfl) (by kernel_rfl) (fun _ _ _ h => h) (Or.inl ⟨by kernel_rfl, ?h151⟩) (by assumption) ?r151
          case h151 => (intro w hSw; (try dsimp only at hSw); go_simp; try with_reducible rfl)
          try simp only [Act.put, List.setIfInBounds_toArray, List.set_cons_zero, List.set_cons_succ]
          refine reg_take (i := 37) (v := ?v152) rfl (by kernel_rfl) (by kernel_rfl) (by kernel_rfl) (fun _ _ _ h => h) (Or.inl ⟨by kernel_rfl, ?h152⟩) (by assumption) ?r152
          case h152 => (intro w hSw; (try dsimp only at hSw); go_simp; try with_reducible rfl)
          try simp only [Act.put, List.setIfInBounds_toArray, List.set_cons_zero, List.set_cons_succ]
          refine wpAnyH_done (by kernel_rfl) ?_ _
          go_wp2_with fail
          go_ret
          exact ⟨rfl, g5⟩

set_option maxRecDepth 100000 in
theorem fnExprForm_lifted (os : Os) (started : os.Started) (H : Type) (enc : TypeId × Value → H) :
    ReturnsInHanded {} Tryd.checked os 9 .any (fun w args => (Rows.fnExprFormSpec.pre enc Tryd.prog Tryd.f9 [] false w args ∧ laidMetH Tryd.prog [("math/bits.deBruijn32tab", Rows.laid_math_bits_deBruijn32tab), ("math/bits.deBruijn64tab", Rows.laid_math_bits_deBruijn64tab), ("internal/strconv.uint64pow10", Rows.laid_internal_strconv_uint64pow10), ("strconv.ErrRange", Rows.laid_strconv_ErrRange), ("strconv.ErrSyntax", Rows.laid_strconv_ErrSyntax), ("loop.example/wholeway/impl.keys", Rows.laid_loop_example_wholeway_impl_keys), ("loop.example/wholeway/impl.opSign", Rows.laid_loop_example_wholeway_impl_opSign)] w) ∧ sizedMet enc Tryd.prog Tryd.f9 (OpenSpec.ofChange Rows.fnExprFormSpec) false w args) (Rows.fnExprFormSpec.post enc Tryd.prog Tryd.f9 false true false false) := by
  refine returnsInHanded_of_change_and (C := Tryd.checked) (X := fun w _ => laidMetH Tryd.prog [("math/bits.deBruijn32tab", Rows.laid_math_bits_deBruijn32tab), ("math/bits.deBruijn64tab", Rows.laid_math_bits_deBruijn64tab), ("internal/strconv.uint64pow10", Rows.laid_internal_strconv_uint64pow10), ("strconv.ErrRange", Rows.laid_strconv_ErrRange), ("strconv.ErrSyntax", Rows.laid_strconv_ErrSyntax), ("loop.example/wholeway/impl.keys", Rows.laid_loop_example_wholeway_impl_keys), ("loop.example/wholeway/impl.opSign", Rows.laid_loop_example_wholeway_impl_opSign)] w) (fun _ _ _ hh h => h.of_heap hh) own started (by kernel_rfl) Tryd.func9
    (ChangeSpec.witness_shaped (enc := enc) (C := Tryd.checked) (os := os) (X := fun w _ => laidMetH Tryd.prog [("math/bits.deBruijn32tab", Rows.laid_math_bits_deBruijn32tab), ("math/bits.deBruijn64tab", Rows.laid_math_bits_deBruijn64tab), ("internal/strconv.uint64pow10", Rows.laid_internal_strconv_uint64pow10), ("strconv.ErrRange", Rows.laid_strconv_ErrRange), ("strconv.ErrSyntax", Rows.laid_strconv_ErrSyntax), ("loop.example/wholeway/impl.keys", Rows.laid_loop_example_wholeway_impl_keys), ("loop.example/wholeway/impl.opSign", Rows.laid_loop_example_wholeway_impl_opSign)] w) false (World.doorLaid Tryd.prog 400 os) #[.slice none 0 0] 8 rfl (World.shaped_of_RefB (by kernel_rfl) (by kernel_rfl)) (by kernel_rfl) (by kernel_rfl) (by kernel_rfl) (door_metX os _)) ?_
  intro W base args ds gs before hval0 hW _ _ hL _
  have hval : ∀ (j : Nat) t v, Tryd.f9.params[j]? = some t → args[j]? = some v → Value.okWide Tryd.prog W .any base t v := hval0
  obtain ⟨p, q, hA0, hV, hrest⟩ := id hW
  have hA : DataW.TrodAll enc Tryd.prog W 0 (fun _ => true) true Tryd.f9.params.toList args.toList ds p := hA0
  rw [Tryd.params9] at hA hval
  obtain ⟨v0, d0, rfl, rfl, h0⟩ := trodAll_one hA
  obtain ⟨gv0, gv1, rfl⟩ := two_vars hV
  obtain ⟨a, len, cap, rfl⟩ := okWide_slice Tryd.underlying22 (hval 0 _ v0 rfl rfl)
  obtain ⟨fuel0, hf0⟩ := h0
  obtain ⟨da0, vv, hv0, ha0⟩ := dec_slice Tryd.underlying22 (by kernel_rfl) (by decide) dec_u8 hf0
  simp only [Value.cells, List.cons.injEq, and_true] at hv0
  subst hv0
  have hcall := law_ExprForm da0 _ W ha0 (tabs_ofX hL)
  refine hcall.mono fun e W' ⟨he, hb⟩ => ?_
  subst he
  exact ⟨_, rfl, post_true_vars laidO hW (by kernel_rfl) Tryd.underlying4 (by rw [Tryd.params9]; intro t ht; simp only [List.mem_cons, List.not_mem_nil, or_false] at ht; subst ht; exact ⟨by kernel_rfl, of_decide_eq_true (by kernel_rfl)⟩) vars_ok rfl rfl rfl hb⟩

set_option maxRecDepth 100000 in
set_option maxHeartbeats 1000000 in
theorem fnExprForm_facts : joinedFacts Tryd.prog 9 Tryd.f9 Rows.fnExprFormSpec Rows.fnExprFormRow = true := by
  unfold joinedFacts
  exact and_mk (and_mk (and_mk (and_mk (and_mk (and_mk (and_mk (and_mk (and_mk (and_mk (and_mk (and_mk (and_mk (and_mk (and_mk (and_mk (and_mk (and_mk (and_mk (and_mk (and_mk (and_mk (and_mk (and_mk (and_mk (and_mk (and_mk (and_mk (and_mk (and_mk (and_mk (by as_aux_lemma => kernel_rfl) laidO) mapsRowedO) (by as_aux_lemma => kernel_rfl)) (by as_aux_lemma => kernel_rfl)) (by as_aux_lemma => kernel_rfl)) (by as_aux_lemma => kernel_rfl)) (by as_aux_lemma => kernel_rfl)) (by as_aux_lemma => kernel_rfl)) (by as_aux_lemma => kernel_rfl)) (by as_aux_lemma => kernel_rfl)) (by as_aux_lemma => kernel_rfl)) (by as_aux_lemma => kernel_rfl)) (by as_aux_lemma => kernel_rfl)) (by as_aux_lemma => kernel_rfl)) (by as_aux_lemma => kernel_rfl)) (by as_aux_lemma => kernel_rfl)) (by as_aux_lemma => kernel_rfl)) (by as_aux_lemma => kernel_rfl)) (by as_aux_lemma => kernel_rfl)) (by as_aux_lemma => kernel_rfl)) (by as_aux_lemma => kernel_rfl)) (by rw [plainKeysO]; rfl)) (by as_aux_lemma => kernel_rfl)) stopsHeardO) mayEnter) (by rw [liftsFinal]; rfl)) (by rw [makeCut]; rfl)) (by as_aux_lemma => kernel_rfl)) (by as_aux_lemma => kernel_rfl)) (by as_aux_lemma => kernel_rfl)) (by as_aux_lemma => kernel_rfl)

theorem fnExprForm_said : Rows.FnExprFormSaid :=
  OpenClaim.holds_of_wide 9 Tryd.f9 rfl rfl rfl rfl rfl rfl rfl ⟨rfl, rfl, rfl, rfl, rfl⟩ rfl rfl rfl rfl rfl (by kernel_rfl) Tryd.func9 fnExprForm_facts
    (of_decide_eq_true (by kernel_rfl)) (by unfold Func.isWrapper; first | (rw [if_pos (by decide +kernel)]; kernel_rfl) | (rw [if_neg (by decide +kernel)]; exact ⟨rfl, rfl⟩))
    (fun os started H enc _ => fnExprForm_lifted os started H enc)

/-- no parameter wants a stand-in -/
theorem fnExprForm_plain (f : FuncId) (fn : Func) (hf : Tryd.pinned.checked.prog.funcNamed "loop.example/wholeway/laws.FnExprForm" = some f) (hfn : Tryd.pinned.checked.prog.funcs[f]? = some fn) :
    true = Tryd.pinned.checked.prog.looks [] ∧ ∀ (j : Nat) t, fn.params[j]? = some t → Tryd.pinned.checked.prog.wantsStandIn t = false := by
  obtain rfl : f = 9 := Option.some.inj ((show Tryd.prog.funcNamed "loop.example/wholeway/laws.FnExprForm" = some 9 by kernel_rfl).symm.trans hf) |>.symm
  obtain rfl : fn = Tryd.f9 := (Option.some.inj (Tryd.func9.symm.trans hfn)).symm
  refine ⟨by kernel_rfl, fun j t ht => ?_⟩
  rw [Tryd.params9] at ht
  have hm : t ∈ [22] := by simpa using Array.mem_of_getElem? ht
  have hall : ([22].all fun u => !Tryd.prog.wantsStandIn u) = true := by kernel_rfl
  exact (show Tryd.prog.wantsStandIn t = false by simpa using List.all_eq_true.1 hall t hm)
theorem fnExprForm_holds : Rows.FnExprFormCardSaid :=
  Claim7.holds_tied_plain_at .later [] _ _ _ _ fnExprForm_said (fun _ h => by cases h) (by kernel_rfl) (fun _ h => by cases h) fnExprForm_row_tie rfl ⟨rfl, rfl⟩ (by kernel_rfl) rfl fnExprForm_plain (by kernel_rfl)
end Go.Proofs.YtpheoddpkmaidaaDoor
