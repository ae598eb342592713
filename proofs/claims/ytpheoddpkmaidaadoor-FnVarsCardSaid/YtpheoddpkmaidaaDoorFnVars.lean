/-
  The law FnVars: it returns true for all arguments. Condition: the variables that its row lists read as the table lays them.
-/
import Derived.Test.YtpheoddpkmaidaaDoorLawE
import Derived.Test.YtpheoddpkmaidaaDoorSame3
namespace Go.Proofs.YtpheoddpkmaidaaDoor
open Go.RowKit Go.ChangeShapes Go.WideShapes Go.Deep
set_option linter.unusedVariables false
set_option linter.unusedSimpArgs false
theorem But.setG {g : Nat} {w w' : World} (h : But g w w') (i : Nat) (u : Value) : But g w (w'.setCell ⟨g, i, none⟩ u) := ⟨h.1.setCell (p := ⟨g, i, none⟩) (Nat.le_refl g) u, fun b h1 h2 => (Below.heap_setCell _ _ _ b (by show b ≠ g; omega)).trans (h.2 b h1 h2)⟩
theorem sl_sizes {w : World} {lo B : Nat} {l : List ByteArray} {v : Value} (h : Sl false (strS false) w lo B l v) : ∀ s ∈ l, s.size ≤ maxLen := by
  intro s hs
  obtain ⟨i, hi⟩ := List.mem_iff_getElem?.1 hs
  obtain ⟨A, cap, rfl, _, _, h3⟩ := h
  obtain ⟨b, o, _, _, _, _, hc⟩ := h3 (by rintro rfl; cases hs)
  obtain ⟨cs, hr, _⟩ := hc i s hi
  exact (str_rep hr).2
def zeroE : Ex := .mk 1 0 ⟨#[]⟩ []
theorem zero_form : formB 1 zeroE = true := num_form (by omega) (by omega)
theorem vars_nodup {e : Ex} (h : valE e = true) : (nmV 2 e).Nodup := by
  rw [nmV_dd h]
  exact dd_nodup _ (by simp)
theorem vars_mem {e : Ex} (h : valE e = true) {s : ByteArray} : s ∈ nmV 2 e ↔ s ∈ flE 2 e := by
  rw [nmV_dd h, dd_mem]
  simp
theorem vars_drop {e : Ex} (h : valE e = true) {s : ByteArray} (hs : s ∈ nmV 2 e) : (nmV 2 (putE 6 s (.mk 1 0 ⟨#[]⟩ []) e)).length + 1 = (nmV 2 e).length := by
  have h1 := (put_leaf (nm := s) (num_form (n := 0) (by omega) (by omega)) (num_parts 0) h).1
  rw [nmV_dd h1, fl_put (num_fl 2 0 (by omega)) 6 e (val_form h), nmV_dd h]
  have h2 := dd_filter (fun x => decide (x ≠ s)) (flE 2 e) []
  simp only [List.filter_nil] at h2
  rw [h2]
  exact nodup_drop1 (dd_nodup _ (by simp)) (by rw [← nmV_dd h]; exact hs)
theorem put_ne {e : Ex} (h : valE e = true) {s : ByteArray} (hs : s ∈ nmV 2 e) : ¬ putE 6 s (.mk 1 0 ⟨#[]⟩ []) e = e := by
  intro he
  have h1 := (vars_mem h).1 hs
  rw [← he, fl_put (num_fl 2 0 (by omega)) 6 e (val_form h)] at h1
  simp at h1
theorem vars_step {e z : Ex} (hz : valE z = true) {L : List ByteArray} {k : Nat} (hk : k < L.length) (h : ∀ s ∈ flE 2 z, s ∈ flE 2 e ∧ ¬ s ∈ L.take k) : ∀ s ∈ flE 2 (putE 6 L[k] (.mk 1 0 ⟨#[]⟩ []) z), s ∈ flE 2 e ∧ ¬ s ∈ L.take (k + 1) := by
  intro s hs
  rw [fl_put (num_fl 2 0 (by omega)) 6 z (val_form hz), List.mem_filter] at hs
  obtain ⟨h1, h2⟩ := h s hs.1
  have h3 := of_decide_eq_true hs.2
  refine ⟨h1, ?_⟩
  rw [List.take_succ_eq_append_getElem hk, List.mem_append]
  rintro (h4 | h4)
  · exact h2 h4
  · exact h3 (by simpa using h4)
theorem nodup_ne {l : List ByteArray} (h : l.Nodup) {i j : Nat} (hi : i < j) (hj : j < l.length) : ¬ l[i]'(by omega) = l[j] := by
  intro he
  have := (List.getElem_inj (xs := l) (i := i) (j := j) (h₀ := by omega) (h₁ := hj) h).1 he
  omega
set_option maxRecDepth 100000 in
set_option maxHeartbeats 16000000 in
theorem law_Vars (l : List UInt8) (v : Value) (w : World) (hv : Sl false byS w 0 w.heap.size l v) (ht : Tabs w) : Calls Tryd.prog 6 #[v] w (Yes w) := by
  obtain ⟨A, cap, rfl, hlc, hcm⟩ := hv.form
  by_cases hbig : 1048576 < l.length
  · have q0 : decide ((1048576 : Int) < (l.length : Int)) = true := by simp; omega
    go_enter Tryd.func6, Tryd.ntmps6
    go_wp2_with fail
    go_ret
    exact ⟨rfl, Below.refl _ _⟩
  have q0 : decide ((1048576 : Int) < (l.length : Int)) = false := by simp; omega
  go_enter Tryd.func6, Tryd.ntmps6
  go_wp2_with fail
  refine (draw_vars l _ _ hv).mono ?_
  rintro e w1 ⟨op, n, name, kids, A3, c3, rfl, ho, hn64, hnm, h3, hz, b1⟩
  have HT := Lib.hid (fun (w9 : World) (h9 : Below w.heap.size w w9) => ht.below h9 (Nat.le_refl _))
  have hkc : kids.length ≤ c3 ∧ c3 ≤ 9223372036854775807 := by
    obtain ⟨_, _, hf, h4, h5⟩ := h3.form
    injection hf with _ _ e3
    subst e3
    exact ⟨h4, h5⟩
  obtain ⟨hkc1, hkc2⟩ := hkc
  have st2 := (Below.refl _ w1).alloc (Nat.le_refl _) (.cells #[.int .i64 op, .int .i64 n, .string name, .slice A3 kids.length c3] 25)
  have hb2 : Below w.heap.size w (w1.alloc (.cells #[.int .i64 op, .int .i64 n, .string name, .slice A3 kids.length c3] 25)) := b1.alloc b1.size (.cells #[.int .i64 op, .int .i64 n, .string name, .slice A3 kids.length c3] 25)
  have R2 : Row (w1.alloc (.cells #[.int .i64 op, .int .i64 n, .string name, .slice A3 kids.length c3] 25)) w1.heap.size 25 #[.int .i64 op, .int .i64 n, .string name, .slice A3 kids.length c3] := Row.new _ _ _
  have h32 : Sl false (exS false 9) (w1.alloc (.cells #[.int .i64 op, .int .i64 n, .string name, .slice A3 kids.length c3] 25)) w.heap.size w1.heap.size kids (.slice A3 kids.length c3) := h3.below st2 (Nat.le_refl _)
  have hwb := b1.size
  have hs2 : w1.heap.size < (w1.alloc (.cells #[.int .i64 op, .int .i64 n, .string name, .slice A3 kids.length c3] 25)).heap.size := by simp
  clear ht hv h3
  obtain ⟨L, hL⟩ : ∃ L, nmV 2 (.mk op n name kids) = L := ⟨_, rfl⟩
  have HL := Lib.hid hL
  have hL30 := nmV_short 2 (.mk op n name kids)
  rw [hL] at hL30
  clear hL
  obtain ⟨is, hval⟩ : ∃ is, valE (.mk op n name kids) = is := ⟨_, rfl⟩
  have HV := Lib.hid hval
  clear hval
  have HZ := Lib.hid hz
  clear hz
  have e2 : Below (w1.alloc (.cells #[.int .i64 op, .int .i64 n, .string name, .slice A3 kids.length c3] 25)).heap.size (w1.alloc (.cells #[.int .i64 op, .int .i64 n, .string name, .slice A3 kids.length c3] 25)) (w1.alloc (.cells #[.int .i64 op, .int .i64 n, .string name, .slice A3 kids.length c3] 25)) := Below.refl _ _
  have y0 : (w1.alloc (.cells #[.int .i64 op, .int .i64 n, .string name, .slice A3 kids.length c3] 25)).cell? ⟨w1.heap.size, 0, none⟩ = some (.int .i64 op) := R2.cell 0
  have y1 : (w1.alloc (.cells #[.int .i64 op, .int .i64 n, .string name, .slice A3 kids.length c3] 25)).cell? ⟨w1.heap.size, 1, none⟩ = some (.int .i64 n) := R2.cell 1
  have y2 : (w1.alloc (.cells #[.int .i64 op, .int .i64 n, .string name, .slice A3 kids.length c3] 25)).cell? ⟨w1.heap.size, 2, none⟩ = some (.string name) := R2.cell 2
  have y3 : (w1.alloc (.cells #[.int .i64 op, .int .i64 n, .string name, .slice A3 kids.length c3] 25)).cell? ⟨w1.heap.size, 3, none⟩ = some (.slice A3 kids.length c3) := R2.cell 3
  go_wp2_with fail
  refine (impl_VarsOf 9 op n name kids (.slice A3 kids.length c3) _ w.heap.size w1.heap.size (Nat.le_trans (Nat.le_of_lt hs2) (e2).size) ho hn64 hnm (h32.below e2 (Nat.le_of_lt hs2)) (HT.out _ hb2)).mono ?_
  rw [HL.out]
  rintro e w3 ⟨v3, rfl, hl3, x3⟩
  have p3 := hl3 false
  clear hl3
  obtain ⟨A103, c103, hf3, hlc3, hcm3⟩ := p3.form
  subst hf3
  have hb3 : Below w.heap.size w w3 := hb2.trans (x3.mono hb2.size)
  have e3 := e2.trans (x3.mono e2.size)
  have R3 := R2.below x3 R2.lt
  have ya0 : w3.cell? ⟨w1.heap.size, 0, none⟩ = some (.int .i64 op) := R3.cell 0
  have ya1 : w3.cell? ⟨w1.heap.size, 1, none⟩ = some (.int .i64 n) := R3.cell 1
  have ya2 : w3.cell? ⟨w1.heap.size, 2, none⟩ = some (.string name) := R3.cell 2
  have ya3 : w3.cell? ⟨w1.heap.size, 3, none⟩ = some (.slice A3 kids.length c3) := R3.cell 3
  go_wp2_with fail
  refine (spec_VarsOf 9 op n name kids (.slice A3 kids.length c3) _ w.heap.size w1.heap.size (Nat.le_trans (Nat.le_of_lt hs2) (e3).size) ho hn64 hnm (h32.below e3 (Nat.le_of_lt hs2))).mono ?_
  rw [HL.out]
  rintro e w4 ⟨v4, rfl, hl4, x4⟩
  have p4 := hl4 false
  clear hl4
  obtain ⟨A104, c104, hf4, hlc4, hcm4⟩ := p4.form
  subst hf4
  have hb4 : Below w.heap.size w w4 := hb3.trans (x4.mono hb3.size)
  have e4 := e3.trans (x4.mono e3.size)
  have R4 := R3.below x4 R3.lt
  have p34 := p3.below x4 (Nat.le_refl _)
  go_wp2_with fail
  refine (names_ok L _ _ w4 _ _ _ _ x4.size (Nat.le_refl _) p34 p4).mono ?_
  rintro e w5 ⟨rfl, x5⟩
  have hb5 : Below w.heap.size w w5 := hb4.trans (x5.mono hb4.size)
  have e5 := e4.trans (x5.mono e4.size)
  have R5 := R4.below x5 R4.lt
  have p35 := p34.below x5 x4.size
  have yb0 : w5.cell? ⟨w1.heap.size, 0, none⟩ = some (.int .i64 op) := R5.cell 0
  have yb1 : w5.cell? ⟨w1.heap.size, 1, none⟩ = some (.int .i64 n) := R5.cell 1
  have yb2 : w5.cell? ⟨w1.heap.size, 2, none⟩ = some (.string name) := R5.cell 2
  have yb3 : w5.cell? ⟨w1.heap.size, 3, none⟩ = some (.slice A3 kids.length c3) := R5.cell 3
  go_wp2_with fail
  refine (impl_ExprValid 9 op n name kids (.slice A3 kids.length c3) _ w.heap.size w1.heap.size (Nat.le_trans (Nat.le_of_lt hs2) (e5).size) ho hn64 hnm (h32.below e5 (Nat.le_of_lt hs2)) (HT.out _ hb5)).mono ?_
  rw [HV.out]
  rintro e w6 ⟨rfl, x6⟩
  have hb6 : Below w.heap.size w w6 := hb5.trans (x6.mono hb5.size)
  have e6 := e5.trans (x6.mono e5.size)
  have R6 := R5.below x6 R5.lt
  have z35 := Nat.le_trans x4.size x5.size
  have p36 := p35.below x6 z35
  have z36 := Nat.le_trans z35 x6.size
  clear p3 p34 p35 p4 y0 y1 y2 y3 ya0 ya1 ya2 ya3 yb0 yb1 yb2 yb3
  have yc0 : w6.cell? ⟨w1.heap.size, 0, none⟩ = some (.int .i64 op) := R6.cell 0
  have yc1 : w6.cell? ⟨w1.heap.size, 1, none⟩ = some (.int .i64 n) := R6.cell 1
  have yc2 : w6.cell? ⟨w1.heap.size, 2, none⟩ = some (.string name) := R6.cell 2
  have yc3 : w6.cell? ⟨w1.heap.size, 3, none⟩ = some (.slice A3 kids.length c3) := R6.cell 3
  cases is
  case false =>
    obtain rfl : L = [] := by rw [← HL.out, nmV_no HV.out]
    go_wp2_with fail
    refine (spec_VarsOf 9 op n name kids (.slice A3 kids.length c3) _ w.heap.size w1.heap.size (Nat.le_trans (Nat.le_of_lt hs2) (e6).size) ho hn64 hnm (h32.below e6 (Nat.le_of_lt hs2))).mono ?_
    rw [HL.out]
    rintro e w7 ⟨v7, rfl, hl7, x7⟩
    have p7 := hl7 false
    clear hl7
    obtain ⟨A107, c107, hf7, hlc7, hcm7⟩ := p7.form
    subst hf7
    have hb7 : Below w.heap.size w w7 := hb6.trans (x7.mono hb6.size)
    have e7 := e6.trans (x7.mono e6.size)
    have R7 := R6.below x7 R6.lt
    have p37 := p36.below x7 z36
    go_wp2_with fail
    refine (names_ok [] _ _ w7 _ _ _ _ (Nat.le_trans z36 x7.size) (Nat.le_refl _) p37 p7).mono ?_
    rintro e w8 ⟨rfl, x8⟩
    have hb8 : Below w.heap.size w w8 := hb7.trans (x8.mono hb7.size)
    have e8 := e7.trans (x8.mono e7.size)
    have R8 := R7.below x8 R7.lt
    go_wp2_with fail
    go_ret
    exact ⟨rfl, hb8⟩
  case true =>
    have sA := (Below.refl _ w6).alloc (Nat.le_refl _) (.cells #[.int .i64 1, .int .i64 0, .string ⟨#[]⟩, .slice none 0 0] 25)
    have hs1A : (w6.alloc (.cells #[.int .i64 1, .int .i64 0, .string ⟨#[]⟩, .slice none 0 0] 25)).heap.size = w6.heap.size + 1 := by simp
    have sB : Below w6.heap.size w6 ((w6.alloc (.cells #[.int .i64 1, .int .i64 0, .string ⟨#[]⟩, .slice none 0 0] 25)).alloc (.cells #[.int .i64 op, .int .i64 n, .string name, .slice A3 kids.length c3] 25)) := sA.alloc (by simp) (.cells #[.int .i64 op, .int .i64 n, .string name, .slice A3 kids.length c3] 25)
    have REB : Row ((w6.alloc (.cells #[.int .i64 1, .int .i64 0, .string ⟨#[]⟩, .slice none 0 0] 25)).alloc (.cells #[.int .i64 op, .int .i64 n, .string name, .slice A3 kids.length c3] 25)) w1.heap.size 25 #[.int .i64 op, .int .i64 n, .string name, .slice A3 kids.length c3] := (R6.alloc _).alloc _
    have ROB : Row ((w6.alloc (.cells #[.int .i64 1, .int .i64 0, .string ⟨#[]⟩, .slice none 0 0] 25)).alloc (.cells #[.int .i64 op, .int .i64 n, .string name, .slice A3 kids.length c3] 25)) w6.heap.size 25 #[.int .i64 1, .int .i64 0, .string ⟨#[]⟩, .slice none 0 0] := (Row.new w6 _ _).alloc _
    have RZB : Row ((w6.alloc (.cells #[.int .i64 1, .int .i64 0, .string ⟨#[]⟩, .slice none 0 0] 25)).alloc (.cells #[.int .i64 op, .int .i64 n, .string name, .slice A3 kids.length c3] 25)) (w6.heap.size + 1) 25 #[.int .i64 op, .int .i64 n, .string name, .slice A3 kids.length c3] := by simpa using Row.new (w6.alloc (.cells #[.int .i64 1, .int .i64 0, .string ⟨#[]⟩, .slice none 0 0] 25)) 25 #[.int .i64 op, .int .i64 n, .string name, .slice A3 kids.length c3]
    have hbB := hb6.trans (sB.mono hb6.size)
    have eB := e6.trans (sB.mono e6.size)
    have pB := p36.below sB z36
    have h3B := h32.below eB (Nat.le_of_lt hs2)
    have RE0 := R6.alloc (.cells #[.int .i64 1, .int .i64 0, .string ⟨#[]⟩, .slice none 0 0] 25)
    have yd0 : (w6.alloc (.cells #[.int .i64 1, .int .i64 0, .string ⟨#[]⟩, .slice none 0 0] 25)).cell? ⟨w1.heap.size, 0, none⟩ = some (.int .i64 op) := RE0.cell 0
    have yd1 : (w6.alloc (.cells #[.int .i64 1, .int .i64 0, .string ⟨#[]⟩, .slice none 0 0] 25)).cell? ⟨w1.heap.size, 1, none⟩ = some (.int .i64 n) := RE0.cell 1
    have yd2 : (w6.alloc (.cells #[.int .i64 1, .int .i64 0, .string ⟨#[]⟩, .slice none 0 0] 25)).cell? ⟨w1.heap.size, 2, none⟩ = some (.string name) := RE0.cell 2
    have yd3 : (w6.alloc (.cells #[.int .i64 1, .int .i64 0, .string ⟨#[]⟩, .slice none 0 0] 25)).cell? ⟨w1.heap.size, 3, none⟩ = some (.slice A3 kids.length c3) := RE0.cell 3
    have hs16 : w1.heap.size < w6.heap.size := R6.lt
    have HND : Hid L.Nodup := HL.out ▸ vars_nodup HV.out
    obtain ⟨pe, hpe⟩ : ∃ pe, partsE (.mk op n name kids) = pe := ⟨_, rfl⟩
    have HPE := Lib.hid hpe
    clear hpe
    clear yc0 yc1 yc2 yc3
    go_wp2_with fail
    go_loopw [45] (fun i wr => ∃ (k D lo' B' : Nat) (zop zn : Int) (zname : ByteArray) (zkids : List Ex) (A13 : Option Addr) (c13 : Nat), k ≤ L.length ∧ i = .int .i64 (k : Int) ∧ Row wr w1.heap.size 25 #[.int .i64 op, .int .i64 n, .string name, .slice A3 kids.length c3] ∧ Row wr w6.heap.size 25 #[.int .i64 1, .int .i64 0, .string ⟨#[]⟩, .slice none 0 0] ∧ Row wr (w6.heap.size + 1) 25 #[.int .i64 zop, .int .i64 zn, .string zname, .slice A13 zkids.length c13] ∧ I64 zop ∧ I64 zn ∧ zname.size ≤ maxLen ∧ Sl false (exS false D) wr lo' B' zkids (.slice A13 zkids.length c13) ∧ (B' ≤ w6.heap.size + 1 ∨ w6.heap.size + 1 < lo') ∧ B' ≤ wr.heap.size ∧ Hid (valE (.mk zop zn zname zkids) = true) ∧ Hid (partsE (.mk zop zn zname zkids) = pe) ∧ Hid (∀ s ∈ flE 2 (.mk zop zn zname zkids), s ∈ flE 2 (.mk op n name kids) ∧ ¬ s ∈ L.take k) ∧ Below (w6.heap.size + 1) ((w6.alloc (.cells #[.int .i64 1, .int .i64 0, .string ⟨#[]⟩, .slice none 0 0] 25)).alloc (.cells #[.int .i64 op, .int .i64 n, .string name, .slice A3 kids.length c3] 25)) wr) (fun i _ => L.length - (intOf i).toNat)
    case atStart => exact ⟨0, 9, w.heap.size, w1.heap.size, op, n, name, kids, A3, c3, by omega, rfl, REB, ROB, RZB, ho, hn64, hnm, h3B, Or.inl (by omega), by have := REB.lt; omega, HV, HPE, (fun s hs => ⟨hs, by simp⟩), Below.refl _ _⟩
    case round =>
      obtain ⟨k, D, lo', B', zop, zn, zname, zkids, A13, c13, hk, rfl, RE, RO, RZ, zo, zn64, znm, hx3, hx4, hx5, HZV, HZP, HZF, q0⟩ := hrel
      obtain ⟨wk, hwk⟩ : ∃ x, x = wr := ⟨_, rfl⟩
      subst hwk
      have hbk : Below w.heap.size w wk := hbB.trans (q0.mono (by have := hb6.size; omega))
      have h3k := h3B.below q0 (by omega)
      have pk := pB.below q0 (by omega)
      have hl6 := RZ.lt
      by_cases hkl : k < L.length
      · obtain ⟨bt, ot, t, hAt, _, _, HTt, htm, ct0⟩ := str_get pk hkl
        subst hAt
        have hkn : (k : Int) < (L.length : Int) := by omega
        have hki : (0 : Int) ≤ (k : Int) := by omega
        have hkc : k ≤ c103 := by omega
        have HTL : Hid (t ∈ nmV 2 (.mk op n name kids)) := HL.out ▸ HTt.out ▸ List.getElem_mem hkl
        go_wp2_with fail
        go_loopw [54] (fun i w3r => ∃ p : Nat, p ≤ k ∧ i = .int .i64 (p : Int) ∧ wk = w3r) (fun i _ => k - (intOf i).toNat)
        case atStart => exact ⟨0, by omega, rfl, rfl⟩
        case round =>
          obtain ⟨p, hp, rfl, rfl⟩ := hrel
          by_cases hpl : p < k
          · obtain ⟨bo, oo, u, hAo, _, _, HU, hum, cu0⟩ := str_get pk (show p < L.length by omega)
            injection hAo with hAo
            injection hAo with eo1 eo2
            subst eo1 eo2
            have hpn : (p : Int) < (k : Int) := by omega
            have hpi : (0 : Int) ≤ (p : Int) := by omega
            have hpL : (p : Int) < (L.length : Int) := by omega
            have hne : (u.toList == t.toList) = false := ba_ne (by rw [← HU.out, ← HTt.out]; exact nodup_ne HND.out hpl hkl)
            go_wp2_with fail
            go_roundw
            case rel => exact ⟨p + 1, by omega, by go_num, by first | rfl | trivial⟩
            case measure => simp [intOf]; omega
          · clear ct0
            have ge0 : wk.cell? ⟨w1.heap.size, 0, none⟩ = some (.int .i64 op) := RE.cell 0
            have ge1 : wk.cell? ⟨w1.heap.size, 1, none⟩ = some (.int .i64 n) := RE.cell 1
            have ge2 : wk.cell? ⟨w1.heap.size, 2, none⟩ = some (.string name) := RE.cell 2
            have ge3 : wk.cell? ⟨w1.heap.size, 3, none⟩ = some (.slice A3 kids.length c3) := RE.cell 3
            have go0 : wk.cell? ⟨w6.heap.size, 0, none⟩ = some (.int .i64 1) := RO.cell 0
            have go1 : wk.cell? ⟨w6.heap.size, 1, none⟩ = some (.int .i64 0) := RO.cell 1
            have go2 : wk.cell? ⟨w6.heap.size, 2, none⟩ = some (.string ⟨#[]⟩) := RO.cell 2
            have go3 : wk.cell? ⟨w6.heap.size, 3, none⟩ = some (.slice none 0 0) := RO.cell 3
            have gz0 : wk.cell? ⟨w6.heap.size + 1, 0, none⟩ = some (.int .i64 zop) := RZ.cell 0
            have gz1 : wk.cell? ⟨w6.heap.size + 1, 1, none⟩ = some (.int .i64 zn) := RZ.cell 1
            have gz2 : wk.cell? ⟨w6.heap.size + 1, 2, none⟩ = some (.string zname) := RZ.cell 2
            have gz3 : wk.cell? ⟨w6.heap.size + 1, 3, none⟩ = some (.slice A13 zkids.length c13) := RZ.cell 3
            have gf0 : wk.frozen? ⟨w6.heap.size + 1, 0, none⟩ = false := RZ.frozen 0
            have gf1 : wk.frozen? ⟨w6.heap.size + 1, 1, none⟩ = false := RZ.frozen 1
            have gf2 : wk.frozen? ⟨w6.heap.size + 1, 2, none⟩ = false := RZ.frozen 2
            have gf3 : wk.frozen? ⟨w6.heap.size + 1, 3, none⟩ = false := RZ.frozen 3
            go_wp2_with fail
            refine (impl_putNum 0 (by omega) (by omega) t 9 op n name kids _ _ w.heap.size w1.heap.size (by omega) ho hn64 hnm h3k (HT.out _ hbk) HV.out).mono ?_
            rintro e w9 ⟨yop, yn, yname, ykids, A14, c14, rfl, hy, yo, yn64, ynm, hy3, x9⟩
            have RE9 := RE.below x9 RE.lt
            have RO9 := RO.below x9 RO.lt
            have RZ9 := RZ.below x9 RZ.lt
            have hb9 : Below w.heap.size w w9 := hbk.trans (x9.mono hbk.size)
            have q9 : Below (w6.heap.size + 1) ((w6.alloc (.cells #[.int .i64 1, .int .i64 0, .string ⟨#[]⟩, .slice none 0 0] 25)).alloc (.cells #[.int .i64 op, .int .i64 n, .string name, .slice A3 kids.length c3] 25)) w9 := q0.trans (x9.mono (Nat.le_of_lt RZ.lt))
            have HNE : Hid (¬ Ex.mk yop yn yname ykids = .mk op n name kids) := hy ▸ put_ne HV.out HTL.out
            have HVY : Hid ((nmV 2 (.mk yop yn yname ykids)).length + 1 = L.length) := by
              have := vars_drop HV.out HTL.out
              rw [hy, HL.out] at this
              exact this
            clear hy ge0 go0 gz0 gf0 ge1 go1 gz1 gf1 ge2 go2 gz2 gf2 ge3 go3 gz3 gf3
            have x10 := (Below.refl _ w9).alloc (Nat.le_refl _) (.cells #[.int .i64 yop, .int .i64 yn, .string yname, .slice A14 ykids.length c14] 25)
            have RE10 := RE9.alloc (.cells #[.int .i64 yop, .int .i64 yn, .string yname, .slice A14 ykids.length c14] 25)
            have RO10 := RO9.alloc (.cells #[.int .i64 yop, .int .i64 yn, .string yname, .slice A14 ykids.length c14] 25)
            have RZ10 := RZ9.alloc (.cells #[.int .i64 yop, .int .i64 yn, .string yname, .slice A14 ykids.length c14] 25)
            have RY10 : Row (w9.alloc (.cells #[.int .i64 yop, .int .i64 yn, .string yname, .slice A14 ykids.length c14] 25)) w9.heap.size 25 #[.int .i64 yop, .int .i64 yn, .string yname, .slice A14 ykids.length c14] := Row.new _ _ _
            have hb10 := hb9.trans (x10.mono hb9.size)
            have q10 := q9.trans (x10.mono (Nat.le_of_lt RZ9.lt))
            have hy10 := hy3.below x10 (Nat.le_refl _)
            have h310 := (h3k.below x9 (by omega)).below x10 (by have := x9.size; omega)
            have hw39 := x9.size
            have he0 : (w9.alloc (.cells #[.int .i64 yop, .int .i64 yn, .string yname, .slice A14 ykids.length c14] 25)).cell? ⟨w1.heap.size, 0, none⟩ = some (.int .i64 op) := RE10.cell 0
            have he1 : (w9.alloc (.cells #[.int .i64 yop, .int .i64 yn, .string yname, .slice A14 ykids.length c14] 25)).cell? ⟨w1.heap.size, 1, none⟩ = some (.int .i64 n) := RE10.cell 1
            have he2 : (w9.alloc (.cells #[.int .i64 yop, .int .i64 yn, .string yname, .slice A14 ykids.length c14] 25)).cell? ⟨w1.heap.size, 2, none⟩ = some (.string name) := RE10.cell 2
            have he3 : (w9.alloc (.cells #[.int .i64 yop, .int .i64 yn, .string yname, .slice A14 ykids.length c14] 25)).cell? ⟨w1.heap.size, 3, none⟩ = some (.slice A3 kids.length c3) := RE10.cell 3
            have hy0 : (w9.alloc (.cells #[.int .i64 yop, .int .i64 yn, .string yname, .slice A14 ykids.length c14] 25)).cell? ⟨w9.heap.size, 0, none⟩ = some (.int .i64 yop) := RY10.cell 0
            have hy1 : (w9.alloc (.cells #[.int .i64 yop, .int .i64 yn, .string yname, .slice A14 ykids.length c14] 25)).cell? ⟨w9.heap.size, 1, none⟩ = some (.int .i64 yn) := RY10.cell 1
            have hy2 : (w9.alloc (.cells #[.int .i64 yop, .int .i64 yn, .string yname, .slice A14 ykids.length c14] 25)).cell? ⟨w9.heap.size, 2, none⟩ = some (.string yname) := RY10.cell 2
            have hy3 : (w9.alloc (.cells #[.int .i64 yop, .int .i64 yn, .string yname, .slice A14 ykids.length c14] 25)).cell? ⟨w9.heap.size, 3, none⟩ = some (.slice A14 ykids.length c14) := RY10.cell 3
            go_wp2_with fail
            refine (impl_SameExpr 12 yop yn yname ykids _ 9 op n name kids _ _ wk.heap.size w9.heap.size w.heap.size w1.heap.size x10.size (by have := x10.size; omega) hy10 h310).mono ?_
            rintro e w11 ⟨he11, x11⟩
            rw [eqB_false HNE.out] at he11
            subst he11
            have RE11 := RE10.below x11 RE10.lt
            have RO11 := RO10.below x11 RO10.lt
            have RZ11 := RZ10.below x11 RZ10.lt
            have RY11 := RY10.below x11 RY10.lt
            have hb11 : Below w.heap.size w w11 := hb10.trans (x11.mono hb10.size)
            have q11 : Below (w6.heap.size + 1) ((w6.alloc (.cells #[.int .i64 1, .int .i64 0, .string ⟨#[]⟩, .slice none 0 0] 25)).alloc (.cells #[.int .i64 op, .int .i64 n, .string name, .slice A3 kids.length c3] 25)) w11 := q10.trans (x11.mono (Nat.le_of_lt RZ10.lt))
            have hy11 := hy10.below x11 x10.size
            clear he0 hy0 he1 hy1 he2 hy2 he3 hy3
            have hy0 : w11.cell? ⟨w9.heap.size, 0, none⟩ = some (.int .i64 yop) := RY11.cell 0
            have hy1 : w11.cell? ⟨w9.heap.size, 1, none⟩ = some (.int .i64 yn) := RY11.cell 1
            have hy2 : w11.cell? ⟨w9.heap.size, 2, none⟩ = some (.string yname) := RY11.cell 2
            have hy3 : w11.cell? ⟨w9.heap.size, 3, none⟩ = some (.slice A14 ykids.length c14) := RY11.cell 3
            have hz11 := x11.size
            have hz10 := x10.size
            obtain ⟨VY, hVY⟩ : ∃ VY, nmV 2 (.mk yop yn yname ykids) = VY := ⟨_, rfl⟩
            have HVL := Lib.hid hVY
            have hvl := HVY.out
            rw [hVY] at hvl
            clear hVY HVY
            have tne : ((VY.length : Int) != (L.length : Int) - 1) = false := by rw [show (VY.length : Int) = (L.length : Int) - 1 by omega]; simp
            go_wp2_with fail
            refine (impl_VarsOf 12 yop yn yname ykids _ _ wk.heap.size w9.heap.size (Nat.le_trans hz10 hz11) yo yn64 ynm hy11 (HT.out _ hb11)).mono ?_
            rw [HVL.out]
            rintro e w12 ⟨v12, rfl, hl12, x12⟩
            have p12 := hl12 false
            clear hl12
            obtain ⟨A12, c12, hf12, _, hcm12⟩ := p12.form
            subst hf12
            have RE12 := RE11.below x12 RE11.lt
            have RO12 := RO11.below x12 RO11.lt
            have RZ12 := RZ11.below x12 RZ11.lt
            have hb12 : Below w.heap.size w w12 := hb11.trans (x12.mono hb11.size)
            have q12 : Below (w6.heap.size + 1) ((w6.alloc (.cells #[.int .i64 1, .int .i64 0, .string ⟨#[]⟩, .slice none 0 0] 25)).alloc (.cells #[.int .i64 op, .int .i64 n, .string name, .slice A3 kids.length c3] 25)) w12 := q11.trans (x12.mono (Nat.le_of_lt RZ11.lt))
            clear hy0 hy1 hy2 hy3
            have je0 : w12.cell? ⟨w1.heap.size, 0, none⟩ = some (.int .i64 op) := RE12.cell 0
            have je1 : w12.cell? ⟨w1.heap.size, 1, none⟩ = some (.int .i64 n) := RE12.cell 1
            have je2 : w12.cell? ⟨w1.heap.size, 2, none⟩ = some (.string name) := RE12.cell 2
            have je3 : w12.cell? ⟨w1.heap.size, 3, none⟩ = some (.slice A3 kids.length c3) := RE12.cell 3
            have jo0 : w12.cell? ⟨w6.heap.size, 0, none⟩ = some (.int .i64 1) := RO12.cell 0
            have jo1 : w12.cell? ⟨w6.heap.size, 1, none⟩ = some (.int .i64 0) := RO12.cell 1
            have jo2 : w12.cell? ⟨w6.heap.size, 2, none⟩ = some (.string ⟨#[]⟩) := RO12.cell 2
            have jo3 : w12.cell? ⟨w6.heap.size, 3, none⟩ = some (.slice none 0 0) := RO12.cell 3
            have jz0 : w12.cell? ⟨w6.heap.size + 1, 0, none⟩ = some (.int .i64 zop) := RZ12.cell 0
            have jz1 : w12.cell? ⟨w6.heap.size + 1, 1, none⟩ = some (.int .i64 zn) := RZ12.cell 1
            have jz2 : w12.cell? ⟨w6.heap.size + 1, 2, none⟩ = some (.string zname) := RZ12.cell 2
            have jz3 : w12.cell? ⟨w6.heap.size + 1, 3, none⟩ = some (.slice A13 zkids.length c13) := RZ12.cell 3
            have jf0 : w12.frozen? ⟨w6.heap.size + 1, 0, none⟩ = false := RZ12.frozen 0
            have jf1 : w12.frozen? ⟨w6.heap.size + 1, 1, none⟩ = false := RZ12.frozen 1
            have jf2 : w12.frozen? ⟨w6.heap.size + 1, 2, none⟩ = false := RZ12.frozen 2
            have jf3 : w12.frozen? ⟨w6.heap.size + 1, 3, none⟩ = false := RZ12.frozen 3
            have hx12 := ((((hx3.below x9 hx5).below x10 (Nat.le_trans hx5 hw39)).below x11 (Nat.le_trans (Nat.le_trans hx5 hw39) hz10)).below x12 (Nat.le_trans (Nat.le_trans (Nat.le_trans hx5 hw39) hz10) hz11))
            have hB12 := Nat.le_trans (Nat.le_trans (Nat.le_trans (Nat.le_trans hx5 hw39) hz10) hz11) x12.size
            go_wp2_with fail
            refine (impl_putNum 0 (by omega) (by omega) t D zop zn zname zkids _ _ lo' B' hB12 zo zn64 znm hx12 (HT.out _ hb12) HZV.out).mono ?_
            rintro e w13 ⟨uop, un, uname, ukids, A15, c15, rfl, hu, uo, un64, unm, hu3, x13⟩
            have RE13 := RE12.below x13 RE12.lt
            have RO13 := RO12.below x13 RO12.lt
            have RZ13 := RZ12.below x13 RZ12.lt
            have hb13 : Below w.heap.size w w13 := hb12.trans (x13.mono hb12.size)
            have q13 : Below (w6.heap.size + 1) ((w6.alloc (.cells #[.int .i64 1, .int .i64 0, .string ⟨#[]⟩, .slice none 0 0] 25)).alloc (.cells #[.int .i64 op, .int .i64 n, .string name, .slice A3 kids.length c3] 25)) w13 := q12.trans (x13.mono (Nat.le_of_lt RZ12.lt))
            have HUV : Hid (valE (.mk uop un uname ukids) = true) := hu ▸ (put_leaf (num_form (by omega) (by omega)) (num_parts 0) HZV.out).1
            have HUP : Hid (partsE (.mk uop un uname ukids) = pe) := by show _ = _; rw [← hu, (put_leaf (num_form (by omega) (by omega)) (num_parts 0) HZV.out).2, HZP.out]
            have HUF : Hid (∀ s ∈ flE 2 (.mk uop un uname ukids), s ∈ flE 2 (.mk op n name kids) ∧ ¬ s ∈ L.take (k + 1)) := by
              show ∀ s ∈ _, _
              have hvs := vars_step HZV.out hkl HZF.out
              rw [HTt.out, hu] at hvs
              exact hvs
            clear hu je0 jo0 jz0 jf0 je1 jo1 jz1 jf1 je2 jo2 jz2 jf2 je3 jo3 jz3 jf3
            have s0 : w13.cell? ⟨w6.heap.size + 1, 0, none⟩ = some (.int .i64 zop) := RZ13.cell 0
            have s1 : w13.cell? ⟨w6.heap.size + 1, 1, none⟩ = some (.int .i64 zn) := RZ13.cell 1
            have s2 : w13.cell? ⟨w6.heap.size + 1, 2, none⟩ = some (.string zname) := RZ13.cell 2
            have s3 : w13.cell? ⟨w6.heap.size + 1, 3, none⟩ = some (.slice A13 zkids.length c13) := RZ13.cell 3
            have sf0 : w13.frozen? ⟨w6.heap.size + 1, 0, none⟩ = false := RZ13.frozen 0
            have sf1 : w13.frozen? ⟨w6.heap.size + 1, 1, none⟩ = false := RZ13.frozen 1
            have sf2 : w13.frozen? ⟨w6.heap.size + 1, 2, none⟩ = false := RZ13.frozen 2
            have sf3 : w13.frozen? ⟨w6.heap.size + 1, 3, none⟩ = false := RZ13.frozen 3
            have RZ14 := (((RZ13.set_ 0 (.int .i64 uop)).set_ 1 (.int .i64 un)).set_ 2 (.string uname)).set_ 3 (.slice A15 ukids.length c15)
            have RE14 : Row ((((w13.setCell ⟨w6.heap.size + 1, 0, none⟩ (.int .i64 uop)).setCell ⟨w6.heap.size + 1, 1, none⟩ (.int .i64 un)).setCell ⟨w6.heap.size + 1, 2, none⟩ (.string uname)).setCell ⟨w6.heap.size + 1, 3, none⟩ (.slice A15 ukids.length c15)) w1.heap.size 25 #[.int .i64 op, .int .i64 n, .string name, .slice A3 kids.length c3] := (set4_block w13 (w6.heap.size + 1) _ _ _ _ _ (by omega)).trans RE13
            have RO14 : Row ((((w13.setCell ⟨w6.heap.size + 1, 0, none⟩ (.int .i64 uop)).setCell ⟨w6.heap.size + 1, 1, none⟩ (.int .i64 un)).setCell ⟨w6.heap.size + 1, 2, none⟩ (.string uname)).setCell ⟨w6.heap.size + 1, 3, none⟩ (.slice A15 ukids.length c15)) w6.heap.size 25 #[.int .i64 1, .int .i64 0, .string ⟨#[]⟩, .slice none 0 0] := (set4_block w13 (w6.heap.size + 1) _ _ _ _ _ (by omega)).trans RO13
            have q14 : Below (w6.heap.size + 1) ((w6.alloc (.cells #[.int .i64 1, .int .i64 0, .string ⟨#[]⟩, .slice none 0 0] 25)).alloc (.cells #[.int .i64 op, .int .i64 n, .string name, .slice A3 kids.length c3] 25)) ((((w13.setCell ⟨w6.heap.size + 1, 0, none⟩ (.int .i64 uop)).setCell ⟨w6.heap.size + 1, 1, none⟩ (.int .i64 un)).setCell ⟨w6.heap.size + 1, 2, none⟩ (.string uname)).setCell ⟨w6.heap.size + 1, 3, none⟩ (.slice A15 ukids.length c15)) := q13.trans (set4_below w13 (w6.heap.size + 1) _ _ _ _ (Nat.le_refl _))
            have hlt12 := RZ12.lt
            have hu14 : Sl false (exS false 12) ((((w13.setCell ⟨w6.heap.size + 1, 0, none⟩ (.int .i64 uop)).setCell ⟨w6.heap.size + 1, 1, none⟩ (.int .i64 un)).setCell ⟨w6.heap.size + 1, 2, none⟩ (.string uname)).setCell ⟨w6.heap.size + 1, 3, none⟩ (.slice A15 ukids.length c15)) w12.heap.size w13.heap.size ukids (.slice A15 ukids.length c15) := hu3.keep (Nat.le_refl _) (Nat.le_refl _) (fun b h1 h2 => set4_block w13 (w6.heap.size + 1) _ _ _ _ b (by omega))
            have hsz14 : w13.heap.size ≤ ((((w13.setCell ⟨w6.heap.size + 1, 0, none⟩ (.int .i64 uop)).setCell ⟨w6.heap.size + 1, 1, none⟩ (.int .i64 un)).setCell ⟨w6.heap.size + 1, 2, none⟩ (.string uname)).setCell ⟨w6.heap.size + 1, 3, none⟩ (.slice A15 ukids.length c15)).heap.size := Nat.le_of_eq (set4_size w13 (w6.heap.size + 1) _ _ _ _).symm
            clear hu3 hx12 hx3 hy3 hy10 hy11 p12 HZV HZP HZF HNE HVL tne
            go_wp2_with fail
            go_roundw
            case rel => exact ⟨k + 1, 12, _, _, uop, un, uname, ukids, A15, c15, by omega, by go_num, RE14, RO14, RZ14, uo, un64, unm, hu14, Or.inr hlt12, hsz14, HUV, HUP, HUF, q14⟩
            case measure => simp [intOf]; omega
      · obtain rfl : k = L.length := by omega
        clear pk pB p36
        have ge0 : wk.cell? ⟨w1.heap.size, 0, none⟩ = some (.int .i64 op) := RE.cell 0
        have ge1 : wk.cell? ⟨w1.heap.size, 1, none⟩ = some (.int .i64 n) := RE.cell 1
        have ge2 : wk.cell? ⟨w1.heap.size, 2, none⟩ = some (.string name) := RE.cell 2
        have ge3 : wk.cell? ⟨w1.heap.size, 3, none⟩ = some (.slice A3 kids.length c3) := RE.cell 3
        have go0 : wk.cell? ⟨w6.heap.size, 0, none⟩ = some (.int .i64 1) := RO.cell 0
        have go1 : wk.cell? ⟨w6.heap.size, 1, none⟩ = some (.int .i64 0) := RO.cell 1
        have go2 : wk.cell? ⟨w6.heap.size, 2, none⟩ = some (.string ⟨#[]⟩) := RO.cell 2
        have go3 : wk.cell? ⟨w6.heap.size, 3, none⟩ = some (.slice none 0 0) := RO.cell 3
        go_wp2_with fail
        refine (impl_putNum 0 (by omega) (by omega) ⟨#[122, 122]⟩ 9 op n name kids _ _ w.heap.size w1.heap.size (by omega) ho hn64 hnm h3k (HT.out _ hbk) HV.out).mono ?_
        have hpz : putE 6 ⟨#[122, 122]⟩ (.mk 1 0 ⟨#[]⟩ []) (.mk op n name kids) = .mk op n name kids := put_id 6 _ HZ.out
        rw [hpz]
        clear hpz
        rintro e w9 ⟨yop, yn, yname, ykids, A14, c14, rfl, hy, yo, yn64, ynm, hy3, x9⟩
        injection hy with h_1 h_2 h_3 h_4
        subst h_1 h_2 h_3 h_4
        have RE9 := RE.below x9 RE.lt
        have RZ9 := RZ.below x9 RZ.lt
        have hb9 : Below w.heap.size w w9 := hbk.trans (x9.mono hbk.size)
        have x10 := (Below.refl _ w9).alloc (Nat.le_refl _) (.cells #[.int .i64 op, .int .i64 n, .string name, .slice A14 kids.length c14] 25)
        have hb10 : Below w.heap.size w (w9.alloc (.cells #[.int .i64 op, .int .i64 n, .string name, .slice A14 kids.length c14] 25)) := hb9.trans (x10.mono hb9.size)
        have RE10 := RE9.alloc (.cells #[.int .i64 op, .int .i64 n, .string name, .slice A14 kids.length c14] 25)
        have RZ10 := RZ9.alloc (.cells #[.int .i64 op, .int .i64 n, .string name, .slice A14 kids.length c14] 25)
        have RY10 : Row (w9.alloc (.cells #[.int .i64 op, .int .i64 n, .string name, .slice A14 kids.length c14] 25)) w9.heap.size 25 #[.int .i64 op, .int .i64 n, .string name, .slice A14 kids.length c14] := Row.new _ _ _
        have hy10 := hy3.below x10 (Nat.le_refl _)
        have h310 := (h3k.below x9 (by omega)).below x10 (by have := x9.size; omega)
        have hz10 := (hx3.below x9 hx5).below x10 (Nat.le_trans hx5 x9.size)
        have hq9 := x10.size
        have hq1 : w1.heap.size ≤ (w9.alloc (.cells #[.int .i64 op, .int .i64 n, .string name, .slice A14 kids.length c14] 25)).heap.size := by have := x9.size; omega
        have hqB := Nat.le_trans (Nat.le_trans hx5 x9.size) x10.size
        have HVZ : Hid (nmV 2 (.mk zop zn zname zkids) = []) := by
          show _ = _
          rw [nmV_dd HZV.out, dd_eq_nil]
          refine List.eq_nil_iff_forall_not_mem.2 fun s hs => ?_
          obtain ⟨h1, h2⟩ := HZF.out s hs
          rw [List.take_length, ← HL.out, vars_mem HV.out] at h2
          exact h2 h1
        have HCZ : Hid (cntE (.mk zop zn zname zkids) = pe) := (cntE_val HZV.out).trans HZP.out
        have HCE : Hid (cntE (.mk op n name kids) = pe) := (cntE_val HV.out).trans HPE.out
        clear hx3 hy3 HZV HZP HZF ge0 go0 ge1 go1 ge2 go2 ge3 go3
        go_wp2_with fail
        generalize hw10 : (w9.alloc (.cells #[.int .i64 op, .int .i64 n, .string name, .slice A14 kids.length c14] 25)) = w10 at x10 hb10 RE10 RZ10 RY10 hy10 h310 hz10 hq9 hq1 hqB ⊢
        have s0E0 : w10.cell? ⟨w1.heap.size, 0, none⟩ = some (.int .i64 op) := RE10.cell 0
        have s0E1 : w10.cell? ⟨w1.heap.size, 1, none⟩ = some (.int .i64 n) := RE10.cell 1
        have s0E2 : w10.cell? ⟨w1.heap.size, 2, none⟩ = some (.string name) := RE10.cell 2
        have s0E3 : w10.cell? ⟨w1.heap.size, 3, none⟩ = some (.slice A3 kids.length c3) := RE10.cell 3
        have s0Z0 : w10.cell? ⟨w6.heap.size + 1, 0, none⟩ = some (.int .i64 zop) := RZ10.cell 0
        have s0Z1 : w10.cell? ⟨w6.heap.size + 1, 1, none⟩ = some (.int .i64 zn) := RZ10.cell 1
        have s0Z2 : w10.cell? ⟨w6.heap.size + 1, 2, none⟩ = some (.string zname) := RZ10.cell 2
        have s0Z3 : w10.cell? ⟨w6.heap.size + 1, 3, none⟩ = some (.slice A13 zkids.length c13) := RZ10.cell 3
        have s0Y0 : w10.cell? ⟨w9.heap.size, 0, none⟩ = some (.int .i64 op) := RY10.cell 0
        have s0Y1 : w10.cell? ⟨w9.heap.size, 1, none⟩ = some (.int .i64 n) := RY10.cell 1
        have s0Y2 : w10.cell? ⟨w9.heap.size, 2, none⟩ = some (.string name) := RY10.cell 2
        have s0Y3 : w10.cell? ⟨w9.heap.size, 3, none⟩ = some (.slice A14 kids.length c14) := RY10.cell 3
        have g0 : Below w.heap.size w w10.drew := hb10.drew
        have f0 : Below w10.heap.size w10 w10.drew := (Below.refl _ _).drew
        have RE0_ : Row w10.drew (w1.heap.size) 25 #[.int .i64 op, .int .i64 n, .string name, .slice A3 kids.length c3] := RE10
        have RZ0_ : Row w10.drew (w6.heap.size + 1) 25 #[.int .i64 zop, .int .i64 zn, .string zname, .slice A13 zkids.length c13] := RZ10
        have RY0_ : Row w10.drew (w9.heap.size) 25 #[.int .i64 op, .int .i64 n, .string name, .slice A14 kids.length c14] := RY10
        have hy0 := hy10.below f0 hq9
        have h30 := h310.below f0 hq1
        have hz0 := hz10.below f0 hqB
        have hq1' := hq1
        refine wp_region_held_drew (S := fun w' => (w'.cell? ⟨w1.heap.size, 0, none⟩ = some (.int .i64 op) ∧ w'.cell? ⟨w1.heap.size, 1, none⟩ = some (.int .i64 n) ∧ w'.cell? ⟨w1.heap.size, 2, none⟩ = some (.string name) ∧ w'.cell? ⟨w1.heap.size, 3, none⟩ = some (.slice A3 kids.length c3) ∧ w'.cell? ⟨w6.heap.size + 1, 0, none⟩ = some (.int .i64 zop) ∧ w'.cell? ⟨w6.heap.size + 1, 1, none⟩ = some (.int .i64 zn) ∧ w'.cell? ⟨w6.heap.size + 1, 2, none⟩ = some (.string zname) ∧ w'.cell? ⟨w6.heap.size + 1, 3, none⟩ = some (.slice A13 zkids.length c13) ∧ w'.cell? ⟨w9.heap.size, 0, none⟩ = some (.int .i64 op) ∧ w'.cell? ⟨w9.heap.size, 1, none⟩ = some (.int .i64 n) ∧ w'.cell? ⟨w9.heap.size, 2, none⟩ = some (.string name) ∧ w'.cell? ⟨w9.heap.size, 3, none⟩ = some (.slice A14 kids.length c14))) (by kernel_rfl) ?_ (fun hHeld => ?_)
        · ((try dsimp only); refine ⟨?_, ?_, ?_, ?_, ?_, ?_, ?_, ?_, ?_, ?_, ?_, ?_⟩ <;> assumption)
        refine reg_take (i := 0) (v := ?v1) rfl (by kernel_rfl) (by kernel_rfl) (by kernel_rfl) (fun _ _ _ h => h) (Or.inl ⟨by kernel_rfl, ?h1⟩) (by assumption) ?r1
        case h1 => (intro w hSw; (try dsimp only at hSw); go_simp; try with_reducible rfl)
        try simp only [Act.put, List.setIfInBounds_toArray, List.set_cons_zero, List.set_cons_succ]
        refine reg_take (i := 1) (v := ?v2) rfl (by kernel_rfl) (by kernel_rfl) (by kernel_rfl) (fun _ _ _ h => h) (Or.inl ⟨by kernel_rfl, ?h2⟩) (by assumption) ?r2
        case h2 => (intro w hSw; (try dsimp only at hSw); go_simp; try with_reducible rfl)
        try simp only [Act.put, List.setIfInBounds_toArray, List.set_cons_zero, List.set_cons_succ]
        refine reg_take (i := 2) (v := ?v3) rfl (by kernel_rfl) (by kernel_rfl) (by kernel_rfl) (fun _ _ _ h => h) (Or.inl ⟨by kernel_rfl, ?h3⟩) (by assumption) ?r3
        case h3 => (intro w hSw; (try dsimp only at hSw); go_simp; try with_reducible rfl)
        try simp only [Act.put, List.setIfInBounds_toArray, List.set_cons_zero, List.set_cons_succ]
        refine reg_take (i := 3) (v := ?v4) rfl (by kernel_rfl) (by kernel_rfl) (by kernel_rfl) (fun _ _ _ h => h) (Or.inl ⟨by kernel_rfl, ?h4⟩) (by assumption) ?r4
        case h4 => (intro w hSw; (try dsimp only at hSw); go_simp; try with_reducible rfl)
        try simp only [Act.put, List.setIfInBounds_toArray, List.set_cons_zero, List.set_cons_succ]
        refine reg_call (i := 4) (by kernel_rfl) rfl (fun K hK => ?_)
        go_simp
        refine (impl_SameExpr 12 op n name kids (.slice A14 kids.length c14) 9 op n name kids (.slice A3 kids.length c3) w10.drew wk.heap.size w9.heap.size w.heap.size w1.heap.size hq9 hq1 hy0 h30).mono ?_; rintro e v1 ⟨he1, x_1⟩; have g1 : Below w.heap.size w v1 := g0.trans (x_1.mono g0.size); have f1 := f0.trans (x_1.mono f0.size); rw [eqB_true rfl] at he1; subst he1; have RE1_ := RE0_.below x_1 RE0_.lt; have RZ1_ := RZ0_.below x_1 RZ0_.lt; have RY1_ := RY0_.below x_1 RY0_.lt; have s1E0 : v1.cell? ⟨w1.heap.size, 0, none⟩ = some (.int .i64 op) := RE1_.cell 0; have s1E1 : v1.cell? ⟨w1.heap.size, 1, none⟩ = some (.int .i64 n) := RE1_.cell 1; have s1E2 : v1.cell? ⟨w1.heap.size, 2, none⟩ = some (.string name) := RE1_.cell 2; have s1E3 : v1.cell? ⟨w1.heap.size, 3, none⟩ = some (.slice A3 kids.length c3) := RE1_.cell 3; have s1Z0 : v1.cell? ⟨w6.heap.size + 1, 0, none⟩ = some (.int .i64 zop) := RZ1_.cell 0; have s1Z1 : v1.cell? ⟨w6.heap.size + 1, 1, none⟩ = some (.int .i64 zn) := RZ1_.cell 1; have s1Z2 : v1.cell? ⟨w6.heap.size + 1, 2, none⟩ = some (.string zname) := RZ1_.cell 2; have s1Z3 : v1.cell? ⟨w6.heap.size + 1, 3, none⟩ = some (.slice A13 zkids.length c13) := RZ1_.cell 3; have s1Y0 : v1.cell? ⟨w9.heap.size, 0, none⟩ = some (.int .i64 op) := RY1_.cell 0; have s1Y1 : v1.cell? ⟨w9.heap.size, 1, none⟩ = some (.int .i64 n) := RY1_.cell 1; have s1Y2 : v1.cell? ⟨w9.heap.size, 2, none⟩ = some (.string name) := RY1_.cell 2; have s1Y3 : v1.cell? ⟨w9.heap.size, 3, none⟩ = some (.slice A14 kids.length c14) := RY1_.cell 3
        refine hK.out _ _ ?_ (fun hHeld => ?_)
        · ((try dsimp only); refine ⟨?_, ?_, ?_, ?_, ?_, ?_, ?_, ?_, ?_, ?_, ?_, ?_⟩ <;> assumption)
        clear hK K
        try simp only [Act.put, List.setIfInBounds_toArray, List.set_cons_zero, List.set_cons_succ]
        refine reg_take (i := 5) (v := ?v6) rfl (by kernel_rfl) (by kernel_rfl) (by kernel_rfl) (fun _ _ _ h => h) (Or.inl ⟨by kernel_rfl, ?h6⟩) (by assumption) ?r6
        case h6 => (intro w hSw; (try dsimp only at hSw); go_simp; try with_reducible rfl)
        try simp only [Act.put, List.setIfInBounds_toArray, List.set_cons_zero, List.set_cons_succ]
        refine reg_take (i := 6) (v := ?v7) rfl (by kernel_rfl) (by kernel_rfl) (by kernel_rfl) (fun _ _ _ h => h) (Or.inl ⟨by kernel_rfl, ?h7⟩) (by assumption) ?r7
        case h7 => (intro w hSw; (try dsimp only at hSw); go_simp; try with_reducible rfl)
        try simp only [Act.put, List.setIfInBounds_toArray, List.set_cons_zero, List.set_cons_succ]
        refine reg_take (i := 7) (v := ?v8) rfl (by kernel_rfl) (by kernel_rfl) (by kernel_rfl) (fun _ _ _ h => h) (Or.inl ⟨by kernel_rfl, ?h8⟩) (by assumption) ?r8
        case h8 => (intro w hSw; (try dsimp only at hSw); go_simp; try with_reducible rfl)
        try simp only [Act.put, List.setIfInBounds_toArray, List.set_cons_zero, List.set_cons_succ]
        refine reg_call (i := 8) (by kernel_rfl) rfl (fun K hK => ?_)
        go_simp
        refine (impl_VarsOf D zop zn zname zkids (.slice A13 zkids.length c13) v1 lo' B' (Nat.le_trans hqB f1.size) zo zn64 znm (hz10.below f1 hqB) (HT.out _ g1)).mono ?_; rw [HVZ.out]; rintro e v2 ⟨v12, rfl, hl12, x_2⟩; have g2 : Below w.heap.size w v2 := g1.trans (x_2.mono g1.size); have f2 := f1.trans (x_2.mono f1.size); have p12 := hl12 false; clear hl12; obtain ⟨A12, c12, hf12, _, hcm12⟩ := p12.form; subst hf12; have RE2_ := RE1_.below x_2 RE1_.lt; have RZ2_ := RZ1_.below x_2 RZ1_.lt; have RY2_ := RY1_.below x_2 RY1_.lt; have s2E0 : v2.cell? ⟨w1.heap.size, 0, none⟩ = some (.int .i64 op) := RE2_.cell 0; have s2E1 : v2.cell? ⟨w1.heap.size, 1, none⟩ = some (.int .i64 n) := RE2_.cell 1; have s2E2 : v2.cell? ⟨w1.heap.size, 2, none⟩ = some (.string name) := RE2_.cell 2; have s2E3 : v2.cell? ⟨w1.heap.size, 3, none⟩ = some (.slice A3 kids.length c3) := RE2_.cell 3; have s2Z0 : v2.cell? ⟨w6.heap.size + 1, 0, none⟩ = some (.int .i64 zop) := RZ2_.cell 0; have s2Z1 : v2.cell? ⟨w6.heap.size + 1, 1, none⟩ = some (.int .i64 zn) := RZ2_.cell 1; have s2Z2 : v2.cell? ⟨w6.heap.size + 1, 2, none⟩ = some (.string zname) := RZ2_.cell 2; have s2Z3 : v2.cell? ⟨w6.heap.size + 1, 3, none⟩ = some (.slice A13 zkids.length c13) := RZ2_.cell 3; have s2Y0 : v2.cell? ⟨w9.heap.size, 0, none⟩ = some (.int .i64 op) := RY2_.cell 0; have s2Y1 : v2.cell? ⟨w9.heap.size, 1, none⟩ = some (.int .i64 n) := RY2_.cell 1; have s2Y2 : v2.cell? ⟨w9.heap.size, 2, none⟩ = some (.string name) := RY2_.cell 2; have s2Y3 : v2.cell? ⟨w9.heap.size, 3, none⟩ = some (.slice A14 kids.length c14) := RY2_.cell 3
        refine hK.out _ _ ?_ (fun hHeld => ?_)
        · ((try dsimp only); refine ⟨?_, ?_, ?_, ?_, ?_, ?_, ?_, ?_, ?_, ?_, ?_, ?_⟩ <;> assumption)
        clear hK K
        try simp only [Act.put, List.setIfInBounds_toArray, List.set_cons_zero, List.set_cons_succ]
        refine reg_take (i := 9) (v := ?v10) rfl (by kernel_rfl) (by kernel_rfl) (by kernel_rfl) (fun _ _ _ h => h) (Or.inl ⟨by kernel_rfl, ?h10⟩) (by assumption) ?r10
        case h10 => (intro w hSw; (try dsimp only at hSw); go_simp; try with_reducible rfl)
        try simp only [Act.put, List.setIfInBounds_toArray, List.set_cons_zero, List.set_cons_succ]
        refine reg_take (i := 10) (v := ?v11) rfl (by kernel_rfl) (by kernel_rfl) (by kernel_rfl) (fun _ _ _ h => h) (Or.inl ⟨by kernel_rfl, ?h11⟩) (by assumption) ?r11
        case h11 => (intro w hSw; (try dsimp only at hSw); go_simp; try with_reducible rfl)
        try simp only [Act.put, List.setIfInBounds_toArray, List.set_cons_zero, List.set_cons_succ]
        refine reg_take (i := 11) (v := ?v12) rfl (by kernel_rfl) (by kernel_rfl) (by kernel_rfl) (fun _ _ _ h => h) (Or.inl ⟨by kernel_rfl, ?h12⟩) (by assumption) ?r12
        case h12 => (intro w hSw; (try dsimp only at hSw); go_simp; try with_reducible rfl)
        try simp only [Act.put, List.setIfInBounds_toArray, List.set_cons_zero, List.set_cons_succ]
        refine reg_take (i := 12) (v := ?v13) rfl (by kernel_rfl) (by kernel_rfl) (by kernel_rfl) (fun _ _ _ h => h) (Or.inl ⟨by kernel_rfl, ?h13⟩) (by assumption) ?r13
        case h13 => (intro w hSw; (try dsimp only at hSw); go_simp; try with_reducible rfl)
        try simp only [Act.put, List.setIfInBounds_toArray, List.set_cons_zero, List.set_cons_succ]
        refine reg_take (i := 13) (v := ?v14) rfl (by kernel_rfl) (by kernel_rfl) (by kernel_rfl) (fun _ _ _ h => h) (Or.inl ⟨by kernel_rfl, ?h14⟩) (by assumption) ?r14
        case h14 => (intro w hSw; (try dsimp only at hSw); go_simp; try with_reducible rfl)
        try simp only [Act.put, List.setIfInBounds_toArray, List.set_cons_zero, List.set_cons_succ]
        refine reg_take (i := 15) (v := ?v15) rfl (by kernel_rfl) (by kernel_rfl) (by kernel_rfl) (fun _ _ _ h => h) (Or.inl ⟨by kernel_rfl, ?h15⟩) (by assumption) ?r15
        case h15 => (intro w hSw; (try dsimp only at hSw); go_simp; try with_reducible rfl)
        try simp only [Act.put, List.setIfInBounds_toArray, List.set_cons_zero, List.set_cons_succ]
        refine reg_call (i := 14) (by kernel_rfl) rfl (fun K hK => ?_)
        go_simp
        refine (impl_ExprParts D zop zn zname zkids (.slice A13 zkids.length c13) v2 lo' B' (Nat.le_trans hqB f2.size) zo zn64 znm (hz10.below f2 hqB) (HT.out _ g2)).mono ?_; rw [HCZ.out]; rintro e v3 ⟨rfl, x_3⟩; have g3 : Below w.heap.size w v3 := g2.trans (x_3.mono g2.size); have f3 := f2.trans (x_3.mono f2.size); have RE3_ := RE2_.below x_3 RE2_.lt; have RZ3_ := RZ2_.below x_3 RZ2_.lt; have RY3_ := RY2_.below x_3 RY2_.lt; have s3E0 : v3.cell? ⟨w1.heap.size, 0, none⟩ = some (.int .i64 op) := RE3_.cell 0; have s3E1 : v3.cell? ⟨w1.heap.size, 1, none⟩ = some (.int .i64 n) := RE3_.cell 1; have s3E2 : v3.cell? ⟨w1.heap.size, 2, none⟩ = some (.string name) := RE3_.cell 2; have s3E3 : v3.cell? ⟨w1.heap.size, 3, none⟩ = some (.slice A3 kids.length c3) := RE3_.cell 3; have s3Z0 : v3.cell? ⟨w6.heap.size + 1, 0, none⟩ = some (.int .i64 zop) := RZ3_.cell 0; have s3Z1 : v3.cell? ⟨w6.heap.size + 1, 1, none⟩ = some (.int .i64 zn) := RZ3_.cell 1; have s3Z2 : v3.cell? ⟨w6.heap.size + 1, 2, none⟩ = some (.string zname) := RZ3_.cell 2; have s3Z3 : v3.cell? ⟨w6.heap.size + 1, 3, none⟩ = some (.slice A13 zkids.length c13) := RZ3_.cell 3; have s3Y0 : v3.cell? ⟨w9.heap.size, 0, none⟩ = some (.int .i64 op) := RY3_.cell 0; have s3Y1 : v3.cell? ⟨w9.heap.size, 1, none⟩ = some (.int .i64 n) := RY3_.cell 1; have s3Y2 : v3.cell? ⟨w9.heap.size, 2, none⟩ = some (.string name) := RY3_.cell 2; have s3Y3 : v3.cell? ⟨w9.heap.size, 3, none⟩ = some (.slice A14 kids.length c14) := RY3_.cell 3
        refine hK.out _ _ ?_ (fun hHeld => ?_)
        · ((try dsimp only); refine ⟨?_, ?_, ?_, ?_, ?_, ?_, ?_, ?_, ?_, ?_, ?_, ?_⟩ <;> assumption)
        clear hK K
        try simp only [Act.put, List.setIfInBounds_toArray, List.set_cons_zero, List.set_cons_succ]
        refine reg_call (i := 16) (by kernel_rfl) rfl (fun K hK => ?_)
        go_simp
        refine (impl_ExprParts 9 op n name kids (.slice A3 kids.length c3) v3 w.heap.size w1.heap.size (Nat.le_trans hq1 f3.size) ho hn64 hnm (h310.below f3 hq1) (HT.out _ g3)).mono ?_; rw [HCE.out]; rintro e v4 ⟨rfl, x_4⟩; have g4 : Below w.heap.size w v4 := g3.trans (x_4.mono g3.size); have f4 := f3.trans (x_4.mono f3.size); have RE4_ := RE3_.below x_4 RE3_.lt; have RZ4_ := RZ3_.below x_4 RZ3_.lt; have RY4_ := RY3_.below x_4 RY3_.lt; have s4E0 : v4.cell? ⟨w1.heap.size, 0, none⟩ = some (.int .i64 op) := RE4_.cell 0; have s4E1 : v4.cell? ⟨w1.heap.size, 1, none⟩ = some (.int .i64 n) := RE4_.cell 1; have s4E2 : v4.cell? ⟨w1.heap.size, 2, none⟩ = some (.string name) := RE4_.cell 2; have s4E3 : v4.cell? ⟨w1.heap.size, 3, none⟩ = some (.slice A3 kids.length c3) := RE4_.cell 3; have s4Z0 : v4.cell? ⟨w6.heap.size + 1, 0, none⟩ = some (.int .i64 zop) := RZ4_.cell 0; have s4Z1 : v4.cell? ⟨w6.heap.size + 1, 1, none⟩ = some (.int .i64 zn) := RZ4_.cell 1; have s4Z2 : v4.cell? ⟨w6.heap.size + 1, 2, none⟩ = some (.string zname) := RZ4_.cell 2; have s4Z3 : v4.cell? ⟨w6.heap.size + 1, 3, none⟩ = some (.slice A13 zkids.length c13) := RZ4_.cell 3; have s4Y0 : v4.cell? ⟨w9.heap.size, 0, none⟩ = some (.int .i64 op) := RY4_.cell 0; have s4Y1 : v4.cell? ⟨w9.heap.size, 1, none⟩ = some (.int .i64 n) := RY4_.cell 1; have s4Y2 : v4.cell? ⟨w9.heap.size, 2, none⟩ = some (.string name) := RY4_.cell 2; have s4Y3 : v4.cell? ⟨w9.heap.size, 3, none⟩ = some (.slice A14 kids.length c14) := RY4_.cell 3
        refine hK.out _ _ ?_ (fun hHeld => ?_)
        · ((try dsimp only); refine ⟨?_, ?_, ?_, ?_, ?_, ?_, ?_, ?_, ?_, ?_, ?_, ?_⟩ <;> assumption)
        clear hK K
        try simp only [Act.put, List.setIfInBounds_toArray, List.set_cons_zero, List.set_cons_succ]
        refine reg_take (i := 17) (v := ?v18) rfl (by kernel_rfl) (by kernel_rfl) (by kernel_rfl) (fun _ _ _ h => h) (Or.inl ⟨by kernel_rfl, ?h18⟩) (by assumption) ?r18
        case h18 => (intro w hSw; (try dsimp only at hSw); go_simp; try with_reducible rfl)
        try simp only [Act.put, List.setIfInBounds_toArray, List.set_cons_zero, List.set_cons_succ]
        refine reg_take (i := 18) (v := ?v19) rfl (by kernel_rfl) (by kernel_rfl) (by kernel_rfl) (fun _ _ _ h => h) (Or.inl ⟨by kernel_rfl, ?h19⟩) (by assumption) ?r19
        case h19 => (intro w hSw; (try dsimp only at hSw); go_simp; try with_reducible rfl)
        try simp only [Act.put, List.setIfInBounds_toArray, List.set_cons_zero, List.set_cons_succ]
        refine reg_take (i := 19) (v := ?v20) rfl (by kernel_rfl) (by kernel_rfl) (by kernel_rfl) (fun _ _ _ h => h) (Or.inl ⟨by kernel_rfl, ?h20⟩) (by assumption) ?r20
        case h20 => (intro w hSw; (try dsimp only at hSw); go_simp; try with_reducible rfl)
        try simp only [Act.put, List.setIfInBounds_toArray, List.set_cons_zero, List.set_cons_succ]
        refine wpAnyH_done (by kernel_rfl) ?_ _
        go_wp2_with fail
        go_ret
        exact ⟨rfl, g4⟩

set_option maxRecDepth 100000 in
theorem fnVars_lifted (os : Os) (started : os.Started) (H : Type) (enc : TypeId × Value → H) :
    ReturnsInHanded {} Tryd.checked os 6 .any (fun w args => (Rows.fnVarsSpec.pre enc Tryd.prog Tryd.f6 [] false w args ∧ laidMetH Tryd.prog [("loop.example/wholeway/impl.keys", Rows.laid_loop_example_wholeway_impl_keys), ("loop.example/wholeway/impl.opSign", Rows.laid_loop_example_wholeway_impl_opSign)] w) ∧ sizedMet enc Tryd.prog Tryd.f6 (OpenSpec.ofChange Rows.fnVarsSpec) false w args) (Rows.fnVarsSpec.post enc Tryd.prog Tryd.f6 false true false false) := by
  refine returnsInHanded_of_change_and (C := Tryd.checked) (X := fun w _ => laidMetH Tryd.prog [("loop.example/wholeway/impl.keys", Rows.laid_loop_example_wholeway_impl_keys), ("loop.example/wholeway/impl.opSign", Rows.laid_loop_example_wholeway_impl_opSign)] w) (fun _ _ _ hh h => h.of_heap hh) own started (by kernel_rfl) Tryd.func6
    (ChangeSpec.witness_shaped (enc := enc) (C := Tryd.checked) (os := os) (X := fun w _ => laidMetH Tryd.prog [("loop.example/wholeway/impl.keys", Rows.laid_loop_example_wholeway_impl_keys), ("loop.example/wholeway/impl.opSign", Rows.laid_loop_example_wholeway_impl_opSign)] w) false (World.doorLaid Tryd.prog 400 os) #[.slice none 0 0] 8 rfl (World.shaped_of_RefB (by kernel_rfl) (by kernel_rfl)) (by kernel_rfl) (by kernel_rfl) (by kernel_rfl) (door_met os _)) ?_
  intro W base args ds gs before hval0 hW _ _ hL _
  have hval : ∀ (j : Nat) t v, Tryd.f6.params[j]? = some t → args[j]? = some v → Value.okWide Tryd.prog W .any base t v := hval0
  obtain ⟨p, q, hA0, hV, hrest⟩ := id hW
  have hA : DataW.TrodAll enc Tryd.prog W 0 (fun _ => true) true Tryd.f6.params.toList args.toList ds p := hA0
  rw [Tryd.params6] at hA hval
  obtain ⟨v0, d0, rfl, rfl, h0⟩ := trodAll_one hA
  obtain ⟨gv0, gv1, rfl⟩ := two_vars hV
  obtain ⟨a, len, cap, rfl⟩ := okWide_slice Tryd.underlying22 (hval 0 _ v0 rfl rfl)
  obtain ⟨fuel0, hf0⟩ := h0
  obtain ⟨da0, vv, hv0, ha0⟩ := dec_slice Tryd.underlying22 (by kernel_rfl) (by decide) dec_u8 hf0
  simp only [Value.cells, List.cons.injEq, and_true] at hv0
  subst hv0
  have hcall := law_Vars da0 _ W ha0 (tabs_of hL)
  refine hcall.mono fun e W' ⟨he, hb⟩ => ?_
  subst he
  exact ⟨_, rfl, post_true_vars laidO hW (by kernel_rfl) Tryd.underlying4 (by rw [Tryd.params6]; intro t ht; simp only [List.mem_cons, List.not_mem_nil, or_false] at ht; subst ht; exact ⟨by kernel_rfl, of_decide_eq_true (by kernel_rfl)⟩) vars_ok rfl rfl rfl hb⟩

set_option maxRecDepth 100000 in
set_option maxHeartbeats 1000000 in
theorem fnVars_facts : joinedFacts Tryd.prog 6 Tryd.f6 Rows.fnVarsSpec Rows.fnVarsRow = true := by
  unfold joinedFacts
  exact and_mk (and_mk (and_mk (and_mk (and_mk (and_mk (and_mk (and_mk (and_mk (and_mk (and_mk (and_mk (and_mk (and_mk (and_mk (and_mk (and_mk (and_mk (and_mk (and_mk (and_mk (and_mk (and_mk (and_mk (and_mk (and_mk (and_mk (and_mk (and_mk (and_mk (and_mk (by as_aux_lemma => kernel_rfl) laidO) mapsRowedO) (by as_aux_lemma => kernel_rfl)) (by as_aux_lemma => kernel_rfl)) (by as_aux_lemma => kernel_rfl)) (by as_aux_lemma => kernel_rfl)) (by as_aux_lemma => kernel_rfl)) (by as_aux_lemma => kernel_rfl)) (by as_aux_lemma => kernel_rfl)) (by as_aux_lemma => kernel_rfl)) (by as_aux_lemma => kernel_rfl)) (by as_aux_lemma => kernel_rfl)) (by as_aux_lemma => kernel_rfl)) (by as_aux_lemma => kernel_rfl)) (by as_aux_lemma => kernel_rfl)) (by as_aux_lemma => kernel_rfl)) (by as_aux_lemma => kernel_rfl)) (by as_aux_lemma => kernel_rfl)) (by as_aux_lemma => kernel_rfl)) (by as_aux_lemma => kernel_rfl)) (by as_aux_lemma => kernel_rfl)) (by rw [plainKeysO]; rfl)) (by as_aux_lemma => kernel_rfl)) stopsHeardO) mayEnter) (by rw [liftsFinal]; rfl)) (by rw [makeCut]; rfl)) (by as_aux_lemma => kernel_rfl)) (by as_aux_lemma => kernel_rfl)) (by as_aux_lemma => kernel_rfl)) (by as_aux_lemma => kernel_rfl)

theorem fnVars_said : Rows.FnVarsSaid :=
  OpenClaim.holds_of_wide 6 Tryd.f6 rfl rfl rfl rfl rfl rfl rfl ⟨rfl, rfl, rfl, rfl, rfl⟩ rfl rfl rfl rfl rfl (by kernel_rfl) Tryd.func6 fnVars_facts
    (of_decide_eq_true (by kernel_rfl)) (by unfold Func.isWrapper; first | (rw [if_pos (by decide +kernel)]; kernel_rfl) | (rw [if_neg (by decide +kernel)]; exact ⟨rfl, rfl⟩))
    (fun os started H enc _ => fnVars_lifted os started H enc)

/-- no parameter wants a stand-in -/
theorem fnVars_plain (f : FuncId) (fn : Func) (hf : Tryd.pinned.checked.prog.funcNamed "loop.example/wholeway/laws.FnVars" = some f) (hfn : Tryd.pinned.checked.prog.funcs[f]? = some fn) :
    true = Tryd.pinned.checked.prog.looks [] ∧ ∀ (j : Nat) t, fn.params[j]? = some t → Tryd.pinned.checked.prog.wantsStandIn t = false := by
  obtain rfl : f = 6 := Option.some.inj ((show Tryd.prog.funcNamed "loop.example/wholeway/laws.FnVars" = some 6 by kernel_rfl).symm.trans hf) |>.symm
  obtain rfl : fn = Tryd.f6 := (Option.some.inj (Tryd.func6.symm.trans hfn)).symm
  refine ⟨by kernel_rfl, fun j t ht => ?_⟩
  rw [Tryd.params6] at ht
  have hm : t ∈ [22] := by simpa using Array.mem_of_getElem? ht
  have hall : ([22].all fun u => !Tryd.prog.wantsStandIn u) = true := by kernel_rfl
  exact (show Tryd.prog.wantsStandIn t = false by simpa using List.all_eq_true.1 hall t hm)
theorem fnVars_holds : Rows.FnVarsCardSaid :=
  Claim7.holds_tied_plain_at .later [] _ _ _ _ fnVars_said (fun _ h => by cases h) (by kernel_rfl) (fun _ h => by cases h) fnVars_row_tie rfl ⟨rfl, rfl⟩ (by kernel_rfl) rfl fnVars_plain (by kernel_rfl)
end Go.Proofs.YtpheoddpkmaidaaDoor
