/-
  The form of an expression by the reference; how many parts it has; how deep it is. Conditions: the argument reads as data.
-/
import Derived.Test.YthfinoapfbhgcaaDoorSize2
namespace Go.Proofs.YthfinoapfbhgcaaDoor
open Go.RowKit Go.ChangeShapes Go.WideShapes Go.Deep

set_option linter.unusedVariables false
set_option linter.unusedSimpArgs false
/-- the form, at most so deep -/
def formB : Nat → Ex → Bool
  | 0, _ => false
  | m + 1, .mk op n name kids => fmK op n name kids.length && kids.all (formB m)
theorem partsL_mem {e : Ex} {l : List Ex} (h : e ∈ l) : partsE e ≤ partsL l := by
  induction l with
  | nil => cases h
  | cons a r ih =>
    rw [partsL_cons]
    rcases List.mem_cons.1 h with rfl | h
    · omega
    · have := ih h
      omega
theorem ok_form (m : Nat) : ∀ e : Ex, okE m e = (formB m e && decide (partsE e ≤ 30)) := by
  induction m with
  | zero => intro e; simp [okE, formB]
  | succ m ih =>
    intro e
    cases e with
    | mk op n name kids =>
      rw [okE, formB, partsE_mk]
      by_cases hp : partsL kids + 1 ≤ 30
      · have h1 : kids.all (okE m) = kids.all (formB m) := by
          have h2 : ∀ e ∈ kids, okE m e = formB m e := fun e he => by
            have := partsL_mem he
            rw [ih e, decide_eq_true (by omega), Bool.and_true]
          rw [Bool.eq_iff_iff, List.all_eq_true, List.all_eq_true]
          exact ⟨fun h e he => (h2 e he) ▸ h e he, fun h e he => (h2 e he).symm ▸ h e he⟩
        rw [h1, decide_eq_true hp, decide_eq_true (show 1 + partsL kids ≤ 30 by omega)]
        simp
      · rw [decide_eq_false hp, decide_eq_false (show ¬ 1 + partsL kids ≤ 30 by omega)]
        simp
/-- how many Kids an op has at least, and at most -/
def kLo (op : Int) : Nat := if op = 1 ∨ op = 2 then 0 else if op = 11 ∨ op = 12 then 1 else if op = 13 then 0 else 2
def kHi (op : Int) : Nat := if op = 1 ∨ op = 2 then 0 else if op = 11 ∨ op = 12 then 1 else if op = 13 then 3 else 2
theorem kHi_le (op : Int) : kHi op ≤ 3 := by
  unfold kHi
  repeat' split
  all_goals omega
theorem fmK_out {op n : Int} {name : ByteArray} {len : Nat} (h : op < 1 ∨ 13 < op) : fmK op n name len = false := by
  unfold fmK
  rw [if_neg (by omega), if_neg (by omega), if_neg (by omega), if_neg (by omega), if_neg (by omega)]
theorem fmK_named {op n : Int} {name : ByteArray} {len : Nat} (h : op = 2 ∨ op = 13) : fmK op n name len = (isName name && (decide (n = 0) && decide (kLo op ≤ len ∧ len ≤ kHi op))) := by
  rcases h with rfl | rfl
  · unfold fmK kLo kHi
    simp
  · unfold fmK kLo kHi
    simp
theorem fmK_plain {op n : Int} {name : ByteArray} {len : Nat} (h1 : 1 ≤ op) (h2 : op ≤ 13) (n2 : op ≠ 2) (n13 : op ≠ 13) : fmK op n name len = (inB n 0 255 && (name.toList.isEmpty && (decide (op = 1 ∨ n = 0) && decide (kLo op ≤ len ∧ len ≤ kHi op)))) := by
  by_cases o1 : op = 1
  · subst o1
    unfold fmK kLo kHi
    simp
  · by_cases hn : n = 0
    · subst hn
      have hz : inB 0 0 255 = true := by decide
      unfold fmK kLo kHi
      rw [if_neg o1, if_neg n2, if_neg n13]
      by_cases om : 3 ≤ op ∧ op ≤ 10
      · rw [if_pos om, if_neg (by omega), if_neg (by omega), if_neg n13, if_neg (by omega), if_neg (by omega), if_neg n13, hz]
        by_cases hl : len = 2
        · subst hl; simp
        · have : ¬ (2 ≤ len ∧ len ≤ 2) := by omega
          simp [hl, this]
      · rw [if_neg om, if_pos (by omega), if_neg (by omega), if_pos (by omega), if_neg (by omega), if_pos (by omega), hz]
        by_cases hl : len = 1
        · subst hl; simp
        · have : ¬ (1 ≤ len ∧ len ≤ 1) := by omega
          simp [hl, this]
    · unfold fmK
      rw [if_neg o1, if_neg n2, if_neg n13]
      simp [hn, o1]
      repeat' split
      all_goals simp
theorem form_no {op n : Int} {name : ByteArray} {kids : List Ex} (h : fmK op n name kids.length = false) : ∀ m, formB m (.mk op n name kids) = false
  | 0 => rfl
  | m + 1 => by rw [formB, h]; rfl
theorem spec_l2Kids (op : Int) (w : World) : Calls Tryd.prog 59 #[.int .i64 op] w (RetW (.tuple #[.int .i64 (kLo op : Int), .int .i64 (kHi op : Int)]) w) := by
  by_cases o1 : op = 1
  case pos =>
    subst o1
    have E : Hid (kLo 1 = 0) := by show _ = _; decide
    have E2 : Hid (kHi 1 = 0) := by show _ = _; decide
    go_enter Tryd.func59, Tryd.ntmps59
    go_wp2_with fail
    go_ret2
    exact RetW.mk (by rw [E.out, E2.out] <;> rfl) rfl
  have n1 : (op == 1) = false := by simpa using o1
  by_cases o2 : op = 2
  case pos =>
    subst o2
    have E : Hid (kLo 2 = 0) := by show _ = _; decide
    have E2 : Hid (kHi 2 = 0) := by show _ = _; decide
    clear o1 n1
    go_enter Tryd.func59, Tryd.ntmps59
    go_wp2_with fail
    go_ret2
    exact RetW.mk (by rw [E.out, E2.out] <;> rfl) rfl
  have n2 : (op == 2) = false := by simpa using o2
  by_cases o11 : op = 11
  case pos =>
    subst o11
    have E : Hid (kLo 11 = 1) := by show _ = _; decide
    have E2 : Hid (kHi 11 = 1) := by show _ = _; decide
    clear o1 n1 o2 n2
    go_enter Tryd.func59, Tryd.ntmps59
    go_wp2_with fail
    go_ret2
    exact RetW.mk (by rw [E.out, E2.out] <;> rfl) rfl
  have n11 : (op == 11) = false := by simpa using o11
  by_cases o12 : op = 12
  case pos =>
    subst o12
    have E : Hid (kLo 12 = 1) := by show _ = _; decide
    have E2 : Hid (kHi 12 = 1) := by show _ = _; decide
    clear o1 n1 o2 n2 o11 n11
    go_enter Tryd.func59, Tryd.ntmps59
    go_wp2_with fail
    go_ret2
    exact RetW.mk (by rw [E.out, E2.out] <;> rfl) rfl
  have n12 : (op == 12) = false := by simpa using o12
  by_cases o13 : op = 13
  case pos =>
    subst o13
    have E : Hid (kLo 13 = 0) := by show _ = _; decide
    have E2 : Hid (kHi 13 = 3) := by show _ = _; decide
    clear o1 n1 o2 n2 o11 n11 o12 n12
    go_enter Tryd.func59, Tryd.ntmps59
    go_wp2_with fail
    go_ret2
    exact RetW.mk (by rw [E.out, E2.out] <;> rfl) rfl
  have n13 : (op == 13) = false := by simpa using o13
  have E : Hid (kLo op = 2) := by show _ = _; unfold kLo; rw [if_neg (by omega), if_neg (by omega), if_neg (by omega)]
  have E2 : Hid (kHi op = 2) := by show _ = _; unfold kHi; rw [if_neg (by omega), if_neg (by omega), if_neg (by omega)]
  clear o1 o2 o11 o12 o13
  go_enter Tryd.func59, Tryd.ntmps59
  go_wp2_with fail
  go_ret2
  exact RetW.mk (by rw [E.out, E2.out] <;> rfl) rfl

def FormAt (m : Nat) : Prop := ∀ (d : Nat) (op n : Int) (name : ByteArray) (kids : List Ex) (v3 : Value) (w : World) (lo B : Nat) (_ : B ≤ w.heap.size) (_ : I64 op) (_ : I64 n) (_ : name.size ≤ maxLen) (_ : Sl false (exS false d) w lo B kids v3),
  Calls Tryd.prog 40 #[.agg #[.int .i64 op, .int .i64 n, .string name, v3], .int .i64 (m : Int)] w (RetV (.bool (formB m (.mk op n name kids))) w)

theorem isName_ne {s : ByteArray} (h : isName s = true) : s.toList.isEmpty = false := by
  have h1 : decide (1 ≤ s.size) = true := by
    unfold isName at h
    simp only [Bool.and_eq_true] at h
    exact h.1
  have h2 : 1 ≤ s.size := of_decide_eq_true h1
  rw [ByteArray.toList_eq]
  cases hl : s.data.toList with
  | nil =>
    have : s.size = 0 := by
      have h3 : s.data.toList.length = 0 := by rw [hl]; rfl
      simpa using h3
    omega
  | cons a r => rfl

set_option maxRecDepth 100000 in
set_option maxHeartbeats 8000000 in
theorem form_zero (d : Nat) (op n : Int) (name : ByteArray) (kids : List Ex) (v3 : Value) (w : World) (lo B : Nat) (hB : B ≤ w.heap.size) (ho : I64 op) (hn64 : I64 n) (hnm : name.size ≤ maxLen) (h3 : Sl false (exS false d) w lo B kids v3) :
    Calls Tryd.prog 40 #[.agg #[.int .i64 op, .int .i64 n, .string name, v3], .int .i64 0] w (RetV (.bool (formB 0 (.mk op n name kids))) w) := by
  obtain ⟨A, p, hf, hl1, hl2⟩ := h3.form
  subst hf
  have hnm' : name.size ≤ 9223372036854775807 := by unfold maxLen at hnm; omega
  have hb0 : Below w.heap.size w (w.alloc (.cells #[.int .i64 op, .int .i64 n, .string name, .slice A kids.length p] 25)) := (Below.refl _ _).alloc (Nat.le_refl _) _
  have R0 : Row (w.alloc (.cells #[.int .i64 op, .int .i64 n, .string name, .slice A kids.length p] 25)) w.heap.size 25 #[.int .i64 op, .int .i64 n, .string name, .slice A kids.length p] := Row.new w _ _
  go_enter Tryd.func40, Tryd.ntmps40
  go_wp2_with fail
  refine (spec_l2Kids op _).mono ?_
  rintro e w' ⟨rfl, rfl⟩
  have E : Hid (formB 0 (.mk op n name kids) = false) := rfl
  go_wp2_with fail
  go_ret
  exact RetV.mk (by rw [E.out] <;> rfl) rfl hb0

set_option maxRecDepth 100000 in
set_option maxHeartbeats 8000000 in
theorem form_step (m : Nat) (ih : FormAt m) (hm : m ≤ 1000) (d : Nat) (op n : Int) (name : ByteArray) (kids : List Ex) (v3 : Value) (w : World) (lo B : Nat) (hB : B ≤ w.heap.size) (ho : I64 op) (hn64 : I64 n) (hnm : name.size ≤ maxLen) (h3 : Sl false (exS false d) w lo B kids v3) :
    Calls Tryd.prog 40 #[.agg #[.int .i64 op, .int .i64 n, .string name, v3], .int .i64 ((m : Int) + 1)] w (RetV (.bool (formB (m + 1) (.mk op n name kids))) w) := by
  obtain ⟨A, p, hf, hl1, hl2⟩ := h3.form
  subst hf
  have hnm' : name.size ≤ 9223372036854775807 := by unfold maxLen at hnm; omega
  have hb0 : Below w.heap.size w (w.alloc (.cells #[.int .i64 op, .int .i64 n, .string name, .slice A kids.length p] 25)) := (Below.refl _ _).alloc (Nat.le_refl _) _
  have R0 : Row (w.alloc (.cells #[.int .i64 op, .int .i64 n, .string name, .slice A kids.length p] 25)) w.heap.size 25 #[.int .i64 op, .int .i64 n, .string name, .slice A kids.length p] := Row.new w _ _
  go_enter Tryd.func40, Tryd.ntmps40
  go_wp2_with fail
  refine (spec_l2Kids op _).mono ?_
  rintro e w' ⟨rfl, rfl⟩
  go_wp2_with fail
  refine (spec_l1In op 1 13 _).mono ?_
  rintro e w' ⟨rfl, rfl⟩
  by_cases hop : 1 ≤ op ∧ op ≤ 13
  case neg =>
    rw [inB_no (show op < 1 ∨ 13 < op by omega)]
    have E : Hid (formB (m + 1) (.mk op n name kids) = false) := form_no (fmK_out (by omega)) _
    go_wp2_with fail
    go_ret
    exact RetV.mk (by rw [E.out] <;> rfl) rfl hb0
  rw [inB_yes hop.1 hop.2]
  have hk3 := kHi_le op
  go_wp2_with fail
  refine (spec_l1In _ _ _ _).mono ?_
  rintro e w' ⟨rfl, rfl⟩
  by_cases hlen : kLo op ≤ kids.length ∧ kids.length ≤ kHi op
  case neg =>
    rw [inB_no (by omega)]
    have E : Hid (formB (m + 1) (.mk op n name kids) = false) := form_no (by
      by_cases h2 : op = 2 ∨ op = 13
      · rw [fmK_named h2, decide_eq_false hlen]; simp
      · rw [fmK_plain hop.1 hop.2 (by omega) (by omega), decide_eq_false hlen]; simp) _
    go_wp2_with fail
    go_ret
    exact RetV.mk (by rw [E.out] <;> rfl) rfl hb0
  rw [inB_yes (by omega) (by omega)]
  have hkl3 : kids.length ≤ 3 := by omega
  have HLEN := Lib.hid hlen
  clear hlen
  by_cases o2 : op = 2
  case pos =>
    subst o2
    go_wp2_with fail
    refine (spec_IsName name _ hnm).mono ?_
    rintro e w1 ⟨rfl, b1⟩
    have hb1 : Below w.heap.size w w1 := hb0.trans (b1.mono hb0.size)
    have R1 := R0.below b1 R0.lt
    have y0 : w1.cell? ⟨w.heap.size, 0, none⟩ = some (.int .i64 2) := R1.cell 0
    have y1 : w1.cell? ⟨w.heap.size, 1, none⟩ = some (.int .i64 n) := R1.cell 1
    have y2 : w1.cell? ⟨w.heap.size, 2, none⟩ = some (.string name) := R1.cell 2
    have y3 : w1.cell? ⟨w.heap.size, 3, none⟩ = some (.slice A kids.length p) := R1.cell 3
    cases hi : isName name
    case false =>
      have E : Hid (formB (m + 1) (.mk 2 n name kids) = false) := form_no (by rw [fmK_named (by omega)]; simp [hi]) _
      go_wp2_with fail
      go_ret
      exact RetV.mk (by rw [E.out] <;> rfl) rfl hb1
    go_wp2_with fail
    refine (spec_l1In n 0 255 _).mono ?_
    rintro e w' ⟨rfl, rfl⟩
    cases hin : inB n 0 255
    case false =>
      have hz : n ≠ 0 := fun h => by subst h; exact absurd hin (by decide)
      have E : Hid (formB (m + 1) (.mk 2 n name kids) = false) := form_no (by rw [fmK_named (by omega)]; simp [hz, hin]) _
      go_wp2_with fail
      go_ret
      exact RetV.mk (by rw [E.out] <;> rfl) rfl hb1
    by_cases hn : n = 0
    case neg =>
      have hn' : (n != 0) = true := by simpa using hn
      have E : Hid (formB (m + 1) (.mk 2 n name kids) = false) := form_no (by rw [fmK_named (by omega)]; simp [hn]) _
      clear hn
      go_wp2_with fail
      go_ret
      exact RetV.mk (by rw [E.out] <;> rfl) rfl hb1
    have hn' : (n != 0) = false := by simpa using hn
    have HN0 := Lib.hid hn
    clear hn
    have HF : Hid (fmK 2 n name kids.length = true) := by show _ = _; rw [fmK_named (by omega), decide_eq_true HLEN.out]; simp [hi, HN0.out, show inB 0 0 255 = true from by decide]
    go_wp2_with fail
    go_loopw [8] (fun i wr => ∃ k : Nat, k ≤ kids.length ∧ i = .int .i64 k ∧ Hid (kids.all (formB m) = (kids.drop k).all (formB m)) ∧ Row wr w.heap.size 25 #[.int .i64 2, .int .i64 n, .string name, .slice A kids.length p] ∧ Below w.heap.size w wr) (fun i _ => kids.length - (intOf i).toNat)
    case atStart => exact ⟨0, by omega, rfl, (show _ = _ from rfl), R1, hb1⟩
    case round =>
      clear y0 y1 y2 y3
      obtain ⟨k, hk, rfl, HA, R, hb⟩ := hrel
      have hsz := hb.size
      have y3 : wr.cell? ⟨w.heap.size, 3, none⟩ = some (.slice A kids.length p) := R.cell 3
      by_cases hkl : k < kids.length
      · obtain ⟨d', rfl⟩ := exS_pos h3 (by omega)
        obtain ⟨b, o, op', n', name', kids', v', rfl, _, hbB, HL, g0, g1, g2, g3, c0, c1, c2, c3⟩ := ex_get d' (h3.below hb hB) hkl
        obtain ⟨A', p', hf, _, _⟩ := g3.form
        change _ = Value.slice A' kids'.length p' at hf
        subst hf
        have hkn : (k : Int) < (kids.length : Int) := by omega
        have hki : (0 : Int) ≤ (k : Int) := by omega
        go_wp2_with fail
        refine (ih d' op' n' name' kids' (.slice A' kids'.length p') _ lo B (Nat.le_trans hB hsz) g0 g1 g2 g3).mono ?_
        rintro e w3 ⟨rfl, x3⟩
        have hb3 : Below w.heap.size w w3 := hb.trans (x3.mono hsz)
        by_cases he : formB m (.mk op' n' name' kids') = true
        · have E3 : Hid (kids.all (formB m) = (kids.drop (k + 1)).all (formB m)) := by
            have h1 := HA.out
            rw [drop_cons hkl HL.out, List.all_cons, he, Bool.true_and] at h1
            exact h1
          rw [he]
          clear HA
          go_wp2_with fail
          go_roundw
          case rel => exact ⟨k + 1, by omega, by go_num, E3, R.below x3 R.lt, hb3⟩
          case measure => simp [intOf]; omega
        · have he : formB m (.mk op' n' name' kids') = false := by simpa using he
          have E : Hid (formB (m + 1) (.mk 2 n name kids) = false) := by
            have h1 := HA.out
            rw [drop_cons hkl HL.out, List.all_cons, he, Bool.false_and] at h1
            show _ = _
            rw [formB, h1]
            simp
          rw [he]
          clear HA
          go_wp2_with fail
          go_ret
          exact RetV.mk (by rw [E.out] <;> rfl) rfl hb3
      · have E : Hid (formB (m + 1) (.mk 2 n name kids) = true) := by
          have h1 := HA.out
          rw [List.drop_eq_nil_of_le (by omega)] at h1
          show _ = _
          rw [formB, HF.out, h1]
          rfl
        clear HA
        go_wp2_with fail
        go_ret
        exact RetV.mk (by rw [E.out] <;> rfl) rfl hb
  have m2 : (op == 2) = false := by simpa using o2
  by_cases o13 : op = 13
  case pos =>
    subst o13
    clear m2 o2
    go_wp2_with fail
    refine (spec_IsName name _ hnm).mono ?_
    rintro e w1 ⟨rfl, b1⟩
    have hb1 : Below w.heap.size w w1 := hb0.trans (b1.mono hb0.size)
    have R1 := R0.below b1 R0.lt
    have y0 : w1.cell? ⟨w.heap.size, 0, none⟩ = some (.int .i64 13) := R1.cell 0
    have y1 : w1.cell? ⟨w.heap.size, 1, none⟩ = some (.int .i64 n) := R1.cell 1
    have y2 : w1.cell? ⟨w.heap.size, 2, none⟩ = some (.string name) := R1.cell 2
    have y3 : w1.cell? ⟨w.heap.size, 3, none⟩ = some (.slice A kids.length p) := R1.cell 3
    cases hi : isName name
    case false =>
      have E : Hid (formB (m + 1) (.mk 13 n name kids) = false) := form_no (by rw [fmK_named (by omega)]; simp [hi]) _
      go_wp2_with fail
      go_ret
      exact RetV.mk (by rw [E.out] <;> rfl) rfl hb1
    go_wp2_with fail
    refine (spec_l1In n 0 255 _).mono ?_
    rintro e w' ⟨rfl, rfl⟩
    cases hin : inB n 0 255
    case false =>
      have hz : n ≠ 0 := fun h => by subst h; exact absurd hin (by decide)
      have E : Hid (formB (m + 1) (.mk 13 n name kids) = false) := form_no (by rw [fmK_named (by omega)]; simp [hz, hin]) _
      go_wp2_with fail
      go_ret
      exact RetV.mk (by rw [E.out] <;> rfl) rfl hb1
    by_cases hn : n = 0
    case neg =>
      have hn' : (n != 0) = true := by simpa using hn
      have E : Hid (formB (m + 1) (.mk 13 n name kids) = false) := form_no (by rw [fmK_named (by omega)]; simp [hn]) _
      clear hn
      go_wp2_with fail
      go_ret
      exact RetV.mk (by rw [E.out] <;> rfl) rfl hb1
    have hn' : (n != 0) = false := by simpa using hn
    have HN0 := Lib.hid hn
    clear hn
    have HF : Hid (fmK 13 n name kids.length = true) := by show _ = _; rw [fmK_named (by omega), decide_eq_true HLEN.out]; simp [hi, HN0.out, show inB 0 0 255 = true from by decide]
    go_wp2_with fail
    go_loopw [8] (fun i wr => ∃ k : Nat, k ≤ kids.length ∧ i = .int .i64 k ∧ Hid (kids.all (formB m) = (kids.drop k).all (formB m)) ∧ Row wr w.heap.size 25 #[.int .i64 13, .int .i64 n, .string name, .slice A kids.length p] ∧ Below w.heap.size w wr) (fun i _ => kids.length - (intOf i).toNat)
    case atStart => exact ⟨0, by omega, rfl, (show _ = _ from rfl), R1, hb1⟩
    case round =>
      clear y0 y1 y2 y3
      obtain ⟨k, hk, rfl, HA, R, hb⟩ := hrel
      have hsz := hb.size
      have y3 : wr.cell? ⟨w.heap.size, 3, none⟩ = some (.slice A kids.length p) := R.cell 3
      by_cases hkl : k < kids.length
      · obtain ⟨d', rfl⟩ := exS_pos h3 (by omega)
        obtain ⟨b, o, op', n', name', kids', v', rfl, _, hbB, HL, g0, g1, g2, g3, c0, c1, c2, c3⟩ := ex_get d' (h3.below hb hB) hkl
        obtain ⟨A', p', hf, _, _⟩ := g3.form
        change _ = Value.slice A' kids'.length p' at hf
        subst hf
        have hkn : (k : Int) < (kids.length : Int) := by omega
        have hki : (0 : Int) ≤ (k : Int) := by omega
        go_wp2_with fail
        refine (ih d' op' n' name' kids' (.slice A' kids'.length p') _ lo B (Nat.le_trans hB hsz) g0 g1 g2 g3).mono ?_
        rintro e w3 ⟨rfl, x3⟩
        have hb3 : Below w.heap.size w w3 := hb.trans (x3.mono hsz)
        by_cases he : formB m (.mk op' n' name' kids') = true
        · have E3 : Hid (kids.all (formB m) = (kids.drop (k + 1)).all (formB m)) := by
            have h1 := HA.out
            rw [drop_cons hkl HL.out, List.all_cons, he, Bool.true_and] at h1
            exact h1
          rw [he]
          clear HA
          go_wp2_with fail
          go_roundw
          case rel => exact ⟨k + 1, by omega, by go_num, E3, R.below x3 R.lt, hb3⟩
          case measure => simp [intOf]; omega
        · have he : formB m (.mk op' n' name' kids') = false := by simpa using he
          have E : Hid (formB (m + 1) (.mk 13 n name kids) = false) := by
            have h1 := HA.out
            rw [drop_cons hkl HL.out, List.all_cons, he, Bool.false_and] at h1
            show _ = _
            rw [formB, h1]
            simp
          rw [he]
          clear HA
          go_wp2_with fail
          go_ret
          exact RetV.mk (by rw [E.out] <;> rfl) rfl hb3
      · have E : Hid (formB (m + 1) (.mk 13 n name kids) = true) := by
          have h1 := HA.out
          rw [List.drop_eq_nil_of_le (by omega)] at h1
          show _ = _
          rw [formB, HF.out, h1]
          rfl
        clear HA
        go_wp2_with fail
        go_ret
        exact RetV.mk (by rw [E.out] <;> rfl) rfl hb
  have m13 : (op == 13) = false := by simpa using o13
  go_wp2_with fail
  refine (spec_IsName name _ hnm).mono ?_
  rintro e w1 ⟨rfl, b1⟩
  have hb1 : Below w.heap.size w w1 := hb0.trans (b1.mono hb0.size)
  have R1 := R0.below b1 R0.lt
  have y0 : w1.cell? ⟨w.heap.size, 0, none⟩ = some (.int .i64 op) := R1.cell 0
  have y1 : w1.cell? ⟨w.heap.size, 1, none⟩ = some (.int .i64 n) := R1.cell 1
  have y2 : w1.cell? ⟨w.heap.size, 2, none⟩ = some (.string name) := R1.cell 2
  have y3 : w1.cell? ⟨w.heap.size, 3, none⟩ = some (.slice A kids.length p) := R1.cell 3
  cases hi : isName name
  case true =>
    have hne : name.toList.isEmpty = false := isName_ne hi
    have E : Hid (formB (m + 1) (.mk op n name kids) = false) := form_no (by rw [fmK_plain hop.1 hop.2 o2 o13]; simp [hne]) _
    go_wp2_with fail
    go_ret
    exact RetV.mk (by rw [E.out] <;> rfl) rfl hb1
  cases hne : name.toList.isEmpty
  case false =>
    have E : Hid (formB (m + 1) (.mk op n name kids) = false) := form_no (by rw [fmK_plain hop.1 hop.2 o2 o13]; simp [hne]) _
    go_wp2_with fail
    go_ret
    exact RetV.mk (by rw [E.out] <;> rfl) rfl hb1
  go_wp2_with fail
  refine (spec_l1In n 0 255 _).mono ?_
  rintro e w' ⟨rfl, rfl⟩
  cases hin : inB n 0 255
  case false =>
    have hz : n ≠ 0 := fun h => by subst h; exact absurd hin (by decide)
    have E : Hid (formB (m + 1) (.mk op n name kids) = false) := form_no (by rw [fmK_plain hop.1 hop.2 o2 o13]; simp [hz, hin]) _
    go_wp2_with fail
    go_ret
    exact RetV.mk (by rw [E.out] <;> rfl) rfl hb1
  by_cases o1 : op = 1
  case pos =>
    have m1 : (op != 1) = false := by simpa using o1
    have HO1 := Lib.hid o1
    clear o1
    have HF : Hid (fmK op n name kids.length = true) := by show _ = _; rw [fmK_plain hop.1 hop.2 o2 o13, decide_eq_true HLEN.out]; simp [hin, hne, HO1.out, show inB 0 0 255 = true from by decide]
    go_wp2_with fail
    go_loopw [8] (fun i wr => ∃ k : Nat, k ≤ kids.length ∧ i = .int .i64 k ∧ Hid (kids.all (formB m) = (kids.drop k).all (formB m)) ∧ Row wr w.heap.size 25 #[.int .i64 op, .int .i64 n, .string name, .slice A kids.length p] ∧ Below w.heap.size w wr) (fun i _ => kids.length - (intOf i).toNat)
    case atStart => exact ⟨0, by omega, rfl, (show _ = _ from rfl), R1, hb1⟩
    case round =>
      clear y0 y1 y2 y3
      obtain ⟨k, hk, rfl, HA, R, hb⟩ := hrel
      have hsz := hb.size
      have y3 : wr.cell? ⟨w.heap.size, 3, none⟩ = some (.slice A kids.length p) := R.cell 3
      by_cases hkl : k < kids.length
      · obtain ⟨d', rfl⟩ := exS_pos h3 (by omega)
        obtain ⟨b, o, op', n', name', kids', v', rfl, _, hbB, HL, g0, g1, g2, g3, c0, c1, c2, c3⟩ := ex_get d' (h3.below hb hB) hkl
        obtain ⟨A', p', hf, _, _⟩ := g3.form
        change _ = Value.slice A' kids'.length p' at hf
        subst hf
        have hkn : (k : Int) < (kids.length : Int) := by omega
        have hki : (0 : Int) ≤ (k : Int) := by omega
        go_wp2_with fail
        refine (ih d' op' n' name' kids' (.slice A' kids'.length p') _ lo B (Nat.le_trans hB hsz) g0 g1 g2 g3).mono ?_
        rintro e w3 ⟨rfl, x3⟩
        have hb3 : Below w.heap.size w w3 := hb.trans (x3.mono hsz)
        by_cases he : formB m (.mk op' n' name' kids') = true
        · have E3 : Hid (kids.all (formB m) = (kids.drop (k + 1)).all (formB m)) := by
            have h1 := HA.out
            rw [drop_cons hkl HL.out, List.all_cons, he, Bool.true_and] at h1
            exact h1
          rw [he]
          clear HA
          go_wp2_with fail
          go_roundw
          case rel => exact ⟨k + 1, by omega, by go_num, E3, R.below x3 R.lt, hb3⟩
          case measure => simp [intOf]; omega
        · have he : formB m (.mk op' n' name' kids') = false := by simpa using he
          have E : Hid (formB (m + 1) (.mk op n name kids) = false) := by
            have h1 := HA.out
            rw [drop_cons hkl HL.out, List.all_cons, he, Bool.false_and] at h1
            show _ = _
            rw [formB, h1]
            simp
          rw [he]
          clear HA
          go_wp2_with fail
          go_ret
          exact RetV.mk (by rw [E.out] <;> rfl) rfl hb3
      · have E : Hid (formB (m + 1) (.mk op n name kids) = true) := by
          have h1 := HA.out
          rw [List.drop_eq_nil_of_le (by omega)] at h1
          show _ = _
          rw [formB, HF.out, h1]
          rfl
        clear HA
        go_wp2_with fail
        go_ret
        exact RetV.mk (by rw [E.out] <;> rfl) rfl hb
  have m1 : (op != 1) = true := by simpa using o1
  by_cases hn : n = 0
  case neg =>
    have hn' : (n != 0) = true := by simpa using hn
    have E : Hid (formB (m + 1) (.mk op n name kids) = false) := form_no (by rw [fmK_plain hop.1 hop.2 o2 o13]; simp [hn, o1]) _
    clear hn
    go_wp2_with fail
    go_ret
    exact RetV.mk (by rw [E.out] <;> rfl) rfl hb1
  have hn' : (n != 0) = false := by simpa using hn
  have HN0 := Lib.hid hn
  clear hn
  have HF : Hid (fmK op n name kids.length = true) := by show _ = _; rw [fmK_plain hop.1 hop.2 o2 o13, decide_eq_true HLEN.out]; simp [hin, hne, HN0.out, show inB 0 0 255 = true from by decide]
  go_wp2_with fail
  go_loopw [8] (fun i wr => ∃ k : Nat, k ≤ kids.length ∧ i = .int .i64 k ∧ Hid (kids.all (formB m) = (kids.drop k).all (formB m)) ∧ Row wr w.heap.size 25 #[.int .i64 op, .int .i64 n, .string name, .slice A kids.length p] ∧ Below w.heap.size w wr) (fun i _ => kids.length - (intOf i).toNat)
  case atStart => exact ⟨0, by omega, rfl, (show _ = _ from rfl), R1, hb1⟩
  case round =>
    clear y0 y1 y2 y3
    obtain ⟨k, hk, rfl, HA, R, hb⟩ := hrel
    have hsz := hb.size
    have y3 : wr.cell? ⟨w.heap.size, 3, none⟩ = some (.slice A kids.length p) := R.cell 3
    by_cases hkl : k < kids.length
    · obtain ⟨d', rfl⟩ := exS_pos h3 (by omega)
      obtain ⟨b, o, op', n', name', kids', v', rfl, _, hbB, HL, g0, g1, g2, g3, c0, c1, c2, c3⟩ := ex_get d' (h3.below hb hB) hkl
      obtain ⟨A', p', hf, _, _⟩ := g3.form
      change _ = Value.slice A' kids'.length p' at hf
      subst hf
      have hkn : (k : Int) < (kids.length : Int) := by omega
      have hki : (0 : Int) ≤ (k : Int) := by omega
      go_wp2_with fail
      refine (ih d' op' n' name' kids' (.slice A' kids'.length p') _ lo B (Nat.le_trans hB hsz) g0 g1 g2 g3).mono ?_
      rintro e w3 ⟨rfl, x3⟩
      have hb3 : Below w.heap.size w w3 := hb.trans (x3.mono hsz)
      by_cases he : formB m (.mk op' n' name' kids') = true
      · have E3 : Hid (kids.all (formB m) = (kids.drop (k + 1)).all (formB m)) := by
          have h1 := HA.out
          rw [drop_cons hkl HL.out, List.all_cons, he, Bool.true_and] at h1
          exact h1
        rw [he]
        clear HA
        go_wp2_with fail
        go_roundw
        case rel => exact ⟨k + 1, by omega, by go_num, E3, R.below x3 R.lt, hb3⟩
        case measure => simp [intOf]; omega
      · have he : formB m (.mk op' n' name' kids') = false := by simpa using he
        have E : Hid (formB (m + 1) (.mk op n name kids) = false) := by
          have h1 := HA.out
          rw [drop_cons hkl HL.out, List.all_cons, he, Bool.false_and] at h1
          show _ = _
          rw [formB, h1]
          simp
        rw [he]
        clear HA
        go_wp2_with fail
        go_ret
        exact RetV.mk (by rw [E.out] <;> rfl) rfl hb3
    · have E : Hid (formB (m + 1) (.mk op n name kids) = true) := by
        have h1 := HA.out
        rw [List.drop_eq_nil_of_le (by omega)] at h1
        show _ = _
        rw [formB, HF.out, h1]
        rfl
      clear HA
      go_wp2_with fail
      go_ret
      exact RetV.mk (by rw [E.out] <;> rfl) rfl hb

theorem spec_l2Form : ∀ m : Nat, m ≤ 1000 → FormAt m
  | 0, _ => fun d op n name kids v3 w lo B hB h0 h1 h2 h3 => form_zero d op n name kids v3 w lo B hB h0 h1 h2 h3
  | m + 1, hm => fun d op n name kids v3 w lo B hB h0 h1 h2 h3 => form_step m (spec_l2Form m (by omega)) (by omega) d op n name kids v3 w lo B hB h0 h1 h2 h3

end Go.Proofs.YthfinoapfbhgcaaDoor

