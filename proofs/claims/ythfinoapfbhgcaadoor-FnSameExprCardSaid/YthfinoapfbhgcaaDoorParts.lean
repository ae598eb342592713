/-
  How many parts an expression has, and how deep it is, by the reference; the three functions of the program and of the reference. Conditions: the argument reads as data; for the program, the tables lie.
-/
import Derived.Test.YthfinoapfbhgcaaDoorForm
namespace Go.Proofs.YthfinoapfbhgcaaDoor
open Go.RowKit Go.ChangeShapes Go.WideShapes Go.Deep

set_option linter.unusedVariables false
set_option linter.unusedSimpArgs false
theorem fmK_len {op n : Int} {name : ByteArray} {len : Nat} (h : fmK op n name len = true) : len ≤ 3 := by
  by_cases h0 : op < 1 ∨ 13 < op
  · rw [fmK_out h0] at h; cases h
  · have hk := kHi_le op
    by_cases h2 : op = 2 ∨ op = 13
    · rw [fmK_named h2] at h
      simp only [Bool.and_eq_true, decide_eq_true_eq] at h
      omega
    · rw [fmK_plain (by omega) (by omega) (by omega) (by omega)] at h
      simp only [Bool.and_eq_true, decide_eq_true_eq] at h
      omega
theorem parts_pow : ∀ (m : Nat) (e : Ex), formB m e = true → partsE e ≤ Nat.pow 4 m
  | 0, _, h => by simp [formB] at h
  | m + 1, .mk op n name kids, h => by
    rw [formB, Bool.and_eq_true] at h
    have hk : kids.length ≤ 3 := fmK_len h.1
    have h1 : ∀ l : List Ex, l.all (formB m) = true → partsL l ≤ l.length * Nat.pow 4 m := by
      intro l
      induction l with
      | nil => intro _; rw [partsL_nil]; omega
      | cons a r ih =>
        intro hl
        rw [List.all_cons, Bool.and_eq_true] at hl
        have h2 := parts_pow m a hl.1
        have h3 := ih hl.2
        rw [partsL_cons, List.length_cons, Nat.succ_mul]
        omega
    have h4 := h1 kids h.2
    have h5 : kids.length * Nat.pow 4 m ≤ 3 * Nat.pow 4 m := Nat.mul_le_mul_right _ hk
    have h6 : 1 ≤ Nat.pow 4 m := Nat.pow_pos (n := m) (by omega)
    rw [partsE_mk]
    show _ ≤ Nat.pow 4 m * 4
    omega

def partsEAt (d : Nat) : Prop := ∀ (op n : Int) (name : ByteArray) (kids : List Ex) (v3 : Value) (w : World) (lo B : Nat) (_ : B ≤ w.heap.size) (_ : I64 op) (_ : I64 n) (_ : name.size ≤ maxLen) (_ : Sl false (exS false d) w lo B kids v3) (_ : partsE (.mk op n name kids) ≤ 4611686018427387904),
  Calls Tryd.prog 41 #[.agg #[.int .i64 op, .int .i64 n, .string name, v3]] w (RetV (.int .i64 (partsE (.mk op n name kids) : Nat)) w)
set_option maxRecDepth 100000 in
set_option maxHeartbeats 4000000 in
theorem partsE_of (d : Nat) (ih : ∀ d', d = d' + 1 → partsEAt d') : partsEAt d := by
  intro op n name kids v3 w lo B hB ho hn64 hnm h3 hsum
  obtain ⟨A, p, hf, hl1, hl2⟩ := h3.form
  subst hf
  have hb0 : Below w.heap.size w (w.alloc (.cells #[.int .i64 op, .int .i64 n, .string name, .slice A kids.length p] 25)) := (Below.refl _ _).alloc (Nat.le_refl _) _
  have R0 : Row (w.alloc (.cells #[.int .i64 op, .int .i64 n, .string name, .slice A kids.length p] 25)) w.heap.size 25 #[.int .i64 op, .int .i64 n, .string name, .slice A kids.length p] := Row.new w _ _
  rw [partsE_mk] at hsum
  go_enter Tryd.func41, Tryd.ntmps41
  go_wp2_with fail
  go_loopw [3, 4] (fun nv i wr => ∃ k m : Nat, k ≤ kids.length ∧ i = .int .i64 k ∧ nv = .int .i64 (m : Int) ∧ m ≤ 4611686018427387904 ∧ Hid (1 + partsL kids = m + partsL (kids.drop k)) ∧ Row wr w.heap.size 25 #[.int .i64 op, .int .i64 n, .string name, .slice A kids.length p] ∧ Below w.heap.size w wr) (fun _ i _ => kids.length - (intOf i).toNat)
  case atStart => exact ⟨0, 1, by omega, rfl, rfl, by omega, (by show _ = _; rw [List.drop_zero]), R0, hb0⟩
  case round =>
    obtain ⟨k, m, hk, rfl, rfl, hm, HA, R, hb⟩ := hrel
    have hsz := hb.size
    have y3 : wr.cell? ⟨w.heap.size, 3, none⟩ = some (.slice A kids.length p) := R.cell 3
    by_cases hkl : k < kids.length
    · obtain ⟨d', rfl⟩ := exS_pos h3 (by omega)
      obtain ⟨b, o, op', n', name', kids', v', rfl, _, hbB, HL, g0, g1, g2, g3, c0, c1, c2, c3⟩ := ex_get d' (h3.below hb hB) hkl
      obtain ⟨A', p', hf, _, _⟩ := g3.form
      change _ = Value.slice A' kids'.length p' at hf
      subst hf
      have hkn : (k : Int) < (kids.length : Int) := by omega
      have hki : (0 : Int) ≤ (k : Int) := by omega
      have hmem : Ex.mk op' n' name' kids' ∈ kids := HL.out ▸ List.getElem_mem hkl
      have hp1 := partsL_mem hmem
      have hp2 := deepE_le (Ex.mk op' n' name' kids')
      have h1 := HA.out
      rw [drop_cons hkl HL.out, partsL_cons] at h1
      go_wp2_with fail
      refine (ih d' rfl op' n' name' kids' (.slice A' kids'.length p') _ lo B (Nat.le_trans hB hsz) g0 g1 g2 g3 (by omega)).mono ?_
      rintro e w3 ⟨rfl, x3⟩
      have hb3 : Below w.heap.size w w3 := hb.trans (x3.mono hsz)
      obtain ⟨q, HQ⟩ : ∃ q : Nat, Hid (partsE (.mk op' n' name' kids') = q) := ⟨_, rfl⟩
      rw [HQ.out] at h1 hp1 hp2 ⊢
      have hmq : (m : Int) + (q : Int) ≤ 9223372036854775807 := by omega
      have hmqB : m + q ≤ 4611686018427387904 := by omega
      have hmq0 : (0 : Int) ≤ (m : Int) + (q : Int) := by omega
      have E3 : Hid (1 + partsL kids = m + q + partsL (kids.drop (k + 1))) := by show _ = _; omega
      clear h1
      clear HA
      go_wp2_with fail
      go_roundw
      case rel => exact ⟨k + 1, m + q, by omega, by go_num, by go_num, by omega, E3, R.below x3 R.lt, hb3⟩
      case measure => simp [intOf]; omega
    · have E : Hid (partsE (.mk op n name kids) = m) := by
        have h1 := HA.out
        rw [List.drop_eq_nil_of_le (by omega), partsL_nil] at h1
        show _ = _
        rw [partsE_mk, h1]
        omega
      clear HA
      go_wp2_with fail
      go_ret
      refine RetV.mk (by rw [E.out] <;> rfl) rfl hb
theorem spec_l2Parts : ∀ d : Nat, partsEAt d
  | 0 => partsE_of 0 (fun d' h => by omega)
  | d + 1 => partsE_of (d + 1) (fun d' h => by
    have h1 : d' = d := by omega
    subst h1
    exact spec_l2Parts d')

/-- the three: whether valid; the parts; how deep -/
def valE (e : Ex) : Bool := okE 6 e
theorem valE_form (e : Ex) : valE e = (formB 6 e && decide (partsE e ≤ 30)) := ok_form 6 e
theorem form6 {e : Ex} (h : formB 6 e = true) : partsE e ≤ 4096 := by
  have := parts_pow 6 e h
  have h2 : Nat.pow 4 6 = 4096 := by decide
  omega

theorem spec_ExprValid (d : Nat) (op n : Int) (name : ByteArray) (kids : List Ex) (v3 : Value) (w : World) (lo B : Nat) (hB : B ≤ w.heap.size) (ho : I64 op) (hn64 : I64 n) (hnm : name.size ≤ maxLen) (h3 : Sl false (exS false d) w lo B kids v3) :
    Calls Tryd.prog 25 #[.agg #[.int .i64 op, .int .i64 n, .string name, v3]] w (RetV (.bool (valE (.mk op n name kids))) w) := by
  obtain ⟨A, p, hf, hl1, hl2⟩ := h3.form
  subst hf
  have hb0 : Below w.heap.size w (w.alloc (.cells #[.int .i64 op, .int .i64 n, .string name, .slice A kids.length p] 25)) := (Below.refl _ _).alloc (Nat.le_refl _) _
  have R0 : Row (w.alloc (.cells #[.int .i64 op, .int .i64 n, .string name, .slice A kids.length p] 25)) w.heap.size 25 #[.int .i64 op, .int .i64 n, .string name, .slice A kids.length p] := Row.new w _ _
  go_enter Tryd.func25, Tryd.ntmps25
  go_wp2_with fail
  refine (spec_l2Form 6 (by omega) d op n name kids _ _ lo B (Nat.le_trans hB hb0.size) ho hn64 hnm (h3.below hb0 hB)).mono ?_
  rintro e w1 ⟨rfl, b1⟩
  have hb1 : Below w.heap.size w w1 := hb0.trans (b1.mono hb0.size)
  have R1 := R0.below b1 R0.lt
  cases hf : formB 6 (.mk op n name kids)
  case false =>
    have E : Hid (valE (.mk op n name kids) = false) := by show _ = _; rw [valE_form, hf]; rfl
    go_wp2_with fail
    go_ret
    exact RetV.mk (by rw [E.out] <;> rfl) rfl hb1
  have hp := form6 hf
  have y0 : w1.cell? ⟨w.heap.size, 0, none⟩ = some (.int .i64 op) := R1.cell 0
  have y1 : w1.cell? ⟨w.heap.size, 1, none⟩ = some (.int .i64 n) := R1.cell 1
  have y2 : w1.cell? ⟨w.heap.size, 2, none⟩ = some (.string name) := R1.cell 2
  have y3 : w1.cell? ⟨w.heap.size, 3, none⟩ = some (.slice A kids.length p) := R1.cell 3
  go_wp2_with fail
  refine (spec_l2Parts d op n name kids _ _ lo B (Nat.le_trans hB hb1.size) ho hn64 hnm (h3.below hb1 hB) (by omega)).mono ?_
  rintro e w2 ⟨rfl, b2⟩
  have hb2 : Below w.heap.size w w2 := hb1.trans (b2.mono hb1.size)
  have E : Hid (valE (.mk op n name kids) = decide (((partsE (.mk op n name kids) : Nat) : Int) ≤ 30)) := by
    show _ = _
    rw [valE_form, hf, Bool.true_and]
    by_cases hle : partsE (.mk op n name kids) ≤ 30
    · rw [decide_eq_true hle, decide_eq_true (show ((partsE (.mk op n name kids) : Nat) : Int) ≤ 30 by omega)]
    · rw [decide_eq_false hle, decide_eq_false (show ¬ ((partsE (.mk op n name kids) : Nat) : Int) ≤ 30 by omega)]
  go_wp2_with fail
  go_ret
  exact RetV.mk (by rw [E.out] <;> rfl) rfl hb2

theorem impl_ExprValid (d : Nat) (op n : Int) (name : ByteArray) (kids : List Ex) (v3 : Value) (w : World) (lo B : Nat) (hB : B ≤ w.heap.size) (ho : I64 op) (hn64 : I64 n) (hnm : name.size ≤ maxLen) (h3 : Sl false (exS false d) w lo B kids v3) (ht : Tabs w) :
    Calls Tryd.prog 14 #[.agg #[.int .i64 op, .int .i64 n, .string name, v3]] w (RetV (.bool (valE (.mk op n name kids))) w) := by
  obtain ⟨A, p, hf, hl1, hl2⟩ := h3.form
  subst hf
  have hb0 : Below w.heap.size w (w.alloc (.cells #[.int .i64 op, .int .i64 n, .string name, .slice A kids.length p] 25)) := (Below.refl _ _).alloc (Nat.le_refl _) _
  have R0 : Row (w.alloc (.cells #[.int .i64 op, .int .i64 n, .string name, .slice A kids.length p] 25)) w.heap.size 25 #[.int .i64 op, .int .i64 n, .string name, .slice A kids.length p] := Row.new w _ _
  go_enter Tryd.func14, Tryd.ntmps14
  go_wp2_with fail
  refine (impl_exprSize 6 (by omega) d op n name kids _ _ lo B (Nat.le_trans hB hb0.size) ho hn64 hnm (h3.below hb0 hB) (ht.below hb0 (Nat.le_refl _))).mono ?_
  rintro e w1 ⟨n1, d1, rfl, hv, b1⟩
  have hb1 : Below w.heap.size w w1 := hb0.trans (b1.mono hb0.size)
  go_wp2_with fail
  go_ret
  exact RetV.mk rfl rfl hb1

end Go.Proofs.YthfinoapfbhgcaaDoor

