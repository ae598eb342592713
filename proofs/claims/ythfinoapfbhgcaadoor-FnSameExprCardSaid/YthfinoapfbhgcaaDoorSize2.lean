/-
  exprSize, by the program. Conditions: the tables lie as the program's text lays them; the argument reads as data.
-/
import Derived.Test.YthfinoapfbhgcaaDoorSize
namespace Go.Proofs.YthfinoapfbhgcaaDoor
open Go.RowKit Go.ChangeShapes Go.WideShapes Go.Deep

set_option linter.unusedVariables false
set_option linter.unusedSimpArgs false
/-- the form of a part, its Kids aside -/
def fmK (op n : Int) (name : ByteArray) (len : Nat) : Bool :=
  if op = 1 then inB n 0 255 && (name.toList.isEmpty && decide (len = 0))
  else if op = 2 then isName name && (decide (n = 0) && decide (len = 0))
  else if op = 13 then isName name && (decide (n = 0) && decide (len ≤ 3))
  else if 3 ≤ op ∧ op ≤ 10 then decide (n = 0) && (name.toList.isEmpty && decide (len = 2))
  else if op = 11 ∨ op = 12 then decide (n = 0) && (name.toList.isEmpty && decide (len = 1))
  else false
/-- is it an expression that is at most so deep? -/
def okE : Nat → Ex → Bool
  | 0, _ => false
  | m + 1, .mk op n name kids => fmK op n name kids.length && (kids.all (okE m) && decide (partsL kids + 1 ≤ 30))
theorem okE_parts {m : Nat} {e : Ex} (h : okE m e = true) : partsE e ≤ 30 := by
  cases m with
  | zero => cases h
  | succ m =>
    cases e
    simp only [okE, Bool.and_eq_true, decide_eq_true_eq] at h
    rw [partsE_mk]
    omega
/-- what exprSize answers -/
def SizeP (e : Ex) (m : Nat) (w : World) (en : Ending) (w' : World) : Prop :=
  ∃ n d : Int, en = .returned (.tuple #[.int .i64 n, .int .i64 d, .bool (okE m e)]) ∧ (okE m e = true → n = partsE e ∧ d = deepE e) ∧ Below w.heap.size w w'
theorem SizeP.no {e : Ex} {m : Nat} {w w' : World} {en : Ending} (h : okE m e = false) (he : en = .returned (.tuple #[.int .i64 0, .int .i64 0, .bool false])) (hb : Below w.heap.size w w') : SizeP e m w en w' :=
  ⟨0, 0, by rw [h]; exact he, (fun h' => by rw [h] at h'; cases h'), hb⟩
theorem fm_no {op n : Int} {name : ByteArray} {kids : List Ex} (h : fmK op n name kids.length = false) : ∀ m, okE m (.mk op n name kids) = false
  | 0 => rfl
  | m + 1 => by rw [okE, h]; rfl
def SizeAt (m : Nat) : Prop := ∀ (d : Nat) (op n : Int) (name : ByteArray) (kids : List Ex) (v3 : Value) (w : World) (lo B : Nat) (_ : B ≤ w.heap.size) (_ : I64 op) (_ : I64 n) (_ : name.size ≤ maxLen) (_ : Sl false (exS false d) w lo B kids v3) (_ : Tabs w),
  Calls Tryd.prog 30 #[.agg #[.int .i64 op, .int .i64 n, .string name, v3], .int .i64 (m : Int)] w (SizeP (.mk op n name kids) m w)

set_option maxRecDepth 100000 in
set_option maxHeartbeats 8000000 in
theorem size_zero (d : Nat) (op n : Int) (name : ByteArray) (kids : List Ex) (v3 : Value) (w : World) (lo B : Nat) (hB : B ≤ w.heap.size) (ho : I64 op) (hn64 : I64 n) (hnm : name.size ≤ maxLen) (h3 : Sl false (exS false d) w lo B kids v3) (ht : Tabs w) :
    Calls Tryd.prog 30 #[.agg #[.int .i64 op, .int .i64 n, .string name, v3], .int .i64 0] w (SizeP (.mk op n name kids) 0 w) := by
  obtain ⟨A, p, hf, hl1, hl2⟩ := h3.form
  subst hf
  have hnm' : name.size ≤ 9223372036854775807 := by unfold maxLen at hnm; omega
  have hb0 : Below w.heap.size w (w.alloc (.cells #[.int .i64 op, .int .i64 n, .string name, .slice A kids.length p] 25)) := (Below.refl _ _).alloc (Nat.le_refl _) _
  have R0 : Row (w.alloc (.cells #[.int .i64 op, .int .i64 n, .string name, .slice A kids.length p] 25)) w.heap.size 25 #[.int .i64 op, .int .i64 n, .string name, .slice A kids.length p] := Row.new w _ _
  have ht0 : Tabs (w.alloc (.cells #[.int .i64 op, .int .i64 n, .string name, .slice A kids.length p] 25)) := ht.below hb0 (Nat.le_refl _)
  by_cases o1 : op = 1
  case pos =>
    subst o1
    have HLV : Hid (levOf 1 = 6) := by show _ = _; decide
    go_enter Tryd.func30, Tryd.ntmps30
    go_wp2_with fail
    refine (impl_isByte n _).mono ?_
    rintro e w' ⟨rfl, rfl⟩
    cases hb1 : inB n 0 255
    case false =>
      have E : Hid (okE 0 (.mk 1 n name kids) = false) := rfl
      go_wp2_with fail
      go_ret3
      exact SizeP.no E.out rfl hb0
    cases hne : name.toList.isEmpty
    case false =>
      have E : Hid (okE 0 (.mk 1 n name kids) = false) := rfl
      go_wp2_with fail
      go_ret3
      exact SizeP.no E.out rfl hb0
    go_wp2_with fail
    refine (impl_levelOf _ _ ho ht0.2).mono ?_
    rintro e w' ⟨rfl, rfl⟩
    rw [HLV.out]
    go_wp2_with fail
    refine (impl_within _ _ _ _).mono ?_
    rintro e w' ⟨rfl, rfl⟩
    by_cases hlen : kids.length = 0
    case neg =>
      have E : Hid (okE 0 (.mk 1 n name kids) = false) := rfl
      rw [inB_no (by omega)]
      go_wp2_with fail
      go_ret3
      exact SizeP.no E.out rfl hb0
    rw [inB_yes (by omega) (by omega)]
    replace hlen := Lib.hid hlen
    go_wp2_with fail
    go_ret3
    exact SizeP.no rfl rfl hb0
  have m1 : (op == 1) = false := by simpa using o1
  by_cases o2 : op = 2
  case pos =>
    subst o2
    have HLV : Hid (levOf 2 = 6) := by show _ = _; decide
    clear m1 o1
    go_enter Tryd.func30, Tryd.ntmps30
    go_wp2_with fail
    refine (impl_IsName name _ hnm ht0.1).mono ?_
    rintro e w1 ⟨rfl, b1⟩
    have hb1 : Below w.heap.size w w1 := hb0.trans (b1.mono hb0.size)
    have R1 := R0.below b1 R0.lt
    have ht1 : Tabs w1 := ht0.below b1 (Nat.le_refl _)
    have y0 : w1.cell? ⟨w.heap.size, 0, none⟩ = some (.int .i64 2) := R1.cell 0
    have y1 : w1.cell? ⟨w.heap.size, 1, none⟩ = some (.int .i64 n) := R1.cell 1
    have y2 : w1.cell? ⟨w.heap.size, 2, none⟩ = some (.string name) := R1.cell 2
    have y3 : w1.cell? ⟨w.heap.size, 3, none⟩ = some (.slice A kids.length p) := R1.cell 3
    cases hi : isName name
    case false =>
      have E : Hid (okE 0 (.mk 2 n name kids) = false) := rfl
      go_wp2_with fail
      go_ret3
      exact SizeP.no E.out rfl hb1
    by_cases hn : n = 0
    case neg =>
      have hn' : (n != 0) = true := by simpa using hn
      have E : Hid (okE 0 (.mk 2 n name kids) = false) := rfl
      clear hn
      go_wp2_with fail
      go_ret3
      exact SizeP.no E.out rfl hb1
    have hn' : (n != 0) = false := by simpa using hn
    have HN0 := Lib.hid hn
    clear hn
    go_wp2_with fail
    refine (impl_levelOf _ _ ho ht1.2).mono ?_
    rintro e w' ⟨rfl, rfl⟩
    rw [HLV.out]
    go_wp2_with fail
    refine (impl_within _ _ _ _).mono ?_
    rintro e w' ⟨rfl, rfl⟩
    by_cases hlen : kids.length = 0
    case neg =>
      have E : Hid (okE 0 (.mk 2 n name kids) = false) := rfl
      rw [inB_no (by omega)]
      go_wp2_with fail
      go_ret3
      exact SizeP.no E.out rfl hb1
    rw [inB_yes (by omega) (by omega)]
    replace hlen := Lib.hid hlen
    go_wp2_with fail
    go_ret3
    exact SizeP.no rfl rfl hb1
  have m2 : (op == 2) = false := by simpa using o2
  by_cases o13 : op = 13
  case pos =>
    subst o13
    have HLV : Hid (levOf 13 = 6) := by show _ = _; decide
    clear m1 o1 m2 o2
    go_enter Tryd.func30, Tryd.ntmps30
    go_wp2_with fail
    refine (impl_IsName name _ hnm ht0.1).mono ?_
    rintro e w1 ⟨rfl, b1⟩
    have hb1 : Below w.heap.size w w1 := hb0.trans (b1.mono hb0.size)
    have R1 := R0.below b1 R0.lt
    have ht1 : Tabs w1 := ht0.below b1 (Nat.le_refl _)
    have y0 : w1.cell? ⟨w.heap.size, 0, none⟩ = some (.int .i64 13) := R1.cell 0
    have y1 : w1.cell? ⟨w.heap.size, 1, none⟩ = some (.int .i64 n) := R1.cell 1
    have y2 : w1.cell? ⟨w.heap.size, 2, none⟩ = some (.string name) := R1.cell 2
    have y3 : w1.cell? ⟨w.heap.size, 3, none⟩ = some (.slice A kids.length p) := R1.cell 3
    cases hi : isName name
    case false =>
      have E : Hid (okE 0 (.mk 13 n name kids) = false) := rfl
      go_wp2_with fail
      go_ret3
      exact SizeP.no E.out rfl hb1
    by_cases hn : n = 0
    case neg =>
      have hn' : (n != 0) = true := by simpa using hn
      have E : Hid (okE 0 (.mk 13 n name kids) = false) := rfl
      clear hn
      go_wp2_with fail
      go_ret3
      exact SizeP.no E.out rfl hb1
    have hn' : (n != 0) = false := by simpa using hn
    have HN0 := Lib.hid hn
    clear hn
    go_wp2_with fail
    refine (impl_levelOf _ _ ho ht1.2).mono ?_
    rintro e w' ⟨rfl, rfl⟩
    rw [HLV.out]
    go_wp2_with fail
    refine (impl_within _ _ _ _).mono ?_
    rintro e w' ⟨rfl, rfl⟩
    by_cases hlen : kids.length ≤ 3
    case neg =>
      have E : Hid (okE 0 (.mk 13 n name kids) = false) := rfl
      rw [inB_no (by omega)]
      go_wp2_with fail
      go_ret3
      exact SizeP.no E.out rfl hb1
    rw [inB_yes (by omega) (by omega)]
    replace hlen := Lib.hid hlen
    go_wp2_with fail
    go_ret3
    exact SizeP.no rfl rfl hb1
  have m13 : (op == 13) = false := by simpa using o13
  obtain ⟨bm, s1, s0, s2, s3⟩ := id ht0.2
  have hl := s3 _ op ho rfl
  have hfl := field_lev (w.alloc (.cells #[.int .i64 op, .int .i64 n, .string name, .slice A kids.length p] 25)) (sgn op) (lev op)
  clear s3
  by_cases om : 3 ≤ op ∧ op ≤ 10
  case pos =>
    have hlp := lev_mid om.1 om.2
    have hlr := lev_range op
    have HLV : Hid (levOf op = lev op) := by show _ = _; unfold levOf; rw [if_pos hlp]
    have hl6 : lev op < 6 := by omega
    go_enter Tryd.func30, Tryd.ntmps30
    go_wp2_with fail
    refine (impl_levelOf _ _ ho ht0.2).mono ?_
    rintro e w' ⟨rfl, rfl⟩
    rw [HLV.out]
    by_cases hn : n = 0
    case neg =>
      have hn' : (n != 0) = true := by simpa using hn
      have E : Hid (okE 0 (.mk op n name kids) = false) := rfl
      clear hn
      go_wp2_with fail
      go_ret3
      exact SizeP.no E.out rfl hb0
    have hn' : (n != 0) = false := by simpa using hn
    have HN0 := Lib.hid hn
    clear hn
    cases hne : name.toList.isEmpty
    case false =>
      have E : Hid (okE 0 (.mk op n name kids) = false) := rfl
      go_wp2_with fail
      go_ret3
      exact SizeP.no E.out rfl hb0
    have HNE := Lib.hid hne
    go_wp2_with fail
    refine (impl_within _ _ _ _).mono ?_
    rintro e w' ⟨rfl, rfl⟩
    by_cases hlen : kids.length = 2
    case neg =>
      have E : Hid (okE 0 (.mk op n name kids) = false) := rfl
      rw [inB_no (by omega)]
      go_wp2_with fail
      go_ret3
      exact SizeP.no E.out rfl hb0
    rw [inB_yes (by omega) (by omega)]
    replace hlen := Lib.hid hlen
    go_wp2_with fail
    go_ret3
    exact SizeP.no rfl rfl hb0
  have hl0 : lev op = 0 := lev_out (by omega)
  rw [hl0] at hl hfl
  by_cases o11 : op = 11
  case pos =>
    subst o11
    have HLV : Hid (levOf 11 = 5) := by show _ = _; decide
    clear m1 m2 m13 o1 o2 o13 om hl0
    go_enter Tryd.func30, Tryd.ntmps30
    go_wp2_with fail
    refine (impl_levelOf _ _ ho ht0.2).mono ?_
    rintro e w' ⟨rfl, rfl⟩
    rw [HLV.out]
    by_cases hn : n = 0
    case neg =>
      have hn' : (n != 0) = true := by simpa using hn
      have E : Hid (okE 0 (.mk 11 n name kids) = false) := rfl
      clear hn
      go_wp2_with fail
      go_ret3
      exact SizeP.no E.out rfl hb0
    have hn' : (n != 0) = false := by simpa using hn
    have HN0 := Lib.hid hn
    clear hn
    cases hne : name.toList.isEmpty
    case false =>
      have E : Hid (okE 0 (.mk 11 n name kids) = false) := rfl
      go_wp2_with fail
      go_ret3
      exact SizeP.no E.out rfl hb0
    have HNE := Lib.hid hne
    go_wp2_with fail
    refine (impl_within _ _ _ _).mono ?_
    rintro e w' ⟨rfl, rfl⟩
    by_cases hlen : kids.length = 1
    case neg =>
      have E : Hid (okE 0 (.mk 11 n name kids) = false) := rfl
      rw [inB_no (by omega)]
      go_wp2_with fail
      go_ret3
      exact SizeP.no E.out rfl hb0
    rw [inB_yes (by omega) (by omega)]
    replace hlen := Lib.hid hlen
    go_wp2_with fail
    go_ret3
    exact SizeP.no rfl rfl hb0
  have m11 : (op == 11) = false := by simpa using o11
  by_cases o12 : op = 12
  case pos =>
    subst o12
    have HLV : Hid (levOf 12 = 5) := by show _ = _; decide
    clear m1 m2 m13 o1 o2 o13 om hl0
    clear m11 o11
    go_enter Tryd.func30, Tryd.ntmps30
    go_wp2_with fail
    refine (impl_levelOf _ _ ho ht0.2).mono ?_
    rintro e w' ⟨rfl, rfl⟩
    rw [HLV.out]
    by_cases hn : n = 0
    case neg =>
      have hn' : (n != 0) = true := by simpa using hn
      have E : Hid (okE 0 (.mk 12 n name kids) = false) := rfl
      clear hn
      go_wp2_with fail
      go_ret3
      exact SizeP.no E.out rfl hb0
    have hn' : (n != 0) = false := by simpa using hn
    have HN0 := Lib.hid hn
    clear hn
    cases hne : name.toList.isEmpty
    case false =>
      have E : Hid (okE 0 (.mk 12 n name kids) = false) := rfl
      go_wp2_with fail
      go_ret3
      exact SizeP.no E.out rfl hb0
    have HNE := Lib.hid hne
    go_wp2_with fail
    refine (impl_within _ _ _ _).mono ?_
    rintro e w' ⟨rfl, rfl⟩
    by_cases hlen : kids.length = 1
    case neg =>
      have E : Hid (okE 0 (.mk 12 n name kids) = false) := rfl
      rw [inB_no (by omega)]
      go_wp2_with fail
      go_ret3
      exact SizeP.no E.out rfl hb0
    rw [inB_yes (by omega) (by omega)]
    replace hlen := Lib.hid hlen
    go_wp2_with fail
    go_ret3
    exact SizeP.no rfl rfl hb0
  have m12 : (op == 12) = false := by simpa using o12
  have E : Hid (okE 0 (.mk op n name kids) = false) := rfl
  clear o1 o2 o13 om o11 o12 hl0
  go_enter Tryd.func30, Tryd.ntmps30
  go_wp2_with fail
  go_ret3
  exact SizeP.no E.out rfl hb0

set_option maxRecDepth 100000 in
set_option maxHeartbeats 8000000 in
theorem size_step (m : Nat) (ih : SizeAt m) (hm : m ≤ 1000) (d : Nat) (op n : Int) (name : ByteArray) (kids : List Ex) (v3 : Value) (w : World) (lo B : Nat) (hB : B ≤ w.heap.size) (ho : I64 op) (hn64 : I64 n) (hnm : name.size ≤ maxLen) (h3 : Sl false (exS false d) w lo B kids v3) (ht : Tabs w) :
    Calls Tryd.prog 30 #[.agg #[.int .i64 op, .int .i64 n, .string name, v3], .int .i64 ((m : Int) + 1)] w (SizeP (.mk op n name kids) (m + 1) w) := by
  obtain ⟨A, p, hf, hl1, hl2⟩ := h3.form
  subst hf
  have hnm' : name.size ≤ 9223372036854775807 := by unfold maxLen at hnm; omega
  have hb0 : Below w.heap.size w (w.alloc (.cells #[.int .i64 op, .int .i64 n, .string name, .slice A kids.length p] 25)) := (Below.refl _ _).alloc (Nat.le_refl _) _
  have R0 : Row (w.alloc (.cells #[.int .i64 op, .int .i64 n, .string name, .slice A kids.length p] 25)) w.heap.size 25 #[.int .i64 op, .int .i64 n, .string name, .slice A kids.length p] := Row.new w _ _
  have ht0 : Tabs (w.alloc (.cells #[.int .i64 op, .int .i64 n, .string name, .slice A kids.length p] 25)) := ht.below hb0 (Nat.le_refl _)
  by_cases o1 : op = 1
  case pos =>
    subst o1
    have HLV : Hid (levOf 1 = 6) := by show _ = _; decide
    go_enter Tryd.func30, Tryd.ntmps30
    go_wp2_with fail
    refine (impl_isByte n _).mono ?_
    rintro e w' ⟨rfl, rfl⟩
    cases hb1 : inB n 0 255
    case false =>
      have E : Hid (okE (m + 1) (.mk 1 n name kids) = false) := fm_no (by unfold fmK; rw [if_pos rfl, hb1]; rfl) _
      go_wp2_with fail
      go_ret3
      exact SizeP.no E.out rfl hb0
    cases hne : name.toList.isEmpty
    case false =>
      have E : Hid (okE (m + 1) (.mk 1 n name kids) = false) := fm_no (by unfold fmK; rw [if_pos rfl, hne]; simp) _
      go_wp2_with fail
      go_ret3
      exact SizeP.no E.out rfl hb0
    go_wp2_with fail
    refine (impl_levelOf _ _ ho ht0.2).mono ?_
    rintro e w' ⟨rfl, rfl⟩
    rw [HLV.out]
    go_wp2_with fail
    refine (impl_within _ _ _ _).mono ?_
    rintro e w' ⟨rfl, rfl⟩
    by_cases hlen : kids.length = 0
    case neg =>
      have E : Hid (okE (m + 1) (.mk 1 n name kids) = false) := fm_no (by unfold fmK; rw [if_pos rfl]; simp [hlen]) _
      rw [inB_no (by omega)]
      go_wp2_with fail
      go_ret3
      exact SizeP.no E.out rfl hb0
    rw [inB_yes (by omega) (by omega)]
    have HF : Hid (fmK 1 n name kids.length = true) := by show _ = _; unfold fmK; rw [if_pos rfl]; simp [hlen, *]
    have hk3 : kids.length ≤ 3 := by omega
    replace hlen := Lib.hid hlen
    go_wp2_with fail
    go_loopw [9, 10, 101] (fun v u i wr => ∃ (k : Nat) (P D : Int), k ≤ kids.length ∧ i = .int .i64 k ∧ v = .int .i64 P ∧ u = .int .i64 D ∧ 1 ≤ P ∧ P ≤ 1 + 30 * (k : Int) ∧ 1 ≤ D ∧ D ≤ 31 ∧ Hid ((partsL kids : Int) + 1 = P + partsL (kids.drop k)) ∧ Hid ((deepL kids : Int) + 1 = max D ((deepL (kids.drop k) : Int) + 1)) ∧ Hid (kids.all (okE m) = (kids.drop k).all (okE m)) ∧ Tabs wr ∧ Below w.heap.size w wr) (fun _ _ i _ => kids.length - (intOf i).toNat)
    case atStart => exact ⟨0, 1, 1, by omega, rfl, rfl, rfl, by omega, by omega, by omega, by omega, (show _ = _ by simp; omega), (show _ = _ by simp; omega), (show _ = _ from rfl), ht0, hb0⟩
    case round =>
      obtain ⟨k, P, D, hk, rfl, rfl, rfl, hP0, hP1, hD0, hD1, HP, HD, HA, ht, hb⟩ := hrel
      have hsz := hb.size
      by_cases hkl : k < kids.length
      · obtain ⟨d', rfl⟩ := exS_pos h3 (by omega)
        obtain ⟨b, o, op', n', name', kids', v', rfl, _, hbB, HL, g0, g1, g2, g3, c0, c1, c2, c3⟩ := ex_get d' (h3.below hb hB) hkl
        obtain ⟨A', p', hf, _, _⟩ := g3.form
        change _ = Value.slice A' kids'.length p' at hf
        subst hf
        have hkn : (k : Int) < (kids.length : Int) := by omega
        have hki : (0 : Int) ≤ (k : Int) := by omega
        have hba : Below w.heap.size w (wr.alloc (.cells #[.int .i64 op', .int .i64 n', .string name', .slice A' kids'.length p'] 25)) := hb.alloc hsz _
        have hbx : Below wr.heap.size wr (wr.alloc (.cells #[.int .i64 op', .int .i64 n', .string name', .slice A' kids'.length p'] 25)) := (Below.refl _ _).alloc (Nat.le_refl _) _
        go_wp2_with fail
        refine (ih d' op' n' name' kids' (.slice A' kids'.length p') _ lo B (by simp; omega) g0 g1 g2 (g3.keep (Nat.le_refl _) (Nat.le_refl _) (fun x _ hx => Below.heap_alloc _ _ x (by omega))) (ht.below hbx (Nat.le_refl _))).mono ?_
        rintro e w3 ⟨n3, d3, rfl, hok, x3⟩
        have hb3 : Below w.heap.size w w3 := hba.trans (x3.mono hba.size)
        have ht3 : Tabs w3 := (ht.below hbx (Nat.le_refl _)).below x3 (by simp)
        have HOK := Lib.hid hok
        clear hok
        by_cases he : okE m (.mk op' n' name' kids') = true
        · have hq := HOK.out he
          have hpp := okE_parts he
          have hdp := deepE_le (.mk op' n' name' kids')
          have hpo := partsE_pos (.mk op' n' name' kids')
          have HN := Lib.hid hq.1
          have HDD := Lib.hid hq.2
          have b1 : 1 ≤ n3 := by have := HN.out; omega
          have b2 : n3 ≤ 30 := by have := HN.out; omega
          have b3 : d3 ≤ 30 := by have := HDD.out; omega
          have b4 : 0 ≤ d3 := by have := HDD.out; omega
          have E1 : Hid ((partsL kids : Int) + 1 = (P + n3) + partsL (kids.drop (k + 1))) := by
            have h1 := HP.out
            rw [drop_cons hkl HL.out, partsL_cons] at h1
            have h2 := HN.out
            show _ = _
            omega
          have E3 : Hid (kids.all (okE m) = (kids.drop (k + 1)).all (okE m)) := by
            have h1 := HA.out
            rw [drop_cons hkl HL.out, List.all_cons, he, Bool.true_and] at h1
            exact h1
          have E2 : Hid ((deepL kids : Int) + 1 = max (max D (d3 + 1)) ((deepL (kids.drop (k + 1)) : Int) + 1)) := by
            have h1 := HD.out
            rw [drop_cons hkl HL.out, deepL_cons] at h1
            have h2 := HDD.out
            show _ = _
            omega
          rw [he]
          clear hq HP HA HD hpp hdp hpo
          have hN3 : (P : Int) + n3 ≤ 1000 := by omega
          go_wp2_with fail
          go_roundw
          case rel => exact ⟨k + 1, P + n3, max D (d3 + 1), by omega, by go_num, rfl, rfl, by omega, by omega, by omega, by omega, E1, E2, E3, ht3, hb3⟩
          case measure => simp [intOf]; omega
        · have he : okE m (.mk op' n' name' kids') = false := by simpa using he
          have E : Hid (okE (m + 1) (.mk 1 n name kids) = false) := by
            have h1 := HA.out
            rw [drop_cons hkl HL.out, List.all_cons, he, Bool.false_and] at h1
            show _ = _
            rw [okE, h1]
            simp
          rw [he]
          clear HP HA HD
          go_wp2_with fail
          go_ret3
          exact SizeP.no E.out rfl hb3
      · have E1 : Hid ((partsL kids : Int) + 1 = P) := by
          have h1 := HP.out
          rw [List.drop_eq_nil_of_le (by omega), partsL_nil] at h1
          show _ = _
          omega
        have E2 : Hid ((deepL kids : Int) + 1 = D) := by
          have h1 := HD.out
          rw [List.drop_eq_nil_of_le (by omega), deepL_nil] at h1
          show _ = _
          omega
        have E3 : Hid (okE (m + 1) (.mk 1 n name kids) = decide (P ≤ 30)) := by
          have h1 := HA.out
          rw [List.drop_eq_nil_of_le (by omega)] at h1
          show _ = _
          rw [okE, HF.out, h1]
          have h2 := E1.out
          simp
          omega
        clear HP HA HD
        by_cases h30 : P ≤ 30
        · replace E3 : Hid (okE (m + 1) (.mk 1 n name kids) = true) := by have := E3.out; rw [decide_eq_true h30] at this; exact this
          go_wp2_with fail
          go_ret3
          exact ⟨P, D, by rw [E3.out] <;> rfl, fun _ => ⟨by rw [partsE_mk]; have := E1.out; omega, by rw [deepE_mk]; have := E2.out; omega⟩, hb⟩
        · replace E3 : Hid (okE (m + 1) (.mk 1 n name kids) = false) := by have := E3.out; rw [decide_eq_false h30] at this; exact this
          have h30' : 30 < P := by omega
          go_wp2_with fail
          go_ret3
          exact ⟨P, D, by rw [E3.out] <;> rfl, (fun h => by rw [E3.out] at h; cases h), hb⟩
  have m1 : (op == 1) = false := by simpa using o1
  by_cases o2 : op = 2
  case pos =>
    subst o2
    have HLV : Hid (levOf 2 = 6) := by show _ = _; decide
    clear m1 o1
    go_enter Tryd.func30, Tryd.ntmps30
    go_wp2_with fail
    refine (impl_IsName name _ hnm ht0.1).mono ?_
    rintro e w1 ⟨rfl, b1⟩
    have hb1 : Below w.heap.size w w1 := hb0.trans (b1.mono hb0.size)
    have R1 := R0.below b1 R0.lt
    have ht1 : Tabs w1 := ht0.below b1 (Nat.le_refl _)
    have y0 : w1.cell? ⟨w.heap.size, 0, none⟩ = some (.int .i64 2) := R1.cell 0
    have y1 : w1.cell? ⟨w.heap.size, 1, none⟩ = some (.int .i64 n) := R1.cell 1
    have y2 : w1.cell? ⟨w.heap.size, 2, none⟩ = some (.string name) := R1.cell 2
    have y3 : w1.cell? ⟨w.heap.size, 3, none⟩ = some (.slice A kids.length p) := R1.cell 3
    cases hi : isName name
    case false =>
      have E : Hid (okE (m + 1) (.mk 2 n name kids) = false) := fm_no (by unfold fmK; rw [if_neg (by decide), if_pos rfl]; simp [hi]) _
      go_wp2_with fail
      go_ret3
      exact SizeP.no E.out rfl hb1
    by_cases hn : n = 0
    case neg =>
      have hn' : (n != 0) = true := by simpa using hn
      have E : Hid (okE (m + 1) (.mk 2 n name kids) = false) := fm_no (by unfold fmK; rw [if_neg (by decide), if_pos rfl]; simp [hn]) _
      clear hn
      go_wp2_with fail
      go_ret3
      exact SizeP.no E.out rfl hb1
    have hn' : (n != 0) = false := by simpa using hn
    have HN0 := Lib.hid hn
    clear hn
    go_wp2_with fail
    refine (impl_levelOf _ _ ho ht1.2).mono ?_
    rintro e w' ⟨rfl, rfl⟩
    rw [HLV.out]
    go_wp2_with fail
    refine (impl_within _ _ _ _).mono ?_
    rintro e w' ⟨rfl, rfl⟩
    by_cases hlen : kids.length = 0
    case neg =>
      have E : Hid (okE (m + 1) (.mk 2 n name kids) = false) := fm_no (by unfold fmK; rw [if_neg (by decide), if_pos rfl]; simp [hlen]) _
      rw [inB_no (by omega)]
      go_wp2_with fail
      go_ret3
      exact SizeP.no E.out rfl hb1
    rw [inB_yes (by omega) (by omega)]
    have HF : Hid (fmK 2 n name kids.length = true) := by show _ = _; unfold fmK; rw [if_neg (by decide), if_pos rfl]; simp [hlen, hi, HN0.out]
    have hk3 : kids.length ≤ 3 := by omega
    replace hlen := Lib.hid hlen
    go_wp2_with fail
    go_loopw [9, 10, 101] (fun v u i wr => ∃ (k : Nat) (P D : Int), k ≤ kids.length ∧ i = .int .i64 k ∧ v = .int .i64 P ∧ u = .int .i64 D ∧ 1 ≤ P ∧ P ≤ 1 + 30 * (k : Int) ∧ 1 ≤ D ∧ D ≤ 31 ∧ Hid ((partsL kids : Int) + 1 = P + partsL (kids.drop k)) ∧ Hid ((deepL kids : Int) + 1 = max D ((deepL (kids.drop k) : Int) + 1)) ∧ Hid (kids.all (okE m) = (kids.drop k).all (okE m)) ∧ Tabs wr ∧ Below w.heap.size w wr) (fun _ _ i _ => kids.length - (intOf i).toNat)
    case atStart => exact ⟨0, 1, 1, by omega, rfl, rfl, rfl, by omega, by omega, by omega, by omega, (show _ = _ by simp; omega), (show _ = _ by simp; omega), (show _ = _ from rfl), ht1, hb1⟩
    case round =>
      obtain ⟨k, P, D, hk, rfl, rfl, rfl, hP0, hP1, hD0, hD1, HP, HD, HA, ht, hb⟩ := hrel
      have hsz := hb.size
      by_cases hkl : k < kids.length
      · obtain ⟨d', rfl⟩ := exS_pos h3 (by omega)
        obtain ⟨b, o, op', n', name', kids', v', rfl, _, hbB, HL, g0, g1, g2, g3, c0, c1, c2, c3⟩ := ex_get d' (h3.below hb hB) hkl
        obtain ⟨A', p', hf, _, _⟩ := g3.form
        change _ = Value.slice A' kids'.length p' at hf
        subst hf
        have hkn : (k : Int) < (kids.length : Int) := by omega
        have hki : (0 : Int) ≤ (k : Int) := by omega
        have hba : Below w.heap.size w (wr.alloc (.cells #[.int .i64 op', .int .i64 n', .string name', .slice A' kids'.length p'] 25)) := hb.alloc hsz _
        have hbx : Below wr.heap.size wr (wr.alloc (.cells #[.int .i64 op', .int .i64 n', .string name', .slice A' kids'.length p'] 25)) := (Below.refl _ _).alloc (Nat.le_refl _) _
        go_wp2_with fail
        refine (ih d' op' n' name' kids' (.slice A' kids'.length p') _ lo B (by simp; omega) g0 g1 g2 (g3.keep (Nat.le_refl _) (Nat.le_refl _) (fun x _ hx => Below.heap_alloc _ _ x (by omega))) (ht.below hbx (Nat.le_refl _))).mono ?_
        rintro e w3 ⟨n3, d3, rfl, hok, x3⟩
        have hb3 : Below w.heap.size w w3 := hba.trans (x3.mono hba.size)
        have ht3 : Tabs w3 := (ht.below hbx (Nat.le_refl _)).below x3 (by simp)
        have HOK := Lib.hid hok
        clear hok
        by_cases he : okE m (.mk op' n' name' kids') = true
        · have hq := HOK.out he
          have hpp := okE_parts he
          have hdp := deepE_le (.mk op' n' name' kids')
          have hpo := partsE_pos (.mk op' n' name' kids')
          have HN := Lib.hid hq.1
          have HDD := Lib.hid hq.2
          have b1 : 1 ≤ n3 := by have := HN.out; omega
          have b2 : n3 ≤ 30 := by have := HN.out; omega
          have b3 : d3 ≤ 30 := by have := HDD.out; omega
          have b4 : 0 ≤ d3 := by have := HDD.out; omega
          have E1 : Hid ((partsL kids : Int) + 1 = (P + n3) + partsL (kids.drop (k + 1))) := by
            have h1 := HP.out
            rw [drop_cons hkl HL.out, partsL_cons] at h1
            have h2 := HN.out
            show _ = _
            omega
          have E3 : Hid (kids.all (okE m) = (kids.drop (k + 1)).all (okE m)) := by
            have h1 := HA.out
            rw [drop_cons hkl HL.out, List.all_cons, he, Bool.true_and] at h1
            exact h1
          have E2 : Hid ((deepL kids : Int) + 1 = max (max D (d3 + 1)) ((deepL (kids.drop (k + 1)) : Int) + 1)) := by
            have h1 := HD.out
            rw [drop_cons hkl HL.out, deepL_cons] at h1
            have h2 := HDD.out
            show _ = _
            omega
          rw [he]
          clear hq HP HA HD hpp hdp hpo
          have hN3 : (P : Int) + n3 ≤ 1000 := by omega
          go_wp2_with fail
          go_roundw
          case rel => exact ⟨k + 1, P + n3, max D (d3 + 1), by omega, by go_num, rfl, rfl, by omega, by omega, by omega, by omega, E1, E2, E3, ht3, hb3⟩
          case measure => simp [intOf]; omega
        · have he : okE m (.mk op' n' name' kids') = false := by simpa using he
          have E : Hid (okE (m + 1) (.mk 2 n name kids) = false) := by
            have h1 := HA.out
            rw [drop_cons hkl HL.out, List.all_cons, he, Bool.false_and] at h1
            show _ = _
            rw [okE, h1]
            simp
          rw [he]
          clear HP HA HD
          go_wp2_with fail
          go_ret3
          exact SizeP.no E.out rfl hb3
      · have E1 : Hid ((partsL kids : Int) + 1 = P) := by
          have h1 := HP.out
          rw [List.drop_eq_nil_of_le (by omega), partsL_nil] at h1
          show _ = _
          omega
        have E2 : Hid ((deepL kids : Int) + 1 = D) := by
          have h1 := HD.out
          rw [List.drop_eq_nil_of_le (by omega), deepL_nil] at h1
          show _ = _
          omega
        have E3 : Hid (okE (m + 1) (.mk 2 n name kids) = decide (P ≤ 30)) := by
          have h1 := HA.out
          rw [List.drop_eq_nil_of_le (by omega)] at h1
          show _ = _
          rw [okE, HF.out, h1]
          have h2 := E1.out
          simp
          omega
        clear HP HA HD
        by_cases h30 : P ≤ 30
        · replace E3 : Hid (okE (m + 1) (.mk 2 n name kids) = true) := by have := E3.out; rw [decide_eq_true h30] at this; exact this
          go_wp2_with fail
          go_ret3
          exact ⟨P, D, by rw [E3.out] <;> rfl, fun _ => ⟨by rw [partsE_mk]; have := E1.out; omega, by rw [deepE_mk]; have := E2.out; omega⟩, hb⟩
        · replace E3 : Hid (okE (m + 1) (.mk 2 n name kids) = false) := by have := E3.out; rw [decide_eq_false h30] at this; exact this
          have h30' : 30 < P := by omega
          go_wp2_with fail
          go_ret3
          exact ⟨P, D, by rw [E3.out] <;> rfl, (fun h => by rw [E3.out] at h; cases h), hb⟩
  have m2 : (op == 2) = false := by simpa using o2
  by_cases o13 : op = 13
  case pos =>
    subst o13
    have HLV : Hid (levOf 13 = 6) := by show _ = _; decide
    clear m1 o1 m2 o2
    go_enter Tryd.func30, Tryd.ntmps30
    go_wp2_with fail
    refine (impl_IsName name _ hnm ht0.1).mono ?_
    rintro e w1 ⟨rfl, b1⟩
    have hb1 : Below w.heap.size w w1 := hb0.trans (b1.mono hb0.size)
    have R1 := R0.below b1 R0.lt
    have ht1 : Tabs w1 := ht0.below b1 (Nat.le_refl _)
    have y0 : w1.cell? ⟨w.heap.size, 0, none⟩ = some (.int .i64 13) := R1.cell 0
    have y1 : w1.cell? ⟨w.heap.size, 1, none⟩ = some (.int .i64 n) := R1.cell 1
    have y2 : w1.cell? ⟨w.heap.size, 2, none⟩ = some (.string name) := R1.cell 2
    have y3 : w1.cell? ⟨w.heap.size, 3, none⟩ = some (.slice A kids.length p) := R1.cell 3
    cases hi : isName name
    case false =>
      have E : Hid (okE (m + 1) (.mk 13 n name kids) = false) := fm_no (by unfold fmK; rw [if_neg (by decide), if_neg (by decide), if_pos rfl]; simp [hi]) _
      go_wp2_with fail
      go_ret3
      exact SizeP.no E.out rfl hb1
    by_cases hn : n = 0
    case neg =>
      have hn' : (n != 0) = true := by simpa using hn
      have E : Hid (okE (m + 1) (.mk 13 n name kids) = false) := fm_no (by unfold fmK; rw [if_neg (by decide), if_neg (by decide), if_pos rfl]; simp [hn]) _
      clear hn
      go_wp2_with fail
      go_ret3
      exact SizeP.no E.out rfl hb1
    have hn' : (n != 0) = false := by simpa using hn
    have HN0 := Lib.hid hn
    clear hn
    go_wp2_with fail
    refine (impl_levelOf _ _ ho ht1.2).mono ?_
    rintro e w' ⟨rfl, rfl⟩
    rw [HLV.out]
    go_wp2_with fail
    refine (impl_within _ _ _ _).mono ?_
    rintro e w' ⟨rfl, rfl⟩
    by_cases hlen : kids.length ≤ 3
    case neg =>
      have E : Hid (okE (m + 1) (.mk 13 n name kids) = false) := fm_no (by unfold fmK; rw [if_neg (by decide), if_neg (by decide), if_pos rfl]; simp [hlen]) _
      rw [inB_no (by omega)]
      go_wp2_with fail
      go_ret3
      exact SizeP.no E.out rfl hb1
    rw [inB_yes (by omega) (by omega)]
    have HF : Hid (fmK 13 n name kids.length = true) := by show _ = _; unfold fmK; rw [if_neg (by decide), if_neg (by decide), if_pos rfl]; simp [hlen, hi, HN0.out]
    have hk3 : kids.length ≤ 3 := by omega
    replace hlen := Lib.hid hlen
    go_wp2_with fail
    go_loopw [9, 10, 101] (fun v u i wr => ∃ (k : Nat) (P D : Int), k ≤ kids.length ∧ i = .int .i64 k ∧ v = .int .i64 P ∧ u = .int .i64 D ∧ 1 ≤ P ∧ P ≤ 1 + 30 * (k : Int) ∧ 1 ≤ D ∧ D ≤ 31 ∧ Hid ((partsL kids : Int) + 1 = P + partsL (kids.drop k)) ∧ Hid ((deepL kids : Int) + 1 = max D ((deepL (kids.drop k) : Int) + 1)) ∧ Hid (kids.all (okE m) = (kids.drop k).all (okE m)) ∧ Tabs wr ∧ Below w.heap.size w wr) (fun _ _ i _ => kids.length - (intOf i).toNat)
    case atStart => exact ⟨0, 1, 1, by omega, rfl, rfl, rfl, by omega, by omega, by omega, by omega, (show _ = _ by simp; omega), (show _ = _ by simp; omega), (show _ = _ from rfl), ht1, hb1⟩
    case round =>
      obtain ⟨k, P, D, hk, rfl, rfl, rfl, hP0, hP1, hD0, hD1, HP, HD, HA, ht, hb⟩ := hrel
      have hsz := hb.size
      by_cases hkl : k < kids.length
      · obtain ⟨d', rfl⟩ := exS_pos h3 (by omega)
        obtain ⟨b, o, op', n', name', kids', v', rfl, _, hbB, HL, g0, g1, g2, g3, c0, c1, c2, c3⟩ := ex_get d' (h3.below hb hB) hkl
        obtain ⟨A', p', hf, _, _⟩ := g3.form
        change _ = Value.slice A' kids'.length p' at hf
        subst hf
        have hkn : (k : Int) < (kids.length : Int) := by omega
        have hki : (0 : Int) ≤ (k : Int) := by omega
        have hba : Below w.heap.size w (wr.alloc (.cells #[.int .i64 op', .int .i64 n', .string name', .slice A' kids'.length p'] 25)) := hb.alloc hsz _
        have hbx : Below wr.heap.size wr (wr.alloc (.cells #[.int .i64 op', .int .i64 n', .string name', .slice A' kids'.length p'] 25)) := (Below.refl _ _).alloc (Nat.le_refl _) _
        go_wp2_with fail
        refine (ih d' op' n' name' kids' (.slice A' kids'.length p') _ lo B (by simp; omega) g0 g1 g2 (g3.keep (Nat.le_refl _) (Nat.le_refl _) (fun x _ hx => Below.heap_alloc _ _ x (by omega))) (ht.below hbx (Nat.le_refl _))).mono ?_
        rintro e w3 ⟨n3, d3, rfl, hok, x3⟩
        have hb3 : Below w.heap.size w w3 := hba.trans (x3.mono hba.size)
        have ht3 : Tabs w3 := (ht.below hbx (Nat.le_refl _)).below x3 (by simp)
        have HOK := Lib.hid hok
        clear hok
        by_cases he : okE m (.mk op' n' name' kids') = true
        · have hq := HOK.out he
          have hpp := okE_parts he
          have hdp := deepE_le (.mk op' n' name' kids')
          have hpo := partsE_pos (.mk op' n' name' kids')
          have HN := Lib.hid hq.1
          have HDD := Lib.hid hq.2
          have b1 : 1 ≤ n3 := by have := HN.out; omega
          have b2 : n3 ≤ 30 := by have := HN.out; omega
          have b3 : d3 ≤ 30 := by have := HDD.out; omega
          have b4 : 0 ≤ d3 := by have := HDD.out; omega
          have E1 : Hid ((partsL kids : Int) + 1 = (P + n3) + partsL (kids.drop (k + 1))) := by
            have h1 := HP.out
            rw [drop_cons hkl HL.out, partsL_cons] at h1
            have h2 := HN.out
            show _ = _
            omega
          have E3 : Hid (kids.all (okE m) = (kids.drop (k + 1)).all (okE m)) := by
            have h1 := HA.out
            rw [drop_cons hkl HL.out, List.all_cons, he, Bool.true_and] at h1
            exact h1
          have E2 : Hid ((deepL kids : Int) + 1 = max (max D (d3 + 1)) ((deepL (kids.drop (k + 1)) : Int) + 1)) := by
            have h1 := HD.out
            rw [drop_cons hkl HL.out, deepL_cons] at h1
            have h2 := HDD.out
            show _ = _
            omega
          rw [he]
          clear hq HP HA HD hpp hdp hpo
          have hN3 : (P : Int) + n3 ≤ 1000 := by omega
          go_wp2_with fail
          go_roundw
          case rel => exact ⟨k + 1, P + n3, max D (d3 + 1), by omega, by go_num, rfl, rfl, by omega, by omega, by omega, by omega, E1, E2, E3, ht3, hb3⟩
          case measure => simp [intOf]; omega
        · have he : okE m (.mk op' n' name' kids') = false := by simpa using he
          have E : Hid (okE (m + 1) (.mk 13 n name kids) = false) := by
            have h1 := HA.out
            rw [drop_cons hkl HL.out, List.all_cons, he, Bool.false_and] at h1
            show _ = _
            rw [okE, h1]
            simp
          rw [he]
          clear HP HA HD
          go_wp2_with fail
          go_ret3
          exact SizeP.no E.out rfl hb3
      · have E1 : Hid ((partsL kids : Int) + 1 = P) := by
          have h1 := HP.out
          rw [List.drop_eq_nil_of_le (by omega), partsL_nil] at h1
          show _ = _
          omega
        have E2 : Hid ((deepL kids : Int) + 1 = D) := by
          have h1 := HD.out
          rw [List.drop_eq_nil_of_le (by omega), deepL_nil] at h1
          show _ = _
          omega
        have E3 : Hid (okE (m + 1) (.mk 13 n name kids) = decide (P ≤ 30)) := by
          have h1 := HA.out
          rw [List.drop_eq_nil_of_le (by omega)] at h1
          show _ = _
          rw [okE, HF.out, h1]
          have h2 := E1.out
          simp
          omega
        clear HP HA HD
        by_cases h30 : P ≤ 30
        · replace E3 : Hid (okE (m + 1) (.mk 13 n name kids) = true) := by have := E3.out; rw [decide_eq_true h30] at this; exact this
          go_wp2_with fail
          go_ret3
          exact ⟨P, D, by rw [E3.out] <;> rfl, fun _ => ⟨by rw [partsE_mk]; have := E1.out; omega, by rw [deepE_mk]; have := E2.out; omega⟩, hb⟩
        · replace E3 : Hid (okE (m + 1) (.mk 13 n name kids) = false) := by have := E3.out; rw [decide_eq_false h30] at this; exact this
          have h30' : 30 < P := by omega
          go_wp2_with fail
          go_ret3
          exact ⟨P, D, by rw [E3.out] <;> rfl, (fun h => by rw [E3.out] at h; cases h), hb⟩
  have m13 : (op == 13) = false := by simpa using o13
  obtain ⟨bm, s1, s0, s2, s3⟩ := id ht0.2
  have hl := s3 _ op ho rfl
  have hfl := field_lev (w.alloc (.cells #[.int .i64 op, .int .i64 n, .string name, .slice A kids.length p] 25)) (sgn op) (lev op)
  clear s3
  by_cases om : 3 ≤ op ∧ op ≤ 10
  case pos =>
    have hlp := lev_mid om.1 om.2
    have hlr := lev_range op
    have HLV : Hid (levOf op = lev op) := by show _ = _; unfold levOf; rw [if_pos hlp]
    have hl6 : lev op < 6 := by omega
    go_enter Tryd.func30, Tryd.ntmps30
    go_wp2_with fail
    refine (impl_levelOf _ _ ho ht0.2).mono ?_
    rintro e w' ⟨rfl, rfl⟩
    rw [HLV.out]
    by_cases hn : n = 0
    case neg =>
      have hn' : (n != 0) = true := by simpa using hn
      have E : Hid (okE (m + 1) (.mk op n name kids) = false) := fm_no (by unfold fmK; rw [if_neg o1, if_neg o2, if_neg o13, if_pos om]; simp [hn]) _
      clear hn
      go_wp2_with fail
      go_ret3
      exact SizeP.no E.out rfl hb0
    have hn' : (n != 0) = false := by simpa using hn
    have HN0 := Lib.hid hn
    clear hn
    cases hne : name.toList.isEmpty
    case false =>
      have E : Hid (okE (m + 1) (.mk op n name kids) = false) := fm_no (by unfold fmK; rw [if_neg o1, if_neg o2, if_neg o13, if_pos om]; simp [hne]) _
      go_wp2_with fail
      go_ret3
      exact SizeP.no E.out rfl hb0
    have HNE := Lib.hid hne
    go_wp2_with fail
    refine (impl_within _ _ _ _).mono ?_
    rintro e w' ⟨rfl, rfl⟩
    by_cases hlen : kids.length = 2
    case neg =>
      have E : Hid (okE (m + 1) (.mk op n name kids) = false) := fm_no (by unfold fmK; rw [if_neg o1, if_neg o2, if_neg o13, if_pos om]; simp [hlen]) _
      rw [inB_no (by omega)]
      go_wp2_with fail
      go_ret3
      exact SizeP.no E.out rfl hb0
    rw [inB_yes (by omega) (by omega)]
    have HF : Hid (fmK op n name kids.length = true) := by show _ = _; unfold fmK; rw [if_neg o1, if_neg o2, if_neg o13, if_pos om]; simp [hlen, HNE.out, HN0.out]
    have hk3 : kids.length ≤ 3 := by omega
    replace hlen := Lib.hid hlen
    go_wp2_with fail
    go_loopw [9, 10, 101] (fun v u i wr => ∃ (k : Nat) (P D : Int), k ≤ kids.length ∧ i = .int .i64 k ∧ v = .int .i64 P ∧ u = .int .i64 D ∧ 1 ≤ P ∧ P ≤ 1 + 30 * (k : Int) ∧ 1 ≤ D ∧ D ≤ 31 ∧ Hid ((partsL kids : Int) + 1 = P + partsL (kids.drop k)) ∧ Hid ((deepL kids : Int) + 1 = max D ((deepL (kids.drop k) : Int) + 1)) ∧ Hid (kids.all (okE m) = (kids.drop k).all (okE m)) ∧ Tabs wr ∧ Below w.heap.size w wr) (fun _ _ i _ => kids.length - (intOf i).toNat)
    case atStart => exact ⟨0, 1, 1, by omega, rfl, rfl, rfl, by omega, by omega, by omega, by omega, (show _ = _ by simp; omega), (show _ = _ by simp; omega), (show _ = _ from rfl), ht0, hb0⟩
    case round =>
      obtain ⟨k, P, D, hk, rfl, rfl, rfl, hP0, hP1, hD0, hD1, HP, HD, HA, ht, hb⟩ := hrel
      have hsz := hb.size
      by_cases hkl : k < kids.length
      · obtain ⟨d', rfl⟩ := exS_pos h3 (by omega)
        obtain ⟨b, o, op', n', name', kids', v', rfl, _, hbB, HL, g0, g1, g2, g3, c0, c1, c2, c3⟩ := ex_get d' (h3.below hb hB) hkl
        obtain ⟨A', p', hf, _, _⟩ := g3.form
        change _ = Value.slice A' kids'.length p' at hf
        subst hf
        have hkn : (k : Int) < (kids.length : Int) := by omega
        have hki : (0 : Int) ≤ (k : Int) := by omega
        have hba : Below w.heap.size w (wr.alloc (.cells #[.int .i64 op', .int .i64 n', .string name', .slice A' kids'.length p'] 25)) := hb.alloc hsz _
        have hbx : Below wr.heap.size wr (wr.alloc (.cells #[.int .i64 op', .int .i64 n', .string name', .slice A' kids'.length p'] 25)) := (Below.refl _ _).alloc (Nat.le_refl _) _
        go_wp2_with fail
        refine (ih d' op' n' name' kids' (.slice A' kids'.length p') _ lo B (by simp; omega) g0 g1 g2 (g3.keep (Nat.le_refl _) (Nat.le_refl _) (fun x _ hx => Below.heap_alloc _ _ x (by omega))) (ht.below hbx (Nat.le_refl _))).mono ?_
        rintro e w3 ⟨n3, d3, rfl, hok, x3⟩
        have hb3 : Below w.heap.size w w3 := hba.trans (x3.mono hba.size)
        have ht3 : Tabs w3 := (ht.below hbx (Nat.le_refl _)).below x3 (by simp)
        have HOK := Lib.hid hok
        clear hok
        by_cases he : okE m (.mk op' n' name' kids') = true
        · have hq := HOK.out he
          have hpp := okE_parts he
          have hdp := deepE_le (.mk op' n' name' kids')
          have hpo := partsE_pos (.mk op' n' name' kids')
          have HN := Lib.hid hq.1
          have HDD := Lib.hid hq.2
          have b1 : 1 ≤ n3 := by have := HN.out; omega
          have b2 : n3 ≤ 30 := by have := HN.out; omega
          have b3 : d3 ≤ 30 := by have := HDD.out; omega
          have b4 : 0 ≤ d3 := by have := HDD.out; omega
          have E1 : Hid ((partsL kids : Int) + 1 = (P + n3) + partsL (kids.drop (k + 1))) := by
            have h1 := HP.out
            rw [drop_cons hkl HL.out, partsL_cons] at h1
            have h2 := HN.out
            show _ = _
            omega
          have E3 : Hid (kids.all (okE m) = (kids.drop (k + 1)).all (okE m)) := by
            have h1 := HA.out
            rw [drop_cons hkl HL.out, List.all_cons, he, Bool.true_and] at h1
            exact h1
          have E2 : Hid ((deepL kids : Int) + 1 = max (max D (d3 + 1)) ((deepL (kids.drop (k + 1)) : Int) + 1)) := by
            have h1 := HD.out
            rw [drop_cons hkl HL.out, deepL_cons] at h1
            have h2 := HDD.out
            show _ = _
            omega
          rw [he]
          clear hq HP HA HD hpp hdp hpo
          have hN3 : (P : Int) + n3 ≤ 1000 := by omega
          go_wp2_with fail
          go_roundw
          case rel => exact ⟨k + 1, P + n3, max D (d3 + 1), by omega, by go_num, rfl, rfl, by omega, by omega, by omega, by omega, E1, E2, E3, ht3, hb3⟩
          case measure => simp [intOf]; omega
        · have he : okE m (.mk op' n' name' kids') = false := by simpa using he
          have E : Hid (okE (m + 1) (.mk op n name kids) = false) := by
            have h1 := HA.out
            rw [drop_cons hkl HL.out, List.all_cons, he, Bool.false_and] at h1
            show _ = _
            rw [okE, h1]
            simp
          rw [he]
          clear HP HA HD
          go_wp2_with fail
          go_ret3
          exact SizeP.no E.out rfl hb3
      · have E1 : Hid ((partsL kids : Int) + 1 = P) := by
          have h1 := HP.out
          rw [List.drop_eq_nil_of_le (by omega), partsL_nil] at h1
          show _ = _
          omega
        have E2 : Hid ((deepL kids : Int) + 1 = D) := by
          have h1 := HD.out
          rw [List.drop_eq_nil_of_le (by omega), deepL_nil] at h1
          show _ = _
          omega
        have E3 : Hid (okE (m + 1) (.mk op n name kids) = decide (P ≤ 30)) := by
          have h1 := HA.out
          rw [List.drop_eq_nil_of_le (by omega)] at h1
          show _ = _
          rw [okE, HF.out, h1]
          have h2 := E1.out
          simp
          omega
        clear HP HA HD
        by_cases h30 : P ≤ 30
        · replace E3 : Hid (okE (m + 1) (.mk op n name kids) = true) := by have := E3.out; rw [decide_eq_true h30] at this; exact this
          go_wp2_with fail
          go_ret3
          exact ⟨P, D, by rw [E3.out] <;> rfl, fun _ => ⟨by rw [partsE_mk]; have := E1.out; omega, by rw [deepE_mk]; have := E2.out; omega⟩, hb⟩
        · replace E3 : Hid (okE (m + 1) (.mk op n name kids) = false) := by have := E3.out; rw [decide_eq_false h30] at this; exact this
          have h30' : 30 < P := by omega
          go_wp2_with fail
          go_ret3
          exact ⟨P, D, by rw [E3.out] <;> rfl, (fun h => by rw [E3.out] at h; cases h), hb⟩
  have hl0 : lev op = 0 := lev_out (by omega)
  rw [hl0] at hl hfl
  by_cases o11 : op = 11
  case pos =>
    subst o11
    have HLV : Hid (levOf 11 = 5) := by show _ = _; decide
    clear m1 m2 m13 o1 o2 o13 om hl0
    go_enter Tryd.func30, Tryd.ntmps30
    go_wp2_with fail
    refine (impl_levelOf _ _ ho ht0.2).mono ?_
    rintro e w' ⟨rfl, rfl⟩
    rw [HLV.out]
    by_cases hn : n = 0
    case neg =>
      have hn' : (n != 0) = true := by simpa using hn
      have E : Hid (okE (m + 1) (.mk 11 n name kids) = false) := fm_no (by unfold fmK; rw [if_neg (by decide), if_neg (by decide), if_neg (by decide), if_neg (by decide), if_pos (by decide)]; simp [hn]) _
      clear hn
      go_wp2_with fail
      go_ret3
      exact SizeP.no E.out rfl hb0
    have hn' : (n != 0) = false := by simpa using hn
    have HN0 := Lib.hid hn
    clear hn
    cases hne : name.toList.isEmpty
    case false =>
      have E : Hid (okE (m + 1) (.mk 11 n name kids) = false) := fm_no (by unfold fmK; rw [if_neg (by decide), if_neg (by decide), if_neg (by decide), if_neg (by decide), if_pos (by decide)]; simp [hne]) _
      go_wp2_with fail
      go_ret3
      exact SizeP.no E.out rfl hb0
    have HNE := Lib.hid hne
    go_wp2_with fail
    refine (impl_within _ _ _ _).mono ?_
    rintro e w' ⟨rfl, rfl⟩
    by_cases hlen : kids.length = 1
    case neg =>
      have E : Hid (okE (m + 1) (.mk 11 n name kids) = false) := fm_no (by unfold fmK; rw [if_neg (by decide), if_neg (by decide), if_neg (by decide), if_neg (by decide), if_pos (by decide)]; simp [hlen]) _
      rw [inB_no (by omega)]
      go_wp2_with fail
      go_ret3
      exact SizeP.no E.out rfl hb0
    rw [inB_yes (by omega) (by omega)]
    have HF : Hid (fmK 11 n name kids.length = true) := by show _ = _; unfold fmK; rw [if_neg (by decide), if_neg (by decide), if_neg (by decide), if_neg (by decide), if_pos (by decide)]; simp [hlen, HNE.out, HN0.out]
    have hk3 : kids.length ≤ 3 := by omega
    replace hlen := Lib.hid hlen
    go_wp2_with fail
    go_loopw [9, 10, 101] (fun v u i wr => ∃ (k : Nat) (P D : Int), k ≤ kids.length ∧ i = .int .i64 k ∧ v = .int .i64 P ∧ u = .int .i64 D ∧ 1 ≤ P ∧ P ≤ 1 + 30 * (k : Int) ∧ 1 ≤ D ∧ D ≤ 31 ∧ Hid ((partsL kids : Int) + 1 = P + partsL (kids.drop k)) ∧ Hid ((deepL kids : Int) + 1 = max D ((deepL (kids.drop k) : Int) + 1)) ∧ Hid (kids.all (okE m) = (kids.drop k).all (okE m)) ∧ Tabs wr ∧ Below w.heap.size w wr) (fun _ _ i _ => kids.length - (intOf i).toNat)
    case atStart => exact ⟨0, 1, 1, by omega, rfl, rfl, rfl, by omega, by omega, by omega, by omega, (show _ = _ by simp; omega), (show _ = _ by simp; omega), (show _ = _ from rfl), ht0, hb0⟩
    case round =>
      obtain ⟨k, P, D, hk, rfl, rfl, rfl, hP0, hP1, hD0, hD1, HP, HD, HA, ht, hb⟩ := hrel
      have hsz := hb.size
      by_cases hkl : k < kids.length
      · obtain ⟨d', rfl⟩ := exS_pos h3 (by omega)
        obtain ⟨b, o, op', n', name', kids', v', rfl, _, hbB, HL, g0, g1, g2, g3, c0, c1, c2, c3⟩ := ex_get d' (h3.below hb hB) hkl
        obtain ⟨A', p', hf, _, _⟩ := g3.form
        change _ = Value.slice A' kids'.length p' at hf
        subst hf
        have hkn : (k : Int) < (kids.length : Int) := by omega
        have hki : (0 : Int) ≤ (k : Int) := by omega
        have hba : Below w.heap.size w (wr.alloc (.cells #[.int .i64 op', .int .i64 n', .string name', .slice A' kids'.length p'] 25)) := hb.alloc hsz _
        have hbx : Below wr.heap.size wr (wr.alloc (.cells #[.int .i64 op', .int .i64 n', .string name', .slice A' kids'.length p'] 25)) := (Below.refl _ _).alloc (Nat.le_refl _) _
        go_wp2_with fail
        refine (ih d' op' n' name' kids' (.slice A' kids'.length p') _ lo B (by simp; omega) g0 g1 g2 (g3.keep (Nat.le_refl _) (Nat.le_refl _) (fun x _ hx => Below.heap_alloc _ _ x (by omega))) (ht.below hbx (Nat.le_refl _))).mono ?_
        rintro e w3 ⟨n3, d3, rfl, hok, x3⟩
        have hb3 : Below w.heap.size w w3 := hba.trans (x3.mono hba.size)
        have ht3 : Tabs w3 := (ht.below hbx (Nat.le_refl _)).below x3 (by simp)
        have HOK := Lib.hid hok
        clear hok
        by_cases he : okE m (.mk op' n' name' kids') = true
        · have hq := HOK.out he
          have hpp := okE_parts he
          have hdp := deepE_le (.mk op' n' name' kids')
          have hpo := partsE_pos (.mk op' n' name' kids')
          have HN := Lib.hid hq.1
          have HDD := Lib.hid hq.2
          have b1 : 1 ≤ n3 := by have := HN.out; omega
          have b2 : n3 ≤ 30 := by have := HN.out; omega
          have b3 : d3 ≤ 30 := by have := HDD.out; omega
          have b4 : 0 ≤ d3 := by have := HDD.out; omega
          have E1 : Hid ((partsL kids : Int) + 1 = (P + n3) + partsL (kids.drop (k + 1))) := by
            have h1 := HP.out
            rw [drop_cons hkl HL.out, partsL_cons] at h1
            have h2 := HN.out
            show _ = _
            omega
          have E3 : Hid (kids.all (okE m) = (kids.drop (k + 1)).all (okE m)) := by
            have h1 := HA.out
            rw [drop_cons hkl HL.out, List.all_cons, he, Bool.true_and] at h1
            exact h1
          have E2 : Hid ((deepL kids : Int) + 1 = max (max D (d3 + 1)) ((deepL (kids.drop (k + 1)) : Int) + 1)) := by
            have h1 := HD.out
            rw [drop_cons hkl HL.out, deepL_cons] at h1
            have h2 := HDD.out
            show _ = _
            omega
          rw [he]
          clear hq HP HA HD hpp hdp hpo
          have hN3 : (P : Int) + n3 ≤ 1000 := by omega
          go_wp2_with fail
          go_roundw
          case rel => exact ⟨k + 1, P + n3, max D (d3 + 1), by omega, by go_num, rfl, rfl, by omega, by omega, by omega, by omega, E1, E2, E3, ht3, hb3⟩
          case measure => simp [intOf]; omega
        · have he : okE m (.mk op' n' name' kids') = false := by simpa using he
          have E : Hid (okE (m + 1) (.mk 11 n name kids) = false) := by
            have h1 := HA.out
            rw [drop_cons hkl HL.out, List.all_cons, he, Bool.false_and] at h1
            show _ = _
            rw [okE, h1]
            simp
          rw [he]
          clear HP HA HD
          go_wp2_with fail
          go_ret3
          exact SizeP.no E.out rfl hb3
      · have E1 : Hid ((partsL kids : Int) + 1 = P) := by
          have h1 := HP.out
          rw [List.drop_eq_nil_of_le (by omega), partsL_nil] at h1
          show _ = _
          omega
        have E2 : Hid ((deepL kids : Int) + 1 = D) := by
          have h1 := HD.out
          rw [List.drop_eq_nil_of_le (by omega), deepL_nil] at h1
          show _ = _
          omega
        have E3 : Hid (okE (m + 1) (.mk 11 n name kids) = decide (P ≤ 30)) := by
          have h1 := HA.out
          rw [List.drop_eq_nil_of_le (by omega)] at h1
          show _ = _
          rw [okE, HF.out, h1]
          have h2 := E1.out
          simp
          omega
        clear HP HA HD
        by_cases h30 : P ≤ 30
        · replace E3 : Hid (okE (m + 1) (.mk 11 n name kids) = true) := by have := E3.out; rw [decide_eq_true h30] at this; exact this
          go_wp2_with fail
          go_ret3
          exact ⟨P, D, by rw [E3.out] <;> rfl, fun _ => ⟨by rw [partsE_mk]; have := E1.out; omega, by rw [deepE_mk]; have := E2.out; omega⟩, hb⟩
        · replace E3 : Hid (okE (m + 1) (.mk 11 n name kids) = false) := by have := E3.out; rw [decide_eq_false h30] at this; exact this
          have h30' : 30 < P := by omega
          go_wp2_with fail
          go_ret3
          exact ⟨P, D, by rw [E3.out] <;> rfl, (fun h => by rw [E3.out] at h; cases h), hb⟩
  have m11 : (op == 11) = false := by simpa using o11
  by_cases o12 : op = 12
  case pos =>
    subst o12
    have HLV : Hid (levOf 12 = 5) := by show _ = _; decide
    clear m1 m2 m13 o1 o2 o13 om hl0
    clear m11 o11
    go_enter Tryd.func30, Tryd.ntmps30
    go_wp2_with fail
    refine (impl_levelOf _ _ ho ht0.2).mono ?_
    rintro e w' ⟨rfl, rfl⟩
    rw [HLV.out]
    by_cases hn : n = 0
    case neg =>
      have hn' : (n != 0) = true := by simpa using hn
      have E : Hid (okE (m + 1) (.mk 12 n name kids) = false) := fm_no (by unfold fmK; rw [if_neg (by decide), if_neg (by decide), if_neg (by decide), if_neg (by decide), if_pos (by decide)]; simp [hn]) _
      clear hn
      go_wp2_with fail
      go_ret3
      exact SizeP.no E.out rfl hb0
    have hn' : (n != 0) = false := by simpa using hn
    have HN0 := Lib.hid hn
    clear hn
    cases hne : name.toList.isEmpty
    case false =>
      have E : Hid (okE (m + 1) (.mk 12 n name kids) = false) := fm_no (by unfold fmK; rw [if_neg (by decide), if_neg (by decide), if_neg (by decide), if_neg (by decide), if_pos (by decide)]; simp [hne]) _
      go_wp2_with fail
      go_ret3
      exact SizeP.no E.out rfl hb0
    have HNE := Lib.hid hne
    go_wp2_with fail
    refine (impl_within _ _ _ _).mono ?_
    rintro e w' ⟨rfl, rfl⟩
    by_cases hlen : kids.length = 1
    case neg =>
      have E : Hid (okE (m + 1) (.mk 12 n name kids) = false) := fm_no (by unfold fmK; rw [if_neg (by decide), if_neg (by decide), if_neg (by decide), if_neg (by decide), if_pos (by decide)]; simp [hlen]) _
      rw [inB_no (by omega)]
      go_wp2_with fail
      go_ret3
      exact SizeP.no E.out rfl hb0
    rw [inB_yes (by omega) (by omega)]
    have HF : Hid (fmK 12 n name kids.length = true) := by show _ = _; unfold fmK; rw [if_neg (by decide), if_neg (by decide), if_neg (by decide), if_neg (by decide), if_pos (by decide)]; simp [hlen, HNE.out, HN0.out]
    have hk3 : kids.length ≤ 3 := by omega
    replace hlen := Lib.hid hlen
    go_wp2_with fail
    go_loopw [9, 10, 101] (fun v u i wr => ∃ (k : Nat) (P D : Int), k ≤ kids.length ∧ i = .int .i64 k ∧ v = .int .i64 P ∧ u = .int .i64 D ∧ 1 ≤ P ∧ P ≤ 1 + 30 * (k : Int) ∧ 1 ≤ D ∧ D ≤ 31 ∧ Hid ((partsL kids : Int) + 1 = P + partsL (kids.drop k)) ∧ Hid ((deepL kids : Int) + 1 = max D ((deepL (kids.drop k) : Int) + 1)) ∧ Hid (kids.all (okE m) = (kids.drop k).all (okE m)) ∧ Tabs wr ∧ Below w.heap.size w wr) (fun _ _ i _ => kids.length - (intOf i).toNat)
    case atStart => exact ⟨0, 1, 1, by omega, rfl, rfl, rfl, by omega, by omega, by omega, by omega, (show _ = _ by simp; omega), (show _ = _ by simp; omega), (show _ = _ from rfl), ht0, hb0⟩
    case round =>
      obtain ⟨k, P, D, hk, rfl, rfl, rfl, hP0, hP1, hD0, hD1, HP, HD, HA, ht, hb⟩ := hrel
      have hsz := hb.size
      by_cases hkl : k < kids.length
      · obtain ⟨d', rfl⟩ := exS_pos h3 (by omega)
        obtain ⟨b, o, op', n', name', kids', v', rfl, _, hbB, HL, g0, g1, g2, g3, c0, c1, c2, c3⟩ := ex_get d' (h3.below hb hB) hkl
        obtain ⟨A', p', hf, _, _⟩ := g3.form
        change _ = Value.slice A' kids'.length p' at hf
        subst hf
        have hkn : (k : Int) < (kids.length : Int) := by omega
        have hki : (0 : Int) ≤ (k : Int) := by omega
        have hba : Below w.heap.size w (wr.alloc (.cells #[.int .i64 op', .int .i64 n', .string name', .slice A' kids'.length p'] 25)) := hb.alloc hsz _
        have hbx : Below wr.heap.size wr (wr.alloc (.cells #[.int .i64 op', .int .i64 n', .string name', .slice A' kids'.length p'] 25)) := (Below.refl _ _).alloc (Nat.le_refl _) _
        go_wp2_with fail
        refine (ih d' op' n' name' kids' (.slice A' kids'.length p') _ lo B (by simp; omega) g0 g1 g2 (g3.keep (Nat.le_refl _) (Nat.le_refl _) (fun x _ hx => Below.heap_alloc _ _ x (by omega))) (ht.below hbx (Nat.le_refl _))).mono ?_
        rintro e w3 ⟨n3, d3, rfl, hok, x3⟩
        have hb3 : Below w.heap.size w w3 := hba.trans (x3.mono hba.size)
        have ht3 : Tabs w3 := (ht.below hbx (Nat.le_refl _)).below x3 (by simp)
        have HOK := Lib.hid hok
        clear hok
        by_cases he : okE m (.mk op' n' name' kids') = true
        · have hq := HOK.out he
          have hpp := okE_parts he
          have hdp := deepE_le (.mk op' n' name' kids')
          have hpo := partsE_pos (.mk op' n' name' kids')
          have HN := Lib.hid hq.1
          have HDD := Lib.hid hq.2
          have b1 : 1 ≤ n3 := by have := HN.out; omega
          have b2 : n3 ≤ 30 := by have := HN.out; omega
          have b3 : d3 ≤ 30 := by have := HDD.out; omega
          have b4 : 0 ≤ d3 := by have := HDD.out; omega
          have E1 : Hid ((partsL kids : Int) + 1 = (P + n3) + partsL (kids.drop (k + 1))) := by
            have h1 := HP.out
            rw [drop_cons hkl HL.out, partsL_cons] at h1
            have h2 := HN.out
            show _ = _
            omega
          have E3 : Hid (kids.all (okE m) = (kids.drop (k + 1)).all (okE m)) := by
            have h1 := HA.out
            rw [drop_cons hkl HL.out, List.all_cons, he, Bool.true_and] at h1
            exact h1
          have E2 : Hid ((deepL kids : Int) + 1 = max (max D (d3 + 1)) ((deepL (kids.drop (k + 1)) : Int) + 1)) := by
            have h1 := HD.out
            rw [drop_cons hkl HL.out, deepL_cons] at h1
            have h2 := HDD.out
            show _ = _
            omega
          rw [he]
          clear hq HP HA HD hpp hdp hpo
          have hN3 : (P : Int) + n3 ≤ 1000 := by omega
          go_wp2_with fail
          go_roundw
          case rel => exact ⟨k + 1, P + n3, max D (d3 + 1), by omega, by go_num, rfl, rfl, by omega, by omega, by omega, by omega, E1, E2, E3, ht3, hb3⟩
          case measure => simp [intOf]; omega
        · have he : okE m (.mk op' n' name' kids') = false := by simpa using he
          have E : Hid (okE (m + 1) (.mk 12 n name kids) = false) := by
            have h1 := HA.out
            rw [drop_cons hkl HL.out, List.all_cons, he, Bool.false_and] at h1
            show _ = _
            rw [okE, h1]
            simp
          rw [he]
          clear HP HA HD
          go_wp2_with fail
          go_ret3
          exact SizeP.no E.out rfl hb3
      · have E1 : Hid ((partsL kids : Int) + 1 = P) := by
          have h1 := HP.out
          rw [List.drop_eq_nil_of_le (by omega), partsL_nil] at h1
          show _ = _
          omega
        have E2 : Hid ((deepL kids : Int) + 1 = D) := by
          have h1 := HD.out
          rw [List.drop_eq_nil_of_le (by omega), deepL_nil] at h1
          show _ = _
          omega
        have E3 : Hid (okE (m + 1) (.mk 12 n name kids) = decide (P ≤ 30)) := by
          have h1 := HA.out
          rw [List.drop_eq_nil_of_le (by omega)] at h1
          show _ = _
          rw [okE, HF.out, h1]
          have h2 := E1.out
          simp
          omega
        clear HP HA HD
        by_cases h30 : P ≤ 30
        · replace E3 : Hid (okE (m + 1) (.mk 12 n name kids) = true) := by have := E3.out; rw [decide_eq_true h30] at this; exact this
          go_wp2_with fail
          go_ret3
          exact ⟨P, D, by rw [E3.out] <;> rfl, fun _ => ⟨by rw [partsE_mk]; have := E1.out; omega, by rw [deepE_mk]; have := E2.out; omega⟩, hb⟩
        · replace E3 : Hid (okE (m + 1) (.mk 12 n name kids) = false) := by have := E3.out; rw [decide_eq_false h30] at this; exact this
          have h30' : 30 < P := by omega
          go_wp2_with fail
          go_ret3
          exact ⟨P, D, by rw [E3.out] <;> rfl, (fun h => by rw [E3.out] at h; cases h), hb⟩
  have m12 : (op == 12) = false := by simpa using o12
  have E : Hid (okE (m + 1) (.mk op n name kids) = false) := fm_no (by unfold fmK; rw [if_neg o1, if_neg o2, if_neg o13, if_neg om, if_neg (by omega)]) _
  clear o1 o2 o13 om o11 o12 hl0
  go_enter Tryd.func30, Tryd.ntmps30
  go_wp2_with fail
  go_ret3
  exact SizeP.no E.out rfl hb0

theorem impl_exprSize : ∀ m : Nat, m ≤ 1000 → SizeAt m
  | 0, _ => fun d op n name kids v3 w lo B hB h0 h1 h2 h3 ht => size_zero d op n name kids v3 w lo B hB h0 h1 h2 h3 ht
  | m + 1, hm => fun d op n name kids v3 w lo B hB h0 h1 h2 h3 ht => size_step m (impl_exprSize m (by omega)) (by omega) d op n name kids v3 w lo B hB h0 h1 h2 h3 ht

end Go.Proofs.YthfinoapfbhgcaaDoor

