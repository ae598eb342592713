/-
  Is an expression safe: by the reference. Conditions: the argument reads as data and has the form of an expression.
-/
import Derived.Test.YtnamciblapddbaaDoorParts
namespace Go.Proofs.YtnamciblapddbaaDoor
open Go.RowKit Go.ChangeShapes Go.WideShapes Go.Deep

set_option linter.unusedVariables false
set_option linter.unusedSimpArgs false
/-- the part itself -/
def safeK (op : Int) (kids : List Ex) : Bool :=
  if op = 12 ∨ op = 13 then false else if op = 6 ∨ op = 7 then (match kids[1]? with | some k => (decide (k.op = 1) && !(decide (k.n = 0))) | none => false) else true
/-- and all below it -/
def safeE : Nat → Ex → Bool
  | 0, _ => false
  | m + 1, .mk op n name kids => safeK op kids && kids.all (safeE m)
theorem safe_no {op n : Int} {name : ByteArray} {kids : List Ex} (h : safeK op kids = false) : ∀ m, safeE m (.mk op n name kids) = false
  | 0 => rfl
  | m + 1 => by rw [safeE, h]; rfl
theorem safeK_div {op : Int} {kids : List Ex} (h : op = 6 ∨ op = 7) {k : Ex} (hk : kids[1]? = some k) : safeK op kids = (decide (k.op = 1) && !(decide (k.n = 0))) := by
  unfold safeK
  rw [if_neg (by omega), if_pos h, hk]
theorem safeK_else {op : Int} {kids : List Ex} (h1 : op ≠ 12) (h2 : op ≠ 13) (h3 : op ≠ 6) (h4 : op ≠ 7) : safeK op kids = true := by
  unfold safeK
  rw [if_neg (by omega), if_neg (by omega)]
theorem fmK_two {op n : Int} {name : ByteArray} {len : Nat} (ho : op = 6 ∨ op = 7) (h : fmK op n name len = true) : len = 2 := by
  rw [fmK_plain (by omega) (by omega) (by omega) (by omega)] at h
  simp only [Bool.and_eq_true, decide_eq_true_eq] at h
  have h1 : kLo op = 2 := by unfold kLo; rw [if_neg (by omega), if_neg (by omega), if_neg (by omega)]
  have h2 : kHi op = 2 := by unfold kHi; rw [if_neg (by omega), if_neg (by omega), if_neg (by omega)]
  omega
def SafeAt (m : Nat) : Prop := ∀ (d : Nat) (op n : Int) (name : ByteArray) (kids : List Ex) (v3 : Value) (w : World) (lo B : Nat) (_ : B ≤ w.heap.size) (_ : I64 op) (_ : I64 n) (_ : name.size ≤ maxLen) (_ : Sl false (exS false d) w lo B kids v3) (_ : formB m (.mk op n name kids) = true),
  Calls Tryd.prog 48 #[.agg #[.int .i64 op, .int .i64 n, .string name, v3]] w (RetV (.bool (safeE m (.mk op n name kids))) w)
set_option maxRecDepth 100000 in
set_option maxHeartbeats 8000000 in
theorem safe_step (m : Nat) (ih : SafeAt m) : SafeAt (m + 1) := by
  intro d op n name kids v3 w lo B hB ho hn64 hnm h3 hform
  rw [formB, Bool.and_eq_true] at hform
  obtain ⟨hfm, hall⟩ := hform
  replace hall := Lib.hid hall
  replace hfm := Lib.hid hfm
  obtain ⟨A, p, hf, hl1, hl2⟩ := h3.form
  subst hf
  have hb0 : Below w.heap.size w (w.alloc (.cells #[.int .i64 op, .int .i64 n, .string name, .slice A kids.length p] 30)) := (Below.refl _ _).alloc (Nat.le_refl _) _
  have R0 : Row (w.alloc (.cells #[.int .i64 op, .int .i64 n, .string name, .slice A kids.length p] 30)) w.heap.size 30 #[.int .i64 op, .int .i64 n, .string name, .slice A kids.length p] := Row.new w _ _
  go_enter Tryd.func48, Tryd.ntmps48
  by_cases o12 : op = 12
  case pos =>
    subst o12
    have E : Hid (safeE (m + 1) (.mk 12 n name kids) = false) := safe_no (by unfold safeK; rw [if_pos (by omega)]) _
    go_wp2_with fail
    go_ret
    exact RetV.mk (by rw [E.out] <;> rfl) rfl hb0
  have n12 : (op == 12) = false := by simpa using o12
  by_cases o13 : op = 13
  case pos =>
    subst o13
    clear o12 n12
    have E : Hid (safeE (m + 1) (.mk 13 n name kids) = false) := safe_no (by unfold safeK; rw [if_pos (by omega)]) _
    go_wp2_with fail
    go_ret
    exact RetV.mk (by rw [E.out] <;> rfl) rfl hb0
  have n13 : (op == 13) = false := by simpa using o13
  by_cases o6 : op = 6
  case pos =>
    subst o6
    clear o12 n12 o13 n13
    have hl2' : kids.length = 2 := fmK_two (by omega) hfm.out
    have hkl1 : 1 < kids.length := by omega
    obtain ⟨d1, rfl⟩ := exS_pos h3 (by omega)
    obtain ⟨b1, o1, op1, n1, name1, kids1, v1, rfl, _, hbB1, HL1, g10, g11, g12, g13, c10, c11, c12, c13⟩ := ex_get d1 (h3.below hb0 hB) hkl1
    have HK1 : Hid (safeK 6 kids = (decide (op1 = 1) && !(decide (n1 = 0)))) := safeK_div (by omega) (by rw [List.getElem?_eq_getElem hkl1, HL1.out] : kids[1]? = some (Ex.mk op1 n1 name1 kids1))
    have hkn1 : (1 : Int) < (kids.length : Int) := by omega
    replace hl2' := Lib.hid hl2'
    have d10 : (w.alloc (.cells #[.int .i64 6, .int .i64 n, .string name, .slice (some ⟨b1, o1, none⟩) kids.length p] 30)).cell? ⟨b1, o1 + 4, none⟩ = some (.int .i64 op1) := c10
    have d11 : (w.alloc (.cells #[.int .i64 6, .int .i64 n, .string name, .slice (some ⟨b1, o1, none⟩) kids.length p] 30)).cell? ⟨b1, o1 + 5, none⟩ = some (.int .i64 n1) := c11
    clear c10 c11 c12 c13
    by_cases p1 : op1 = 1
    case neg =>
      have q1 : (op1 != 1) = true := by simpa using p1
      have E : Hid (safeE (m + 1) (.mk 6 n name kids) = false) := safe_no (by rw [HK1.out, decide_eq_false p1]; rfl) _
      clear p1
      go_wp2_with fail
      go_ret
      exact RetV.mk (by rw [E.out] <;> rfl) rfl hb0
    have q1 : (op1 != 1) = false := by simpa using p1
    by_cases p2 : n1 = 0
    case pos =>
      have q2 : (n1 == 0) = true := by simpa using p2
      have E : Hid (safeE (m + 1) (.mk 6 n name kids) = false) := safe_no (by rw [HK1.out, decide_eq_true p2, Bool.not_true, Bool.and_false]) _
      clear p1 p2
      go_wp2_with fail
      go_ret
      exact RetV.mk (by rw [E.out] <;> rfl) rfl hb0
    have q2 : (n1 == 0) = false := by simpa using p2
    have HK : Hid (safeK 6 kids = true) := by show _ = _; rw [HK1.out, decide_eq_true p1, decide_eq_false p2]; rfl
    clear p1 p2
    go_wp2_with fail
    go_loopw [3] (fun i wr => ∃ k : Nat, k ≤ kids.length ∧ i = .int .i64 k ∧ Hid (kids.all (safeE m) = (kids.drop k).all (safeE m)) ∧ Row wr w.heap.size 30 #[.int .i64 6, .int .i64 n, .string name, .slice (some ⟨b1, o1, none⟩) kids.length p] ∧ Below w.heap.size w wr) (fun i _ => kids.length - (intOf i).toNat)
    case atStart => exact ⟨0, by omega, rfl, (show _ = _ from rfl), R0, hb0⟩
    case round =>
      clear d10 d11
      obtain ⟨k, hk, rfl, HA, R, hb⟩ := hrel
      have hsz := hb.size
      have y3 : wr.cell? ⟨w.heap.size, 3, none⟩ = some (.slice (some ⟨b1, o1, none⟩) kids.length p) := R.cell 3
      by_cases hkl : k < kids.length
      · obtain ⟨d', hd'⟩ := exS_pos h3 (by omega)
        obtain rfl : d1 = d' := by omega
        clear hd'
        obtain ⟨b, o, op', n', name', kids', v', hAe, _, hbB, HL, g0, g1, g2, g3, c0, c1, c2, c3⟩ := ex_get d1 (h3.below hb hB) hkl
        obtain ⟨rfl, rfl⟩ : b = b1 ∧ o = o1 := by
          simp only [Option.some.injEq, Addr.mk.injEq, and_true] at hAe
          exact ⟨hAe.1.symm, hAe.2.symm⟩
        clear hAe
        obtain ⟨A', p', hf, _, _⟩ := g3.form
        change _ = Value.slice A' kids'.length p' at hf
        subst hf
        have hkn : (k : Int) < (kids.length : Int) := by omega
        have hki : (0 : Int) ≤ (k : Int) := by omega
        have hfk := Lib.hid (List.all_eq_true.1 hall.out _ (HL.out ▸ List.getElem_mem hkl : Ex.mk op' n' name' kids' ∈ kids))
        go_wp2_with fail
        refine (ih d1 op' n' name' kids' (.slice A' kids'.length p') _ lo B (Nat.le_trans hB hsz) g0 g1 g2 g3 hfk.out).mono ?_
        rintro e w3 ⟨rfl, x3⟩
        have hb3 : Below w.heap.size w w3 := hb.trans (x3.mono hsz)
        by_cases he : safeE m (.mk op' n' name' kids') = true
        · have E3 : Hid (kids.all (safeE m) = (kids.drop (k + 1)).all (safeE m)) := by
            have h1 := HA.out
            rw [drop_cons hkl HL.out, List.all_cons, he, Bool.true_and] at h1
            exact h1
          rw [he]
          clear HA
          go_wp2_with fail
          go_roundw
          case rel => exact ⟨k + 1, by omega, by go_num, E3, R.below x3 R.lt, hb3⟩
          case measure => simp [intOf]; omega
        · have he : safeE m (.mk op' n' name' kids') = false := by simpa using he
          have E : Hid (safeE (m + 1) (.mk 6 n name kids) = false) := by
            have h1 := HA.out
            rw [drop_cons hkl HL.out, List.all_cons, he, Bool.false_and] at h1
            show _ = _
            rw [safeE, h1]
            simp
          rw [he]
          clear HA
          go_wp2_with fail
          go_ret
          exact RetV.mk (by rw [E.out] <;> rfl) rfl hb3
      · have E : Hid (safeE (m + 1) (.mk 6 n name kids) = true) := by
          have h1 := HA.out
          rw [List.drop_eq_nil_of_le (by omega)] at h1
          show _ = _
          rw [safeE, HK.out, h1]
          rfl
        clear HA
        go_wp2_with fail
        go_ret
        exact RetV.mk (by rw [E.out] <;> rfl) rfl hb
  have n6 : (op == 6) = false := by simpa using o6
  by_cases o7 : op = 7
  case pos =>
    subst o7
    clear o12 n12 o13 n13 o6 n6
    have hl2' : kids.length = 2 := fmK_two (by omega) hfm.out
    have hkl1 : 1 < kids.length := by omega
    obtain ⟨d1, rfl⟩ := exS_pos h3 (by omega)
    obtain ⟨b1, o1, op1, n1, name1, kids1, v1, rfl, _, hbB1, HL1, g10, g11, g12, g13, c10, c11, c12, c13⟩ := ex_get d1 (h3.below hb0 hB) hkl1
    have HK1 : Hid (safeK 7 kids = (decide (op1 = 1) && !(decide (n1 = 0)))) := safeK_div (by omega) (by rw [List.getElem?_eq_getElem hkl1, HL1.out] : kids[1]? = some (Ex.mk op1 n1 name1 kids1))
    have hkn1 : (1 : Int) < (kids.length : Int) := by omega
    replace hl2' := Lib.hid hl2'
    have d10 : (w.alloc (.cells #[.int .i64 7, .int .i64 n, .string name, .slice (some ⟨b1, o1, none⟩) kids.length p] 30)).cell? ⟨b1, o1 + 4, none⟩ = some (.int .i64 op1) := c10
    have d11 : (w.alloc (.cells #[.int .i64 7, .int .i64 n, .string name, .slice (some ⟨b1, o1, none⟩) kids.length p] 30)).cell? ⟨b1, o1 + 5, none⟩ = some (.int .i64 n1) := c11
    clear c10 c11 c12 c13
    by_cases p1 : op1 = 1
    case neg =>
      have q1 : (op1 != 1) = true := by simpa using p1
      have E : Hid (safeE (m + 1) (.mk 7 n name kids) = false) := safe_no (by rw [HK1.out, decide_eq_false p1]; rfl) _
      clear p1
      go_wp2_with fail
      go_ret
      exact RetV.mk (by rw [E.out] <;> rfl) rfl hb0
    have q1 : (op1 != 1) = false := by simpa using p1
    by_cases p2 : n1 = 0
    case pos =>
      have q2 : (n1 == 0) = true := by simpa using p2
      have E : Hid (safeE (m + 1) (.mk 7 n name kids) = false) := safe_no (by rw [HK1.out, decide_eq_true p2, Bool.not_true, Bool.and_false]) _
      clear p1 p2
      go_wp2_with fail
      go_ret
      exact RetV.mk (by rw [E.out] <;> rfl) rfl hb0
    have q2 : (n1 == 0) = false := by simpa using p2
    have HK : Hid (safeK 7 kids = true) := by show _ = _; rw [HK1.out, decide_eq_true p1, decide_eq_false p2]; rfl
    clear p1 p2
    go_wp2_with fail
    go_loopw [3] (fun i wr => ∃ k : Nat, k ≤ kids.length ∧ i = .int .i64 k ∧ Hid (kids.all (safeE m) = (kids.drop k).all (safeE m)) ∧ Row wr w.heap.size 30 #[.int .i64 7, .int .i64 n, .string name, .slice (some ⟨b1, o1, none⟩) kids.length p] ∧ Below w.heap.size w wr) (fun i _ => kids.length - (intOf i).toNat)
    case atStart => exact ⟨0, by omega, rfl, (show _ = _ from rfl), R0, hb0⟩
    case round =>
      clear d10 d11
      obtain ⟨k, hk, rfl, HA, R, hb⟩ := hrel
      have hsz := hb.size
      have y3 : wr.cell? ⟨w.heap.size, 3, none⟩ = some (.slice (some ⟨b1, o1, none⟩) kids.length p) := R.cell 3
      by_cases hkl : k < kids.length
      · obtain ⟨d', hd'⟩ := exS_pos h3 (by omega)
        obtain rfl : d1 = d' := by omega
        clear hd'
        obtain ⟨b, o, op', n', name', kids', v', hAe, _, hbB, HL, g0, g1, g2, g3, c0, c1, c2, c3⟩ := ex_get d1 (h3.below hb hB) hkl
        obtain ⟨rfl, rfl⟩ : b = b1 ∧ o = o1 := by
          simp only [Option.some.injEq, Addr.mk.injEq, and_true] at hAe
          exact ⟨hAe.1.symm, hAe.2.symm⟩
        clear hAe
        obtain ⟨A', p', hf, _, _⟩ := g3.form
        change _ = Value.slice A' kids'.length p' at hf
        subst hf
        have hkn : (k : Int) < (kids.length : Int) := by omega
        have hki : (0 : Int) ≤ (k : Int) := by omega
        have hfk := Lib.hid (List.all_eq_true.1 hall.out _ (HL.out ▸ List.getElem_mem hkl : Ex.mk op' n' name' kids' ∈ kids))
        go_wp2_with fail
        refine (ih d1 op' n' name' kids' (.slice A' kids'.length p') _ lo B (Nat.le_trans hB hsz) g0 g1 g2 g3 hfk.out).mono ?_
        rintro e w3 ⟨rfl, x3⟩
        have hb3 : Below w.heap.size w w3 := hb.trans (x3.mono hsz)
        by_cases he : safeE m (.mk op' n' name' kids') = true
        · have E3 : Hid (kids.all (safeE m) = (kids.drop (k + 1)).all (safeE m)) := by
            have h1 := HA.out
            rw [drop_cons hkl HL.out, List.all_cons, he, Bool.true_and] at h1
            exact h1
          rw [he]
          clear HA
          go_wp2_with fail
          go_roundw
          case rel => exact ⟨k + 1, by omega, by go_num, E3, R.below x3 R.lt, hb3⟩
          case measure => simp [intOf]; omega
        · have he : safeE m (.mk op' n' name' kids') = false := by simpa using he
          have E : Hid (safeE (m + 1) (.mk 7 n name kids) = false) := by
            have h1 := HA.out
            rw [drop_cons hkl HL.out, List.all_cons, he, Bool.false_and] at h1
            show _ = _
            rw [safeE, h1]
            simp
          rw [he]
          clear HA
          go_wp2_with fail
          go_ret
          exact RetV.mk (by rw [E.out] <;> rfl) rfl hb3
      · have E : Hid (safeE (m + 1) (.mk 7 n name kids) = true) := by
          have h1 := HA.out
          rw [List.drop_eq_nil_of_le (by omega)] at h1
          show _ = _
          rw [safeE, HK.out, h1]
          rfl
        clear HA
        go_wp2_with fail
        go_ret
        exact RetV.mk (by rw [E.out] <;> rfl) rfl hb
  have n7 : (op == 7) = false := by simpa using o7
  have HK : Hid (safeK op kids = true) := safeK_else o12 o13 o6 o7
  clear o12 o13 o6 o7
  go_wp2_with fail
  go_loopw [3] (fun i wr => ∃ k : Nat, k ≤ kids.length ∧ i = .int .i64 k ∧ Hid (kids.all (safeE m) = (kids.drop k).all (safeE m)) ∧ Row wr w.heap.size 30 #[.int .i64 op, .int .i64 n, .string name, .slice A kids.length p] ∧ Below w.heap.size w wr) (fun i _ => kids.length - (intOf i).toNat)
  case atStart => exact ⟨0, by omega, rfl, (show _ = _ from rfl), R0, hb0⟩
  case round =>
    obtain ⟨k, hk, rfl, HA, R, hb⟩ := hrel
    have hsz := hb.size
    have y3 : wr.cell? ⟨w.heap.size, 3, none⟩ = some (.slice A kids.length p) := R.cell 3
    by_cases hkl : k < kids.length
    · obtain ⟨d', rfl⟩ := exS_pos h3 (by omega)
      obtain ⟨b, o, op', n', name', kids', v', rfl, _, hbB, HL, g0, g1, g2, g3, c0, c1, c2, c3⟩ := ex_get d' (h3.below hb hB) hkl
      obtain ⟨A', p', hf, _, _⟩ := g3.form
      change _ = Value.slice A' kids'.length p' at hf
      subst hf
      have hkn : (k : Int) < (kids.length : Int) := by omega
      have hki : (0 : Int) ≤ (k : Int) := by omega
      have hfk := Lib.hid (List.all_eq_true.1 hall.out _ (HL.out ▸ List.getElem_mem hkl : Ex.mk op' n' name' kids' ∈ kids))
      go_wp2_with fail
      refine (ih d' op' n' name' kids' (.slice A' kids'.length p') _ lo B (Nat.le_trans hB hsz) g0 g1 g2 g3 hfk.out).mono ?_
      rintro e w3 ⟨rfl, x3⟩
      have hb3 : Below w.heap.size w w3 := hb.trans (x3.mono hsz)
      by_cases he : safeE m (.mk op' n' name' kids') = true
      · have E3 : Hid (kids.all (safeE m) = (kids.drop (k + 1)).all (safeE m)) := by
          have h1 := HA.out
          rw [drop_cons hkl HL.out, List.all_cons, he, Bool.true_and] at h1
          exact h1
        rw [he]
        clear HA
        go_wp2_with fail
        go_roundw
        case rel => exact ⟨k + 1, by omega, by go_num, E3, R.below x3 R.lt, hb3⟩
        case measure => simp [intOf]; omega
      · have he : safeE m (.mk op' n' name' kids') = false := by simpa using he
        have E : Hid (safeE (m + 1) (.mk op n name kids) = false) := by
          have h1 := HA.out
          rw [drop_cons hkl HL.out, List.all_cons, he, Bool.false_and] at h1
          show _ = _
          rw [safeE, h1]
          simp
        rw [he]
        clear HA
        go_wp2_with fail
        go_ret
        exact RetV.mk (by rw [E.out] <;> rfl) rfl hb3
    · have E : Hid (safeE (m + 1) (.mk op n name kids) = true) := by
        have h1 := HA.out
        rw [List.drop_eq_nil_of_le (by omega)] at h1
        show _ = _
        rw [safeE, HK.out, h1]
        rfl
      clear HA
      go_wp2_with fail
      go_ret
      exact RetV.mk (by rw [E.out] <;> rfl) rfl hb
theorem spec_l6Safe : ∀ m : Nat, SafeAt m
  | 0 => fun d op n name kids v3 w lo B _ _ _ _ _ h => by simp [formB] at h
  | m + 1 => safe_step m (spec_l6Safe m)

end Go.Proofs.YtnamciblapddbaaDoor

