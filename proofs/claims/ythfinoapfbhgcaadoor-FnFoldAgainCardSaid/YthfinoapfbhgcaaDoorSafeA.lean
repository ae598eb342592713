/-
  Several texts in one: Safe, Safe2, Safe3, Safe4, Safe5.
-/
import Derived.Test.YthfinoapfbhgcaaDoorParts
namespace Go.Proofs.YthfinoapfbhgcaaDoor
open Go.RowKit Go.ChangeShapes Go.WideShapes Go.Deep

set_option linter.unusedVariables false
set_option linter.unusedSimpArgs false
/-- the part itself -/
def safeK (op : Int) (kids : List Ex) : Bool :=
  if op = 12 ∨ op = 13 then false else if op = 6 ∨ op = 7 then (match kids[1]? with | some k => (decide (k.op = 1) && !(decide (k.n = 0))) | none => false) else true
/-- and all below it -/
def safeE : Nat → Ex → Bool
  | 0, _ => false
  | m + 1, .mk op n name kids => safeK op kids && kids.all (safeE m)
theorem safe_no {op n : Int} {name : ByteArray} {kids : List Ex} (h : safeK op kids = false) : ∀ m, safeE m (.mk op n name kids) = false
  | 0 => rfl
  | m + 1 => by rw [safeE, h]; rfl
theorem safeK_div {op : Int} {kids : List Ex} (h : op = 6 ∨ op = 7) {k : Ex} (hk : kids[1]? = some k) : safeK op kids = (decide (k.op = 1) && !(decide (k.n = 0))) := by
  unfold safeK
  rw [if_neg (by omega), if_pos h, hk]
theorem safeK_else {op : Int} {kids : List Ex} (h1 : op ≠ 12) (h2 : op ≠ 13) (h3 : op ≠ 6) (h4 : op ≠ 7) : safeK op kids = true := by
  unfold safeK
  rw [if_neg (by omega), if_neg (by omega)]
theorem fmK_two {op n : Int} {name : ByteArray} {len : Nat} (ho : op = 6 ∨ op = 7) (h : fmK op n name len = true) : len = 2 := by
  rw [fmK_plain (by omega) (by omega) (by omega) (by omega)] at h
  simp only [Bool.and_eq_true, decide_eq_true_eq] at h
  have h1 : kLo op = 2 := by unfold kLo; rw [if_neg (by omega), if_neg (by omega), if_neg (by omega)]
  have h2 : kHi op = 2 := by unfold kHi; rw [if_neg (by omega), if_neg (by omega), if_neg (by omega)]
  omega
def SafeAt (m : Nat) : Prop := ∀ (d : Nat) (op n : Int) (name : ByteArray) (kids : List Ex) (v3 : Value) (w : World) (lo B : Nat) (_ : B ≤ w.heap.size) (_ : I64 op) (_ : I64 n) (_ : name.size ≤ maxLen) (_ : Sl false (exS false d) w lo B kids v3) (_ : formB m (.mk op n name kids) = true),
  Calls Tryd.prog 70 #[.agg #[.int .i64 op, .int .i64 n, .string name, v3]] w (RetV (.bool (safeE m (.mk op n name kids))) w)
set_option maxRecDepth 100000 in
set_option maxHeartbeats 8000000 in
theorem safe_step (m : Nat) (ih : SafeAt m) : SafeAt (m + 1) := by
  intro d op n name kids v3 w lo B hB ho hn64 hnm h3 hform
  rw [formB, Bool.and_eq_true] at hform
  obtain ⟨hfm, hall⟩ := hform
  replace hall := Lib.hid hall
  replace hfm := Lib.hid hfm
  obtain ⟨A, p, hf, hl1, hl2⟩ := h3.form
  subst hf
  have hb0 : Below w.heap.size w (w.alloc (.cells #[.int .i64 op, .int .i64 n, .string name, .slice A kids.length p] 25)) := (Below.refl _ _).alloc (Nat.le_refl _) _
  have R0 : Row (w.alloc (.cells #[.int .i64 op, .int .i64 n, .string name, .slice A kids.length p] 25)) w.heap.size 25 #[.int .i64 op, .int .i64 n, .string name, .slice A kids.length p] := Row.new w _ _
  go_enter Tryd.func70, Tryd.ntmps70
  by_cases o12 : op = 12
  case pos =>
    subst o12
    have E : Hid (safeE (m + 1) (.mk 12 n name kids) = false) := safe_no (by unfold safeK; rw [if_pos (by omega)]) _
    go_wp2_with fail
    go_ret
    exact RetV.mk (by rw [E.out] <;> rfl) rfl hb0
  have n12 : (op == 12) = false := by simpa using o12
  by_cases o13 : op = 13
  case pos =>
    subst o13
    clear o12 n12
    have E : Hid (safeE (m + 1) (.mk 13 n name kids) = false) := safe_no (by unfold safeK; rw [if_pos (by omega)]) _
    go_wp2_with fail
    go_ret
    exact RetV.mk (by rw [E.out] <;> rfl) rfl hb0
  have n13 : (op == 13) = false := by simpa using o13
  by_cases o6 : op = 6
  case pos =>
    subst o6
    clear o12 n12 o13 n13
    have hl2' : kids.length = 2 := fmK_two (by omega) hfm.out
    have hkl1 : 1 < kids.length := by omega
    obtain ⟨d1, rfl⟩ := exS_pos h3 (by omega)
    obtain ⟨b1, o1, op1, n1, name1, kids1, v1, rfl, _, hbB1, HL1, g10, g11, g12, g13, c10, c11, c12, c13⟩ := ex_get d1 (h3.below hb0 hB) hkl1
    have HK1 : Hid (safeK 6 kids = (decide (op1 = 1) && !(decide (n1 = 0)))) := safeK_div (by omega) (by rw [List.getElem?_eq_getElem hkl1, HL1.out] : kids[1]? = some (Ex.mk op1 n1 name1 kids1))
    have hkn1 : (1 : Int) < (kids.length : Int) := by omega
    replace hl2' := Lib.hid hl2'
    have d10 : (w.alloc (.cells #[.int .i64 6, .int .i64 n, .string name, .slice (some ⟨b1, o1, none⟩) kids.length p] 25)).cell? ⟨b1, o1 + 4, none⟩ = some (.int .i64 op1) := c10
    have d11 : (w.alloc (.cells #[.int .i64 6, .int .i64 n, .string name, .slice (some ⟨b1, o1, none⟩) kids.length p] 25)).cell? ⟨b1, o1 + 5, none⟩ = some (.int .i64 n1) := c11
    clear c10 c11 c12 c13
    by_cases p1 : op1 = 1
    case neg =>
      have q1 : (op1 != 1) = true := by simpa using p1
      have E : Hid (safeE (m + 1) (.mk 6 n name kids) = false) := safe_no (by rw [HK1.out, decide_eq_false p1]; rfl) _
      clear p1
      go_wp2_with fail
      go_ret
      exact RetV.mk (by rw [E.out] <;> rfl) rfl hb0
    have q1 : (op1 != 1) = false := by simpa using p1
    by_cases p2 : n1 = 0
    case pos =>
      have q2 : (n1 == 0) = true := by simpa using p2
      have E : Hid (safeE (m + 1) (.mk 6 n name kids) = false) := safe_no (by rw [HK1.out, decide_eq_true p2, Bool.not_true, Bool.and_false]) _
      clear p1 p2
      go_wp2_with fail
      go_ret
      exact RetV.mk (by rw [E.out] <;> rfl) rfl hb0
    have q2 : (n1 == 0) = false := by simpa using p2
    have HK : Hid (safeK 6 kids = true) := by show _ = _; rw [HK1.out, decide_eq_true p1, decide_eq_false p2]; rfl
    clear p1 p2
    go_wp2_with fail
    go_loopw [3] (fun i wr => ∃ k : Nat, k ≤ kids.length ∧ i = .int .i64 k ∧ Hid (kids.all (safeE m) = (kids.drop k).all (safeE m)) ∧ Row wr w.heap.size 25 #[.int .i64 6, .int .i64 n, .string name, .slice (some ⟨b1, o1, none⟩) kids.length p] ∧ Below w.heap.size w wr) (fun i _ => kids.length - (intOf i).toNat)
    case atStart => exact ⟨0, by omega, rfl, (show _ = _ from rfl), R0, hb0⟩
    case round =>
      clear d10 d11
      obtain ⟨k, hk, rfl, HA, R, hb⟩ := hrel
      have hsz := hb.size
      have y3 : wr.cell? ⟨w.heap.size, 3, none⟩ = some (.slice (some ⟨b1, o1, none⟩) kids.length p) := R.cell 3
      by_cases hkl : k < kids.length
      · obtain ⟨d', hd'⟩ := exS_pos h3 (by omega)
        obtain rfl : d1 = d' := by omega
        clear hd'
        obtain ⟨b, o, op', n', name', kids', v', hAe, _, hbB, HL, g0, g1, g2, g3, c0, c1, c2, c3⟩ := ex_get d1 (h3.below hb hB) hkl
        obtain ⟨rfl, rfl⟩ : b = b1 ∧ o = o1 := by
          simp only [Option.some.injEq, Addr.mk.injEq, and_true] at hAe
          exact ⟨hAe.1.symm, hAe.2.symm⟩
        clear hAe
        obtain ⟨A', p', hf, _, _⟩ := g3.form
        change _ = Value.slice A' kids'.length p' at hf
        subst hf
        have hkn : (k : Int) < (kids.length : Int) := by omega
        have hki : (0 : Int) ≤ (k : Int) := by omega
        have hfk := Lib.hid (List.all_eq_true.1 hall.out _ (HL.out ▸ List.getElem_mem hkl : Ex.mk op' n' name' kids' ∈ kids))
        go_wp2_with fail
        refine (ih d1 op' n' name' kids' (.slice A' kids'.length p') _ lo B (Nat.le_trans hB hsz) g0 g1 g2 g3 hfk.out).mono ?_
        rintro e w3 ⟨rfl, x3⟩
        have hb3 : Below w.heap.size w w3 := hb.trans (x3.mono hsz)
        by_cases he : safeE m (.mk op' n' name' kids') = true
        · have E3 : Hid (kids.all (safeE m) = (kids.drop (k + 1)).all (safeE m)) := by
            have h1 := HA.out
            rw [drop_cons hkl HL.out, List.all_cons, he, Bool.true_and] at h1
            exact h1
          rw [he]
          clear HA
          go_wp2_with fail
          go_roundw
          case rel => exact ⟨k + 1, by omega, by go_num, E3, R.below x3 R.lt, hb3⟩
          case measure => simp [intOf]; omega
        · have he : safeE m (.mk op' n' name' kids') = false := by simpa using he
          have E : Hid (safeE (m + 1) (.mk 6 n name kids) = false) := by
            have h1 := HA.out
            rw [drop_cons hkl HL.out, List.all_cons, he, Bool.false_and] at h1
            show _ = _
            rw [safeE, h1]
            simp
          rw [he]
          clear HA
          go_wp2_with fail
          go_ret
          exact RetV.mk (by rw [E.out] <;> rfl) rfl hb3
      · have E : Hid (safeE (m + 1) (.mk 6 n name kids) = true) := by
          have h1 := HA.out
          rw [List.drop_eq_nil_of_le (by omega)] at h1
          show _ = _
          rw [safeE, HK.out, h1]
          rfl
        clear HA
        go_wp2_with fail
        go_ret
        exact RetV.mk (by rw [E.out] <;> rfl) rfl hb
  have n6 : (op == 6) = false := by simpa using o6
  by_cases o7 : op = 7
  case pos =>
    subst o7
    clear o12 n12 o13 n13 o6 n6
    have hl2' : kids.length = 2 := fmK_two (by omega) hfm.out
    have hkl1 : 1 < kids.length := by omega
    obtain ⟨d1, rfl⟩ := exS_pos h3 (by omega)
    obtain ⟨b1, o1, op1, n1, name1, kids1, v1, rfl, _, hbB1, HL1, g10, g11, g12, g13, c10, c11, c12, c13⟩ := ex_get d1 (h3.below hb0 hB) hkl1
    have HK1 : Hid (safeK 7 kids = (decide (op1 = 1) && !(decide (n1 = 0)))) := safeK_div (by omega) (by rw [List.getElem?_eq_getElem hkl1, HL1.out] : kids[1]? = some (Ex.mk op1 n1 name1 kids1))
    have hkn1 : (1 : Int) < (kids.length : Int) := by omega
    replace hl2' := Lib.hid hl2'
    have d10 : (w.alloc (.cells #[.int .i64 7, .int .i64 n, .string name, .slice (some ⟨b1, o1, none⟩) kids.length p] 25)).cell? ⟨b1, o1 + 4, none⟩ = some (.int .i64 op1) := c10
    have d11 : (w.alloc (.cells #[.int .i64 7, .int .i64 n, .string name, .slice (some ⟨b1, o1, none⟩) kids.length p] 25)).cell? ⟨b1, o1 + 5, none⟩ = some (.int .i64 n1) := c11
    clear c10 c11 c12 c13
    by_cases p1 : op1 = 1
    case neg =>
      have q1 : (op1 != 1) = true := by simpa using p1
      have E : Hid (safeE (m + 1) (.mk 7 n name kids) = false) := safe_no (by rw [HK1.out, decide_eq_false p1]; rfl) _
      clear p1
      go_wp2_with fail
      go_ret
      exact RetV.mk (by rw [E.out] <;> rfl) rfl hb0
    have q1 : (op1 != 1) = false := by simpa using p1
    by_cases p2 : n1 = 0
    case pos =>
      have q2 : (n1 == 0) = true := by simpa using p2
      have E : Hid (safeE (m + 1) (.mk 7 n name kids) = false) := safe_no (by rw [HK1.out, decide_eq_true p2, Bool.not_true, Bool.and_false]) _
      clear p1 p2
      go_wp2_with fail
      go_ret
      exact RetV.mk (by rw [E.out] <;> rfl) rfl hb0
    have q2 : (n1 == 0) = false := by simpa using p2
    have HK : Hid (safeK 7 kids = true) := by show _ = _; rw [HK1.out, decide_eq_true p1, decide_eq_false p2]; rfl
    clear p1 p2
    go_wp2_with fail
    go_loopw [3] (fun i wr => ∃ k : Nat, k ≤ kids.length ∧ i = .int .i64 k ∧ Hid (kids.all (safeE m) = (kids.drop k).all (safeE m)) ∧ Row wr w.heap.size 25 #[.int .i64 7, .int .i64 n, .string name, .slice (some ⟨b1, o1, none⟩) kids.length p] ∧ Below w.heap.size w wr) (fun i _ => kids.length - (intOf i).toNat)
    case atStart => exact ⟨0, by omega, rfl, (show _ = _ from rfl), R0, hb0⟩
    case round =>
      clear d10 d11
      obtain ⟨k, hk, rfl, HA, R, hb⟩ := hrel
      have hsz := hb.size
      have y3 : wr.cell? ⟨w.heap.size, 3, none⟩ = some (.slice (some ⟨b1, o1, none⟩) kids.length p) := R.cell 3
      by_cases hkl : k < kids.length
      · obtain ⟨d', hd'⟩ := exS_pos h3 (by omega)
        obtain rfl : d1 = d' := by omega
        clear hd'
        obtain ⟨b, o, op', n', name', kids', v', hAe, _, hbB, HL, g0, g1, g2, g3, c0, c1, c2, c3⟩ := ex_get d1 (h3.below hb hB) hkl
        obtain ⟨rfl, rfl⟩ : b = b1 ∧ o = o1 := by
          simp only [Option.some.injEq, Addr.mk.injEq, and_true] at hAe
          exact ⟨hAe.1.symm, hAe.2.symm⟩
        clear hAe
        obtain ⟨A', p', hf, _, _⟩ := g3.form
        change _ = Value.slice A' kids'.length p' at hf
        subst hf
        have hkn : (k : Int) < (kids.length : Int) := by omega
        have hki : (0 : Int) ≤ (k : Int) := by omega
        have hfk := Lib.hid (List.all_eq_true.1 hall.out _ (HL.out ▸ List.getElem_mem hkl : Ex.mk op' n' name' kids' ∈ kids))
        go_wp2_with fail
        refine (ih d1 op' n' name' kids' (.slice A' kids'.length p') _ lo B (Nat.le_trans hB hsz) g0 g1 g2 g3 hfk.out).mono ?_
        rintro e w3 ⟨rfl, x3⟩
        have hb3 : Below w.heap.size w w3 := hb.trans (x3.mono hsz)
        by_cases he : safeE m (.mk op' n' name' kids') = true
        · have E3 : Hid (kids.all (safeE m) = (kids.drop (k + 1)).all (safeE m)) := by
            have h1 := HA.out
            rw [drop_cons hkl HL.out, List.all_cons, he, Bool.true_and] at h1
            exact h1
          rw [he]
          clear HA
          go_wp2_with fail
          go_roundw
          case rel => exact ⟨k + 1, by omega, by go_num, E3, R.below x3 R.lt, hb3⟩
          case measure => simp [intOf]; omega
        · have he : safeE m (.mk op' n' name' kids') = false := by simpa using he
          have E : Hid (safeE (m + 1) (.mk 7 n name kids) = false) := by
            have h1 := HA.out
            rw [drop_cons hkl HL.out, List.all_cons, he, Bool.false_and] at h1
            show _ = _
            rw [safeE, h1]
            simp
          rw [he]
          clear HA
          go_wp2_with fail
          go_ret
          exact RetV.mk (by rw [E.out] <;> rfl) rfl hb3
      · have E : Hid (safeE (m + 1) (.mk 7 n name kids) = true) := by
          have h1 := HA.out
          rw [List.drop_eq_nil_of_le (by omega)] at h1
          show _ = _
          rw [safeE, HK.out, h1]
          rfl
        clear HA
        go_wp2_with fail
        go_ret
        exact RetV.mk (by rw [E.out] <;> rfl) rfl hb
  have n7 : (op == 7) = false := by simpa using o7
  have HK : Hid (safeK op kids = true) := safeK_else o12 o13 o6 o7
  clear o12 o13 o6 o7
  go_wp2_with fail
  go_loopw [3] (fun i wr => ∃ k : Nat, k ≤ kids.length ∧ i = .int .i64 k ∧ Hid (kids.all (safeE m) = (kids.drop k).all (safeE m)) ∧ Row wr w.heap.size 25 #[.int .i64 op, .int .i64 n, .string name, .slice A kids.length p] ∧ Below w.heap.size w wr) (fun i _ => kids.length - (intOf i).toNat)
  case atStart => exact ⟨0, by omega, rfl, (show _ = _ from rfl), R0, hb0⟩
  case round =>
    obtain ⟨k, hk, rfl, HA, R, hb⟩ := hrel
    have hsz := hb.size
    have y3 : wr.cell? ⟨w.heap.size, 3, none⟩ = some (.slice A kids.length p) := R.cell 3
    by_cases hkl : k < kids.length
    · obtain ⟨d', rfl⟩ := exS_pos h3 (by omega)
      obtain ⟨b, o, op', n', name', kids', v', rfl, _, hbB, HL, g0, g1, g2, g3, c0, c1, c2, c3⟩ := ex_get d' (h3.below hb hB) hkl
      obtain ⟨A', p', hf, _, _⟩ := g3.form
      change _ = Value.slice A' kids'.length p' at hf
      subst hf
      have hkn : (k : Int) < (kids.length : Int) := by omega
      have hki : (0 : Int) ≤ (k : Int) := by omega
      have hfk := Lib.hid (List.all_eq_true.1 hall.out _ (HL.out ▸ List.getElem_mem hkl : Ex.mk op' n' name' kids' ∈ kids))
      go_wp2_with fail
      refine (ih d' op' n' name' kids' (.slice A' kids'.length p') _ lo B (Nat.le_trans hB hsz) g0 g1 g2 g3 hfk.out).mono ?_
      rintro e w3 ⟨rfl, x3⟩
      have hb3 : Below w.heap.size w w3 := hb.trans (x3.mono hsz)
      by_cases he : safeE m (.mk op' n' name' kids') = true
      · have E3 : Hid (kids.all (safeE m) = (kids.drop (k + 1)).all (safeE m)) := by
          have h1 := HA.out
          rw [drop_cons hkl HL.out, List.all_cons, he, Bool.true_and] at h1
          exact h1
        rw [he]
        clear HA
        go_wp2_with fail
        go_roundw
        case rel => exact ⟨k + 1, by omega, by go_num, E3, R.below x3 R.lt, hb3⟩
        case measure => simp [intOf]; omega
      · have he : safeE m (.mk op' n' name' kids') = false := by simpa using he
        have E : Hid (safeE (m + 1) (.mk op n name kids) = false) := by
          have h1 := HA.out
          rw [drop_cons hkl HL.out, List.all_cons, he, Bool.false_and] at h1
          show _ = _
          rw [safeE, h1]
          simp
        rw [he]
        clear HA
        go_wp2_with fail
        go_ret
        exact RetV.mk (by rw [E.out] <;> rfl) rfl hb3
    · have E : Hid (safeE (m + 1) (.mk op n name kids) = true) := by
        have h1 := HA.out
        rw [List.drop_eq_nil_of_le (by omega)] at h1
        show _ = _
        rw [safeE, HK.out, h1]
        rfl
      clear HA
      go_wp2_with fail
      go_ret
      exact RetV.mk (by rw [E.out] <;> rfl) rfl hb
theorem spec_l6Safe : ∀ m : Nat, SafeAt m
  | 0 => fun d op n name kids v3 w lo B _ _ _ _ _ h => by simp [formB] at h
  | m + 1 => safe_step m (spec_l6Safe m)

end Go.Proofs.YthfinoapfbhgcaaDoor


namespace Go.Proofs.YthfinoapfbhgcaaDoor
open Go.RowKit Go.ChangeShapes Go.WideShapes Go.Deep

set_option linter.unusedVariables false
set_option linter.unusedSimpArgs false
def safB (e : Ex) : Bool := valE e && safeE 6 e
end Go.Proofs.YthfinoapfbhgcaaDoor



namespace Go.Proofs.YthfinoapfbhgcaaDoor
open Go.RowKit Go.ChangeShapes Go.WideShapes Go.Deep

set_option linter.unusedVariables false
set_option linter.unusedSimpArgs false
/-- of the old blocks, only block g may have changed, and none below it -/
def But (g : Nat) (w w' : World) : Prop := Below g w w' ∧ ∀ b : Nat, g < b → b < w.heap.size → w'.heap[b]? = w.heap[b]?
theorem But.of_below {g : Nat} {w w' : World} (hg : g < w.heap.size) (h : Below w.heap.size w w') : But g w w' := ⟨h.mono (by omega), fun b _ hb => h.block b hb⟩
theorem But.trans {g : Nat} {a b c : World} (h : But g a b) (k : But g b c) : But g a c :=
  ⟨h.1.trans k.1, fun x h1 h2 => (k.2 x h1 (Nat.lt_of_lt_of_le h2 h.1.size)).trans (h.2 x h1 h2)⟩
theorem But.row {g : Nat} {w w' : World} {b : Nat} {t : TypeId} {cs : Array Value} (h : But g w w') (R : Row w b t cs) (hb : g < b) : Row w' b t cs := (h.2 b hb R.lt).trans R
def ClosP (op : Int) (kids : List Ex) (b0 : Bool) (g : Nat) (w : World) (e : Ending) (w' : World) : Prop :=
  e = .returned (.tuple #[]) ∧ Row w' g 4 #[.bool (b0 && safeK op kids)] ∧ But g w w'
set_option maxRecDepth 100000 in
set_option maxHeartbeats 8000000 in
theorem impl_Safe_1 (d : Nat) (op n : Int) (name : ByteArray) (kids : List Ex) (v3 : Value) (w : World) (lo B g : Nat) (b0 : Bool) (hB : B ≤ g) (ho : I64 op) (hn64 : I64 n) (hnm : name.size ≤ maxLen) (h3 : Sl false (exS false d) w lo B kids v3) (hk2 : op = 6 ∨ op = 7 → kids.length = 2) (G : Row w g 4 #[.bool b0]) :
    Calls Tryd.prog 84 #[.agg #[.int .i64 op, .int .i64 n, .string name, v3], .pointer (some ⟨g, 0, none⟩)] w (ClosP op kids b0 g w) := by
  obtain ⟨A, p, hf, hl1, hl2⟩ := h3.form
  subst hf
  have hgw := G.lt
  have hgn : g ≠ w.heap.size := by omega
  have hb0 : Below w.heap.size w (w.alloc (.cells #[.int .i64 op, .int .i64 n, .string name, .slice A kids.length p] 25)) := (Below.refl _ _).alloc (Nat.le_refl _) _
  have G0 : Row (w.alloc (.cells #[.int .i64 op, .int .i64 n, .string name, .slice A kids.length p] 25)) g 4 #[.bool b0] := G.alloc _
  have z0 : (w.alloc (.cells #[.int .i64 op, .int .i64 n, .string name, .slice A kids.length p] 25)).cell? ⟨g, 0, none⟩ = some (.bool b0) := G0.cell 0
  have zf : (w.alloc (.cells #[.int .i64 op, .int .i64 n, .string name, .slice A kids.length p] 25)).frozen? ⟨g, 0, none⟩ = false := G0.frozen 0
  have fin : ∀ x : Bool, (b0 && safeK op kids) = x → ClosP op kids b0 g w (.returned (.tuple #[])) ((w.setCell ⟨g, 0, none⟩ (.bool x)).alloc (.cells #[.int .i64 op, .int .i64 n, .string name, .slice A kids.length p] 25)) := fun x hx => by
    refine ⟨rfl, ?_, ((Below.refl g w).setCell (p := ⟨g, 0, none⟩) (Nat.le_refl g) _).alloc (by simp; omega) _, fun b h1 h2 => (Below.heap_alloc _ _ b (by simpa using h2)).trans (Below.heap_setCell _ _ _ b (by show b ≠ g; omega))⟩
    rw [hx]
    exact (G.set_ 0 (.bool x)).alloc _
  replace hk2 := Lib.hid hk2
  replace fin := Lib.hid fin
  go_enter Tryd.func84, Tryd.ntmps84
  cases b0
  case false =>
    go_wp2_with fail
    go_end0
    exact fin.out _ (by rfl)
  by_cases o12 : op = 12
  case pos =>
    subst o12
    go_wp2_with fail
    go_end0
    exact fin.out _ (by unfold safeK; rw [if_pos (by omega)]; rfl)
  have n12 : (op != 12) = true := by simpa using o12
  by_cases o13 : op = 13
  case pos =>
    subst o13
    clear o12 n12
    go_wp2_with fail
    go_end0
    exact fin.out _ (by unfold safeK; rw [if_pos (by omega)]; rfl)
  have n13 : (op != 13) = true := by simpa using o13
  by_cases o6 : op = 6
  case pos =>
    subst o6
    clear o12 n12 o13 n13
    have hl2' : kids.length = 2 := hk2.out (by omega)
    have hkl1 : 1 < kids.length := by omega
    obtain ⟨d1, rfl⟩ := exS_pos h3 (by omega)
    obtain ⟨b1, o1, op1, n1, name1, kids1, v1, rfl, _, hbB1, HL1, g10, g11, g12, g13, c10, c11, c12, c13⟩ := ex_get d1 (h3.below hb0 (by omega)) hkl1
    have HK1 : Hid (safeK 6 kids = (decide (op1 = 1) && !(decide (n1 = 0)))) := safeK_div (by omega) (by rw [List.getElem?_eq_getElem hkl1, HL1.out] : kids[1]? = some (Ex.mk op1 n1 name1 kids1))
    have hkn1 : (1 : Int) < (kids.length : Int) := by omega
    replace hl2' := Lib.hid hl2'
    have d10 : (w.alloc (.cells #[.int .i64 6, .int .i64 n, .string name, .slice (some ⟨b1, o1, none⟩) kids.length p] 25)).cell? ⟨b1, o1 + 4, none⟩ = some (.int .i64 op1) := c10
    have d11 : (w.alloc (.cells #[.int .i64 6, .int .i64 n, .string name, .slice (some ⟨b1, o1, none⟩) kids.length p] 25)).cell? ⟨b1, o1 + 5, none⟩ = some (.int .i64 n1) := c11
    clear c10 c11 c12 c13
    by_cases p1 : op1 = 1
    case neg =>
      have q1 : (op1 == 1) = false := by simpa using p1
      have e1 := Lib.hid p1
      clear p1
      go_wp2_with fail
      go_end0
      exact fin.out _ (by rw [HK1.out, decide_eq_false e1.out]; rfl)
    have q1 : (op1 == 1) = true := by simpa using p1
    have e1 := Lib.hid p1
    clear p1
    by_cases p2 : n1 = 0
    case pos =>
      have q2 : (n1 != 0) = false := by simpa using p2
      have e2 := Lib.hid p2
      clear p2
      go_wp2_with fail
      go_end0
      exact fin.out _ (by rw [HK1.out, decide_eq_true e2.out, Bool.not_true, Bool.and_false]; rfl)
    have q2 : (n1 != 0) = true := by simpa using p2
    have e2 := Lib.hid p2
    clear p2
    go_wp2_with fail
    go_end0
    exact fin.out _ (by rw [HK1.out, decide_eq_true e1.out, decide_eq_false e2.out]; rfl)
  have n6 : (op != 6) = true := by simpa using o6
  by_cases o7 : op = 7
  case pos =>
    subst o7
    clear o12 n12 o13 n13 o6 n6
    have hl2' : kids.length = 2 := hk2.out (by omega)
    have hkl1 : 1 < kids.length := by omega
    obtain ⟨d1, rfl⟩ := exS_pos h3 (by omega)
    obtain ⟨b1, o1, op1, n1, name1, kids1, v1, rfl, _, hbB1, HL1, g10, g11, g12, g13, c10, c11, c12, c13⟩ := ex_get d1 (h3.below hb0 (by omega)) hkl1
    have HK1 : Hid (safeK 7 kids = (decide (op1 = 1) && !(decide (n1 = 0)))) := safeK_div (by omega) (by rw [List.getElem?_eq_getElem hkl1, HL1.out] : kids[1]? = some (Ex.mk op1 n1 name1 kids1))
    have hkn1 : (1 : Int) < (kids.length : Int) := by omega
    replace hl2' := Lib.hid hl2'
    have d10 : (w.alloc (.cells #[.int .i64 7, .int .i64 n, .string name, .slice (some ⟨b1, o1, none⟩) kids.length p] 25)).cell? ⟨b1, o1 + 4, none⟩ = some (.int .i64 op1) := c10
    have d11 : (w.alloc (.cells #[.int .i64 7, .int .i64 n, .string name, .slice (some ⟨b1, o1, none⟩) kids.length p] 25)).cell? ⟨b1, o1 + 5, none⟩ = some (.int .i64 n1) := c11
    clear c10 c11 c12 c13
    by_cases p1 : op1 = 1
    case neg =>
      have q1 : (op1 == 1) = false := by simpa using p1
      have e1 := Lib.hid p1
      clear p1
      go_wp2_with fail
      go_end0
      exact fin.out _ (by rw [HK1.out, decide_eq_false e1.out]; rfl)
    have q1 : (op1 == 1) = true := by simpa using p1
    have e1 := Lib.hid p1
    clear p1
    by_cases p2 : n1 = 0
    case pos =>
      have q2 : (n1 != 0) = false := by simpa using p2
      have e2 := Lib.hid p2
      clear p2
      go_wp2_with fail
      go_end0
      exact fin.out _ (by rw [HK1.out, decide_eq_true e2.out, Bool.not_true, Bool.and_false]; rfl)
    have q2 : (n1 != 0) = true := by simpa using p2
    have e2 := Lib.hid p2
    clear p2
    go_wp2_with fail
    go_end0
    exact fin.out _ (by rw [HK1.out, decide_eq_true e1.out, decide_eq_false e2.out]; rfl)
  have n7 : (op != 7) = true := by simpa using o7
  have HK : Hid (safeK op kids = true) := safeK_else o12 o13 o6 o7
  clear o12 o13 o6 o7
  go_wp2_with fail
  go_end0
  exact fin.out _ (by rw [HK.out]; rfl)
end Go.Proofs.YthfinoapfbhgcaaDoor


namespace Go.Proofs.YthfinoapfbhgcaaDoor
open Go.RowKit Go.ChangeShapes Go.WideShapes Go.Deep

set_option linter.unusedVariables false
set_option linter.unusedSimpArgs false
def PartsP (m : Nat) (e : Ex) (b0 : Bool) (g : Nat) (w : World) (en : Ending) (w' : World) : Prop :=
  en = .returned (.tuple #[]) ∧ Row w' g 4 #[.bool (b0 && safeE m e)] ∧ But g w w'
def PartsAt (m : Nat) : Prop := ∀ (d : Nat) (op n : Int) (name : ByteArray) (kids : List Ex) (v3 : Value) (w : World) (lo B g : Nat) (b0 : Bool) (_ : B ≤ g) (_ : I64 op) (_ : I64 n) (_ : name.size ≤ maxLen) (_ : Sl false (exS false d) w lo B kids v3) (_ : formB m (.mk op n name kids) = true) (_ : Row w g 4 #[.bool b0]),
  Calls Tryd.prog 83 #[.agg #[.int .i64 op, .int .i64 n, .string name, v3], .func (.func 84) #[] #[.pointer (some ⟨g, 0, none⟩)]] w (PartsP m (.mk op n name kids) b0 g w)
set_option maxRecDepth 100000 in
set_option maxHeartbeats 8000000 in
theorem parts_step (m : Nat) (ih : PartsAt m) : PartsAt (m + 1) := by
  intro d op n name kids v3 w lo B g b0 hB ho hn64 hnm h3 hform G
  rw [formB, Bool.and_eq_true] at hform
  obtain ⟨hfm, hall⟩ := hform
  replace hall := Lib.hid hall
  have hk2 := Lib.hid (fun h : op = 6 ∨ op = 7 => fmK_two h hfm)
  clear hfm
  obtain ⟨A, p, hf, hl1, hl2⟩ := h3.form
  subst hf
  have hgw := G.lt
  have hb0 : Below w.heap.size w (w.alloc (.cells #[.int .i64 op, .int .i64 n, .string name, .slice A kids.length p] 25)) := (Below.refl _ _).alloc (Nat.le_refl _) _
  have R0 : Row (w.alloc (.cells #[.int .i64 op, .int .i64 n, .string name, .slice A kids.length p] 25)) w.heap.size 25 #[.int .i64 op, .int .i64 n, .string name, .slice A kids.length p] := Row.new w _ _
  have G0 : Row (w.alloc (.cells #[.int .i64 op, .int .i64 n, .string name, .slice A kids.length p] 25)) g 4 #[.bool b0] := G.alloc _
  have B0 : But g w (w.alloc (.cells #[.int .i64 op, .int .i64 n, .string name, .slice A kids.length p] 25)) := But.of_below hgw hb0
  go_enter Tryd.func83, Tryd.ntmps83
  go_wp2_with fail
  refine (impl_Safe_1 d op n name kids _ _ lo B g b0 hB ho hn64 hnm (h3.below hb0 (by omega)) hk2.out G0).mono ?_
  rintro e w1 ⟨rfl, G1, B1⟩
  have R1 := B1.row R0 (by omega)
  have B01 := B0.trans B1
  have y3 : w1.cell? ⟨w.heap.size, 3, none⟩ = some (.slice A kids.length p) := R1.cell 3
  go_wp2_with fail
  go_loopw [12] (fun i wr => ∃ (k : Nat) (c : Bool), k ≤ kids.length ∧ i = .int .i64 k ∧ Hid ((b0 && (safeK op kids && kids.all (safeE m))) = (c && (kids.drop k).all (safeE m))) ∧ Row wr g 4 #[.bool c] ∧ But g w wr) (fun i _ => kids.length - (intOf i).toNat)
  case atStart => exact ⟨0, (b0 && safeK op kids), by omega, rfl, (by show _ = _; rw [List.drop_zero, Bool.and_assoc]), G1, B01⟩
  case round =>
    clear y3 R1
    obtain ⟨k, c, hk, rfl, HA, G2, B2⟩ := hrel
    by_cases hkl : k < kids.length
    · obtain ⟨d', rfl⟩ := exS_pos h3 (by omega)
      obtain ⟨b, o, op', n', name', kids', v', rfl, _, hbB, HL, g0, g1, g2, g3, c0, c1, c2, c3⟩ := ex_get d' (h3.below B2.1 hB) hkl
      obtain ⟨A', p', hf, _, _⟩ := g3.form
      change _ = Value.slice A' kids'.length p' at hf
      subst hf
      have hkn : (k : Int) < (kids.length : Int) := by omega
      have hki : (0 : Int) ≤ (k : Int) := by omega
      have hfk := Lib.hid (List.all_eq_true.1 hall.out _ (HL.out ▸ List.getElem_mem hkl : Ex.mk op' n' name' kids' ∈ kids))
      go_wp2_with fail
      have B3a : But g wr (wr.alloc (.cells #[.int .i64 op', .int .i64 n', .string name', .slice A' kids'.length p'] 25)) := But.of_below G2.lt ((Below.refl _ _).alloc (Nat.le_refl _) _)
      refine (ih d' op' n' name' kids' (.slice A' kids'.length p') _ lo B g c hB g0 g1 g2 (g3.below B3a.1 hB) hfk.out (G2.alloc _)).mono ?_
      rintro e w3 ⟨rfl, G3, B3⟩
      have E3 : Hid ((b0 && (safeK op kids && kids.all (safeE m))) = ((c && safeE m (.mk op' n' name' kids')) && (kids.drop (k + 1)).all (safeE m))) := by
        have h1 := HA.out
        rw [drop_cons hkl HL.out, List.all_cons] at h1
        show _ = _
        rw [h1, Bool.and_assoc]
      clear HA
      go_wp2_with fail
      go_roundw
      case rel => exact ⟨k + 1, _, by omega, by go_num, E3, G3, B2.trans (B3a.trans B3)⟩
      case measure => simp [intOf]; omega
    · have E : Hid ((b0 && safeE (m + 1) (.mk op n name kids)) = c) := by
        have h1 := HA.out
        rw [List.drop_eq_nil_of_le (by omega), List.all_nil, Bool.and_true] at h1
        show _ = _
        rw [safeE]
        exact h1
      clear HA
      go_wp2_with fail
      go_end0
      exact ⟨rfl, by rw [E.out]; exact G2, B2⟩
theorem impl_parts : ∀ m : Nat, PartsAt m
  | 0 => fun d op n name kids v3 w lo B g b0 _ _ _ _ _ h _ => by simp [formB] at h
  | m + 1 => parts_step m (impl_parts m)

end Go.Proofs.YthfinoapfbhgcaaDoor


namespace Go.Proofs.YthfinoapfbhgcaaDoor
open Go.RowKit Go.ChangeShapes Go.WideShapes Go.Deep

set_option linter.unusedVariables false
set_option linter.unusedSimpArgs false
theorem impl_SafeExpr (d : Nat) (op n : Int) (name : ByteArray) (kids : List Ex) (v3 : Value) (w : World) (lo B : Nat) (hB : B ≤ w.heap.size) (ho : I64 op) (hn64 : I64 n) (hnm : name.size ≤ maxLen) (h3 : Sl false (exS false d) w lo B kids v3) (ht : Tabs w) :
    Calls Tryd.prog 66 #[.agg #[.int .i64 op, .int .i64 n, .string name, v3]] w (RetV (.bool (safB (.mk op n name kids))) w) := by
  obtain ⟨A, p, hf, hl1, hl2⟩ := h3.form
  subst hf
  have hb0 : Below w.heap.size w (w.alloc (.cells #[.int .i64 op, .int .i64 n, .string name, .slice A kids.length p] 25)) := (Below.refl _ _).alloc (Nat.le_refl _) _
  have R0 : Row (w.alloc (.cells #[.int .i64 op, .int .i64 n, .string name, .slice A kids.length p] 25)) w.heap.size 25 #[.int .i64 op, .int .i64 n, .string name, .slice A kids.length p] := Row.new w _ _
  go_enter Tryd.func66, Tryd.ntmps66
  go_wp2_with fail
  refine (impl_ExprValid d op n name kids _ _ lo B (Nat.le_trans hB hb0.size) ho hn64 hnm (h3.below hb0 hB) (ht.below hb0 (Nat.le_refl _))).mono ?_
  rintro e w1 ⟨rfl, b1⟩
  have hb1 : Below w.heap.size w w1 := hb0.trans (b1.mono hb0.size)
  have R1 := R0.below b1 R0.lt
  have rl := R1.lt
  cases hf : valE (.mk op n name kids)
  case false =>
    have E : Hid (safB (.mk op n name kids) = false) := by show _ = _; unfold safB; rw [hf]; rfl
    go_wp2_with fail
    go_ret
    exact RetV.mk (by rw [E.out] <;> rfl) rfl (hb1.alloc hb1.size _)
  have hp : formB 6 (.mk op n name kids) = true := by
    rw [valE_form, Bool.and_eq_true] at hf
    exact hf.1
  have hbk : Below w.heap.size w (w1.alloc (.cells #[.bool true] 4)) := hb1.alloc hb1.size _
  have G : Row (w1.alloc (.cells #[.bool true] 4)) w1.heap.size 4 #[.bool true] := Row.new _ _ _
  have R2 : Row (w1.alloc (.cells #[.bool true] 4)) w.heap.size 25 #[.int .i64 op, .int .i64 n, .string name, .slice A kids.length p] := R1.alloc _
  have y0 : (w1.alloc (.cells #[.bool true] 4)).cell? ⟨w.heap.size, 0, none⟩ = some (.int .i64 op) := R2.cell 0
  have y1 : (w1.alloc (.cells #[.bool true] 4)).cell? ⟨w.heap.size, 1, none⟩ = some (.int .i64 n) := R2.cell 1
  have y2 : (w1.alloc (.cells #[.bool true] 4)).cell? ⟨w.heap.size, 2, none⟩ = some (.string name) := R2.cell 2
  have y3 : (w1.alloc (.cells #[.bool true] 4)).cell? ⟨w.heap.size, 3, none⟩ = some (.slice A kids.length p) := R2.cell 3
  replace hp := Lib.hid hp
  go_wp2_with fail
  refine (impl_parts 6 d op n name kids _ _ lo B w1.heap.size true (Nat.le_trans hB hb1.size) ho hn64 hnm (h3.below hbk hB) hp.out G).mono ?_
  rintro e w2 ⟨rfl, G2, B2⟩
  have hb2 : Below w.heap.size w w2 := hbk.trans (B2.1.mono hb1.size)
  have z : w2.cell? ⟨w1.heap.size, 0, none⟩ = some (.bool (safeE 6 (.mk op n name kids))) := G2.cell 0
  have E : Hid (safB (.mk op n name kids) = safeE 6 (.mk op n name kids)) := by show _ = _; unfold safB; rw [hf]; rfl
  go_wp2_with fail
  go_ret
  exact RetV.mk (by rw [E.out] <;> rfl) rfl hb2

end Go.Proofs.YthfinoapfbhgcaaDoor


