/-
  A statement is one, by the reference. Conditions: the argument reads as data.
-/
import Derived.Test.YtbikgakoeheahaaGreatDoorStP
import Derived.Test.YtbikgakoeheahaaGreatDoorReg
import Derived.Deep.RegionHeld3
namespace Go.Proofs.YtbikgakoeheahaaGreatDoor
open Go.RowKit Go.ChangeShapes Go.WideShapes Go.Deep
set_option linter.unusedVariables false
set_option linter.unusedSimpArgs false
theorem spec_l3Args (op : Int) (w : World) : Calls Tryz.prog 90 #[.int .i64 op] w (RetW (.int .i64 (stK op : Nat)) w) := by
  by_cases o4 : op = 4
  · subst o4
    have E : Hid (stK 4 = 2) := rfl
    go_enter Tryz.func90, Tryz.ntmps90
    go_wp2_with fail
    go_ret
    exact RetW.mk (by rw [E.out] <;> rfl) rfl
  · have E : Hid (stK op = 1) := if_neg o4
    have q : (op == 4) = false := by simpa using o4
    clear o4
    go_enter Tryz.func90, Tryz.ntmps90
    go_wp2_with fail
    go_ret
    exact RetW.mk (by rw [E.out] <;> rfl) rfl
def StAt (m : Nat) : Prop := ∀ (d : Nat) (op : Int) (name : ByteArray) (args : List Ex) (v2 : Value) (body : List St) (v3 : Value) (els : List St) (v4 : Value) (w : World) (lo B : Nat) (_ : B ≤ w.heap.size) (_ : I64 op) (_ : name.size ≤ maxLen) (_ : Sl false (exS false d) w lo B args v2) (_ : Sl false (stS false d) w lo B body v3) (_ : Sl false (stS false d) w lo B els v4),
  Calls Tryz.prog 70 #[.agg #[.int .i64 op, .string name, v2, v3, v4], .int .i64 (m : Int)] w (RetV (.bool (stB m (.mk op name args body els))) w)
def StsAt (m : Nat) : Prop := ∀ (d : Nat) (l : List St) (v : Value) (w : World) (lo B : Nat) (_ : B ≤ w.heap.size) (_ : Sl false (stS false d) w lo B l v), Calls Tryz.prog 42 #[v, .int .i64 (m : Int)] w (RetV (.bool (l.all (stB m))) w)
set_option maxRecDepth 100000 in
set_option maxHeartbeats 4000000 in
theorem sts_of (m : Nat) (hm : m ≤ 1000) (ih : StAt m) : StsAt m := by
  intro d l v w lo B hB hv
  obtain ⟨A, p, hf, hl1, hl2⟩ := hv.form
  subst hf
  go_enter Tryz.func42, Tryz.ntmps42
  go_wp2_with fail
  go_loopw [5] (fun i wr => ∃ k : Nat, k ≤ l.length ∧ i = .int .i64 k ∧ Hid (l.all (stB m) = (l.drop k).all (stB m)) ∧ Below w.heap.size w wr) (fun i _ => l.length - (intOf i).toNat)
  case atStart => exact ⟨0, by omega, rfl, (show _ = _ from rfl), Below.refl _ _⟩
  case round =>
    obtain ⟨k, hk, rfl, HA, hb⟩ := hrel
    have hsz := hb.size
    by_cases hkl : k < l.length
    · obtain ⟨d', rfl⟩ := stS_pos hv (by omega)
      obtain ⟨b, o, op, name, args, v2, body, v3, els, v4, rfl, _, hbB, HL, g0, g1, g2, g3, g4, c0, c1, c2, c3, c4⟩ := st_get d' (hv.below hb hB) hkl
      obtain ⟨A2, p2, hf, _, _⟩ := g2.form
      change _ = Value.slice A2 args.length p2 at hf
      subst hf
      obtain ⟨A3, p3, hf, _, _⟩ := g3.form
      change _ = Value.slice A3 body.length p3 at hf
      subst hf
      obtain ⟨A4, p4, hf, _, _⟩ := g4.form
      change _ = Value.slice A4 els.length p4 at hf
      subst hf
      have hkn : (k : Int) < (l.length : Int) := by omega
      have hki : (0 : Int) ≤ (k : Int) := by omega
      go_wp2_with fail
      refine (ih d' op name args _ body _ els _ _ lo B (Nat.le_trans hB hsz) g0 g1 g2 g3 g4).mono ?_
      rintro e w3 ⟨rfl, x3⟩
      have hb3 : Below w.heap.size w w3 := hb.trans (x3.mono hsz)
      cases he : stB m (.mk op name args body els)
      case true =>
        have E3 : Hid (l.all (stB m) = (l.drop (k + 1)).all (stB m)) := by
          have h1 := HA.out
          rw [drop_cons hkl HL.out, List.all_cons, he, Bool.true_and] at h1
          exact h1
        clear HA
        go_wp2_with fail
        go_roundw
        case rel => exact ⟨k + 1, by omega, by go_num, E3, hb3⟩
        case measure => simp [intOf]; omega
      case false =>
        have E : Hid (l.all (stB m) = false) := by
          have h1 := HA.out
          rw [drop_cons hkl HL.out, List.all_cons, he, Bool.false_and] at h1
          exact h1
        clear HA
        go_wp2_with fail
        go_ret
        exact RetV.mk (by rw [E.out] <;> rfl) rfl hb3
    · have E : Hid (l.all (stB m) = true) := by
        have h1 := HA.out
        rw [List.drop_eq_nil_of_le (by omega)] at h1
        exact h1
      clear HA
      go_wp2_with fail
      go_ret
      exact RetV.mk (by rw [E.out] <;> rfl) rfl hb
set_option maxRecDepth 100000 in
set_option maxHeartbeats 4000000 in
theorem st_zero : StAt 0 := by
  intro d op name args v2 body v3 els v4 w lo B hB ho hnm h2 h3 h4
  obtain ⟨A2, p2, hf, _, _⟩ := h2.form
  subst hf
  obtain ⟨A3, p3, hf, _, _⟩ := h3.form
  subst hf
  obtain ⟨A4, p4, hf, _, _⟩ := h4.form
  subst hf
  have hb0 : Below w.heap.size w (w.alloc (.cells #[.int .i64 op, .string name, .slice A2 args.length p2, .slice A3 body.length p3, .slice A4 els.length p4] 76)) := (Below.refl _ _).alloc (Nat.le_refl _) _
  have E : Hid (stB 0 (.mk op name args body els) = false) := rfl
  have R0 : Row (w.alloc (.cells #[.int .i64 op, .string name, .slice A2 args.length p2, .slice A3 body.length p3, .slice A4 els.length p4] 76)) w.heap.size 76 #[.int .i64 op, .string name, .slice A2 args.length p2, .slice A3 body.length p3, .slice A4 els.length p4] := Row.new w _ _
  have Rd : Row (w.alloc (.cells #[.int .i64 op, .string name, .slice A2 args.length p2, .slice A3 body.length p3, .slice A4 els.length p4] 76)).drew w.heap.size 76 #[.int .i64 op, .string name, .slice A2 args.length p2, .slice A3 body.length p3, .slice A4 els.length p4] := R0
  have hbd : Below w.heap.size w (w.alloc (.cells #[.int .i64 op, .string name, .slice A2 args.length p2, .slice A3 body.length p3, .slice A4 els.length p4] 76)).drew := hb0.drew
  have s0 : (w.alloc (.cells #[.int .i64 op, .string name, .slice A2 args.length p2, .slice A3 body.length p3, .slice A4 els.length p4] 76)).drew.cell? ⟨w.heap.size, 0, none⟩ = some (.int .i64 op) := R0.cell 0
  have s2 : (w.alloc (.cells #[.int .i64 op, .string name, .slice A2 args.length p2, .slice A3 body.length p3, .slice A4 els.length p4] 76)).drew.cell? ⟨w.heap.size, 2, none⟩ = some (.slice A2 args.length p2) := R0.cell 2
  go_enter Tryz.func70, Tryz.ntmps70
  go_wp2_with fail
  refine wp_region_held_drew (S := fun w' => (w'.cell? ⟨w.heap.size, 0, none⟩ = some (.int .i64 op) ∧ w'.cell? ⟨w.heap.size, 2, none⟩ = some (.slice A2 args.length p2))) (by kernel_rfl) ?_ (fun hHeld => ?_)
  · exact ⟨s0, s2⟩
  generalize (w.alloc (.cells #[.int .i64 op, .string name, .slice A2 args.length p2, .slice A3 body.length p3, .slice A4 els.length p4] 76)).drew = wd at hHeld s0 s2 Rd hbd ⊢
  refine reg_take (i := 0) (v := ?v1) rfl (by kernel_rfl) (by kernel_rfl) (by kernel_rfl) (fun _ _ _ h => h) (Or.inl ⟨by kernel_rfl, ?h1⟩) (by assumption) ?r1
  case h1 => (intro w hSw; (try dsimp only at hSw); go_simp; try with_reducible rfl)
  try simp only [Act.put, List.setIfInBounds_toArray, List.set_cons_zero, List.set_cons_succ]
  refine reg_take (i := 1) (v := ?v2) rfl (by kernel_rfl) (by kernel_rfl) (by kernel_rfl) (fun _ _ _ h => h) (Or.inl ⟨by kernel_rfl, ?h2⟩) (by assumption) ?r2
  case h2 => (intro w hSw; (try dsimp only at hSw); go_simp; try with_reducible rfl)
  try simp only [Act.put, List.setIfInBounds_toArray, List.set_cons_zero, List.set_cons_succ]
  refine reg_take (i := 2) (v := ?v3) rfl (by kernel_rfl) (by kernel_rfl) (by kernel_rfl) (fun _ _ _ h => h) (Or.inl ⟨by kernel_rfl, ?h3⟩) (by assumption) ?r3
  case h3 => (intro w hSw; (try dsimp only at hSw); go_simp; try with_reducible rfl)
  try simp only [Act.put, List.setIfInBounds_toArray, List.set_cons_zero, List.set_cons_succ]
  refine reg_take (i := 3) (v := undef) rfl (by kernel_rfl) (by kernel_rfl) (by kernel_rfl) (fun _ _ _ h => h) (Or.inr ⟨by kernel_rfl, rfl⟩) (by assumption) ?_
  try simp only [Act.put, List.setIfInBounds_toArray, List.set_cons_zero, List.set_cons_succ]
  refine reg_take (i := 4) (v := undef) rfl (by kernel_rfl) (by kernel_rfl) (by kernel_rfl) (fun _ _ _ h => h) (Or.inr ⟨by kernel_rfl, rfl⟩) (by assumption) ?_
  try simp only [Act.put, List.setIfInBounds_toArray, List.set_cons_zero, List.set_cons_succ]
  refine reg_take (i := 5) (v := undef) rfl (by kernel_rfl) (by kernel_rfl) (by kernel_rfl) (fun _ _ _ h => h) (Or.inr ⟨by kernel_rfl, rfl⟩) (by assumption) ?_
  try simp only [Act.put, List.setIfInBounds_toArray, List.set_cons_zero, List.set_cons_succ]
  refine reg_take (i := 6) (v := undef) rfl (by kernel_rfl) (by kernel_rfl) (by kernel_rfl) (fun _ _ _ h => h) (Or.inr ⟨by kernel_rfl, rfl⟩) (by assumption) ?_
  try simp only [Act.put, List.setIfInBounds_toArray, List.set_cons_zero, List.set_cons_succ]
  refine reg_take (i := 7) (v := ?v8) rfl (by kernel_rfl) (by kernel_rfl) (by kernel_rfl) (fun _ _ _ h => h) (Or.inl ⟨by kernel_rfl, ?h8⟩) (by assumption) ?r8
  case h8 => (intro w hSw; (try dsimp only at hSw); go_simp; try with_reducible rfl)
  try simp only [Act.put, List.setIfInBounds_toArray, List.set_cons_zero, List.set_cons_succ]
  refine reg_take (i := 8) (v := ?v9) rfl (by kernel_rfl) (by kernel_rfl) (by kernel_rfl) (fun _ _ _ h => h) (Or.inl ⟨by kernel_rfl, ?h9⟩) (by assumption) ?r9
  case h9 => (intro w hSw; (try dsimp only at hSw); go_simp; try with_reducible rfl)
  try simp only [Act.put, List.setIfInBounds_toArray, List.set_cons_zero, List.set_cons_succ]
  refine reg_take (i := 9) (v := undef) rfl (by kernel_rfl) (by kernel_rfl) (by kernel_rfl) (fun _ _ _ h => h) (Or.inr ⟨by kernel_rfl, rfl⟩) (by assumption) ?_
  try simp only [Act.put, List.setIfInBounds_toArray, List.set_cons_zero, List.set_cons_succ]
  refine reg_take (i := 10) (v := undef) rfl (by kernel_rfl) (by kernel_rfl) (by kernel_rfl) (fun _ _ _ h => h) (Or.inr ⟨by kernel_rfl, rfl⟩) (by assumption) ?_
  try simp only [Act.put, List.setIfInBounds_toArray, List.set_cons_zero, List.set_cons_succ]
  refine reg_take (i := 11) (v := undef) rfl (by kernel_rfl) (by kernel_rfl) (by kernel_rfl) (fun _ _ _ h => h) (Or.inr ⟨by kernel_rfl, rfl⟩) (by assumption) ?_
  try simp only [Act.put, List.setIfInBounds_toArray, List.set_cons_zero, List.set_cons_succ]
  refine reg_take (i := 12) (v := undef) rfl (by kernel_rfl) (by kernel_rfl) (by kernel_rfl) (fun _ _ _ h => h) (Or.inr ⟨by kernel_rfl, rfl⟩) (by assumption) ?_
  try simp only [Act.put, List.setIfInBounds_toArray, List.set_cons_zero, List.set_cons_succ]
  refine reg_take (i := 13) (v := undef) rfl (by kernel_rfl) (by kernel_rfl) (by kernel_rfl) (fun _ _ _ h => h) (Or.inr ⟨by kernel_rfl, rfl⟩) (by assumption) ?_
  try simp only [Act.put, List.setIfInBounds_toArray, List.set_cons_zero, List.set_cons_succ]
  refine reg_take (i := 14) (v := undef) rfl (by kernel_rfl) (by kernel_rfl) (by kernel_rfl) (fun _ _ _ h => h) (Or.inr ⟨by kernel_rfl, rfl⟩) (by assumption) ?_
  try simp only [Act.put, List.setIfInBounds_toArray, List.set_cons_zero, List.set_cons_succ]
  refine reg_take (i := 15) (v := undef) rfl (by kernel_rfl) (by kernel_rfl) (by kernel_rfl) (fun _ _ _ h => h) (Or.inr ⟨by kernel_rfl, rfl⟩) (by assumption) ?_
  try simp only [Act.put, List.setIfInBounds_toArray, List.set_cons_zero, List.set_cons_succ]
  refine reg_take (i := 16) (v := ?v17) rfl (by kernel_rfl) (by kernel_rfl) (by kernel_rfl) (fun _ _ _ h => h) (Or.inl ⟨by kernel_rfl, ?h17⟩) (by assumption) ?r17
  case h17 => (intro w hSw; (try dsimp only at hSw); go_simp; try with_reducible rfl)
  try simp only [Act.put, List.setIfInBounds_toArray, List.set_cons_zero, List.set_cons_succ]
  refine wpAnyH_done (by kernel_rfl) ?_ _
  go_wp2_with fail
  go_ret
  exact RetV.mk (by rw [E.out] <;> rfl) rfl hbd
set_option maxRecDepth 100000 in
set_option maxHeartbeats 16000000 in
theorem st_step (m : Nat) (hm : m ≤ 1000) (ih : StsAt m) : StAt (m + 1) := by
  intro d op name args v2 body v3 els v4 w lo B hB ho hnm h2 h3 h4
  rw [show ((m + 1 : Nat) : Int) = (m : Int) + 1 from rfl]
  obtain ⟨A2, p2, hf, _, _⟩ := h2.form
  subst hf
  obtain ⟨A3, p3, hf, _, _⟩ := h3.form
  subst hf
  obtain ⟨A4, p4, hf, _, _⟩ := h4.form
  subst hf
  have hnm' : name.size ≤ 9223372036854775807 := by unfold maxLen at hnm; omega
  have hq : decide ((m : Int) + 1 < 1) = false := decide_eq_false (by omega)
  have hb0 : Below w.heap.size w (w.alloc (.cells #[.int .i64 op, .string name, .slice A2 args.length p2, .slice A3 body.length p3, .slice A4 els.length p4] 76)) := (Below.refl _ _).alloc (Nat.le_refl _) _
  have R0 : Row (w.alloc (.cells #[.int .i64 op, .string name, .slice A2 args.length p2, .slice A3 body.length p3, .slice A4 els.length p4] 76)) w.heap.size 76 #[.int .i64 op, .string name, .slice A2 args.length p2, .slice A3 body.length p3, .slice A4 els.length p4] := Row.new w _ _
  have Rd : Row (w.alloc (.cells #[.int .i64 op, .string name, .slice A2 args.length p2, .slice A3 body.length p3, .slice A4 els.length p4] 76)).drew w.heap.size 76 #[.int .i64 op, .string name, .slice A2 args.length p2, .slice A3 body.length p3, .slice A4 els.length p4] := R0
  have hbd : Below w.heap.size w (w.alloc (.cells #[.int .i64 op, .string name, .slice A2 args.length p2, .slice A3 body.length p3, .slice A4 els.length p4] 76)).drew := hb0.drew
  have s0 : (w.alloc (.cells #[.int .i64 op, .string name, .slice A2 args.length p2, .slice A3 body.length p3, .slice A4 els.length p4] 76)).drew.cell? ⟨w.heap.size, 0, none⟩ = some (.int .i64 op) := R0.cell 0
  have s2 : (w.alloc (.cells #[.int .i64 op, .string name, .slice A2 args.length p2, .slice A3 body.length p3, .slice A4 els.length p4] 76)).drew.cell? ⟨w.heap.size, 2, none⟩ = some (.slice A2 args.length p2) := R0.cell 2
  go_enter Tryz.func70, Tryz.ntmps70
  by_cases hop : 1 ≤ op ∧ op ≤ 8
  case neg =>
    go_wp2_with fail
    refine wp_region_held_drew (S := fun w' => (w'.cell? ⟨w.heap.size, 0, none⟩ = some (.int .i64 op) ∧ w'.cell? ⟨w.heap.size, 2, none⟩ = some (.slice A2 args.length p2))) (by kernel_rfl) ?_ (fun hHeld => ?_)
    · exact ⟨s0, s2⟩
    generalize (w.alloc (.cells #[.int .i64 op, .string name, .slice A2 args.length p2, .slice A3 body.length p3, .slice A4 els.length p4] 76)).drew = wd at hHeld s0 s2 Rd hbd ⊢
    refine reg_take (i := 0) (v := ?v18) rfl (by kernel_rfl) (by kernel_rfl) (by kernel_rfl) (fun _ _ _ h => h) (Or.inl ⟨by kernel_rfl, ?h18⟩) (by assumption) ?r18
    case h18 => (intro w hSw; (try dsimp only at hSw); go_simp; try with_reducible rfl)
    try simp only [Act.put, List.setIfInBounds_toArray, List.set_cons_zero, List.set_cons_succ]
    refine reg_take (i := 1) (v := ?v19) rfl (by kernel_rfl) (by kernel_rfl) (by kernel_rfl) (fun _ _ _ h => h) (Or.inl ⟨by kernel_rfl, ?h19⟩) (by assumption) ?r19
    case h19 => (intro w hSw; (try dsimp only at hSw); go_simp; try with_reducible rfl)
    try simp only [Act.put, List.setIfInBounds_toArray, List.set_cons_zero, List.set_cons_succ]
    refine reg_take (i := 2) (v := ?v20) rfl (by kernel_rfl) (by kernel_rfl) (by kernel_rfl) (fun _ _ _ h => h) (Or.inl ⟨by kernel_rfl, ?h20⟩) (by assumption) ?r20
    case h20 => (intro w hSw; (try dsimp only at hSw); go_simp; try with_reducible rfl)
    try simp only [Act.put, List.setIfInBounds_toArray, List.set_cons_zero, List.set_cons_succ]
    refine reg_take (i := 3) (v := ?v21) rfl (by kernel_rfl) (by kernel_rfl) (by kernel_rfl) (fun _ _ _ h => h) (Or.inl ⟨by kernel_rfl, ?h21⟩) (by assumption) ?r21
    case h21 => (intro w hSw; (try dsimp only at hSw); go_simp; try with_reducible rfl)
    try simp only [Act.put, List.setIfInBounds_toArray, List.set_cons_zero, List.set_cons_succ]
    refine reg_take (i := 4) (v := ?v22) rfl (by kernel_rfl) (by kernel_rfl) (by kernel_rfl) (fun _ _ _ h => h) (Or.inl ⟨by kernel_rfl, ?h22⟩) (by assumption) ?r22
    case h22 => (intro w hSw; (try dsimp only at hSw); go_simp; try with_reducible rfl)
    try simp only [Act.put, List.setIfInBounds_toArray, List.set_cons_zero, List.set_cons_succ]
    refine reg_call (i := 5) (by kernel_rfl) rfl (fun K hK => ?_)
    go_simp
    refine (spec_l1In op 1 8 _).mono ?_
    rintro e v_ ⟨rfl, hv_⟩
    subst hv_
    rw [inB_no (show op < 1 ∨ 8 < op by omega)]
    refine hK.out _ _ ?_ (fun hHeld => ?_)
    · exact ⟨s0, s2⟩
    clear hK K
    try simp only [Act.put, List.setIfInBounds_toArray, List.set_cons_zero, List.set_cons_succ]
    refine reg_take (i := 6) (v := ?v24) rfl (by kernel_rfl) (by kernel_rfl) (by kernel_rfl) (fun _ _ _ h => h) (Or.inl ⟨by kernel_rfl, ?h24⟩) (by assumption) ?r24
    case h24 => (intro w hSw; (try dsimp only at hSw); go_simp; try with_reducible rfl)
    try simp only [Act.put, List.setIfInBounds_toArray, List.set_cons_zero, List.set_cons_succ]
    refine reg_take (i := 7) (v := ?v25) rfl (by kernel_rfl) (by kernel_rfl) (by kernel_rfl) (fun _ _ _ h => h) (Or.inl ⟨by kernel_rfl, ?h25⟩) (by assumption) ?r25
    case h25 => (intro w hSw; (try dsimp only at hSw); go_simp; try with_reducible rfl)
    try simp only [Act.put, List.setIfInBounds_toArray, List.set_cons_zero, List.set_cons_succ]
    refine reg_take (i := 8) (v := ?v26) rfl (by kernel_rfl) (by kernel_rfl) (by kernel_rfl) (fun _ _ _ h => h) (Or.inl ⟨by kernel_rfl, ?h26⟩) (by assumption) ?r26
    case h26 => (intro w hSw; (try dsimp only at hSw); go_simp; try with_reducible rfl)
    try simp only [Act.put, List.setIfInBounds_toArray, List.set_cons_zero, List.set_cons_succ]
    refine reg_take (i := 9) (v := undef) rfl (by kernel_rfl) (by kernel_rfl) (by kernel_rfl) (fun _ _ _ h => h) (Or.inr ⟨by kernel_rfl, rfl⟩) (by assumption) ?_
    try simp only [Act.put, List.setIfInBounds_toArray, List.set_cons_zero, List.set_cons_succ]
    refine reg_take (i := 10) (v := undef) rfl (by kernel_rfl) (by kernel_rfl) (by kernel_rfl) (fun _ _ _ h => h) (Or.inr ⟨by kernel_rfl, rfl⟩) (by assumption) ?_
    try simp only [Act.put, List.setIfInBounds_toArray, List.set_cons_zero, List.set_cons_succ]
    refine reg_take (i := 11) (v := undef) rfl (by kernel_rfl) (by kernel_rfl) (by kernel_rfl) (fun _ _ _ h => h) (Or.inr ⟨by kernel_rfl, rfl⟩) (by assumption) ?_
    try simp only [Act.put, List.setIfInBounds_toArray, List.set_cons_zero, List.set_cons_succ]
    refine reg_take (i := 12) (v := undef) rfl (by kernel_rfl) (by kernel_rfl) (by kernel_rfl) (fun _ _ _ h => h) (Or.inr ⟨by kernel_rfl, rfl⟩) (by assumption) ?_
    try simp only [Act.put, List.setIfInBounds_toArray, List.set_cons_zero, List.set_cons_succ]
    refine reg_take (i := 13) (v := undef) rfl (by kernel_rfl) (by kernel_rfl) (by kernel_rfl) (fun _ _ _ h => h) (Or.inr ⟨by kernel_rfl, rfl⟩) (by assumption) ?_
    try simp only [Act.put, List.setIfInBounds_toArray, List.set_cons_zero, List.set_cons_succ]
    refine reg_take (i := 14) (v := undef) rfl (by kernel_rfl) (by kernel_rfl) (by kernel_rfl) (fun _ _ _ h => h) (Or.inr ⟨by kernel_rfl, rfl⟩) (by assumption) ?_
    try simp only [Act.put, List.setIfInBounds_toArray, List.set_cons_zero, List.set_cons_succ]
    refine reg_take (i := 15) (v := undef) rfl (by kernel_rfl) (by kernel_rfl) (by kernel_rfl) (fun _ _ _ h => h) (Or.inr ⟨by kernel_rfl, rfl⟩) (by assumption) ?_
    try simp only [Act.put, List.setIfInBounds_toArray, List.set_cons_zero, List.set_cons_succ]
    refine reg_take (i := 16) (v := ?v34) rfl (by kernel_rfl) (by kernel_rfl) (by kernel_rfl) (fun _ _ _ h => h) (Or.inl ⟨by kernel_rfl, ?h34⟩) (by assumption) ?r34
    case h34 => (intro w hSw; (try dsimp only at hSw); go_simp; try with_reducible rfl)
    try simp only [Act.put, List.setIfInBounds_toArray, List.set_cons_zero, List.set_cons_succ]
    refine wpAnyH_done (by kernel_rfl) ?_ _
    have E : Hid (stB (m + 1) (.mk op name args body els) = false) := st_no (hd_out (by omega)) _
    go_wp2_with fail
    go_ret
    exact RetV.mk (by rw [E.out] <;> rfl) rfl hbd
  by_cases hlen : args.length = stK op
  case neg =>
    have q0 : ((args.length : Int) != ((stK op : Nat) : Int)) = true := by simp; omega
    have HLN := Lib.hid hlen
    clear hlen
    go_wp2_with fail
    refine wp_region_held_drew (S := fun w' => (w'.cell? ⟨w.heap.size, 0, none⟩ = some (.int .i64 op) ∧ w'.cell? ⟨w.heap.size, 2, none⟩ = some (.slice A2 args.length p2))) (by kernel_rfl) ?_ (fun hHeld => ?_)
    · exact ⟨s0, s2⟩
    generalize (w.alloc (.cells #[.int .i64 op, .string name, .slice A2 args.length p2, .slice A3 body.length p3, .slice A4 els.length p4] 76)).drew = wd at hHeld s0 s2 Rd hbd ⊢
    refine reg_take (i := 0) (v := ?v35) rfl (by kernel_rfl) (by kernel_rfl) (by kernel_rfl) (fun _ _ _ h => h) (Or.inl ⟨by kernel_rfl, ?h35⟩) (by assumption) ?r35
    case h35 => (intro w hSw; (try dsimp only at hSw); go_simp; try with_reducible rfl)
    try simp only [Act.put, List.setIfInBounds_toArray, List.set_cons_zero, List.set_cons_succ]
    refine reg_take (i := 1) (v := ?v36) rfl (by kernel_rfl) (by kernel_rfl) (by kernel_rfl) (fun _ _ _ h => h) (Or.inl ⟨by kernel_rfl, ?h36⟩) (by assumption) ?r36
    case h36 => (intro w hSw; (try dsimp only at hSw); go_simp; try with_reducible rfl)
    try simp only [Act.put, List.setIfInBounds_toArray, List.set_cons_zero, List.set_cons_succ]
    refine reg_take (i := 2) (v := ?v37) rfl (by kernel_rfl) (by kernel_rfl) (by kernel_rfl) (fun _ _ _ h => h) (Or.inl ⟨by kernel_rfl, ?h37⟩) (by assumption) ?r37
    case h37 => (intro w hSw; (try dsimp only at hSw); go_simp; try with_reducible rfl)
    try simp only [Act.put, List.setIfInBounds_toArray, List.set_cons_zero, List.set_cons_succ]
    refine reg_take (i := 3) (v := ?v38) rfl (by kernel_rfl) (by kernel_rfl) (by kernel_rfl) (fun _ _ _ h => h) (Or.inl ⟨by kernel_rfl, ?h38⟩) (by assumption) ?r38
    case h38 => (intro w hSw; (try dsimp only at hSw); go_simp; try with_reducible rfl)
    try simp only [Act.put, List.setIfInBounds_toArray, List.set_cons_zero, List.set_cons_succ]
    refine reg_take (i := 4) (v := ?v39) rfl (by kernel_rfl) (by kernel_rfl) (by kernel_rfl) (fun _ _ _ h => h) (Or.inl ⟨by kernel_rfl, ?h39⟩) (by assumption) ?r39
    case h39 => (intro w hSw; (try dsimp only at hSw); go_simp; try with_reducible rfl)
    try simp only [Act.put, List.setIfInBounds_toArray, List.set_cons_zero, List.set_cons_succ]
    refine reg_call (i := 5) (by kernel_rfl) rfl (fun K hK => ?_)
    go_simp
    refine (spec_l1In op 1 8 _).mono ?_
    rintro e v_ ⟨rfl, hv_⟩
    subst hv_
    rw [inB_yes hop.1 hop.2]
    refine hK.out _ _ ?_ (fun hHeld => ?_)
    · exact ⟨s0, s2⟩
    clear hK K
    try simp only [Act.put, List.setIfInBounds_toArray, List.set_cons_zero, List.set_cons_succ]
    refine reg_take (i := 6) (v := ?v41) rfl (by kernel_rfl) (by kernel_rfl) (by kernel_rfl) (fun _ _ _ h => h) (Or.inl ⟨by kernel_rfl, ?h41⟩) (by assumption) ?r41
    case h41 => (intro w hSw; (try dsimp only at hSw); go_simp; try with_reducible rfl)
    try simp only [Act.put, List.setIfInBounds_toArray, List.set_cons_zero, List.set_cons_succ]
    refine reg_take (i := 7) (v := ?v42) rfl (by kernel_rfl) (by kernel_rfl) (by kernel_rfl) (fun _ _ _ h => h) (Or.inl ⟨by kernel_rfl, ?h42⟩) (by assumption) ?r42
    case h42 => (intro w hSw; (try dsimp only at hSw); go_simp; try with_reducible rfl)
    try simp only [Act.put, List.setIfInBounds_toArray, List.set_cons_zero, List.set_cons_succ]
    refine reg_take (i := 8) (v := ?v43) rfl (by kernel_rfl) (by kernel_rfl) (by kernel_rfl) (fun _ _ _ h => h) (Or.inl ⟨by kernel_rfl, ?h43⟩) (by assumption) ?r43
    case h43 => (intro w hSw; (try dsimp only at hSw); go_simp; try with_reducible rfl)
    try simp only [Act.put, List.setIfInBounds_toArray, List.set_cons_zero, List.set_cons_succ]
    refine reg_take (i := 9) (v := ?v44) rfl (by kernel_rfl) (by kernel_rfl) (by kernel_rfl) (fun _ _ _ h => h) (Or.inl ⟨by kernel_rfl, ?h44⟩) (by assumption) ?r44
    case h44 => (intro w hSw; (try dsimp only at hSw); go_simp; try with_reducible rfl)
    try simp only [Act.put, List.setIfInBounds_toArray, List.set_cons_zero, List.set_cons_succ]
    refine reg_take (i := 10) (v := ?v45) rfl (by kernel_rfl) (by kernel_rfl) (by kernel_rfl) (fun _ _ _ h => h) (Or.inl ⟨by kernel_rfl, ?h45⟩) (by assumption) ?r45
    case h45 => (intro w hSw; (try dsimp only at hSw); go_simp; try with_reducible rfl)
    try simp only [Act.put, List.setIfInBounds_toArray, List.set_cons_zero, List.set_cons_succ]
    refine reg_take (i := 11) (v := ?v46) rfl (by kernel_rfl) (by kernel_rfl) (by kernel_rfl) (fun _ _ _ h => h) (Or.inl ⟨by kernel_rfl, ?h46⟩) (by assumption) ?r46
    case h46 => (intro w hSw; (try dsimp only at hSw); go_simp; try with_reducible rfl)
    try simp only [Act.put, List.setIfInBounds_toArray, List.set_cons_zero, List.set_cons_succ]
    refine reg_take (i := 12) (v := ?v47) rfl (by kernel_rfl) (by kernel_rfl) (by kernel_rfl) (fun _ _ _ h => h) (Or.inl ⟨by kernel_rfl, ?h47⟩) (by assumption) ?r47
    case h47 => (intro w hSw; (try dsimp only at hSw); go_simp; try with_reducible rfl)
    try simp only [Act.put, List.setIfInBounds_toArray, List.set_cons_zero, List.set_cons_succ]
    refine reg_take (i := 13) (v := ?v48) rfl (by kernel_rfl) (by kernel_rfl) (by kernel_rfl) (fun _ _ _ h => h) (Or.inl ⟨by kernel_rfl, ?h48⟩) (by assumption) ?r48
    case h48 => (intro w hSw; (try dsimp only at hSw); go_simp; try with_reducible rfl)
    try simp only [Act.put, List.setIfInBounds_toArray, List.set_cons_zero, List.set_cons_succ]
    refine reg_call (i := 14) (by kernel_rfl) rfl (fun K hK => ?_)
    go_simp
    refine (spec_l3Args op _).mono ?_
    rintro e v_ ⟨rfl, hv_⟩
    subst hv_
    refine hK.out _ _ ?_ (fun hHeld => ?_)
    · exact ⟨s0, s2⟩
    clear hK K
    try simp only [Act.put, List.setIfInBounds_toArray, List.set_cons_zero, List.set_cons_succ]
    refine reg_take (i := 15) (v := ?v50) rfl (by kernel_rfl) (by kernel_rfl) (by kernel_rfl) (fun _ _ _ h => h) (Or.inl ⟨by kernel_rfl, ?h50⟩) (by assumption) ?r50
    case h50 => (intro w hSw; (try dsimp only at hSw); go_simp; try with_reducible rfl)
    try simp only [Act.put, List.setIfInBounds_toArray, List.set_cons_zero, List.set_cons_succ]
    refine reg_take (i := 16) (v := ?v51) rfl (by kernel_rfl) (by kernel_rfl) (by kernel_rfl) (fun _ _ _ h => h) (Or.inl ⟨by kernel_rfl, ?h51⟩) (by assumption) ?r51
    case h51 => (intro w hSw; (try dsimp only at hSw); go_simp; try with_reducible rfl)
    try simp only [Act.put, List.setIfInBounds_toArray, List.set_cons_zero, List.set_cons_succ]
    refine wpAnyH_done (by kernel_rfl) ?_ _
    have E : Hid (stB (m + 1) (.mk op name args body els) = false) := st_no (hd_len HLN.out) _
    go_wp2_with fail
    go_ret
    exact RetV.mk (by rw [E.out] <;> rfl) rfl hbd
  have q0 : ((args.length : Int) != ((stK op : Nat) : Int)) = false := by simp; omega
  have HLN := Lib.hid hlen
  clear hlen
  go_wp2_with fail
  refine wp_region_held_drew (S := fun w' => (w'.cell? ⟨w.heap.size, 0, none⟩ = some (.int .i64 op) ∧ w'.cell? ⟨w.heap.size, 2, none⟩ = some (.slice A2 args.length p2))) (by kernel_rfl) ?_ (fun hHeld => ?_)
  · exact ⟨s0, s2⟩
  generalize (w.alloc (.cells #[.int .i64 op, .string name, .slice A2 args.length p2, .slice A3 body.length p3, .slice A4 els.length p4] 76)).drew = wd at hHeld s0 s2 Rd hbd ⊢
  refine reg_take (i := 0) (v := ?v52) rfl (by kernel_rfl) (by kernel_rfl) (by kernel_rfl) (fun _ _ _ h => h) (Or.inl ⟨by kernel_rfl, ?h52⟩) (by assumption) ?r52
  case h52 => (intro w hSw; (try dsimp only at hSw); go_simp; try with_reducible rfl)
  try simp only [Act.put, List.setIfInBounds_toArray, List.set_cons_zero, List.set_cons_succ]
  refine reg_take (i := 1) (v := ?v53) rfl (by kernel_rfl) (by kernel_rfl) (by kernel_rfl) (fun _ _ _ h => h) (Or.inl ⟨by kernel_rfl, ?h53⟩) (by assumption) ?r53
  case h53 => (intro w hSw; (try dsimp only at hSw); go_simp; try with_reducible rfl)
  try simp only [Act.put, List.setIfInBounds_toArray, List.set_cons_zero, List.set_cons_succ]
  refine reg_take (i := 2) (v := ?v54) rfl (by kernel_rfl) (by kernel_rfl) (by kernel_rfl) (fun _ _ _ h => h) (Or.inl ⟨by kernel_rfl, ?h54⟩) (by assumption) ?r54
  case h54 => (intro w hSw; (try dsimp only at hSw); go_simp; try with_reducible rfl)
  try simp only [Act.put, List.setIfInBounds_toArray, List.set_cons_zero, List.set_cons_succ]
  refine reg_take (i := 3) (v := ?v55) rfl (by kernel_rfl) (by kernel_rfl) (by kernel_rfl) (fun _ _ _ h => h) (Or.inl ⟨by kernel_rfl, ?h55⟩) (by assumption) ?r55
  case h55 => (intro w hSw; (try dsimp only at hSw); go_simp; try with_reducible rfl)
  try simp only [Act.put, List.setIfInBounds_toArray, List.set_cons_zero, List.set_cons_succ]
  refine reg_take (i := 4) (v := ?v56) rfl (by kernel_rfl) (by kernel_rfl) (by kernel_rfl) (fun _ _ _ h => h) (Or.inl ⟨by kernel_rfl, ?h56⟩) (by assumption) ?r56
  case h56 => (intro w hSw; (try dsimp only at hSw); go_simp; try with_reducible rfl)
  try simp only [Act.put, List.setIfInBounds_toArray, List.set_cons_zero, List.set_cons_succ]
  refine reg_call (i := 5) (by kernel_rfl) rfl (fun K hK => ?_)
  go_simp
  refine (spec_l1In op 1 8 _).mono ?_
  rintro e v_ ⟨rfl, hv_⟩
  subst hv_
  rw [inB_yes hop.1 hop.2]
  refine hK.out _ _ ?_ (fun hHeld => ?_)
  · exact ⟨s0, s2⟩
  clear hK K
  try simp only [Act.put, List.setIfInBounds_toArray, List.set_cons_zero, List.set_cons_succ]
  refine reg_take (i := 6) (v := ?v58) rfl (by kernel_rfl) (by kernel_rfl) (by kernel_rfl) (fun _ _ _ h => h) (Or.inl ⟨by kernel_rfl, ?h58⟩) (by assumption) ?r58
  case h58 => (intro w hSw; (try dsimp only at hSw); go_simp; try with_reducible rfl)
  try simp only [Act.put, List.setIfInBounds_toArray, List.set_cons_zero, List.set_cons_succ]
  refine reg_take (i := 7) (v := ?v59) rfl (by kernel_rfl) (by kernel_rfl) (by kernel_rfl) (fun _ _ _ h => h) (Or.inl ⟨by kernel_rfl, ?h59⟩) (by assumption) ?r59
  case h59 => (intro w hSw; (try dsimp only at hSw); go_simp; try with_reducible rfl)
  try simp only [Act.put, List.setIfInBounds_toArray, List.set_cons_zero, List.set_cons_succ]
  refine reg_take (i := 8) (v := ?v60) rfl (by kernel_rfl) (by kernel_rfl) (by kernel_rfl) (fun _ _ _ h => h) (Or.inl ⟨by kernel_rfl, ?h60⟩) (by assumption) ?r60
  case h60 => (intro w hSw; (try dsimp only at hSw); go_simp; try with_reducible rfl)
  try simp only [Act.put, List.setIfInBounds_toArray, List.set_cons_zero, List.set_cons_succ]
  refine reg_take (i := 9) (v := ?v61) rfl (by kernel_rfl) (by kernel_rfl) (by kernel_rfl) (fun _ _ _ h => h) (Or.inl ⟨by kernel_rfl, ?h61⟩) (by assumption) ?r61
  case h61 => (intro w hSw; (try dsimp only at hSw); go_simp; try with_reducible rfl)
  try simp only [Act.put, List.setIfInBounds_toArray, List.set_cons_zero, List.set_cons_succ]
  refine reg_take (i := 10) (v := ?v62) rfl (by kernel_rfl) (by kernel_rfl) (by kernel_rfl) (fun _ _ _ h => h) (Or.inl ⟨by kernel_rfl, ?h62⟩) (by assumption) ?r62
  case h62 => (intro w hSw; (try dsimp only at hSw); go_simp; try with_reducible rfl)
  try simp only [Act.put, List.setIfInBounds_toArray, List.set_cons_zero, List.set_cons_succ]
  refine reg_take (i := 11) (v := ?v63) rfl (by kernel_rfl) (by kernel_rfl) (by kernel_rfl) (fun _ _ _ h => h) (Or.inl ⟨by kernel_rfl, ?h63⟩) (by assumption) ?r63
  case h63 => (intro w hSw; (try dsimp only at hSw); go_simp; try with_reducible rfl)
  try simp only [Act.put, List.setIfInBounds_toArray, List.set_cons_zero, List.set_cons_succ]
  refine reg_take (i := 12) (v := ?v64) rfl (by kernel_rfl) (by kernel_rfl) (by kernel_rfl) (fun _ _ _ h => h) (Or.inl ⟨by kernel_rfl, ?h64⟩) (by assumption) ?r64
  case h64 => (intro w hSw; (try dsimp only at hSw); go_simp; try with_reducible rfl)
  try simp only [Act.put, List.setIfInBounds_toArray, List.set_cons_zero, List.set_cons_succ]
  refine reg_take (i := 13) (v := ?v65) rfl (by kernel_rfl) (by kernel_rfl) (by kernel_rfl) (fun _ _ _ h => h) (Or.inl ⟨by kernel_rfl, ?h65⟩) (by assumption) ?r65
  case h65 => (intro w hSw; (try dsimp only at hSw); go_simp; try with_reducible rfl)
  try simp only [Act.put, List.setIfInBounds_toArray, List.set_cons_zero, List.set_cons_succ]
  refine reg_call (i := 14) (by kernel_rfl) rfl (fun K hK => ?_)
  go_simp
  refine (spec_l3Args op _).mono ?_
  rintro e v_ ⟨rfl, hv_⟩
  subst hv_
  refine hK.out _ _ ?_ (fun hHeld => ?_)
  · exact ⟨s0, s2⟩
  clear hK K
  try simp only [Act.put, List.setIfInBounds_toArray, List.set_cons_zero, List.set_cons_succ]
  refine reg_take (i := 15) (v := ?v67) rfl (by kernel_rfl) (by kernel_rfl) (by kernel_rfl) (fun _ _ _ h => h) (Or.inl ⟨by kernel_rfl, ?h67⟩) (by assumption) ?r67
  case h67 => (intro w hSw; (try dsimp only at hSw); go_simp; try with_reducible rfl)
  try simp only [Act.put, List.setIfInBounds_toArray, List.set_cons_zero, List.set_cons_succ]
  refine reg_take (i := 16) (v := ?v68) rfl (by kernel_rfl) (by kernel_rfl) (by kernel_rfl) (fun _ _ _ h => h) (Or.inl ⟨by kernel_rfl, ?h68⟩) (by assumption) ?r68
  case h68 => (intro w hSw; (try dsimp only at hSw); go_simp; try with_reducible rfl)
  try simp only [Act.put, List.setIfInBounds_toArray, List.set_cons_zero, List.set_cons_succ]
  refine wpAnyH_done (by kernel_rfl) ?_ _
  have hlen := HLN.out
  clear HLN q0
  clear s0 s2 R0 hb0
  have R0 := Rd
  have hb0 := hbd
  clear Rd hbd
  have h8 : op = 1 ∨ op = 2 ∨ op = 3 ∨ op = 4 ∨ op = 5 ∨ op = 6 ∨ op = 7 ∨ op = 8 := by omega
  rcases h8 with rfl | rfl | rfl | rfl | rfl | rfl | rfl | rfl
  · have HKL : Hid (args.length = 1) := hlen
    clear hlen hop
    have x0 : wd.cell? ⟨w.heap.size, 0, none⟩ = some (.int .i64 1) := R0.cell 0
    have x1 : wd.cell? ⟨w.heap.size, 1, none⟩ = some (.string name) := R0.cell 1
    have x2 : wd.cell? ⟨w.heap.size, 2, none⟩ = some (.slice A2 args.length p2) := R0.cell 2
    have x3 : wd.cell? ⟨w.heap.size, 3, none⟩ = some (.slice A3 body.length p3) := R0.cell 3
    have x4 : wd.cell? ⟨w.heap.size, 4, none⟩ = some (.slice A4 els.length p4) := R0.cell 4
    go_wp2_with fail
    refine (spec_IsName name _ hnm).mono ?_
    rintro e w1 ⟨rfl, b1⟩
    have hb1 : Below w.heap.size w w1 := hb0.trans (b1.mono hb0.size)
    have R1 := R0.below b1 R0.lt
    clear x0 x1 x2 x3 x4
    have y0 : w1.cell? ⟨w.heap.size, 0, none⟩ = some (.int .i64 1) := R1.cell 0
    have y1 : w1.cell? ⟨w.heap.size, 1, none⟩ = some (.string name) := R1.cell 1
    have y2 : w1.cell? ⟨w.heap.size, 2, none⟩ = some (.slice A2 args.length p2) := R1.cell 2
    have y3 : w1.cell? ⟨w.heap.size, 3, none⟩ = some (.slice A3 body.length p3) := R1.cell 3
    have y4 : w1.cell? ⟨w.heap.size, 4, none⟩ = some (.slice A4 els.length p4) := R1.cell 4
    cases hi : isName name
    case false =>
      have E : Hid (stB (m + 1) (.mk 1 name args body els) = false) := st_no (hd_name (by unfold nmB; rw [if_pos (by omega), hi])) _
      go_wp2_with fail
      go_ret
      exact RetV.mk (by rw [E.out] <;> rfl) rfl hb1
    have HN : Hid (nmB 1 name = true) := by show _ = _; unfold nmB; rw [if_pos (by omega), hi]
    go_wp2_with fail
    go_loopw [6] (fun i wr => ∃ k : Nat, k ≤ args.length ∧ i = .int .i64 k ∧ Hid (args.all valE = (args.drop k).all valE) ∧ Row wr w.heap.size 76 #[.int .i64 1, .string name, .slice A2 args.length p2, .slice A3 body.length p3, .slice A4 els.length p4] ∧ Below w.heap.size w wr) (fun i _ => args.length - (intOf i).toNat)
    case atStart => exact ⟨0, by omega, rfl, (show _ = _ from rfl), R1, hb1⟩
    case round =>
      clear y0 y1 y2 y3 y4
      obtain ⟨k, hk, rfl, HA, R, hb⟩ := hrel
      have hsz := hb.size
      have y0 : wr.cell? ⟨w.heap.size, 0, none⟩ = some (.int .i64 1) := R.cell 0
      have y1 : wr.cell? ⟨w.heap.size, 1, none⟩ = some (.string name) := R.cell 1
      have y2 : wr.cell? ⟨w.heap.size, 2, none⟩ = some (.slice A2 args.length p2) := R.cell 2
      have y3 : wr.cell? ⟨w.heap.size, 3, none⟩ = some (.slice A3 body.length p3) := R.cell 3
      have y4 : wr.cell? ⟨w.heap.size, 4, none⟩ = some (.slice A4 els.length p4) := R.cell 4
      by_cases hkl' : k < args.length
      · obtain ⟨d', rfl⟩ := exS_pos h2 (by omega)
        obtain ⟨b, o, op', n', name', kids', v', rfl, _, hbB, HL, g0, g1, g2, g3, c0, c1, c2, c3⟩ := ex_get d' (h2.below hb hB) hkl'
        obtain ⟨A', p', hf, _, _⟩ := g3.form
        change _ = Value.slice A' kids'.length p' at hf
        subst hf
        have hkn : (k : Int) < (args.length : Int) := by omega
        have hki : (0 : Int) ≤ (k : Int) := by omega
        go_wp2_with fail
        refine (spec_ExprValid d' op' n' name' kids' (.slice A' kids'.length p') _ lo B (Nat.le_trans hB hsz) g0 g1 g2 g3).mono ?_
        rintro e w3 ⟨rfl, x3⟩
        have hb3 : Below w.heap.size w w3 := hb.trans (x3.mono hsz)
        cases he : valE (.mk op' n' name' kids')
        case true =>
          have E3 : Hid (args.all valE = (args.drop (k + 1)).all valE) := by
            have h1 := HA.out
            rw [drop_cons hkl' HL.out, List.all_cons, he, Bool.true_and] at h1
            exact h1
          clear HA
          go_wp2_with fail
          go_roundw
          case rel => exact ⟨k + 1, by omega, by go_num, E3, R.below x3 R.lt, hb3⟩
          case measure => simp [intOf]; omega
        case false =>
          have E : Hid (stB (m + 1) (.mk 1 name args body els) = false) := st_no (hd_args (by have h1 := HA.out; rw [drop_cons hkl' HL.out, List.all_cons, he, Bool.false_and] at h1; exact h1)) _
          clear HA
          go_wp2_with fail
          go_ret
          exact RetV.mk (by rw [E.out] <;> rfl) rfl hb3
      · have HV : Hid (args.all valE = true) := by
          have h1 := HA.out
          rw [List.drop_eq_nil_of_le (by omega)] at h1
          exact h1
        clear HA
        have HD : Hid (args.all (fun e => decide ((1 : Int) = 8 → e.op = 13)) = true) := by show _ = _; rw [List.all_eq_true]; intro x _; exact decide_eq_true (by intro h; omega)
        by_cases he0 : 0 < els.length
        case pos =>
          have qe : (0 : Int) < (els.length : Int) := by omega
          have E : Hid (stB (m + 1) (.mk 1 name args body els) = false) := st_no (hd_els he0 (by omega)) _
          go_wp2_with fail
          go_ret
          exact RetV.mk (by rw [E.out] <;> rfl) rfl hb
        have qe : decide ((0 : Int) < (els.length : Int)) = false := decide_eq_false (by omega)
        by_cases hb0' : 0 < body.length
        case pos =>
          have qb : (0 : Int) < (body.length : Int) := by omega
          have E : Hid (stB (m + 1) (.mk 1 name args body els) = false) := st_no (hd_body hb0' (by omega) (by omega)) _
          go_wp2_with fail
          go_ret
          exact RetV.mk (by rw [E.out] <;> rfl) rfl hb
        have qb : decide ((0 : Int) < (body.length : Int)) = false := decide_eq_false (by omega)
        have HH : Hid (hdB 1 name args body.length els.length = true) := hd_yes (by omega) HKL.out HN.out HV.out HD.out (by omega) (by omega)
        skip
        go_wp2_with fail
        refine (ih d body _ _ lo B (Nat.le_trans hB hb.size) (h3.below hb hB)).mono ?_
        rintro e w4 ⟨rfl, x4⟩
        have hb4 : Below w.heap.size w w4 := hb.trans (x4.mono hb.size)
        have R4 := R.below x4 R.lt
        have z0 : w4.cell? ⟨w.heap.size, 0, none⟩ = some (.int .i64 1) := R4.cell 0
        have z1 : w4.cell? ⟨w.heap.size, 1, none⟩ = some (.string name) := R4.cell 1
        have z2 : w4.cell? ⟨w.heap.size, 2, none⟩ = some (.slice A2 args.length p2) := R4.cell 2
        have z3 : w4.cell? ⟨w.heap.size, 3, none⟩ = some (.slice A3 body.length p3) := R4.cell 3
        have z4 : w4.cell? ⟨w.heap.size, 4, none⟩ = some (.slice A4 els.length p4) := R4.cell 4
        cases hB1 : body.all (stB m)
        case false =>
          have E : Hid (stB (m + 1) (.mk 1 name args body els) = false) := by show _ = _; rw [stB, HH.out, hB1]; rfl
          go_wp2_with fail
          go_ret
          exact RetV.mk (by rw [E.out] <;> rfl) rfl hb4
        go_wp2_with fail
        refine (ih d els _ _ lo B (Nat.le_trans hB hb4.size) (h4.below hb4 hB)).mono ?_
        rintro e w5 ⟨rfl, x5⟩
        have hb5 : Below w.heap.size w w5 := hb4.trans (x5.mono hb4.size)
        have E : Hid (stB (m + 1) (.mk 1 name args body els) = els.all (stB m)) := by show _ = _; rw [stB, HH.out, hB1, Bool.true_and, Bool.true_and]
        go_wp2_with fail
        go_ret
        exact RetV.mk (by rw [E.out] <;> rfl) rfl hb5
  · have HKL : Hid (args.length = 1) := hlen
    clear hlen hop
    have x0 : wd.cell? ⟨w.heap.size, 0, none⟩ = some (.int .i64 2) := R0.cell 0
    have x1 : wd.cell? ⟨w.heap.size, 1, none⟩ = some (.string name) := R0.cell 1
    have x2 : wd.cell? ⟨w.heap.size, 2, none⟩ = some (.slice A2 args.length p2) := R0.cell 2
    have x3 : wd.cell? ⟨w.heap.size, 3, none⟩ = some (.slice A3 body.length p3) := R0.cell 3
    have x4 : wd.cell? ⟨w.heap.size, 4, none⟩ = some (.slice A4 els.length p4) := R0.cell 4
    go_wp2_with fail
    refine (spec_IsName name _ hnm).mono ?_
    rintro e w1 ⟨rfl, b1⟩
    have hb1 : Below w.heap.size w w1 := hb0.trans (b1.mono hb0.size)
    have R1 := R0.below b1 R0.lt
    clear x0 x1 x2 x3 x4
    have y0 : w1.cell? ⟨w.heap.size, 0, none⟩ = some (.int .i64 2) := R1.cell 0
    have y1 : w1.cell? ⟨w.heap.size, 1, none⟩ = some (.string name) := R1.cell 1
    have y2 : w1.cell? ⟨w.heap.size, 2, none⟩ = some (.slice A2 args.length p2) := R1.cell 2
    have y3 : w1.cell? ⟨w.heap.size, 3, none⟩ = some (.slice A3 body.length p3) := R1.cell 3
    have y4 : w1.cell? ⟨w.heap.size, 4, none⟩ = some (.slice A4 els.length p4) := R1.cell 4
    cases hi : isName name
    case false =>
      have E : Hid (stB (m + 1) (.mk 2 name args body els) = false) := st_no (hd_name (by unfold nmB; rw [if_pos (by omega), hi])) _
      go_wp2_with fail
      go_ret
      exact RetV.mk (by rw [E.out] <;> rfl) rfl hb1
    have HN : Hid (nmB 2 name = true) := by show _ = _; unfold nmB; rw [if_pos (by omega), hi]
    go_wp2_with fail
    go_loopw [6] (fun i wr => ∃ k : Nat, k ≤ args.length ∧ i = .int .i64 k ∧ Hid (args.all valE = (args.drop k).all valE) ∧ Row wr w.heap.size 76 #[.int .i64 2, .string name, .slice A2 args.length p2, .slice A3 body.length p3, .slice A4 els.length p4] ∧ Below w.heap.size w wr) (fun i _ => args.length - (intOf i).toNat)
    case atStart => exact ⟨0, by omega, rfl, (show _ = _ from rfl), R1, hb1⟩
    case round =>
      clear y0 y1 y2 y3 y4
      obtain ⟨k, hk, rfl, HA, R, hb⟩ := hrel
      have hsz := hb.size
      have y0 : wr.cell? ⟨w.heap.size, 0, none⟩ = some (.int .i64 2) := R.cell 0
      have y1 : wr.cell? ⟨w.heap.size, 1, none⟩ = some (.string name) := R.cell 1
      have y2 : wr.cell? ⟨w.heap.size, 2, none⟩ = some (.slice A2 args.length p2) := R.cell 2
      have y3 : wr.cell? ⟨w.heap.size, 3, none⟩ = some (.slice A3 body.length p3) := R.cell 3
      have y4 : wr.cell? ⟨w.heap.size, 4, none⟩ = some (.slice A4 els.length p4) := R.cell 4
      by_cases hkl' : k < args.length
      · obtain ⟨d', rfl⟩ := exS_pos h2 (by omega)
        obtain ⟨b, o, op', n', name', kids', v', rfl, _, hbB, HL, g0, g1, g2, g3, c0, c1, c2, c3⟩ := ex_get d' (h2.below hb hB) hkl'
        obtain ⟨A', p', hf, _, _⟩ := g3.form
        change _ = Value.slice A' kids'.length p' at hf
        subst hf
        have hkn : (k : Int) < (args.length : Int) := by omega
        have hki : (0 : Int) ≤ (k : Int) := by omega
        go_wp2_with fail
        refine (spec_ExprValid d' op' n' name' kids' (.slice A' kids'.length p') _ lo B (Nat.le_trans hB hsz) g0 g1 g2 g3).mono ?_
        rintro e w3 ⟨rfl, x3⟩
        have hb3 : Below w.heap.size w w3 := hb.trans (x3.mono hsz)
        cases he : valE (.mk op' n' name' kids')
        case true =>
          have E3 : Hid (args.all valE = (args.drop (k + 1)).all valE) := by
            have h1 := HA.out
            rw [drop_cons hkl' HL.out, List.all_cons, he, Bool.true_and] at h1
            exact h1
          clear HA
          go_wp2_with fail
          go_roundw
          case rel => exact ⟨k + 1, by omega, by go_num, E3, R.below x3 R.lt, hb3⟩
          case measure => simp [intOf]; omega
        case false =>
          have E : Hid (stB (m + 1) (.mk 2 name args body els) = false) := st_no (hd_args (by have h1 := HA.out; rw [drop_cons hkl' HL.out, List.all_cons, he, Bool.false_and] at h1; exact h1)) _
          clear HA
          go_wp2_with fail
          go_ret
          exact RetV.mk (by rw [E.out] <;> rfl) rfl hb3
      · have HV : Hid (args.all valE = true) := by
          have h1 := HA.out
          rw [List.drop_eq_nil_of_le (by omega)] at h1
          exact h1
        clear HA
        have HD : Hid (args.all (fun e => decide ((2 : Int) = 8 → e.op = 13)) = true) := by show _ = _; rw [List.all_eq_true]; intro x _; exact decide_eq_true (by intro h; omega)
        by_cases he0 : 0 < els.length
        case pos =>
          have qe : (0 : Int) < (els.length : Int) := by omega
          have E : Hid (stB (m + 1) (.mk 2 name args body els) = false) := st_no (hd_els he0 (by omega)) _
          go_wp2_with fail
          go_ret
          exact RetV.mk (by rw [E.out] <;> rfl) rfl hb
        have qe : decide ((0 : Int) < (els.length : Int)) = false := decide_eq_false (by omega)
        by_cases hb0' : 0 < body.length
        case pos =>
          have qb : (0 : Int) < (body.length : Int) := by omega
          have E : Hid (stB (m + 1) (.mk 2 name args body els) = false) := st_no (hd_body hb0' (by omega) (by omega)) _
          go_wp2_with fail
          go_ret
          exact RetV.mk (by rw [E.out] <;> rfl) rfl hb
        have qb : decide ((0 : Int) < (body.length : Int)) = false := decide_eq_false (by omega)
        have HH : Hid (hdB 2 name args body.length els.length = true) := hd_yes (by omega) HKL.out HN.out HV.out HD.out (by omega) (by omega)
        skip
        go_wp2_with fail
        refine (ih d body _ _ lo B (Nat.le_trans hB hb.size) (h3.below hb hB)).mono ?_
        rintro e w4 ⟨rfl, x4⟩
        have hb4 : Below w.heap.size w w4 := hb.trans (x4.mono hb.size)
        have R4 := R.below x4 R.lt
        have z0 : w4.cell? ⟨w.heap.size, 0, none⟩ = some (.int .i64 2) := R4.cell 0
        have z1 : w4.cell? ⟨w.heap.size, 1, none⟩ = some (.string name) := R4.cell 1
        have z2 : w4.cell? ⟨w.heap.size, 2, none⟩ = some (.slice A2 args.length p2) := R4.cell 2
        have z3 : w4.cell? ⟨w.heap.size, 3, none⟩ = some (.slice A3 body.length p3) := R4.cell 3
        have z4 : w4.cell? ⟨w.heap.size, 4, none⟩ = some (.slice A4 els.length p4) := R4.cell 4
        cases hB1 : body.all (stB m)
        case false =>
          have E : Hid (stB (m + 1) (.mk 2 name args body els) = false) := by show _ = _; rw [stB, HH.out, hB1]; rfl
          go_wp2_with fail
          go_ret
          exact RetV.mk (by rw [E.out] <;> rfl) rfl hb4
        go_wp2_with fail
        refine (ih d els _ _ lo B (Nat.le_trans hB hb4.size) (h4.below hb4 hB)).mono ?_
        rintro e w5 ⟨rfl, x5⟩
        have hb5 : Below w.heap.size w w5 := hb4.trans (x5.mono hb4.size)
        have E : Hid (stB (m + 1) (.mk 2 name args body els) = els.all (stB m)) := by show _ = _; rw [stB, HH.out, hB1, Bool.true_and, Bool.true_and]
        go_wp2_with fail
        go_ret
        exact RetV.mk (by rw [E.out] <;> rfl) rfl hb5
  · have HKL : Hid (args.length = 1) := hlen
    clear hlen hop
    have x0 : wd.cell? ⟨w.heap.size, 0, none⟩ = some (.int .i64 3) := R0.cell 0
    have x1 : wd.cell? ⟨w.heap.size, 1, none⟩ = some (.string name) := R0.cell 1
    have x2 : wd.cell? ⟨w.heap.size, 2, none⟩ = some (.slice A2 args.length p2) := R0.cell 2
    have x3 : wd.cell? ⟨w.heap.size, 3, none⟩ = some (.slice A3 body.length p3) := R0.cell 3
    have x4 : wd.cell? ⟨w.heap.size, 4, none⟩ = some (.slice A4 els.length p4) := R0.cell 4
    go_wp2_with fail
    refine (spec_IsName name _ hnm).mono ?_
    rintro e w1 ⟨rfl, b1⟩
    have hb1 : Below w.heap.size w w1 := hb0.trans (b1.mono hb0.size)
    have R1 := R0.below b1 R0.lt
    clear x0 x1 x2 x3 x4
    have y0 : w1.cell? ⟨w.heap.size, 0, none⟩ = some (.int .i64 3) := R1.cell 0
    have y1 : w1.cell? ⟨w.heap.size, 1, none⟩ = some (.string name) := R1.cell 1
    have y2 : w1.cell? ⟨w.heap.size, 2, none⟩ = some (.slice A2 args.length p2) := R1.cell 2
    have y3 : w1.cell? ⟨w.heap.size, 3, none⟩ = some (.slice A3 body.length p3) := R1.cell 3
    have y4 : w1.cell? ⟨w.heap.size, 4, none⟩ = some (.slice A4 els.length p4) := R1.cell 4
    cases hi : isName name
    case true =>
      have E : Hid (stB (m + 1) (.mk 3 name args body els) = false) := st_no (hd_name (by unfold nmB; rw [if_neg (by omega), isName_ne hi])) _
      go_wp2_with fail
      go_ret
      exact RetV.mk (by rw [E.out] <;> rfl) rfl hb1
    cases hem : name.toList.isEmpty
    case false =>
      have hem2 : (!name.toList.isEmpty) = true := by rw [hem]; rfl
      have E : Hid (stB (m + 1) (.mk 3 name args body els) = false) := st_no (hd_name (by unfold nmB; rw [if_neg (by omega), hem])) _
      go_wp2_with fail
      go_ret
      exact RetV.mk (by rw [E.out] <;> rfl) rfl hb1
    have HN : Hid (nmB 3 name = true) := by show _ = _; unfold nmB; rw [if_neg (by omega), hem]
    go_wp2_with fail
    go_loopw [6] (fun i wr => ∃ k : Nat, k ≤ args.length ∧ i = .int .i64 k ∧ Hid (args.all valE = (args.drop k).all valE) ∧ Row wr w.heap.size 76 #[.int .i64 3, .string name, .slice A2 args.length p2, .slice A3 body.length p3, .slice A4 els.length p4] ∧ Below w.heap.size w wr) (fun i _ => args.length - (intOf i).toNat)
    case atStart => exact ⟨0, by omega, rfl, (show _ = _ from rfl), R1, hb1⟩
    case round =>
      clear y0 y1 y2 y3 y4
      obtain ⟨k, hk, rfl, HA, R, hb⟩ := hrel
      have hsz := hb.size
      have y0 : wr.cell? ⟨w.heap.size, 0, none⟩ = some (.int .i64 3) := R.cell 0
      have y1 : wr.cell? ⟨w.heap.size, 1, none⟩ = some (.string name) := R.cell 1
      have y2 : wr.cell? ⟨w.heap.size, 2, none⟩ = some (.slice A2 args.length p2) := R.cell 2
      have y3 : wr.cell? ⟨w.heap.size, 3, none⟩ = some (.slice A3 body.length p3) := R.cell 3
      have y4 : wr.cell? ⟨w.heap.size, 4, none⟩ = some (.slice A4 els.length p4) := R.cell 4
      by_cases hkl' : k < args.length
      · obtain ⟨d', rfl⟩ := exS_pos h2 (by omega)
        obtain ⟨b, o, op', n', name', kids', v', rfl, _, hbB, HL, g0, g1, g2, g3, c0, c1, c2, c3⟩ := ex_get d' (h2.below hb hB) hkl'
        obtain ⟨A', p', hf, _, _⟩ := g3.form
        change _ = Value.slice A' kids'.length p' at hf
        subst hf
        have hkn : (k : Int) < (args.length : Int) := by omega
        have hki : (0 : Int) ≤ (k : Int) := by omega
        go_wp2_with fail
        refine (spec_ExprValid d' op' n' name' kids' (.slice A' kids'.length p') _ lo B (Nat.le_trans hB hsz) g0 g1 g2 g3).mono ?_
        rintro e w3 ⟨rfl, x3⟩
        have hb3 : Below w.heap.size w w3 := hb.trans (x3.mono hsz)
        cases he : valE (.mk op' n' name' kids')
        case true =>
          have E3 : Hid (args.all valE = (args.drop (k + 1)).all valE) := by
            have h1 := HA.out
            rw [drop_cons hkl' HL.out, List.all_cons, he, Bool.true_and] at h1
            exact h1
          clear HA
          go_wp2_with fail
          go_roundw
          case rel => exact ⟨k + 1, by omega, by go_num, E3, R.below x3 R.lt, hb3⟩
          case measure => simp [intOf]; omega
        case false =>
          have E : Hid (stB (m + 1) (.mk 3 name args body els) = false) := st_no (hd_args (by have h1 := HA.out; rw [drop_cons hkl' HL.out, List.all_cons, he, Bool.false_and] at h1; exact h1)) _
          clear HA
          go_wp2_with fail
          go_ret
          exact RetV.mk (by rw [E.out] <;> rfl) rfl hb3
      · have HV : Hid (args.all valE = true) := by
          have h1 := HA.out
          rw [List.drop_eq_nil_of_le (by omega)] at h1
          exact h1
        clear HA
        have HD : Hid (args.all (fun e => decide ((3 : Int) = 8 → e.op = 13)) = true) := by show _ = _; rw [List.all_eq_true]; intro x _; exact decide_eq_true (by intro h; omega)
        by_cases he0 : 0 < els.length
        case pos =>
          have qe : (0 : Int) < (els.length : Int) := by omega
          have E : Hid (stB (m + 1) (.mk 3 name args body els) = false) := st_no (hd_els he0 (by omega)) _
          go_wp2_with fail
          go_ret
          exact RetV.mk (by rw [E.out] <;> rfl) rfl hb
        have qe : decide ((0 : Int) < (els.length : Int)) = false := decide_eq_false (by omega)
        by_cases hb0' : 0 < body.length
        case pos =>
          have qb : (0 : Int) < (body.length : Int) := by omega
          have E : Hid (stB (m + 1) (.mk 3 name args body els) = false) := st_no (hd_body hb0' (by omega) (by omega)) _
          go_wp2_with fail
          go_ret
          exact RetV.mk (by rw [E.out] <;> rfl) rfl hb
        have qb : decide ((0 : Int) < (body.length : Int)) = false := decide_eq_false (by omega)
        have HH : Hid (hdB 3 name args body.length els.length = true) := hd_yes (by omega) HKL.out HN.out HV.out HD.out (by omega) (by omega)
        skip
        go_wp2_with fail
        refine (ih d body _ _ lo B (Nat.le_trans hB hb.size) (h3.below hb hB)).mono ?_
        rintro e w4 ⟨rfl, x4⟩
        have hb4 : Below w.heap.size w w4 := hb.trans (x4.mono hb.size)
        have R4 := R.below x4 R.lt
        have z0 : w4.cell? ⟨w.heap.size, 0, none⟩ = some (.int .i64 3) := R4.cell 0
        have z1 : w4.cell? ⟨w.heap.size, 1, none⟩ = some (.string name) := R4.cell 1
        have z2 : w4.cell? ⟨w.heap.size, 2, none⟩ = some (.slice A2 args.length p2) := R4.cell 2
        have z3 : w4.cell? ⟨w.heap.size, 3, none⟩ = some (.slice A3 body.length p3) := R4.cell 3
        have z4 : w4.cell? ⟨w.heap.size, 4, none⟩ = some (.slice A4 els.length p4) := R4.cell 4
        cases hB1 : body.all (stB m)
        case false =>
          have E : Hid (stB (m + 1) (.mk 3 name args body els) = false) := by show _ = _; rw [stB, HH.out, hB1]; rfl
          go_wp2_with fail
          go_ret
          exact RetV.mk (by rw [E.out] <;> rfl) rfl hb4
        go_wp2_with fail
        refine (ih d els _ _ lo B (Nat.le_trans hB hb4.size) (h4.below hb4 hB)).mono ?_
        rintro e w5 ⟨rfl, x5⟩
        have hb5 : Below w.heap.size w w5 := hb4.trans (x5.mono hb4.size)
        have E : Hid (stB (m + 1) (.mk 3 name args body els) = els.all (stB m)) := by show _ = _; rw [stB, HH.out, hB1, Bool.true_and, Bool.true_and]
        go_wp2_with fail
        go_ret
        exact RetV.mk (by rw [E.out] <;> rfl) rfl hb5
  · have HKL : Hid (args.length = 2) := hlen
    clear hlen hop
    have x0 : wd.cell? ⟨w.heap.size, 0, none⟩ = some (.int .i64 4) := R0.cell 0
    have x1 : wd.cell? ⟨w.heap.size, 1, none⟩ = some (.string name) := R0.cell 1
    have x2 : wd.cell? ⟨w.heap.size, 2, none⟩ = some (.slice A2 args.length p2) := R0.cell 2
    have x3 : wd.cell? ⟨w.heap.size, 3, none⟩ = some (.slice A3 body.length p3) := R0.cell 3
    have x4 : wd.cell? ⟨w.heap.size, 4, none⟩ = some (.slice A4 els.length p4) := R0.cell 4
    go_wp2_with fail
    refine (spec_IsName name _ hnm).mono ?_
    rintro e w1 ⟨rfl, b1⟩
    have hb1 : Below w.heap.size w w1 := hb0.trans (b1.mono hb0.size)
    have R1 := R0.below b1 R0.lt
    clear x0 x1 x2 x3 x4
    have y0 : w1.cell? ⟨w.heap.size, 0, none⟩ = some (.int .i64 4) := R1.cell 0
    have y1 : w1.cell? ⟨w.heap.size, 1, none⟩ = some (.string name) := R1.cell 1
    have y2 : w1.cell? ⟨w.heap.size, 2, none⟩ = some (.slice A2 args.length p2) := R1.cell 2
    have y3 : w1.cell? ⟨w.heap.size, 3, none⟩ = some (.slice A3 body.length p3) := R1.cell 3
    have y4 : w1.cell? ⟨w.heap.size, 4, none⟩ = some (.slice A4 els.length p4) := R1.cell 4
    cases hi : isName name
    case true =>
      have E : Hid (stB (m + 1) (.mk 4 name args body els) = false) := st_no (hd_name (by unfold nmB; rw [if_neg (by omega), isName_ne hi])) _
      go_wp2_with fail
      go_ret
      exact RetV.mk (by rw [E.out] <;> rfl) rfl hb1
    cases hem : name.toList.isEmpty
    case false =>
      have hem2 : (!name.toList.isEmpty) = true := by rw [hem]; rfl
      have E : Hid (stB (m + 1) (.mk 4 name args body els) = false) := st_no (hd_name (by unfold nmB; rw [if_neg (by omega), hem])) _
      go_wp2_with fail
      go_ret
      exact RetV.mk (by rw [E.out] <;> rfl) rfl hb1
    have HN : Hid (nmB 4 name = true) := by show _ = _; unfold nmB; rw [if_neg (by omega), hem]
    go_wp2_with fail
    go_loopw [6] (fun i wr => ∃ k : Nat, k ≤ args.length ∧ i = .int .i64 k ∧ Hid (args.all valE = (args.drop k).all valE) ∧ Row wr w.heap.size 76 #[.int .i64 4, .string name, .slice A2 args.length p2, .slice A3 body.length p3, .slice A4 els.length p4] ∧ Below w.heap.size w wr) (fun i _ => args.length - (intOf i).toNat)
    case atStart => exact ⟨0, by omega, rfl, (show _ = _ from rfl), R1, hb1⟩
    case round =>
      clear y0 y1 y2 y3 y4
      obtain ⟨k, hk, rfl, HA, R, hb⟩ := hrel
      have hsz := hb.size
      have y0 : wr.cell? ⟨w.heap.size, 0, none⟩ = some (.int .i64 4) := R.cell 0
      have y1 : wr.cell? ⟨w.heap.size, 1, none⟩ = some (.string name) := R.cell 1
      have y2 : wr.cell? ⟨w.heap.size, 2, none⟩ = some (.slice A2 args.length p2) := R.cell 2
      have y3 : wr.cell? ⟨w.heap.size, 3, none⟩ = some (.slice A3 body.length p3) := R.cell 3
      have y4 : wr.cell? ⟨w.heap.size, 4, none⟩ = some (.slice A4 els.length p4) := R.cell 4
      by_cases hkl' : k < args.length
      · obtain ⟨d', rfl⟩ := exS_pos h2 (by omega)
        obtain ⟨b, o, op', n', name', kids', v', rfl, _, hbB, HL, g0, g1, g2, g3, c0, c1, c2, c3⟩ := ex_get d' (h2.below hb hB) hkl'
        obtain ⟨A', p', hf, _, _⟩ := g3.form
        change _ = Value.slice A' kids'.length p' at hf
        subst hf
        have hkn : (k : Int) < (args.length : Int) := by omega
        have hki : (0 : Int) ≤ (k : Int) := by omega
        go_wp2_with fail
        refine (spec_ExprValid d' op' n' name' kids' (.slice A' kids'.length p') _ lo B (Nat.le_trans hB hsz) g0 g1 g2 g3).mono ?_
        rintro e w3 ⟨rfl, x3⟩
        have hb3 : Below w.heap.size w w3 := hb.trans (x3.mono hsz)
        cases he : valE (.mk op' n' name' kids')
        case true =>
          have E3 : Hid (args.all valE = (args.drop (k + 1)).all valE) := by
            have h1 := HA.out
            rw [drop_cons hkl' HL.out, List.all_cons, he, Bool.true_and] at h1
            exact h1
          clear HA
          go_wp2_with fail
          go_roundw
          case rel => exact ⟨k + 1, by omega, by go_num, E3, R.below x3 R.lt, hb3⟩
          case measure => simp [intOf]; omega
        case false =>
          have E : Hid (stB (m + 1) (.mk 4 name args body els) = false) := st_no (hd_args (by have h1 := HA.out; rw [drop_cons hkl' HL.out, List.all_cons, he, Bool.false_and] at h1; exact h1)) _
          clear HA
          go_wp2_with fail
          go_ret
          exact RetV.mk (by rw [E.out] <;> rfl) rfl hb3
      · have HV : Hid (args.all valE = true) := by
          have h1 := HA.out
          rw [List.drop_eq_nil_of_le (by omega)] at h1
          exact h1
        clear HA
        have HD : Hid (args.all (fun e => decide ((4 : Int) = 8 → e.op = 13)) = true) := by show _ = _; rw [List.all_eq_true]; intro x _; exact decide_eq_true (by intro h; omega)
        by_cases he0 : 0 < els.length
        case pos =>
          have qe : (0 : Int) < (els.length : Int) := by omega
          have E : Hid (stB (m + 1) (.mk 4 name args body els) = false) := st_no (hd_els he0 (by omega)) _
          go_wp2_with fail
          go_ret
          exact RetV.mk (by rw [E.out] <;> rfl) rfl hb
        have qe : decide ((0 : Int) < (els.length : Int)) = false := decide_eq_false (by omega)
        by_cases hb0' : 0 < body.length
        case pos =>
          have qb : (0 : Int) < (body.length : Int) := by omega
          have E : Hid (stB (m + 1) (.mk 4 name args body els) = false) := st_no (hd_body hb0' (by omega) (by omega)) _
          go_wp2_with fail
          go_ret
          exact RetV.mk (by rw [E.out] <;> rfl) rfl hb
        have qb : decide ((0 : Int) < (body.length : Int)) = false := decide_eq_false (by omega)
        have HH : Hid (hdB 4 name args body.length els.length = true) := hd_yes (by omega) HKL.out HN.out HV.out HD.out (by omega) (by omega)
        skip
        go_wp2_with fail
        refine (ih d body _ _ lo B (Nat.le_trans hB hb.size) (h3.below hb hB)).mono ?_
        rintro e w4 ⟨rfl, x4⟩
        have hb4 : Below w.heap.size w w4 := hb.trans (x4.mono hb.size)
        have R4 := R.below x4 R.lt
        have z0 : w4.cell? ⟨w.heap.size, 0, none⟩ = some (.int .i64 4) := R4.cell 0
        have z1 : w4.cell? ⟨w.heap.size, 1, none⟩ = some (.string name) := R4.cell 1
        have z2 : w4.cell? ⟨w.heap.size, 2, none⟩ = some (.slice A2 args.length p2) := R4.cell 2
        have z3 : w4.cell? ⟨w.heap.size, 3, none⟩ = some (.slice A3 body.length p3) := R4.cell 3
        have z4 : w4.cell? ⟨w.heap.size, 4, none⟩ = some (.slice A4 els.length p4) := R4.cell 4
        cases hB1 : body.all (stB m)
        case false =>
          have E : Hid (stB (m + 1) (.mk 4 name args body els) = false) := by show _ = _; rw [stB, HH.out, hB1]; rfl
          go_wp2_with fail
          go_ret
          exact RetV.mk (by rw [E.out] <;> rfl) rfl hb4
        go_wp2_with fail
        refine (ih d els _ _ lo B (Nat.le_trans hB hb4.size) (h4.below hb4 hB)).mono ?_
        rintro e w5 ⟨rfl, x5⟩
        have hb5 : Below w.heap.size w w5 := hb4.trans (x5.mono hb4.size)
        have E : Hid (stB (m + 1) (.mk 4 name args body els) = els.all (stB m)) := by show _ = _; rw [stB, HH.out, hB1, Bool.true_and, Bool.true_and]
        go_wp2_with fail
        go_ret
        exact RetV.mk (by rw [E.out] <;> rfl) rfl hb5
  · have HKL : Hid (args.length = 1) := hlen
    clear hlen hop
    have x0 : wd.cell? ⟨w.heap.size, 0, none⟩ = some (.int .i64 5) := R0.cell 0
    have x1 : wd.cell? ⟨w.heap.size, 1, none⟩ = some (.string name) := R0.cell 1
    have x2 : wd.cell? ⟨w.heap.size, 2, none⟩ = some (.slice A2 args.length p2) := R0.cell 2
    have x3 : wd.cell? ⟨w.heap.size, 3, none⟩ = some (.slice A3 body.length p3) := R0.cell 3
    have x4 : wd.cell? ⟨w.heap.size, 4, none⟩ = some (.slice A4 els.length p4) := R0.cell 4
    go_wp2_with fail
    refine (spec_IsName name _ hnm).mono ?_
    rintro e w1 ⟨rfl, b1⟩
    have hb1 : Below w.heap.size w w1 := hb0.trans (b1.mono hb0.size)
    have R1 := R0.below b1 R0.lt
    clear x0 x1 x2 x3 x4
    have y0 : w1.cell? ⟨w.heap.size, 0, none⟩ = some (.int .i64 5) := R1.cell 0
    have y1 : w1.cell? ⟨w.heap.size, 1, none⟩ = some (.string name) := R1.cell 1
    have y2 : w1.cell? ⟨w.heap.size, 2, none⟩ = some (.slice A2 args.length p2) := R1.cell 2
    have y3 : w1.cell? ⟨w.heap.size, 3, none⟩ = some (.slice A3 body.length p3) := R1.cell 3
    have y4 : w1.cell? ⟨w.heap.size, 4, none⟩ = some (.slice A4 els.length p4) := R1.cell 4
    cases hi : isName name
    case true =>
      have E : Hid (stB (m + 1) (.mk 5 name args body els) = false) := st_no (hd_name (by unfold nmB; rw [if_neg (by omega), isName_ne hi])) _
      go_wp2_with fail
      go_ret
      exact RetV.mk (by rw [E.out] <;> rfl) rfl hb1
    cases hem : name.toList.isEmpty
    case false =>
      have hem2 : (!name.toList.isEmpty) = true := by rw [hem]; rfl
      have E : Hid (stB (m + 1) (.mk 5 name args body els) = false) := st_no (hd_name (by unfold nmB; rw [if_neg (by omega), hem])) _
      go_wp2_with fail
      go_ret
      exact RetV.mk (by rw [E.out] <;> rfl) rfl hb1
    have HN : Hid (nmB 5 name = true) := by show _ = _; unfold nmB; rw [if_neg (by omega), hem]
    go_wp2_with fail
    go_loopw [6] (fun i wr => ∃ k : Nat, k ≤ args.length ∧ i = .int .i64 k ∧ Hid (args.all valE = (args.drop k).all valE) ∧ Row wr w.heap.size 76 #[.int .i64 5, .string name, .slice A2 args.length p2, .slice A3 body.length p3, .slice A4 els.length p4] ∧ Below w.heap.size w wr) (fun i _ => args.length - (intOf i).toNat)
    case atStart => exact ⟨0, by omega, rfl, (show _ = _ from rfl), R1, hb1⟩
    case round =>
      clear y0 y1 y2 y3 y4
      obtain ⟨k, hk, rfl, HA, R, hb⟩ := hrel
      have hsz := hb.size
      have y0 : wr.cell? ⟨w.heap.size, 0, none⟩ = some (.int .i64 5) := R.cell 0
      have y1 : wr.cell? ⟨w.heap.size, 1, none⟩ = some (.string name) := R.cell 1
      have y2 : wr.cell? ⟨w.heap.size, 2, none⟩ = some (.slice A2 args.length p2) := R.cell 2
      have y3 : wr.cell? ⟨w.heap.size, 3, none⟩ = some (.slice A3 body.length p3) := R.cell 3
      have y4 : wr.cell? ⟨w.heap.size, 4, none⟩ = some (.slice A4 els.length p4) := R.cell 4
      by_cases hkl' : k < args.length
      · obtain ⟨d', rfl⟩ := exS_pos h2 (by omega)
        obtain ⟨b, o, op', n', name', kids', v', rfl, _, hbB, HL, g0, g1, g2, g3, c0, c1, c2, c3⟩ := ex_get d' (h2.below hb hB) hkl'
        obtain ⟨A', p', hf, _, _⟩ := g3.form
        change _ = Value.slice A' kids'.length p' at hf
        subst hf
        have hkn : (k : Int) < (args.length : Int) := by omega
        have hki : (0 : Int) ≤ (k : Int) := by omega
        go_wp2_with fail
        refine (spec_ExprValid d' op' n' name' kids' (.slice A' kids'.length p') _ lo B (Nat.le_trans hB hsz) g0 g1 g2 g3).mono ?_
        rintro e w3 ⟨rfl, x3⟩
        have hb3 : Below w.heap.size w w3 := hb.trans (x3.mono hsz)
        cases he : valE (.mk op' n' name' kids')
        case true =>
          have E3 : Hid (args.all valE = (args.drop (k + 1)).all valE) := by
            have h1 := HA.out
            rw [drop_cons hkl' HL.out, List.all_cons, he, Bool.true_and] at h1
            exact h1
          clear HA
          go_wp2_with fail
          go_roundw
          case rel => exact ⟨k + 1, by omega, by go_num, E3, R.below x3 R.lt, hb3⟩
          case measure => simp [intOf]; omega
        case false =>
          have E : Hid (stB (m + 1) (.mk 5 name args body els) = false) := st_no (hd_args (by have h1 := HA.out; rw [drop_cons hkl' HL.out, List.all_cons, he, Bool.false_and] at h1; exact h1)) _
          clear HA
          go_wp2_with fail
          go_ret
          exact RetV.mk (by rw [E.out] <;> rfl) rfl hb3
      · have HV : Hid (args.all valE = true) := by
          have h1 := HA.out
          rw [List.drop_eq_nil_of_le (by omega)] at h1
          exact h1
        clear HA
        have HD : Hid (args.all (fun e => decide ((5 : Int) = 8 → e.op = 13)) = true) := by show _ = _; rw [List.all_eq_true]; intro x _; exact decide_eq_true (by intro h; omega)
        have HH : Hid (hdB 5 name args body.length els.length = true) := hd_yes (by omega) HKL.out HN.out HV.out HD.out (by omega) (by omega)
        skip
        by_cases he0 : 0 < els.length
        · have qe : (0 : Int) < (els.length : Int) := by omega
          by_cases hb0' : 0 < body.length
          · have qb : (0 : Int) < (body.length : Int) := by omega
            go_wp2_with fail
            refine (ih d body _ _ lo B (Nat.le_trans hB hb.size) (h3.below hb hB)).mono ?_
            rintro e w4 ⟨rfl, x4⟩
            have hb4 : Below w.heap.size w w4 := hb.trans (x4.mono hb.size)
            have R4 := R.below x4 R.lt
            have z0 : w4.cell? ⟨w.heap.size, 0, none⟩ = some (.int .i64 5) := R4.cell 0
            have z1 : w4.cell? ⟨w.heap.size, 1, none⟩ = some (.string name) := R4.cell 1
            have z2 : w4.cell? ⟨w.heap.size, 2, none⟩ = some (.slice A2 args.length p2) := R4.cell 2
            have z3 : w4.cell? ⟨w.heap.size, 3, none⟩ = some (.slice A3 body.length p3) := R4.cell 3
            have z4 : w4.cell? ⟨w.heap.size, 4, none⟩ = some (.slice A4 els.length p4) := R4.cell 4
            cases hB1 : body.all (stB m)
            case false =>
              have E : Hid (stB (m + 1) (.mk 5 name args body els) = false) := by show _ = _; rw [stB, HH.out, hB1]; rfl
              go_wp2_with fail
              go_ret
              exact RetV.mk (by rw [E.out] <;> rfl) rfl hb4
            go_wp2_with fail
            refine (ih d els _ _ lo B (Nat.le_trans hB hb4.size) (h4.below hb4 hB)).mono ?_
            rintro e w5 ⟨rfl, x5⟩
            have hb5 : Below w.heap.size w w5 := hb4.trans (x5.mono hb4.size)
            have E : Hid (stB (m + 1) (.mk 5 name args body els) = els.all (stB m)) := by show _ = _; rw [stB, HH.out, hB1, Bool.true_and, Bool.true_and]
            go_wp2_with fail
            go_ret
            exact RetV.mk (by rw [E.out] <;> rfl) rfl hb5
          · have qb : decide ((0 : Int) < (body.length : Int)) = false := decide_eq_false (by omega)
            go_wp2_with fail
            refine (ih d body _ _ lo B (Nat.le_trans hB hb.size) (h3.below hb hB)).mono ?_
            rintro e w4 ⟨rfl, x4⟩
            have hb4 : Below w.heap.size w w4 := hb.trans (x4.mono hb.size)
            have R4 := R.below x4 R.lt
            have z0 : w4.cell? ⟨w.heap.size, 0, none⟩ = some (.int .i64 5) := R4.cell 0
            have z1 : w4.cell? ⟨w.heap.size, 1, none⟩ = some (.string name) := R4.cell 1
            have z2 : w4.cell? ⟨w.heap.size, 2, none⟩ = some (.slice A2 args.length p2) := R4.cell 2
            have z3 : w4.cell? ⟨w.heap.size, 3, none⟩ = some (.slice A3 body.length p3) := R4.cell 3
            have z4 : w4.cell? ⟨w.heap.size, 4, none⟩ = some (.slice A4 els.length p4) := R4.cell 4
            cases hB1 : body.all (stB m)
            case false =>
              have E : Hid (stB (m + 1) (.mk 5 name args body els) = false) := by show _ = _; rw [stB, HH.out, hB1]; rfl
              go_wp2_with fail
              go_ret
              exact RetV.mk (by rw [E.out] <;> rfl) rfl hb4
            go_wp2_with fail
            refine (ih d els _ _ lo B (Nat.le_trans hB hb4.size) (h4.below hb4 hB)).mono ?_
            rintro e w5 ⟨rfl, x5⟩
            have hb5 : Below w.heap.size w w5 := hb4.trans (x5.mono hb4.size)
            have E : Hid (stB (m + 1) (.mk 5 name args body els) = els.all (stB m)) := by show _ = _; rw [stB, HH.out, hB1, Bool.true_and, Bool.true_and]
            go_wp2_with fail
            go_ret
            exact RetV.mk (by rw [E.out] <;> rfl) rfl hb5
        · have qe : decide ((0 : Int) < (els.length : Int)) = false := decide_eq_false (by omega)
          by_cases hb0' : 0 < body.length
          · have qb : (0 : Int) < (body.length : Int) := by omega
            go_wp2_with fail
            refine (ih d body _ _ lo B (Nat.le_trans hB hb.size) (h3.below hb hB)).mono ?_
            rintro e w4 ⟨rfl, x4⟩
            have hb4 : Below w.heap.size w w4 := hb.trans (x4.mono hb.size)
            have R4 := R.below x4 R.lt
            have z0 : w4.cell? ⟨w.heap.size, 0, none⟩ = some (.int .i64 5) := R4.cell 0
            have z1 : w4.cell? ⟨w.heap.size, 1, none⟩ = some (.string name) := R4.cell 1
            have z2 : w4.cell? ⟨w.heap.size, 2, none⟩ = some (.slice A2 args.length p2) := R4.cell 2
            have z3 : w4.cell? ⟨w.heap.size, 3, none⟩ = some (.slice A3 body.length p3) := R4.cell 3
            have z4 : w4.cell? ⟨w.heap.size, 4, none⟩ = some (.slice A4 els.length p4) := R4.cell 4
            cases hB1 : body.all (stB m)
            case false =>
              have E : Hid (stB (m + 1) (.mk 5 name args body els) = false) := by show _ = _; rw [stB, HH.out, hB1]; rfl
              go_wp2_with fail
              go_ret
              exact RetV.mk (by rw [E.out] <;> rfl) rfl hb4
            go_wp2_with fail
            refine (ih d els _ _ lo B (Nat.le_trans hB hb4.size) (h4.below hb4 hB)).mono ?_
            rintro e w5 ⟨rfl, x5⟩
            have hb5 : Below w.heap.size w w5 := hb4.trans (x5.mono hb4.size)
            have E : Hid (stB (m + 1) (.mk 5 name args body els) = els.all (stB m)) := by show _ = _; rw [stB, HH.out, hB1, Bool.true_and, Bool.true_and]
            go_wp2_with fail
            go_ret
            exact RetV.mk (by rw [E.out] <;> rfl) rfl hb5
          · have qb : decide ((0 : Int) < (body.length : Int)) = false := decide_eq_false (by omega)
            go_wp2_with fail
            refine (ih d body _ _ lo B (Nat.le_trans hB hb.size) (h3.below hb hB)).mono ?_
            rintro e w4 ⟨rfl, x4⟩
            have hb4 : Below w.heap.size w w4 := hb.trans (x4.mono hb.size)
            have R4 := R.below x4 R.lt
            have z0 : w4.cell? ⟨w.heap.size, 0, none⟩ = some (.int .i64 5) := R4.cell 0
            have z1 : w4.cell? ⟨w.heap.size, 1, none⟩ = some (.string name) := R4.cell 1
            have z2 : w4.cell? ⟨w.heap.size, 2, none⟩ = some (.slice A2 args.length p2) := R4.cell 2
            have z3 : w4.cell? ⟨w.heap.size, 3, none⟩ = some (.slice A3 body.length p3) := R4.cell 3
            have z4 : w4.cell? ⟨w.heap.size, 4, none⟩ = some (.slice A4 els.length p4) := R4.cell 4
            cases hB1 : body.all (stB m)
            case false =>
              have E : Hid (stB (m + 1) (.mk 5 name args body els) = false) := by show _ = _; rw [stB, HH.out, hB1]; rfl
              go_wp2_with fail
              go_ret
              exact RetV.mk (by rw [E.out] <;> rfl) rfl hb4
            go_wp2_with fail
            refine (ih d els _ _ lo B (Nat.le_trans hB hb4.size) (h4.below hb4 hB)).mono ?_
            rintro e w5 ⟨rfl, x5⟩
            have hb5 : Below w.heap.size w w5 := hb4.trans (x5.mono hb4.size)
            have E : Hid (stB (m + 1) (.mk 5 name args body els) = els.all (stB m)) := by show _ = _; rw [stB, HH.out, hB1, Bool.true_and, Bool.true_and]
            go_wp2_with fail
            go_ret
            exact RetV.mk (by rw [E.out] <;> rfl) rfl hb5
  · have HKL : Hid (args.length = 1) := hlen
    clear hlen hop
    have x0 : wd.cell? ⟨w.heap.size, 0, none⟩ = some (.int .i64 6) := R0.cell 0
    have x1 : wd.cell? ⟨w.heap.size, 1, none⟩ = some (.string name) := R0.cell 1
    have x2 : wd.cell? ⟨w.heap.size, 2, none⟩ = some (.slice A2 args.length p2) := R0.cell 2
    have x3 : wd.cell? ⟨w.heap.size, 3, none⟩ = some (.slice A3 body.length p3) := R0.cell 3
    have x4 : wd.cell? ⟨w.heap.size, 4, none⟩ = some (.slice A4 els.length p4) := R0.cell 4
    go_wp2_with fail
    refine (spec_IsName name _ hnm).mono ?_
    rintro e w1 ⟨rfl, b1⟩
    have hb1 : Below w.heap.size w w1 := hb0.trans (b1.mono hb0.size)
    have R1 := R0.below b1 R0.lt
    clear x0 x1 x2 x3 x4
    have y0 : w1.cell? ⟨w.heap.size, 0, none⟩ = some (.int .i64 6) := R1.cell 0
    have y1 : w1.cell? ⟨w.heap.size, 1, none⟩ = some (.string name) := R1.cell 1
    have y2 : w1.cell? ⟨w.heap.size, 2, none⟩ = some (.slice A2 args.length p2) := R1.cell 2
    have y3 : w1.cell? ⟨w.heap.size, 3, none⟩ = some (.slice A3 body.length p3) := R1.cell 3
    have y4 : w1.cell? ⟨w.heap.size, 4, none⟩ = some (.slice A4 els.length p4) := R1.cell 4
    cases hi : isName name
    case true =>
      have E : Hid (stB (m + 1) (.mk 6 name args body els) = false) := st_no (hd_name (by unfold nmB; rw [if_neg (by omega), isName_ne hi])) _
      go_wp2_with fail
      go_ret
      exact RetV.mk (by rw [E.out] <;> rfl) rfl hb1
    cases hem : name.toList.isEmpty
    case false =>
      have hem2 : (!name.toList.isEmpty) = true := by rw [hem]; rfl
      have E : Hid (stB (m + 1) (.mk 6 name args body els) = false) := st_no (hd_name (by unfold nmB; rw [if_neg (by omega), hem])) _
      go_wp2_with fail
      go_ret
      exact RetV.mk (by rw [E.out] <;> rfl) rfl hb1
    have HN : Hid (nmB 6 name = true) := by show _ = _; unfold nmB; rw [if_neg (by omega), hem]
    go_wp2_with fail
    go_loopw [6] (fun i wr => ∃ k : Nat, k ≤ args.length ∧ i = .int .i64 k ∧ Hid (args.all valE = (args.drop k).all valE) ∧ Row wr w.heap.size 76 #[.int .i64 6, .string name, .slice A2 args.length p2, .slice A3 body.length p3, .slice A4 els.length p4] ∧ Below w.heap.size w wr) (fun i _ => args.length - (intOf i).toNat)
    case atStart => exact ⟨0, by omega, rfl, (show _ = _ from rfl), R1, hb1⟩
    case round =>
      clear y0 y1 y2 y3 y4
      obtain ⟨k, hk, rfl, HA, R, hb⟩ := hrel
      have hsz := hb.size
      have y0 : wr.cell? ⟨w.heap.size, 0, none⟩ = some (.int .i64 6) := R.cell 0
      have y1 : wr.cell? ⟨w.heap.size, 1, none⟩ = some (.string name) := R.cell 1
      have y2 : wr.cell? ⟨w.heap.size, 2, none⟩ = some (.slice A2 args.length p2) := R.cell 2
      have y3 : wr.cell? ⟨w.heap.size, 3, none⟩ = some (.slice A3 body.length p3) := R.cell 3
      have y4 : wr.cell? ⟨w.heap.size, 4, none⟩ = some (.slice A4 els.length p4) := R.cell 4
      by_cases hkl' : k < args.length
      · obtain ⟨d', rfl⟩ := exS_pos h2 (by omega)
        obtain ⟨b, o, op', n', name', kids', v', rfl, _, hbB, HL, g0, g1, g2, g3, c0, c1, c2, c3⟩ := ex_get d' (h2.below hb hB) hkl'
        obtain ⟨A', p', hf, _, _⟩ := g3.form
        change _ = Value.slice A' kids'.length p' at hf
        subst hf
        have hkn : (k : Int) < (args.length : Int) := by omega
        have hki : (0 : Int) ≤ (k : Int) := by omega
        go_wp2_with fail
        refine (spec_ExprValid d' op' n' name' kids' (.slice A' kids'.length p') _ lo B (Nat.le_trans hB hsz) g0 g1 g2 g3).mono ?_
        rintro e w3 ⟨rfl, x3⟩
        have hb3 : Below w.heap.size w w3 := hb.trans (x3.mono hsz)
        cases he : valE (.mk op' n' name' kids')
        case true =>
          have E3 : Hid (args.all valE = (args.drop (k + 1)).all valE) := by
            have h1 := HA.out
            rw [drop_cons hkl' HL.out, List.all_cons, he, Bool.true_and] at h1
            exact h1
          clear HA
          go_wp2_with fail
          go_roundw
          case rel => exact ⟨k + 1, by omega, by go_num, E3, R.below x3 R.lt, hb3⟩
          case measure => simp [intOf]; omega
        case false =>
          have E : Hid (stB (m + 1) (.mk 6 name args body els) = false) := st_no (hd_args (by have h1 := HA.out; rw [drop_cons hkl' HL.out, List.all_cons, he, Bool.false_and] at h1; exact h1)) _
          clear HA
          go_wp2_with fail
          go_ret
          exact RetV.mk (by rw [E.out] <;> rfl) rfl hb3
      · have HV : Hid (args.all valE = true) := by
          have h1 := HA.out
          rw [List.drop_eq_nil_of_le (by omega)] at h1
          exact h1
        clear HA
        have HD : Hid (args.all (fun e => decide ((6 : Int) = 8 → e.op = 13)) = true) := by show _ = _; rw [List.all_eq_true]; intro x _; exact decide_eq_true (by intro h; omega)
        by_cases he0 : 0 < els.length
        case pos =>
          have qe : (0 : Int) < (els.length : Int) := by omega
          have E : Hid (stB (m + 1) (.mk 6 name args body els) = false) := st_no (hd_els he0 (by omega)) _
          go_wp2_with fail
          go_ret
          exact RetV.mk (by rw [E.out] <;> rfl) rfl hb
        have qe : decide ((0 : Int) < (els.length : Int)) = false := decide_eq_false (by omega)
        have HH : Hid (hdB 6 name args body.length els.length = true) := hd_yes (by omega) HKL.out HN.out HV.out HD.out (by omega) (by omega)
        skip
        by_cases hb0' : 0 < body.length
        · have qb : (0 : Int) < (body.length : Int) := by omega
          go_wp2_with fail
          refine (ih d body _ _ lo B (Nat.le_trans hB hb.size) (h3.below hb hB)).mono ?_
          rintro e w4 ⟨rfl, x4⟩
          have hb4 : Below w.heap.size w w4 := hb.trans (x4.mono hb.size)
          have R4 := R.below x4 R.lt
          have z0 : w4.cell? ⟨w.heap.size, 0, none⟩ = some (.int .i64 6) := R4.cell 0
          have z1 : w4.cell? ⟨w.heap.size, 1, none⟩ = some (.string name) := R4.cell 1
          have z2 : w4.cell? ⟨w.heap.size, 2, none⟩ = some (.slice A2 args.length p2) := R4.cell 2
          have z3 : w4.cell? ⟨w.heap.size, 3, none⟩ = some (.slice A3 body.length p3) := R4.cell 3
          have z4 : w4.cell? ⟨w.heap.size, 4, none⟩ = some (.slice A4 els.length p4) := R4.cell 4
          cases hB1 : body.all (stB m)
          case false =>
            have E : Hid (stB (m + 1) (.mk 6 name args body els) = false) := by show _ = _; rw [stB, HH.out, hB1]; rfl
            go_wp2_with fail
            go_ret
            exact RetV.mk (by rw [E.out] <;> rfl) rfl hb4
          go_wp2_with fail
          refine (ih d els _ _ lo B (Nat.le_trans hB hb4.size) (h4.below hb4 hB)).mono ?_
          rintro e w5 ⟨rfl, x5⟩
          have hb5 : Below w.heap.size w w5 := hb4.trans (x5.mono hb4.size)
          have E : Hid (stB (m + 1) (.mk 6 name args body els) = els.all (stB m)) := by show _ = _; rw [stB, HH.out, hB1, Bool.true_and, Bool.true_and]
          go_wp2_with fail
          go_ret
          exact RetV.mk (by rw [E.out] <;> rfl) rfl hb5
        · have qb : decide ((0 : Int) < (body.length : Int)) = false := decide_eq_false (by omega)
          go_wp2_with fail
          refine (ih d body _ _ lo B (Nat.le_trans hB hb.size) (h3.below hb hB)).mono ?_
          rintro e w4 ⟨rfl, x4⟩
          have hb4 : Below w.heap.size w w4 := hb.trans (x4.mono hb.size)
          have R4 := R.below x4 R.lt
          have z0 : w4.cell? ⟨w.heap.size, 0, none⟩ = some (.int .i64 6) := R4.cell 0
          have z1 : w4.cell? ⟨w.heap.size, 1, none⟩ = some (.string name) := R4.cell 1
          have z2 : w4.cell? ⟨w.heap.size, 2, none⟩ = some (.slice A2 args.length p2) := R4.cell 2
          have z3 : w4.cell? ⟨w.heap.size, 3, none⟩ = some (.slice A3 body.length p3) := R4.cell 3
          have z4 : w4.cell? ⟨w.heap.size, 4, none⟩ = some (.slice A4 els.length p4) := R4.cell 4
          cases hB1 : body.all (stB m)
          case false =>
            have E : Hid (stB (m + 1) (.mk 6 name args body els) = false) := by show _ = _; rw [stB, HH.out, hB1]; rfl
            go_wp2_with fail
            go_ret
            exact RetV.mk (by rw [E.out] <;> rfl) rfl hb4
          go_wp2_with fail
          refine (ih d els _ _ lo B (Nat.le_trans hB hb4.size) (h4.below hb4 hB)).mono ?_
          rintro e w5 ⟨rfl, x5⟩
          have hb5 : Below w.heap.size w w5 := hb4.trans (x5.mono hb4.size)
          have E : Hid (stB (m + 1) (.mk 6 name args body els) = els.all (stB m)) := by show _ = _; rw [stB, HH.out, hB1, Bool.true_and, Bool.true_and]
          go_wp2_with fail
          go_ret
          exact RetV.mk (by rw [E.out] <;> rfl) rfl hb5
  · have HKL : Hid (args.length = 1) := hlen
    clear hlen hop
    have x0 : wd.cell? ⟨w.heap.size, 0, none⟩ = some (.int .i64 7) := R0.cell 0
    have x1 : wd.cell? ⟨w.heap.size, 1, none⟩ = some (.string name) := R0.cell 1
    have x2 : wd.cell? ⟨w.heap.size, 2, none⟩ = some (.slice A2 args.length p2) := R0.cell 2
    have x3 : wd.cell? ⟨w.heap.size, 3, none⟩ = some (.slice A3 body.length p3) := R0.cell 3
    have x4 : wd.cell? ⟨w.heap.size, 4, none⟩ = some (.slice A4 els.length p4) := R0.cell 4
    go_wp2_with fail
    refine (spec_IsName name _ hnm).mono ?_
    rintro e w1 ⟨rfl, b1⟩
    have hb1 : Below w.heap.size w w1 := hb0.trans (b1.mono hb0.size)
    have R1 := R0.below b1 R0.lt
    clear x0 x1 x2 x3 x4
    have y0 : w1.cell? ⟨w.heap.size, 0, none⟩ = some (.int .i64 7) := R1.cell 0
    have y1 : w1.cell? ⟨w.heap.size, 1, none⟩ = some (.string name) := R1.cell 1
    have y2 : w1.cell? ⟨w.heap.size, 2, none⟩ = some (.slice A2 args.length p2) := R1.cell 2
    have y3 : w1.cell? ⟨w.heap.size, 3, none⟩ = some (.slice A3 body.length p3) := R1.cell 3
    have y4 : w1.cell? ⟨w.heap.size, 4, none⟩ = some (.slice A4 els.length p4) := R1.cell 4
    cases hi : isName name
    case true =>
      have E : Hid (stB (m + 1) (.mk 7 name args body els) = false) := st_no (hd_name (by unfold nmB; rw [if_neg (by omega), isName_ne hi])) _
      go_wp2_with fail
      go_ret
      exact RetV.mk (by rw [E.out] <;> rfl) rfl hb1
    cases hem : name.toList.isEmpty
    case false =>
      have hem2 : (!name.toList.isEmpty) = true := by rw [hem]; rfl
      have E : Hid (stB (m + 1) (.mk 7 name args body els) = false) := st_no (hd_name (by unfold nmB; rw [if_neg (by omega), hem])) _
      go_wp2_with fail
      go_ret
      exact RetV.mk (by rw [E.out] <;> rfl) rfl hb1
    have HN : Hid (nmB 7 name = true) := by show _ = _; unfold nmB; rw [if_neg (by omega), hem]
    go_wp2_with fail
    go_loopw [6] (fun i wr => ∃ k : Nat, k ≤ args.length ∧ i = .int .i64 k ∧ Hid (args.all valE = (args.drop k).all valE) ∧ Row wr w.heap.size 76 #[.int .i64 7, .string name, .slice A2 args.length p2, .slice A3 body.length p3, .slice A4 els.length p4] ∧ Below w.heap.size w wr) (fun i _ => args.length - (intOf i).toNat)
    case atStart => exact ⟨0, by omega, rfl, (show _ = _ from rfl), R1, hb1⟩
    case round =>
      clear y0 y1 y2 y3 y4
      obtain ⟨k, hk, rfl, HA, R, hb⟩ := hrel
      have hsz := hb.size
      have y0 : wr.cell? ⟨w.heap.size, 0, none⟩ = some (.int .i64 7) := R.cell 0
      have y1 : wr.cell? ⟨w.heap.size, 1, none⟩ = some (.string name) := R.cell 1
      have y2 : wr.cell? ⟨w.heap.size, 2, none⟩ = some (.slice A2 args.length p2) := R.cell 2
      have y3 : wr.cell? ⟨w.heap.size, 3, none⟩ = some (.slice A3 body.length p3) := R.cell 3
      have y4 : wr.cell? ⟨w.heap.size, 4, none⟩ = some (.slice A4 els.length p4) := R.cell 4
      by_cases hkl' : k < args.length
      · obtain ⟨d', rfl⟩ := exS_pos h2 (by omega)
        obtain ⟨b, o, op', n', name', kids', v', rfl, _, hbB, HL, g0, g1, g2, g3, c0, c1, c2, c3⟩ := ex_get d' (h2.below hb hB) hkl'
        obtain ⟨A', p', hf, _, _⟩ := g3.form
        change _ = Value.slice A' kids'.length p' at hf
        subst hf
        have hkn : (k : Int) < (args.length : Int) := by omega
        have hki : (0 : Int) ≤ (k : Int) := by omega
        go_wp2_with fail
        refine (spec_ExprValid d' op' n' name' kids' (.slice A' kids'.length p') _ lo B (Nat.le_trans hB hsz) g0 g1 g2 g3).mono ?_
        rintro e w3 ⟨rfl, x3⟩
        have hb3 : Below w.heap.size w w3 := hb.trans (x3.mono hsz)
        cases he : valE (.mk op' n' name' kids')
        case true =>
          have E3 : Hid (args.all valE = (args.drop (k + 1)).all valE) := by
            have h1 := HA.out
            rw [drop_cons hkl' HL.out, List.all_cons, he, Bool.true_and] at h1
            exact h1
          clear HA
          go_wp2_with fail
          go_roundw
          case rel => exact ⟨k + 1, by omega, by go_num, E3, R.below x3 R.lt, hb3⟩
          case measure => simp [intOf]; omega
        case false =>
          have E : Hid (stB (m + 1) (.mk 7 name args body els) = false) := st_no (hd_args (by have h1 := HA.out; rw [drop_cons hkl' HL.out, List.all_cons, he, Bool.false_and] at h1; exact h1)) _
          clear HA
          go_wp2_with fail
          go_ret
          exact RetV.mk (by rw [E.out] <;> rfl) rfl hb3
      · have HV : Hid (args.all valE = true) := by
          have h1 := HA.out
          rw [List.drop_eq_nil_of_le (by omega)] at h1
          exact h1
        clear HA
        have HD : Hid (args.all (fun e => decide ((7 : Int) = 8 → e.op = 13)) = true) := by show _ = _; rw [List.all_eq_true]; intro x _; exact decide_eq_true (by intro h; omega)
        by_cases he0 : 0 < els.length
        case pos =>
          have qe : (0 : Int) < (els.length : Int) := by omega
          have E : Hid (stB (m + 1) (.mk 7 name args body els) = false) := st_no (hd_els he0 (by omega)) _
          go_wp2_with fail
          go_ret
          exact RetV.mk (by rw [E.out] <;> rfl) rfl hb
        have qe : decide ((0 : Int) < (els.length : Int)) = false := decide_eq_false (by omega)
        by_cases hb0' : 0 < body.length
        case pos =>
          have qb : (0 : Int) < (body.length : Int) := by omega
          have E : Hid (stB (m + 1) (.mk 7 name args body els) = false) := st_no (hd_body hb0' (by omega) (by omega)) _
          go_wp2_with fail
          go_ret
          exact RetV.mk (by rw [E.out] <;> rfl) rfl hb
        have qb : decide ((0 : Int) < (body.length : Int)) = false := decide_eq_false (by omega)
        have HH : Hid (hdB 7 name args body.length els.length = true) := hd_yes (by omega) HKL.out HN.out HV.out HD.out (by omega) (by omega)
        skip
        go_wp2_with fail
        refine (ih d body _ _ lo B (Nat.le_trans hB hb.size) (h3.below hb hB)).mono ?_
        rintro e w4 ⟨rfl, x4⟩
        have hb4 : Below w.heap.size w w4 := hb.trans (x4.mono hb.size)
        have R4 := R.below x4 R.lt
        have z0 : w4.cell? ⟨w.heap.size, 0, none⟩ = some (.int .i64 7) := R4.cell 0
        have z1 : w4.cell? ⟨w.heap.size, 1, none⟩ = some (.string name) := R4.cell 1
        have z2 : w4.cell? ⟨w.heap.size, 2, none⟩ = some (.slice A2 args.length p2) := R4.cell 2
        have z3 : w4.cell? ⟨w.heap.size, 3, none⟩ = some (.slice A3 body.length p3) := R4.cell 3
        have z4 : w4.cell? ⟨w.heap.size, 4, none⟩ = some (.slice A4 els.length p4) := R4.cell 4
        cases hB1 : body.all (stB m)
        case false =>
          have E : Hid (stB (m + 1) (.mk 7 name args body els) = false) := by show _ = _; rw [stB, HH.out, hB1]; rfl
          go_wp2_with fail
          go_ret
          exact RetV.mk (by rw [E.out] <;> rfl) rfl hb4
        go_wp2_with fail
        refine (ih d els _ _ lo B (Nat.le_trans hB hb4.size) (h4.below hb4 hB)).mono ?_
        rintro e w5 ⟨rfl, x5⟩
        have hb5 : Below w.heap.size w w5 := hb4.trans (x5.mono hb4.size)
        have E : Hid (stB (m + 1) (.mk 7 name args body els) = els.all (stB m)) := by show _ = _; rw [stB, HH.out, hB1, Bool.true_and, Bool.true_and]
        go_wp2_with fail
        go_ret
        exact RetV.mk (by rw [E.out] <;> rfl) rfl hb5
  · have HKL : Hid (args.length = 1) := hlen
    clear hlen hop
    have x0 : wd.cell? ⟨w.heap.size, 0, none⟩ = some (.int .i64 8) := R0.cell 0
    have x1 : wd.cell? ⟨w.heap.size, 1, none⟩ = some (.string name) := R0.cell 1
    have x2 : wd.cell? ⟨w.heap.size, 2, none⟩ = some (.slice A2 args.length p2) := R0.cell 2
    have x3 : wd.cell? ⟨w.heap.size, 3, none⟩ = some (.slice A3 body.length p3) := R0.cell 3
    have x4 : wd.cell? ⟨w.heap.size, 4, none⟩ = some (.slice A4 els.length p4) := R0.cell 4
    go_wp2_with fail
    refine (spec_IsName name _ hnm).mono ?_
    rintro e w1 ⟨rfl, b1⟩
    have hb1 : Below w.heap.size w w1 := hb0.trans (b1.mono hb0.size)
    have R1 := R0.below b1 R0.lt
    clear x0 x1 x2 x3 x4
    have y0 : w1.cell? ⟨w.heap.size, 0, none⟩ = some (.int .i64 8) := R1.cell 0
    have y1 : w1.cell? ⟨w.heap.size, 1, none⟩ = some (.string name) := R1.cell 1
    have y2 : w1.cell? ⟨w.heap.size, 2, none⟩ = some (.slice A2 args.length p2) := R1.cell 2
    have y3 : w1.cell? ⟨w.heap.size, 3, none⟩ = some (.slice A3 body.length p3) := R1.cell 3
    have y4 : w1.cell? ⟨w.heap.size, 4, none⟩ = some (.slice A4 els.length p4) := R1.cell 4
    cases hi : isName name
    case true =>
      have E : Hid (stB (m + 1) (.mk 8 name args body els) = false) := st_no (hd_name (by unfold nmB; rw [if_neg (by omega), isName_ne hi])) _
      go_wp2_with fail
      go_ret
      exact RetV.mk (by rw [E.out] <;> rfl) rfl hb1
    cases hem : name.toList.isEmpty
    case false =>
      have hem2 : (!name.toList.isEmpty) = true := by rw [hem]; rfl
      have E : Hid (stB (m + 1) (.mk 8 name args body els) = false) := st_no (hd_name (by unfold nmB; rw [if_neg (by omega), hem])) _
      go_wp2_with fail
      go_ret
      exact RetV.mk (by rw [E.out] <;> rfl) rfl hb1
    have HN : Hid (nmB 8 name = true) := by show _ = _; unfold nmB; rw [if_neg (by omega), hem]
    go_wp2_with fail
    go_loopw [6] (fun i wr => ∃ k : Nat, k ≤ args.length ∧ i = .int .i64 k ∧ Hid (args.all valE = (args.drop k).all valE) ∧ Row wr w.heap.size 76 #[.int .i64 8, .string name, .slice A2 args.length p2, .slice A3 body.length p3, .slice A4 els.length p4] ∧ Below w.heap.size w wr) (fun i _ => args.length - (intOf i).toNat)
    case atStart => exact ⟨0, by omega, rfl, (show _ = _ from rfl), R1, hb1⟩
    case round =>
      clear y0 y1 y2 y3 y4
      obtain ⟨k, hk, rfl, HA, R, hb⟩ := hrel
      have hsz := hb.size
      have y0 : wr.cell? ⟨w.heap.size, 0, none⟩ = some (.int .i64 8) := R.cell 0
      have y1 : wr.cell? ⟨w.heap.size, 1, none⟩ = some (.string name) := R.cell 1
      have y2 : wr.cell? ⟨w.heap.size, 2, none⟩ = some (.slice A2 args.length p2) := R.cell 2
      have y3 : wr.cell? ⟨w.heap.size, 3, none⟩ = some (.slice A3 body.length p3) := R.cell 3
      have y4 : wr.cell? ⟨w.heap.size, 4, none⟩ = some (.slice A4 els.length p4) := R.cell 4
      by_cases hkl' : k < args.length
      · obtain ⟨d', rfl⟩ := exS_pos h2 (by omega)
        obtain ⟨b, o, op', n', name', kids', v', rfl, _, hbB, HL, g0, g1, g2, g3, c0, c1, c2, c3⟩ := ex_get d' (h2.below hb hB) hkl'
        obtain ⟨A', p', hf, _, _⟩ := g3.form
        change _ = Value.slice A' kids'.length p' at hf
        subst hf
        have hkn : (k : Int) < (args.length : Int) := by omega
        have hki : (0 : Int) ≤ (k : Int) := by omega
        go_wp2_with fail
        refine (spec_ExprValid d' op' n' name' kids' (.slice A' kids'.length p') _ lo B (Nat.le_trans hB hsz) g0 g1 g2 g3).mono ?_
        rintro e w3 ⟨rfl, x3⟩
        have hb3 : Below w.heap.size w w3 := hb.trans (x3.mono hsz)
        cases he : valE (.mk op' n' name' kids')
        case true =>
          have E3 : Hid (args.all valE = (args.drop (k + 1)).all valE) := by
            have h1 := HA.out
            rw [drop_cons hkl' HL.out, List.all_cons, he, Bool.true_and] at h1
            exact h1
          clear HA
          go_wp2_with fail
          go_roundw
          case rel => exact ⟨k + 1, by omega, by go_num, E3, R.below x3 R.lt, hb3⟩
          case measure => simp [intOf]; omega
        case false =>
          have E : Hid (stB (m + 1) (.mk 8 name args body els) = false) := st_no (hd_args (by have h1 := HA.out; rw [drop_cons hkl' HL.out, List.all_cons, he, Bool.false_and] at h1; exact h1)) _
          clear HA
          go_wp2_with fail
          go_ret
          exact RetV.mk (by rw [E.out] <;> rfl) rfl hb3
      · have HV : Hid (args.all valE = true) := by
          have h1 := HA.out
          rw [List.drop_eq_nil_of_le (by omega)] at h1
          exact h1
        clear HA
        obtain ⟨d', rfl⟩ := exS_pos h2 (by have := HKL.out; omega)
        obtain ⟨b, oo, op', n', name', kids', v', hA2, _, hbB, HL, g0, g1, g2, g3, c0, c1, c2, c3⟩ := ex_get d' (h2.below hb hB) (show 0 < args.length by have := HKL.out; omega)
        subst hA2
        have c0' : wr.cell? ⟨b, oo, none⟩ = some (.int .i64 op') := by simpa using c0
        have hlen0 : (0 : Int) < (args.length : Int) := by have := HKL.out; omega
        have hae : args = [.mk op' n' name' kids'] := by
          obtain ⟨a, ha⟩ : ∃ a, args = [a] := by
            match args, HKL.out with
            | [a], _ => exact ⟨a, rfl⟩
          have h1 := HL.out
          simp only [ha, List.getElem_cons_zero] at h1
          rw [ha, h1]
        have HAE := Lib.hid hae
        clear hae HL c0 c1 c2 c3
        by_cases h13 : op' = 13
        case neg =>
          have q13 : (op' != 13) = true := by simpa using h13
          have E : Hid (stB (m + 1) (.mk 8 name args body els) = false) := st_no (hd_do (by rw [HAE.out]; simp [Ex.op, h13])) _
          go_wp2_with fail
          go_ret
          exact RetV.mk (by rw [E.out] <;> rfl) rfl hb
        have q13 : (op' != 13) = false := by simpa using h13
        have HD : Hid (args.all (fun e => decide ((8 : Int) = 8 → e.op = 13)) = true) := by show _ = _; rw [HAE.out]; simp [Ex.op, h13]
        by_cases he0 : 0 < els.length
        case pos =>
          have qe : (0 : Int) < (els.length : Int) := by omega
          have E : Hid (stB (m + 1) (.mk 8 name args body els) = false) := st_no (hd_els he0 (by omega)) _
          go_wp2_with fail
          go_ret
          exact RetV.mk (by rw [E.out] <;> rfl) rfl hb
        have qe : decide ((0 : Int) < (els.length : Int)) = false := decide_eq_false (by omega)
        by_cases hb0' : 0 < body.length
        case pos =>
          have qb : (0 : Int) < (body.length : Int) := by omega
          have E : Hid (stB (m + 1) (.mk 8 name args body els) = false) := st_no (hd_body hb0' (by omega) (by omega)) _
          go_wp2_with fail
          go_ret
          exact RetV.mk (by rw [E.out] <;> rfl) rfl hb
        have qb : decide ((0 : Int) < (body.length : Int)) = false := decide_eq_false (by omega)
        have HH : Hid (hdB 8 name args body.length els.length = true) := hd_yes (by omega) HKL.out HN.out HV.out HD.out (by omega) (by omega)
        skip
        go_wp2_with fail
        refine (ih (d' + 1) body _ _ lo B (Nat.le_trans hB hb.size) (h3.below hb hB)).mono ?_
        rintro e w4 ⟨rfl, x4⟩
        have hb4 : Below w.heap.size w w4 := hb.trans (x4.mono hb.size)
        have R4 := R.below x4 R.lt
        have z0 : w4.cell? ⟨w.heap.size, 0, none⟩ = some (.int .i64 8) := R4.cell 0
        have z1 : w4.cell? ⟨w.heap.size, 1, none⟩ = some (.string name) := R4.cell 1
        have z2 : w4.cell? ⟨w.heap.size, 2, none⟩ = some (.slice (some ⟨b, oo, none⟩) args.length p2) := R4.cell 2
        have z3 : w4.cell? ⟨w.heap.size, 3, none⟩ = some (.slice A3 body.length p3) := R4.cell 3
        have z4 : w4.cell? ⟨w.heap.size, 4, none⟩ = some (.slice A4 els.length p4) := R4.cell 4
        cases hB1 : body.all (stB m)
        case false =>
          have E : Hid (stB (m + 1) (.mk 8 name args body els) = false) := by show _ = _; rw [stB, HH.out, hB1]; rfl
          go_wp2_with fail
          go_ret
          exact RetV.mk (by rw [E.out] <;> rfl) rfl hb4
        go_wp2_with fail
        refine (ih (d' + 1) els _ _ lo B (Nat.le_trans hB hb4.size) (h4.below hb4 hB)).mono ?_
        rintro e w5 ⟨rfl, x5⟩
        have hb5 : Below w.heap.size w w5 := hb4.trans (x5.mono hb4.size)
        have E : Hid (stB (m + 1) (.mk 8 name args body els) = els.all (stB m)) := by show _ = _; rw [stB, HH.out, hB1, Bool.true_and, Bool.true_and]
        go_wp2_with fail
        go_ret
        exact RetV.mk (by rw [E.out] <;> rfl) rfl hb5
theorem st_pair : ∀ m : Nat, m ≤ 1000 → StAt m
  | 0, _ => st_zero
  | m + 1, h => st_step m (by omega) (sts_of m (by omega) (st_pair m (by omega)))
theorem spec_l3Stmts (m : Nat) (h : m ≤ 1000) : StsAt m := sts_of m h (st_pair m h)
end Go.Proofs.YtbikgakoeheahaaGreatDoor
