/-
  The law FnExactPutVar. Conditions: the arguments read as data; the tables lie.
-/
import Derived.Test.YtnamciblapddbaaDoorLaws
import Derived.Test.YtnamciblapddbaaDoorMarkX
import Derived.Test.YtnamciblapddbaaDoorReg2
import Derived.Deep.DeepCutAuto
import Derived.Test.YtnamciblapddbaaDoorPutVarC
namespace Go.Proofs.YtnamciblapddbaaDoor
open Go.RowKit Go.ChangeShapes Go.WideShapes Go.Deep

set_option linter.unusedVariables false
set_option linter.unusedSimpArgs false
theorem ex_sl3 (d : Nat) {m : Bool} {w : World} {lo B : Nat} {a : Ex} {c0 c1 c2 c3 : Value} (h : (exS m (d + 1)).rep w lo B a [c0, c1, c2, c3]) : Sl m (exS m d) w lo B a.kids c3 := by
  obtain ⟨d0, d1, d2, d3, e, h0, h1, h2, h3⟩ := h
  injection e with e0 e
  injection e with e1 e
  injection e with e2 e
  injection e with e3 e
  obtain ⟨v, ev, hv⟩ := h3
  injection ev with ev
  rw [e3, ev]
  exact hv

theorem specPutVar_u (d : Nat) (op n : Int) (name : ByteArray) (kids : List Ex) (v3 : Value) (nm : ByteArray) (d' : Nat) (op' n' : Int) (name' : ByteArray) (kids' : List Ex) (v3' : Value) (w : World) (lo B lo' B' : Nat) (hB : B ≤ w.heap.size) (hB' : B' ≤ w.heap.size) (_ : name.size + (kids.length + sumBy exN kids) ≤ 1048576) (ho : I64 op) (hn : I64 n) (hnm : name.size ≤ maxLen) (h3 : Sl false (exS false d) w lo B kids v3) (_ : name'.size + (kids'.length + sumBy exN kids') ≤ 1048576) (ho' : I64 op') (hn' : I64 n') (hnm' : name'.size ≤ maxLen) (h3' : Sl false (exS false d') w lo' B' kids' v3') : Calls Tryd.prog 33 #[.agg #[.int .i64 op, .int .i64 n, .string name, v3], .string nm, .agg #[.int .i64 op', .int .i64 n', .string name', v3']] w (PairP 12 (putV (.mk op n name kids) nm (.mk op' n' name' kids')) w) := spec_PutVar d op n name kids v3 nm d' op' n' name' kids' v3' w lo B lo' B' hB hB' ho hn hnm h3 ho' hn' hnm' h3'
theorem implPutVar_u (d : Nat) (op n : Int) (name : ByteArray) (kids : List Ex) (v3 : Value) (nm : ByteArray) (d' : Nat) (op' n' : Int) (name' : ByteArray) (kids' : List Ex) (v3' : Value) (w : World) (lo B lo' B' : Nat) (hB : B ≤ w.heap.size) (hB' : B' ≤ w.heap.size) (_ : name.size + (kids.length + sumBy exN kids) ≤ 1048576) (ho : I64 op) (hn : I64 n) (hnm : name.size ≤ maxLen) (h3 : Sl false (exS false d) w lo B kids v3) (_ : name'.size + (kids'.length + sumBy exN kids') ≤ 1048576) (ho' : I64 op') (hn' : I64 n') (hnm' : name'.size ≤ maxLen) (h3' : Sl false (exS false d') w lo' B' kids' v3') (ht : Tabs w) : Calls Tryd.prog 34 #[.agg #[.int .i64 op, .int .i64 n, .string name, v3], .string nm, .agg #[.int .i64 op', .int .i64 n', .string name', v3']] w (PairP 12 (putV (.mk op n name kids) nm (.mk op' n' name' kids')) w) := impl_PutVar d op n name kids v3 nm d' op' n' name' kids' v3' w lo B lo' B' hB hB' ho hn hnm h3 ho' hn' hnm' h3' ht
theorem putV_parts (e y : Ex) (nm : ByteArray) : partsE (putV e nm y).1 ≤ 30 := by
  unfold putV
  split
  · split
    · rename_i h
      rw [valE_form, Bool.and_eq_true] at h
      exact of_decide_eq_true h.2
    · exact (by decide : partsE exZ ≤ 30)
  · exact (by decide : partsE exZ ≤ 30)
theorem law_FnExactPutVar_big (d : Nat) (op n : Int) (name : ByteArray) (kids : List Ex) (v3 : Value) (nm : ByteArray) (d' : Nat) (op' n' : Int) (name' : ByteArray) (kids' : List Ex) (v3' : Value) (w : World) (hbig : 1048576 < nm.size) (hlen : nm.size ≤ 9223372036854775807) :
    Calls Tryd.prog 10 #[.agg #[.int .i64 op, .int .i64 n, .string name, v3], .string nm, .agg #[.int .i64 op', .int .i64 n', .string name', v3']] w (Yes w) := by
  go_enter Tryd.func10, Tryd.ntmps10
  go_wp2_with fail
  go_ret
  exact ⟨rfl, ((Below.refl _ _).alloc (Nat.le_refl _) _).alloc (by simp) _⟩
set_option maxRecDepth 100000 in
set_option maxHeartbeats 8000000 in
theorem law_FnExactPutVar (d : Nat) (op n : Int) (name : ByteArray) (kids : List Ex) (v3 : Value) (nm : ByteArray) (d' : Nat) (op' n' : Int) (name' : ByteArray) (kids' : List Ex) (v3' : Value) (w : World) (h0 : I64 op) (h1 : I64 n) (h2 : name.size ≤ maxLen) (h3 : Sl false (exS false d) w 0 w.heap.size kids v3) (h0' : I64 op') (h1' : I64 n') (h2' : name'.size ≤ maxLen) (h3' : Sl false (exS false d') w 0 w.heap.size kids' v3') (hs0 : nm.size ≤ maxLen) (hbig : ¬ 1048576 < nm.size) (ht : Tabs w) :
    Calls Tryd.prog 10 #[.agg #[.int .i64 op, .int .i64 n, .string name, v3], .string nm, .agg #[.int .i64 op', .int .i64 n', .string name', v3']] w (Yes w) := by
  have hb0 : Below w.heap.size w ((w.alloc (.cells #[.int .i64 op, .int .i64 n, .string name, v3] 24)).alloc (.cells #[.int .i64 op', .int .i64 n', .string name', v3'] 24)) := ((Below.refl _ _).alloc (Nat.le_refl _) _).alloc (by simp) _
  have RL0_0 : Row ((w.alloc (.cells #[.int .i64 op, .int .i64 n, .string name, v3] 24)).alloc (.cells #[.int .i64 op', .int .i64 n', .string name', v3'] 24)) (w.heap.size) 24 #[.int .i64 op, .int .i64 n, .string name, v3] := by simpa using (Row.new (w) _ _).alloc (.cells #[.int .i64 op', .int .i64 n', .string name', v3'] 24)
  have RL1_0 : Row ((w.alloc (.cells #[.int .i64 op, .int .i64 n, .string name, v3] 24)).alloc (.cells #[.int .i64 op', .int .i64 n', .string name', v3'] 24)) (w.heap.size + 1) 24 #[.int .i64 op', .int .i64 n', .string name', v3'] := by simpa using Row.new (w.alloc (.cells #[.int .i64 op, .int .i64 n, .string name, v3] 24)) _ _
  have hlen0 : nm.size ≤ 9223372036854775807 := by have := hs0; unfold maxLen at this; omega
  have sz0 : w.heap.size + 2 = ((w.alloc (.cells #[.int .i64 op, .int .i64 n, .string name, v3] 24)).alloc (.cells #[.int .i64 op', .int .i64 n', .string name', v3'] 24)).heap.size := by simp
  go_enter Tryd.func10, Tryd.ntmps10
  go_wp2_with fail
  refine (sz_Expr d op n name kids v3 1048576 _ 0 w.heap.size (by omega) (by omega) hb0.size h0 h1 h2 (h3.below hb0 (Nat.le_refl _))).mono ?_
  rintro e ws0 ⟨r0, rfl, a0, b0, c0, e0⟩
  have hb1 : Below w.heap.size w ws0 := hb0.trans (e0.mono hb0.size)
  have sz1 : ((w.alloc (.cells #[.int .i64 op, .int .i64 n, .string name, v3] 24)).alloc (.cells #[.int .i64 op', .int .i64 n', .string name', v3'] 24)).heap.size ≤ ws0.heap.size := e0.size
  have RL0_1 : Row (ws0) (w.heap.size) 24 #[.int .i64 op, .int .i64 n, .string name, v3] := RL0_0.below e0 RL0_0.lt
  have RL1_1 : Row (ws0) (w.heap.size + 1) 24 #[.int .i64 op', .int .i64 n', .string name', v3'] := RL1_0.below e0 RL1_0.lt
  clear RL0_0 RL1_0
  have C0 := Lib.hid c0
  clear c0
  by_cases hr0 : r0 < 0
  · go_wp2_with fail
    go_ret
    exact ⟨rfl, hb1⟩
  have hN0 : name.size + (kids.length + sumBy exN kids) ≤ 1048576 := by
    have := C0.out (by omega)
    omega
  have hr0' : 0 ≤ r0 := by omega
  clear C0
  have yL10_1 : (ws0).cell? ⟨w.heap.size + 1, 0, none⟩ = some (.int .i64 op') := RL1_1.cell 0
  have yL11_1 : (ws0).cell? ⟨w.heap.size + 1, 1, none⟩ = some (.int .i64 n') := RL1_1.cell 1
  have yL12_1 : (ws0).cell? ⟨w.heap.size + 1, 2, none⟩ = some (.string name') := RL1_1.cell 2
  have yL13_1 : (ws0).cell? ⟨w.heap.size + 1, 3, none⟩ = some (v3') := RL1_1.cell 3
  go_wp2_with fail
  refine (sz_Expr d' op' n' name' kids' v3' r0 _ 0 w.heap.size (by omega) (by omega) hb1.size h0' h1' h2' (h3'.below hb1 (Nat.le_refl _))).mono ?_
  rintro e ws1 ⟨r1, rfl, a1, b1, c1, e1⟩
  have hb2 : Below w.heap.size w ws1 := hb1.trans (e1.mono hb1.size)
  have sz2 : (ws0).heap.size ≤ ws1.heap.size := e1.size
  have RL0_2 : Row (ws1) (w.heap.size) 24 #[.int .i64 op, .int .i64 n, .string name, v3] := RL0_1.below e1 RL0_1.lt
  have RL1_2 : Row (ws1) (w.heap.size + 1) 24 #[.int .i64 op', .int .i64 n', .string name', v3'] := RL1_1.below e1 RL1_1.lt
  clear yL10_1 yL11_1 yL12_1 yL13_1
  clear RL0_1 RL1_1
  have C1 := Lib.hid c1
  clear c1
  by_cases hr1 : r1 < 0
  · go_wp2_with fail
    go_ret
    exact ⟨rfl, hb2⟩
  have hN1 : name'.size + (kids'.length + sumBy exN kids') ≤ 1048576 := by
    have := C1.out (by omega)
    omega
  have hr1' : 0 ≤ r1 := by omega
  clear C1
  clear a0 b0 a1 b1
  obtain ⟨zop, zn, znm, zk, rb, hR⟩ : ∃ (zop zn : Int) (znm : ByteArray) (zk : List Ex) (rb : Bool), (putV (.mk op n name kids) nm (.mk op' n' name' kids')) = (.mk zop zn znm zk, rb) := by
    cases hq : (putV (.mk op n name kids) nm (.mk op' n' name' kids')) with
    | mk x y => cases x with
      | mk a b c d => exact ⟨a, b, c, d, y, rfl⟩
  have hzp : partsL zk ≤ 100 := by
    have h1 := putV_parts (.mk op n name kids) (.mk op' n' name' kids') nm
    rw [hR] at h1
    change partsE (.mk zop zn znm zk) ≤ 30 at h1
    rw [partsE_mk] at h1
    omega
  replace hR := Lib.hid hR
  have hPL0 : partsL kids ≤ 1048576 := by
    have h1 := partsL_le kids
    rw [exNs_eq] at h1
    omega
  have hPL1 : partsL kids' ≤ 1048576 := by
    have h1 := partsL_le kids'
    rw [exNs_eq] at h1
    omega
  go_wp2_with fail
  go_cut [8, 9] (fun sp sb wxr => ∃ (g lo hi : Nat) (Az : Option Addr) (pz : Nat), sp = .pointer (some ⟨g, 0, none⟩) ∧ sb = .bool rb ∧ Row wxr g 30 #[.int .i64 zop, .int .i64 zn, .string znm, .slice Az zk.length pz] ∧ (g < lo ∨ hi ≤ g) ∧ ws1.heap.size ≤ g ∧ ws1.heap.size ≤ lo ∧ hi ≤ wxr.heap.size ∧ SlT false (exT false 12) wxr lo hi zk (.slice Az zk.length pz) ∧ SlT true (exT true 12) wxr lo hi zk (.slice Az zk.length pz) ∧ Below ws1.heap.size ws1 wxr)
  case first =>
    have bp0 : Below ws1.heap.size ws1 ws1.drew := (Below.refl _ _).drew
    have hbd3 : Below w.heap.size w ws1.drew := hb2.drew
    have RL0_3 : Row (ws1.drew) (w.heap.size) 24 #[.int .i64 op, .int .i64 n, .string name, v3] := RL0_2.drew
    have RL1_3 : Row (ws1.drew) (w.heap.size + 1) 24 #[.int .i64 op', .int .i64 n', .string name', v3'] := RL1_2.drew
    have szd3 : ws1.heap.size ≤ ws1.drew.heap.size := Nat.le_refl _
    have yL00_3 : (ws1.drew).cell? ⟨w.heap.size, 0, none⟩ = some (.int .i64 op) := RL0_3.cell 0
    have yL01_3 : (ws1.drew).cell? ⟨w.heap.size, 1, none⟩ = some (.int .i64 n) := RL0_3.cell 1
    have yL02_3 : (ws1.drew).cell? ⟨w.heap.size, 2, none⟩ = some (.string name) := RL0_3.cell 2
    have yL03_3 : (ws1.drew).cell? ⟨w.heap.size, 3, none⟩ = some (v3) := RL0_3.cell 3
    have yL10_3 : (ws1.drew).cell? ⟨w.heap.size + 1, 0, none⟩ = some (.int .i64 op') := RL1_3.cell 0
    have yL11_3 : (ws1.drew).cell? ⟨w.heap.size + 1, 1, none⟩ = some (.int .i64 n') := RL1_3.cell 1
    have yL12_3 : (ws1.drew).cell? ⟨w.heap.size + 1, 2, none⟩ = some (.string name') := RL1_3.cell 2
    have yL13_3 : (ws1.drew).cell? ⟨w.heap.size + 1, 3, none⟩ = some (v3') := RL1_3.cell 3
    refine wp_region_held_drew (S := fun w' => (w'.cell? ⟨w.heap.size, 0, none⟩ = some (.int .i64 op) ∧ w'.cell? ⟨w.heap.size, 1, none⟩ = some (.int .i64 n) ∧ w'.cell? ⟨w.heap.size, 2, none⟩ = some (.string name) ∧ w'.cell? ⟨w.heap.size, 3, none⟩ = some (v3) ∧ w'.cell? ⟨w.heap.size + 1, 0, none⟩ = some (.int .i64 op') ∧ w'.cell? ⟨w.heap.size + 1, 1, none⟩ = some (.int .i64 n') ∧ w'.cell? ⟨w.heap.size + 1, 2, none⟩ = some (.string name') ∧ w'.cell? ⟨w.heap.size + 1, 3, none⟩ = some (v3'))) (by kernel_rfl) ?_ (fun hHeld => ?_)
    · ((try dsimp only); refine ⟨?_, ?_, ?_, ?_, ?_, ?_, ?_, ?_⟩ <;> assumption)
    refine reg_take (i := 0) (v := ?v1) rfl (by kernel_rfl) (by kernel_rfl) (by kernel_rfl) (fun _ _ _ h => h) (Or.inl ⟨by kernel_rfl, ?h1⟩) (by assumption) ?r1
    case h1 => (intro w hSw; (try dsimp only at hSw); go_simp; try with_reducible rfl)
    try simp only [Act.put, List.setIfInBounds_toArray, List.set_cons_zero, List.set_cons_succ]
    refine reg_take (i := 2) (v := ?v2) rfl (by kernel_rfl) (by kernel_rfl) (by kernel_rfl) (fun _ _ _ h => h) (Or.inl ⟨by kernel_rfl, ?h2⟩) (by assumption) ?r2
    case h2 => (intro w hSw; (try dsimp only at hSw); go_simp; try with_reducible rfl)
    try simp only [Act.put, List.setIfInBounds_toArray, List.set_cons_zero, List.set_cons_succ]
    refine reg_take (i := 3) (v := ?v3) rfl (by kernel_rfl) (by kernel_rfl) (by kernel_rfl) (fun _ _ _ h => h) (Or.inl ⟨by kernel_rfl, ?h3⟩) (by assumption) ?r3
    case h3 => (intro w hSw; (try dsimp only at hSw); go_simp; try with_reducible rfl)
    try simp only [Act.put, List.setIfInBounds_toArray, List.set_cons_zero, List.set_cons_succ]
    refine reg_call2 (i := 1) (j := 9) (by kernel_rfl) rfl rfl (fun K hK => ?_) (fun K hK => ?_)
    · go_simp
      refine (to_Expr d op n name kids v3 ws1.drew 0 w.heap.size hbd3.size hN0 h0 h1 h2 (h3.below hbd3 (Nat.le_refl _))).mono ?_
      rintro e ur0_4 ⟨cs, rfl, hx, eur0_4⟩
      obtain ⟨xar0_4, hcs, -, -, -, qar0_4⟩ := ex_open d (hx false)
      change _ = [.int .i64 op, .int .i64 n, .string name, xar0_4] at hcs
      subst hcs
      clear hx
      obtain ⟨Aar0_4, par0_4, hf, _, _⟩ := qar0_4.form
      change _ = Value.slice Aar0_4 kids.length par0_4 at hf
      subst hf
      have bp5 : Below ws1.heap.size ws1 ur0_4 := bp0.trans (eur0_4.mono bp0.size)
      have hb6 : Below w.heap.size w ur0_4 := hbd3.trans (eur0_4.mono hbd3.size)
      have sz6 : (ws1.drew).heap.size ≤ ur0_4.heap.size := eur0_4.size
      have RL0_6 : Row (ur0_4) (w.heap.size) 24 #[.int .i64 op, .int .i64 n, .string name, v3] := RL0_3.below eur0_4 RL0_3.lt
      have RL1_6 : Row (ur0_4) (w.heap.size + 1) 24 #[.int .i64 op', .int .i64 n', .string name', v3'] := RL1_3.below eur0_4 RL1_3.lt
      clear yL00_3 yL01_3 yL02_3 yL03_3 yL10_3 yL11_3 yL12_3 yL13_3
      clear RL0_3 RL1_3
      have yL00_6 : (ur0_4).cell? ⟨w.heap.size, 0, none⟩ = some (.int .i64 op) := RL0_6.cell 0
      have yL01_6 : (ur0_4).cell? ⟨w.heap.size, 1, none⟩ = some (.int .i64 n) := RL0_6.cell 1
      have yL02_6 : (ur0_4).cell? ⟨w.heap.size, 2, none⟩ = some (.string name) := RL0_6.cell 2
      have yL03_6 : (ur0_4).cell? ⟨w.heap.size, 3, none⟩ = some (v3) := RL0_6.cell 3
      have yL10_6 : (ur0_4).cell? ⟨w.heap.size + 1, 0, none⟩ = some (.int .i64 op') := RL1_6.cell 0
      have yL11_6 : (ur0_4).cell? ⟨w.heap.size + 1, 1, none⟩ = some (.int .i64 n') := RL1_6.cell 1
      have yL12_6 : (ur0_4).cell? ⟨w.heap.size + 1, 2, none⟩ = some (.string name') := RL1_6.cell 2
      have yL13_6 : (ur0_4).cell? ⟨w.heap.size + 1, 3, none⟩ = some (v3') := RL1_6.cell 3
      refine hK.out _ _ ?_ (fun hHeld => ?_)
      · ((try dsimp only); refine ⟨?_, ?_, ?_, ?_, ?_, ?_, ?_, ?_⟩ <;> assumption)
      clear hK K
      try simp only [Act.put, List.setIfInBounds_toArray, List.set_cons_zero, List.set_cons_succ]
      refine reg_call2 (i := 4) (j := 9) (by kernel_rfl) rfl rfl (fun K hK => ?_) (fun K hK => ?_)
      · go_simp
        refine (to_Expr d' op' n' name' kids' v3' ur0_4 0 w.heap.size hb6.size hN1 h0' h1' h2' (h3'.below hb6 (Nat.le_refl _))).mono ?_
        rintro e ur1_7 ⟨cs, rfl, hx, eur1_7⟩
        obtain ⟨xar1_7, hcs, -, -, -, qar1_7⟩ := ex_open d' (hx false)
        change _ = [.int .i64 op', .int .i64 n', .string name', xar1_7] at hcs
        subst hcs
        clear hx
        obtain ⟨Aar1_7, par1_7, hf, _, _⟩ := qar1_7.form
        change _ = Value.slice Aar1_7 kids'.length par1_7 at hf
        subst hf
        have bp8 : Below ws1.heap.size ws1 ur1_7 := bp5.trans (eur1_7.mono bp5.size)
        have hb9 : Below w.heap.size w ur1_7 := hb6.trans (eur1_7.mono hb6.size)
        have sz9 : (ur0_4).heap.size ≤ ur1_7.heap.size := eur1_7.size
        have RL0_9 : Row (ur1_7) (w.heap.size) 24 #[.int .i64 op, .int .i64 n, .string name, v3] := RL0_6.below eur1_7 RL0_6.lt
        have RL1_9 : Row (ur1_7) (w.heap.size + 1) 24 #[.int .i64 op', .int .i64 n', .string name', v3'] := RL1_6.below eur1_7 RL1_6.lt
        have Xa0_9 : Sl false (exS false d) (ur1_7) ws1.drew.heap.size ur0_4.heap.size kids (.slice Aar0_4 kids.length par0_4) := qar0_4.below eur1_7 (by first | omega | (simp; omega) | (simp at *; omega))
        clear yL00_6 yL01_6 yL02_6 yL03_6 yL10_6 yL11_6 yL12_6 yL13_6
        clear RL0_6 RL1_6 qar0_4
        have yL00_9 : (ur1_7).cell? ⟨w.heap.size, 0, none⟩ = some (.int .i64 op) := RL0_9.cell 0
        have yL01_9 : (ur1_7).cell? ⟨w.heap.size, 1, none⟩ = some (.int .i64 n) := RL0_9.cell 1
        have yL02_9 : (ur1_7).cell? ⟨w.heap.size, 2, none⟩ = some (.string name) := RL0_9.cell 2
        have yL03_9 : (ur1_7).cell? ⟨w.heap.size, 3, none⟩ = some (v3) := RL0_9.cell 3
        have yL10_9 : (ur1_7).cell? ⟨w.heap.size + 1, 0, none⟩ = some (.int .i64 op') := RL1_9.cell 0
        have yL11_9 : (ur1_7).cell? ⟨w.heap.size + 1, 1, none⟩ = some (.int .i64 n') := RL1_9.cell 1
        have yL12_9 : (ur1_7).cell? ⟨w.heap.size + 1, 2, none⟩ = some (.string name') := RL1_9.cell 2
        have yL13_9 : (ur1_7).cell? ⟨w.heap.size + 1, 3, none⟩ = some (v3') := RL1_9.cell 3
        refine hK.out _ _ ?_ (fun hHeld => ?_)
        · ((try dsimp only); refine ⟨?_, ?_, ?_, ?_, ?_, ?_, ?_, ?_⟩ <;> assumption)
        clear hK K
        try simp only [Act.put, List.setIfInBounds_toArray, List.set_cons_zero, List.set_cons_succ]
        refine reg_call2 (i := 5) (j := 9) (by kernel_rfl) rfl rfl (fun K hK => ?_) (fun K hK => ?_)
        · go_simp
          refine (specPutVar_u d op n name kids (.slice Aar0_4 kids.length par0_4) nm d' op' n' name' kids' (.slice Aar1_7 kids'.length par1_7) ur1_7 ws1.drew.heap.size ur0_4.heap.size ur0_4.heap.size ur1_7.heap.size (by omega) (by omega) hN0 h0 h1 h2 Xa0_9 hN1 h0' h1' h2' qar1_7).mono ?_
          rintro e vr_10 ⟨v3', he, hx, evr_10⟩
          rw [hR.out] at he hx
          obtain ⟨Ar_10, pr_10, hw, _, _⟩ := (exT_kids 12 (hx false)).form
          change _ = Value.slice Ar_10 zk.length pr_10 at hw
          subst hw
          change _ = Ending.returned (.tuple #[.agg #[.int .i64 zop, .int .i64 zn, .string znm, .slice Ar_10 zk.length pr_10], .bool rb]) at he
          subst he
          have qzr_10 := exT_kids 12 (hx false)
          change SlT false (exT false 12) vr_10 ur1_7.heap.size vr_10.heap.size zk (.slice Ar_10 zk.length pr_10) at qzr_10
          have tzr_10 := exT_kids 12 (hx true)
          change SlT true (exT true 12) vr_10 ur1_7.heap.size vr_10.heap.size zk (.slice Ar_10 zk.length pr_10) at tzr_10
          clear hx
          have bp11 : Below ws1.heap.size ws1 vr_10 := bp8.trans (evr_10.mono bp8.size)
          have hb12 : Below w.heap.size w vr_10 := hb9.trans (evr_10.mono hb9.size)
          have sz12 : (ur1_7).heap.size ≤ vr_10.heap.size := evr_10.size
          have RL0_12 : Row (vr_10) (w.heap.size) 24 #[.int .i64 op, .int .i64 n, .string name, v3] := RL0_9.below evr_10 RL0_9.lt
          have RL1_12 : Row (vr_10) (w.heap.size + 1) 24 #[.int .i64 op', .int .i64 n', .string name', v3'] := RL1_9.below evr_10 RL1_9.lt
          clear yL00_9 yL01_9 yL02_9 yL03_9 yL10_9 yL11_9 yL12_9 yL13_9
          clear RL0_9 RL1_9
          have yL00_12 : (vr_10).cell? ⟨w.heap.size, 0, none⟩ = some (.int .i64 op) := RL0_12.cell 0
          have yL01_12 : (vr_10).cell? ⟨w.heap.size, 1, none⟩ = some (.int .i64 n) := RL0_12.cell 1
          have yL02_12 : (vr_10).cell? ⟨w.heap.size, 2, none⟩ = some (.string name) := RL0_12.cell 2
          have yL03_12 : (vr_10).cell? ⟨w.heap.size, 3, none⟩ = some (v3) := RL0_12.cell 3
          have yL10_12 : (vr_10).cell? ⟨w.heap.size + 1, 0, none⟩ = some (.int .i64 op') := RL1_12.cell 0
          have yL11_12 : (vr_10).cell? ⟨w.heap.size + 1, 1, none⟩ = some (.int .i64 n') := RL1_12.cell 1
          have yL12_12 : (vr_10).cell? ⟨w.heap.size + 1, 2, none⟩ = some (.string name') := RL1_12.cell 2
          have yL13_12 : (vr_10).cell? ⟨w.heap.size + 1, 3, none⟩ = some (v3') := RL1_12.cell 3
          refine hK.out _ _ ?_ (fun hHeld => ?_)
          · ((try dsimp only); refine ⟨?_, ?_, ?_, ?_, ?_, ?_, ?_, ?_⟩ <;> assumption)
          clear hK K
          try simp only [Act.put, List.setIfInBounds_toArray, List.set_cons_zero, List.set_cons_succ]
          refine reg_take (i := 6) (v := ?v4) rfl (by kernel_rfl) (by kernel_rfl) (by kernel_rfl) (fun _ _ _ h => h) (Or.inl ⟨by kernel_rfl, ?h4⟩) (by assumption) ?r4
          case h4 => (intro w hSw; (try dsimp only at hSw); go_simp; try with_reducible rfl)
          try simp only [Act.put, List.setIfInBounds_toArray, List.set_cons_zero, List.set_cons_succ]
          refine reg_take (i := 7) (v := ?v5) rfl (by kernel_rfl) (by kernel_rfl) (by kernel_rfl) (fun _ _ _ h => h) (Or.inl ⟨by kernel_rfl, ?h5⟩) (by assumption) ?r5
          case h5 => (intro w hSw; (try dsimp only at hSw); go_simp; try with_reducible rfl)
          try simp only [Act.put, List.setIfInBounds_toArray, List.set_cons_zero, List.set_cons_succ]
          refine reg_take (i := 8) (v := ?v6) rfl (by kernel_rfl) (by kernel_rfl) (by kernel_rfl) (fun _ _ _ h => h) (Or.inl ⟨by kernel_rfl, ?h6⟩) (by assumption) ?r6
          case h6 => (intro w hSw; (try dsimp only at hSw); go_simp; try with_reducible rfl)
          try simp only [Act.put, List.setIfInBounds_toArray, List.set_cons_zero, List.set_cons_succ]
          refine reg_call (i := 9) (by kernel_rfl) rfl (fun K hK => ?_)
          go_simp
          have PVL0 := RL0_12
          have PVL1 := RL1_12
          have hb13 : Below w.heap.size w (vr_10.alloc (.cells #[.int .i64 0, .int .i64 0, .string ⟨#[]⟩, .slice none 0 0] 30)) := hb12.alloc hb12.size _
          have sz13 : vr_10.heap.size < (vr_10.alloc (.cells #[.int .i64 0, .int .i64 0, .string ⟨#[]⟩, .slice none 0 0] 30)).heap.size := by simp
          have RL0_13 : Row (vr_10.alloc (.cells #[.int .i64 0, .int .i64 0, .string ⟨#[]⟩, .slice none 0 0] 30)) (w.heap.size) 24 #[.int .i64 op, .int .i64 n, .string name, v3] := RL0_12.alloc _
          have RL1_13 : Row (vr_10.alloc (.cells #[.int .i64 0, .int .i64 0, .string ⟨#[]⟩, .slice none 0 0] 30)) (w.heap.size + 1) 24 #[.int .i64 op', .int .i64 n', .string name', v3'] := RL1_12.alloc _
          clear yL00_12 yL01_12 yL02_12 yL03_12 yL10_12 yL11_12 yL12_12 yL13_12
          clear RL0_12 RL1_12
          have RN_13 : Row (vr_10.alloc (.cells #[.int .i64 0, .int .i64 0, .string ⟨#[]⟩, .slice none 0 0] 30)) vr_10.heap.size 30 #[.int .i64 0, .int .i64 0, .string ⟨#[]⟩, .slice none 0 0] := Row.new _ _ _
          have bp14 : Below ws1.heap.size ws1 (vr_10.alloc (.cells #[.int .i64 0, .int .i64 0, .string ⟨#[]⟩, .slice none 0 0] 30)) := bp11.alloc bp11.size _
          have yL00_14 : (vr_10.alloc (.cells #[.int .i64 0, .int .i64 0, .string ⟨#[]⟩, .slice none 0 0] 30)).cell? ⟨w.heap.size, 0, none⟩ = some (.int .i64 op) := RL0_13.cell 0
          have yL01_14 : (vr_10.alloc (.cells #[.int .i64 0, .int .i64 0, .string ⟨#[]⟩, .slice none 0 0] 30)).cell? ⟨w.heap.size, 1, none⟩ = some (.int .i64 n) := RL0_13.cell 1
          have yL02_14 : (vr_10.alloc (.cells #[.int .i64 0, .int .i64 0, .string ⟨#[]⟩, .slice none 0 0] 30)).cell? ⟨w.heap.size, 2, none⟩ = some (.string name) := RL0_13.cell 2
          have yL03_14 : (vr_10.alloc (.cells #[.int .i64 0, .int .i64 0, .string ⟨#[]⟩, .slice none 0 0] 30)).cell? ⟨w.heap.size, 3, none⟩ = some (v3) := RL0_13.cell 3
          have yL10_14 : (vr_10.alloc (.cells #[.int .i64 0, .int .i64 0, .string ⟨#[]⟩, .slice none 0 0] 30)).cell? ⟨w.heap.size + 1, 0, none⟩ = some (.int .i64 op') := RL1_13.cell 0
          have yL11_14 : (vr_10.alloc (.cells #[.int .i64 0, .int .i64 0, .string ⟨#[]⟩, .slice none 0 0] 30)).cell? ⟨w.heap.size + 1, 1, none⟩ = some (.int .i64 n') := RL1_13.cell 1
          have yL12_14 : (vr_10.alloc (.cells #[.int .i64 0, .int .i64 0, .string ⟨#[]⟩, .slice none 0 0] 30)).cell? ⟨w.heap.size + 1, 2, none⟩ = some (.string name') := RL1_13.cell 2
          have yL13_14 : (vr_10.alloc (.cells #[.int .i64 0, .int .i64 0, .string ⟨#[]⟩, .slice none 0 0] 30)).cell? ⟨w.heap.size + 1, 3, none⟩ = some (v3') := RL1_13.cell 3
          refine hK.out _ _ ?_ (fun hHeld => ?_)
          · ((try dsimp only); refine ⟨?_, ?_, ?_, ?_, ?_, ?_, ?_, ?_⟩ <;> assumption)
          clear hK K
          try simp only [Act.put, List.setIfInBounds_toArray, List.set_cons_zero, List.set_cons_succ]
          clear yL00_14 yL01_14 yL02_14 yL03_14 yL10_14 yL11_14 yL12_14 yL13_14
          have yN0_14 : (vr_10.alloc (.cells #[.int .i64 0, .int .i64 0, .string ⟨#[]⟩, .slice none 0 0] 30)).cell? ⟨vr_10.heap.size, 0, none⟩ = some (.int .i64 0) := RN_13.cell 0
          have yN1_14 : (vr_10.alloc (.cells #[.int .i64 0, .int .i64 0, .string ⟨#[]⟩, .slice none 0 0] 30)).cell? ⟨vr_10.heap.size, 1, none⟩ = some (.int .i64 0) := RN_13.cell 1
          have yN2_14 : (vr_10.alloc (.cells #[.int .i64 0, .int .i64 0, .string ⟨#[]⟩, .slice none 0 0] 30)).cell? ⟨vr_10.heap.size, 2, none⟩ = some (.string ⟨#[]⟩) := RN_13.cell 2
          have yN3_14 : (vr_10.alloc (.cells #[.int .i64 0, .int .i64 0, .string ⟨#[]⟩, .slice none 0 0] 30)).cell? ⟨vr_10.heap.size, 3, none⟩ = some (.slice none 0 0) := RN_13.cell 3
          have nf0 : (vr_10.alloc (.cells #[.int .i64 0, .int .i64 0, .string ⟨#[]⟩, .slice none 0 0] 30)).frozen? ⟨vr_10.heap.size, 0, none⟩ = false := RN_13.frozen 0
          have nf1 : (vr_10.alloc (.cells #[.int .i64 0, .int .i64 0, .string ⟨#[]⟩, .slice none 0 0] 30)).frozen? ⟨vr_10.heap.size, 1, none⟩ = false := RN_13.frozen 1
          have nf2 : (vr_10.alloc (.cells #[.int .i64 0, .int .i64 0, .string ⟨#[]⟩, .slice none 0 0] 30)).frozen? ⟨vr_10.heap.size, 2, none⟩ = false := RN_13.frozen 2
          have nf3 : (vr_10.alloc (.cells #[.int .i64 0, .int .i64 0, .string ⟨#[]⟩, .slice none 0 0] 30)).frozen? ⟨vr_10.heap.size, 3, none⟩ = false := RN_13.frozen 3
          refine reg_call (i := 10) (by kernel_rfl) rfl (fun K hK => ?_)
          go_simp
          clear yN0_14 yN1_14 yN2_14 yN3_14
          clear nf0 nf1 nf2 nf3
          have FL0 : Row (vr_10.alloc (.cells #[.int .i64 zop, .int .i64 zn, .string znm, .slice Ar_10 zk.length pr_10] 30)) (w.heap.size) 24 #[.int .i64 op, .int .i64 n, .string name, v3] := PVL0.alloc _
          have FL1 : Row (vr_10.alloc (.cells #[.int .i64 zop, .int .i64 zn, .string znm, .slice Ar_10 zk.length pr_10] 30)) (w.heap.size + 1) 24 #[.int .i64 op', .int .i64 n', .string name', v3'] := PVL1.alloc _
          have yfL00 : (vr_10.alloc (.cells #[.int .i64 zop, .int .i64 zn, .string znm, .slice Ar_10 zk.length pr_10] 30)).cell? ⟨w.heap.size, 0, none⟩ = some (.int .i64 op) := FL0.cell 0
          have yfL01 : (vr_10.alloc (.cells #[.int .i64 zop, .int .i64 zn, .string znm, .slice Ar_10 zk.length pr_10] 30)).cell? ⟨w.heap.size, 1, none⟩ = some (.int .i64 n) := FL0.cell 1
          have yfL02 : (vr_10.alloc (.cells #[.int .i64 zop, .int .i64 zn, .string znm, .slice Ar_10 zk.length pr_10] 30)).cell? ⟨w.heap.size, 2, none⟩ = some (.string name) := FL0.cell 2
          have yfL03 : (vr_10.alloc (.cells #[.int .i64 zop, .int .i64 zn, .string znm, .slice Ar_10 zk.length pr_10] 30)).cell? ⟨w.heap.size, 3, none⟩ = some (v3) := FL0.cell 3
          have yfL10 : (vr_10.alloc (.cells #[.int .i64 zop, .int .i64 zn, .string znm, .slice Ar_10 zk.length pr_10] 30)).cell? ⟨w.heap.size + 1, 0, none⟩ = some (.int .i64 op') := FL1.cell 0
          have yfL11 : (vr_10.alloc (.cells #[.int .i64 zop, .int .i64 zn, .string znm, .slice Ar_10 zk.length pr_10] 30)).cell? ⟨w.heap.size + 1, 1, none⟩ = some (.int .i64 n') := FL1.cell 1
          have yfL12 : (vr_10.alloc (.cells #[.int .i64 zop, .int .i64 zn, .string znm, .slice Ar_10 zk.length pr_10] 30)).cell? ⟨w.heap.size + 1, 2, none⟩ = some (.string name') := FL1.cell 2
          have yfL13 : (vr_10.alloc (.cells #[.int .i64 zop, .int .i64 zn, .string znm, .slice Ar_10 zk.length pr_10] 30)).cell? ⟨w.heap.size + 1, 3, none⟩ = some (v3') := FL1.cell 3
          refine hK.out _ _ ?_ (fun hHeld => ?_)
          · exact ⟨yfL00, yfL01, yfL02, yfL03, yfL10, yfL11, yfL12, yfL13⟩
          clear hK K
          try simp only [Act.put, List.setIfInBounds_toArray, List.set_cons_zero, List.set_cons_succ]
          refine reg_take (i := 11) (v := ?v7) rfl (by kernel_rfl) (by kernel_rfl) (by kernel_rfl) (fun _ _ _ h => h) (Or.inl ⟨by kernel_rfl, ?h7⟩) (by assumption) ?r7
          case h7 => (intro w hSw; (try dsimp only at hSw); go_simp; try with_reducible rfl)
          try simp only [Act.put, List.setIfInBounds_toArray, List.set_cons_zero, List.set_cons_succ]
          refine wpAnyH_done (by kernel_rfl) ?_ _
          go_wp2_with fail
          go_meet
          exact ⟨vr_10.heap.size, ur1_7.heap.size, vr_10.heap.size, Ar_10, pr_10, rfl, rfl, Row.new _ _ _, by first | (left; omega) | (right; omega) | (left; simp; omega) | (right; simp; omega), by first | omega | (simp; omega), by first | omega | (simp; omega), (by simp), qzr_10.keep (Nat.le_refl _) (Nat.le_refl _) (fun b h1 h2 => Below.heap_alloc _ _ b (by omega)), tzr_10.keep (Nat.le_refl _) (Nat.le_refl _) (fun b h1 h2 => Below.heap_alloc _ _ b (by omega)), bp11.alloc bp11.size _⟩
        · go_simp
          have PVL0 := RL0_9
          have PVL1 := RL1_9
          have hb10 : Below w.heap.size w (ur1_7.alloc (.cells #[.int .i64 0, .int .i64 0, .string ⟨#[]⟩, .slice none 0 0] 30)) := hb9.alloc hb9.size _
          have sz10 : ur1_7.heap.size < (ur1_7.alloc (.cells #[.int .i64 0, .int .i64 0, .string ⟨#[]⟩, .slice none 0 0] 30)).heap.size := by simp
          have RL0_10 : Row (ur1_7.alloc (.cells #[.int .i64 0, .int .i64 0, .string ⟨#[]⟩, .slice none 0 0] 30)) (w.heap.size) 24 #[.int .i64 op, .int .i64 n, .string name, v3] := RL0_9.alloc _
          have RL1_10 : Row (ur1_7.alloc (.cells #[.int .i64 0, .int .i64 0, .string ⟨#[]⟩, .slice none 0 0] 30)) (w.heap.size + 1) 24 #[.int .i64 op', .int .i64 n', .string name', v3'] := RL1_9.alloc _
          have Xa0_10 : Sl false (exS false d) (ur1_7.alloc (.cells #[.int .i64 0, .int .i64 0, .string ⟨#[]⟩, .slice none 0 0] 30)) ws1.drew.heap.size ur0_4.heap.size kids (.slice Aar0_4 kids.length par0_4) := Xa0_9.keep (Nat.le_refl _) (Nat.le_refl _) (fun b h1 h2 => Below.heap_alloc _ _ b (by omega))
          have Xa1_10 : Sl false (exS false d') (ur1_7.alloc (.cells #[.int .i64 0, .int .i64 0, .string ⟨#[]⟩, .slice none 0 0] 30)) ur0_4.heap.size ur1_7.heap.size kids' (.slice Aar1_7 kids'.length par1_7) := qar1_7.keep (Nat.le_refl _) (Nat.le_refl _) (fun b h1 h2 => Below.heap_alloc _ _ b (by omega))
          clear yL00_9 yL01_9 yL02_9 yL03_9 yL10_9 yL11_9 yL12_9 yL13_9
          clear RL0_9 RL1_9 Xa0_9 qar1_7
          have RN_10 : Row (ur1_7.alloc (.cells #[.int .i64 0, .int .i64 0, .string ⟨#[]⟩, .slice none 0 0] 30)) ur1_7.heap.size 30 #[.int .i64 0, .int .i64 0, .string ⟨#[]⟩, .slice none 0 0] := Row.new _ _ _
          have bp11 : Below ws1.heap.size ws1 (ur1_7.alloc (.cells #[.int .i64 0, .int .i64 0, .string ⟨#[]⟩, .slice none 0 0] 30)) := bp8.alloc bp8.size _
          have yL00_11 : (ur1_7.alloc (.cells #[.int .i64 0, .int .i64 0, .string ⟨#[]⟩, .slice none 0 0] 30)).cell? ⟨w.heap.size, 0, none⟩ = some (.int .i64 op) := RL0_10.cell 0
          have yL01_11 : (ur1_7.alloc (.cells #[.int .i64 0, .int .i64 0, .string ⟨#[]⟩, .slice none 0 0] 30)).cell? ⟨w.heap.size, 1, none⟩ = some (.int .i64 n) := RL0_10.cell 1
          have yL02_11 : (ur1_7.alloc (.cells #[.int .i64 0, .int .i64 0, .string ⟨#[]⟩, .slice none 0 0] 30)).cell? ⟨w.heap.size, 2, none⟩ = some (.string name) := RL0_10.cell 2
          have yL03_11 : (ur1_7.alloc (.cells #[.int .i64 0, .int .i64 0, .string ⟨#[]⟩, .slice none 0 0] 30)).cell? ⟨w.heap.size, 3, none⟩ = some (v3) := RL0_10.cell 3
          have yL10_11 : (ur1_7.alloc (.cells #[.int .i64 0, .int .i64 0, .string ⟨#[]⟩, .slice none 0 0] 30)).cell? ⟨w.heap.size + 1, 0, none⟩ = some (.int .i64 op') := RL1_10.cell 0
          have yL11_11 : (ur1_7.alloc (.cells #[.int .i64 0, .int .i64 0, .string ⟨#[]⟩, .slice none 0 0] 30)).cell? ⟨w.heap.size + 1, 1, none⟩ = some (.int .i64 n') := RL1_10.cell 1
          have yL12_11 : (ur1_7.alloc (.cells #[.int .i64 0, .int .i64 0, .string ⟨#[]⟩, .slice none 0 0] 30)).cell? ⟨w.heap.size + 1, 2, none⟩ = some (.string name') := RL1_10.cell 2
          have yL13_11 : (ur1_7.alloc (.cells #[.int .i64 0, .int .i64 0, .string ⟨#[]⟩, .slice none 0 0] 30)).cell? ⟨w.heap.size + 1, 3, none⟩ = some (v3') := RL1_10.cell 3
          refine hK.out _ _ ?_ (fun hHeld => ?_)
          · ((try dsimp only); refine ⟨?_, ?_, ?_, ?_, ?_, ?_, ?_, ?_⟩ <;> assumption)
          clear hK K
          try simp only [Act.put, List.setIfInBounds_toArray, List.set_cons_zero, List.set_cons_succ]
          refine reg_call (i := 5) (by kernel_rfl) rfl (fun K hK => ?_)
          go_simp
          refine (specPutVar_u d op n name kids (.slice Aar0_4 kids.length par0_4) nm d' op' n' name' kids' (.slice Aar1_7 kids'.length par1_7) (ur1_7.alloc (.cells #[.int .i64 0, .int .i64 0, .string ⟨#[]⟩, .slice none 0 0] 30)) ws1.drew.heap.size ur0_4.heap.size ur0_4.heap.size ur1_7.heap.size (by omega) (by omega) hN0 h0 h1 h2 Xa0_10 hN1 h0' h1' h2' Xa1_10).mono ?_
          rintro e vr_12 ⟨v3', he, hx, evr_12⟩
          rw [hR.out] at he hx
          obtain ⟨Ar_12, pr_12, hw, _, _⟩ := (exT_kids 12 (hx false)).form
          change _ = Value.slice Ar_12 zk.length pr_12 at hw
          subst hw
          change _ = Ending.returned (.tuple #[.agg #[.int .i64 zop, .int .i64 zn, .string znm, .slice Ar_12 zk.length pr_12], .bool rb]) at he
          subst he
          have qzr_12 := exT_kids 12 (hx false)
          change SlT false (exT false 12) vr_12 (ur1_7.alloc (.cells #[.int .i64 0, .int .i64 0, .string ⟨#[]⟩, .slice none 0 0] 30)).heap.size vr_12.heap.size zk (.slice Ar_12 zk.length pr_12) at qzr_12
          have tzr_12 := exT_kids 12 (hx true)
          change SlT true (exT true 12) vr_12 (ur1_7.alloc (.cells #[.int .i64 0, .int .i64 0, .string ⟨#[]⟩, .slice none 0 0] 30)).heap.size vr_12.heap.size zk (.slice Ar_12 zk.length pr_12) at tzr_12
          clear hx
          have bp13 : Below ws1.heap.size ws1 vr_12 := bp11.trans (evr_12.mono bp11.size)
          have hb14 : Below w.heap.size w vr_12 := hb10.trans (evr_12.mono hb10.size)
          have sz14 : (ur1_7.alloc (.cells #[.int .i64 0, .int .i64 0, .string ⟨#[]⟩, .slice none 0 0] 30)).heap.size ≤ vr_12.heap.size := evr_12.size
          have RL0_14 : Row (vr_12) (w.heap.size) 24 #[.int .i64 op, .int .i64 n, .string name, v3] := RL0_10.below evr_12 RL0_10.lt
          have RL1_14 : Row (vr_12) (w.heap.size + 1) 24 #[.int .i64 op', .int .i64 n', .string name', v3'] := RL1_10.below evr_12 RL1_10.lt
          have RN_14 : Row (vr_12) (ur1_7.heap.size) 30 #[.int .i64 0, .int .i64 0, .string ⟨#[]⟩, .slice none 0 0] := RN_10.below evr_12 RN_10.lt
          clear yL00_11 yL01_11 yL02_11 yL03_11 yL10_11 yL11_11 yL12_11 yL13_11
          clear RL0_10 RL1_10 RN_10
          have yL00_14 : (vr_12).cell? ⟨w.heap.size, 0, none⟩ = some (.int .i64 op) := RL0_14.cell 0
          have yL01_14 : (vr_12).cell? ⟨w.heap.size, 1, none⟩ = some (.int .i64 n) := RL0_14.cell 1
          have yL02_14 : (vr_12).cell? ⟨w.heap.size, 2, none⟩ = some (.string name) := RL0_14.cell 2
          have yL03_14 : (vr_12).cell? ⟨w.heap.size, 3, none⟩ = some (v3) := RL0_14.cell 3
          have yL10_14 : (vr_12).cell? ⟨w.heap.size + 1, 0, none⟩ = some (.int .i64 op') := RL1_14.cell 0
          have yL11_14 : (vr_12).cell? ⟨w.heap.size + 1, 1, none⟩ = some (.int .i64 n') := RL1_14.cell 1
          have yL12_14 : (vr_12).cell? ⟨w.heap.size + 1, 2, none⟩ = some (.string name') := RL1_14.cell 2
          have yL13_14 : (vr_12).cell? ⟨w.heap.size + 1, 3, none⟩ = some (v3') := RL1_14.cell 3
          refine hK.out _ _ ?_ (fun hHeld => ?_)
          · ((try dsimp only); refine ⟨?_, ?_, ?_, ?_, ?_, ?_, ?_, ?_⟩ <;> assumption)
          clear hK K
          try simp only [Act.put, List.setIfInBounds_toArray, List.set_cons_zero, List.set_cons_succ]
          refine reg_take (i := 6) (v := ?v8) rfl (by kernel_rfl) (by kernel_rfl) (by kernel_rfl) (fun _ _ _ h => h) (Or.inl ⟨by kernel_rfl, ?h8⟩) (by assumption) ?r8
          case h8 => (intro w hSw; (try dsimp only at hSw); go_simp; try with_reducible rfl)
          try simp only [Act.put, List.setIfInBounds_toArray, List.set_cons_zero, List.set_cons_succ]
          refine reg_take (i := 7) (v := ?v9) rfl (by kernel_rfl) (by kernel_rfl) (by kernel_rfl) (fun _ _ _ h => h) (Or.inl ⟨by kernel_rfl, ?h9⟩) (by assumption) ?r9
          case h9 => (intro w hSw; (try dsimp only at hSw); go_simp; try with_reducible rfl)
          try simp only [Act.put, List.setIfInBounds_toArray, List.set_cons_zero, List.set_cons_succ]
          refine reg_take (i := 8) (v := ?v10) rfl (by kernel_rfl) (by kernel_rfl) (by kernel_rfl) (fun _ _ _ h => h) (Or.inl ⟨by kernel_rfl, ?h10⟩) (by assumption) ?r10
          case h10 => (intro w hSw; (try dsimp only at hSw); go_simp; try with_reducible rfl)
          try simp only [Act.put, List.setIfInBounds_toArray, List.set_cons_zero, List.set_cons_succ]
          clear yL00_14 yL01_14 yL02_14 yL03_14 yL10_14 yL11_14 yL12_14 yL13_14
          have yN0_14 : (vr_12).cell? ⟨ur1_7.heap.size, 0, none⟩ = some (.int .i64 0) := RN_14.cell 0
          have yN1_14 : (vr_12).cell? ⟨ur1_7.heap.size, 1, none⟩ = some (.int .i64 0) := RN_14.cell 1
          have yN2_14 : (vr_12).cell? ⟨ur1_7.heap.size, 2, none⟩ = some (.string ⟨#[]⟩) := RN_14.cell 2
          have yN3_14 : (vr_12).cell? ⟨ur1_7.heap.size, 3, none⟩ = some (.slice none 0 0) := RN_14.cell 3
          have nf0 : (vr_12).frozen? ⟨ur1_7.heap.size, 0, none⟩ = false := RN_14.frozen 0
          have nf1 : (vr_12).frozen? ⟨ur1_7.heap.size, 1, none⟩ = false := RN_14.frozen 1
          have nf2 : (vr_12).frozen? ⟨ur1_7.heap.size, 2, none⟩ = false := RN_14.frozen 2
          have nf3 : (vr_12).frozen? ⟨ur1_7.heap.size, 3, none⟩ = false := RN_14.frozen 3
          refine reg_call (i := 10) (by kernel_rfl) rfl (fun K hK => ?_)
          go_simp
          clear yN0_14 yN1_14 yN2_14 yN3_14
          clear nf0 nf1 nf2 nf3
          have FL0 : Row (((((vr_12).setCell ⟨ur1_7.heap.size, 0, none⟩ (.int .i64 zop)).setCell ⟨ur1_7.heap.size, 1, none⟩ (.int .i64 zn)).setCell ⟨ur1_7.heap.size, 2, none⟩ (.string znm)).setCell ⟨ur1_7.heap.size, 3, none⟩ (.slice Ar_12 zk.length pr_12)) (w.heap.size) 24 #[.int .i64 op, .int .i64 n, .string name, v3] := ((((RL0_14.far (p := ⟨ur1_7.heap.size, 0, none⟩) (by simp; omega) (.int .i64 zop)).far (p := ⟨ur1_7.heap.size, 1, none⟩) (by simp; omega) (.int .i64 zn)).far (p := ⟨ur1_7.heap.size, 2, none⟩) (by simp; omega) (.string znm)).far (p := ⟨ur1_7.heap.size, 3, none⟩) (by simp; omega) (.slice Ar_12 zk.length pr_12))
          have FL1 : Row (((((vr_12).setCell ⟨ur1_7.heap.size, 0, none⟩ (.int .i64 zop)).setCell ⟨ur1_7.heap.size, 1, none⟩ (.int .i64 zn)).setCell ⟨ur1_7.heap.size, 2, none⟩ (.string znm)).setCell ⟨ur1_7.heap.size, 3, none⟩ (.slice Ar_12 zk.length pr_12)) (w.heap.size + 1) 24 #[.int .i64 op', .int .i64 n', .string name', v3'] := ((((RL1_14.far (p := ⟨ur1_7.heap.size, 0, none⟩) (by simp; omega) (.int .i64 zop)).far (p := ⟨ur1_7.heap.size, 1, none⟩) (by simp; omega) (.int .i64 zn)).far (p := ⟨ur1_7.heap.size, 2, none⟩) (by simp; omega) (.string znm)).far (p := ⟨ur1_7.heap.size, 3, none⟩) (by simp; omega) (.slice Ar_12 zk.length pr_12))
          have yfL00 : (((((vr_12).setCell ⟨ur1_7.heap.size, 0, none⟩ (.int .i64 zop)).setCell ⟨ur1_7.heap.size, 1, none⟩ (.int .i64 zn)).setCell ⟨ur1_7.heap.size, 2, none⟩ (.string znm)).setCell ⟨ur1_7.heap.size, 3, none⟩ (.slice Ar_12 zk.length pr_12)).cell? ⟨w.heap.size, 0, none⟩ = some (.int .i64 op) := FL0.cell 0
          have yfL01 : (((((vr_12).setCell ⟨ur1_7.heap.size, 0, none⟩ (.int .i64 zop)).setCell ⟨ur1_7.heap.size, 1, none⟩ (.int .i64 zn)).setCell ⟨ur1_7.heap.size, 2, none⟩ (.string znm)).setCell ⟨ur1_7.heap.size, 3, none⟩ (.slice Ar_12 zk.length pr_12)).cell? ⟨w.heap.size, 1, none⟩ = some (.int .i64 n) := FL0.cell 1
          have yfL02 : (((((vr_12).setCell ⟨ur1_7.heap.size, 0, none⟩ (.int .i64 zop)).setCell ⟨ur1_7.heap.size, 1, none⟩ (.int .i64 zn)).setCell ⟨ur1_7.heap.size, 2, none⟩ (.string znm)).setCell ⟨ur1_7.heap.size, 3, none⟩ (.slice Ar_12 zk.length pr_12)).cell? ⟨w.heap.size, 2, none⟩ = some (.string name) := FL0.cell 2
          have yfL03 : (((((vr_12).setCell ⟨ur1_7.heap.size, 0, none⟩ (.int .i64 zop)).setCell ⟨ur1_7.heap.size, 1, none⟩ (.int .i64 zn)).setCell ⟨ur1_7.heap.size, 2, none⟩ (.string znm)).setCell ⟨ur1_7.heap.size, 3, none⟩ (.slice Ar_12 zk.length pr_12)).cell? ⟨w.heap.size, 3, none⟩ = some (v3) := FL0.cell 3
          have yfL10 : (((((vr_12).setCell ⟨ur1_7.heap.size, 0, none⟩ (.int .i64 zop)).setCell ⟨ur1_7.heap.size, 1, none⟩ (.int .i64 zn)).setCell ⟨ur1_7.heap.size, 2, none⟩ (.string znm)).setCell ⟨ur1_7.heap.size, 3, none⟩ (.slice Ar_12 zk.length pr_12)).cell? ⟨w.heap.size + 1, 0, none⟩ = some (.int .i64 op') := FL1.cell 0
          have yfL11 : (((((vr_12).setCell ⟨ur1_7.heap.size, 0, none⟩ (.int .i64 zop)).setCell ⟨ur1_7.heap.size, 1, none⟩ (.int .i64 zn)).setCell ⟨ur1_7.heap.size, 2, none⟩ (.string znm)).setCell ⟨ur1_7.heap.size, 3, none⟩ (.slice Ar_12 zk.length pr_12)).cell? ⟨w.heap.size + 1, 1, none⟩ = some (.int .i64 n') := FL1.cell 1
          have yfL12 : (((((vr_12).setCell ⟨ur1_7.heap.size, 0, none⟩ (.int .i64 zop)).setCell ⟨ur1_7.heap.size, 1, none⟩ (.int .i64 zn)).setCell ⟨ur1_7.heap.size, 2, none⟩ (.string znm)).setCell ⟨ur1_7.heap.size, 3, none⟩ (.slice Ar_12 zk.length pr_12)).cell? ⟨w.heap.size + 1, 2, none⟩ = some (.string name') := FL1.cell 2
          have yfL13 : (((((vr_12).setCell ⟨ur1_7.heap.size, 0, none⟩ (.int .i64 zop)).setCell ⟨ur1_7.heap.size, 1, none⟩ (.int .i64 zn)).setCell ⟨ur1_7.heap.size, 2, none⟩ (.string znm)).setCell ⟨ur1_7.heap.size, 3, none⟩ (.slice Ar_12 zk.length pr_12)).cell? ⟨w.heap.size + 1, 3, none⟩ = some (v3') := FL1.cell 3
          refine hK.out _ _ ?_ (fun hHeld => ?_)
          · exact ⟨yfL00, yfL01, yfL02, yfL03, yfL10, yfL11, yfL12, yfL13⟩
          clear hK K
          try simp only [Act.put, List.setIfInBounds_toArray, List.set_cons_zero, List.set_cons_succ]
          refine reg_take (i := 11) (v := ?v11) rfl (by kernel_rfl) (by kernel_rfl) (by kernel_rfl) (fun _ _ _ h => h) (Or.inl ⟨by kernel_rfl, ?h11⟩) (by assumption) ?r11
          case h11 => (intro w hSw; (try dsimp only at hSw); go_simp; try with_reducible rfl)
          try simp only [Act.put, List.setIfInBounds_toArray, List.set_cons_zero, List.set_cons_succ]
          refine wpAnyH_done (by kernel_rfl) ?_ _
          go_wp2_with fail
          go_meet
          exact ⟨ur1_7.heap.size, (ur1_7.alloc (.cells #[.int .i64 0, .int .i64 0, .string ⟨#[]⟩, .slice none 0 0] 30)).heap.size, vr_12.heap.size, Ar_12, pr_12, rfl, rfl, ((((RN_14.set_ 0 (.int .i64 zop)).set_ 1 (.int .i64 zn)).set_ 2 (.string znm)).set_ 3 (.slice Ar_12 zk.length pr_12)), by first | (left; omega) | (right; omega) | (left; simp; omega) | (right; simp; omega), by first | omega | (simp; omega), by first | omega | (simp; omega), (by simp [World.setCell]), qzr_12.keep (Nat.le_refl _) (Nat.le_refl _) (((((Same.refl _ _ _).setCell (p := ⟨ur1_7.heap.size, 0, none⟩) (by first | (left; simp; done) | (left; dsimp only; omega) | (right; dsimp only; omega) | (left; simp; omega) | (right; simp; omega)) (.int .i64 zop)).setCell (p := ⟨ur1_7.heap.size, 1, none⟩) (by first | (left; simp; done) | (left; dsimp only; omega) | (right; dsimp only; omega) | (left; simp; omega) | (right; simp; omega)) (.int .i64 zn)).setCell (p := ⟨ur1_7.heap.size, 2, none⟩) (by first | (left; simp; done) | (left; dsimp only; omega) | (right; dsimp only; omega) | (left; simp; omega) | (right; simp; omega)) (.string znm)).setCell (p := ⟨ur1_7.heap.size, 3, none⟩) (by first | (left; simp; done) | (left; dsimp only; omega) | (right; dsimp only; omega) | (left; simp; omega) | (right; simp; omega)) (.slice Ar_12 zk.length pr_12)), tzr_12.keep (Nat.le_refl _) (Nat.le_refl _) (((((Same.refl _ _ _).setCell (p := ⟨ur1_7.heap.size, 0, none⟩) (by first | (left; simp; done) | (left; dsimp only; omega) | (right; dsimp only; omega) | (left; simp; omega) | (right; simp; omega)) (.int .i64 zop)).setCell (p := ⟨ur1_7.heap.size, 1, none⟩) (by first | (left; simp; done) | (left; dsimp only; omega) | (right; dsimp only; omega) | (left; simp; omega) | (right; simp; omega)) (.int .i64 zn)).setCell (p := ⟨ur1_7.heap.size, 2, none⟩) (by first | (left; simp; done) | (left; dsimp only; omega) | (right; dsimp only; omega) | (left; simp; omega) | (right; simp; omega)) (.string znm)).setCell (p := ⟨ur1_7.heap.size, 3, none⟩) (by first | (left; simp; done) | (left; dsimp only; omega) | (right; dsimp only; omega) | (left; simp; omega) | (right; simp; omega)) (.slice Ar_12 zk.length pr_12)), ((((bp13.setCell (p := ⟨ur1_7.heap.size, 0, none⟩) (by first | (simp; done) | (simp; omega)) (.int .i64 zop)).setCell (p := ⟨ur1_7.heap.size, 1, none⟩) (by first | (simp; done) | (simp; omega)) (.int .i64 zn)).setCell (p := ⟨ur1_7.heap.size, 2, none⟩) (by first | (simp; done) | (simp; omega)) (.string znm)).setCell (p := ⟨ur1_7.heap.size, 3, none⟩) (by first | (simp; done) | (simp; omega)) (.slice Ar_12 zk.length pr_12))⟩
      · go_simp
        have PVL0 := RL0_6
        have PVL1 := RL1_6
        have hb7 : Below w.heap.size w (ur0_4.alloc (.cells #[.int .i64 0, .int .i64 0, .string ⟨#[]⟩, .slice none 0 0] 30)) := hb6.alloc hb6.size _
        have sz7 : ur0_4.heap.size < (ur0_4.alloc (.cells #[.int .i64 0, .int .i64 0, .string ⟨#[]⟩, .slice none 0 0] 30)).heap.size := by simp
        have RL0_7 : Row (ur0_4.alloc (.cells #[.int .i64 0, .int .i64 0, .string ⟨#[]⟩, .slice none 0 0] 30)) (w.heap.size) 24 #[.int .i64 op, .int .i64 n, .string name, v3] := RL0_6.alloc _
        have RL1_7 : Row (ur0_4.alloc (.cells #[.int .i64 0, .int .i64 0, .string ⟨#[]⟩, .slice none 0 0] 30)) (w.heap.size + 1) 24 #[.int .i64 op', .int .i64 n', .string name', v3'] := RL1_6.alloc _
        have Xa0_7 : Sl false (exS false d) (ur0_4.alloc (.cells #[.int .i64 0, .int .i64 0, .string ⟨#[]⟩, .slice none 0 0] 30)) ws1.drew.heap.size ur0_4.heap.size kids (.slice Aar0_4 kids.length par0_4) := qar0_4.keep (Nat.le_refl _) (Nat.le_refl _) (fun b h1 h2 => Below.heap_alloc _ _ b (by omega))
        clear yL00_6 yL01_6 yL02_6 yL03_6 yL10_6 yL11_6 yL12_6 yL13_6
        clear RL0_6 RL1_6 qar0_4
        have RN_7 : Row (ur0_4.alloc (.cells #[.int .i64 0, .int .i64 0, .string ⟨#[]⟩, .slice none 0 0] 30)) ur0_4.heap.size 30 #[.int .i64 0, .int .i64 0, .string ⟨#[]⟩, .slice none 0 0] := Row.new _ _ _
        have bp8 : Below ws1.heap.size ws1 (ur0_4.alloc (.cells #[.int .i64 0, .int .i64 0, .string ⟨#[]⟩, .slice none 0 0] 30)) := bp5.alloc bp5.size _
        have yL00_8 : (ur0_4.alloc (.cells #[.int .i64 0, .int .i64 0, .string ⟨#[]⟩, .slice none 0 0] 30)).cell? ⟨w.heap.size, 0, none⟩ = some (.int .i64 op) := RL0_7.cell 0
        have yL01_8 : (ur0_4.alloc (.cells #[.int .i64 0, .int .i64 0, .string ⟨#[]⟩, .slice none 0 0] 30)).cell? ⟨w.heap.size, 1, none⟩ = some (.int .i64 n) := RL0_7.cell 1
        have yL02_8 : (ur0_4.alloc (.cells #[.int .i64 0, .int .i64 0, .string ⟨#[]⟩, .slice none 0 0] 30)).cell? ⟨w.heap.size, 2, none⟩ = some (.string name) := RL0_7.cell 2
        have yL03_8 : (ur0_4.alloc (.cells #[.int .i64 0, .int .i64 0, .string ⟨#[]⟩, .slice none 0 0] 30)).cell? ⟨w.heap.size, 3, none⟩ = some (v3) := RL0_7.cell 3
        have yL10_8 : (ur0_4.alloc (.cells #[.int .i64 0, .int .i64 0, .string ⟨#[]⟩, .slice none 0 0] 30)).cell? ⟨w.heap.size + 1, 0, none⟩ = some (.int .i64 op') := RL1_7.cell 0
        have yL11_8 : (ur0_4.alloc (.cells #[.int .i64 0, .int .i64 0, .string ⟨#[]⟩, .slice none 0 0] 30)).cell? ⟨w.heap.size + 1, 1, none⟩ = some (.int .i64 n') := RL1_7.cell 1
        have yL12_8 : (ur0_4.alloc (.cells #[.int .i64 0, .int .i64 0, .string ⟨#[]⟩, .slice none 0 0] 30)).cell? ⟨w.heap.size + 1, 2, none⟩ = some (.string name') := RL1_7.cell 2
        have yL13_8 : (ur0_4.alloc (.cells #[.int .i64 0, .int .i64 0, .string ⟨#[]⟩, .slice none 0 0] 30)).cell? ⟨w.heap.size + 1, 3, none⟩ = some (v3') := RL1_7.cell 3
        refine hK.out _ _ ?_ (fun hHeld => ?_)
        · ((try dsimp only); refine ⟨?_, ?_, ?_, ?_, ?_, ?_, ?_, ?_⟩ <;> assumption)
        clear hK K
        try simp only [Act.put, List.setIfInBounds_toArray, List.set_cons_zero, List.set_cons_succ]
        refine reg_call (i := 4) (by kernel_rfl) rfl (fun K hK => ?_)
        go_simp
        refine (to_Expr d' op' n' name' kids' v3' (ur0_4.alloc (.cells #[.int .i64 0, .int .i64 0, .string ⟨#[]⟩, .slice none 0 0] 30)) 0 w.heap.size hb7.size hN1 h0' h1' h2' (h3'.below hb7 (Nat.le_refl _))).mono ?_
        rintro e ur1_9 ⟨cs, rfl, hx, eur1_9⟩
        obtain ⟨xar1_9, hcs, -, -, -, qar1_9⟩ := ex_open d' (hx false)
        change _ = [.int .i64 op', .int .i64 n', .string name', xar1_9] at hcs
        subst hcs
        clear hx
        obtain ⟨Aar1_9, par1_9, hf, _, _⟩ := qar1_9.form
        change _ = Value.slice Aar1_9 kids'.length par1_9 at hf
        subst hf
        have bp10 : Below ws1.heap.size ws1 ur1_9 := bp8.trans (eur1_9.mono bp8.size)
        have hb11 : Below w.heap.size w ur1_9 := hb7.trans (eur1_9.mono hb7.size)
        have sz11 : (ur0_4.alloc (.cells #[.int .i64 0, .int .i64 0, .string ⟨#[]⟩, .slice none 0 0] 30)).heap.size ≤ ur1_9.heap.size := eur1_9.size
        have RL0_11 : Row (ur1_9) (w.heap.size) 24 #[.int .i64 op, .int .i64 n, .string name, v3] := RL0_7.below eur1_9 RL0_7.lt
        have RL1_11 : Row (ur1_9) (w.heap.size + 1) 24 #[.int .i64 op', .int .i64 n', .string name', v3'] := RL1_7.below eur1_9 RL1_7.lt
        have RN_11 : Row (ur1_9) (ur0_4.heap.size) 30 #[.int .i64 0, .int .i64 0, .string ⟨#[]⟩, .slice none 0 0] := RN_7.below eur1_9 RN_7.lt
        have Xa0_11 : Sl false (exS false d) (ur1_9) ws1.drew.heap.size ur0_4.heap.size kids (.slice Aar0_4 kids.length par0_4) := Xa0_7.below eur1_9 (by first | omega | (simp; omega) | (simp at *; omega))
        clear yL00_8 yL01_8 yL02_8 yL03_8 yL10_8 yL11_8 yL12_8 yL13_8
        clear RL0_7 RL1_7 RN_7 Xa0_7
        have yL00_11 : (ur1_9).cell? ⟨w.heap.size, 0, none⟩ = some (.int .i64 op) := RL0_11.cell 0
        have yL01_11 : (ur1_9).cell? ⟨w.heap.size, 1, none⟩ = some (.int .i64 n) := RL0_11.cell 1
        have yL02_11 : (ur1_9).cell? ⟨w.heap.size, 2, none⟩ = some (.string name) := RL0_11.cell 2
        have yL03_11 : (ur1_9).cell? ⟨w.heap.size, 3, none⟩ = some (v3) := RL0_11.cell 3
        have yL10_11 : (ur1_9).cell? ⟨w.heap.size + 1, 0, none⟩ = some (.int .i64 op') := RL1_11.cell 0
        have yL11_11 : (ur1_9).cell? ⟨w.heap.size + 1, 1, none⟩ = some (.int .i64 n') := RL1_11.cell 1
        have yL12_11 : (ur1_9).cell? ⟨w.heap.size + 1, 2, none⟩ = some (.string name') := RL1_11.cell 2
        have yL13_11 : (ur1_9).cell? ⟨w.heap.size + 1, 3, none⟩ = some (v3') := RL1_11.cell 3
        refine hK.out _ _ ?_ (fun hHeld => ?_)
        · ((try dsimp only); refine ⟨?_, ?_, ?_, ?_, ?_, ?_, ?_, ?_⟩ <;> assumption)
        clear hK K
        try simp only [Act.put, List.setIfInBounds_toArray, List.set_cons_zero, List.set_cons_succ]
        refine reg_call (i := 5) (by kernel_rfl) rfl (fun K hK => ?_)
        go_simp
        refine (specPutVar_u d op n name kids (.slice Aar0_4 kids.length par0_4) nm d' op' n' name' kids' (.slice Aar1_9 kids'.length par1_9) ur1_9 ws1.drew.heap.size ur0_4.heap.size (ur0_4.alloc (.cells #[.int .i64 0, .int .i64 0, .string ⟨#[]⟩, .slice none 0 0] 30)).heap.size ur1_9.heap.size (by omega) (by omega) hN0 h0 h1 h2 Xa0_11 hN1 h0' h1' h2' qar1_9).mono ?_
        rintro e vr_12 ⟨v3', he, hx, evr_12⟩
        rw [hR.out] at he hx
        obtain ⟨Ar_12, pr_12, hw, _, _⟩ := (exT_kids 12 (hx false)).form
        change _ = Value.slice Ar_12 zk.length pr_12 at hw
        subst hw
        change _ = Ending.returned (.tuple #[.agg #[.int .i64 zop, .int .i64 zn, .string znm, .slice Ar_12 zk.length pr_12], .bool rb]) at he
        subst he
        have qzr_12 := exT_kids 12 (hx false)
        change SlT false (exT false 12) vr_12 ur1_9.heap.size vr_12.heap.size zk (.slice Ar_12 zk.length pr_12) at qzr_12
        have tzr_12 := exT_kids 12 (hx true)
        change SlT true (exT true 12) vr_12 ur1_9.heap.size vr_12.heap.size zk (.slice Ar_12 zk.length pr_12) at tzr_12
        clear hx
        have bp13 : Below ws1.heap.size ws1 vr_12 := bp10.trans (evr_12.mono bp10.size)
        have hb14 : Below w.heap.size w vr_12 := hb11.trans (evr_12.mono hb11.size)
        have sz14 : (ur1_9).heap.size ≤ vr_12.heap.size := evr_12.size
        have RL0_14 : Row (vr_12) (w.heap.size) 24 #[.int .i64 op, .int .i64 n, .string name, v3] := RL0_11.below evr_12 RL0_11.lt
        have RL1_14 : Row (vr_12) (w.heap.size + 1) 24 #[.int .i64 op', .int .i64 n', .string name', v3'] := RL1_11.below evr_12 RL1_11.lt
        have RN_14 : Row (vr_12) (ur0_4.heap.size) 30 #[.int .i64 0, .int .i64 0, .string ⟨#[]⟩, .slice none 0 0] := RN_11.below evr_12 RN_11.lt
        clear yL00_11 yL01_11 yL02_11 yL03_11 yL10_11 yL11_11 yL12_11 yL13_11
        clear RL0_11 RL1_11 RN_11
        have yL00_14 : (vr_12).cell? ⟨w.heap.size, 0, none⟩ = some (.int .i64 op) := RL0_14.cell 0
        have yL01_14 : (vr_12).cell? ⟨w.heap.size, 1, none⟩ = some (.int .i64 n) := RL0_14.cell 1
        have yL02_14 : (vr_12).cell? ⟨w.heap.size, 2, none⟩ = some (.string name) := RL0_14.cell 2
        have yL03_14 : (vr_12).cell? ⟨w.heap.size, 3, none⟩ = some (v3) := RL0_14.cell 3
        have yL10_14 : (vr_12).cell? ⟨w.heap.size + 1, 0, none⟩ = some (.int .i64 op') := RL1_14.cell 0
        have yL11_14 : (vr_12).cell? ⟨w.heap.size + 1, 1, none⟩ = some (.int .i64 n') := RL1_14.cell 1
        have yL12_14 : (vr_12).cell? ⟨w.heap.size + 1, 2, none⟩ = some (.string name') := RL1_14.cell 2
        have yL13_14 : (vr_12).cell? ⟨w.heap.size + 1, 3, none⟩ = some (v3') := RL1_14.cell 3
        refine hK.out _ _ ?_ (fun hHeld => ?_)
        · ((try dsimp only); refine ⟨?_, ?_, ?_, ?_, ?_, ?_, ?_, ?_⟩ <;> assumption)
        clear hK K
        try simp only [Act.put, List.setIfInBounds_toArray, List.set_cons_zero, List.set_cons_succ]
        refine reg_take (i := 6) (v := ?v12) rfl (by kernel_rfl) (by kernel_rfl) (by kernel_rfl) (fun _ _ _ h => h) (Or.inl ⟨by kernel_rfl, ?h12⟩) (by assumption) ?r12
        case h12 => (intro w hSw; (try dsimp only at hSw); go_simp; try with_reducible rfl)
        try simp only [Act.put, List.setIfInBounds_toArray, List.set_cons_zero, List.set_cons_succ]
        refine reg_take (i := 7) (v := ?v13) rfl (by kernel_rfl) (by kernel_rfl) (by kernel_rfl) (fun _ _ _ h => h) (Or.inl ⟨by kernel_rfl, ?h13⟩) (by assumption) ?r13
        case h13 => (intro w hSw; (try dsimp only at hSw); go_simp; try with_reducible rfl)
        try simp only [Act.put, List.setIfInBounds_toArray, List.set_cons_zero, List.set_cons_succ]
        refine reg_take (i := 8) (v := ?v14) rfl (by kernel_rfl) (by kernel_rfl) (by kernel_rfl) (fun _ _ _ h => h) (Or.inl ⟨by kernel_rfl, ?h14⟩) (by assumption) ?r14
        case h14 => (intro w hSw; (try dsimp only at hSw); go_simp; try with_reducible rfl)
        try simp only [Act.put, List.setIfInBounds_toArray, List.set_cons_zero, List.set_cons_succ]
        clear yL00_14 yL01_14 yL02_14 yL03_14 yL10_14 yL11_14 yL12_14 yL13_14
        have yN0_14 : (vr_12).cell? ⟨ur0_4.heap.size, 0, none⟩ = some (.int .i64 0) := RN_14.cell 0
        have yN1_14 : (vr_12).cell? ⟨ur0_4.heap.size, 1, none⟩ = some (.int .i64 0) := RN_14.cell 1
        have yN2_14 : (vr_12).cell? ⟨ur0_4.heap.size, 2, none⟩ = some (.string ⟨#[]⟩) := RN_14.cell 2
        have yN3_14 : (vr_12).cell? ⟨ur0_4.heap.size, 3, none⟩ = some (.slice none 0 0) := RN_14.cell 3
        have nf0 : (vr_12).frozen? ⟨ur0_4.heap.size, 0, none⟩ = false := RN_14.frozen 0
        have nf1 : (vr_12).frozen? ⟨ur0_4.heap.size, 1, none⟩ = false := RN_14.frozen 1
        have nf2 : (vr_12).frozen? ⟨ur0_4.heap.size, 2, none⟩ = false := RN_14.frozen 2
        have nf3 : (vr_12).frozen? ⟨ur0_4.heap.size, 3, none⟩ = false := RN_14.frozen 3
        refine reg_call (i := 10) (by kernel_rfl) rfl (fun K hK => ?_)
        go_simp
        clear yN0_14 yN1_14 yN2_14 yN3_14
        clear nf0 nf1 nf2 nf3
        have FL0 : Row (((((vr_12).setCell ⟨ur0_4.heap.size, 0, none⟩ (.int .i64 zop)).setCell ⟨ur0_4.heap.size, 1, none⟩ (.int .i64 zn)).setCell ⟨ur0_4.heap.size, 2, none⟩ (.string znm)).setCell ⟨ur0_4.heap.size, 3, none⟩ (.slice Ar_12 zk.length pr_12)) (w.heap.size) 24 #[.int .i64 op, .int .i64 n, .string name, v3] := ((((RL0_14.far (p := ⟨ur0_4.heap.size, 0, none⟩) (by simp; omega) (.int .i64 zop)).far (p := ⟨ur0_4.heap.size, 1, none⟩) (by simp; omega) (.int .i64 zn)).far (p := ⟨ur0_4.heap.size, 2, none⟩) (by simp; omega) (.string znm)).far (p := ⟨ur0_4.heap.size, 3, none⟩) (by simp; omega) (.slice Ar_12 zk.length pr_12))
        have FL1 : Row (((((vr_12).setCell ⟨ur0_4.heap.size, 0, none⟩ (.int .i64 zop)).setCell ⟨ur0_4.heap.size, 1, none⟩ (.int .i64 zn)).setCell ⟨ur0_4.heap.size, 2, none⟩ (.string znm)).setCell ⟨ur0_4.heap.size, 3, none⟩ (.slice Ar_12 zk.length pr_12)) (w.heap.size + 1) 24 #[.int .i64 op', .int .i64 n', .string name', v3'] := ((((RL1_14.far (p := ⟨ur0_4.heap.size, 0, none⟩) (by simp; omega) (.int .i64 zop)).far (p := ⟨ur0_4.heap.size, 1, none⟩) (by simp; omega) (.int .i64 zn)).far (p := ⟨ur0_4.heap.size, 2, none⟩) (by simp; omega) (.string znm)).far (p := ⟨ur0_4.heap.size, 3, none⟩) (by simp; omega) (.slice Ar_12 zk.length pr_12))
        have yfL00 : (((((vr_12).setCell ⟨ur0_4.heap.size, 0, none⟩ (.int .i64 zop)).setCell ⟨ur0_4.heap.size, 1, none⟩ (.int .i64 zn)).setCell ⟨ur0_4.heap.size, 2, none⟩ (.string znm)).setCell ⟨ur0_4.heap.size, 3, none⟩ (.slice Ar_12 zk.length pr_12)).cell? ⟨w.heap.size, 0, none⟩ = some (.int .i64 op) := FL0.cell 0
        have yfL01 : (((((vr_12).setCell ⟨ur0_4.heap.size, 0, none⟩ (.int .i64 zop)).setCell ⟨ur0_4.heap.size, 1, none⟩ (.int .i64 zn)).setCell ⟨ur0_4.heap.size, 2, none⟩ (.string znm)).setCell ⟨ur0_4.heap.size, 3, none⟩ (.slice Ar_12 zk.length pr_12)).cell? ⟨w.heap.size, 1, none⟩ = some (.int .i64 n) := FL0.cell 1
        have yfL02 : (((((vr_12).setCell ⟨ur0_4.heap.size, 0, none⟩ (.int .i64 zop)).setCell ⟨ur0_4.heap.size, 1, none⟩ (.int .i64 zn)).setCell ⟨ur0_4.heap.size, 2, none⟩ (.string znm)).setCell ⟨ur0_4.heap.size, 3, none⟩ (.slice Ar_12 zk.length pr_12)).cell? ⟨w.heap.size, 2, none⟩ = some (.string name) := FL0.cell 2
        have yfL03 : (((((vr_12).setCell ⟨ur0_4.heap.size, 0, none⟩ (.int .i64 zop)).setCell ⟨ur0_4.heap.size, 1, none⟩ (.int .i64 zn)).setCell ⟨ur0_4.heap.size, 2, none⟩ (.string znm)).setCell ⟨ur0_4.heap.size, 3, none⟩ (.slice Ar_12 zk.length pr_12)).cell? ⟨w.heap.size, 3, none⟩ = some (v3) := FL0.cell 3
        have yfL10 : (((((vr_12).setCell ⟨ur0_4.heap.size, 0, none⟩ (.int .i64 zop)).setCell ⟨ur0_4.heap.size, 1, none⟩ (.int .i64 zn)).setCell ⟨ur0_4.heap.size, 2, none⟩ (.string znm)).setCell ⟨ur0_4.heap.size, 3, none⟩ (.slice Ar_12 zk.length pr_12)).cell? ⟨w.heap.size + 1, 0, none⟩ = some (.int .i64 op') := FL1.cell 0
        have yfL11 : (((((vr_12).setCell ⟨ur0_4.heap.size, 0, none⟩ (.int .i64 zop)).setCell ⟨ur0_4.heap.size, 1, none⟩ (.int .i64 zn)).setCell ⟨ur0_4.heap.size, 2, none⟩ (.string znm)).setCell ⟨ur0_4.heap.size, 3, none⟩ (.slice Ar_12 zk.length pr_12)).cell? ⟨w.heap.size + 1, 1, none⟩ = some (.int .i64 n') := FL1.cell 1
        have yfL12 : (((((vr_12).setCell ⟨ur0_4.heap.size, 0, none⟩ (.int .i64 zop)).setCell ⟨ur0_4.heap.size, 1, none⟩ (.int .i64 zn)).setCell ⟨ur0_4.heap.size, 2, none⟩ (.string znm)).setCell ⟨ur0_4.heap.size, 3, none⟩ (.slice Ar_12 zk.length pr_12)).cell? ⟨w.heap.size + 1, 2, none⟩ = some (.string name') := FL1.cell 2
        have yfL13 : (((((vr_12).setCell ⟨ur0_4.heap.size, 0, none⟩ (.int .i64 zop)).setCell ⟨ur0_4.heap.size, 1, none⟩ (.int .i64 zn)).setCell ⟨ur0_4.heap.size, 2, none⟩ (.string znm)).setCell ⟨ur0_4.heap.size, 3, none⟩ (.slice Ar_12 zk.length pr_12)).cell? ⟨w.heap.size + 1, 3, none⟩ = some (v3') := FL1.cell 3
        refine hK.out _ _ ?_ (fun hHeld => ?_)
        · exact ⟨yfL00, yfL01, yfL02, yfL03, yfL10, yfL11, yfL12, yfL13⟩
        clear hK K
        try simp only [Act.put, List.setIfInBounds_toArray, List.set_cons_zero, List.set_cons_succ]
        refine reg_take (i := 11) (v := ?v15) rfl (by kernel_rfl) (by kernel_rfl) (by kernel_rfl) (fun _ _ _ h => h) (Or.inl ⟨by kernel_rfl, ?h15⟩) (by assumption) ?r15
        case h15 => (intro w hSw; (try dsimp only at hSw); go_simp; try with_reducible rfl)
        try simp only [Act.put, List.setIfInBounds_toArray, List.set_cons_zero, List.set_cons_succ]
        refine wpAnyH_done (by kernel_rfl) ?_ _
        go_wp2_with fail
        go_meet
        exact ⟨ur0_4.heap.size, ur1_9.heap.size, vr_12.heap.size, Ar_12, pr_12, rfl, rfl, ((((RN_14.set_ 0 (.int .i64 zop)).set_ 1 (.int .i64 zn)).set_ 2 (.string znm)).set_ 3 (.slice Ar_12 zk.length pr_12)), by first | (left; omega) | (right; omega) | (left; simp; omega) | (right; simp; omega), by first | omega | (simp; omega), by first | omega | (simp; omega), (by simp [World.setCell]), qzr_12.keep (Nat.le_refl _) (Nat.le_refl _) (((((Same.refl _ _ _).setCell (p := ⟨ur0_4.heap.size, 0, none⟩) (by first | (left; simp; done) | (left; dsimp only; omega) | (right; dsimp only; omega) | (left; simp; omega) | (right; simp; omega)) (.int .i64 zop)).setCell (p := ⟨ur0_4.heap.size, 1, none⟩) (by first | (left; simp; done) | (left; dsimp only; omega) | (right; dsimp only; omega) | (left; simp; omega) | (right; simp; omega)) (.int .i64 zn)).setCell (p := ⟨ur0_4.heap.size, 2, none⟩) (by first | (left; simp; done) | (left; dsimp only; omega) | (right; dsimp only; omega) | (left; simp; omega) | (right; simp; omega)) (.string znm)).setCell (p := ⟨ur0_4.heap.size, 3, none⟩) (by first | (left; simp; done) | (left; dsimp only; omega) | (right; dsimp only; omega) | (left; simp; omega) | (right; simp; omega)) (.slice Ar_12 zk.length pr_12)), tzr_12.keep (Nat.le_refl _) (Nat.le_refl _) (((((Same.refl _ _ _).setCell (p := ⟨ur0_4.heap.size, 0, none⟩) (by first | (left; simp; done) | (left; dsimp only; omega) | (right; dsimp only; omega) | (left; simp; omega) | (right; simp; omega)) (.int .i64 zop)).setCell (p := ⟨ur0_4.heap.size, 1, none⟩) (by first | (left; simp; done) | (left; dsimp only; omega) | (right; dsimp only; omega) | (left; simp; omega) | (right; simp; omega)) (.int .i64 zn)).setCell (p := ⟨ur0_4.heap.size, 2, none⟩) (by first | (left; simp; done) | (left; dsimp only; omega) | (right; dsimp only; omega) | (left; simp; omega) | (right; simp; omega)) (.string znm)).setCell (p := ⟨ur0_4.heap.size, 3, none⟩) (by first | (left; simp; done) | (left; dsimp only; omega) | (right; dsimp only; omega) | (left; simp; omega) | (right; simp; omega)) (.slice Ar_12 zk.length pr_12)), ((((bp13.setCell (p := ⟨ur0_4.heap.size, 0, none⟩) (by first | (simp; done) | (simp; omega)) (.int .i64 zop)).setCell (p := ⟨ur0_4.heap.size, 1, none⟩) (by first | (simp; done) | (simp; omega)) (.int .i64 zn)).setCell (p := ⟨ur0_4.heap.size, 2, none⟩) (by first | (simp; done) | (simp; omega)) (.string znm)).setCell (p := ⟨ur0_4.heap.size, 3, none⟩) (by first | (simp; done) | (simp; omega)) (.slice Ar_12 zk.length pr_12))⟩
    · go_simp
      have PVL0 := RL0_3
      have PVL1 := RL1_3
      have hb4 : Below w.heap.size w (ws1.drew.alloc (.cells #[.int .i64 0, .int .i64 0, .string ⟨#[]⟩, .slice none 0 0] 30)) := hbd3.alloc hbd3.size _
      have sz4 : ws1.heap.size < (ws1.drew.alloc (.cells #[.int .i64 0, .int .i64 0, .string ⟨#[]⟩, .slice none 0 0] 30)).heap.size := by simp
      have RL0_4 : Row (ws1.drew.alloc (.cells #[.int .i64 0, .int .i64 0, .string ⟨#[]⟩, .slice none 0 0] 30)) (w.heap.size) 24 #[.int .i64 op, .int .i64 n, .string name, v3] := RL0_3.alloc _
      have RL1_4 : Row (ws1.drew.alloc (.cells #[.int .i64 0, .int .i64 0, .string ⟨#[]⟩, .slice none 0 0] 30)) (w.heap.size + 1) 24 #[.int .i64 op', .int .i64 n', .string name', v3'] := RL1_3.alloc _
      clear yL00_3 yL01_3 yL02_3 yL03_3 yL10_3 yL11_3 yL12_3 yL13_3
      clear RL0_3 RL1_3
      have RN_4 : Row (ws1.drew.alloc (.cells #[.int .i64 0, .int .i64 0, .string ⟨#[]⟩, .slice none 0 0] 30)) ws1.heap.size 30 #[.int .i64 0, .int .i64 0, .string ⟨#[]⟩, .slice none 0 0] := Row.new _ _ _
      have bp5 : Below ws1.heap.size ws1 (ws1.drew.alloc (.cells #[.int .i64 0, .int .i64 0, .string ⟨#[]⟩, .slice none 0 0] 30)) := bp0.alloc bp0.size _
      have yL00_5 : (ws1.drew.alloc (.cells #[.int .i64 0, .int .i64 0, .string ⟨#[]⟩, .slice none 0 0] 30)).cell? ⟨w.heap.size, 0, none⟩ = some (.int .i64 op) := RL0_4.cell 0
      have yL01_5 : (ws1.drew.alloc (.cells #[.int .i64 0, .int .i64 0, .string ⟨#[]⟩, .slice none 0 0] 30)).cell? ⟨w.heap.size, 1, none⟩ = some (.int .i64 n) := RL0_4.cell 1
      have yL02_5 : (ws1.drew.alloc (.cells #[.int .i64 0, .int .i64 0, .string ⟨#[]⟩, .slice none 0 0] 30)).cell? ⟨w.heap.size, 2, none⟩ = some (.string name) := RL0_4.cell 2
      have yL03_5 : (ws1.drew.alloc (.cells #[.int .i64 0, .int .i64 0, .string ⟨#[]⟩, .slice none 0 0] 30)).cell? ⟨w.heap.size, 3, none⟩ = some (v3) := RL0_4.cell 3
      have yL10_5 : (ws1.drew.alloc (.cells #[.int .i64 0, .int .i64 0, .string ⟨#[]⟩, .slice none 0 0] 30)).cell? ⟨w.heap.size + 1, 0, none⟩ = some (.int .i64 op') := RL1_4.cell 0
      have yL11_5 : (ws1.drew.alloc (.cells #[.int .i64 0, .int .i64 0, .string ⟨#[]⟩, .slice none 0 0] 30)).cell? ⟨w.heap.size + 1, 1, none⟩ = some (.int .i64 n') := RL1_4.cell 1
      have yL12_5 : (ws1.drew.alloc (.cells #[.int .i64 0, .int .i64 0, .string ⟨#[]⟩, .slice none 0 0] 30)).cell? ⟨w.heap.size + 1, 2, none⟩ = some (.string name') := RL1_4.cell 2
      have yL13_5 : (ws1.drew.alloc (.cells #[.int .i64 0, .int .i64 0, .string ⟨#[]⟩, .slice none 0 0] 30)).cell? ⟨w.heap.size + 1, 3, none⟩ = some (v3') := RL1_4.cell 3
      refine hK.out _ _ ?_ (fun hHeld => ?_)
      · ((try dsimp only); refine ⟨?_, ?_, ?_, ?_, ?_, ?_, ?_, ?_⟩ <;> assumption)
      clear hK K
      try simp only [Act.put, List.setIfInBounds_toArray, List.set_cons_zero, List.set_cons_succ]
      refine reg_call (i := 1) (by kernel_rfl) rfl (fun K hK => ?_)
      go_simp
      refine (to_Expr d op n name kids v3 (ws1.drew.alloc (.cells #[.int .i64 0, .int .i64 0, .string ⟨#[]⟩, .slice none 0 0] 30)) 0 w.heap.size hb4.size hN0 h0 h1 h2 (h3.below hb4 (Nat.le_refl _))).mono ?_
      rintro e ur0_6 ⟨cs, rfl, hx, eur0_6⟩
      obtain ⟨xar0_6, hcs, -, -, -, qar0_6⟩ := ex_open d (hx false)
      change _ = [.int .i64 op, .int .i64 n, .string name, xar0_6] at hcs
      subst hcs
      clear hx
      obtain ⟨Aar0_6, par0_6, hf, _, _⟩ := qar0_6.form
      change _ = Value.slice Aar0_6 kids.length par0_6 at hf
      subst hf
      have bp7 : Below ws1.heap.size ws1 ur0_6 := bp5.trans (eur0_6.mono bp5.size)
      have hb8 : Below w.heap.size w ur0_6 := hb4.trans (eur0_6.mono hb4.size)
      have sz8 : (ws1.drew.alloc (.cells #[.int .i64 0, .int .i64 0, .string ⟨#[]⟩, .slice none 0 0] 30)).heap.size ≤ ur0_6.heap.size := eur0_6.size
      have RL0_8 : Row (ur0_6) (w.heap.size) 24 #[.int .i64 op, .int .i64 n, .string name, v3] := RL0_4.below eur0_6 RL0_4.lt
      have RL1_8 : Row (ur0_6) (w.heap.size + 1) 24 #[.int .i64 op', .int .i64 n', .string name', v3'] := RL1_4.below eur0_6 RL1_4.lt
      have RN_8 : Row (ur0_6) (ws1.heap.size) 30 #[.int .i64 0, .int .i64 0, .string ⟨#[]⟩, .slice none 0 0] := RN_4.below eur0_6 RN_4.lt
      clear yL00_5 yL01_5 yL02_5 yL03_5 yL10_5 yL11_5 yL12_5 yL13_5
      clear RL0_4 RL1_4 RN_4
      have yL00_8 : (ur0_6).cell? ⟨w.heap.size, 0, none⟩ = some (.int .i64 op) := RL0_8.cell 0
      have yL01_8 : (ur0_6).cell? ⟨w.heap.size, 1, none⟩ = some (.int .i64 n) := RL0_8.cell 1
      have yL02_8 : (ur0_6).cell? ⟨w.heap.size, 2, none⟩ = some (.string name) := RL0_8.cell 2
      have yL03_8 : (ur0_6).cell? ⟨w.heap.size, 3, none⟩ = some (v3) := RL0_8.cell 3
      have yL10_8 : (ur0_6).cell? ⟨w.heap.size + 1, 0, none⟩ = some (.int .i64 op') := RL1_8.cell 0
      have yL11_8 : (ur0_6).cell? ⟨w.heap.size + 1, 1, none⟩ = some (.int .i64 n') := RL1_8.cell 1
      have yL12_8 : (ur0_6).cell? ⟨w.heap.size + 1, 2, none⟩ = some (.string name') := RL1_8.cell 2
      have yL13_8 : (ur0_6).cell? ⟨w.heap.size + 1, 3, none⟩ = some (v3') := RL1_8.cell 3
      refine hK.out _ _ ?_ (fun hHeld => ?_)
      · ((try dsimp only); refine ⟨?_, ?_, ?_, ?_, ?_, ?_, ?_, ?_⟩ <;> assumption)
      clear hK K
      try simp only [Act.put, List.setIfInBounds_toArray, List.set_cons_zero, List.set_cons_succ]
      refine reg_call (i := 4) (by kernel_rfl) rfl (fun K hK => ?_)
      go_simp
      refine (to_Expr d' op' n' name' kids' v3' ur0_6 0 w.heap.size hb8.size hN1 h0' h1' h2' (h3'.below hb8 (Nat.le_refl _))).mono ?_
      rintro e ur1_9 ⟨cs, rfl, hx, eur1_9⟩
      obtain ⟨xar1_9, hcs, -, -, -, qar1_9⟩ := ex_open d' (hx false)
      change _ = [.int .i64 op', .int .i64 n', .string name', xar1_9] at hcs
      subst hcs
      clear hx
      obtain ⟨Aar1_9, par1_9, hf, _, _⟩ := qar1_9.form
      change _ = Value.slice Aar1_9 kids'.length par1_9 at hf
      subst hf
      have bp10 : Below ws1.heap.size ws1 ur1_9 := bp7.trans (eur1_9.mono bp7.size)
      have hb11 : Below w.heap.size w ur1_9 := hb8.trans (eur1_9.mono hb8.size)
      have sz11 : (ur0_6).heap.size ≤ ur1_9.heap.size := eur1_9.size
      have RL0_11 : Row (ur1_9) (w.heap.size) 24 #[.int .i64 op, .int .i64 n, .string name, v3] := RL0_8.below eur1_9 RL0_8.lt
      have RL1_11 : Row (ur1_9) (w.heap.size + 1) 24 #[.int .i64 op', .int .i64 n', .string name', v3'] := RL1_8.below eur1_9 RL1_8.lt
      have RN_11 : Row (ur1_9) (ws1.heap.size) 30 #[.int .i64 0, .int .i64 0, .string ⟨#[]⟩, .slice none 0 0] := RN_8.below eur1_9 RN_8.lt
      have Xa0_11 : Sl false (exS false d) (ur1_9) (ws1.drew.alloc (.cells #[.int .i64 0, .int .i64 0, .string ⟨#[]⟩, .slice none 0 0] 30)).heap.size ur0_6.heap.size kids (.slice Aar0_6 kids.length par0_6) := qar0_6.below eur1_9 (by first | omega | (simp; omega) | (simp at *; omega))
      clear yL00_8 yL01_8 yL02_8 yL03_8 yL10_8 yL11_8 yL12_8 yL13_8
      clear RL0_8 RL1_8 RN_8 qar0_6
      have yL00_11 : (ur1_9).cell? ⟨w.heap.size, 0, none⟩ = some (.int .i64 op) := RL0_11.cell 0
      have yL01_11 : (ur1_9).cell? ⟨w.heap.size, 1, none⟩ = some (.int .i64 n) := RL0_11.cell 1
      have yL02_11 : (ur1_9).cell? ⟨w.heap.size, 2, none⟩ = some (.string name) := RL0_11.cell 2
      have yL03_11 : (ur1_9).cell? ⟨w.heap.size, 3, none⟩ = some (v3) := RL0_11.cell 3
      have yL10_11 : (ur1_9).cell? ⟨w.heap.size + 1, 0, none⟩ = some (.int .i64 op') := RL1_11.cell 0
      have yL11_11 : (ur1_9).cell? ⟨w.heap.size + 1, 1, none⟩ = some (.int .i64 n') := RL1_11.cell 1
      have yL12_11 : (ur1_9).cell? ⟨w.heap.size + 1, 2, none⟩ = some (.string name') := RL1_11.cell 2
      have yL13_11 : (ur1_9).cell? ⟨w.heap.size + 1, 3, none⟩ = some (v3') := RL1_11.cell 3
      refine hK.out _ _ ?_ (fun hHeld => ?_)
      · ((try dsimp only); refine ⟨?_, ?_, ?_, ?_, ?_, ?_, ?_, ?_⟩ <;> assumption)
      clear hK K
      try simp only [Act.put, List.setIfInBounds_toArray, List.set_cons_zero, List.set_cons_succ]
      refine reg_call (i := 5) (by kernel_rfl) rfl (fun K hK => ?_)
      go_simp
      refine (specPutVar_u d op n name kids (.slice Aar0_6 kids.length par0_6) nm d' op' n' name' kids' (.slice Aar1_9 kids'.length par1_9) ur1_9 (ws1.drew.alloc (.cells #[.int .i64 0, .int .i64 0, .string ⟨#[]⟩, .slice none 0 0] 30)).heap.size ur0_6.heap.size ur0_6.heap.size ur1_9.heap.size (by omega) (by omega) hN0 h0 h1 h2 Xa0_11 hN1 h0' h1' h2' qar1_9).mono ?_
      rintro e vr_12 ⟨v3', he, hx, evr_12⟩
      rw [hR.out] at he hx
      obtain ⟨Ar_12, pr_12, hw, _, _⟩ := (exT_kids 12 (hx false)).form
      change _ = Value.slice Ar_12 zk.length pr_12 at hw
      subst hw
      change _ = Ending.returned (.tuple #[.agg #[.int .i64 zop, .int .i64 zn, .string znm, .slice Ar_12 zk.length pr_12], .bool rb]) at he
      subst he
      have qzr_12 := exT_kids 12 (hx false)
      change SlT false (exT false 12) vr_12 ur1_9.heap.size vr_12.heap.size zk (.slice Ar_12 zk.length pr_12) at qzr_12
      have tzr_12 := exT_kids 12 (hx true)
      change SlT true (exT true 12) vr_12 ur1_9.heap.size vr_12.heap.size zk (.slice Ar_12 zk.length pr_12) at tzr_12
      clear hx
      have bp13 : Below ws1.heap.size ws1 vr_12 := bp10.trans (evr_12.mono bp10.size)
      have hb14 : Below w.heap.size w vr_12 := hb11.trans (evr_12.mono hb11.size)
      have sz14 : (ur1_9).heap.size ≤ vr_12.heap.size := evr_12.size
      have RL0_14 : Row (vr_12) (w.heap.size) 24 #[.int .i64 op, .int .i64 n, .string name, v3] := RL0_11.below evr_12 RL0_11.lt
      have RL1_14 : Row (vr_12) (w.heap.size + 1) 24 #[.int .i64 op', .int .i64 n', .string name', v3'] := RL1_11.below evr_12 RL1_11.lt
      have RN_14 : Row (vr_12) (ws1.heap.size) 30 #[.int .i64 0, .int .i64 0, .string ⟨#[]⟩, .slice none 0 0] := RN_11.below evr_12 RN_11.lt
      clear yL00_11 yL01_11 yL02_11 yL03_11 yL10_11 yL11_11 yL12_11 yL13_11
      clear RL0_11 RL1_11 RN_11
      have yL00_14 : (vr_12).cell? ⟨w.heap.size, 0, none⟩ = some (.int .i64 op) := RL0_14.cell 0
      have yL01_14 : (vr_12).cell? ⟨w.heap.size, 1, none⟩ = some (.int .i64 n) := RL0_14.cell 1
      have yL02_14 : (vr_12).cell? ⟨w.heap.size, 2, none⟩ = some (.string name) := RL0_14.cell 2
      have yL03_14 : (vr_12).cell? ⟨w.heap.size, 3, none⟩ = some (v3) := RL0_14.cell 3
      have yL10_14 : (vr_12).cell? ⟨w.heap.size + 1, 0, none⟩ = some (.int .i64 op') := RL1_14.cell 0
      have yL11_14 : (vr_12).cell? ⟨w.heap.size + 1, 1, none⟩ = some (.int .i64 n') := RL1_14.cell 1
      have yL12_14 : (vr_12).cell? ⟨w.heap.size + 1, 2, none⟩ = some (.string name') := RL1_14.cell 2
      have yL13_14 : (vr_12).cell? ⟨w.heap.size + 1, 3, none⟩ = some (v3') := RL1_14.cell 3
      refine hK.out _ _ ?_ (fun hHeld => ?_)
      · ((try dsimp only); refine ⟨?_, ?_, ?_, ?_, ?_, ?_, ?_, ?_⟩ <;> assumption)
      clear hK K
      try simp only [Act.put, List.setIfInBounds_toArray, List.set_cons_zero, List.set_cons_succ]
      refine reg_take (i := 6) (v := ?v16) rfl (by kernel_rfl) (by kernel_rfl) (by kernel_rfl) (fun _ _ _ h => h) (Or.inl ⟨by kernel_rfl, ?h16⟩) (by assumption) ?r16
      case h16 => (intro w hSw; (try dsimp only at hSw); go_simp; try with_reducible rfl)
      try simp only [Act.put, List.setIfInBounds_toArray, List.set_cons_zero, List.set_cons_succ]
      refine reg_take (i := 7) (v := ?v17) rfl (by kernel_rfl) (by kernel_rfl) (by kernel_rfl) (fun _ _ _ h => h) (Or.inl ⟨by kernel_rfl, ?h17⟩) (by assumption) ?r17
      case h17 => (intro w hSw; (try dsimp only at hSw); go_simp; try with_reducible rfl)
      try simp only [Act.put, List.setIfInBounds_toArray, List.set_cons_zero, List.set_cons_succ]
      refine reg_take (i := 8) (v := ?v18) rfl (by kernel_rfl) (by kernel_rfl) (by kernel_rfl) (fun _ _ _ h => h) (Or.inl ⟨by kernel_rfl, ?h18⟩) (by assumption) ?r18
      case h18 => (intro w hSw; (try dsimp only at hSw); go_simp; try with_reducible rfl)
      try simp only [Act.put, List.setIfInBounds_toArray, List.set_cons_zero, List.set_cons_succ]
      clear yL00_14 yL01_14 yL02_14 yL03_14 yL10_14 yL11_14 yL12_14 yL13_14
      have yN0_14 : (vr_12).cell? ⟨ws1.heap.size, 0, none⟩ = some (.int .i64 0) := RN_14.cell 0
      have yN1_14 : (vr_12).cell? ⟨ws1.heap.size, 1, none⟩ = some (.int .i64 0) := RN_14.cell 1
      have yN2_14 : (vr_12).cell? ⟨ws1.heap.size, 2, none⟩ = some (.string ⟨#[]⟩) := RN_14.cell 2
      have yN3_14 : (vr_12).cell? ⟨ws1.heap.size, 3, none⟩ = some (.slice none 0 0) := RN_14.cell 3
      have nf0 : (vr_12).frozen? ⟨ws1.heap.size, 0, none⟩ = false := RN_14.frozen 0
      have nf1 : (vr_12).frozen? ⟨ws1.heap.size, 1, none⟩ = false := RN_14.frozen 1
      have nf2 : (vr_12).frozen? ⟨ws1.heap.size, 2, none⟩ = false := RN_14.frozen 2
      have nf3 : (vr_12).frozen? ⟨ws1.heap.size, 3, none⟩ = false := RN_14.frozen 3
      refine reg_call (i := 10) (by kernel_rfl) rfl (fun K hK => ?_)
      go_simp
      clear yN0_14 yN1_14 yN2_14 yN3_14
      clear nf0 nf1 nf2 nf3
      have FL0 : Row (((((vr_12).setCell ⟨ws1.heap.size, 0, none⟩ (.int .i64 zop)).setCell ⟨ws1.heap.size, 1, none⟩ (.int .i64 zn)).setCell ⟨ws1.heap.size, 2, none⟩ (.string znm)).setCell ⟨ws1.heap.size, 3, none⟩ (.slice Ar_12 zk.length pr_12)) (w.heap.size) 24 #[.int .i64 op, .int .i64 n, .string name, v3] := ((((RL0_14.far (p := ⟨ws1.heap.size, 0, none⟩) (by simp; omega) (.int .i64 zop)).far (p := ⟨ws1.heap.size, 1, none⟩) (by simp; omega) (.int .i64 zn)).far (p := ⟨ws1.heap.size, 2, none⟩) (by simp; omega) (.string znm)).far (p := ⟨ws1.heap.size, 3, none⟩) (by simp; omega) (.slice Ar_12 zk.length pr_12))
      have FL1 : Row (((((vr_12).setCell ⟨ws1.heap.size, 0, none⟩ (.int .i64 zop)).setCell ⟨ws1.heap.size, 1, none⟩ (.int .i64 zn)).setCell ⟨ws1.heap.size, 2, none⟩ (.string znm)).setCell ⟨ws1.heap.size, 3, none⟩ (.slice Ar_12 zk.length pr_12)) (w.heap.size + 1) 24 #[.int .i64 op', .int .i64 n', .string name', v3'] := ((((RL1_14.far (p := ⟨ws1.heap.size, 0, none⟩) (by simp; omega) (.int .i64 zop)).far (p := ⟨ws1.heap.size, 1, none⟩) (by simp; omega) (.int .i64 zn)).far (p := ⟨ws1.heap.size, 2, none⟩) (by simp; omega) (.string znm)).far (p := ⟨ws1.heap.size, 3, none⟩) (by simp; omega) (.slice Ar_12 zk.length pr_12))
      have yfL00 : (((((vr_12).setCell ⟨ws1.heap.size, 0, none⟩ (.int .i64 zop)).setCell ⟨ws1.heap.size, 1, none⟩ (.int .i64 zn)).setCell ⟨ws1.heap.size, 2, none⟩ (.string znm)).setCell ⟨ws1.heap.size, 3, none⟩ (.slice Ar_12 zk.length pr_12)).cell? ⟨w.heap.size, 0, none⟩ = some (.int .i64 op) := FL0.cell 0
      have yfL01 : (((((vr_12).setCell ⟨ws1.heap.size, 0, none⟩ (.int .i64 zop)).setCell ⟨ws1.heap.size, 1, none⟩ (.int .i64 zn)).setCell ⟨ws1.heap.size, 2, none⟩ (.string znm)).setCell ⟨ws1.heap.size, 3, none⟩ (.slice Ar_12 zk.length pr_12)).cell? ⟨w.heap.size, 1, none⟩ = some (.int .i64 n) := FL0.cell 1
      have yfL02 : (((((vr_12).setCell ⟨ws1.heap.size, 0, none⟩ (.int .i64 zop)).setCell ⟨ws1.heap.size, 1, none⟩ (.int .i64 zn)).setCell ⟨ws1.heap.size, 2, none⟩ (.string znm)).setCell ⟨ws1.heap.size, 3, none⟩ (.slice Ar_12 zk.length pr_12)).cell? ⟨w.heap.size, 2, none⟩ = some (.string name) := FL0.cell 2
      have yfL03 : (((((vr_12).setCell ⟨ws1.heap.size, 0, none⟩ (.int .i64 zop)).setCell ⟨ws1.heap.size, 1, none⟩ (.int .i64 zn)).setCell ⟨ws1.heap.size, 2, none⟩ (.string znm)).setCell ⟨ws1.heap.size, 3, none⟩ (.slice Ar_12 zk.length pr_12)).cell? ⟨w.heap.size, 3, none⟩ = some (v3) := FL0.cell 3
      have yfL10 : (((((vr_12).setCell ⟨ws1.heap.size, 0, none⟩ (.int .i64 zop)).setCell ⟨ws1.heap.size, 1, none⟩ (.int .i64 zn)).setCell ⟨ws1.heap.size, 2, none⟩ (.string znm)).setCell ⟨ws1.heap.size, 3, none⟩ (.slice Ar_12 zk.length pr_12)).cell? ⟨w.heap.size + 1, 0, none⟩ = some (.int .i64 op') := FL1.cell 0
      have yfL11 : (((((vr_12).setCell ⟨ws1.heap.size, 0, none⟩ (.int .i64 zop)).setCell ⟨ws1.heap.size, 1, none⟩ (.int .i64 zn)).setCell ⟨ws1.heap.size, 2, none⟩ (.string znm)).setCell ⟨ws1.heap.size, 3, none⟩ (.slice Ar_12 zk.length pr_12)).cell? ⟨w.heap.size + 1, 1, none⟩ = some (.int .i64 n') := FL1.cell 1
      have yfL12 : (((((vr_12).setCell ⟨ws1.heap.size, 0, none⟩ (.int .i64 zop)).setCell ⟨ws1.heap.size, 1, none⟩ (.int .i64 zn)).setCell ⟨ws1.heap.size, 2, none⟩ (.string znm)).setCell ⟨ws1.heap.size, 3, none⟩ (.slice Ar_12 zk.length pr_12)).cell? ⟨w.heap.size + 1, 2, none⟩ = some (.string name') := FL1.cell 2
      have yfL13 : (((((vr_12).setCell ⟨ws1.heap.size, 0, none⟩ (.int .i64 zop)).setCell ⟨ws1.heap.size, 1, none⟩ (.int .i64 zn)).setCell ⟨ws1.heap.size, 2, none⟩ (.string znm)).setCell ⟨ws1.heap.size, 3, none⟩ (.slice Ar_12 zk.length pr_12)).cell? ⟨w.heap.size + 1, 3, none⟩ = some (v3') := FL1.cell 3
      refine hK.out _ _ ?_ (fun hHeld => ?_)
      · exact ⟨yfL00, yfL01, yfL02, yfL03, yfL10, yfL11, yfL12, yfL13⟩
      clear hK K
      try simp only [Act.put, List.setIfInBounds_toArray, List.set_cons_zero, List.set_cons_succ]
      refine reg_take (i := 11) (v := ?v19) rfl (by kernel_rfl) (by kernel_rfl) (by kernel_rfl) (fun _ _ _ h => h) (Or.inl ⟨by kernel_rfl, ?h19⟩) (by assumption) ?r19
      case h19 => (intro w hSw; (try dsimp only at hSw); go_simp; try with_reducible rfl)
      try simp only [Act.put, List.setIfInBounds_toArray, List.set_cons_zero, List.set_cons_succ]
      refine wpAnyH_done (by kernel_rfl) ?_ _
      go_wp2_with fail
      go_meet
      exact ⟨ws1.heap.size, ur1_9.heap.size, vr_12.heap.size, Ar_12, pr_12, rfl, rfl, ((((RN_14.set_ 0 (.int .i64 zop)).set_ 1 (.int .i64 zn)).set_ 2 (.string znm)).set_ 3 (.slice Ar_12 zk.length pr_12)), by first | (left; omega) | (right; omega) | (left; simp; omega) | (right; simp; omega), by first | omega | (simp; omega), by first | omega | (simp; omega), (by simp [World.setCell]), qzr_12.keep (Nat.le_refl _) (Nat.le_refl _) (((((Same.refl _ _ _).setCell (p := ⟨ws1.heap.size, 0, none⟩) (by first | (left; simp; done) | (left; dsimp only; omega) | (right; dsimp only; omega) | (left; simp; omega) | (right; simp; omega)) (.int .i64 zop)).setCell (p := ⟨ws1.heap.size, 1, none⟩) (by first | (left; simp; done) | (left; dsimp only; omega) | (right; dsimp only; omega) | (left; simp; omega) | (right; simp; omega)) (.int .i64 zn)).setCell (p := ⟨ws1.heap.size, 2, none⟩) (by first | (left; simp; done) | (left; dsimp only; omega) | (right; dsimp only; omega) | (left; simp; omega) | (right; simp; omega)) (.string znm)).setCell (p := ⟨ws1.heap.size, 3, none⟩) (by first | (left; simp; done) | (left; dsimp only; omega) | (right; dsimp only; omega) | (left; simp; omega) | (right; simp; omega)) (.slice Ar_12 zk.length pr_12)), tzr_12.keep (Nat.le_refl _) (Nat.le_refl _) (((((Same.refl _ _ _).setCell (p := ⟨ws1.heap.size, 0, none⟩) (by first | (left; simp; done) | (left; dsimp only; omega) | (right; dsimp only; omega) | (left; simp; omega) | (right; simp; omega)) (.int .i64 zop)).setCell (p := ⟨ws1.heap.size, 1, none⟩) (by first | (left; simp; done) | (left; dsimp only; omega) | (right; dsimp only; omega) | (left; simp; omega) | (right; simp; omega)) (.int .i64 zn)).setCell (p := ⟨ws1.heap.size, 2, none⟩) (by first | (left; simp; done) | (left; dsimp only; omega) | (right; dsimp only; omega) | (left; simp; omega) | (right; simp; omega)) (.string znm)).setCell (p := ⟨ws1.heap.size, 3, none⟩) (by first | (left; simp; done) | (left; dsimp only; omega) | (right; dsimp only; omega) | (left; simp; omega) | (right; simp; omega)) (.slice Ar_12 zk.length pr_12)), ((((bp13.setCell (p := ⟨ws1.heap.size, 0, none⟩) (by first | (simp; done) | (simp; omega)) (.int .i64 zop)).setCell (p := ⟨ws1.heap.size, 1, none⟩) (by first | (simp; done) | (simp; omega)) (.int .i64 zn)).setCell (p := ⟨ws1.heap.size, 2, none⟩) (by first | (simp; done) | (simp; omega)) (.string znm)).setCell (p := ⟨ws1.heap.size, 3, none⟩) (by first | (simp; done) | (simp; omega)) (.slice Ar_12 zk.length pr_12))⟩
  rename World => wxr
  obtain ⟨gr, lor, hir, Ar, pr, rfl, rfl, RWr, gdr, glr, llr, hhr, qzr, tzr, bxr⟩ := hcut
  have hb1501 : Below w.heap.size w wxr := hb2.trans (bxr.mono hb2.size)
  have sz1501 : (ws1).heap.size ≤ wxr.heap.size := bxr.size
  have RL0_1501 : Row (wxr) (w.heap.size) 24 #[.int .i64 op, .int .i64 n, .string name, v3] := RL0_2.below bxr RL0_2.lt
  have RL1_1501 : Row (wxr) (w.heap.size + 1) 24 #[.int .i64 op', .int .i64 n', .string name', v3'] := RL1_2.below bxr RL1_2.lt
  clear RL0_2 RL1_2
  have ggr := RWr.lt
  have yL00_1501 : (wxr).cell? ⟨w.heap.size, 0, none⟩ = some (.int .i64 op) := RL0_1501.cell 0
  have yL01_1501 : (wxr).cell? ⟨w.heap.size, 1, none⟩ = some (.int .i64 n) := RL0_1501.cell 1
  have yL02_1501 : (wxr).cell? ⟨w.heap.size, 2, none⟩ = some (.string name) := RL0_1501.cell 2
  have yL03_1501 : (wxr).cell? ⟨w.heap.size, 3, none⟩ = some (v3) := RL0_1501.cell 3
  go_wp2_with fail
  refine (to_Expr d op n name kids v3 _ 0 w.heap.size hb1501.size hN0 h0 h1 h2 (h3.below hb1501 (Nat.le_refl _))).mono ?_
  rintro e ux0 ⟨cs, rfl, hx, ex0⟩
  obtain ⟨xx0, hcs, -, -, -, qx0⟩ := ex_open d (hx false)
  change _ = [.int .i64 op, .int .i64 n, .string name, xx0] at hcs
  subst hcs
  have tx0 := ex_sl3 d (hx true)
  clear hx
  obtain ⟨Ax0, px0, hf, _, _⟩ := qx0.form
  change _ = Value.slice Ax0 kids.length px0 at hf
  subst hf
  have hb1502 : Below w.heap.size w ux0 := hb1501.trans (ex0.mono hb1501.size)
  have sz1502 : (wxr).heap.size ≤ ux0.heap.size := ex0.size
  have RL0_1502 : Row (ux0) (w.heap.size) 24 #[.int .i64 op, .int .i64 n, .string name, v3] := RL0_1501.below ex0 RL0_1501.lt
  have RL1_1502 : Row (ux0) (w.heap.size + 1) 24 #[.int .i64 op', .int .i64 n', .string name', v3'] := RL1_1501.below ex0 RL1_1501.lt
  have RW_1502 : Row (ux0) (gr) 30 #[.int .i64 zop, .int .i64 zn, .string znm, .slice Ar zk.length pr] := RWr.below ex0 RWr.lt
  have Xqzr_1502 : SlT false (exT false 12) (ux0) lor hir zk (.slice Ar zk.length pr) := qzr.below ex0 (by first | omega | (simp; omega) | (simp at *; omega))
  have Xtzr_1502 : SlT true (exT true 12) (ux0) lor hir zk (.slice Ar zk.length pr) := tzr.below ex0 (by first | omega | (simp; omega) | (simp at *; omega))
  clear yL00_1501 yL01_1501 yL02_1501 yL03_1501
  clear RL0_1501 RL1_1501 RWr qzr tzr
  have hb1503 : Below w.heap.size w (ux0.alloc (.cells #[.int .i64 op, .int .i64 n, .string name, .slice Ax0 kids.length px0] 30)) := hb1502.alloc hb1502.size _
  have sz1503 : ux0.heap.size < (ux0.alloc (.cells #[.int .i64 op, .int .i64 n, .string name, .slice Ax0 kids.length px0] 30)).heap.size := by simp
  have RL0_1503 : Row (ux0.alloc (.cells #[.int .i64 op, .int .i64 n, .string name, .slice Ax0 kids.length px0] 30)) (w.heap.size) 24 #[.int .i64 op, .int .i64 n, .string name, v3] := RL0_1502.alloc _
  have RL1_1503 : Row (ux0.alloc (.cells #[.int .i64 op, .int .i64 n, .string name, .slice Ax0 kids.length px0] 30)) (w.heap.size + 1) 24 #[.int .i64 op', .int .i64 n', .string name', v3'] := RL1_1502.alloc _
  have RW_1503 : Row (ux0.alloc (.cells #[.int .i64 op, .int .i64 n, .string name, .slice Ax0 kids.length px0] 30)) (gr) 30 #[.int .i64 zop, .int .i64 zn, .string znm, .slice Ar zk.length pr] := RW_1502.alloc _
  have Xqzr_1503 : SlT false (exT false 12) (ux0.alloc (.cells #[.int .i64 op, .int .i64 n, .string name, .slice Ax0 kids.length px0] 30)) lor hir zk (.slice Ar zk.length pr) := Xqzr_1502.keep (Nat.le_refl _) (Nat.le_refl _) (fun b h1 h2 => Below.heap_alloc _ _ b (by omega))
  have Xtzr_1503 : SlT true (exT true 12) (ux0.alloc (.cells #[.int .i64 op, .int .i64 n, .string name, .slice Ax0 kids.length px0] 30)) lor hir zk (.slice Ar zk.length pr) := Xtzr_1502.keep (Nat.le_refl _) (Nat.le_refl _) (fun b h1 h2 => Below.heap_alloc _ _ b (by omega))
  have Xqx0_1503 : Sl false (exS false d) (ux0.alloc (.cells #[.int .i64 op, .int .i64 n, .string name, .slice Ax0 kids.length px0] 30)) wxr.heap.size ux0.heap.size kids (.slice Ax0 kids.length px0) := qx0.keep (Nat.le_refl _) (Nat.le_refl _) (fun b h1 h2 => Below.heap_alloc _ _ b (by omega))
  have Xtx0_1503 : Sl true (exS true d) (ux0.alloc (.cells #[.int .i64 op, .int .i64 n, .string name, .slice Ax0 kids.length px0] 30)) wxr.heap.size ux0.heap.size kids (.slice Ax0 kids.length px0) := tx0.keep (Nat.le_refl _) (Nat.le_refl _) (fun b h1 h2 => Below.heap_alloc _ _ b (by omega))
  clear RL0_1502 RL1_1502 RW_1502 Xqzr_1502 Xtzr_1502 qx0 tx0
  have RX0_1503 : Row (ux0.alloc (.cells #[.int .i64 op, .int .i64 n, .string name, .slice Ax0 kids.length px0] 30)) ux0.heap.size 30 #[.int .i64 op, .int .i64 n, .string name, .slice Ax0 kids.length px0] := Row.new _ _ _
  have yL10_1503 : (ux0.alloc (.cells #[.int .i64 op, .int .i64 n, .string name, .slice Ax0 kids.length px0] 30)).cell? ⟨w.heap.size + 1, 0, none⟩ = some (.int .i64 op') := RL1_1503.cell 0
  have yL11_1503 : (ux0.alloc (.cells #[.int .i64 op, .int .i64 n, .string name, .slice Ax0 kids.length px0] 30)).cell? ⟨w.heap.size + 1, 1, none⟩ = some (.int .i64 n') := RL1_1503.cell 1
  have yL12_1503 : (ux0.alloc (.cells #[.int .i64 op, .int .i64 n, .string name, .slice Ax0 kids.length px0] 30)).cell? ⟨w.heap.size + 1, 2, none⟩ = some (.string name') := RL1_1503.cell 2
  have yL13_1503 : (ux0.alloc (.cells #[.int .i64 op, .int .i64 n, .string name, .slice Ax0 kids.length px0] 30)).cell? ⟨w.heap.size + 1, 3, none⟩ = some (v3') := RL1_1503.cell 3
  go_wp2_with fail
  refine (to_Expr d' op' n' name' kids' v3' _ 0 w.heap.size hb1503.size hN1 h0' h1' h2' (h3'.below hb1503 (Nat.le_refl _))).mono ?_
  rintro e ux1 ⟨cs, rfl, hx, ex1⟩
  obtain ⟨xx1, hcs, -, -, -, qx1⟩ := ex_open d' (hx false)
  change _ = [.int .i64 op', .int .i64 n', .string name', xx1] at hcs
  subst hcs
  have tx1 := ex_sl3 d' (hx true)
  clear hx
  obtain ⟨Ax1, px1, hf, _, _⟩ := qx1.form
  change _ = Value.slice Ax1 kids'.length px1 at hf
  subst hf
  have hb1504 : Below w.heap.size w ux1 := hb1503.trans (ex1.mono hb1503.size)
  have sz1504 : (ux0.alloc (.cells #[.int .i64 op, .int .i64 n, .string name, .slice Ax0 kids.length px0] 30)).heap.size ≤ ux1.heap.size := ex1.size
  have RL0_1504 : Row (ux1) (w.heap.size) 24 #[.int .i64 op, .int .i64 n, .string name, v3] := RL0_1503.below ex1 RL0_1503.lt
  have RL1_1504 : Row (ux1) (w.heap.size + 1) 24 #[.int .i64 op', .int .i64 n', .string name', v3'] := RL1_1503.below ex1 RL1_1503.lt
  have RW_1504 : Row (ux1) (gr) 30 #[.int .i64 zop, .int .i64 zn, .string znm, .slice Ar zk.length pr] := RW_1503.below ex1 RW_1503.lt
  have RX0_1504 : Row (ux1) (ux0.heap.size) 30 #[.int .i64 op, .int .i64 n, .string name, .slice Ax0 kids.length px0] := RX0_1503.below ex1 RX0_1503.lt
  have Xqzr_1504 : SlT false (exT false 12) (ux1) lor hir zk (.slice Ar zk.length pr) := Xqzr_1503.below ex1 (by first | omega | (simp; omega) | (simp at *; omega))
  have Xtzr_1504 : SlT true (exT true 12) (ux1) lor hir zk (.slice Ar zk.length pr) := Xtzr_1503.below ex1 (by first | omega | (simp; omega) | (simp at *; omega))
  have Xqx0_1504 : Sl false (exS false d) (ux1) wxr.heap.size ux0.heap.size kids (.slice Ax0 kids.length px0) := Xqx0_1503.below ex1 (by first | omega | (simp; omega) | (simp at *; omega))
  have Xtx0_1504 : Sl true (exS true d) (ux1) wxr.heap.size ux0.heap.size kids (.slice Ax0 kids.length px0) := Xtx0_1503.below ex1 (by first | omega | (simp; omega) | (simp at *; omega))
  clear yL10_1503 yL11_1503 yL12_1503 yL13_1503
  clear RL0_1503 RL1_1503 RW_1503 RX0_1503 Xqzr_1503 Xtzr_1503 Xqx0_1503 Xtx0_1503
  have hb1505 : Below w.heap.size w (ux1.alloc (.cells #[.int .i64 op', .int .i64 n', .string name', .slice Ax1 kids'.length px1] 30)) := hb1504.alloc hb1504.size _
  have sz1505 : ux1.heap.size < (ux1.alloc (.cells #[.int .i64 op', .int .i64 n', .string name', .slice Ax1 kids'.length px1] 30)).heap.size := by simp
  have RL0_1505 : Row (ux1.alloc (.cells #[.int .i64 op', .int .i64 n', .string name', .slice Ax1 kids'.length px1] 30)) (w.heap.size) 24 #[.int .i64 op, .int .i64 n, .string name, v3] := RL0_1504.alloc _
  have RL1_1505 : Row (ux1.alloc (.cells #[.int .i64 op', .int .i64 n', .string name', .slice Ax1 kids'.length px1] 30)) (w.heap.size + 1) 24 #[.int .i64 op', .int .i64 n', .string name', v3'] := RL1_1504.alloc _
  have RW_1505 : Row (ux1.alloc (.cells #[.int .i64 op', .int .i64 n', .string name', .slice Ax1 kids'.length px1] 30)) (gr) 30 #[.int .i64 zop, .int .i64 zn, .string znm, .slice Ar zk.length pr] := RW_1504.alloc _
  have RX0_1505 : Row (ux1.alloc (.cells #[.int .i64 op', .int .i64 n', .string name', .slice Ax1 kids'.length px1] 30)) (ux0.heap.size) 30 #[.int .i64 op, .int .i64 n, .string name, .slice Ax0 kids.length px0] := RX0_1504.alloc _
  have Xqzr_1505 : SlT false (exT false 12) (ux1.alloc (.cells #[.int .i64 op', .int .i64 n', .string name', .slice Ax1 kids'.length px1] 30)) lor hir zk (.slice Ar zk.length pr) := Xqzr_1504.keep (Nat.le_refl _) (Nat.le_refl _) (fun b h1 h2 => Below.heap_alloc _ _ b (by omega))
  have Xtzr_1505 : SlT true (exT true 12) (ux1.alloc (.cells #[.int .i64 op', .int .i64 n', .string name', .slice Ax1 kids'.length px1] 30)) lor hir zk (.slice Ar zk.length pr) := Xtzr_1504.keep (Nat.le_refl _) (Nat.le_refl _) (fun b h1 h2 => Below.heap_alloc _ _ b (by omega))
  have Xqx0_1505 : Sl false (exS false d) (ux1.alloc (.cells #[.int .i64 op', .int .i64 n', .string name', .slice Ax1 kids'.length px1] 30)) wxr.heap.size ux0.heap.size kids (.slice Ax0 kids.length px0) := Xqx0_1504.keep (Nat.le_refl _) (Nat.le_refl _) (fun b h1 h2 => Below.heap_alloc _ _ b (by omega))
  have Xtx0_1505 : Sl true (exS true d) (ux1.alloc (.cells #[.int .i64 op', .int .i64 n', .string name', .slice Ax1 kids'.length px1] 30)) wxr.heap.size ux0.heap.size kids (.slice Ax0 kids.length px0) := Xtx0_1504.keep (Nat.le_refl _) (Nat.le_refl _) (fun b h1 h2 => Below.heap_alloc _ _ b (by omega))
  have Xqx1_1505 : Sl false (exS false d') (ux1.alloc (.cells #[.int .i64 op', .int .i64 n', .string name', .slice Ax1 kids'.length px1] 30)) (ux0.alloc (.cells #[.int .i64 op, .int .i64 n, .string name, .slice Ax0 kids.length px0] 30)).heap.size ux1.heap.size kids' (.slice Ax1 kids'.length px1) := qx1.keep (Nat.le_refl _) (Nat.le_refl _) (fun b h1 h2 => Below.heap_alloc _ _ b (by omega))
  have Xtx1_1505 : Sl true (exS true d') (ux1.alloc (.cells #[.int .i64 op', .int .i64 n', .string name', .slice Ax1 kids'.length px1] 30)) (ux0.alloc (.cells #[.int .i64 op, .int .i64 n, .string name, .slice Ax0 kids.length px0] 30)).heap.size ux1.heap.size kids' (.slice Ax1 kids'.length px1) := tx1.keep (Nat.le_refl _) (Nat.le_refl _) (fun b h1 h2 => Below.heap_alloc _ _ b (by omega))
  clear RL0_1504 RL1_1504 RW_1504 RX0_1504 Xqzr_1504 Xtzr_1504 Xqx0_1504 Xtx0_1504 qx1 tx1
  have RX1_1505 : Row (ux1.alloc (.cells #[.int .i64 op', .int .i64 n', .string name', .slice Ax1 kids'.length px1] 30)) ux1.heap.size 30 #[.int .i64 op', .int .i64 n', .string name', .slice Ax1 kids'.length px1] := Row.new _ _ _
  have yX00_1505 : (ux1.alloc (.cells #[.int .i64 op', .int .i64 n', .string name', .slice Ax1 kids'.length px1] 30)).cell? ⟨ux0.heap.size, 0, none⟩ = some (.int .i64 op) := RX0_1505.cell 0
  have yX01_1505 : (ux1.alloc (.cells #[.int .i64 op', .int .i64 n', .string name', .slice Ax1 kids'.length px1] 30)).cell? ⟨ux0.heap.size, 1, none⟩ = some (.int .i64 n) := RX0_1505.cell 1
  have yX02_1505 : (ux1.alloc (.cells #[.int .i64 op', .int .i64 n', .string name', .slice Ax1 kids'.length px1] 30)).cell? ⟨ux0.heap.size, 2, none⟩ = some (.string name) := RX0_1505.cell 2
  have yX03_1505 : (ux1.alloc (.cells #[.int .i64 op', .int .i64 n', .string name', .slice Ax1 kids'.length px1] 30)).cell? ⟨ux0.heap.size, 3, none⟩ = some (.slice Ax0 kids.length px0) := RX0_1505.cell 3
  have yX10_1505 : (ux1.alloc (.cells #[.int .i64 op', .int .i64 n', .string name', .slice Ax1 kids'.length px1] 30)).cell? ⟨ux1.heap.size, 0, none⟩ = some (.int .i64 op') := RX1_1505.cell 0
  have yX11_1505 : (ux1.alloc (.cells #[.int .i64 op', .int .i64 n', .string name', .slice Ax1 kids'.length px1] 30)).cell? ⟨ux1.heap.size, 1, none⟩ = some (.int .i64 n') := RX1_1505.cell 1
  have yX12_1505 : (ux1.alloc (.cells #[.int .i64 op', .int .i64 n', .string name', .slice Ax1 kids'.length px1] 30)).cell? ⟨ux1.heap.size, 2, none⟩ = some (.string name') := RX1_1505.cell 2
  have yX13_1505 : (ux1.alloc (.cells #[.int .i64 op', .int .i64 n', .string name', .slice Ax1 kids'.length px1] 30)).cell? ⟨ux1.heap.size, 3, none⟩ = some (.slice Ax1 kids'.length px1) := RX1_1505.cell 3
  go_wp2_with fail
  refine (implPutVar_u d op n name kids (.slice Ax0 kids.length px0) nm d' op' n' name' kids' (.slice Ax1 kids'.length px1) _ wxr.heap.size ux0.heap.size (ux0.alloc (.cells #[.int .i64 op, .int .i64 n, .string name, .slice Ax0 kids.length px0] 30)).heap.size ux1.heap.size (by first | omega | (simp; omega)) (by first | omega | (simp; omega)) hN0 h0 h1 h2 Xqx0_1505 hN1 h0' h1' h2' Xqx1_1505 (ht.below hb1505 (Nat.le_refl _))).mono ?_
  rintro e vg ⟨v3', he, hx, evg⟩
  rw [hR.out] at he hx
  obtain ⟨Ag, pg, hw, _, _⟩ := (exT_kids 12 (hx false)).form
  change _ = Value.slice Ag zk.length pg at hw
  subst hw
  change _ = Ending.returned (.tuple #[.agg #[.int .i64 zop, .int .i64 zn, .string znm, .slice Ag zk.length pg], .bool rb]) at he
  subst he
  have qzg := exT_kids 12 (hx false)
  change SlT false (exT false 12) vg (ux1.alloc (.cells #[.int .i64 op', .int .i64 n', .string name', .slice Ax1 kids'.length px1] 30)).heap.size vg.heap.size zk (.slice Ag zk.length pg) at qzg
  have tzg := exT_kids 12 (hx true)
  change SlT true (exT true 12) vg (ux1.alloc (.cells #[.int .i64 op', .int .i64 n', .string name', .slice Ax1 kids'.length px1] 30)).heap.size vg.heap.size zk (.slice Ag zk.length pg) at tzg
  clear hx
  have hb1506 : Below w.heap.size w vg := hb1505.trans (evg.mono hb1505.size)
  have sz1506 : (ux1.alloc (.cells #[.int .i64 op', .int .i64 n', .string name', .slice Ax1 kids'.length px1] 30)).heap.size ≤ vg.heap.size := evg.size
  have RL0_1506 : Row (vg) (w.heap.size) 24 #[.int .i64 op, .int .i64 n, .string name, v3] := RL0_1505.below evg RL0_1505.lt
  have RL1_1506 : Row (vg) (w.heap.size + 1) 24 #[.int .i64 op', .int .i64 n', .string name', v3'] := RL1_1505.below evg RL1_1505.lt
  have RW_1506 : Row (vg) (gr) 30 #[.int .i64 zop, .int .i64 zn, .string znm, .slice Ar zk.length pr] := RW_1505.below evg RW_1505.lt
  have RX0_1506 : Row (vg) (ux0.heap.size) 30 #[.int .i64 op, .int .i64 n, .string name, .slice Ax0 kids.length px0] := RX0_1505.below evg RX0_1505.lt
  have RX1_1506 : Row (vg) (ux1.heap.size) 30 #[.int .i64 op', .int .i64 n', .string name', .slice Ax1 kids'.length px1] := RX1_1505.below evg RX1_1505.lt
  have Xqzr_1506 : SlT false (exT false 12) (vg) lor hir zk (.slice Ar zk.length pr) := Xqzr_1505.below evg (by first | omega | (simp; omega) | (simp at *; omega))
  have Xtzr_1506 : SlT true (exT true 12) (vg) lor hir zk (.slice Ar zk.length pr) := Xtzr_1505.below evg (by first | omega | (simp; omega) | (simp at *; omega))
  have Xqx0_1506 : Sl false (exS false d) (vg) wxr.heap.size ux0.heap.size kids (.slice Ax0 kids.length px0) := Xqx0_1505.below evg (by first | omega | (simp; omega) | (simp at *; omega))
  have Xtx0_1506 : Sl true (exS true d) (vg) wxr.heap.size ux0.heap.size kids (.slice Ax0 kids.length px0) := Xtx0_1505.below evg (by first | omega | (simp; omega) | (simp at *; omega))
  have Xqx1_1506 : Sl false (exS false d') (vg) (ux0.alloc (.cells #[.int .i64 op, .int .i64 n, .string name, .slice Ax0 kids.length px0] 30)).heap.size ux1.heap.size kids' (.slice Ax1 kids'.length px1) := Xqx1_1505.below evg (by first | omega | (simp; omega) | (simp at *; omega))
  have Xtx1_1506 : Sl true (exS true d') (vg) (ux0.alloc (.cells #[.int .i64 op, .int .i64 n, .string name, .slice Ax0 kids.length px0] 30)).heap.size ux1.heap.size kids' (.slice Ax1 kids'.length px1) := Xtx1_1505.below evg (by first | omega | (simp; omega) | (simp at *; omega))
  clear yX00_1505 yX01_1505 yX02_1505 yX03_1505 yX10_1505 yX11_1505 yX12_1505 yX13_1505
  clear RL0_1505 RL1_1505 RW_1505 RX0_1505 RX1_1505 Xqzr_1505 Xtzr_1505 Xqx0_1505 Xtx0_1505 Xqx1_1505 Xtx1_1505
  have hb1507 : Below w.heap.size w (vg.alloc (.cells #[.int .i64 zop, .int .i64 zn, .string znm, .slice Ag zk.length pg] 30)) := hb1506.alloc hb1506.size _
  have sz1507 : vg.heap.size < (vg.alloc (.cells #[.int .i64 zop, .int .i64 zn, .string znm, .slice Ag zk.length pg] 30)).heap.size := by simp
  have RL0_1507 : Row (vg.alloc (.cells #[.int .i64 zop, .int .i64 zn, .string znm, .slice Ag zk.length pg] 30)) (w.heap.size) 24 #[.int .i64 op, .int .i64 n, .string name, v3] := RL0_1506.alloc _
  have RL1_1507 : Row (vg.alloc (.cells #[.int .i64 zop, .int .i64 zn, .string znm, .slice Ag zk.length pg] 30)) (w.heap.size + 1) 24 #[.int .i64 op', .int .i64 n', .string name', v3'] := RL1_1506.alloc _
  have RW_1507 : Row (vg.alloc (.cells #[.int .i64 zop, .int .i64 zn, .string znm, .slice Ag zk.length pg] 30)) (gr) 30 #[.int .i64 zop, .int .i64 zn, .string znm, .slice Ar zk.length pr] := RW_1506.alloc _
  have RX0_1507 : Row (vg.alloc (.cells #[.int .i64 zop, .int .i64 zn, .string znm, .slice Ag zk.length pg] 30)) (ux0.heap.size) 30 #[.int .i64 op, .int .i64 n, .string name, .slice Ax0 kids.length px0] := RX0_1506.alloc _
  have RX1_1507 : Row (vg.alloc (.cells #[.int .i64 zop, .int .i64 zn, .string znm, .slice Ag zk.length pg] 30)) (ux1.heap.size) 30 #[.int .i64 op', .int .i64 n', .string name', .slice Ax1 kids'.length px1] := RX1_1506.alloc _
  have Xqzr_1507 : SlT false (exT false 12) (vg.alloc (.cells #[.int .i64 zop, .int .i64 zn, .string znm, .slice Ag zk.length pg] 30)) lor hir zk (.slice Ar zk.length pr) := Xqzr_1506.keep (Nat.le_refl _) (Nat.le_refl _) (fun b h1 h2 => Below.heap_alloc _ _ b (by omega))
  have Xtzr_1507 : SlT true (exT true 12) (vg.alloc (.cells #[.int .i64 zop, .int .i64 zn, .string znm, .slice Ag zk.length pg] 30)) lor hir zk (.slice Ar zk.length pr) := Xtzr_1506.keep (Nat.le_refl _) (Nat.le_refl _) (fun b h1 h2 => Below.heap_alloc _ _ b (by omega))
  have Xqx0_1507 : Sl false (exS false d) (vg.alloc (.cells #[.int .i64 zop, .int .i64 zn, .string znm, .slice Ag zk.length pg] 30)) wxr.heap.size ux0.heap.size kids (.slice Ax0 kids.length px0) := Xqx0_1506.keep (Nat.le_refl _) (Nat.le_refl _) (fun b h1 h2 => Below.heap_alloc _ _ b (by omega))
  have Xtx0_1507 : Sl true (exS true d) (vg.alloc (.cells #[.int .i64 zop, .int .i64 zn, .string znm, .slice Ag zk.length pg] 30)) wxr.heap.size ux0.heap.size kids (.slice Ax0 kids.length px0) := Xtx0_1506.keep (Nat.le_refl _) (Nat.le_refl _) (fun b h1 h2 => Below.heap_alloc _ _ b (by omega))
  have Xqx1_1507 : Sl false (exS false d') (vg.alloc (.cells #[.int .i64 zop, .int .i64 zn, .string znm, .slice Ag zk.length pg] 30)) (ux0.alloc (.cells #[.int .i64 op, .int .i64 n, .string name, .slice Ax0 kids.length px0] 30)).heap.size ux1.heap.size kids' (.slice Ax1 kids'.length px1) := Xqx1_1506.keep (Nat.le_refl _) (Nat.le_refl _) (fun b h1 h2 => Below.heap_alloc _ _ b (by omega))
  have Xtx1_1507 : Sl true (exS true d') (vg.alloc (.cells #[.int .i64 zop, .int .i64 zn, .string znm, .slice Ag zk.length pg] 30)) (ux0.alloc (.cells #[.int .i64 op, .int .i64 n, .string name, .slice Ax0 kids.length px0] 30)).heap.size ux1.heap.size kids' (.slice Ax1 kids'.length px1) := Xtx1_1506.keep (Nat.le_refl _) (Nat.le_refl _) (fun b h1 h2 => Below.heap_alloc _ _ b (by omega))
  have Xqzg_1507 : SlT false (exT false 12) (vg.alloc (.cells #[.int .i64 zop, .int .i64 zn, .string znm, .slice Ag zk.length pg] 30)) (ux1.alloc (.cells #[.int .i64 op', .int .i64 n', .string name', .slice Ax1 kids'.length px1] 30)).heap.size vg.heap.size zk (.slice Ag zk.length pg) := qzg.keep (Nat.le_refl _) (Nat.le_refl _) (fun b h1 h2 => Below.heap_alloc _ _ b (by omega))
  have Xtzg_1507 : SlT true (exT true 12) (vg.alloc (.cells #[.int .i64 zop, .int .i64 zn, .string znm, .slice Ag zk.length pg] 30)) (ux1.alloc (.cells #[.int .i64 op', .int .i64 n', .string name', .slice Ax1 kids'.length px1] 30)).heap.size vg.heap.size zk (.slice Ag zk.length pg) := tzg.keep (Nat.le_refl _) (Nat.le_refl _) (fun b h1 h2 => Below.heap_alloc _ _ b (by omega))
  clear RL0_1506 RL1_1506 RW_1506 RX0_1506 RX1_1506 Xqzr_1506 Xtzr_1506 Xqx0_1506 Xtx0_1506 Xqx1_1506 Xtx1_1506 qzg tzg
  have RG_1507 : Row (vg.alloc (.cells #[.int .i64 zop, .int .i64 zn, .string znm, .slice Ag zk.length pg] 30)) vg.heap.size 30 #[.int .i64 zop, .int .i64 zn, .string znm, .slice Ag zk.length pg] := Row.new _ _ _
  have yW0_1507 : (vg.alloc (.cells #[.int .i64 zop, .int .i64 zn, .string znm, .slice Ag zk.length pg] 30)).cell? ⟨gr, 0, none⟩ = some (.int .i64 zop) := RW_1507.cell 0
  have yW1_1507 : (vg.alloc (.cells #[.int .i64 zop, .int .i64 zn, .string znm, .slice Ag zk.length pg] 30)).cell? ⟨gr, 1, none⟩ = some (.int .i64 zn) := RW_1507.cell 1
  have yW2_1507 : (vg.alloc (.cells #[.int .i64 zop, .int .i64 zn, .string znm, .slice Ag zk.length pg] 30)).cell? ⟨gr, 2, none⟩ = some (.string znm) := RW_1507.cell 2
  have yW3_1507 : (vg.alloc (.cells #[.int .i64 zop, .int .i64 zn, .string znm, .slice Ag zk.length pg] 30)).cell? ⟨gr, 3, none⟩ = some (.slice Ar zk.length pr) := RW_1507.cell 3
  have yG0_1507 : (vg.alloc (.cells #[.int .i64 zop, .int .i64 zn, .string znm, .slice Ag zk.length pg] 30)).cell? ⟨vg.heap.size, 0, none⟩ = some (.int .i64 zop) := RG_1507.cell 0
  have yG1_1507 : (vg.alloc (.cells #[.int .i64 zop, .int .i64 zn, .string znm, .slice Ag zk.length pg] 30)).cell? ⟨vg.heap.size, 1, none⟩ = some (.int .i64 zn) := RG_1507.cell 1
  have yG2_1507 : (vg.alloc (.cells #[.int .i64 zop, .int .i64 zn, .string znm, .slice Ag zk.length pg] 30)).cell? ⟨vg.heap.size, 2, none⟩ = some (.string znm) := RG_1507.cell 2
  have yG3_1507 : (vg.alloc (.cells #[.int .i64 zop, .int .i64 zn, .string znm, .slice Ag zk.length pg] 30)).cell? ⟨vg.heap.size, 3, none⟩ = some (.slice Ag zk.length pg) := RG_1507.cell 3
  go_wp2_with fail
  refine (eq_Expr 12 zop zn znm zk (.slice Ag zk.length pg) (.slice Ar zk.length pr) _ (ux1.alloc (.cells #[.int .i64 op', .int .i64 n', .string name', .slice Ax1 kids'.length px1] 30)).heap.size vg.heap.size lor hir (by first | omega | (simp; omega)) (by first | omega | (simp; omega)) Xqzg_1507.exS Xqzr_1507.exS).mono ?_
  rintro e j1 ⟨rfl, e_j1⟩
  have hb1508 : Below w.heap.size w j1 := hb1507.trans (e_j1.mono hb1507.size)
  have sz1508 : (vg.alloc (.cells #[.int .i64 zop, .int .i64 zn, .string znm, .slice Ag zk.length pg] 30)).heap.size ≤ j1.heap.size := e_j1.size
  have RL0_1508 : Row (j1) (w.heap.size) 24 #[.int .i64 op, .int .i64 n, .string name, v3] := RL0_1507.below e_j1 RL0_1507.lt
  have RL1_1508 : Row (j1) (w.heap.size + 1) 24 #[.int .i64 op', .int .i64 n', .string name', v3'] := RL1_1507.below e_j1 RL1_1507.lt
  have RW_1508 : Row (j1) (gr) 30 #[.int .i64 zop, .int .i64 zn, .string znm, .slice Ar zk.length pr] := RW_1507.below e_j1 RW_1507.lt
  have RX0_1508 : Row (j1) (ux0.heap.size) 30 #[.int .i64 op, .int .i64 n, .string name, .slice Ax0 kids.length px0] := RX0_1507.below e_j1 RX0_1507.lt
  have RX1_1508 : Row (j1) (ux1.heap.size) 30 #[.int .i64 op', .int .i64 n', .string name', .slice Ax1 kids'.length px1] := RX1_1507.below e_j1 RX1_1507.lt
  have RG_1508 : Row (j1) (vg.heap.size) 30 #[.int .i64 zop, .int .i64 zn, .string znm, .slice Ag zk.length pg] := RG_1507.below e_j1 RG_1507.lt
  have Xqzr_1508 : SlT false (exT false 12) (j1) lor hir zk (.slice Ar zk.length pr) := Xqzr_1507.below e_j1 (by first | omega | (simp; omega) | (simp at *; omega))
  have Xtzr_1508 : SlT true (exT true 12) (j1) lor hir zk (.slice Ar zk.length pr) := Xtzr_1507.below e_j1 (by first | omega | (simp; omega) | (simp at *; omega))
  have Xqx0_1508 : Sl false (exS false d) (j1) wxr.heap.size ux0.heap.size kids (.slice Ax0 kids.length px0) := Xqx0_1507.below e_j1 (by first | omega | (simp; omega) | (simp at *; omega))
  have Xtx0_1508 : Sl true (exS true d) (j1) wxr.heap.size ux0.heap.size kids (.slice Ax0 kids.length px0) := Xtx0_1507.below e_j1 (by first | omega | (simp; omega) | (simp at *; omega))
  have Xqx1_1508 : Sl false (exS false d') (j1) (ux0.alloc (.cells #[.int .i64 op, .int .i64 n, .string name, .slice Ax0 kids.length px0] 30)).heap.size ux1.heap.size kids' (.slice Ax1 kids'.length px1) := Xqx1_1507.below e_j1 (by first | omega | (simp; omega) | (simp at *; omega))
  have Xtx1_1508 : Sl true (exS true d') (j1) (ux0.alloc (.cells #[.int .i64 op, .int .i64 n, .string name, .slice Ax0 kids.length px0] 30)).heap.size ux1.heap.size kids' (.slice Ax1 kids'.length px1) := Xtx1_1507.below e_j1 (by first | omega | (simp; omega) | (simp at *; omega))
  have Xqzg_1508 : SlT false (exT false 12) (j1) (ux1.alloc (.cells #[.int .i64 op', .int .i64 n', .string name', .slice Ax1 kids'.length px1] 30)).heap.size vg.heap.size zk (.slice Ag zk.length pg) := Xqzg_1507.below e_j1 (by first | omega | (simp; omega) | (simp at *; omega))
  have Xtzg_1508 : SlT true (exT true 12) (j1) (ux1.alloc (.cells #[.int .i64 op', .int .i64 n', .string name', .slice Ax1 kids'.length px1] 30)).heap.size vg.heap.size zk (.slice Ag zk.length pg) := Xtzg_1507.below e_j1 (by first | omega | (simp; omega) | (simp at *; omega))
  clear yW0_1507 yW1_1507 yW2_1507 yW3_1507 yG0_1507 yG1_1507 yG2_1507 yG3_1507
  clear RL0_1507 RL1_1507 RW_1507 RX0_1507 RX1_1507 RG_1507 Xqzr_1507 Xtzr_1507 Xqx0_1507 Xtx0_1507 Xqx1_1507 Xtx1_1507 Xqzg_1507 Xtzg_1507
  go_wp2_with fail
  have hbd1509 : Below w.heap.size w j1.drew := hb1508.drew
  have RL0_1509 : Row (j1.drew) (w.heap.size) 24 #[.int .i64 op, .int .i64 n, .string name, v3] := RL0_1508.drew
  have RL1_1509 : Row (j1.drew) (w.heap.size + 1) 24 #[.int .i64 op', .int .i64 n', .string name', v3'] := RL1_1508.drew
  have RW_1509 : Row (j1.drew) (gr) 30 #[.int .i64 zop, .int .i64 zn, .string znm, .slice Ar zk.length pr] := RW_1508.drew
  have RX0_1509 : Row (j1.drew) (ux0.heap.size) 30 #[.int .i64 op, .int .i64 n, .string name, .slice Ax0 kids.length px0] := RX0_1508.drew
  have RX1_1509 : Row (j1.drew) (ux1.heap.size) 30 #[.int .i64 op', .int .i64 n', .string name', .slice Ax1 kids'.length px1] := RX1_1508.drew
  have RG_1509 : Row (j1.drew) (vg.heap.size) 30 #[.int .i64 zop, .int .i64 zn, .string znm, .slice Ag zk.length pg] := RG_1508.drew
  have Xqzr_1509 : SlT false (exT false 12) (j1.drew) lor hir zk (.slice Ar zk.length pr) := Xqzr_1508.keep (Nat.le_refl _) (Nat.le_refl _) (fun _ _ _ => rfl)
  have Xtzr_1509 : SlT true (exT true 12) (j1.drew) lor hir zk (.slice Ar zk.length pr) := Xtzr_1508.keep (Nat.le_refl _) (Nat.le_refl _) (fun _ _ _ => rfl)
  have Xqx0_1509 : Sl false (exS false d) (j1.drew) wxr.heap.size ux0.heap.size kids (.slice Ax0 kids.length px0) := Xqx0_1508.keep (Nat.le_refl _) (Nat.le_refl _) (fun _ _ _ => rfl)
  have Xtx0_1509 : Sl true (exS true d) (j1.drew) wxr.heap.size ux0.heap.size kids (.slice Ax0 kids.length px0) := Xtx0_1508.keep (Nat.le_refl _) (Nat.le_refl _) (fun _ _ _ => rfl)
  have Xqx1_1509 : Sl false (exS false d') (j1.drew) (ux0.alloc (.cells #[.int .i64 op, .int .i64 n, .string name, .slice Ax0 kids.length px0] 30)).heap.size ux1.heap.size kids' (.slice Ax1 kids'.length px1) := Xqx1_1508.keep (Nat.le_refl _) (Nat.le_refl _) (fun _ _ _ => rfl)
  have Xtx1_1509 : Sl true (exS true d') (j1.drew) (ux0.alloc (.cells #[.int .i64 op, .int .i64 n, .string name, .slice Ax0 kids.length px0] 30)).heap.size ux1.heap.size kids' (.slice Ax1 kids'.length px1) := Xtx1_1508.keep (Nat.le_refl _) (Nat.le_refl _) (fun _ _ _ => rfl)
  have Xqzg_1509 : SlT false (exT false 12) (j1.drew) (ux1.alloc (.cells #[.int .i64 op', .int .i64 n', .string name', .slice Ax1 kids'.length px1] 30)).heap.size vg.heap.size zk (.slice Ag zk.length pg) := Xqzg_1508.keep (Nat.le_refl _) (Nat.le_refl _) (fun _ _ _ => rfl)
  have Xtzg_1509 : SlT true (exT true 12) (j1.drew) (ux1.alloc (.cells #[.int .i64 op', .int .i64 n', .string name', .slice Ax1 kids'.length px1] 30)).heap.size vg.heap.size zk (.slice Ag zk.length pg) := Xtzg_1508.keep (Nat.le_refl _) (Nat.le_refl _) (fun _ _ _ => rfl)
  clear RL0_1508 RL1_1508 RW_1508 RX0_1508 RX1_1508 RG_1508 Xqzr_1508 Xtzr_1508 Xqx0_1508 Xtx0_1508 Xqx1_1508 Xtx1_1508 Xqzg_1508 Xtzg_1508
  have szd1509 : j1.heap.size ≤ j1.drew.heap.size := Nat.le_refl _
  have yL00_1509 : (j1.drew).cell? ⟨w.heap.size, 0, none⟩ = some (.int .i64 op) := RL0_1509.cell 0
  have yL01_1509 : (j1.drew).cell? ⟨w.heap.size, 1, none⟩ = some (.int .i64 n) := RL0_1509.cell 1
  have yL02_1509 : (j1.drew).cell? ⟨w.heap.size, 2, none⟩ = some (.string name) := RL0_1509.cell 2
  have yL03_1509 : (j1.drew).cell? ⟨w.heap.size, 3, none⟩ = some (v3) := RL0_1509.cell 3
  have yX00_1509 : (j1.drew).cell? ⟨ux0.heap.size, 0, none⟩ = some (.int .i64 op) := RX0_1509.cell 0
  have yX01_1509 : (j1.drew).cell? ⟨ux0.heap.size, 1, none⟩ = some (.int .i64 n) := RX0_1509.cell 1
  have yX02_1509 : (j1.drew).cell? ⟨ux0.heap.size, 2, none⟩ = some (.string name) := RX0_1509.cell 2
  have yX03_1509 : (j1.drew).cell? ⟨ux0.heap.size, 3, none⟩ = some (.slice Ax0 kids.length px0) := RX0_1509.cell 3
  refine wp_region_held_drew (S := fun w' => (w'.cell? ⟨ux0.heap.size, 0, none⟩ = some (.int .i64 op) ∧ w'.cell? ⟨ux0.heap.size, 1, none⟩ = some (.int .i64 n) ∧ w'.cell? ⟨ux0.heap.size, 2, none⟩ = some (.string name) ∧ w'.cell? ⟨ux0.heap.size, 3, none⟩ = some (.slice Ax0 kids.length px0) ∧ w'.cell? ⟨w.heap.size, 0, none⟩ = some (.int .i64 op) ∧ w'.cell? ⟨w.heap.size, 1, none⟩ = some (.int .i64 n) ∧ w'.cell? ⟨w.heap.size, 2, none⟩ = some (.string name) ∧ w'.cell? ⟨w.heap.size, 3, none⟩ = some (v3))) (by kernel_rfl) ?_ (fun hHeld => ?_)
  · ((try dsimp only); refine ⟨?_, ?_, ?_, ?_, ?_, ?_, ?_, ?_⟩ <;> assumption)
  refine reg_take (i := 0) (v := ?v20) rfl (by kernel_rfl) (by kernel_rfl) (by kernel_rfl) (fun _ _ _ h => h) (Or.inl ⟨by kernel_rfl, ?h20⟩) (by assumption) ?r20
  case h20 => (intro w hSw; (try dsimp only at hSw); go_simp; try with_reducible rfl)
  try simp only [Act.put, List.setIfInBounds_toArray, List.set_cons_zero, List.set_cons_succ]
  refine reg_take (i := 1) (v := ?v21) rfl (by kernel_rfl) (by kernel_rfl) (by kernel_rfl) (fun _ _ _ h => h) (Or.inl ⟨by kernel_rfl, ?h21⟩) (by assumption) ?r21
  case h21 => (intro w hSw; (try dsimp only at hSw); go_simp; try with_reducible rfl)
  try simp only [Act.put, List.setIfInBounds_toArray, List.set_cons_zero, List.set_cons_succ]
  refine reg_call (i := 2) (by kernel_rfl) rfl (fun K hK => ?_)
  go_simp
  refine (to_Expr d op n name kids v3 j1.drew 0 w.heap.size hbd1509.size hN0 h0 h1 h2 (h3.below hbd1509 (Nat.le_refl _))).mono ?_; rintro e uz0 ⟨cs, rfl, hx, ez0⟩; obtain ⟨xz0, hcs, -, -, -, qz0⟩ := ex_open d (hx false); change _ = [.int .i64 op, .int .i64 n, .string name, xz0] at hcs; subst hcs; clear hx; obtain ⟨Az0, pz0, hf, _, _⟩ := qz0.form; change _ = Value.slice Az0 kids.length pz0 at hf; subst hf; have hb1510 : Below w.heap.size w uz0 := hbd1509.trans (ez0.mono hbd1509.size); have sz1510 : (j1.drew).heap.size ≤ uz0.heap.size := ez0.size; have RL0_1510 : Row (uz0) (w.heap.size) 24 #[.int .i64 op, .int .i64 n, .string name, v3] := RL0_1509.below ez0 RL0_1509.lt; have RL1_1510 : Row (uz0) (w.heap.size + 1) 24 #[.int .i64 op', .int .i64 n', .string name', v3'] := RL1_1509.below ez0 RL1_1509.lt; have RW_1510 : Row (uz0) (gr) 30 #[.int .i64 zop, .int .i64 zn, .string znm, .slice Ar zk.length pr] := RW_1509.below ez0 RW_1509.lt; have RX0_1510 : Row (uz0) (ux0.heap.size) 30 #[.int .i64 op, .int .i64 n, .string name, .slice Ax0 kids.length px0] := RX0_1509.below ez0 RX0_1509.lt; have RX1_1510 : Row (uz0) (ux1.heap.size) 30 #[.int .i64 op', .int .i64 n', .string name', .slice Ax1 kids'.length px1] := RX1_1509.below ez0 RX1_1509.lt; have RG_1510 : Row (uz0) (vg.heap.size) 30 #[.int .i64 zop, .int .i64 zn, .string znm, .slice Ag zk.length pg] := RG_1509.below ez0 RG_1509.lt; have Xqzr_1510 : SlT false (exT false 12) (uz0) lor hir zk (.slice Ar zk.length pr) := Xqzr_1509.below ez0 (by first | omega | (simp; omega) | (simp at *; omega)); have Xtzr_1510 : SlT true (exT true 12) (uz0) lor hir zk (.slice Ar zk.length pr) := Xtzr_1509.below ez0 (by first | omega | (simp; omega) | (simp at *; omega)); have Xqx0_1510 : Sl false (exS false d) (uz0) wxr.heap.size ux0.heap.size kids (.slice Ax0 kids.length px0) := Xqx0_1509.below ez0 (by first | omega | (simp; omega) | (simp at *; omega)); have Xtx0_1510 : Sl true (exS true d) (uz0) wxr.heap.size ux0.heap.size kids (.slice Ax0 kids.length px0) := Xtx0_1509.below ez0 (by first | omega | (simp; omega) | (simp at *; omega)); have Xqx1_1510 : Sl false (exS false d') (uz0) (ux0.alloc (.cells #[.int .i64 op, .int .i64 n, .string name, .slice Ax0 kids.length px0] 30)).heap.size ux1.heap.size kids' (.slice Ax1 kids'.length px1) := Xqx1_1509.below ez0 (by first | omega | (simp; omega) | (simp at *; omega)); have Xtx1_1510 : Sl true (exS true d') (uz0) (ux0.alloc (.cells #[.int .i64 op, .int .i64 n, .string name, .slice Ax0 kids.length px0] 30)).heap.size ux1.heap.size kids' (.slice Ax1 kids'.length px1) := Xtx1_1509.below ez0 (by first | omega | (simp; omega) | (simp at *; omega)); have Xqzg_1510 : SlT false (exT false 12) (uz0) (ux1.alloc (.cells #[.int .i64 op', .int .i64 n', .string name', .slice Ax1 kids'.length px1] 30)).heap.size vg.heap.size zk (.slice Ag zk.length pg) := Xqzg_1509.below ez0 (by first | omega | (simp; omega) | (simp at *; omega)); have Xtzg_1510 : SlT true (exT true 12) (uz0) (ux1.alloc (.cells #[.int .i64 op', .int .i64 n', .string name', .slice Ax1 kids'.length px1] 30)).heap.size vg.heap.size zk (.slice Ag zk.length pg) := Xtzg_1509.below ez0 (by first | omega | (simp; omega) | (simp at *; omega)); clear yL00_1509 yL01_1509 yL02_1509 yL03_1509 yX00_1509 yX01_1509 yX02_1509 yX03_1509; clear RL0_1509 RL1_1509 RW_1509 RX0_1509 RX1_1509 RG_1509 Xqzr_1509 Xtzr_1509 Xqx0_1509 Xtx0_1509 Xqx1_1509 Xtx1_1509 Xqzg_1509 Xtzg_1509; have yL00_1510 : (uz0).cell? ⟨w.heap.size, 0, none⟩ = some (.int .i64 op) := RL0_1510.cell 0; have yL01_1510 : (uz0).cell? ⟨w.heap.size, 1, none⟩ = some (.int .i64 n) := RL0_1510.cell 1; have yL02_1510 : (uz0).cell? ⟨w.heap.size, 2, none⟩ = some (.string name) := RL0_1510.cell 2; have yL03_1510 : (uz0).cell? ⟨w.heap.size, 3, none⟩ = some (v3) := RL0_1510.cell 3; have yX00_1510 : (uz0).cell? ⟨ux0.heap.size, 0, none⟩ = some (.int .i64 op) := RX0_1510.cell 0; have yX01_1510 : (uz0).cell? ⟨ux0.heap.size, 1, none⟩ = some (.int .i64 n) := RX0_1510.cell 1; have yX02_1510 : (uz0).cell? ⟨ux0.heap.size, 2, none⟩ = some (.string name) := RX0_1510.cell 2; have yX03_1510 : (uz0).cell? ⟨ux0.heap.size, 3, none⟩ = some (.slice Ax0 kids.length px0) := RX0_1510.cell 3
  refine hK.out _ _ ?_ (fun hHeld => ?_)
  · ((try dsimp only); refine ⟨?_, ?_, ?_, ?_, ?_, ?_, ?_, ?_⟩ <;> assumption)
  clear hK K
  try simp only [Act.put, List.setIfInBounds_toArray, List.set_cons_zero, List.set_cons_succ]
  refine reg_call (i := 3) (by kernel_rfl) rfl (fun K hK => ?_)
  go_simp
  refine (eq_Expr d op n name kids (.slice Ax0 kids.length px0) (.slice Az0 kids.length pz0) uz0 wxr.heap.size ux0.heap.size j1.drew.heap.size uz0.heap.size (by omega) (Nat.le_refl _) Xqx0_1510 qz0).mono ?_; rintro e uy0 ⟨rfl, ey0⟩; have hb1511 : Below w.heap.size w uy0 := hb1510.trans (ey0.mono hb1510.size); have sz1511 : (uz0).heap.size ≤ uy0.heap.size := ey0.size; have RL0_1511 : Row (uy0) (w.heap.size) 24 #[.int .i64 op, .int .i64 n, .string name, v3] := RL0_1510.below ey0 RL0_1510.lt; have RL1_1511 : Row (uy0) (w.heap.size + 1) 24 #[.int .i64 op', .int .i64 n', .string name', v3'] := RL1_1510.below ey0 RL1_1510.lt; have RW_1511 : Row (uy0) (gr) 30 #[.int .i64 zop, .int .i64 zn, .string znm, .slice Ar zk.length pr] := RW_1510.below ey0 RW_1510.lt; have RX0_1511 : Row (uy0) (ux0.heap.size) 30 #[.int .i64 op, .int .i64 n, .string name, .slice Ax0 kids.length px0] := RX0_1510.below ey0 RX0_1510.lt; have RX1_1511 : Row (uy0) (ux1.heap.size) 30 #[.int .i64 op', .int .i64 n', .string name', .slice Ax1 kids'.length px1] := RX1_1510.below ey0 RX1_1510.lt; have RG_1511 : Row (uy0) (vg.heap.size) 30 #[.int .i64 zop, .int .i64 zn, .string znm, .slice Ag zk.length pg] := RG_1510.below ey0 RG_1510.lt; have Xqzr_1511 : SlT false (exT false 12) (uy0) lor hir zk (.slice Ar zk.length pr) := Xqzr_1510.below ey0 (by first | omega | (simp; omega) | (simp at *; omega)); have Xtzr_1511 : SlT true (exT true 12) (uy0) lor hir zk (.slice Ar zk.length pr) := Xtzr_1510.below ey0 (by first | omega | (simp; omega) | (simp at *; omega)); have Xqx0_1511 : Sl false (exS false d) (uy0) wxr.heap.size ux0.heap.size kids (.slice Ax0 kids.length px0) := Xqx0_1510.below ey0 (by first | omega | (simp; omega) | (simp at *; omega)); have Xtx0_1511 : Sl true (exS true d) (uy0) wxr.heap.size ux0.heap.size kids (.slice Ax0 kids.length px0) := Xtx0_1510.below ey0 (by first | omega | (simp; omega) | (simp at *; omega)); have Xqx1_1511 : Sl false (exS false d') (uy0) (ux0.alloc (.cells #[.int .i64 op, .int .i64 n, .string name, .slice Ax0 kids.length px0] 30)).heap.size ux1.heap.size kids' (.slice Ax1 kids'.length px1) := Xqx1_1510.below ey0 (by first | omega | (simp; omega) | (simp at *; omega)); have Xtx1_1511 : Sl true (exS true d') (uy0) (ux0.alloc (.cells #[.int .i64 op, .int .i64 n, .string name, .slice Ax0 kids.length px0] 30)).heap.size ux1.heap.size kids' (.slice Ax1 kids'.length px1) := Xtx1_1510.below ey0 (by first | omega | (simp; omega) | (simp at *; omega)); have Xqzg_1511 : SlT false (exT false 12) (uy0) (ux1.alloc (.cells #[.int .i64 op', .int .i64 n', .string name', .slice Ax1 kids'.length px1] 30)).heap.size vg.heap.size zk (.slice Ag zk.length pg) := Xqzg_1510.below ey0 (by first | omega | (simp; omega) | (simp at *; omega)); have Xtzg_1511 : SlT true (exT true 12) (uy0) (ux1.alloc (.cells #[.int .i64 op', .int .i64 n', .string name', .slice Ax1 kids'.length px1] 30)).heap.size vg.heap.size zk (.slice Ag zk.length pg) := Xtzg_1510.below ey0 (by first | omega | (simp; omega) | (simp at *; omega)); clear yL00_1510 yL01_1510 yL02_1510 yL03_1510 yX00_1510 yX01_1510 yX02_1510 yX03_1510; clear RL0_1510 RL1_1510 RW_1510 RX0_1510 RX1_1510 RG_1510 Xqzr_1510 Xtzr_1510 Xqx0_1510 Xtx0_1510 Xqx1_1510 Xtx1_1510 Xqzg_1510 Xtzg_1510; have yL00_1511 : (uy0).cell? ⟨w.heap.size, 0, none⟩ = some (.int .i64 op) := RL0_1511.cell 0; have yL01_1511 : (uy0).cell? ⟨w.heap.size, 1, none⟩ = some (.int .i64 n) := RL0_1511.cell 1; have yL02_1511 : (uy0).cell? ⟨w.heap.size, 2, none⟩ = some (.string name) := RL0_1511.cell 2; have yL03_1511 : (uy0).cell? ⟨w.heap.size, 3, none⟩ = some (v3) := RL0_1511.cell 3; have yX00_1511 : (uy0).cell? ⟨ux0.heap.size, 0, none⟩ = some (.int .i64 op) := RX0_1511.cell 0; have yX01_1511 : (uy0).cell? ⟨ux0.heap.size, 1, none⟩ = some (.int .i64 n) := RX0_1511.cell 1; have yX02_1511 : (uy0).cell? ⟨ux0.heap.size, 2, none⟩ = some (.string name) := RX0_1511.cell 2; have yX03_1511 : (uy0).cell? ⟨ux0.heap.size, 3, none⟩ = some (.slice Ax0 kids.length px0) := RX0_1511.cell 3
  refine hK.out _ _ ?_ (fun hHeld => ?_)
  · ((try dsimp only); refine ⟨?_, ?_, ?_, ?_, ?_, ?_, ?_, ?_⟩ <;> assumption)
  clear hK K
  try simp only [Act.put, List.setIfInBounds_toArray, List.set_cons_zero, List.set_cons_succ]
  refine reg_take (i := 4) (v := ?v24) rfl (by kernel_rfl) (by kernel_rfl) (by kernel_rfl) (fun _ _ _ h => h) (Or.inl ⟨by kernel_rfl, ?h24⟩) (by assumption) ?r24
  case h24 => (intro w hSw; (try dsimp only at hSw); go_simp; try with_reducible rfl)
  try simp only [Act.put, List.setIfInBounds_toArray, List.set_cons_zero, List.set_cons_succ]
  refine wpAnyH_done (by kernel_rfl) ?_ _
  clear yL00_1511 yL01_1511 yL02_1511 yL03_1511 yX00_1511 yX01_1511 yX02_1511 yX03_1511
  go_wp2_with fail
  have hbd1512 : Below w.heap.size w uy0.drew := hb1511.drew
  have RL0_1512 : Row (uy0.drew) (w.heap.size) 24 #[.int .i64 op, .int .i64 n, .string name, v3] := RL0_1511.drew
  have RL1_1512 : Row (uy0.drew) (w.heap.size + 1) 24 #[.int .i64 op', .int .i64 n', .string name', v3'] := RL1_1511.drew
  have RW_1512 : Row (uy0.drew) (gr) 30 #[.int .i64 zop, .int .i64 zn, .string znm, .slice Ar zk.length pr] := RW_1511.drew
  have RX0_1512 : Row (uy0.drew) (ux0.heap.size) 30 #[.int .i64 op, .int .i64 n, .string name, .slice Ax0 kids.length px0] := RX0_1511.drew
  have RX1_1512 : Row (uy0.drew) (ux1.heap.size) 30 #[.int .i64 op', .int .i64 n', .string name', .slice Ax1 kids'.length px1] := RX1_1511.drew
  have RG_1512 : Row (uy0.drew) (vg.heap.size) 30 #[.int .i64 zop, .int .i64 zn, .string znm, .slice Ag zk.length pg] := RG_1511.drew
  have Xqzr_1512 : SlT false (exT false 12) (uy0.drew) lor hir zk (.slice Ar zk.length pr) := Xqzr_1511.keep (Nat.le_refl _) (Nat.le_refl _) (fun _ _ _ => rfl)
  have Xtzr_1512 : SlT true (exT true 12) (uy0.drew) lor hir zk (.slice Ar zk.length pr) := Xtzr_1511.keep (Nat.le_refl _) (Nat.le_refl _) (fun _ _ _ => rfl)
  have Xqx0_1512 : Sl false (exS false d) (uy0.drew) wxr.heap.size ux0.heap.size kids (.slice Ax0 kids.length px0) := Xqx0_1511.keep (Nat.le_refl _) (Nat.le_refl _) (fun _ _ _ => rfl)
  have Xtx0_1512 : Sl true (exS true d) (uy0.drew) wxr.heap.size ux0.heap.size kids (.slice Ax0 kids.length px0) := Xtx0_1511.keep (Nat.le_refl _) (Nat.le_refl _) (fun _ _ _ => rfl)
  have Xqx1_1512 : Sl false (exS false d') (uy0.drew) (ux0.alloc (.cells #[.int .i64 op, .int .i64 n, .string name, .slice Ax0 kids.length px0] 30)).heap.size ux1.heap.size kids' (.slice Ax1 kids'.length px1) := Xqx1_1511.keep (Nat.le_refl _) (Nat.le_refl _) (fun _ _ _ => rfl)
  have Xtx1_1512 : Sl true (exS true d') (uy0.drew) (ux0.alloc (.cells #[.int .i64 op, .int .i64 n, .string name, .slice Ax0 kids.length px0] 30)).heap.size ux1.heap.size kids' (.slice Ax1 kids'.length px1) := Xtx1_1511.keep (Nat.le_refl _) (Nat.le_refl _) (fun _ _ _ => rfl)
  have Xqzg_1512 : SlT false (exT false 12) (uy0.drew) (ux1.alloc (.cells #[.int .i64 op', .int .i64 n', .string name', .slice Ax1 kids'.length px1] 30)).heap.size vg.heap.size zk (.slice Ag zk.length pg) := Xqzg_1511.keep (Nat.le_refl _) (Nat.le_refl _) (fun _ _ _ => rfl)
  have Xtzg_1512 : SlT true (exT true 12) (uy0.drew) (ux1.alloc (.cells #[.int .i64 op', .int .i64 n', .string name', .slice Ax1 kids'.length px1] 30)).heap.size vg.heap.size zk (.slice Ag zk.length pg) := Xtzg_1511.keep (Nat.le_refl _) (Nat.le_refl _) (fun _ _ _ => rfl)
  clear RL0_1511 RL1_1511 RW_1511 RX0_1511 RX1_1511 RG_1511 Xqzr_1511 Xtzr_1511 Xqx0_1511 Xtx0_1511 Xqx1_1511 Xtx1_1511 Xqzg_1511 Xtzg_1511
  have szd1512 : uy0.heap.size ≤ uy0.drew.heap.size := Nat.le_refl _
  have yL10_1512 : (uy0.drew).cell? ⟨w.heap.size + 1, 0, none⟩ = some (.int .i64 op') := RL1_1512.cell 0
  have yL11_1512 : (uy0.drew).cell? ⟨w.heap.size + 1, 1, none⟩ = some (.int .i64 n') := RL1_1512.cell 1
  have yL12_1512 : (uy0.drew).cell? ⟨w.heap.size + 1, 2, none⟩ = some (.string name') := RL1_1512.cell 2
  have yL13_1512 : (uy0.drew).cell? ⟨w.heap.size + 1, 3, none⟩ = some (v3') := RL1_1512.cell 3
  have yX10_1512 : (uy0.drew).cell? ⟨ux1.heap.size, 0, none⟩ = some (.int .i64 op') := RX1_1512.cell 0
  have yX11_1512 : (uy0.drew).cell? ⟨ux1.heap.size, 1, none⟩ = some (.int .i64 n') := RX1_1512.cell 1
  have yX12_1512 : (uy0.drew).cell? ⟨ux1.heap.size, 2, none⟩ = some (.string name') := RX1_1512.cell 2
  have yX13_1512 : (uy0.drew).cell? ⟨ux1.heap.size, 3, none⟩ = some (.slice Ax1 kids'.length px1) := RX1_1512.cell 3
  refine wp_region_held_drew (S := fun w' => (w'.cell? ⟨ux1.heap.size, 0, none⟩ = some (.int .i64 op') ∧ w'.cell? ⟨ux1.heap.size, 1, none⟩ = some (.int .i64 n') ∧ w'.cell? ⟨ux1.heap.size, 2, none⟩ = some (.string name') ∧ w'.cell? ⟨ux1.heap.size, 3, none⟩ = some (.slice Ax1 kids'.length px1) ∧ w'.cell? ⟨w.heap.size + 1, 0, none⟩ = some (.int .i64 op') ∧ w'.cell? ⟨w.heap.size + 1, 1, none⟩ = some (.int .i64 n') ∧ w'.cell? ⟨w.heap.size + 1, 2, none⟩ = some (.string name') ∧ w'.cell? ⟨w.heap.size + 1, 3, none⟩ = some (v3'))) (by kernel_rfl) ?_ (fun hHeld => ?_)
  · ((try dsimp only); refine ⟨?_, ?_, ?_, ?_, ?_, ?_, ?_, ?_⟩ <;> assumption)
  refine reg_take (i := 0) (v := ?v25) rfl (by kernel_rfl) (by kernel_rfl) (by kernel_rfl) (fun _ _ _ h => h) (Or.inl ⟨by kernel_rfl, ?h25⟩) (by assumption) ?r25
  case h25 => (intro w hSw; (try dsimp only at hSw); go_simp; try with_reducible rfl)
  try simp only [Act.put, List.setIfInBounds_toArray, List.set_cons_zero, List.set_cons_succ]
  refine reg_take (i := 1) (v := ?v26) rfl (by kernel_rfl) (by kernel_rfl) (by kernel_rfl) (fun _ _ _ h => h) (Or.inl ⟨by kernel_rfl, ?h26⟩) (by assumption) ?r26
  case h26 => (intro w hSw; (try dsimp only at hSw); go_simp; try with_reducible rfl)
  try simp only [Act.put, List.setIfInBounds_toArray, List.set_cons_zero, List.set_cons_succ]
  refine reg_call (i := 2) (by kernel_rfl) rfl (fun K hK => ?_)
  go_simp
  refine (to_Expr d' op' n' name' kids' v3' uy0.drew 0 w.heap.size hbd1512.size hN1 h0' h1' h2' (h3'.below hbd1512 (Nat.le_refl _))).mono ?_; rintro e uz1 ⟨cs, rfl, hx, ez1⟩; obtain ⟨xz1, hcs, -, -, -, qz1⟩ := ex_open d' (hx false); change _ = [.int .i64 op', .int .i64 n', .string name', xz1] at hcs; subst hcs; clear hx; obtain ⟨Az1, pz1, hf, _, _⟩ := qz1.form; change _ = Value.slice Az1 kids'.length pz1 at hf; subst hf; have hb1513 : Below w.heap.size w uz1 := hbd1512.trans (ez1.mono hbd1512.size); have sz1513 : (uy0.drew).heap.size ≤ uz1.heap.size := ez1.size; have RL0_1513 : Row (uz1) (w.heap.size) 24 #[.int .i64 op, .int .i64 n, .string name, v3] := RL0_1512.below ez1 RL0_1512.lt; have RL1_1513 : Row (uz1) (w.heap.size + 1) 24 #[.int .i64 op', .int .i64 n', .string name', v3'] := RL1_1512.below ez1 RL1_1512.lt; have RW_1513 : Row (uz1) (gr) 30 #[.int .i64 zop, .int .i64 zn, .string znm, .slice Ar zk.length pr] := RW_1512.below ez1 RW_1512.lt; have RX0_1513 : Row (uz1) (ux0.heap.size) 30 #[.int .i64 op, .int .i64 n, .string name, .slice Ax0 kids.length px0] := RX0_1512.below ez1 RX0_1512.lt; have RX1_1513 : Row (uz1) (ux1.heap.size) 30 #[.int .i64 op', .int .i64 n', .string name', .slice Ax1 kids'.length px1] := RX1_1512.below ez1 RX1_1512.lt; have RG_1513 : Row (uz1) (vg.heap.size) 30 #[.int .i64 zop, .int .i64 zn, .string znm, .slice Ag zk.length pg] := RG_1512.below ez1 RG_1512.lt; have Xqzr_1513 : SlT false (exT false 12) (uz1) lor hir zk (.slice Ar zk.length pr) := Xqzr_1512.below ez1 (by first | omega | (simp; omega) | (simp at *; omega)); have Xtzr_1513 : SlT true (exT true 12) (uz1) lor hir zk (.slice Ar zk.length pr) := Xtzr_1512.below ez1 (by first | omega | (simp; omega) | (simp at *; omega)); have Xqx0_1513 : Sl false (exS false d) (uz1) wxr.heap.size ux0.heap.size kids (.slice Ax0 kids.length px0) := Xqx0_1512.below ez1 (by first | omega | (simp; omega) | (simp at *; omega)); have Xtx0_1513 : Sl true (exS true d) (uz1) wxr.heap.size ux0.heap.size kids (.slice Ax0 kids.length px0) := Xtx0_1512.below ez1 (by first | omega | (simp; omega) | (simp at *; omega)); have Xqx1_1513 : Sl false (exS false d') (uz1) (ux0.alloc (.cells #[.int .i64 op, .int .i64 n, .string name, .slice Ax0 kids.length px0] 30)).heap.size ux1.heap.size kids' (.slice Ax1 kids'.length px1) := Xqx1_1512.below ez1 (by first | omega | (simp; omega) | (simp at *; omega)); have Xtx1_1513 : Sl true (exS true d') (uz1) (ux0.alloc (.cells #[.int .i64 op, .int .i64 n, .string name, .slice Ax0 kids.length px0] 30)).heap.size ux1.heap.size kids' (.slice Ax1 kids'.length px1) := Xtx1_1512.below ez1 (by first | omega | (simp; omega) | (simp at *; omega)); have Xqzg_1513 : SlT false (exT false 12) (uz1) (ux1.alloc (.cells #[.int .i64 op', .int .i64 n', .string name', .slice Ax1 kids'.length px1] 30)).heap.size vg.heap.size zk (.slice Ag zk.length pg) := Xqzg_1512.below ez1 (by first | omega | (simp; omega) | (simp at *; omega)); have Xtzg_1513 : SlT true (exT true 12) (uz1) (ux1.alloc (.cells #[.int .i64 op', .int .i64 n', .string name', .slice Ax1 kids'.length px1] 30)).heap.size vg.heap.size zk (.slice Ag zk.length pg) := Xtzg_1512.below ez1 (by first | omega | (simp; omega) | (simp at *; omega)); clear yL10_1512 yL11_1512 yL12_1512 yL13_1512 yX10_1512 yX11_1512 yX12_1512 yX13_1512; clear RL0_1512 RL1_1512 RW_1512 RX0_1512 RX1_1512 RG_1512 Xqzr_1512 Xtzr_1512 Xqx0_1512 Xtx0_1512 Xqx1_1512 Xtx1_1512 Xqzg_1512 Xtzg_1512; have yL10_1513 : (uz1).cell? ⟨w.heap.size + 1, 0, none⟩ = some (.int .i64 op') := RL1_1513.cell 0; have yL11_1513 : (uz1).cell? ⟨w.heap.size + 1, 1, none⟩ = some (.int .i64 n') := RL1_1513.cell 1; have yL12_1513 : (uz1).cell? ⟨w.heap.size + 1, 2, none⟩ = some (.string name') := RL1_1513.cell 2; have yL13_1513 : (uz1).cell? ⟨w.heap.size + 1, 3, none⟩ = some (v3') := RL1_1513.cell 3; have yX10_1513 : (uz1).cell? ⟨ux1.heap.size, 0, none⟩ = some (.int .i64 op') := RX1_1513.cell 0; have yX11_1513 : (uz1).cell? ⟨ux1.heap.size, 1, none⟩ = some (.int .i64 n') := RX1_1513.cell 1; have yX12_1513 : (uz1).cell? ⟨ux1.heap.size, 2, none⟩ = some (.string name') := RX1_1513.cell 2; have yX13_1513 : (uz1).cell? ⟨ux1.heap.size, 3, none⟩ = some (.slice Ax1 kids'.length px1) := RX1_1513.cell 3
  refine hK.out _ _ ?_ (fun hHeld => ?_)
  · ((try dsimp only); refine ⟨?_, ?_, ?_, ?_, ?_, ?_, ?_, ?_⟩ <;> assumption)
  clear hK K
  try simp only [Act.put, List.setIfInBounds_toArray, List.set_cons_zero, List.set_cons_succ]
  refine reg_call (i := 3) (by kernel_rfl) rfl (fun K hK => ?_)
  go_simp
  refine (eq_Expr d' op' n' name' kids' (.slice Ax1 kids'.length px1) (.slice Az1 kids'.length pz1) uz1 (ux0.alloc (.cells #[.int .i64 op, .int .i64 n, .string name, .slice Ax0 kids.length px0] 30)).heap.size ux1.heap.size uy0.drew.heap.size uz1.heap.size (by omega) (Nat.le_refl _) Xqx1_1513 qz1).mono ?_; rintro e uy1 ⟨rfl, ey1⟩; have hb1514 : Below w.heap.size w uy1 := hb1513.trans (ey1.mono hb1513.size); have sz1514 : (uz1).heap.size ≤ uy1.heap.size := ey1.size; have RL0_1514 : Row (uy1) (w.heap.size) 24 #[.int .i64 op, .int .i64 n, .string name, v3] := RL0_1513.below ey1 RL0_1513.lt; have RL1_1514 : Row (uy1) (w.heap.size + 1) 24 #[.int .i64 op', .int .i64 n', .string name', v3'] := RL1_1513.below ey1 RL1_1513.lt; have RW_1514 : Row (uy1) (gr) 30 #[.int .i64 zop, .int .i64 zn, .string znm, .slice Ar zk.length pr] := RW_1513.below ey1 RW_1513.lt; have RX0_1514 : Row (uy1) (ux0.heap.size) 30 #[.int .i64 op, .int .i64 n, .string name, .slice Ax0 kids.length px0] := RX0_1513.below ey1 RX0_1513.lt; have RX1_1514 : Row (uy1) (ux1.heap.size) 30 #[.int .i64 op', .int .i64 n', .string name', .slice Ax1 kids'.length px1] := RX1_1513.below ey1 RX1_1513.lt; have RG_1514 : Row (uy1) (vg.heap.size) 30 #[.int .i64 zop, .int .i64 zn, .string znm, .slice Ag zk.length pg] := RG_1513.below ey1 RG_1513.lt; have Xqzr_1514 : SlT false (exT false 12) (uy1) lor hir zk (.slice Ar zk.length pr) := Xqzr_1513.below ey1 (by first | omega | (simp; omega) | (simp at *; omega)); have Xtzr_1514 : SlT true (exT true 12) (uy1) lor hir zk (.slice Ar zk.length pr) := Xtzr_1513.below ey1 (by first | omega | (simp; omega) | (simp at *; omega)); have Xqx0_1514 : Sl false (exS false d) (uy1) wxr.heap.size ux0.heap.size kids (.slice Ax0 kids.length px0) := Xqx0_1513.below ey1 (by first | omega | (simp; omega) | (simp at *; omega)); have Xtx0_1514 : Sl true (exS true d) (uy1) wxr.heap.size ux0.heap.size kids (.slice Ax0 kids.length px0) := Xtx0_1513.below ey1 (by first | omega | (simp; omega) | (simp at *; omega)); have Xqx1_1514 : Sl false (exS false d') (uy1) (ux0.alloc (.cells #[.int .i64 op, .int .i64 n, .string name, .slice Ax0 kids.length px0] 30)).heap.size ux1.heap.size kids' (.slice Ax1 kids'.length px1) := Xqx1_1513.below ey1 (by first | omega | (simp; omega) | (simp at *; omega)); have Xtx1_1514 : Sl true (exS true d') (uy1) (ux0.alloc (.cells #[.int .i64 op, .int .i64 n, .string name, .slice Ax0 kids.length px0] 30)).heap.size ux1.heap.size kids' (.slice Ax1 kids'.length px1) := Xtx1_1513.below ey1 (by first | omega | (simp; omega) | (simp at *; omega)); have Xqzg_1514 : SlT false (exT false 12) (uy1) (ux1.alloc (.cells #[.int .i64 op', .int .i64 n', .string name', .slice Ax1 kids'.length px1] 30)).heap.size vg.heap.size zk (.slice Ag zk.length pg) := Xqzg_1513.below ey1 (by first | omega | (simp; omega) | (simp at *; omega)); have Xtzg_1514 : SlT true (exT true 12) (uy1) (ux1.alloc (.cells #[.int .i64 op', .int .i64 n', .string name', .slice Ax1 kids'.length px1] 30)).heap.size vg.heap.size zk (.slice Ag zk.length pg) := Xtzg_1513.below ey1 (by first | omega | (simp; omega) | (simp at *; omega)); clear yL10_1513 yL11_1513 yL12_1513 yL13_1513 yX10_1513 yX11_1513 yX12_1513 yX13_1513; clear RL0_1513 RL1_1513 RW_1513 RX0_1513 RX1_1513 RG_1513 Xqzr_1513 Xtzr_1513 Xqx0_1513 Xtx0_1513 Xqx1_1513 Xtx1_1513 Xqzg_1513 Xtzg_1513; have yL10_1514 : (uy1).cell? ⟨w.heap.size + 1, 0, none⟩ = some (.int .i64 op') := RL1_1514.cell 0; have yL11_1514 : (uy1).cell? ⟨w.heap.size + 1, 1, none⟩ = some (.int .i64 n') := RL1_1514.cell 1; have yL12_1514 : (uy1).cell? ⟨w.heap.size + 1, 2, none⟩ = some (.string name') := RL1_1514.cell 2; have yL13_1514 : (uy1).cell? ⟨w.heap.size + 1, 3, none⟩ = some (v3') := RL1_1514.cell 3; have yX10_1514 : (uy1).cell? ⟨ux1.heap.size, 0, none⟩ = some (.int .i64 op') := RX1_1514.cell 0; have yX11_1514 : (uy1).cell? ⟨ux1.heap.size, 1, none⟩ = some (.int .i64 n') := RX1_1514.cell 1; have yX12_1514 : (uy1).cell? ⟨ux1.heap.size, 2, none⟩ = some (.string name') := RX1_1514.cell 2; have yX13_1514 : (uy1).cell? ⟨ux1.heap.size, 3, none⟩ = some (.slice Ax1 kids'.length px1) := RX1_1514.cell 3
  refine hK.out _ _ ?_ (fun hHeld => ?_)
  · ((try dsimp only); refine ⟨?_, ?_, ?_, ?_, ?_, ?_, ?_, ?_⟩ <;> assumption)
  clear hK K
  try simp only [Act.put, List.setIfInBounds_toArray, List.set_cons_zero, List.set_cons_succ]
  refine reg_take (i := 4) (v := ?v29) rfl (by kernel_rfl) (by kernel_rfl) (by kernel_rfl) (fun _ _ _ h => h) (Or.inl ⟨by kernel_rfl, ?h29⟩) (by assumption) ?r29
  case h29 => (intro w hSw; (try dsimp only at hSw); go_simp; try with_reducible rfl)
  try simp only [Act.put, List.setIfInBounds_toArray, List.set_cons_zero, List.set_cons_succ]
  refine wpAnyH_done (by kernel_rfl) ?_ _
  clear yL10_1514 yL11_1514 yL12_1514 yL13_1514 yX10_1514 yX11_1514 yX12_1514 yX13_1514
  have yX00_1514 : (uy1).cell? ⟨ux0.heap.size, 0, none⟩ = some (.int .i64 op) := RX0_1514.cell 0
  have yX01_1514 : (uy1).cell? ⟨ux0.heap.size, 1, none⟩ = some (.int .i64 n) := RX0_1514.cell 1
  have yX02_1514 : (uy1).cell? ⟨ux0.heap.size, 2, none⟩ = some (.string name) := RX0_1514.cell 2
  have yX03_1514 : (uy1).cell? ⟨ux0.heap.size, 3, none⟩ = some (.slice Ax0 kids.length px0) := RX0_1514.cell 3
  go_wp2_with fail
  refine (mark_Expr d op n name kids (.slice Ax0 kids.length px0) 1 _ wxr.heap.size ux0.heap.size (by omega) (by omega) Xtx0_1514 (by first | omega | (simp; omega))).mono ?_
  rintro e m0 ⟨rk0, rfl, ka0, kb0, sf0⟩
  have hb1515 : Below w.heap.size w m0 := hb1514.trans (sf0.below (by omega) hb1514.size)
  have sz1515 : (uy1).heap.size ≤ m0.heap.size := sf0.size
  have RL0_1515 : Row (m0) (w.heap.size) 24 #[.int .i64 op, .int .i64 n, .string name, v3] := RL0_1514.soft sf0 (by omega)
  have RL1_1515 : Row (m0) (w.heap.size + 1) 24 #[.int .i64 op', .int .i64 n', .string name', v3'] := RL1_1514.soft sf0 (by omega)
  have RW_1515 : Row (m0) (gr) 30 #[.int .i64 zop, .int .i64 zn, .string znm, .slice Ar zk.length pr] := RW_1514.soft sf0 (by omega)
  have RX0_1515 : Row (m0) (ux0.heap.size) 30 #[.int .i64 op, .int .i64 n, .string name, .slice Ax0 kids.length px0] := RX0_1514.soft sf0 (by omega)
  have RX1_1515 : Row (m0) (ux1.heap.size) 30 #[.int .i64 op', .int .i64 n', .string name', .slice Ax1 kids'.length px1] := RX1_1514.soft sf0 (by omega)
  have RG_1515 : Row (m0) (vg.heap.size) 30 #[.int .i64 zop, .int .i64 zn, .string znm, .slice Ag zk.length pg] := RG_1514.soft sf0 (by omega)
  have Xqzr_1515 : SlT false (exT false 12) (m0) lor hir zk (.slice Ar zk.length pr) := Xqzr_1514.keep (Nat.le_refl _) (Nat.le_refl _) (sf0.same (by omega) (by omega))
  have Xtzr_1515 : SlT true (exT true 12) (m0) lor hir zk (.slice Ar zk.length pr) := Xtzr_1514.keep (Nat.le_refl _) (Nat.le_refl _) (sf0.same (by omega) (by omega))
  have Xqx1_1515 : Sl false (exS false d') (m0) (ux0.alloc (.cells #[.int .i64 op, .int .i64 n, .string name, .slice Ax0 kids.length px0] 30)).heap.size ux1.heap.size kids' (.slice Ax1 kids'.length px1) := Xqx1_1514.keep (Nat.le_refl _) (Nat.le_refl _) (sf0.same (by omega) (by omega))
  have Xtx1_1515 : Sl true (exS true d') (m0) (ux0.alloc (.cells #[.int .i64 op, .int .i64 n, .string name, .slice Ax0 kids.length px0] 30)).heap.size ux1.heap.size kids' (.slice Ax1 kids'.length px1) := Xtx1_1514.keep (Nat.le_refl _) (Nat.le_refl _) (sf0.same (by omega) (by omega))
  have Xqzg_1515 : SlT false (exT false 12) (m0) (ux1.alloc (.cells #[.int .i64 op', .int .i64 n', .string name', .slice Ax1 kids'.length px1] 30)).heap.size vg.heap.size zk (.slice Ag zk.length pg) := Xqzg_1514.keep (Nat.le_refl _) (Nat.le_refl _) (sf0.same (by omega) (by omega))
  have Xtzg_1515 : SlT true (exT true 12) (m0) (ux1.alloc (.cells #[.int .i64 op', .int .i64 n', .string name', .slice Ax1 kids'.length px1] 30)).heap.size vg.heap.size zk (.slice Ag zk.length pg) := Xtzg_1514.keep (Nat.le_refl _) (Nat.le_refl _) (sf0.same (by omega) (by omega))
  clear yX00_1514 yX01_1514 yX02_1514 yX03_1514
  clear RL0_1514 RL1_1514 RW_1514 RX0_1514 RX1_1514 RG_1514 Xqzr_1514 Xtzr_1514 Xqx0_1514 Xtx0_1514 Xqx1_1514 Xtx1_1514 Xqzg_1514 Xtzg_1514
  have yX10_1515 : (m0).cell? ⟨ux1.heap.size, 0, none⟩ = some (.int .i64 op') := RX1_1515.cell 0
  have yX11_1515 : (m0).cell? ⟨ux1.heap.size, 1, none⟩ = some (.int .i64 n') := RX1_1515.cell 1
  have yX12_1515 : (m0).cell? ⟨ux1.heap.size, 2, none⟩ = some (.string name') := RX1_1515.cell 2
  have yX13_1515 : (m0).cell? ⟨ux1.heap.size, 3, none⟩ = some (.slice Ax1 kids'.length px1) := RX1_1515.cell 3
  go_wp2_with fail
  refine (mark_Expr d' op' n' name' kids' (.slice Ax1 kids'.length px1) rk0 _ (ux0.alloc (.cells #[.int .i64 op, .int .i64 n, .string name, .slice Ax0 kids.length px0] 30)).heap.size ux1.heap.size (by omega) (by omega) Xtx1_1515 (by first | omega | (simp; omega))).mono ?_
  rintro e m1 ⟨rk1, rfl, ka1, kb1, sf1⟩
  have hb1516 : Below w.heap.size w m1 := hb1515.trans (sf1.below (by omega) hb1515.size)
  have sz1516 : (m0).heap.size ≤ m1.heap.size := sf1.size
  have RL0_1516 : Row (m1) (w.heap.size) 24 #[.int .i64 op, .int .i64 n, .string name, v3] := RL0_1515.soft sf1 (by omega)
  have RL1_1516 : Row (m1) (w.heap.size + 1) 24 #[.int .i64 op', .int .i64 n', .string name', v3'] := RL1_1515.soft sf1 (by omega)
  have RW_1516 : Row (m1) (gr) 30 #[.int .i64 zop, .int .i64 zn, .string znm, .slice Ar zk.length pr] := RW_1515.soft sf1 (by omega)
  have RX0_1516 : Row (m1) (ux0.heap.size) 30 #[.int .i64 op, .int .i64 n, .string name, .slice Ax0 kids.length px0] := RX0_1515.soft sf1 (by omega)
  have RX1_1516 : Row (m1) (ux1.heap.size) 30 #[.int .i64 op', .int .i64 n', .string name', .slice Ax1 kids'.length px1] := RX1_1515.soft sf1 (by omega)
  have RG_1516 : Row (m1) (vg.heap.size) 30 #[.int .i64 zop, .int .i64 zn, .string znm, .slice Ag zk.length pg] := RG_1515.soft sf1 (by omega)
  have Xqzr_1516 : SlT false (exT false 12) (m1) lor hir zk (.slice Ar zk.length pr) := Xqzr_1515.keep (Nat.le_refl _) (Nat.le_refl _) (sf1.same (by omega) (by omega))
  have Xtzr_1516 : SlT true (exT true 12) (m1) lor hir zk (.slice Ar zk.length pr) := Xtzr_1515.keep (Nat.le_refl _) (Nat.le_refl _) (sf1.same (by omega) (by omega))
  have Xqzg_1516 : SlT false (exT false 12) (m1) (ux1.alloc (.cells #[.int .i64 op', .int .i64 n', .string name', .slice Ax1 kids'.length px1] 30)).heap.size vg.heap.size zk (.slice Ag zk.length pg) := Xqzg_1515.keep (Nat.le_refl _) (Nat.le_refl _) (sf1.same (by omega) (by omega))
  have Xtzg_1516 : SlT true (exT true 12) (m1) (ux1.alloc (.cells #[.int .i64 op', .int .i64 n', .string name', .slice Ax1 kids'.length px1] 30)).heap.size vg.heap.size zk (.slice Ag zk.length pg) := Xtzg_1515.keep (Nat.le_refl _) (Nat.le_refl _) (sf1.same (by omega) (by omega))
  clear yX10_1515 yX11_1515 yX12_1515 yX13_1515
  clear RL0_1515 RL1_1515 RW_1515 RX0_1515 RX1_1515 RG_1515 Xqzr_1515 Xtzr_1515 Xqx1_1515 Xtx1_1515 Xqzg_1515 Xtzg_1515
  have hk0 : ¬ rk1 < 0 := by omega
  have yW0_1516 : (m1).cell? ⟨gr, 0, none⟩ = some (.int .i64 zop) := RW_1516.cell 0
  have yW1_1516 : (m1).cell? ⟨gr, 1, none⟩ = some (.int .i64 zn) := RW_1516.cell 1
  have yW2_1516 : (m1).cell? ⟨gr, 2, none⟩ = some (.string znm) := RW_1516.cell 2
  have yW3_1516 : (m1).cell? ⟨gr, 3, none⟩ = some (.slice Ar zk.length pr) := RW_1516.cell 3
  have yG0_1516 : (m1).cell? ⟨vg.heap.size, 0, none⟩ = some (.int .i64 zop) := RG_1516.cell 0
  have yG1_1516 : (m1).cell? ⟨vg.heap.size, 1, none⟩ = some (.int .i64 zn) := RG_1516.cell 1
  have yG2_1516 : (m1).cell? ⟨vg.heap.size, 2, none⟩ = some (.string znm) := RG_1516.cell 2
  have yG3_1516 : (m1).cell? ⟨vg.heap.size, 3, none⟩ = some (.slice Ag zk.length pg) := RG_1516.cell 3
  go_wp2_with fail
  refine (eq_Expr 12 zop zn znm zk (.slice Ag zk.length pg) (.slice Ar zk.length pr) _ (ux1.alloc (.cells #[.int .i64 op', .int .i64 n', .string name', .slice Ax1 kids'.length px1] 30)).heap.size vg.heap.size lor hir (by first | omega | (simp; omega)) (by first | omega | (simp; omega)) Xqzg_1516.exS Xqzr_1516.exS).mono ?_
  rintro e j2 ⟨rfl, e_j2⟩
  have hb1517 : Below w.heap.size w j2 := hb1516.trans (e_j2.mono hb1516.size)
  have sz1517 : (m1).heap.size ≤ j2.heap.size := e_j2.size
  have RL0_1517 : Row (j2) (w.heap.size) 24 #[.int .i64 op, .int .i64 n, .string name, v3] := RL0_1516.below e_j2 RL0_1516.lt
  have RL1_1517 : Row (j2) (w.heap.size + 1) 24 #[.int .i64 op', .int .i64 n', .string name', v3'] := RL1_1516.below e_j2 RL1_1516.lt
  have RW_1517 : Row (j2) (gr) 30 #[.int .i64 zop, .int .i64 zn, .string znm, .slice Ar zk.length pr] := RW_1516.below e_j2 RW_1516.lt
  have RX0_1517 : Row (j2) (ux0.heap.size) 30 #[.int .i64 op, .int .i64 n, .string name, .slice Ax0 kids.length px0] := RX0_1516.below e_j2 RX0_1516.lt
  have RX1_1517 : Row (j2) (ux1.heap.size) 30 #[.int .i64 op', .int .i64 n', .string name', .slice Ax1 kids'.length px1] := RX1_1516.below e_j2 RX1_1516.lt
  have RG_1517 : Row (j2) (vg.heap.size) 30 #[.int .i64 zop, .int .i64 zn, .string znm, .slice Ag zk.length pg] := RG_1516.below e_j2 RG_1516.lt
  have Xqzr_1517 : SlT false (exT false 12) (j2) lor hir zk (.slice Ar zk.length pr) := Xqzr_1516.below e_j2 (by first | omega | (simp; omega) | (simp at *; omega))
  have Xtzr_1517 : SlT true (exT true 12) (j2) lor hir zk (.slice Ar zk.length pr) := Xtzr_1516.below e_j2 (by first | omega | (simp; omega) | (simp at *; omega))
  have Xqzg_1517 : SlT false (exT false 12) (j2) (ux1.alloc (.cells #[.int .i64 op', .int .i64 n', .string name', .slice Ax1 kids'.length px1] 30)).heap.size vg.heap.size zk (.slice Ag zk.length pg) := Xqzg_1516.below e_j2 (by first | omega | (simp; omega) | (simp at *; omega))
  have Xtzg_1517 : SlT true (exT true 12) (j2) (ux1.alloc (.cells #[.int .i64 op', .int .i64 n', .string name', .slice Ax1 kids'.length px1] 30)).heap.size vg.heap.size zk (.slice Ag zk.length pg) := Xtzg_1516.below e_j2 (by first | omega | (simp; omega) | (simp at *; omega))
  clear yW0_1516 yW1_1516 yW2_1516 yW3_1516 yG0_1516 yG1_1516 yG2_1516 yG3_1516
  clear RL0_1516 RL1_1516 RW_1516 RX0_1516 RX1_1516 RG_1516 Xqzr_1516 Xtzr_1516 Xqzg_1516 Xtzg_1516
  have yG0_1517 : (j2).cell? ⟨vg.heap.size, 0, none⟩ = some (.int .i64 zop) := RG_1517.cell 0
  have yG1_1517 : (j2).cell? ⟨vg.heap.size, 1, none⟩ = some (.int .i64 zn) := RG_1517.cell 1
  have yG2_1517 : (j2).cell? ⟨vg.heap.size, 2, none⟩ = some (.string znm) := RG_1517.cell 2
  have yG3_1517 : (j2).cell? ⟨vg.heap.size, 3, none⟩ = some (.slice Ag zk.length pg) := RG_1517.cell 3
  go_wp2_with fail
  refine (markx_Expr 12 zop zn znm zk (.slice Ag zk.length pg) 1 _ (ux1.alloc (.cells #[.int .i64 op', .int .i64 n', .string name', .slice Ax1 kids'.length px1] 30)).heap.size vg.heap.size (by omega) (by first | omega | (simp; omega)) Xtzg_1517).mono ?_
  rintro e j3 ⟨rfl, hm, sg⟩
  have hb1518 : Below w.heap.size w j3 := hb1517.trans (sg.below (by omega) hb1517.size)
  have sz1518 : (j2).heap.size ≤ j3.heap.size := sg.size
  have RL0_1518 : Row (j3) (w.heap.size) 24 #[.int .i64 op, .int .i64 n, .string name, v3] := RL0_1517.soft sg (by omega)
  have RL1_1518 : Row (j3) (w.heap.size + 1) 24 #[.int .i64 op', .int .i64 n', .string name', v3'] := RL1_1517.soft sg (by omega)
  have RW_1518 : Row (j3) (gr) 30 #[.int .i64 zop, .int .i64 zn, .string znm, .slice Ar zk.length pr] := RW_1517.soft sg (by omega)
  have RX0_1518 : Row (j3) (ux0.heap.size) 30 #[.int .i64 op, .int .i64 n, .string name, .slice Ax0 kids.length px0] := RX0_1517.soft sg (by omega)
  have RX1_1518 : Row (j3) (ux1.heap.size) 30 #[.int .i64 op', .int .i64 n', .string name', .slice Ax1 kids'.length px1] := RX1_1517.soft sg (by omega)
  have RG_1518 : Row (j3) (vg.heap.size) 30 #[.int .i64 zop, .int .i64 zn, .string znm, .slice Ag zk.length pg] := RG_1517.soft sg (by omega)
  have Xqzr_1518 : SlT false (exT false 12) (j3) lor hir zk (.slice Ar zk.length pr) := Xqzr_1517.keep (Nat.le_refl _) (Nat.le_refl _) (sg.same (by omega) (by omega))
  have Xtzr_1518 : SlT true (exT true 12) (j3) lor hir zk (.slice Ar zk.length pr) := Xtzr_1517.keep (Nat.le_refl _) (Nat.le_refl _) (sg.same (by omega) (by omega))
  clear yG0_1517 yG1_1517 yG2_1517 yG3_1517
  clear RL0_1517 RL1_1517 RW_1517 RX0_1517 RX1_1517 RG_1517 Xqzr_1517 Xtzr_1517 Xqzg_1517 Xtzg_1517
  have yG0_1518 : (j3).cell? ⟨vg.heap.size, 0, none⟩ = some (.int .i64 zop) := RG_1518.cell 0
  have yG1_1518 : (j3).cell? ⟨vg.heap.size, 1, none⟩ = some (.int .i64 zn) := RG_1518.cell 1
  have yG2_1518 : (j3).cell? ⟨vg.heap.size, 2, none⟩ = some (.string znm) := RG_1518.cell 2
  have yG3_1518 : (j3).cell? ⟨vg.heap.size, 3, none⟩ = some (.slice Ag zk.length pg) := RG_1518.cell 3
  go_wp2_with fail
  refine (heldx_Expr 12 zop zn znm zk (.slice Ag zk.length pg) 1 _ (ux1.alloc (.cells #[.int .i64 op', .int .i64 n', .string name', .slice Ax1 kids'.length px1] 30)).heap.size vg.heap.size (by omega) (by first | omega | (simp; omega)) hm.exS).mono ?_
  rintro e j4 ⟨rfl, e_j4⟩
  have hb1519 : Below w.heap.size w j4 := hb1518.trans (e_j4.mono hb1518.size)
  have sz1519 : (j3).heap.size ≤ j4.heap.size := e_j4.size
  have RL0_1519 : Row (j4) (w.heap.size) 24 #[.int .i64 op, .int .i64 n, .string name, v3] := RL0_1518.below e_j4 RL0_1518.lt
  have RL1_1519 : Row (j4) (w.heap.size + 1) 24 #[.int .i64 op', .int .i64 n', .string name', v3'] := RL1_1518.below e_j4 RL1_1518.lt
  have RW_1519 : Row (j4) (gr) 30 #[.int .i64 zop, .int .i64 zn, .string znm, .slice Ar zk.length pr] := RW_1518.below e_j4 RW_1518.lt
  have RX0_1519 : Row (j4) (ux0.heap.size) 30 #[.int .i64 op, .int .i64 n, .string name, .slice Ax0 kids.length px0] := RX0_1518.below e_j4 RX0_1518.lt
  have RX1_1519 : Row (j4) (ux1.heap.size) 30 #[.int .i64 op', .int .i64 n', .string name', .slice Ax1 kids'.length px1] := RX1_1518.below e_j4 RX1_1518.lt
  have RG_1519 : Row (j4) (vg.heap.size) 30 #[.int .i64 zop, .int .i64 zn, .string znm, .slice Ag zk.length pg] := RG_1518.below e_j4 RG_1518.lt
  have Xqzr_1519 : SlT false (exT false 12) (j4) lor hir zk (.slice Ar zk.length pr) := Xqzr_1518.below e_j4 (by first | omega | (simp; omega) | (simp at *; omega))
  have Xtzr_1519 : SlT true (exT true 12) (j4) lor hir zk (.slice Ar zk.length pr) := Xtzr_1518.below e_j4 (by first | omega | (simp; omega) | (simp at *; omega))
  have Xhm_1519 : SlT false (exT false 12) (j4) (ux1.alloc (.cells #[.int .i64 op', .int .i64 n', .string name', .slice Ax1 kids'.length px1] 30)).heap.size vg.heap.size (mkL zk 1) (.slice Ag zk.length pg) := hm.below e_j4 (by first | omega | (simp; omega) | (simp at *; omega))
  clear yG0_1518 yG1_1518 yG2_1518 yG3_1518
  clear RL0_1518 RL1_1518 RW_1518 RX0_1518 RX1_1518 RG_1518 Xqzr_1518 Xtzr_1518 hm
  have hqj4 : ¬ (1 : Int) + 3 * (partsL zk : Int) < 0 := by omega
  go_wp2_with fail
  go_cut [17, 18] (fun sp sb wxh => ∃ (g lo hi : Nat) (Az : Option Addr) (pz : Nat), sp = .pointer (some ⟨g, 0, none⟩) ∧ sb = .bool rb ∧ Row wxh g 30 #[.int .i64 zop, .int .i64 zn, .string znm, .slice Az zk.length pz] ∧ (g < lo ∨ hi ≤ g) ∧ j4.heap.size ≤ g ∧ j4.heap.size ≤ lo ∧ hi ≤ wxh.heap.size ∧ SlT false (exT false 12) wxh lo hi zk (.slice Az zk.length pz) ∧ SlT true (exT true 12) wxh lo hi zk (.slice Az zk.length pz) ∧ Below j4.heap.size j4 wxh)
  case first =>
    have bp0 : Below j4.heap.size j4 j4.drew := (Below.refl _ _).drew
    have hbd1520 : Below w.heap.size w j4.drew := hb1519.drew
    have RL0_1520 : Row (j4.drew) (w.heap.size) 24 #[.int .i64 op, .int .i64 n, .string name, v3] := RL0_1519.drew
    have RL1_1520 : Row (j4.drew) (w.heap.size + 1) 24 #[.int .i64 op', .int .i64 n', .string name', v3'] := RL1_1519.drew
    have szd1520 : j4.heap.size ≤ j4.drew.heap.size := Nat.le_refl _
    have yL00_1520 : (j4.drew).cell? ⟨w.heap.size, 0, none⟩ = some (.int .i64 op) := RL0_1520.cell 0
    have yL01_1520 : (j4.drew).cell? ⟨w.heap.size, 1, none⟩ = some (.int .i64 n) := RL0_1520.cell 1
    have yL02_1520 : (j4.drew).cell? ⟨w.heap.size, 2, none⟩ = some (.string name) := RL0_1520.cell 2
    have yL03_1520 : (j4.drew).cell? ⟨w.heap.size, 3, none⟩ = some (v3) := RL0_1520.cell 3
    have yL10_1520 : (j4.drew).cell? ⟨w.heap.size + 1, 0, none⟩ = some (.int .i64 op') := RL1_1520.cell 0
    have yL11_1520 : (j4.drew).cell? ⟨w.heap.size + 1, 1, none⟩ = some (.int .i64 n') := RL1_1520.cell 1
    have yL12_1520 : (j4.drew).cell? ⟨w.heap.size + 1, 2, none⟩ = some (.string name') := RL1_1520.cell 2
    have yL13_1520 : (j4.drew).cell? ⟨w.heap.size + 1, 3, none⟩ = some (v3') := RL1_1520.cell 3
    refine wp_region_held_drew (S := fun w' => (w'.cell? ⟨w.heap.size, 0, none⟩ = some (.int .i64 op) ∧ w'.cell? ⟨w.heap.size, 1, none⟩ = some (.int .i64 n) ∧ w'.cell? ⟨w.heap.size, 2, none⟩ = some (.string name) ∧ w'.cell? ⟨w.heap.size, 3, none⟩ = some (v3) ∧ w'.cell? ⟨w.heap.size + 1, 0, none⟩ = some (.int .i64 op') ∧ w'.cell? ⟨w.heap.size + 1, 1, none⟩ = some (.int .i64 n') ∧ w'.cell? ⟨w.heap.size + 1, 2, none⟩ = some (.string name') ∧ w'.cell? ⟨w.heap.size + 1, 3, none⟩ = some (v3'))) (by kernel_rfl) ?_ (fun hHeld => ?_)
    · ((try dsimp only); refine ⟨?_, ?_, ?_, ?_, ?_, ?_, ?_, ?_⟩ <;> assumption)
    refine reg_take (i := 0) (v := ?v30) rfl (by kernel_rfl) (by kernel_rfl) (by kernel_rfl) (fun _ _ _ h => h) (Or.inl ⟨by kernel_rfl, ?h30⟩) (by assumption) ?r30
    case h30 => (intro w hSw; (try dsimp only at hSw); go_simp; try with_reducible rfl)
    try simp only [Act.put, List.setIfInBounds_toArray, List.set_cons_zero, List.set_cons_succ]
    refine reg_take (i := 2) (v := ?v31) rfl (by kernel_rfl) (by kernel_rfl) (by kernel_rfl) (fun _ _ _ h => h) (Or.inl ⟨by kernel_rfl, ?h31⟩) (by assumption) ?r31
    case h31 => (intro w hSw; (try dsimp only at hSw); go_simp; try with_reducible rfl)
    try simp only [Act.put, List.setIfInBounds_toArray, List.set_cons_zero, List.set_cons_succ]
    refine reg_take (i := 3) (v := ?v32) rfl (by kernel_rfl) (by kernel_rfl) (by kernel_rfl) (fun _ _ _ h => h) (Or.inl ⟨by kernel_rfl, ?h32⟩) (by assumption) ?r32
    case h32 => (intro w hSw; (try dsimp only at hSw); go_simp; try with_reducible rfl)
    try simp only [Act.put, List.setIfInBounds_toArray, List.set_cons_zero, List.set_cons_succ]
    refine reg_call2 (i := 1) (j := 9) (by kernel_rfl) rfl rfl (fun K hK => ?_) (fun K hK => ?_)
    · go_simp
      refine (to_Expr d op n name kids v3 j4.drew 0 w.heap.size hbd1520.size hN0 h0 h1 h2 (h3.below hbd1520 (Nat.le_refl _))).mono ?_
      rintro e uh0_1521 ⟨cs, rfl, hx, euh0_1521⟩
      obtain ⟨xah0_1521, hcs, -, -, -, qah0_1521⟩ := ex_open d (hx false)
      change _ = [.int .i64 op, .int .i64 n, .string name, xah0_1521] at hcs
      subst hcs
      clear hx
      obtain ⟨Aah0_1521, pah0_1521, hf, _, _⟩ := qah0_1521.form
      change _ = Value.slice Aah0_1521 kids.length pah0_1521 at hf
      subst hf
      have bp1522 : Below j4.heap.size j4 uh0_1521 := bp0.trans (euh0_1521.mono bp0.size)
      have hb1523 : Below w.heap.size w uh0_1521 := hbd1520.trans (euh0_1521.mono hbd1520.size)
      have sz1523 : (j4.drew).heap.size ≤ uh0_1521.heap.size := euh0_1521.size
      have RL0_1523 : Row (uh0_1521) (w.heap.size) 24 #[.int .i64 op, .int .i64 n, .string name, v3] := RL0_1520.below euh0_1521 RL0_1520.lt
      have RL1_1523 : Row (uh0_1521) (w.heap.size + 1) 24 #[.int .i64 op', .int .i64 n', .string name', v3'] := RL1_1520.below euh0_1521 RL1_1520.lt
      clear yL00_1520 yL01_1520 yL02_1520 yL03_1520 yL10_1520 yL11_1520 yL12_1520 yL13_1520
      clear RL0_1520 RL1_1520
      have yL00_1523 : (uh0_1521).cell? ⟨w.heap.size, 0, none⟩ = some (.int .i64 op) := RL0_1523.cell 0
      have yL01_1523 : (uh0_1521).cell? ⟨w.heap.size, 1, none⟩ = some (.int .i64 n) := RL0_1523.cell 1
      have yL02_1523 : (uh0_1521).cell? ⟨w.heap.size, 2, none⟩ = some (.string name) := RL0_1523.cell 2
      have yL03_1523 : (uh0_1521).cell? ⟨w.heap.size, 3, none⟩ = some (v3) := RL0_1523.cell 3
      have yL10_1523 : (uh0_1521).cell? ⟨w.heap.size + 1, 0, none⟩ = some (.int .i64 op') := RL1_1523.cell 0
      have yL11_1523 : (uh0_1521).cell? ⟨w.heap.size + 1, 1, none⟩ = some (.int .i64 n') := RL1_1523.cell 1
      have yL12_1523 : (uh0_1521).cell? ⟨w.heap.size + 1, 2, none⟩ = some (.string name') := RL1_1523.cell 2
      have yL13_1523 : (uh0_1521).cell? ⟨w.heap.size + 1, 3, none⟩ = some (v3') := RL1_1523.cell 3
      refine hK.out _ _ ?_ (fun hHeld => ?_)
      · ((try dsimp only); refine ⟨?_, ?_, ?_, ?_, ?_, ?_, ?_, ?_⟩ <;> assumption)
      clear hK K
      try simp only [Act.put, List.setIfInBounds_toArray, List.set_cons_zero, List.set_cons_succ]
      refine reg_call2 (i := 4) (j := 9) (by kernel_rfl) rfl rfl (fun K hK => ?_) (fun K hK => ?_)
      · go_simp
        refine (to_Expr d' op' n' name' kids' v3' uh0_1521 0 w.heap.size hb1523.size hN1 h0' h1' h2' (h3'.below hb1523 (Nat.le_refl _))).mono ?_
        rintro e uh1_1524 ⟨cs, rfl, hx, euh1_1524⟩
        obtain ⟨xah1_1524, hcs, -, -, -, qah1_1524⟩ := ex_open d' (hx false)
        change _ = [.int .i64 op', .int .i64 n', .string name', xah1_1524] at hcs
        subst hcs
        clear hx
        obtain ⟨Aah1_1524, pah1_1524, hf, _, _⟩ := qah1_1524.form
        change _ = Value.slice Aah1_1524 kids'.length pah1_1524 at hf
        subst hf
        have bp1525 : Below j4.heap.size j4 uh1_1524 := bp1522.trans (euh1_1524.mono bp1522.size)
        have hb1526 : Below w.heap.size w uh1_1524 := hb1523.trans (euh1_1524.mono hb1523.size)
        have sz1526 : (uh0_1521).heap.size ≤ uh1_1524.heap.size := euh1_1524.size
        have RL0_1526 : Row (uh1_1524) (w.heap.size) 24 #[.int .i64 op, .int .i64 n, .string name, v3] := RL0_1523.below euh1_1524 RL0_1523.lt
        have RL1_1526 : Row (uh1_1524) (w.heap.size + 1) 24 #[.int .i64 op', .int .i64 n', .string name', v3'] := RL1_1523.below euh1_1524 RL1_1523.lt
        have Xa0_1526 : Sl false (exS false d) (uh1_1524) j4.drew.heap.size uh0_1521.heap.size kids (.slice Aah0_1521 kids.length pah0_1521) := qah0_1521.below euh1_1524 (by first | omega | (simp; omega) | (simp at *; omega))
        clear yL00_1523 yL01_1523 yL02_1523 yL03_1523 yL10_1523 yL11_1523 yL12_1523 yL13_1523
        clear RL0_1523 RL1_1523 qah0_1521
        have yL00_1526 : (uh1_1524).cell? ⟨w.heap.size, 0, none⟩ = some (.int .i64 op) := RL0_1526.cell 0
        have yL01_1526 : (uh1_1524).cell? ⟨w.heap.size, 1, none⟩ = some (.int .i64 n) := RL0_1526.cell 1
        have yL02_1526 : (uh1_1524).cell? ⟨w.heap.size, 2, none⟩ = some (.string name) := RL0_1526.cell 2
        have yL03_1526 : (uh1_1524).cell? ⟨w.heap.size, 3, none⟩ = some (v3) := RL0_1526.cell 3
        have yL10_1526 : (uh1_1524).cell? ⟨w.heap.size + 1, 0, none⟩ = some (.int .i64 op') := RL1_1526.cell 0
        have yL11_1526 : (uh1_1524).cell? ⟨w.heap.size + 1, 1, none⟩ = some (.int .i64 n') := RL1_1526.cell 1
        have yL12_1526 : (uh1_1524).cell? ⟨w.heap.size + 1, 2, none⟩ = some (.string name') := RL1_1526.cell 2
        have yL13_1526 : (uh1_1524).cell? ⟨w.heap.size + 1, 3, none⟩ = some (v3') := RL1_1526.cell 3
        refine hK.out _ _ ?_ (fun hHeld => ?_)
        · ((try dsimp only); refine ⟨?_, ?_, ?_, ?_, ?_, ?_, ?_, ?_⟩ <;> assumption)
        clear hK K
        try simp only [Act.put, List.setIfInBounds_toArray, List.set_cons_zero, List.set_cons_succ]
        refine reg_call2 (i := 5) (j := 9) (by kernel_rfl) rfl rfl (fun K hK => ?_) (fun K hK => ?_)
        · go_simp
          refine (implPutVar_u d op n name kids (.slice Aah0_1521 kids.length pah0_1521) nm d' op' n' name' kids' (.slice Aah1_1524 kids'.length pah1_1524) uh1_1524 j4.drew.heap.size uh0_1521.heap.size uh0_1521.heap.size uh1_1524.heap.size (by omega) (by omega) hN0 h0 h1 h2 Xa0_1526 hN1 h0' h1' h2' qah1_1524 (ht.below hb1526 (Nat.le_refl _))).mono ?_
          rintro e vh_1527 ⟨v3', he, hx, evh_1527⟩
          rw [hR.out] at he hx
          obtain ⟨Ah_1527, ph_1527, hw, _, _⟩ := (exT_kids 12 (hx false)).form
          change _ = Value.slice Ah_1527 zk.length ph_1527 at hw
          subst hw
          change _ = Ending.returned (.tuple #[.agg #[.int .i64 zop, .int .i64 zn, .string znm, .slice Ah_1527 zk.length ph_1527], .bool rb]) at he
          subst he
          have qzh_1527 := exT_kids 12 (hx false)
          change SlT false (exT false 12) vh_1527 uh1_1524.heap.size vh_1527.heap.size zk (.slice Ah_1527 zk.length ph_1527) at qzh_1527
          have tzh_1527 := exT_kids 12 (hx true)
          change SlT true (exT true 12) vh_1527 uh1_1524.heap.size vh_1527.heap.size zk (.slice Ah_1527 zk.length ph_1527) at tzh_1527
          clear hx
          have bp1528 : Below j4.heap.size j4 vh_1527 := bp1525.trans (evh_1527.mono bp1525.size)
          have hb1529 : Below w.heap.size w vh_1527 := hb1526.trans (evh_1527.mono hb1526.size)
          have sz1529 : (uh1_1524).heap.size ≤ vh_1527.heap.size := evh_1527.size
          have RL0_1529 : Row (vh_1527) (w.heap.size) 24 #[.int .i64 op, .int .i64 n, .string name, v3] := RL0_1526.below evh_1527 RL0_1526.lt
          have RL1_1529 : Row (vh_1527) (w.heap.size + 1) 24 #[.int .i64 op', .int .i64 n', .string name', v3'] := RL1_1526.below evh_1527 RL1_1526.lt
          clear yL00_1526 yL01_1526 yL02_1526 yL03_1526 yL10_1526 yL11_1526 yL12_1526 yL13_1526
          clear RL0_1526 RL1_1526
          have yL00_1529 : (vh_1527).cell? ⟨w.heap.size, 0, none⟩ = some (.int .i64 op) := RL0_1529.cell 0
          have yL01_1529 : (vh_1527).cell? ⟨w.heap.size, 1, none⟩ = some (.int .i64 n) := RL0_1529.cell 1
          have yL02_1529 : (vh_1527).cell? ⟨w.heap.size, 2, none⟩ = some (.string name) := RL0_1529.cell 2
          have yL03_1529 : (vh_1527).cell? ⟨w.heap.size, 3, none⟩ = some (v3) := RL0_1529.cell 3
          have yL10_1529 : (vh_1527).cell? ⟨w.heap.size + 1, 0, none⟩ = some (.int .i64 op') := RL1_1529.cell 0
          have yL11_1529 : (vh_1527).cell? ⟨w.heap.size + 1, 1, none⟩ = some (.int .i64 n') := RL1_1529.cell 1
          have yL12_1529 : (vh_1527).cell? ⟨w.heap.size + 1, 2, none⟩ = some (.string name') := RL1_1529.cell 2
          have yL13_1529 : (vh_1527).cell? ⟨w.heap.size + 1, 3, none⟩ = some (v3') := RL1_1529.cell 3
          refine hK.out _ _ ?_ (fun hHeld => ?_)
          · ((try dsimp only); refine ⟨?_, ?_, ?_, ?_, ?_, ?_, ?_, ?_⟩ <;> assumption)
          clear hK K
          try simp only [Act.put, List.setIfInBounds_toArray, List.set_cons_zero, List.set_cons_succ]
          refine reg_take (i := 6) (v := ?v33) rfl (by kernel_rfl) (by kernel_rfl) (by kernel_rfl) (fun _ _ _ h => h) (Or.inl ⟨by kernel_rfl, ?h33⟩) (by assumption) ?r33
          case h33 => (intro w hSw; (try dsimp only at hSw); go_simp; try with_reducible rfl)
          try simp only [Act.put, List.setIfInBounds_toArray, List.set_cons_zero, List.set_cons_succ]
          refine reg_take (i := 7) (v := ?v34) rfl (by kernel_rfl) (by kernel_rfl) (by kernel_rfl) (fun _ _ _ h => h) (Or.inl ⟨by kernel_rfl, ?h34⟩) (by assumption) ?r34
          case h34 => (intro w hSw; (try dsimp only at hSw); go_simp; try with_reducible rfl)
          try simp only [Act.put, List.setIfInBounds_toArray, List.set_cons_zero, List.set_cons_succ]
          refine reg_take (i := 8) (v := ?v35) rfl (by kernel_rfl) (by kernel_rfl) (by kernel_rfl) (fun _ _ _ h => h) (Or.inl ⟨by kernel_rfl, ?h35⟩) (by assumption) ?r35
          case h35 => (intro w hSw; (try dsimp only at hSw); go_simp; try with_reducible rfl)
          try simp only [Act.put, List.setIfInBounds_toArray, List.set_cons_zero, List.set_cons_succ]
          refine reg_call (i := 9) (by kernel_rfl) rfl (fun K hK => ?_)
          go_simp
          have PVL0 := RL0_1529
          have PVL1 := RL1_1529
          have hb1530 : Below w.heap.size w (vh_1527.alloc (.cells #[.int .i64 0, .int .i64 0, .string ⟨#[]⟩, .slice none 0 0] 30)) := hb1529.alloc hb1529.size _
          have sz1530 : vh_1527.heap.size < (vh_1527.alloc (.cells #[.int .i64 0, .int .i64 0, .string ⟨#[]⟩, .slice none 0 0] 30)).heap.size := by simp
          have RL0_1530 : Row (vh_1527.alloc (.cells #[.int .i64 0, .int .i64 0, .string ⟨#[]⟩, .slice none 0 0] 30)) (w.heap.size) 24 #[.int .i64 op, .int .i64 n, .string name, v3] := RL0_1529.alloc _
          have RL1_1530 : Row (vh_1527.alloc (.cells #[.int .i64 0, .int .i64 0, .string ⟨#[]⟩, .slice none 0 0] 30)) (w.heap.size + 1) 24 #[.int .i64 op', .int .i64 n', .string name', v3'] := RL1_1529.alloc _
          clear yL00_1529 yL01_1529 yL02_1529 yL03_1529 yL10_1529 yL11_1529 yL12_1529 yL13_1529
          clear RL0_1529 RL1_1529
          have RN_1530 : Row (vh_1527.alloc (.cells #[.int .i64 0, .int .i64 0, .string ⟨#[]⟩, .slice none 0 0] 30)) vh_1527.heap.size 30 #[.int .i64 0, .int .i64 0, .string ⟨#[]⟩, .slice none 0 0] := Row.new _ _ _
          have bp1531 : Below j4.heap.size j4 (vh_1527.alloc (.cells #[.int .i64 0, .int .i64 0, .string ⟨#[]⟩, .slice none 0 0] 30)) := bp1528.alloc bp1528.size _
          have yL00_1531 : (vh_1527.alloc (.cells #[.int .i64 0, .int .i64 0, .string ⟨#[]⟩, .slice none 0 0] 30)).cell? ⟨w.heap.size, 0, none⟩ = some (.int .i64 op) := RL0_1530.cell 0
          have yL01_1531 : (vh_1527.alloc (.cells #[.int .i64 0, .int .i64 0, .string ⟨#[]⟩, .slice none 0 0] 30)).cell? ⟨w.heap.size, 1, none⟩ = some (.int .i64 n) := RL0_1530.cell 1
          have yL02_1531 : (vh_1527.alloc (.cells #[.int .i64 0, .int .i64 0, .string ⟨#[]⟩, .slice none 0 0] 30)).cell? ⟨w.heap.size, 2, none⟩ = some (.string name) := RL0_1530.cell 2
          have yL03_1531 : (vh_1527.alloc (.cells #[.int .i64 0, .int .i64 0, .string ⟨#[]⟩, .slice none 0 0] 30)).cell? ⟨w.heap.size, 3, none⟩ = some (v3) := RL0_1530.cell 3
          have yL10_1531 : (vh_1527.alloc (.cells #[.int .i64 0, .int .i64 0, .string ⟨#[]⟩, .slice none 0 0] 30)).cell? ⟨w.heap.size + 1, 0, none⟩ = some (.int .i64 op') := RL1_1530.cell 0
          have yL11_1531 : (vh_1527.alloc (.cells #[.int .i64 0, .int .i64 0, .string ⟨#[]⟩, .slice none 0 0] 30)).cell? ⟨w.heap.size + 1, 1, none⟩ = some (.int .i64 n') := RL1_1530.cell 1
          have yL12_1531 : (vh_1527.alloc (.cells #[.int .i64 0, .int .i64 0, .string ⟨#[]⟩, .slice none 0 0] 30)).cell? ⟨w.heap.size + 1, 2, none⟩ = some (.string name') := RL1_1530.cell 2
          have yL13_1531 : (vh_1527.alloc (.cells #[.int .i64 0, .int .i64 0, .string ⟨#[]⟩, .slice none 0 0] 30)).cell? ⟨w.heap.size + 1, 3, none⟩ = some (v3') := RL1_1530.cell 3
          refine hK.out _ _ ?_ (fun hHeld => ?_)
          · ((try dsimp only); refine ⟨?_, ?_, ?_, ?_, ?_, ?_, ?_, ?_⟩ <;> assumption)
          clear hK K
          try simp only [Act.put, List.setIfInBounds_toArray, List.set_cons_zero, List.set_cons_succ]
          clear yL00_1531 yL01_1531 yL02_1531 yL03_1531 yL10_1531 yL11_1531 yL12_1531 yL13_1531
          have yN0_1531 : (vh_1527.alloc (.cells #[.int .i64 0, .int .i64 0, .string ⟨#[]⟩, .slice none 0 0] 30)).cell? ⟨vh_1527.heap.size, 0, none⟩ = some (.int .i64 0) := RN_1530.cell 0
          have yN1_1531 : (vh_1527.alloc (.cells #[.int .i64 0, .int .i64 0, .string ⟨#[]⟩, .slice none 0 0] 30)).cell? ⟨vh_1527.heap.size, 1, none⟩ = some (.int .i64 0) := RN_1530.cell 1
          have yN2_1531 : (vh_1527.alloc (.cells #[.int .i64 0, .int .i64 0, .string ⟨#[]⟩, .slice none 0 0] 30)).cell? ⟨vh_1527.heap.size, 2, none⟩ = some (.string ⟨#[]⟩) := RN_1530.cell 2
          have yN3_1531 : (vh_1527.alloc (.cells #[.int .i64 0, .int .i64 0, .string ⟨#[]⟩, .slice none 0 0] 30)).cell? ⟨vh_1527.heap.size, 3, none⟩ = some (.slice none 0 0) := RN_1530.cell 3
          have nf0 : (vh_1527.alloc (.cells #[.int .i64 0, .int .i64 0, .string ⟨#[]⟩, .slice none 0 0] 30)).frozen? ⟨vh_1527.heap.size, 0, none⟩ = false := RN_1530.frozen 0
          have nf1 : (vh_1527.alloc (.cells #[.int .i64 0, .int .i64 0, .string ⟨#[]⟩, .slice none 0 0] 30)).frozen? ⟨vh_1527.heap.size, 1, none⟩ = false := RN_1530.frozen 1
          have nf2 : (vh_1527.alloc (.cells #[.int .i64 0, .int .i64 0, .string ⟨#[]⟩, .slice none 0 0] 30)).frozen? ⟨vh_1527.heap.size, 2, none⟩ = false := RN_1530.frozen 2
          have nf3 : (vh_1527.alloc (.cells #[.int .i64 0, .int .i64 0, .string ⟨#[]⟩, .slice none 0 0] 30)).frozen? ⟨vh_1527.heap.size, 3, none⟩ = false := RN_1530.frozen 3
          refine reg_call (i := 10) (by kernel_rfl) rfl (fun K hK => ?_)
          go_simp
          clear yN0_1531 yN1_1531 yN2_1531 yN3_1531
          clear nf0 nf1 nf2 nf3
          have FL0 : Row (vh_1527.alloc (.cells #[.int .i64 zop, .int .i64 zn, .string znm, .slice Ah_1527 zk.length ph_1527] 30)) (w.heap.size) 24 #[.int .i64 op, .int .i64 n, .string name, v3] := PVL0.alloc _
          have FL1 : Row (vh_1527.alloc (.cells #[.int .i64 zop, .int .i64 zn, .string znm, .slice Ah_1527 zk.length ph_1527] 30)) (w.heap.size + 1) 24 #[.int .i64 op', .int .i64 n', .string name', v3'] := PVL1.alloc _
          have yfL00 : (vh_1527.alloc (.cells #[.int .i64 zop, .int .i64 zn, .string znm, .slice Ah_1527 zk.length ph_1527] 30)).cell? ⟨w.heap.size, 0, none⟩ = some (.int .i64 op) := FL0.cell 0
          have yfL01 : (vh_1527.alloc (.cells #[.int .i64 zop, .int .i64 zn, .string znm, .slice Ah_1527 zk.length ph_1527] 30)).cell? ⟨w.heap.size, 1, none⟩ = some (.int .i64 n) := FL0.cell 1
          have yfL02 : (vh_1527.alloc (.cells #[.int .i64 zop, .int .i64 zn, .string znm, .slice Ah_1527 zk.length ph_1527] 30)).cell? ⟨w.heap.size, 2, none⟩ = some (.string name) := FL0.cell 2
          have yfL03 : (vh_1527.alloc (.cells #[.int .i64 zop, .int .i64 zn, .string znm, .slice Ah_1527 zk.length ph_1527] 30)).cell? ⟨w.heap.size, 3, none⟩ = some (v3) := FL0.cell 3
          have yfL10 : (vh_1527.alloc (.cells #[.int .i64 zop, .int .i64 zn, .string znm, .slice Ah_1527 zk.length ph_1527] 30)).cell? ⟨w.heap.size + 1, 0, none⟩ = some (.int .i64 op') := FL1.cell 0
          have yfL11 : (vh_1527.alloc (.cells #[.int .i64 zop, .int .i64 zn, .string znm, .slice Ah_1527 zk.length ph_1527] 30)).cell? ⟨w.heap.size + 1, 1, none⟩ = some (.int .i64 n') := FL1.cell 1
          have yfL12 : (vh_1527.alloc (.cells #[.int .i64 zop, .int .i64 zn, .string znm, .slice Ah_1527 zk.length ph_1527] 30)).cell? ⟨w.heap.size + 1, 2, none⟩ = some (.string name') := FL1.cell 2
          have yfL13 : (vh_1527.alloc (.cells #[.int .i64 zop, .int .i64 zn, .string znm, .slice Ah_1527 zk.length ph_1527] 30)).cell? ⟨w.heap.size + 1, 3, none⟩ = some (v3') := FL1.cell 3
          refine hK.out _ _ ?_ (fun hHeld => ?_)
          · exact ⟨yfL00, yfL01, yfL02, yfL03, yfL10, yfL11, yfL12, yfL13⟩
          clear hK K
          try simp only [Act.put, List.setIfInBounds_toArray, List.set_cons_zero, List.set_cons_succ]
          refine reg_take (i := 11) (v := ?v36) rfl (by kernel_rfl) (by kernel_rfl) (by kernel_rfl) (fun _ _ _ h => h) (Or.inl ⟨by kernel_rfl, ?h36⟩) (by assumption) ?r36
          case h36 => (intro w hSw; (try dsimp only at hSw); go_simp; try with_reducible rfl)
          try simp only [Act.put, List.setIfInBounds_toArray, List.set_cons_zero, List.set_cons_succ]
          refine wpAnyH_done (by kernel_rfl) ?_ _
          go_wp2_with fail
          go_meet
          exact ⟨vh_1527.heap.size, uh1_1524.heap.size, vh_1527.heap.size, Ah_1527, ph_1527, rfl, rfl, Row.new _ _ _, by first | (left; omega) | (right; omega) | (left; simp; omega) | (right; simp; omega), by first | omega | (simp; omega), by first | omega | (simp; omega), (by simp), qzh_1527.keep (Nat.le_refl _) (Nat.le_refl _) (fun b h1 h2 => Below.heap_alloc _ _ b (by omega)), tzh_1527.keep (Nat.le_refl _) (Nat.le_refl _) (fun b h1 h2 => Below.heap_alloc _ _ b (by omega)), bp1528.alloc bp1528.size _⟩
        · go_simp
          have PVL0 := RL0_1526
          have PVL1 := RL1_1526
          have hb1527 : Below w.heap.size w (uh1_1524.alloc (.cells #[.int .i64 0, .int .i64 0, .string ⟨#[]⟩, .slice none 0 0] 30)) := hb1526.alloc hb1526.size _
          have sz1527 : uh1_1524.heap.size < (uh1_1524.alloc (.cells #[.int .i64 0, .int .i64 0, .string ⟨#[]⟩, .slice none 0 0] 30)).heap.size := by simp
          have RL0_1527 : Row (uh1_1524.alloc (.cells #[.int .i64 0, .int .i64 0, .string ⟨#[]⟩, .slice none 0 0] 30)) (w.heap.size) 24 #[.int .i64 op, .int .i64 n, .string name, v3] := RL0_1526.alloc _
          have RL1_1527 : Row (uh1_1524.alloc (.cells #[.int .i64 0, .int .i64 0, .string ⟨#[]⟩, .slice none 0 0] 30)) (w.heap.size + 1) 24 #[.int .i64 op', .int .i64 n', .string name', v3'] := RL1_1526.alloc _
          have Xa0_1527 : Sl false (exS false d) (uh1_1524.alloc (.cells #[.int .i64 0, .int .i64 0, .string ⟨#[]⟩, .slice none 0 0] 30)) j4.drew.heap.size uh0_1521.heap.size kids (.slice Aah0_1521 kids.length pah0_1521) := Xa0_1526.keep (Nat.le_refl _) (Nat.le_refl _) (fun b h1 h2 => Below.heap_alloc _ _ b (by omega))
          have Xa1_1527 : Sl false (exS false d') (uh1_1524.alloc (.cells #[.int .i64 0, .int .i64 0, .string ⟨#[]⟩, .slice none 0 0] 30)) uh0_1521.heap.size uh1_1524.heap.size kids' (.slice Aah1_1524 kids'.length pah1_1524) := qah1_1524.keep (Nat.le_refl _) (Nat.le_refl _) (fun b h1 h2 => Below.heap_alloc _ _ b (by omega))
          clear yL00_1526 yL01_1526 yL02_1526 yL03_1526 yL10_1526 yL11_1526 yL12_1526 yL13_1526
          clear RL0_1526 RL1_1526 Xa0_1526 qah1_1524
          have RN_1527 : Row (uh1_1524.alloc (.cells #[.int .i64 0, .int .i64 0, .string ⟨#[]⟩, .slice none 0 0] 30)) uh1_1524.heap.size 30 #[.int .i64 0, .int .i64 0, .string ⟨#[]⟩, .slice none 0 0] := Row.new _ _ _
          have bp1528 : Below j4.heap.size j4 (uh1_1524.alloc (.cells #[.int .i64 0, .int .i64 0, .string ⟨#[]⟩, .slice none 0 0] 30)) := bp1525.alloc bp1525.size _
          have yL00_1528 : (uh1_1524.alloc (.cells #[.int .i64 0, .int .i64 0, .string ⟨#[]⟩, .slice none 0 0] 30)).cell? ⟨w.heap.size, 0, none⟩ = some (.int .i64 op) := RL0_1527.cell 0
          have yL01_1528 : (uh1_1524.alloc (.cells #[.int .i64 0, .int .i64 0, .string ⟨#[]⟩, .slice none 0 0] 30)).cell? ⟨w.heap.size, 1, none⟩ = some (.int .i64 n) := RL0_1527.cell 1
          have yL02_1528 : (uh1_1524.alloc (.cells #[.int .i64 0, .int .i64 0, .string ⟨#[]⟩, .slice none 0 0] 30)).cell? ⟨w.heap.size, 2, none⟩ = some (.string name) := RL0_1527.cell 2
          have yL03_1528 : (uh1_1524.alloc (.cells #[.int .i64 0, .int .i64 0, .string ⟨#[]⟩, .slice none 0 0] 30)).cell? ⟨w.heap.size, 3, none⟩ = some (v3) := RL0_1527.cell 3
          have yL10_1528 : (uh1_1524.alloc (.cells #[.int .i64 0, .int .i64 0, .string ⟨#[]⟩, .slice none 0 0] 30)).cell? ⟨w.heap.size + 1, 0, none⟩ = some (.int .i64 op') := RL1_1527.cell 0
          have yL11_1528 : (uh1_1524.alloc (.cells #[.int .i64 0, .int .i64 0, .string ⟨#[]⟩, .slice none 0 0] 30)).cell? ⟨w.heap.size + 1, 1, none⟩ = some (.int .i64 n') := RL1_1527.cell 1
          have yL12_1528 : (uh1_1524.alloc (.cells #[.int .i64 0, .int .i64 0, .string ⟨#[]⟩, .slice none 0 0] 30)).cell? ⟨w.heap.size + 1, 2, none⟩ = some (.string name') := RL1_1527.cell 2
          have yL13_1528 : (uh1_1524.alloc (.cells #[.int .i64 0, .int .i64 0, .string ⟨#[]⟩, .slice none 0 0] 30)).cell? ⟨w.heap.size + 1, 3, none⟩ = some (v3') := RL1_1527.cell 3
          refine hK.out _ _ ?_ (fun hHeld => ?_)
          · ((try dsimp only); refine ⟨?_, ?_, ?_, ?_, ?_, ?_, ?_, ?_⟩ <;> assumption)
          clear hK K
          try simp only [Act.put, List.setIfInBounds_toArray, List.set_cons_zero, List.set_cons_succ]
          refine reg_call (i := 5) (by kernel_rfl) rfl (fun K hK => ?_)
          go_simp
          refine (implPutVar_u d op n name kids (.slice Aah0_1521 kids.length pah0_1521) nm d' op' n' name' kids' (.slice Aah1_1524 kids'.length pah1_1524) (uh1_1524.alloc (.cells #[.int .i64 0, .int .i64 0, .string ⟨#[]⟩, .slice none 0 0] 30)) j4.drew.heap.size uh0_1521.heap.size uh0_1521.heap.size uh1_1524.heap.size (by omega) (by omega) hN0 h0 h1 h2 Xa0_1527 hN1 h0' h1' h2' Xa1_1527 (ht.below hb1527 (Nat.le_refl _))).mono ?_
          rintro e vh_1529 ⟨v3', he, hx, evh_1529⟩
          rw [hR.out] at he hx
          obtain ⟨Ah_1529, ph_1529, hw, _, _⟩ := (exT_kids 12 (hx false)).form
          change _ = Value.slice Ah_1529 zk.length ph_1529 at hw
          subst hw
          change _ = Ending.returned (.tuple #[.agg #[.int .i64 zop, .int .i64 zn, .string znm, .slice Ah_1529 zk.length ph_1529], .bool rb]) at he
          subst he
          have qzh_1529 := exT_kids 12 (hx false)
          change SlT false (exT false 12) vh_1529 (uh1_1524.alloc (.cells #[.int .i64 0, .int .i64 0, .string ⟨#[]⟩, .slice none 0 0] 30)).heap.size vh_1529.heap.size zk (.slice Ah_1529 zk.length ph_1529) at qzh_1529
          have tzh_1529 := exT_kids 12 (hx true)
          change SlT true (exT true 12) vh_1529 (uh1_1524.alloc (.cells #[.int .i64 0, .int .i64 0, .string ⟨#[]⟩, .slice none 0 0] 30)).heap.size vh_1529.heap.size zk (.slice Ah_1529 zk.length ph_1529) at tzh_1529
          clear hx
          have bp1530 : Below j4.heap.size j4 vh_1529 := bp1528.trans (evh_1529.mono bp1528.size)
          have hb1531 : Below w.heap.size w vh_1529 := hb1527.trans (evh_1529.mono hb1527.size)
          have sz1531 : (uh1_1524.alloc (.cells #[.int .i64 0, .int .i64 0, .string ⟨#[]⟩, .slice none 0 0] 30)).heap.size ≤ vh_1529.heap.size := evh_1529.size
          have RL0_1531 : Row (vh_1529) (w.heap.size) 24 #[.int .i64 op, .int .i64 n, .string name, v3] := RL0_1527.below evh_1529 RL0_1527.lt
          have RL1_1531 : Row (vh_1529) (w.heap.size + 1) 24 #[.int .i64 op', .int .i64 n', .string name', v3'] := RL1_1527.below evh_1529 RL1_1527.lt
          have RN_1531 : Row (vh_1529) (uh1_1524.heap.size) 30 #[.int .i64 0, .int .i64 0, .string ⟨#[]⟩, .slice none 0 0] := RN_1527.below evh_1529 RN_1527.lt
          clear yL00_1528 yL01_1528 yL02_1528 yL03_1528 yL10_1528 yL11_1528 yL12_1528 yL13_1528
          clear RL0_1527 RL1_1527 RN_1527
          have yL00_1531 : (vh_1529).cell? ⟨w.heap.size, 0, none⟩ = some (.int .i64 op) := RL0_1531.cell 0
          have yL01_1531 : (vh_1529).cell? ⟨w.heap.size, 1, none⟩ = some (.int .i64 n) := RL0_1531.cell 1
          have yL02_1531 : (vh_1529).cell? ⟨w.heap.size, 2, none⟩ = some (.string name) := RL0_1531.cell 2
          have yL03_1531 : (vh_1529).cell? ⟨w.heap.size, 3, none⟩ = some (v3) := RL0_1531.cell 3
          have yL10_1531 : (vh_1529).cell? ⟨w.heap.size + 1, 0, none⟩ = some (.int .i64 op') := RL1_1531.cell 0
          have yL11_1531 : (vh_1529).cell? ⟨w.heap.size + 1, 1, none⟩ = some (.int .i64 n') := RL1_1531.cell 1
          have yL12_1531 : (vh_1529).cell? ⟨w.heap.size + 1, 2, none⟩ = some (.string name') := RL1_1531.cell 2
          have yL13_1531 : (vh_1529).cell? ⟨w.heap.size + 1, 3, none⟩ = some (v3') := RL1_1531.cell 3
          refine hK.out _ _ ?_ (fun hHeld => ?_)
          · ((try dsimp only); refine ⟨?_, ?_, ?_, ?_, ?_, ?_, ?_, ?_⟩ <;> assumption)
          clear hK K
          try simp only [Act.put, List.setIfInBounds_toArray, List.set_cons_zero, List.set_cons_succ]
          refine reg_take (i := 6) (v := ?v37) rfl (by kernel_rfl) (by kernel_rfl) (by kernel_rfl) (fun _ _ _ h => h) (Or.inl ⟨by kernel_rfl, ?h37⟩) (by assumption) ?r37
          case h37 => (intro w hSw; (try dsimp only at hSw); go_simp; try with_reducible rfl)
          try simp only [Act.put, List.setIfInBounds_toArray, List.set_cons_zero, List.set_cons_succ]
          refine reg_take (i := 7) (v := ?v38) rfl (by kernel_rfl) (by kernel_rfl) (by kernel_rfl) (fun _ _ _ h => h) (Or.inl ⟨by kernel_rfl, ?h38⟩) (by assumption) ?r38
          case h38 => (intro w hSw; (try dsimp only at hSw); go_simp; try with_reducible rfl)
          try simp only [Act.put, List.setIfInBounds_toArray, List.set_cons_zero, List.set_cons_succ]
          refine reg_take (i := 8) (v := ?v39) rfl (by kernel_rfl) (by kernel_rfl) (by kernel_rfl) (fun _ _ _ h => h) (Or.inl ⟨by kernel_rfl, ?h39⟩) (by assumption) ?r39
          case h39 => (intro w hSw; (try dsimp only at hSw); go_simp; try with_reducible rfl)
          try simp only [Act.put, List.setIfInBounds_toArray, List.set_cons_zero, List.set_cons_succ]
          clear yL00_1531 yL01_1531 yL02_1531 yL03_1531 yL10_1531 yL11_1531 yL12_1531 yL13_1531
          have yN0_1531 : (vh_1529).cell? ⟨uh1_1524.heap.size, 0, none⟩ = some (.int .i64 0) := RN_1531.cell 0
          have yN1_1531 : (vh_1529).cell? ⟨uh1_1524.heap.size, 1, none⟩ = some (.int .i64 0) := RN_1531.cell 1
          have yN2_1531 : (vh_1529).cell? ⟨uh1_1524.heap.size, 2, none⟩ = some (.string ⟨#[]⟩) := RN_1531.cell 2
          have yN3_1531 : (vh_1529).cell? ⟨uh1_1524.heap.size, 3, none⟩ = some (.slice none 0 0) := RN_1531.cell 3
          have nf0 : (vh_1529).frozen? ⟨uh1_1524.heap.size, 0, none⟩ = false := RN_1531.frozen 0
          have nf1 : (vh_1529).frozen? ⟨uh1_1524.heap.size, 1, none⟩ = false := RN_1531.frozen 1
          have nf2 : (vh_1529).frozen? ⟨uh1_1524.heap.size, 2, none⟩ = false := RN_1531.frozen 2
          have nf3 : (vh_1529).frozen? ⟨uh1_1524.heap.size, 3, none⟩ = false := RN_1531.frozen 3
          refine reg_call (i := 10) (by kernel_rfl) rfl (fun K hK => ?_)
          go_simp
          clear yN0_1531 yN1_1531 yN2_1531 yN3_1531
          clear nf0 nf1 nf2 nf3
          have FL0 : Row (((((vh_1529).setCell ⟨uh1_1524.heap.size, 0, none⟩ (.int .i64 zop)).setCell ⟨uh1_1524.heap.size, 1, none⟩ (.int .i64 zn)).setCell ⟨uh1_1524.heap.size, 2, none⟩ (.string znm)).setCell ⟨uh1_1524.heap.size, 3, none⟩ (.slice Ah_1529 zk.length ph_1529)) (w.heap.size) 24 #[.int .i64 op, .int .i64 n, .string name, v3] := ((((RL0_1531.far (p := ⟨uh1_1524.heap.size, 0, none⟩) (by simp; omega) (.int .i64 zop)).far (p := ⟨uh1_1524.heap.size, 1, none⟩) (by simp; omega) (.int .i64 zn)).far (p := ⟨uh1_1524.heap.size, 2, none⟩) (by simp; omega) (.string znm)).far (p := ⟨uh1_1524.heap.size, 3, none⟩) (by simp; omega) (.slice Ah_1529 zk.length ph_1529))
          have FL1 : Row (((((vh_1529).setCell ⟨uh1_1524.heap.size, 0, none⟩ (.int .i64 zop)).setCell ⟨uh1_1524.heap.size, 1, none⟩ (.int .i64 zn)).setCell ⟨uh1_1524.heap.size, 2, none⟩ (.string znm)).setCell ⟨uh1_1524.heap.size, 3, none⟩ (.slice Ah_1529 zk.length ph_1529)) (w.heap.size + 1) 24 #[.int .i64 op', .int .i64 n', .string name', v3'] := ((((RL1_1531.far (p := ⟨uh1_1524.heap.size, 0, none⟩) (by simp; omega) (.int .i64 zop)).far (p := ⟨uh1_1524.heap.size, 1, none⟩) (by simp; omega) (.int .i64 zn)).far (p := ⟨uh1_1524.heap.size, 2, none⟩) (by simp; omega) (.string znm)).far (p := ⟨uh1_1524.heap.size, 3, none⟩) (by simp; omega) (.slice Ah_1529 zk.length ph_1529))
          have yfL00 : (((((vh_1529).setCell ⟨uh1_1524.heap.size, 0, none⟩ (.int .i64 zop)).setCell ⟨uh1_1524.heap.size, 1, none⟩ (.int .i64 zn)).setCell ⟨uh1_1524.heap.size, 2, none⟩ (.string znm)).setCell ⟨uh1_1524.heap.size, 3, none⟩ (.slice Ah_1529 zk.length ph_1529)).cell? ⟨w.heap.size, 0, none⟩ = some (.int .i64 op) := FL0.cell 0
          have yfL01 : (((((vh_1529).setCell ⟨uh1_1524.heap.size, 0, none⟩ (.int .i64 zop)).setCell ⟨uh1_1524.heap.size, 1, none⟩ (.int .i64 zn)).setCell ⟨uh1_1524.heap.size, 2, none⟩ (.string znm)).setCell ⟨uh1_1524.heap.size, 3, none⟩ (.slice Ah_1529 zk.length ph_1529)).cell? ⟨w.heap.size, 1, none⟩ = some (.int .i64 n) := FL0.cell 1
          have yfL02 : (((((vh_1529).setCell ⟨uh1_1524.heap.size, 0, none⟩ (.int .i64 zop)).setCell ⟨uh1_1524.heap.size, 1, none⟩ (.int .i64 zn)).setCell ⟨uh1_1524.heap.size, 2, none⟩ (.string znm)).setCell ⟨uh1_1524.heap.size, 3, none⟩ (.slice Ah_1529 zk.length ph_1529)).cell? ⟨w.heap.size, 2, none⟩ = some (.string name) := FL0.cell 2
          have yfL03 : (((((vh_1529).setCell ⟨uh1_1524.heap.size, 0, none⟩ (.int .i64 zop)).setCell ⟨uh1_1524.heap.size, 1, none⟩ (.int .i64 zn)).setCell ⟨uh1_1524.heap.size, 2, none⟩ (.string znm)).setCell ⟨uh1_1524.heap.size, 3, none⟩ (.slice Ah_1529 zk.length ph_1529)).cell? ⟨w.heap.size, 3, none⟩ = some (v3) := FL0.cell 3
          have yfL10 : (((((vh_1529).setCell ⟨uh1_1524.heap.size, 0, none⟩ (.int .i64 zop)).setCell ⟨uh1_1524.heap.size, 1, none⟩ (.int .i64 zn)).setCell ⟨uh1_1524.heap.size, 2, none⟩ (.string znm)).setCell ⟨uh1_1524.heap.size, 3, none⟩ (.slice Ah_1529 zk.length ph_1529)).cell? ⟨w.heap.size + 1, 0, none⟩ = some (.int .i64 op') := FL1.cell 0
          have yfL11 : (((((vh_1529).setCell ⟨uh1_1524.heap.size, 0, none⟩ (.int .i64 zop)).setCell ⟨uh1_1524.heap.size, 1, none⟩ (.int .i64 zn)).setCell ⟨uh1_1524.heap.size, 2, none⟩ (.string znm)).setCell ⟨uh1_1524.heap.size, 3, none⟩ (.slice Ah_1529 zk.length ph_1529)).cell? ⟨w.heap.size + 1, 1, none⟩ = some (.int .i64 n') := FL1.cell 1
          have yfL12 : (((((vh_1529).setCell ⟨uh1_1524.heap.size, 0, none⟩ (.int .i64 zop)).setCell ⟨uh1_1524.heap.size, 1, none⟩ (.int .i64 zn)).setCell ⟨uh1_1524.heap.size, 2, none⟩ (.string znm)).setCell ⟨uh1_1524.heap.size, 3, none⟩ (.slice Ah_1529 zk.length ph_1529)).cell? ⟨w.heap.size + 1, 2, none⟩ = some (.string name') := FL1.cell 2
          have yfL13 : (((((vh_1529).setCell ⟨uh1_1524.heap.size, 0, none⟩ (.int .i64 zop)).setCell ⟨uh1_1524.heap.size, 1, none⟩ (.int .i64 zn)).setCell ⟨uh1_1524.heap.size, 2, none⟩ (.string znm)).setCell ⟨uh1_1524.heap.size, 3, none⟩ (.slice Ah_1529 zk.length ph_1529)).cell? ⟨w.heap.size + 1, 3, none⟩ = some (v3') := FL1.cell 3
          refine hK.out _ _ ?_ (fun hHeld => ?_)
          · exact ⟨yfL00, yfL01, yfL02, yfL03, yfL10, yfL11, yfL12, yfL13⟩
          clear hK K
          try simp only [Act.put, List.setIfInBounds_toArray, List.set_cons_zero, List.set_cons_succ]
          refine reg_take (i := 11) (v := ?v40) rfl (by kernel_rfl) (by kernel_rfl) (by kernel_rfl) (fun _ _ _ h => h) (Or.inl ⟨by kernel_rfl, ?h40⟩) (by assumption) ?r40
          case h40 => (intro w hSw; (try dsimp only at hSw); go_simp; try with_reducible rfl)
          try simp only [Act.put, List.setIfInBounds_toArray, List.set_cons_zero, List.set_cons_succ]
          refine wpAnyH_done (by kernel_rfl) ?_ _
          go_wp2_with fail
          go_meet
          exact ⟨uh1_1524.heap.size, (uh1_1524.alloc (.cells #[.int .i64 0, .int .i64 0, .string ⟨#[]⟩, .slice none 0 0] 30)).heap.size, vh_1529.heap.size, Ah_1529, ph_1529, rfl, rfl, ((((RN_1531.set_ 0 (.int .i64 zop)).set_ 1 (.int .i64 zn)).set_ 2 (.string znm)).set_ 3 (.slice Ah_1529 zk.length ph_1529)), by first | (left; omega) | (right; omega) | (left; simp; omega) | (right; simp; omega), by first | omega | (simp; omega), by first | omega | (simp; omega), (by simp [World.setCell]), qzh_1529.keep (Nat.le_refl _) (Nat.le_refl _) (((((Same.refl _ _ _).setCell (p := ⟨uh1_1524.heap.size, 0, none⟩) (by first | (left; simp; done) | (left; dsimp only; omega) | (right; dsimp only; omega) | (left; simp; omega) | (right; simp; omega)) (.int .i64 zop)).setCell (p := ⟨uh1_1524.heap.size, 1, none⟩) (by first | (left; simp; done) | (left; dsimp only; omega) | (right; dsimp only; omega) | (left; simp; omega) | (right; simp; omega)) (.int .i64 zn)).setCell (p := ⟨uh1_1524.heap.size, 2, none⟩) (by first | (left; simp; done) | (left; dsimp only; omega) | (right; dsimp only; omega) | (left; simp; omega) | (right; simp; omega)) (.string znm)).setCell (p := ⟨uh1_1524.heap.size, 3, none⟩) (by first | (left; simp; done) | (left; dsimp only; omega) | (right; dsimp only; omega) | (left; simp; omega) | (right; simp; omega)) (.slice Ah_1529 zk.length ph_1529)), tzh_1529.keep (Nat.le_refl _) (Nat.le_refl _) (((((Same.refl _ _ _).setCell (p := ⟨uh1_1524.heap.size, 0, none⟩) (by first | (left; simp; done) | (left; dsimp only; omega) | (right; dsimp only; omega) | (left; simp; omega) | (right; simp; omega)) (.int .i64 zop)).setCell (p := ⟨uh1_1524.heap.size, 1, none⟩) (by first | (left; simp; done) | (left; dsimp only; omega) | (right; dsimp only; omega) | (left; simp; omega) | (right; simp; omega)) (.int .i64 zn)).setCell (p := ⟨uh1_1524.heap.size, 2, none⟩) (by first | (left; simp; done) | (left; dsimp only; omega) | (right; dsimp only; omega) | (left; simp; omega) | (right; simp; omega)) (.string znm)).setCell (p := ⟨uh1_1524.heap.size, 3, none⟩) (by first | (left; simp; done) | (left; dsimp only; omega) | (right; dsimp only; omega) | (left; simp; omega) | (right; simp; omega)) (.slice Ah_1529 zk.length ph_1529)), ((((bp1530.setCell (p := ⟨uh1_1524.heap.size, 0, none⟩) (by first | (simp; done) | (simp; omega)) (.int .i64 zop)).setCell (p := ⟨uh1_1524.heap.size, 1, none⟩) (by first | (simp; done) | (simp; omega)) (.int .i64 zn)).setCell (p := ⟨uh1_1524.heap.size, 2, none⟩) (by first | (simp; done) | (simp; omega)) (.string znm)).setCell (p := ⟨uh1_1524.heap.size, 3, none⟩) (by first | (simp; done) | (simp; omega)) (.slice Ah_1529 zk.length ph_1529))⟩
      · go_simp
        have PVL0 := RL0_1523
        have PVL1 := RL1_1523
        have hb1524 : Below w.heap.size w (uh0_1521.alloc (.cells #[.int .i64 0, .int .i64 0, .string ⟨#[]⟩, .slice none 0 0] 30)) := hb1523.alloc hb1523.size _
        have sz1524 : uh0_1521.heap.size < (uh0_1521.alloc (.cells #[.int .i64 0, .int .i64 0, .string ⟨#[]⟩, .slice none 0 0] 30)).heap.size := by simp
        have RL0_1524 : Row (uh0_1521.alloc (.cells #[.int .i64 0, .int .i64 0, .string ⟨#[]⟩, .slice none 0 0] 30)) (w.heap.size) 24 #[.int .i64 op, .int .i64 n, .string name, v3] := RL0_1523.alloc _
        have RL1_1524 : Row (uh0_1521.alloc (.cells #[.int .i64 0, .int .i64 0, .string ⟨#[]⟩, .slice none 0 0] 30)) (w.heap.size + 1) 24 #[.int .i64 op', .int .i64 n', .string name', v3'] := RL1_1523.alloc _
        have Xa0_1524 : Sl false (exS false d) (uh0_1521.alloc (.cells #[.int .i64 0, .int .i64 0, .string ⟨#[]⟩, .slice none 0 0] 30)) j4.drew.heap.size uh0_1521.heap.size kids (.slice Aah0_1521 kids.length pah0_1521) := qah0_1521.keep (Nat.le_refl _) (Nat.le_refl _) (fun b h1 h2 => Below.heap_alloc _ _ b (by omega))
        clear yL00_1523 yL01_1523 yL02_1523 yL03_1523 yL10_1523 yL11_1523 yL12_1523 yL13_1523
        clear RL0_1523 RL1_1523 qah0_1521
        have RN_1524 : Row (uh0_1521.alloc (.cells #[.int .i64 0, .int .i64 0, .string ⟨#[]⟩, .slice none 0 0] 30)) uh0_1521.heap.size 30 #[.int .i64 0, .int .i64 0, .string ⟨#[]⟩, .slice none 0 0] := Row.new _ _ _
        have bp1525 : Below j4.heap.size j4 (uh0_1521.alloc (.cells #[.int .i64 0, .int .i64 0, .string ⟨#[]⟩, .slice none 0 0] 30)) := bp1522.alloc bp1522.size _
        have yL00_1525 : (uh0_1521.alloc (.cells #[.int .i64 0, .int .i64 0, .string ⟨#[]⟩, .slice none 0 0] 30)).cell? ⟨w.heap.size, 0, none⟩ = some (.int .i64 op) := RL0_1524.cell 0
        have yL01_1525 : (uh0_1521.alloc (.cells #[.int .i64 0, .int .i64 0, .string ⟨#[]⟩, .slice none 0 0] 30)).cell? ⟨w.heap.size, 1, none⟩ = some (.int .i64 n) := RL0_1524.cell 1
        have yL02_1525 : (uh0_1521.alloc (.cells #[.int .i64 0, .int .i64 0, .string ⟨#[]⟩, .slice none 0 0] 30)).cell? ⟨w.heap.size, 2, none⟩ = some (.string name) := RL0_1524.cell 2
        have yL03_1525 : (uh0_1521.alloc (.cells #[.int .i64 0, .int .i64 0, .string ⟨#[]⟩, .slice none 0 0] 30)).cell? ⟨w.heap.size, 3, none⟩ = some (v3) := RL0_1524.cell 3
        have yL10_1525 : (uh0_1521.alloc (.cells #[.int .i64 0, .int .i64 0, .string ⟨#[]⟩, .slice none 0 0] 30)).cell? ⟨w.heap.size + 1, 0, none⟩ = some (.int .i64 op') := RL1_1524.cell 0
        have yL11_1525 : (uh0_1521.alloc (.cells #[.int .i64 0, .int .i64 0, .string ⟨#[]⟩, .slice none 0 0] 30)).cell? ⟨w.heap.size + 1, 1, none⟩ = some (.int .i64 n') := RL1_1524.cell 1
        have yL12_1525 : (uh0_1521.alloc (.cells #[.int .i64 0, .int .i64 0, .string ⟨#[]⟩, .slice none 0 0] 30)).cell? ⟨w.heap.size + 1, 2, none⟩ = some (.string name') := RL1_1524.cell 2
        have yL13_1525 : (uh0_1521.alloc (.cells #[.int .i64 0, .int .i64 0, .string ⟨#[]⟩, .slice none 0 0] 30)).cell? ⟨w.heap.size + 1, 3, none⟩ = some (v3') := RL1_1524.cell 3
        refine hK.out _ _ ?_ (fun hHeld => ?_)
        · ((try dsimp only); refine ⟨?_, ?_, ?_, ?_, ?_, ?_, ?_, ?_⟩ <;> assumption)
        clear hK K
        try simp only [Act.put, List.setIfInBounds_toArray, List.set_cons_zero, List.set_cons_succ]
        refine reg_call (i := 4) (by kernel_rfl) rfl (fun K hK => ?_)
        go_simp
        refine (to_Expr d' op' n' name' kids' v3' (uh0_1521.alloc (.cells #[.int .i64 0, .int .i64 0, .string ⟨#[]⟩, .slice none 0 0] 30)) 0 w.heap.size hb1524.size hN1 h0' h1' h2' (h3'.below hb1524 (Nat.le_refl _))).mono ?_
        rintro e uh1_1526 ⟨cs, rfl, hx, euh1_1526⟩
        obtain ⟨xah1_1526, hcs, -, -, -, qah1_1526⟩ := ex_open d' (hx false)
        change _ = [.int .i64 op', .int .i64 n', .string name', xah1_1526] at hcs
        subst hcs
        clear hx
        obtain ⟨Aah1_1526, pah1_1526, hf, _, _⟩ := qah1_1526.form
        change _ = Value.slice Aah1_1526 kids'.length pah1_1526 at hf
        subst hf
        have bp1527 : Below j4.heap.size j4 uh1_1526 := bp1525.trans (euh1_1526.mono bp1525.size)
        have hb1528 : Below w.heap.size w uh1_1526 := hb1524.trans (euh1_1526.mono hb1524.size)
        have sz1528 : (uh0_1521.alloc (.cells #[.int .i64 0, .int .i64 0, .string ⟨#[]⟩, .slice none 0 0] 30)).heap.size ≤ uh1_1526.heap.size := euh1_1526.size
        have RL0_1528 : Row (uh1_1526) (w.heap.size) 24 #[.int .i64 op, .int .i64 n, .string name, v3] := RL0_1524.below euh1_1526 RL0_1524.lt
        have RL1_1528 : Row (uh1_1526) (w.heap.size + 1) 24 #[.int .i64 op', .int .i64 n', .string name', v3'] := RL1_1524.below euh1_1526 RL1_1524.lt
        have RN_1528 : Row (uh1_1526) (uh0_1521.heap.size) 30 #[.int .i64 0, .int .i64 0, .string ⟨#[]⟩, .slice none 0 0] := RN_1524.below euh1_1526 RN_1524.lt
        have Xa0_1528 : Sl false (exS false d) (uh1_1526) j4.drew.heap.size uh0_1521.heap.size kids (.slice Aah0_1521 kids.length pah0_1521) := Xa0_1524.below euh1_1526 (by first | omega | (simp; omega) | (simp at *; omega))
        clear yL00_1525 yL01_1525 yL02_1525 yL03_1525 yL10_1525 yL11_1525 yL12_1525 yL13_1525
        clear RL0_1524 RL1_1524 RN_1524 Xa0_1524
        have yL00_1528 : (uh1_1526).cell? ⟨w.heap.size, 0, none⟩ = some (.int .i64 op) := RL0_1528.cell 0
        have yL01_1528 : (uh1_1526).cell? ⟨w.heap.size, 1, none⟩ = some (.int .i64 n) := RL0_1528.cell 1
        have yL02_1528 : (uh1_1526).cell? ⟨w.heap.size, 2, none⟩ = some (.string name) := RL0_1528.cell 2
        have yL03_1528 : (uh1_1526).cell? ⟨w.heap.size, 3, none⟩ = some (v3) := RL0_1528.cell 3
        have yL10_1528 : (uh1_1526).cell? ⟨w.heap.size + 1, 0, none⟩ = some (.int .i64 op') := RL1_1528.cell 0
        have yL11_1528 : (uh1_1526).cell? ⟨w.heap.size + 1, 1, none⟩ = some (.int .i64 n') := RL1_1528.cell 1
        have yL12_1528 : (uh1_1526).cell? ⟨w.heap.size + 1, 2, none⟩ = some (.string name') := RL1_1528.cell 2
        have yL13_1528 : (uh1_1526).cell? ⟨w.heap.size + 1, 3, none⟩ = some (v3') := RL1_1528.cell 3
        refine hK.out _ _ ?_ (fun hHeld => ?_)
        · ((try dsimp only); refine ⟨?_, ?_, ?_, ?_, ?_, ?_, ?_, ?_⟩ <;> assumption)
        clear hK K
        try simp only [Act.put, List.setIfInBounds_toArray, List.set_cons_zero, List.set_cons_succ]
        refine reg_call (i := 5) (by kernel_rfl) rfl (fun K hK => ?_)
        go_simp
        refine (implPutVar_u d op n name kids (.slice Aah0_1521 kids.length pah0_1521) nm d' op' n' name' kids' (.slice Aah1_1526 kids'.length pah1_1526) uh1_1526 j4.drew.heap.size uh0_1521.heap.size (uh0_1521.alloc (.cells #[.int .i64 0, .int .i64 0, .string ⟨#[]⟩, .slice none 0 0] 30)).heap.size uh1_1526.heap.size (by omega) (by omega) hN0 h0 h1 h2 Xa0_1528 hN1 h0' h1' h2' qah1_1526 (ht.below hb1528 (Nat.le_refl _))).mono ?_
        rintro e vh_1529 ⟨v3', he, hx, evh_1529⟩
        rw [hR.out] at he hx
        obtain ⟨Ah_1529, ph_1529, hw, _, _⟩ := (exT_kids 12 (hx false)).form
        change _ = Value.slice Ah_1529 zk.length ph_1529 at hw
        subst hw
        change _ = Ending.returned (.tuple #[.agg #[.int .i64 zop, .int .i64 zn, .string znm, .slice Ah_1529 zk.length ph_1529], .bool rb]) at he
        subst he
        have qzh_1529 := exT_kids 12 (hx false)
        change SlT false (exT false 12) vh_1529 uh1_1526.heap.size vh_1529.heap.size zk (.slice Ah_1529 zk.length ph_1529) at qzh_1529
        have tzh_1529 := exT_kids 12 (hx true)
        change SlT true (exT true 12) vh_1529 uh1_1526.heap.size vh_1529.heap.size zk (.slice Ah_1529 zk.length ph_1529) at tzh_1529
        clear hx
        have bp1530 : Below j4.heap.size j4 vh_1529 := bp1527.trans (evh_1529.mono bp1527.size)
        have hb1531 : Below w.heap.size w vh_1529 := hb1528.trans (evh_1529.mono hb1528.size)
        have sz1531 : (uh1_1526).heap.size ≤ vh_1529.heap.size := evh_1529.size
        have RL0_1531 : Row (vh_1529) (w.heap.size) 24 #[.int .i64 op, .int .i64 n, .string name, v3] := RL0_1528.below evh_1529 RL0_1528.lt
        have RL1_1531 : Row (vh_1529) (w.heap.size + 1) 24 #[.int .i64 op', .int .i64 n', .string name', v3'] := RL1_1528.below evh_1529 RL1_1528.lt
        have RN_1531 : Row (vh_1529) (uh0_1521.heap.size) 30 #[.int .i64 0, .int .i64 0, .string ⟨#[]⟩, .slice none 0 0] := RN_1528.below evh_1529 RN_1528.lt
        clear yL00_1528 yL01_1528 yL02_1528 yL03_1528 yL10_1528 yL11_1528 yL12_1528 yL13_1528
        clear RL0_1528 RL1_1528 RN_1528
        have yL00_1531 : (vh_1529).cell? ⟨w.heap.size, 0, none⟩ = some (.int .i64 op) := RL0_1531.cell 0
        have yL01_1531 : (vh_1529).cell? ⟨w.heap.size, 1, none⟩ = some (.int .i64 n) := RL0_1531.cell 1
        have yL02_1531 : (vh_1529).cell? ⟨w.heap.size, 2, none⟩ = some (.string name) := RL0_1531.cell 2
        have yL03_1531 : (vh_1529).cell? ⟨w.heap.size, 3, none⟩ = some (v3) := RL0_1531.cell 3
        have yL10_1531 : (vh_1529).cell? ⟨w.heap.size + 1, 0, none⟩ = some (.int .i64 op') := RL1_1531.cell 0
        have yL11_1531 : (vh_1529).cell? ⟨w.heap.size + 1, 1, none⟩ = some (.int .i64 n') := RL1_1531.cell 1
        have yL12_1531 : (vh_1529).cell? ⟨w.heap.size + 1, 2, none⟩ = some (.string name') := RL1_1531.cell 2
        have yL13_1531 : (vh_1529).cell? ⟨w.heap.size + 1, 3, none⟩ = some (v3') := RL1_1531.cell 3
        refine hK.out _ _ ?_ (fun hHeld => ?_)
        · ((try dsimp only); refine ⟨?_, ?_, ?_, ?_, ?_, ?_, ?_, ?_⟩ <;> assumption)
        clear hK K
        try simp only [Act.put, List.setIfInBounds_toArray, List.set_cons_zero, List.set_cons_succ]
        refine reg_take (i := 6) (v := ?v41) rfl (by kernel_rfl) (by kernel_rfl) (by kernel_rfl) (fun _ _ _ h => h) (Or.inl ⟨by kernel_rfl, ?h41⟩) (by assumption) ?r41
        case h41 => (intro w hSw; (try dsimp only at hSw); go_simp; try with_reducible rfl)
        try simp only [Act.put, List.setIfInBounds_toArray, List.set_cons_zero, List.set_cons_succ]
        refine reg_take (i := 7) (v := ?v42) rfl (by kernel_rfl) (by kernel_rfl) (by kernel_rfl) (fun _ _ _ h => h) (Or.inl ⟨by kernel_rfl, ?h42⟩) (by assumption) ?r42
        case h42 => (intro w hSw; (try dsimp only at hSw); go_simp; try with_reducible rfl)
        try simp only [Act.put, List.setIfInBounds_toArray, List.set_cons_zero, List.set_cons_succ]
        refine reg_take (i := 8) (v := ?v43) rfl (by kernel_rfl) (by kernel_rfl) (by kernel_rfl) (fun _ _ _ h => h) (Or.inl ⟨by kernel_rfl, ?h43⟩) (by assumption) ?r43
        case h43 => (intro w hSw; (try dsimp only at hSw); go_simp; try with_reducible rfl)
        try simp only [Act.put, List.setIfInBounds_toArray, List.set_cons_zero, List.set_cons_succ]
        clear yL00_1531 yL01_1531 yL02_1531 yL03_1531 yL10_1531 yL11_1531 yL12_1531 yL13_1531
        have yN0_1531 : (vh_1529).cell? ⟨uh0_1521.heap.size, 0, none⟩ = some (.int .i64 0) := RN_1531.cell 0
        have yN1_1531 : (vh_1529).cell? ⟨uh0_1521.heap.size, 1, none⟩ = some (.int .i64 0) := RN_1531.cell 1
        have yN2_1531 : (vh_1529).cell? ⟨uh0_1521.heap.size, 2, none⟩ = some (.string ⟨#[]⟩) := RN_1531.cell 2
        have yN3_1531 : (vh_1529).cell? ⟨uh0_1521.heap.size, 3, none⟩ = some (.slice none 0 0) := RN_1531.cell 3
        have nf0 : (vh_1529).frozen? ⟨uh0_1521.heap.size, 0, none⟩ = false := RN_1531.frozen 0
        have nf1 : (vh_1529).frozen? ⟨uh0_1521.heap.size, 1, none⟩ = false := RN_1531.frozen 1
        have nf2 : (vh_1529).frozen? ⟨uh0_1521.heap.size, 2, none⟩ = false := RN_1531.frozen 2
        have nf3 : (vh_1529).frozen? ⟨uh0_1521.heap.size, 3, none⟩ = false := RN_1531.frozen 3
        refine reg_call (i := 10) (by kernel_rfl) rfl (fun K hK => ?_)
        go_simp
        clear yN0_1531 yN1_1531 yN2_1531 yN3_1531
        clear nf0 nf1 nf2 nf3
        have FL0 : Row (((((vh_1529).setCell ⟨uh0_1521.heap.size, 0, none⟩ (.int .i64 zop)).setCell ⟨uh0_1521.heap.size, 1, none⟩ (.int .i64 zn)).setCell ⟨uh0_1521.heap.size, 2, none⟩ (.string znm)).setCell ⟨uh0_1521.heap.size, 3, none⟩ (.slice Ah_1529 zk.length ph_1529)) (w.heap.size) 24 #[.int .i64 op, .int .i64 n, .string name, v3] := ((((RL0_1531.far (p := ⟨uh0_1521.heap.size, 0, none⟩) (by simp; omega) (.int .i64 zop)).far (p := ⟨uh0_1521.heap.size, 1, none⟩) (by simp; omega) (.int .i64 zn)).far (p := ⟨uh0_1521.heap.size, 2, none⟩) (by simp; omega) (.string znm)).far (p := ⟨uh0_1521.heap.size, 3, none⟩) (by simp; omega) (.slice Ah_1529 zk.length ph_1529))
        have FL1 : Row (((((vh_1529).setCell ⟨uh0_1521.heap.size, 0, none⟩ (.int .i64 zop)).setCell ⟨uh0_1521.heap.size, 1, none⟩ (.int .i64 zn)).setCell ⟨uh0_1521.heap.size, 2, none⟩ (.string znm)).setCell ⟨uh0_1521.heap.size, 3, none⟩ (.slice Ah_1529 zk.length ph_1529)) (w.heap.size + 1) 24 #[.int .i64 op', .int .i64 n', .string name', v3'] := ((((RL1_1531.far (p := ⟨uh0_1521.heap.size, 0, none⟩) (by simp; omega) (.int .i64 zop)).far (p := ⟨uh0_1521.heap.size, 1, none⟩) (by simp; omega) (.int .i64 zn)).far (p := ⟨uh0_1521.heap.size, 2, none⟩) (by simp; omega) (.string znm)).far (p := ⟨uh0_1521.heap.size, 3, none⟩) (by simp; omega) (.slice Ah_1529 zk.length ph_1529))
        have yfL00 : (((((vh_1529).setCell ⟨uh0_1521.heap.size, 0, none⟩ (.int .i64 zop)).setCell ⟨uh0_1521.heap.size, 1, none⟩ (.int .i64 zn)).setCell ⟨uh0_1521.heap.size, 2, none⟩ (.string znm)).setCell ⟨uh0_1521.heap.size, 3, none⟩ (.slice Ah_1529 zk.length ph_1529)).cell? ⟨w.heap.size, 0, none⟩ = some (.int .i64 op) := FL0.cell 0
        have yfL01 : (((((vh_1529).setCell ⟨uh0_1521.heap.size, 0, none⟩ (.int .i64 zop)).setCell ⟨uh0_1521.heap.size, 1, none⟩ (.int .i64 zn)).setCell ⟨uh0_1521.heap.size, 2, none⟩ (.string znm)).setCell ⟨uh0_1521.heap.size, 3, none⟩ (.slice Ah_1529 zk.length ph_1529)).cell? ⟨w.heap.size, 1, none⟩ = some (.int .i64 n) := FL0.cell 1
        have yfL02 : (((((vh_1529).setCell ⟨uh0_1521.heap.size, 0, none⟩ (.int .i64 zop)).setCell ⟨uh0_1521.heap.size, 1, none⟩ (.int .i64 zn)).setCell ⟨uh0_1521.heap.size, 2, none⟩ (.string znm)).setCell ⟨uh0_1521.heap.size, 3, none⟩ (.slice Ah_1529 zk.length ph_1529)).cell? ⟨w.heap.size, 2, none⟩ = some (.string name) := FL0.cell 2
        have yfL03 : (((((vh_1529).setCell ⟨uh0_1521.heap.size, 0, none⟩ (.int .i64 zop)).setCell ⟨uh0_1521.heap.size, 1, none⟩ (.int .i64 zn)).setCell ⟨uh0_1521.heap.size, 2, none⟩ (.string znm)).setCell ⟨uh0_1521.heap.size, 3, none⟩ (.slice Ah_1529 zk.length ph_1529)).cell? ⟨w.heap.size, 3, none⟩ = some (v3) := FL0.cell 3
        have yfL10 : (((((vh_1529).setCell ⟨uh0_1521.heap.size, 0, none⟩ (.int .i64 zop)).setCell ⟨uh0_1521.heap.size, 1, none⟩ (.int .i64 zn)).setCell ⟨uh0_1521.heap.size, 2, none⟩ (.string znm)).setCell ⟨uh0_1521.heap.size, 3, none⟩ (.slice Ah_1529 zk.length ph_1529)).cell? ⟨w.heap.size + 1, 0, none⟩ = some (.int .i64 op') := FL1.cell 0
        have yfL11 : (((((vh_1529).setCell ⟨uh0_1521.heap.size, 0, none⟩ (.int .i64 zop)).setCell ⟨uh0_1521.heap.size, 1, none⟩ (.int .i64 zn)).setCell ⟨uh0_1521.heap.size, 2, none⟩ (.string znm)).setCell ⟨uh0_1521.heap.size, 3, none⟩ (.slice Ah_1529 zk.length ph_1529)).cell? ⟨w.heap.size + 1, 1, none⟩ = some (.int .i64 n') := FL1.cell 1
        have yfL12 : (((((vh_1529).setCell ⟨uh0_1521.heap.size, 0, none⟩ (.int .i64 zop)).setCell ⟨uh0_1521.heap.size, 1, none⟩ (.int .i64 zn)).setCell ⟨uh0_1521.heap.size, 2, none⟩ (.string znm)).setCell ⟨uh0_1521.heap.size, 3, none⟩ (.slice Ah_1529 zk.length ph_1529)).cell? ⟨w.heap.size + 1, 2, none⟩ = some (.string name') := FL1.cell 2
        have yfL13 : (((((vh_1529).setCell ⟨uh0_1521.heap.size, 0, none⟩ (.int .i64 zop)).setCell ⟨uh0_1521.heap.size, 1, none⟩ (.int .i64 zn)).setCell ⟨uh0_1521.heap.size, 2, none⟩ (.string znm)).setCell ⟨uh0_1521.heap.size, 3, none⟩ (.slice Ah_1529 zk.length ph_1529)).cell? ⟨w.heap.size + 1, 3, none⟩ = some (v3') := FL1.cell 3
        refine hK.out _ _ ?_ (fun hHeld => ?_)
        · exact ⟨yfL00, yfL01, yfL02, yfL03, yfL10, yfL11, yfL12, yfL13⟩
        clear hK K
        try simp only [Act.put, List.setIfInBounds_toArray, List.set_cons_zero, List.set_cons_succ]
        refine reg_take (i := 11) (v := ?v44) rfl (by kernel_rfl) (by kernel_rfl) (by kernel_rfl) (fun _ _ _ h => h) (Or.inl ⟨by kernel_rfl, ?h44⟩) (by assumption) ?r44
        case h44 => (intro w hSw; (try dsimp only at hSw); go_simp; try with_reducible rfl)
        try simp only [Act.put, List.setIfInBounds_toArray, List.set_cons_zero, List.set_cons_succ]
        refine wpAnyH_done (by kernel_rfl) ?_ _
        go_wp2_with fail
        go_meet
        exact ⟨uh0_1521.heap.size, uh1_1526.heap.size, vh_1529.heap.size, Ah_1529, ph_1529, rfl, rfl, ((((RN_1531.set_ 0 (.int .i64 zop)).set_ 1 (.int .i64 zn)).set_ 2 (.string znm)).set_ 3 (.slice Ah_1529 zk.length ph_1529)), by first | (left; omega) | (right; omega) | (left; simp; omega) | (right; simp; omega), by first | omega | (simp; omega), by first | omega | (simp; omega), (by simp [World.setCell]), qzh_1529.keep (Nat.le_refl _) (Nat.le_refl _) (((((Same.refl _ _ _).setCell (p := ⟨uh0_1521.heap.size, 0, none⟩) (by first | (left; simp; done) | (left; dsimp only; omega) | (right; dsimp only; omega) | (left; simp; omega) | (right; simp; omega)) (.int .i64 zop)).setCell (p := ⟨uh0_1521.heap.size, 1, none⟩) (by first | (left; simp; done) | (left; dsimp only; omega) | (right; dsimp only; omega) | (left; simp; omega) | (right; simp; omega)) (.int .i64 zn)).setCell (p := ⟨uh0_1521.heap.size, 2, none⟩) (by first | (left; simp; done) | (left; dsimp only; omega) | (right; dsimp only; omega) | (left; simp; omega) | (right; simp; omega)) (.string znm)).setCell (p := ⟨uh0_1521.heap.size, 3, none⟩) (by first | (left; simp; done) | (left; dsimp only; omega) | (right; dsimp only; omega) | (left; simp; omega) | (right; simp; omega)) (.slice Ah_1529 zk.length ph_1529)), tzh_1529.keep (Nat.le_refl _) (Nat.le_refl _) (((((Same.refl _ _ _).setCell (p := ⟨uh0_1521.heap.size, 0, none⟩) (by first | (left; simp; done) | (left; dsimp only; omega) | (right; dsimp only; omega) | (left; simp; omega) | (right; simp; omega)) (.int .i64 zop)).setCell (p := ⟨uh0_1521.heap.size, 1, none⟩) (by first | (left; simp; done) | (left; dsimp only; omega) | (right; dsimp only; omega) | (left; simp; omega) | (right; simp; omega)) (.int .i64 zn)).setCell (p := ⟨uh0_1521.heap.size, 2, none⟩) (by first | (left; simp; done) | (left; dsimp only; omega) | (right; dsimp only; omega) | (left; simp; omega) | (right; simp; omega)) (.string znm)).setCell (p := ⟨uh0_1521.heap.size, 3, none⟩) (by first | (left; simp; done) | (left; dsimp only; omega) | (right; dsimp only; omega) | (left; simp; omega) | (right; simp; omega)) (.slice Ah_1529 zk.length ph_1529)), ((((bp1530.setCell (p := ⟨uh0_1521.heap.size, 0, none⟩) (by first | (simp; done) | (simp; omega)) (.int .i64 zop)).setCell (p := ⟨uh0_1521.heap.size, 1, none⟩) (by first | (simp; done) | (simp; omega)) (.int .i64 zn)).setCell (p := ⟨uh0_1521.heap.size, 2, none⟩) (by first | (simp; done) | (simp; omega)) (.string znm)).setCell (p := ⟨uh0_1521.heap.size, 3, none⟩) (by first | (simp; done) | (simp; omega)) (.slice Ah_1529 zk.length ph_1529))⟩
    · go_simp
      have PVL0 := RL0_1520
      have PVL1 := RL1_1520
      have hb1521 : Below w.heap.size w (j4.drew.alloc (.cells #[.int .i64 0, .int .i64 0, .string ⟨#[]⟩, .slice none 0 0] 30)) := hbd1520.alloc hbd1520.size _
      have sz1521 : j4.heap.size < (j4.drew.alloc (.cells #[.int .i64 0, .int .i64 0, .string ⟨#[]⟩, .slice none 0 0] 30)).heap.size := by simp
      have RL0_1521 : Row (j4.drew.alloc (.cells #[.int .i64 0, .int .i64 0, .string ⟨#[]⟩, .slice none 0 0] 30)) (w.heap.size) 24 #[.int .i64 op, .int .i64 n, .string name, v3] := RL0_1520.alloc _
      have RL1_1521 : Row (j4.drew.alloc (.cells #[.int .i64 0, .int .i64 0, .string ⟨#[]⟩, .slice none 0 0] 30)) (w.heap.size + 1) 24 #[.int .i64 op', .int .i64 n', .string name', v3'] := RL1_1520.alloc _
      clear yL00_1520 yL01_1520 yL02_1520 yL03_1520 yL10_1520 yL11_1520 yL12_1520 yL13_1520
      clear RL0_1520 RL1_1520
      have RN_1521 : Row (j4.drew.alloc (.cells #[.int .i64 0, .int .i64 0, .string ⟨#[]⟩, .slice none 0 0] 30)) j4.heap.size 30 #[.int .i64 0, .int .i64 0, .string ⟨#[]⟩, .slice none 0 0] := Row.new _ _ _
      have bp1522 : Below j4.heap.size j4 (j4.drew.alloc (.cells #[.int .i64 0, .int .i64 0, .string ⟨#[]⟩, .slice none 0 0] 30)) := bp0.alloc bp0.size _
      have yL00_1522 : (j4.drew.alloc (.cells #[.int .i64 0, .int .i64 0, .string ⟨#[]⟩, .slice none 0 0] 30)).cell? ⟨w.heap.size, 0, none⟩ = some (.int .i64 op) := RL0_1521.cell 0
      have yL01_1522 : (j4.drew.alloc (.cells #[.int .i64 0, .int .i64 0, .string ⟨#[]⟩, .slice none 0 0] 30)).cell? ⟨w.heap.size, 1, none⟩ = some (.int .i64 n) := RL0_1521.cell 1
      have yL02_1522 : (j4.drew.alloc (.cells #[.int .i64 0, .int .i64 0, .string ⟨#[]⟩, .slice none 0 0] 30)).cell? ⟨w.heap.size, 2, none⟩ = some (.string name) := RL0_1521.cell 2
      have yL03_1522 : (j4.drew.alloc (.cells #[.int .i64 0, .int .i64 0, .string ⟨#[]⟩, .slice none 0 0] 30)).cell? ⟨w.heap.size, 3, none⟩ = some (v3) := RL0_1521.cell 3
      have yL10_1522 : (j4.drew.alloc (.cells #[.int .i64 0, .int .i64 0, .string ⟨#[]⟩, .slice none 0 0] 30)).cell? ⟨w.heap.size + 1, 0, none⟩ = some (.int .i64 op') := RL1_1521.cell 0
      have yL11_1522 : (j4.drew.alloc (.cells #[.int .i64 0, .int .i64 0, .string ⟨#[]⟩, .slice none 0 0] 30)).cell? ⟨w.heap.size + 1, 1, none⟩ = some (.int .i64 n') := RL1_1521.cell 1
      have yL12_1522 : (j4.drew.alloc (.cells #[.int .i64 0, .int .i64 0, .string ⟨#[]⟩, .slice none 0 0] 30)).cell? ⟨w.heap.size + 1, 2, none⟩ = some (.string name') := RL1_1521.cell 2
      have yL13_1522 : (j4.drew.alloc (.cells #[.int .i64 0, .int .i64 0, .string ⟨#[]⟩, .slice none 0 0] 30)).cell? ⟨w.heap.size + 1, 3, none⟩ = some (v3') := RL1_1521.cell 3
      refine hK.out _ _ ?_ (fun hHeld => ?_)
      · ((try dsimp only); refine ⟨?_, ?_, ?_, ?_, ?_, ?_, ?_, ?_⟩ <;> assumption)
      clear hK K
      try simp only [Act.put, List.setIfInBounds_toArray, List.set_cons_zero, List.set_cons_succ]
      refine reg_call (i := 1) (by kernel_rfl) rfl (fun K hK => ?_)
      go_simp
      refine (to_Expr d op n name kids v3 (j4.drew.alloc (.cells #[.int .i64 0, .int .i64 0, .string ⟨#[]⟩, .slice none 0 0] 30)) 0 w.heap.size hb1521.size hN0 h0 h1 h2 (h3.below hb1521 (Nat.le_refl _))).mono ?_
      rintro e uh0_1523 ⟨cs, rfl, hx, euh0_1523⟩
      obtain ⟨xah0_1523, hcs, -, -, -, qah0_1523⟩ := ex_open d (hx false)
      change _ = [.int .i64 op, .int .i64 n, .string name, xah0_1523] at hcs
      subst hcs
      clear hx
      obtain ⟨Aah0_1523, pah0_1523, hf, _, _⟩ := qah0_1523.form
      change _ = Value.slice Aah0_1523 kids.length pah0_1523 at hf
      subst hf
      have bp1524 : Below j4.heap.size j4 uh0_1523 := bp1522.trans (euh0_1523.mono bp1522.size)
      have hb1525 : Below w.heap.size w uh0_1523 := hb1521.trans (euh0_1523.mono hb1521.size)
      have sz1525 : (j4.drew.alloc (.cells #[.int .i64 0, .int .i64 0, .string ⟨#[]⟩, .slice none 0 0] 30)).heap.size ≤ uh0_1523.heap.size := euh0_1523.size
      have RL0_1525 : Row (uh0_1523) (w.heap.size) 24 #[.int .i64 op, .int .i64 n, .string name, v3] := RL0_1521.below euh0_1523 RL0_1521.lt
      have RL1_1525 : Row (uh0_1523) (w.heap.size + 1) 24 #[.int .i64 op', .int .i64 n', .string name', v3'] := RL1_1521.below euh0_1523 RL1_1521.lt
      have RN_1525 : Row (uh0_1523) (j4.heap.size) 30 #[.int .i64 0, .int .i64 0, .string ⟨#[]⟩, .slice none 0 0] := RN_1521.below euh0_1523 RN_1521.lt
      clear yL00_1522 yL01_1522 yL02_1522 yL03_1522 yL10_1522 yL11_1522 yL12_1522 yL13_1522
      clear RL0_1521 RL1_1521 RN_1521
      have yL00_1525 : (uh0_1523).cell? ⟨w.heap.size, 0, none⟩ = some (.int .i64 op) := RL0_1525.cell 0
      have yL01_1525 : (uh0_1523).cell? ⟨w.heap.size, 1, none⟩ = some (.int .i64 n) := RL0_1525.cell 1
      have yL02_1525 : (uh0_1523).cell? ⟨w.heap.size, 2, none⟩ = some (.string name) := RL0_1525.cell 2
      have yL03_1525 : (uh0_1523).cell? ⟨w.heap.size, 3, none⟩ = some (v3) := RL0_1525.cell 3
      have yL10_1525 : (uh0_1523).cell? ⟨w.heap.size + 1, 0, none⟩ = some (.int .i64 op') := RL1_1525.cell 0
      have yL11_1525 : (uh0_1523).cell? ⟨w.heap.size + 1, 1, none⟩ = some (.int .i64 n') := RL1_1525.cell 1
      have yL12_1525 : (uh0_1523).cell? ⟨w.heap.size + 1, 2, none⟩ = some (.string name') := RL1_1525.cell 2
      have yL13_1525 : (uh0_1523).cell? ⟨w.heap.size + 1, 3, none⟩ = some (v3') := RL1_1525.cell 3
      refine hK.out _ _ ?_ (fun hHeld => ?_)
      · ((try dsimp only); refine ⟨?_, ?_, ?_, ?_, ?_, ?_, ?_, ?_⟩ <;> assumption)
      clear hK K
      try simp only [Act.put, List.setIfInBounds_toArray, List.set_cons_zero, List.set_cons_succ]
      refine reg_call (i := 4) (by kernel_rfl) rfl (fun K hK => ?_)
      go_simp
      refine (to_Expr d' op' n' name' kids' v3' uh0_1523 0 w.heap.size hb1525.size hN1 h0' h1' h2' (h3'.below hb1525 (Nat.le_refl _))).mono ?_
      rintro e uh1_1526 ⟨cs, rfl, hx, euh1_1526⟩
      obtain ⟨xah1_1526, hcs, -, -, -, qah1_1526⟩ := ex_open d' (hx false)
      change _ = [.int .i64 op', .int .i64 n', .string name', xah1_1526] at hcs
      subst hcs
      clear hx
      obtain ⟨Aah1_1526, pah1_1526, hf, _, _⟩ := qah1_1526.form
      change _ = Value.slice Aah1_1526 kids'.length pah1_1526 at hf
      subst hf
      have bp1527 : Below j4.heap.size j4 uh1_1526 := bp1524.trans (euh1_1526.mono bp1524.size)
      have hb1528 : Below w.heap.size w uh1_1526 := hb1525.trans (euh1_1526.mono hb1525.size)
      have sz1528 : (uh0_1523).heap.size ≤ uh1_1526.heap.size := euh1_1526.size
      have RL0_1528 : Row (uh1_1526) (w.heap.size) 24 #[.int .i64 op, .int .i64 n, .string name, v3] := RL0_1525.below euh1_1526 RL0_1525.lt
      have RL1_1528 : Row (uh1_1526) (w.heap.size + 1) 24 #[.int .i64 op', .int .i64 n', .string name', v3'] := RL1_1525.below euh1_1526 RL1_1525.lt
      have RN_1528 : Row (uh1_1526) (j4.heap.size) 30 #[.int .i64 0, .int .i64 0, .string ⟨#[]⟩, .slice none 0 0] := RN_1525.below euh1_1526 RN_1525.lt
      have Xa0_1528 : Sl false (exS false d) (uh1_1526) (j4.drew.alloc (.cells #[.int .i64 0, .int .i64 0, .string ⟨#[]⟩, .slice none 0 0] 30)).heap.size uh0_1523.heap.size kids (.slice Aah0_1523 kids.length pah0_1523) := qah0_1523.below euh1_1526 (by first | omega | (simp; omega) | (simp at *; omega))
      clear yL00_1525 yL01_1525 yL02_1525 yL03_1525 yL10_1525 yL11_1525 yL12_1525 yL13_1525
      clear RL0_1525 RL1_1525 RN_1525 qah0_1523
      have yL00_1528 : (uh1_1526).cell? ⟨w.heap.size, 0, none⟩ = some (.int .i64 op) := RL0_1528.cell 0
      have yL01_1528 : (uh1_1526).cell? ⟨w.heap.size, 1, none⟩ = some (.int .i64 n) := RL0_1528.cell 1
      have yL02_1528 : (uh1_1526).cell? ⟨w.heap.size, 2, none⟩ = some (.string name) := RL0_1528.cell 2
      have yL03_1528 : (uh1_1526).cell? ⟨w.heap.size, 3, none⟩ = some (v3) := RL0_1528.cell 3
      have yL10_1528 : (uh1_1526).cell? ⟨w.heap.size + 1, 0, none⟩ = some (.int .i64 op') := RL1_1528.cell 0
      have yL11_1528 : (uh1_1526).cell? ⟨w.heap.size + 1, 1, none⟩ = some (.int .i64 n') := RL1_1528.cell 1
      have yL12_1528 : (uh1_1526).cell? ⟨w.heap.size + 1, 2, none⟩ = some (.string name') := RL1_1528.cell 2
      have yL13_1528 : (uh1_1526).cell? ⟨w.heap.size + 1, 3, none⟩ = some (v3') := RL1_1528.cell 3
      refine hK.out _ _ ?_ (fun hHeld => ?_)
      · ((try dsimp only); refine ⟨?_, ?_, ?_, ?_, ?_, ?_, ?_, ?_⟩ <;> assumption)
      clear hK K
      try simp only [Act.put, List.setIfInBounds_toArray, List.set_cons_zero, List.set_cons_succ]
      refine reg_call (i := 5) (by kernel_rfl) rfl (fun K hK => ?_)
      go_simp
      refine (implPutVar_u d op n name kids (.slice Aah0_1523 kids.length pah0_1523) nm d' op' n' name' kids' (.slice Aah1_1526 kids'.length pah1_1526) uh1_1526 (j4.drew.alloc (.cells #[.int .i64 0, .int .i64 0, .string ⟨#[]⟩, .slice none 0 0] 30)).heap.size uh0_1523.heap.size uh0_1523.heap.size uh1_1526.heap.size (by omega) (by omega) hN0 h0 h1 h2 Xa0_1528 hN1 h0' h1' h2' qah1_1526 (ht.below hb1528 (Nat.le_refl _))).mono ?_
      rintro e vh_1529 ⟨v3', he, hx, evh_1529⟩
      rw [hR.out] at he hx
      obtain ⟨Ah_1529, ph_1529, hw, _, _⟩ := (exT_kids 12 (hx false)).form
      change _ = Value.slice Ah_1529 zk.length ph_1529 at hw
      subst hw
      change _ = Ending.returned (.tuple #[.agg #[.int .i64 zop, .int .i64 zn, .string znm, .slice Ah_1529 zk.length ph_1529], .bool rb]) at he
      subst he
      have qzh_1529 := exT_kids 12 (hx false)
      change SlT false (exT false 12) vh_1529 uh1_1526.heap.size vh_1529.heap.size zk (.slice Ah_1529 zk.length ph_1529) at qzh_1529
      have tzh_1529 := exT_kids 12 (hx true)
      change SlT true (exT true 12) vh_1529 uh1_1526.heap.size vh_1529.heap.size zk (.slice Ah_1529 zk.length ph_1529) at tzh_1529
      clear hx
      have bp1530 : Below j4.heap.size j4 vh_1529 := bp1527.trans (evh_1529.mono bp1527.size)
      have hb1531 : Below w.heap.size w vh_1529 := hb1528.trans (evh_1529.mono hb1528.size)
      have sz1531 : (uh1_1526).heap.size ≤ vh_1529.heap.size := evh_1529.size
      have RL0_1531 : Row (vh_1529) (w.heap.size) 24 #[.int .i64 op, .int .i64 n, .string name, v3] := RL0_1528.below evh_1529 RL0_1528.lt
      have RL1_1531 : Row (vh_1529) (w.heap.size + 1) 24 #[.int .i64 op', .int .i64 n', .string name', v3'] := RL1_1528.below evh_1529 RL1_1528.lt
      have RN_1531 : Row (vh_1529) (j4.heap.size) 30 #[.int .i64 0, .int .i64 0, .string ⟨#[]⟩, .slice none 0 0] := RN_1528.below evh_1529 RN_1528.lt
      clear yL00_1528 yL01_1528 yL02_1528 yL03_1528 yL10_1528 yL11_1528 yL12_1528 yL13_1528
      clear RL0_1528 RL1_1528 RN_1528
      have yL00_1531 : (vh_1529).cell? ⟨w.heap.size, 0, none⟩ = some (.int .i64 op) := RL0_1531.cell 0
      have yL01_1531 : (vh_1529).cell? ⟨w.heap.size, 1, none⟩ = some (.int .i64 n) := RL0_1531.cell 1
      have yL02_1531 : (vh_1529).cell? ⟨w.heap.size, 2, none⟩ = some (.string name) := RL0_1531.cell 2
      have yL03_1531 : (vh_1529).cell? ⟨w.heap.size, 3, none⟩ = some (v3) := RL0_1531.cell 3
      have yL10_1531 : (vh_1529).cell? ⟨w.heap.size + 1, 0, none⟩ = some (.int .i64 op') := RL1_1531.cell 0
      have yL11_1531 : (vh_1529).cell? ⟨w.heap.size + 1, 1, none⟩ = some (.int .i64 n') := RL1_1531.cell 1
      have yL12_1531 : (vh_1529).cell? ⟨w.heap.size + 1, 2, none⟩ = some (.string name') := RL1_1531.cell 2
      have yL13_1531 : (vh_1529).cell? ⟨w.heap.size + 1, 3, none⟩ = some (v3') := RL1_1531.cell 3
      refine hK.out _ _ ?_ (fun hHeld => ?_)
      · ((try dsimp only); refine ⟨?_, ?_, ?_, ?_, ?_, ?_, ?_, ?_⟩ <;> assumption)
      clear hK K
      try simp only [Act.put, List.setIfInBounds_toArray, List.set_cons_zero, List.set_cons_succ]
      refine reg_take (i := 6) (v := ?v45) rfl (by kernel_rfl) (by kernel_rfl) (by kernel_rfl) (fun _ _ _ h => h) (Or.inl ⟨by kernel_rfl, ?h45⟩) (by assumption) ?r45
      case h45 => (intro w hSw; (try dsimp only at hSw); go_simp; try with_reducible rfl)
      try simp only [Act.put, List.setIfInBounds_toArray, List.set_cons_zero, List.set_cons_succ]
      refine reg_take (i := 7) (v := ?v46) rfl (by kernel_rfl) (by kernel_rfl) (by kernel_rfl) (fun _ _ _ h => h) (Or.inl ⟨by kernel_rfl, ?h46⟩) (by assumption) ?r46
      case h46 => (intro w hSw; (try dsimp only at hSw); go_simp; try with_reducible rfl)
      try simp only [Act.put, List.setIfInBounds_toArray, List.set_cons_zero, List.set_cons_succ]
      refine reg_take (i := 8) (v := ?v47) rfl (by kernel_rfl) (by kernel_rfl) (by kernel_rfl) (fun _ _ _ h => h) (Or.inl ⟨by kernel_rfl, ?h47⟩) (by assumption) ?r47
      case h47 => (intro w hSw; (try dsimp only at hSw); go_simp; try with_reducible rfl)
      try simp only [Act.put, List.setIfInBounds_toArray, List.set_cons_zero, List.set_cons_succ]
      clear yL00_1531 yL01_1531 yL02_1531 yL03_1531 yL10_1531 yL11_1531 yL12_1531 yL13_1531
      have yN0_1531 : (vh_1529).cell? ⟨j4.heap.size, 0, none⟩ = some (.int .i64 0) := RN_1531.cell 0
      have yN1_1531 : (vh_1529).cell? ⟨j4.heap.size, 1, none⟩ = some (.int .i64 0) := RN_1531.cell 1
      have yN2_1531 : (vh_1529).cell? ⟨j4.heap.size, 2, none⟩ = some (.string ⟨#[]⟩) := RN_1531.cell 2
      have yN3_1531 : (vh_1529).cell? ⟨j4.heap.size, 3, none⟩ = some (.slice none 0 0) := RN_1531.cell 3
      have nf0 : (vh_1529).frozen? ⟨j4.heap.size, 0, none⟩ = false := RN_1531.frozen 0
      have nf1 : (vh_1529).frozen? ⟨j4.heap.size, 1, none⟩ = false := RN_1531.frozen 1
      have nf2 : (vh_1529).frozen? ⟨j4.heap.size, 2, none⟩ = false := RN_1531.frozen 2
      have nf3 : (vh_1529).frozen? ⟨j4.heap.size, 3, none⟩ = false := RN_1531.frozen 3
      refine reg_call (i := 10) (by kernel_rfl) rfl (fun K hK => ?_)
      go_simp
      clear yN0_1531 yN1_1531 yN2_1531 yN3_1531
      clear nf0 nf1 nf2 nf3
      have FL0 : Row (((((vh_1529).setCell ⟨j4.heap.size, 0, none⟩ (.int .i64 zop)).setCell ⟨j4.heap.size, 1, none⟩ (.int .i64 zn)).setCell ⟨j4.heap.size, 2, none⟩ (.string znm)).setCell ⟨j4.heap.size, 3, none⟩ (.slice Ah_1529 zk.length ph_1529)) (w.heap.size) 24 #[.int .i64 op, .int .i64 n, .string name, v3] := ((((RL0_1531.far (p := ⟨j4.heap.size, 0, none⟩) (by simp; omega) (.int .i64 zop)).far (p := ⟨j4.heap.size, 1, none⟩) (by simp; omega) (.int .i64 zn)).far (p := ⟨j4.heap.size, 2, none⟩) (by simp; omega) (.string znm)).far (p := ⟨j4.heap.size, 3, none⟩) (by simp; omega) (.slice Ah_1529 zk.length ph_1529))
      have FL1 : Row (((((vh_1529).setCell ⟨j4.heap.size, 0, none⟩ (.int .i64 zop)).setCell ⟨j4.heap.size, 1, none⟩ (.int .i64 zn)).setCell ⟨j4.heap.size, 2, none⟩ (.string znm)).setCell ⟨j4.heap.size, 3, none⟩ (.slice Ah_1529 zk.length ph_1529)) (w.heap.size + 1) 24 #[.int .i64 op', .int .i64 n', .string name', v3'] := ((((RL1_1531.far (p := ⟨j4.heap.size, 0, none⟩) (by simp; omega) (.int .i64 zop)).far (p := ⟨j4.heap.size, 1, none⟩) (by simp; omega) (.int .i64 zn)).far (p := ⟨j4.heap.size, 2, none⟩) (by simp; omega) (.string znm)).far (p := ⟨j4.heap.size, 3, none⟩) (by simp; omega) (.slice Ah_1529 zk.length ph_1529))
      have yfL00 : (((((vh_1529).setCell ⟨j4.heap.size, 0, none⟩ (.int .i64 zop)).setCell ⟨j4.heap.size, 1, none⟩ (.int .i64 zn)).setCell ⟨j4.heap.size, 2, none⟩ (.string znm)).setCell ⟨j4.heap.size, 3, none⟩ (.slice Ah_1529 zk.length ph_1529)).cell? ⟨w.heap.size, 0, none⟩ = some (.int .i64 op) := FL0.cell 0
      have yfL01 : (((((vh_1529).setCell ⟨j4.heap.size, 0, none⟩ (.int .i64 zop)).setCell ⟨j4.heap.size, 1, none⟩ (.int .i64 zn)).setCell ⟨j4.heap.size, 2, none⟩ (.string znm)).setCell ⟨j4.heap.size, 3, none⟩ (.slice Ah_1529 zk.length ph_1529)).cell? ⟨w.heap.size, 1, none⟩ = some (.int .i64 n) := FL0.cell 1
      have yfL02 : (((((vh_1529).setCell ⟨j4.heap.size, 0, none⟩ (.int .i64 zop)).setCell ⟨j4.heap.size, 1, none⟩ (.int .i64 zn)).setCell ⟨j4.heap.size, 2, none⟩ (.string znm)).setCell ⟨j4.heap.size, 3, none⟩ (.slice Ah_1529 zk.length ph_1529)).cell? ⟨w.heap.size, 2, none⟩ = some (.string name) := FL0.cell 2
      have yfL03 : (((((vh_1529).setCell ⟨j4.heap.size, 0, none⟩ (.int .i64 zop)).setCell ⟨j4.heap.size, 1, none⟩ (.int .i64 zn)).setCell ⟨j4.heap.size, 2, none⟩ (.string znm)).setCell ⟨j4.heap.size, 3, none⟩ (.slice Ah_1529 zk.length ph_1529)).cell? ⟨w.heap.size, 3, none⟩ = some (v3) := FL0.cell 3
      have yfL10 : (((((vh_1529).setCell ⟨j4.heap.size, 0, none⟩ (.int .i64 zop)).setCell ⟨j4.heap.size, 1, none⟩ (.int .i64 zn)).setCell ⟨j4.heap.size, 2, none⟩ (.string znm)).setCell ⟨j4.heap.size, 3, none⟩ (.slice Ah_1529 zk.length ph_1529)).cell? ⟨w.heap.size + 1, 0, none⟩ = some (.int .i64 op') := FL1.cell 0
      have yfL11 : (((((vh_1529).setCell ⟨j4.heap.size, 0, none⟩ (.int .i64 zop)).setCell ⟨j4.heap.size, 1, none⟩ (.int .i64 zn)).setCell ⟨j4.heap.size, 2, none⟩ (.string znm)).setCell ⟨j4.heap.size, 3, none⟩ (.slice Ah_1529 zk.length ph_1529)).cell? ⟨w.heap.size + 1, 1, none⟩ = some (.int .i64 n') := FL1.cell 1
      have yfL12 : (((((vh_1529).setCell ⟨j4.heap.size, 0, none⟩ (.int .i64 zop)).setCell ⟨j4.heap.size, 1, none⟩ (.int .i64 zn)).setCell ⟨j4.heap.size, 2, none⟩ (.string znm)).setCell ⟨j4.heap.size, 3, none⟩ (.slice Ah_1529 zk.length ph_1529)).cell? ⟨w.heap.size + 1, 2, none⟩ = some (.string name') := FL1.cell 2
      have yfL13 : (((((vh_1529).setCell ⟨j4.heap.size, 0, none⟩ (.int .i64 zop)).setCell ⟨j4.heap.size, 1, none⟩ (.int .i64 zn)).setCell ⟨j4.heap.size, 2, none⟩ (.string znm)).setCell ⟨j4.heap.size, 3, none⟩ (.slice Ah_1529 zk.length ph_1529)).cell? ⟨w.heap.size + 1, 3, none⟩ = some (v3') := FL1.cell 3
      refine hK.out _ _ ?_ (fun hHeld => ?_)
      · exact ⟨yfL00, yfL01, yfL02, yfL03, yfL10, yfL11, yfL12, yfL13⟩
      clear hK K
      try simp only [Act.put, List.setIfInBounds_toArray, List.set_cons_zero, List.set_cons_succ]
      refine reg_take (i := 11) (v := ?v48) rfl (by kernel_rfl) (by kernel_rfl) (by kernel_rfl) (fun _ _ _ h => h) (Or.inl ⟨by kernel_rfl, ?h48⟩) (by assumption) ?r48
      case h48 => (intro w hSw; (try dsimp only at hSw); go_simp; try with_reducible rfl)
      try simp only [Act.put, List.setIfInBounds_toArray, List.set_cons_zero, List.set_cons_succ]
      refine wpAnyH_done (by kernel_rfl) ?_ _
      go_wp2_with fail
      go_meet
      exact ⟨j4.heap.size, uh1_1526.heap.size, vh_1529.heap.size, Ah_1529, ph_1529, rfl, rfl, ((((RN_1531.set_ 0 (.int .i64 zop)).set_ 1 (.int .i64 zn)).set_ 2 (.string znm)).set_ 3 (.slice Ah_1529 zk.length ph_1529)), by first | (left; omega) | (right; omega) | (left; simp; omega) | (right; simp; omega), by first | omega | (simp; omega), by first | omega | (simp; omega), (by simp [World.setCell]), qzh_1529.keep (Nat.le_refl _) (Nat.le_refl _) (((((Same.refl _ _ _).setCell (p := ⟨j4.heap.size, 0, none⟩) (by first | (left; simp; done) | (left; dsimp only; omega) | (right; dsimp only; omega) | (left; simp; omega) | (right; simp; omega)) (.int .i64 zop)).setCell (p := ⟨j4.heap.size, 1, none⟩) (by first | (left; simp; done) | (left; dsimp only; omega) | (right; dsimp only; omega) | (left; simp; omega) | (right; simp; omega)) (.int .i64 zn)).setCell (p := ⟨j4.heap.size, 2, none⟩) (by first | (left; simp; done) | (left; dsimp only; omega) | (right; dsimp only; omega) | (left; simp; omega) | (right; simp; omega)) (.string znm)).setCell (p := ⟨j4.heap.size, 3, none⟩) (by first | (left; simp; done) | (left; dsimp only; omega) | (right; dsimp only; omega) | (left; simp; omega) | (right; simp; omega)) (.slice Ah_1529 zk.length ph_1529)), tzh_1529.keep (Nat.le_refl _) (Nat.le_refl _) (((((Same.refl _ _ _).setCell (p := ⟨j4.heap.size, 0, none⟩) (by first | (left; simp; done) | (left; dsimp only; omega) | (right; dsimp only; omega) | (left; simp; omega) | (right; simp; omega)) (.int .i64 zop)).setCell (p := ⟨j4.heap.size, 1, none⟩) (by first | (left; simp; done) | (left; dsimp only; omega) | (right; dsimp only; omega) | (left; simp; omega) | (right; simp; omega)) (.int .i64 zn)).setCell (p := ⟨j4.heap.size, 2, none⟩) (by first | (left; simp; done) | (left; dsimp only; omega) | (right; dsimp only; omega) | (left; simp; omega) | (right; simp; omega)) (.string znm)).setCell (p := ⟨j4.heap.size, 3, none⟩) (by first | (left; simp; done) | (left; dsimp only; omega) | (right; dsimp only; omega) | (left; simp; omega) | (right; simp; omega)) (.slice Ah_1529 zk.length ph_1529)), ((((bp1530.setCell (p := ⟨j4.heap.size, 0, none⟩) (by first | (simp; done) | (simp; omega)) (.int .i64 zop)).setCell (p := ⟨j4.heap.size, 1, none⟩) (by first | (simp; done) | (simp; omega)) (.int .i64 zn)).setCell (p := ⟨j4.heap.size, 2, none⟩) (by first | (simp; done) | (simp; omega)) (.string znm)).setCell (p := ⟨j4.heap.size, 3, none⟩) (by first | (simp; done) | (simp; omega)) (.slice Ah_1529 zk.length ph_1529))⟩
  rename World => wxh
  obtain ⟨gh, loh, hih, Ah, ph, rfl, rfl, RWh, gdh, glh, llh, hhh, qzh, tzh, bxh⟩ := hcut
  have hb2501 : Below w.heap.size w wxh := hb1519.trans (bxh.mono hb1519.size)
  have sz2501 : (j4).heap.size ≤ wxh.heap.size := bxh.size
  have RL0_2501 : Row (wxh) (w.heap.size) 24 #[.int .i64 op, .int .i64 n, .string name, v3] := RL0_1519.below bxh RL0_1519.lt
  have RL1_2501 : Row (wxh) (w.heap.size + 1) 24 #[.int .i64 op', .int .i64 n', .string name', v3'] := RL1_1519.below bxh RL1_1519.lt
  have RW_2501 : Row (wxh) (gr) 30 #[.int .i64 zop, .int .i64 zn, .string znm, .slice Ar zk.length pr] := RW_1519.below bxh RW_1519.lt
  have RX0_2501 : Row (wxh) (ux0.heap.size) 30 #[.int .i64 op, .int .i64 n, .string name, .slice Ax0 kids.length px0] := RX0_1519.below bxh RX0_1519.lt
  have RX1_2501 : Row (wxh) (ux1.heap.size) 30 #[.int .i64 op', .int .i64 n', .string name', .slice Ax1 kids'.length px1] := RX1_1519.below bxh RX1_1519.lt
  have RG_2501 : Row (wxh) (vg.heap.size) 30 #[.int .i64 zop, .int .i64 zn, .string znm, .slice Ag zk.length pg] := RG_1519.below bxh RG_1519.lt
  have Xqzr_2501 : SlT false (exT false 12) (wxh) lor hir zk (.slice Ar zk.length pr) := Xqzr_1519.below bxh (by first | omega | (simp; omega) | (simp at *; omega))
  have Xtzr_2501 : SlT true (exT true 12) (wxh) lor hir zk (.slice Ar zk.length pr) := Xtzr_1519.below bxh (by first | omega | (simp; omega) | (simp at *; omega))
  have Xhm_2501 : SlT false (exT false 12) (wxh) (ux1.alloc (.cells #[.int .i64 op', .int .i64 n', .string name', .slice Ax1 kids'.length px1] 30)).heap.size vg.heap.size (mkL zk 1) (.slice Ag zk.length pg) := Xhm_1519.below bxh (by first | omega | (simp; omega) | (simp at *; omega))
  clear RL0_1519 RL1_1519 RW_1519 RX0_1519 RX1_1519 RG_1519 Xqzr_1519 Xtzr_1519 Xhm_1519
  have ggh := RWh.lt
  have yW0_2501 : (wxh).cell? ⟨gr, 0, none⟩ = some (.int .i64 zop) := RW_2501.cell 0
  have yW1_2501 : (wxh).cell? ⟨gr, 1, none⟩ = some (.int .i64 zn) := RW_2501.cell 1
  have yW2_2501 : (wxh).cell? ⟨gr, 2, none⟩ = some (.string znm) := RW_2501.cell 2
  have yW3_2501 : (wxh).cell? ⟨gr, 3, none⟩ = some (.slice Ar zk.length pr) := RW_2501.cell 3
  have yH0_2501 : (wxh).cell? ⟨gh, 0, none⟩ = some (.int .i64 zop) := RWh.cell 0
  have yH1_2501 : (wxh).cell? ⟨gh, 1, none⟩ = some (.int .i64 zn) := RWh.cell 1
  have yH2_2501 : (wxh).cell? ⟨gh, 2, none⟩ = some (.string znm) := RWh.cell 2
  have yH3_2501 : (wxh).cell? ⟨gh, 3, none⟩ = some (.slice Ah zk.length ph) := RWh.cell 3
  go_wp2_with fail
  refine (eq_Expr 12 zop zn znm zk (.slice Ah zk.length ph) (.slice Ar zk.length pr) _ loh hih lor hir (by first | omega | (simp; omega)) (by first | omega | (simp; omega)) qzh.exS Xqzr_2501.exS).mono ?_
  rintro e j5 ⟨rfl, e_j5⟩
  have hb2502 : Below w.heap.size w j5 := hb2501.trans (e_j5.mono hb2501.size)
  have sz2502 : (wxh).heap.size ≤ j5.heap.size := e_j5.size
  have RL0_2502 : Row (j5) (w.heap.size) 24 #[.int .i64 op, .int .i64 n, .string name, v3] := RL0_2501.below e_j5 RL0_2501.lt
  have RL1_2502 : Row (j5) (w.heap.size + 1) 24 #[.int .i64 op', .int .i64 n', .string name', v3'] := RL1_2501.below e_j5 RL1_2501.lt
  have RW_2502 : Row (j5) (gr) 30 #[.int .i64 zop, .int .i64 zn, .string znm, .slice Ar zk.length pr] := RW_2501.below e_j5 RW_2501.lt
  have RX0_2502 : Row (j5) (ux0.heap.size) 30 #[.int .i64 op, .int .i64 n, .string name, .slice Ax0 kids.length px0] := RX0_2501.below e_j5 RX0_2501.lt
  have RX1_2502 : Row (j5) (ux1.heap.size) 30 #[.int .i64 op', .int .i64 n', .string name', .slice Ax1 kids'.length px1] := RX1_2501.below e_j5 RX1_2501.lt
  have RG_2502 : Row (j5) (vg.heap.size) 30 #[.int .i64 zop, .int .i64 zn, .string znm, .slice Ag zk.length pg] := RG_2501.below e_j5 RG_2501.lt
  have RH_2502 : Row (j5) (gh) 30 #[.int .i64 zop, .int .i64 zn, .string znm, .slice Ah zk.length ph] := RWh.below e_j5 RWh.lt
  have Xqzr_2502 : SlT false (exT false 12) (j5) lor hir zk (.slice Ar zk.length pr) := Xqzr_2501.below e_j5 (by first | omega | (simp; omega) | (simp at *; omega))
  have Xtzr_2502 : SlT true (exT true 12) (j5) lor hir zk (.slice Ar zk.length pr) := Xtzr_2501.below e_j5 (by first | omega | (simp; omega) | (simp at *; omega))
  have Xhm_2502 : SlT false (exT false 12) (j5) (ux1.alloc (.cells #[.int .i64 op', .int .i64 n', .string name', .slice Ax1 kids'.length px1] 30)).heap.size vg.heap.size (mkL zk 1) (.slice Ag zk.length pg) := Xhm_2501.below e_j5 (by first | omega | (simp; omega) | (simp at *; omega))
  have Xqzh_2502 : SlT false (exT false 12) (j5) loh hih zk (.slice Ah zk.length ph) := qzh.below e_j5 (by first | omega | (simp; omega) | (simp at *; omega))
  have Xtzh_2502 : SlT true (exT true 12) (j5) loh hih zk (.slice Ah zk.length ph) := tzh.below e_j5 (by first | omega | (simp; omega) | (simp at *; omega))
  clear yW0_2501 yW1_2501 yW2_2501 yW3_2501 yH0_2501 yH1_2501 yH2_2501 yH3_2501
  clear RL0_2501 RL1_2501 RW_2501 RX0_2501 RX1_2501 RG_2501 RWh Xqzr_2501 Xtzr_2501 Xhm_2501 qzh tzh
  have yG0_2502 : (j5).cell? ⟨vg.heap.size, 0, none⟩ = some (.int .i64 zop) := RG_2502.cell 0
  have yG1_2502 : (j5).cell? ⟨vg.heap.size, 1, none⟩ = some (.int .i64 zn) := RG_2502.cell 1
  have yG2_2502 : (j5).cell? ⟨vg.heap.size, 2, none⟩ = some (.string znm) := RG_2502.cell 2
  have yG3_2502 : (j5).cell? ⟨vg.heap.size, 3, none⟩ = some (.slice Ag zk.length pg) := RG_2502.cell 3
  go_wp2_with fail
  refine (heldx_Expr 12 zop zn znm zk (.slice Ag zk.length pg) 1 _ (ux1.alloc (.cells #[.int .i64 op', .int .i64 n', .string name', .slice Ax1 kids'.length px1] 30)).heap.size vg.heap.size (by omega) (by first | omega | (simp; omega)) Xhm_2502.exS).mono ?_
  rintro e j6 ⟨rfl, e_j6⟩
  have hb2503 : Below w.heap.size w j6 := hb2502.trans (e_j6.mono hb2502.size)
  have sz2503 : (j5).heap.size ≤ j6.heap.size := e_j6.size
  have RL0_2503 : Row (j6) (w.heap.size) 24 #[.int .i64 op, .int .i64 n, .string name, v3] := RL0_2502.below e_j6 RL0_2502.lt
  have RL1_2503 : Row (j6) (w.heap.size + 1) 24 #[.int .i64 op', .int .i64 n', .string name', v3'] := RL1_2502.below e_j6 RL1_2502.lt
  have RW_2503 : Row (j6) (gr) 30 #[.int .i64 zop, .int .i64 zn, .string znm, .slice Ar zk.length pr] := RW_2502.below e_j6 RW_2502.lt
  have RX0_2503 : Row (j6) (ux0.heap.size) 30 #[.int .i64 op, .int .i64 n, .string name, .slice Ax0 kids.length px0] := RX0_2502.below e_j6 RX0_2502.lt
  have RX1_2503 : Row (j6) (ux1.heap.size) 30 #[.int .i64 op', .int .i64 n', .string name', .slice Ax1 kids'.length px1] := RX1_2502.below e_j6 RX1_2502.lt
  have RG_2503 : Row (j6) (vg.heap.size) 30 #[.int .i64 zop, .int .i64 zn, .string znm, .slice Ag zk.length pg] := RG_2502.below e_j6 RG_2502.lt
  have RH_2503 : Row (j6) (gh) 30 #[.int .i64 zop, .int .i64 zn, .string znm, .slice Ah zk.length ph] := RH_2502.below e_j6 RH_2502.lt
  have Xqzr_2503 : SlT false (exT false 12) (j6) lor hir zk (.slice Ar zk.length pr) := Xqzr_2502.below e_j6 (by first | omega | (simp; omega) | (simp at *; omega))
  have Xtzr_2503 : SlT true (exT true 12) (j6) lor hir zk (.slice Ar zk.length pr) := Xtzr_2502.below e_j6 (by first | omega | (simp; omega) | (simp at *; omega))
  have Xhm_2503 : SlT false (exT false 12) (j6) (ux1.alloc (.cells #[.int .i64 op', .int .i64 n', .string name', .slice Ax1 kids'.length px1] 30)).heap.size vg.heap.size (mkL zk 1) (.slice Ag zk.length pg) := Xhm_2502.below e_j6 (by first | omega | (simp; omega) | (simp at *; omega))
  have Xqzh_2503 : SlT false (exT false 12) (j6) loh hih zk (.slice Ah zk.length ph) := Xqzh_2502.below e_j6 (by first | omega | (simp; omega) | (simp at *; omega))
  have Xtzh_2503 : SlT true (exT true 12) (j6) loh hih zk (.slice Ah zk.length ph) := Xtzh_2502.below e_j6 (by first | omega | (simp; omega) | (simp at *; omega))
  clear yG0_2502 yG1_2502 yG2_2502 yG3_2502
  clear RL0_2502 RL1_2502 RW_2502 RX0_2502 RX1_2502 RG_2502 RH_2502 Xqzr_2502 Xtzr_2502 Xhm_2502 Xqzh_2502 Xtzh_2502
  have hqj6 : ¬ (1 : Int) + 3 * (partsL zk : Int) < 0 := by omega
  go_wp2_with fail
  go_ret
  exact ⟨rfl, hb2503⟩

set_option maxRecDepth 100000 in
theorem fnExactPutVar_lifted (os : Os) (started : os.Started) (H : Type) (enc : TypeId × Value → H) :
    ReturnsInHanded {} Tryd.checked os 10 .any (fun w args => (Rows.fnExactPutVarSpec.pre enc Tryd.prog Tryd.f10 [] false w args ∧ laidMetH Tryd.prog [("loop.example/wholeway/impl.keys", Rows.laid_loop_example_wholeway_impl_keys), ("loop.example/wholeway/impl.opSign", Rows.laid_loop_example_wholeway_impl_opSign)] w) ∧ sizedMet enc Tryd.prog Tryd.f10 (OpenSpec.ofChange Rows.fnExactPutVarSpec) false w args) (Rows.fnExactPutVarSpec.post enc Tryd.prog Tryd.f10 false true false false) := by
  refine returnsInHanded_of_change_and (C := Tryd.checked) (X := fun w _ => laidMetH Tryd.prog [("loop.example/wholeway/impl.keys", Rows.laid_loop_example_wholeway_impl_keys), ("loop.example/wholeway/impl.opSign", Rows.laid_loop_example_wholeway_impl_opSign)] w) (fun _ _ _ hh h => h.of_heap hh) own started (by kernel_rfl) Tryd.func10
    (ChangeSpec.witness_shaped (enc := enc) (C := Tryd.checked) (os := os) (X := fun w _ => laidMetH Tryd.prog [("loop.example/wholeway/impl.keys", Rows.laid_loop_example_wholeway_impl_keys), ("loop.example/wholeway/impl.opSign", Rows.laid_loop_example_wholeway_impl_opSign)] w) false (World.doorLaid Tryd.prog 400 os) #[.agg #[.int .i64 0, .int .i64 0, .string ⟨#[]⟩, .slice none 0 0], .string ⟨#[]⟩, .agg #[.int .i64 0, .int .i64 0, .string ⟨#[]⟩, .slice none 0 0]] 8 rfl (World.shaped_of_RefB (by kernel_rfl) (by kernel_rfl)) (by kernel_rfl) (by kernel_rfl) (by kernel_rfl) (door_met os _)) ?_
  intro W base args ds gs before hval0 hW _ _ hL _
  have hval : ∀ (j : Nat) t v, Tryd.f10.params[j]? = some t → args[j]? = some v → Value.okWide Tryd.prog W .any base t v := hval0
  obtain ⟨p, q, hA0, hV, hrest⟩ := id hW
  have hA : DataW.TrodAll enc Tryd.prog W 0 (fun _ => true) true Tryd.f10.params.toList args.toList ds p := hA0
  rw [Tryd.params10] at hA hval
  obtain ⟨v0, v1, v2, d0, d1, d2, p0, p1, p2, rfl, rfl, rfl, h0, h1, h2⟩ := trodAll_three hA
  obtain ⟨gv0, gv1, rfl⟩ := two_vars hV
  obtain ⟨cs0, rfl, -⟩ := okWide_struct Tryd.underlying24 (hval 0 _ v0 rfl rfl)
  obtain ⟨fuel0, hf0⟩ := h0
  obtain ⟨da0, ha0⟩ := dec_Expr_at fuel0 (Nat.le_refl _) hf0
  obtain ⟨fu0, rfl⟩ : ∃ n, fuel0 = n + 1 := by
    cases fuel0 with
    | zero => exact ha0.elim
    | succ n => exact ⟨n, rfl⟩
  obtain ⟨s0, e0, g0_0, g0_1, g0_2, g0_3⟩ := ex_open fu0 ha0
  obtain ⟨t0_0, t0_1, t0_2, t0_3⟩ := da0
  obtain ⟨cs0⟩ := cs0
  simp only [Value.cells] at e0
  subst e0
  obtain ⟨n1, rfl, rfl, rfl, wn1⟩ := ChangeMaps.open_string Tryd.underlying9 (hval 1 _ v1 rfl rfl) h1
  obtain ⟨cs2, rfl, -⟩ := okWide_struct Tryd.underlying24 (hval 2 _ v2 rfl rfl)
  obtain ⟨fuel2, hf2⟩ := h2
  obtain ⟨da2, ha2⟩ := dec_Expr_at fuel2 (Nat.le_refl _) hf2
  obtain ⟨fu2, rfl⟩ : ∃ n, fuel2 = n + 1 := by
    cases fuel2 with
    | zero => exact ha2.elim
    | succ n => exact ⟨n, rfl⟩
  obtain ⟨s2, e2, g2_0, g2_1, g2_2, g2_3⟩ := ex_open fu2 ha2
  obtain ⟨t2_0, t2_1, t2_2, t2_3⟩ := da2
  obtain ⟨cs2⟩ := cs2
  simp only [Value.cells] at e2
  subst e2
  have hcall : Calls Tryd.prog 10 #[.agg #[.int .i64 t0_0, .int .i64 t0_1, .string t0_2, s0], .string n1, .agg #[.int .i64 t2_0, .int .i64 t2_1, .string t2_2, s2]] W (Yes W) := by
    by_cases hbig : 1048576 < n1.size
    · exact law_FnExactPutVar_big fu0 t0_0 t0_1 t0_2 t0_3 s0 n1 fu2 t2_0 t2_1 t2_2 t2_3 s2 W hbig (by unfold maxLen at wn1; omega)
    · exact law_FnExactPutVar fu0 t0_0 t0_1 t0_2 t0_3 s0 n1 fu2 t2_0 t2_1 t2_2 t2_3 s2 W g0_0 g0_1 g0_2 g0_3 g2_0 g2_1 g2_2 g2_3 wn1 hbig (tabs_of hL)
  refine hcall.mono fun e W' ⟨he, hb⟩ => ?_
  subst he
  exact ⟨_, rfl, post_true_vars laidO hW (by kernel_rfl) Tryd.underlying4 (by rw [Tryd.params10]; intro t ht; simp only [List.mem_cons, List.not_mem_nil, or_false] at ht; rcases ht with rfl | rfl | rfl <;> exact ⟨by kernel_rfl, of_decide_eq_true (by kernel_rfl)⟩) vars_ok rfl rfl rfl hb⟩

set_option maxRecDepth 100000 in
set_option maxHeartbeats 1000000 in
theorem fnExactPutVar_facts : joinedFacts Tryd.prog 10 Tryd.f10 Rows.fnExactPutVarSpec Rows.fnExactPutVarRow = true := by
  unfold joinedFacts
  exact and_mk (and_mk (and_mk (and_mk (and_mk (and_mk (and_mk (and_mk (and_mk (and_mk (and_mk (and_mk (and_mk (and_mk (and_mk (and_mk (and_mk (and_mk (and_mk (and_mk (and_mk (and_mk (and_mk (and_mk (and_mk (and_mk (and_mk (and_mk (and_mk (and_mk (and_mk (by as_aux_lemma => kernel_rfl) laidO) mapsRowedO) (by as_aux_lemma => kernel_rfl)) (by as_aux_lemma => kernel_rfl)) (by as_aux_lemma => kernel_rfl)) (by as_aux_lemma => kernel_rfl)) (by as_aux_lemma => kernel_rfl)) (by as_aux_lemma => kernel_rfl)) (by as_aux_lemma => kernel_rfl)) (by as_aux_lemma => kernel_rfl)) (by as_aux_lemma => kernel_rfl)) (by as_aux_lemma => kernel_rfl)) (by as_aux_lemma => kernel_rfl)) (by as_aux_lemma => kernel_rfl)) (by as_aux_lemma => kernel_rfl)) (by as_aux_lemma => kernel_rfl)) (by as_aux_lemma => kernel_rfl)) (by as_aux_lemma => kernel_rfl)) (by as_aux_lemma => kernel_rfl)) (by as_aux_lemma => kernel_rfl)) (by as_aux_lemma => kernel_rfl)) (by rw [plainKeysO]; rfl)) (by as_aux_lemma => kernel_rfl)) stopsHeardO) mayEnter) (by rw [liftsFinal]; rfl)) (by rw [makeCut]; rfl)) (by as_aux_lemma => kernel_rfl)) (by as_aux_lemma => kernel_rfl)) (by as_aux_lemma => kernel_rfl)) (by as_aux_lemma => kernel_rfl)

theorem fnExactPutVar_said : Rows.FnExactPutVarSaid :=
  OpenClaim.holds_of_wide 10 Tryd.f10 rfl rfl rfl rfl rfl rfl rfl ⟨rfl, rfl, rfl, rfl, rfl⟩ rfl rfl rfl rfl rfl (by kernel_rfl) Tryd.func10 fnExactPutVar_facts
    (of_decide_eq_true (by kernel_rfl)) (by unfold Func.isWrapper; first | (rw [if_pos (by decide +kernel)]; kernel_rfl) | (rw [if_neg (by decide +kernel)]; exact ⟨rfl, rfl⟩))
    (fun os started H enc _ => fnExactPutVar_lifted os started H enc)

/-- no parameter wants a stand-in -/
theorem fnExactPutVar_plain (f : FuncId) (fn : Func) (hf : Tryd.pinned.checked.prog.funcNamed "loop.example/wholeway/laws.FnExactPutVar" = some f) (hfn : Tryd.pinned.checked.prog.funcs[f]? = some fn) :
    true = Tryd.pinned.checked.prog.looks [] ∧ ∀ (j : Nat) t, fn.params[j]? = some t → Tryd.pinned.checked.prog.wantsStandIn t = false := by
  obtain rfl : f = 10 := Option.some.inj ((show Tryd.prog.funcNamed "loop.example/wholeway/laws.FnExactPutVar" = some 10 by kernel_rfl).symm.trans hf) |>.symm
  obtain rfl : fn = Tryd.f10 := (Option.some.inj (Tryd.func10.symm.trans hfn)).symm
  refine ⟨by kernel_rfl, fun j t ht => ?_⟩
  rw [Tryd.params10] at ht
  have hm : t ∈ [24, 9, 24] := by simpa using Array.mem_of_getElem? ht
  have hall : ([24, 9, 24].all fun u => !Tryd.prog.wantsStandIn u) = true := by kernel_rfl
  exact (show Tryd.prog.wantsStandIn t = false by simpa using List.all_eq_true.1 hall t hm)
theorem fnExactPutVar_holds : Rows.FnExactPutVarCardSaid :=
  Claim7.holds_tied_plain_at .later [] _ _ _ _ fnExactPutVar_said (fun _ h => by cases h) (by kernel_rfl) (fun _ h => by cases h) fnExactPutVar_row_tie rfl ⟨rfl, rfl⟩ (by kernel_rfl) rfl fnExactPutVar_plain (by kernel_rfl)

end Go.Proofs.YtnamciblapddbaaDoor

