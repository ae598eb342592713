/-
  The law FnParts: it returns true for all arguments. Condition: the variables that its row lists read as the table lays them.
-/
import Derived.Test.YtpheoddpkmaidaaDoorLaws
import Derived.Test.YtpheoddpkmaidaaDoorDrawE6
namespace Go.Proofs.YtpheoddpkmaidaaDoor
open Go.RowKit Go.ChangeShapes Go.WideShapes Go.Deep
set_option linter.unusedVariables false
set_option linter.unusedSimpArgs false
set_option maxRecDepth 100000 in
set_option maxHeartbeats 16000000 in
theorem law_Parts (l : List UInt8) (v : Value) (w : World) (hv : Sl false byS w 0 w.heap.size l v) (ht : Tabs w) : Calls Tryd.prog 4 #[v] w (Yes w) := by
  obtain ⟨A, cap, rfl, hlc, hcm⟩ := hv.form
  by_cases hbig : 1048576 < l.length
  · have q0 : decide ((1048576 : Int) < (l.length : Int)) = true := by simp; omega
    go_enter Tryd.func4, Tryd.ntmps4
    go_wp2_with fail
    go_ret
    exact ⟨rfl, Below.refl _ _⟩
  have q0 : decide ((1048576 : Int) < (l.length : Int)) = false := by simp; omega
  go_enter Tryd.func4, Tryd.ntmps4
  go_wp2_with fail
  refine (draw_parts l _ _ hv).mono ?_
  rintro e w1 ⟨op, n, name, kids, A3, c3, rfl, ho, hn64, hnm, h3, hz, b1⟩
  have HT := Lib.hid (fun (w9 : World) (h9 : Below w.heap.size w w9) => ht.below h9 (Nat.le_refl _))
  have hkc : kids.length ≤ c3 ∧ c3 ≤ 9223372036854775807 := by
    obtain ⟨_, _, hf, h4, h5⟩ := h3.form
    injection hf with _ _ e3
    subst e3
    exact ⟨h4, h5⟩
  obtain ⟨hkc1, hkc2⟩ := hkc
  have st2 := (Below.refl _ w1).alloc (Nat.le_refl _) (.cells #[.int .i64 op, .int .i64 n, .string name, .slice A3 kids.length c3] 25)
  have hb2 : Below w.heap.size w (w1.alloc (.cells #[.int .i64 op, .int .i64 n, .string name, .slice A3 kids.length c3] 25)) := b1.alloc b1.size (.cells #[.int .i64 op, .int .i64 n, .string name, .slice A3 kids.length c3] 25)
  have R2 : Row (w1.alloc (.cells #[.int .i64 op, .int .i64 n, .string name, .slice A3 kids.length c3] 25)) w1.heap.size 25 #[.int .i64 op, .int .i64 n, .string name, .slice A3 kids.length c3] := Row.new _ _ _
  have h32 : Sl false (exS false 9) (w1.alloc (.cells #[.int .i64 op, .int .i64 n, .string name, .slice A3 kids.length c3] 25)) w.heap.size w1.heap.size kids (.slice A3 kids.length c3) := h3.below st2 (Nat.le_refl _)
  have hwb := b1.size
  have hs2 : w1.heap.size < (w1.alloc (.cells #[.int .i64 op, .int .i64 n, .string name, .slice A3 kids.length c3] 25)).heap.size := by simp
  clear ht hv h3
  obtain ⟨c, hc⟩ : ∃ c, cntE (.mk op n name kids) = c := ⟨_, rfl⟩
  obtain ⟨dp, hd⟩ : ∃ dp, dpE (.mk op n name kids) = dp := ⟨_, rfl⟩
  have HC := Lib.hid hc
  have HD := Lib.hid hd
  clear hc hd
  have y0 : (w1.alloc (.cells #[.int .i64 op, .int .i64 n, .string name, .slice A3 kids.length c3] 25)).cell? ⟨w1.heap.size, 0, none⟩ = some (.int .i64 op) := R2.cell 0
  have y1 : (w1.alloc (.cells #[.int .i64 op, .int .i64 n, .string name, .slice A3 kids.length c3] 25)).cell? ⟨w1.heap.size, 1, none⟩ = some (.int .i64 n) := R2.cell 1
  have y2 : (w1.alloc (.cells #[.int .i64 op, .int .i64 n, .string name, .slice A3 kids.length c3] 25)).cell? ⟨w1.heap.size, 2, none⟩ = some (.string name) := R2.cell 2
  have y3 : (w1.alloc (.cells #[.int .i64 op, .int .i64 n, .string name, .slice A3 kids.length c3] 25)).cell? ⟨w1.heap.size, 3, none⟩ = some (.slice A3 kids.length c3) := R2.cell 3
  have wdb : Below w.heap.size w (w1.alloc (.cells #[.int .i64 op, .int .i64 n, .string name, .slice A3 kids.length c3] 25)).drew := hb2.drew
  have wde : Below (w1.alloc (.cells #[.int .i64 op, .int .i64 n, .string name, .slice A3 kids.length c3] 25)).heap.size (w1.alloc (.cells #[.int .i64 op, .int .i64 n, .string name, .slice A3 kids.length c3] 25)) (w1.alloc (.cells #[.int .i64 op, .int .i64 n, .string name, .slice A3 kids.length c3] 25)).drew := (Below.refl _ _).drew
  have Rd : Row (w1.alloc (.cells #[.int .i64 op, .int .i64 n, .string name, .slice A3 kids.length c3] 25)).drew w1.heap.size 25 #[.int .i64 op, .int .i64 n, .string name, .slice A3 kids.length c3] := R2
  go_wp2_with fail
  go_region_held3 (fun w' => w'.cell? ⟨w1.heap.size, 0, none⟩ = some (.int .i64 op) ∧ w'.cell? ⟨w1.heap.size, 1, none⟩ = some (.int .i64 n) ∧ w'.cell? ⟨w1.heap.size, 2, none⟩ = some (.string name) ∧ w'.cell? ⟨w1.heap.size, 3, none⟩ = some (.slice A3 kids.length c3)) (refine ⟨?_, ?_, ?_, ?_⟩ <;> assumption) (first | (go_at_call 17; refine (impl_ExprDeep 9 op n name kids (.slice A3 kids.length c3) w3 w.heap.size w1.heap.size (Nat.le_trans (Nat.le_of_lt hs2) (e3).size) ho hn64 hnm (h32.below e3 (Nat.le_of_lt hs2)) (HT.out _ hb3)).mono ?_; rw [HD.out]; rintro e w4 ⟨rfl, x4⟩; have hb4 : Below w.heap.size w w4 := hb3.trans (x4.mono hb3.size); have e4 := e3.trans (x4.mono e3.size); have R4 := R3.below x4 R3.lt; have yb0 : w4.cell? ⟨w1.heap.size, 0, none⟩ = some (.int .i64 op) := R4.cell 0; have yb1 : w4.cell? ⟨w1.heap.size, 1, none⟩ = some (.int .i64 n) := R4.cell 1; have yb2 : w4.cell? ⟨w1.heap.size, 2, none⟩ = some (.string name) := R4.cell 2; have yb3 : w4.cell? ⟨w1.heap.size, 3, none⟩ = some (.slice A3 kids.length c3) := R4.cell 3) | (go_at_call 16; refine (impl_ExprParts 9 op n name kids (.slice A3 kids.length c3) (w1.alloc (.cells #[.int .i64 op, .int .i64 n, .string name, .slice A3 kids.length c3] 25)).drew w.heap.size w1.heap.size (Nat.le_trans (Nat.le_of_lt hs2) (wde).size) ho hn64 hnm (h32.below wde (Nat.le_of_lt hs2)) (HT.out _ wdb)).mono ?_; rw [HC.out]; rintro e w3 ⟨rfl, x3⟩; have hb3 : Below w.heap.size w w3 := wdb.trans (x3.mono wdb.size); have e3 := wde.trans (x3.mono wde.size); have R3 := Rd.below x3 Rd.lt; have ya0 : w3.cell? ⟨w1.heap.size, 0, none⟩ = some (.int .i64 op) := R3.cell 0; have ya1 : w3.cell? ⟨w1.heap.size, 1, none⟩ = some (.int .i64 n) := R3.cell 1; have ya2 : w3.cell? ⟨w1.heap.size, 2, none⟩ = some (.string name) := R3.cell 2; have ya3 : w3.cell? ⟨w1.heap.size, 3, none⟩ = some (.slice A3 kids.length c3) := R3.cell 3))
  clear y0 y1 y2 y3 ya0 ya1 ya2 ya3
  go_wp2_with fail
  refine (spec_ExprParts 9 op n name kids (.slice A3 kids.length c3) _ w.heap.size w1.heap.size (Nat.le_trans (Nat.le_of_lt hs2) (e4).size) ho hn64 hnm (h32.below e4 (Nat.le_of_lt hs2))).mono ?_
  rw [HC.out]
  rintro e w5 ⟨rfl, x5⟩
  have hb5 : Below w.heap.size w w5 := hb4.trans (x5.mono hb4.size)
  have e5 := e4.trans (x5.mono e4.size)
  have R5 := R4.below x5 R4.lt
  have yc0 : w5.cell? ⟨w1.heap.size, 0, none⟩ = some (.int .i64 op) := R5.cell 0
  have yc1 : w5.cell? ⟨w1.heap.size, 1, none⟩ = some (.int .i64 n) := R5.cell 1
  have yc2 : w5.cell? ⟨w1.heap.size, 2, none⟩ = some (.string name) := R5.cell 2
  have yc3 : w5.cell? ⟨w1.heap.size, 3, none⟩ = some (.slice A3 kids.length c3) := R5.cell 3
  go_wp2_with fail
  refine (spec_ExprDeep 9 op n name kids (.slice A3 kids.length c3) _ w.heap.size w1.heap.size (Nat.le_trans (Nat.le_of_lt hs2) (e5).size) ho hn64 hnm (h32.below e5 (Nat.le_of_lt hs2))).mono ?_
  rw [HD.out]
  rintro e w6 ⟨rfl, x6⟩
  have hb6 : Below w.heap.size w w6 := hb5.trans (x6.mono hb5.size)
  have e6 := e5.trans (x6.mono e5.size)
  have R6 := R5.below x6 R5.lt
  cases hval : valE (.mk op n name kids)
  case false =>
    obtain rfl : c = 0 := by rw [← HC.out, cntE_no hval]
    obtain rfl : dp = 0 := by rw [← HD.out, dpE_no hval]
    have yd0 : w6.cell? ⟨w1.heap.size, 0, none⟩ = some (.int .i64 op) := R6.cell 0
    have yd1 : w6.cell? ⟨w1.heap.size, 1, none⟩ = some (.int .i64 n) := R6.cell 1
    have yd2 : w6.cell? ⟨w1.heap.size, 2, none⟩ = some (.string name) := R6.cell 2
    have yd3 : w6.cell? ⟨w1.heap.size, 3, none⟩ = some (.slice A3 kids.length c3) := R6.cell 3
    go_wp2_with fail
    refine (spec_ExprParts 9 op n name kids (.slice A3 kids.length c3) _ w.heap.size w1.heap.size (Nat.le_trans (Nat.le_of_lt hs2) (e6).size) ho hn64 hnm (h32.below e6 (Nat.le_of_lt hs2))).mono ?_
    rw [HC.out]
    rintro e w7 ⟨rfl, x7⟩
    have hb7 : Below w.heap.size w w7 := hb6.trans (x7.mono hb6.size)
    have e7 := e6.trans (x7.mono e6.size)
    have R7 := R6.below x7 R6.lt
    have ye0 : w7.cell? ⟨w1.heap.size, 0, none⟩ = some (.int .i64 op) := R7.cell 0
    have ye1 : w7.cell? ⟨w1.heap.size, 1, none⟩ = some (.int .i64 n) := R7.cell 1
    have ye2 : w7.cell? ⟨w1.heap.size, 2, none⟩ = some (.string name) := R7.cell 2
    have ye3 : w7.cell? ⟨w1.heap.size, 3, none⟩ = some (.slice A3 kids.length c3) := R7.cell 3
    go_wp2_with fail
    refine (spec_ExprDeep 9 op n name kids (.slice A3 kids.length c3) _ w.heap.size w1.heap.size (Nat.le_trans (Nat.le_of_lt hs2) (e7).size) ho hn64 hnm (h32.below e7 (Nat.le_of_lt hs2))).mono ?_
    rw [HD.out]
    rintro e w8 ⟨rfl, x8⟩
    have hb8 : Below w.heap.size w w8 := hb7.trans (x8.mono hb7.size)
    have e8 := e7.trans (x8.mono e7.size)
    have R8 := R7.below x8 R7.lt
    go_wp2_with fail
    go_ret
    exact ⟨rfl, hb8⟩
  have h1 := (cntE_val hval).symm.trans HC.out
  have h2 := (dpE_val hval).symm.trans HD.out
  have hf := Lib.hid (val_form hval)
  have hp30 := valE_parts hval
  have hd6 := deep_val hval
  have hdp := deepE_le (.mk op n name kids)
  rw [h1] at hp30 hdp
  rw [h2] at hd6 hdp
  rw [partsE_mk] at h1
  rw [deepE_mk] at h2
  have HV : Hid (∀ k ∈ kids, valE k = true) := fun k hk => val_kid hval hk
  have q1 : ((c : Int) == 0) = false := by simp; omega
  clear hval
  have yd0 : w6.cell? ⟨w1.heap.size, 0, none⟩ = some (.int .i64 op) := R6.cell 0
  have yd1 : w6.cell? ⟨w1.heap.size, 1, none⟩ = some (.int .i64 n) := R6.cell 1
  have yd2 : w6.cell? ⟨w1.heap.size, 2, none⟩ = some (.string name) := R6.cell 2
  have yd3 : w6.cell? ⟨w1.heap.size, 3, none⟩ = some (.slice A3 kids.length c3) := R6.cell 3
  go_wp2_with fail
  go_loopw [6, 7, 50] (fun s d i wr => ∃ k sn dn : Nat, k ≤ kids.length ∧ s = .int .i64 (sn : Int) ∧ d = .int .i64 (dn : Int) ∧ i = .int .i64 (k : Int) ∧ Hid (sn = 1 + partsL (kids.take k)) ∧ Hid (dn = deepL (kids.take k)) ∧ sn ≤ 1000 ∧ dn ≤ 1000 ∧ Row wr w1.heap.size 25 #[.int .i64 op, .int .i64 n, .string name, .slice A3 kids.length c3] ∧ Below w.heap.size w wr ∧ Below (w1.alloc (.cells #[.int .i64 op, .int .i64 n, .string name, .slice A3 kids.length c3] 25)).heap.size (w1.alloc (.cells #[.int .i64 op, .int .i64 n, .string name, .slice A3 kids.length c3] 25)) wr) (fun _ _ i _ => kids.length - (intOf i).toNat)
  case atStart => exact ⟨0, 1, 0, by omega, rfl, rfl, rfl, (by show _ = _; rw [List.take_zero, partsL_nil]), (by show _ = _; rw [List.take_zero, deepL_nil]), by omega, by omega, R6, hb6, e6⟩
  case round =>
    obtain ⟨k, sn, dn, hk, rfl, rfl, rfl, HS, HDn, hs1000, hd1000, R, hb, ex⟩ := hrel
    by_cases hkl : k < kids.length
    · obtain ⟨b, o, op', n', name', kids', v', rfl, _, hbB, HL, g0, g1, g2, g3, k0, k1, k2, k3⟩ := ex_get 8 (h32.below ex (Nat.le_of_lt hs2)) hkl
      obtain ⟨A', p', hf', _, _⟩ := g3.form
      change _ = Value.slice A' kids'.length p' at hf'
      subst hf'
      have hkn : (k : Int) < (kids.length : Int) := by omega
      have hki : (0 : Int) ≤ (k : Int) := by omega
      have hvk : valE (.mk op' n' name' kids') = true := HV.out _ (HL.out ▸ List.getElem_mem hkl)
      obtain ⟨pk, hpk⟩ : ∃ pk, partsE (.mk op' n' name' kids') = pk := ⟨_, rfl⟩
      obtain ⟨dk, hdk⟩ : ∃ dk, deepE (.mk op' n' name' kids') = dk := ⟨_, rfl⟩
      have HCK : Hid (cntE (.mk op' n' name' kids') = pk) := (cntE_val hvk).trans hpk
      have HDK : Hid (dpE (.mk op' n' name' kids') = dk) := (dpE_val hvk).trans hdk
      have hpk30 := valE_parts hvk
      rw [hpk] at hpk30
      have hdk6 := deep_val hvk
      rw [hdk] at hdk6
      have HS' : Hid (sn + pk = 1 + partsL (kids.take (k + 1))) := by
        show _ = _
        rw [List.take_succ_eq_append_getElem hkl, partsL_snoc, HL.out, hpk, HS.out]
        omega
      have HD' : Hid (max dn dk = deepL (kids.take (k + 1))) := by
        show _ = _
        rw [List.take_succ_eq_append_getElem hkl, deepL_snoc, HL.out, hdk, HDn.out]
      have hsn30 : sn + pk ≤ 30 := by
        have t1 := partsL_append (kids.take (k + 1)) (kids.drop (k + 1))
        rw [List.take_append_drop] at t1
        have t2 := HS'.out
        omega
      clear hpk hdk hvk HS HDn
      have hws := ex.size
      have x7 := (Below.refl _ wr).alloc (Nat.le_refl _) (.cells #[.int .i64 op', .int .i64 n', .string name', .slice A' kids'.length p'] 25)
      have hb7 := hb.trans (x7.mono hb.size)
      have e7 := ex.trans (x7.mono ex.size)
      have KR : Row (wr.alloc (.cells #[.int .i64 op', .int .i64 n', .string name', .slice A' kids'.length p'] 25)) wr.heap.size 25 #[.int .i64 op', .int .i64 n', .string name', .slice A' kids'.length p'] := Row.new _ _ _
      go_wp2_with fail
      refine (impl_ExprParts 8 op' n' name' kids' (.slice A' kids'.length p') _ w.heap.size w1.heap.size (Nat.le_trans (Nat.le_of_lt hs2) e7.size) g0 g1 g2 (g3.below x7 (by omega)) (HT.out _ hb7)).mono ?_
      rw [HCK.out]
      rintro e w8 ⟨rfl, x8⟩
      have hb8 := hb7.trans (x8.mono hb7.size)
      have e8 := e7.trans (x8.mono e7.size)
      have KR8 := KR.below x8 KR.lt
      have g38 := (g3.below x7 (by omega)).below x8 (by simp; omega)
      have z0 : w8.cell? ⟨wr.heap.size, 0, none⟩ = some (.int .i64 op') := KR8.cell 0
      have z1 : w8.cell? ⟨wr.heap.size, 1, none⟩ = some (.int .i64 n') := KR8.cell 1
      have z2 : w8.cell? ⟨wr.heap.size, 2, none⟩ = some (.string name') := KR8.cell 2
      have z3 : w8.cell? ⟨wr.heap.size, 3, none⟩ = some (.slice A' kids'.length p') := KR8.cell 3
      go_wp2_with fail
      refine (impl_ExprDeep 8 op' n' name' kids' (.slice A' kids'.length p') _ w.heap.size w1.heap.size (Nat.le_trans (Nat.le_of_lt hs2) e8.size) g0 g1 g2 g38 (HT.out _ hb8)).mono ?_
      rw [HDK.out]
      rintro e w9 ⟨rfl, x9⟩
      have hb9 := hb8.trans (x9.mono hb8.size)
      have e9 := e8.trans (x9.mono e8.size)
      have R9 := ((R.alloc (.cells #[.int .i64 op', .int .i64 n', .string name', .slice A' kids'.length p'] 25)).below x8 (R.alloc (.cells #[.int .i64 op', .int .i64 n', .string name', .slice A' kids'.length p'] 25)).lt).below x9 ((R.alloc (.cells #[.int .i64 op', .int .i64 n', .string name', .slice A' kids'.length p'] 25)).below x8 (R.alloc (.cells #[.int .i64 op', .int .i64 n', .string name', .slice A' kids'.length p'] 25)).lt).lt
      clear k0 k1 k2 k3 z0 z1 z2 z3
      go_wp2_with fail
      go_roundw
      case rel => exact ⟨k + 1, sn + pk, max dn dk, by omega, by go_num, by go_num, by go_num, HS', HD', by omega, by omega, R9, hb9, e9⟩
      case measure => simp [intOf]; omega
    · obtain rfl : k = kids.length := by omega
      have e1 := HS.out
      have e2 := HDn.out
      rw [List.take_length] at e1 e2
      obtain rfl : sn = c := by omega
      obtain rfl : dp = dn + 1 := by omega
      have t1 : decide ((dn : Int) + 1 ≤ (sn : Int)) = true := by simp; omega
      have t2 : decide ((sn : Int) ≤ 30) = true := by simp; omega
      have t3 : decide ((dn : Int) + 1 ≤ 6) = true := by simp; omega
      clear HS HDn e1 e2
      go_wp2_with fail
      go_ret
      exact ⟨rfl, hb⟩

set_option maxRecDepth 100000 in
theorem fnParts_lifted (os : Os) (started : os.Started) (H : Type) (enc : TypeId × Value → H) :
    ReturnsInHanded {} Tryd.checked os 4 .any (fun w args => (Rows.fnPartsSpec.pre enc Tryd.prog Tryd.f4 [] false w args ∧ laidMetH Tryd.prog [("loop.example/wholeway/impl.keys", Rows.laid_loop_example_wholeway_impl_keys), ("loop.example/wholeway/impl.opSign", Rows.laid_loop_example_wholeway_impl_opSign)] w) ∧ sizedMet enc Tryd.prog Tryd.f4 (OpenSpec.ofChange Rows.fnPartsSpec) false w args) (Rows.fnPartsSpec.post enc Tryd.prog Tryd.f4 false true false false) := by
  refine returnsInHanded_of_change_and (C := Tryd.checked) (X := fun w _ => laidMetH Tryd.prog [("loop.example/wholeway/impl.keys", Rows.laid_loop_example_wholeway_impl_keys), ("loop.example/wholeway/impl.opSign", Rows.laid_loop_example_wholeway_impl_opSign)] w) (fun _ _ _ hh h => h.of_heap hh) own started (by kernel_rfl) Tryd.func4
    (ChangeSpec.witness_shaped (enc := enc) (C := Tryd.checked) (os := os) (X := fun w _ => laidMetH Tryd.prog [("loop.example/wholeway/impl.keys", Rows.laid_loop_example_wholeway_impl_keys), ("loop.example/wholeway/impl.opSign", Rows.laid_loop_example_wholeway_impl_opSign)] w) false (World.doorLaid Tryd.prog 400 os) #[.slice none 0 0] 8 rfl (World.shaped_of_RefB (by kernel_rfl) (by kernel_rfl)) (by kernel_rfl) (by kernel_rfl) (by kernel_rfl) (door_met os _)) ?_
  intro W base args ds gs before hval0 hW _ _ hL _
  have hval : ∀ (j : Nat) t v, Tryd.f4.params[j]? = some t → args[j]? = some v → Value.okWide Tryd.prog W .any base t v := hval0
  obtain ⟨p, q, hA0, hV, hrest⟩ := id hW
  have hA : DataW.TrodAll enc Tryd.prog W 0 (fun _ => true) true Tryd.f4.params.toList args.toList ds p := hA0
  rw [Tryd.params4] at hA hval
  obtain ⟨v0, d0, rfl, rfl, h0⟩ := trodAll_one hA
  obtain ⟨gv0, gv1, rfl⟩ := two_vars hV
  obtain ⟨a, len, cap, rfl⟩ := okWide_slice Tryd.underlying22 (hval 0 _ v0 rfl rfl)
  obtain ⟨fuel0, hf0⟩ := h0
  obtain ⟨da0, vv, hv0, ha0⟩ := dec_slice Tryd.underlying22 (by kernel_rfl) (by decide) dec_u8 hf0
  simp only [Value.cells, List.cons.injEq, and_true] at hv0
  subst hv0
  have hcall := law_Parts da0 _ W ha0 (tabs_of hL)
  refine hcall.mono fun e W' ⟨he, hb⟩ => ?_
  subst he
  exact ⟨_, rfl, post_true_vars laidO hW (by kernel_rfl) Tryd.underlying4 (by rw [Tryd.params4]; intro t ht; simp only [List.mem_cons, List.not_mem_nil, or_false] at ht; subst ht; exact ⟨by kernel_rfl, of_decide_eq_true (by kernel_rfl)⟩) vars_ok rfl rfl rfl hb⟩

set_option maxRecDepth 100000 in
set_option maxHeartbeats 1000000 in
theorem fnParts_facts : joinedFacts Tryd.prog 4 Tryd.f4 Rows.fnPartsSpec Rows.fnPartsRow = true := by
  unfold joinedFacts
  exact and_mk (and_mk (and_mk (and_mk (and_mk (and_mk (and_mk (and_mk (and_mk (and_mk (and_mk (and_mk (and_mk (and_mk (and_mk (and_mk (and_mk (and_mk (and_mk (and_mk (and_mk (and_mk (and_mk (and_mk (and_mk (and_mk (and_mk (and_mk (and_mk (and_mk (and_mk (by as_aux_lemma => kernel_rfl) laidO) mapsRowedO) (by as_aux_lemma => kernel_rfl)) (by as_aux_lemma => kernel_rfl)) (by as_aux_lemma => kernel_rfl)) (by as_aux_lemma => kernel_rfl)) (by as_aux_lemma => kernel_rfl)) (by as_aux_lemma => kernel_rfl)) (by as_aux_lemma => kernel_rfl)) (by as_aux_lemma => kernel_rfl)) (by as_aux_lemma => kernel_rfl)) (by as_aux_lemma => kernel_rfl)) (by as_aux_lemma => kernel_rfl)) (by as_aux_lemma => kernel_rfl)) (by as_aux_lemma => kernel_rfl)) (by as_aux_lemma => kernel_rfl)) (by as_aux_lemma => kernel_rfl)) (by as_aux_lemma => kernel_rfl)) (by as_aux_lemma => kernel_rfl)) (by as_aux_lemma => kernel_rfl)) (by as_aux_lemma => kernel_rfl)) (by rw [plainKeysO]; rfl)) (by as_aux_lemma => kernel_rfl)) stopsHeardO) mayEnter) (by rw [liftsFinal]; rfl)) (by rw [makeCut]; rfl)) (by as_aux_lemma => kernel_rfl)) (by as_aux_lemma => kernel_rfl)) (by as_aux_lemma => kernel_rfl)) (by as_aux_lemma => kernel_rfl)

theorem fnParts_said : Rows.FnPartsSaid :=
  OpenClaim.holds_of_wide 4 Tryd.f4 rfl rfl rfl rfl rfl rfl rfl ⟨rfl, rfl, rfl, rfl, rfl⟩ rfl rfl rfl rfl rfl (by kernel_rfl) Tryd.func4 fnParts_facts
    (of_decide_eq_true (by kernel_rfl)) (by unfold Func.isWrapper; first | (rw [if_pos (by decide +kernel)]; kernel_rfl) | (rw [if_neg (by decide +kernel)]; exact ⟨rfl, rfl⟩))
    (fun os started H enc _ => fnParts_lifted os started H enc)

/-- no parameter wants a stand-in -/
theorem fnParts_plain (f : FuncId) (fn : Func) (hf : Tryd.pinned.checked.prog.funcNamed "loop.example/wholeway/laws.FnParts" = some f) (hfn : Tryd.pinned.checked.prog.funcs[f]? = some fn) :
    true = Tryd.pinned.checked.prog.looks [] ∧ ∀ (j : Nat) t, fn.params[j]? = some t → Tryd.pinned.checked.prog.wantsStandIn t = false := by
  obtain rfl : f = 4 := Option.some.inj ((show Tryd.prog.funcNamed "loop.example/wholeway/laws.FnParts" = some 4 by kernel_rfl).symm.trans hf) |>.symm
  obtain rfl : fn = Tryd.f4 := (Option.some.inj (Tryd.func4.symm.trans hfn)).symm
  refine ⟨by kernel_rfl, fun j t ht => ?_⟩
  rw [Tryd.params4] at ht
  have hm : t ∈ [22] := by simpa using Array.mem_of_getElem? ht
  have hall : ([22].all fun u => !Tryd.prog.wantsStandIn u) = true := by kernel_rfl
  exact (show Tryd.prog.wantsStandIn t = false by simpa using List.all_eq_true.1 hall t hm)
theorem fnParts_holds : Rows.FnPartsCardSaid :=
  Claim7.holds_tied_plain_at .later [] _ _ _ _ fnParts_said (fun _ h => by cases h) (by kernel_rfl) (fun _ h => by cases h) fnParts_row_tie rfl ⟨rfl, rfl⟩ (by kernel_rfl) rfl fnParts_plain (by kernel_rfl)
end Go.Proofs.YtpheoddpkmaidaaDoor
