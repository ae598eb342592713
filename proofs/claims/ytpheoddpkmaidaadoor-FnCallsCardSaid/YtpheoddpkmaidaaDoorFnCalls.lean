/-
  The law FnCalls: it returns true for all arguments. Condition: the variables that its row lists read as the table lays them.
-/
import Derived.Test.YtpheoddpkmaidaaDoorLawE
namespace Go.Proofs.YtpheoddpkmaidaaDoor
open Go.RowKit Go.ChangeShapes Go.WideShapes Go.Deep
set_option linter.unusedVariables false
set_option linter.unusedSimpArgs false
theorem But.setG {g : Nat} {w w' : World} (h : But g w w') (i : Nat) (u : Value) : But g w (w'.setCell ⟨g, i, none⟩ u) := ⟨h.1.setCell (p := ⟨g, i, none⟩) (Nat.le_refl g) u, fun b h1 h2 => (Below.heap_setCell _ _ _ b (by show b ≠ g; omega)).trans (h.2 b h1 h2)⟩
theorem sl_sizes {w : World} {lo B : Nat} {l : List ByteArray} {v : Value} (h : Sl false (strS false) w lo B l v) : ∀ s ∈ l, s.size ≤ maxLen := by
  intro s hs
  obtain ⟨i, hi⟩ := List.mem_iff_getElem?.1 hs
  obtain ⟨A, cap, rfl, _, _, h3⟩ := h
  obtain ⟨b, o, _, _, _, _, hc⟩ := h3 (by rintro rfl; cases hs)
  obtain ⟨cs, hr, _⟩ := hc i s hi
  exact (str_rep hr).2
/-- the names of the Kids, one list behind the other -/
def catN (l : List Ex) : List ByteArray := l.flatMap (nmV 13)
theorem catN_snoc (l : List Ex) (e : Ex) : catN (l ++ [e]) = catN l ++ nmV 13 e := by simp [catN]
theorem catN_len : ∀ l : List Ex, (∀ e ∈ l, valE e = true) → (dd [] (flL 13 l)).length ≤ (catN l).length
  | [], _ => by rw [flL_nil]; simp [dd]
  | e :: r, h => by
    have h1 := dd_len (dd [] (flE 13 e)) (flL 13 r)
    have h2 := catN_len r (fun x hx => h x (by simp [hx]))
    have h3 : catN (e :: r) = nmV 13 e ++ catN r := by simp [catN]
    rw [flL_cons, dd_append, h3, List.length_append, nmV_dd (h e (by simp))]
    omega
theorem catN_mem {l : List Ex} (h : ∀ e ∈ l, valE e = true) {s : ByteArray} (hs : s ∈ catN l) : s ∈ flL 13 l := by
  obtain ⟨e, he, hse⟩ := List.mem_flatMap.1 hs
  rw [nmV_dd (h e he), dd_mem] at hse
  rcases hse with hse | hse
  · cases hse
  · exact fl_kid he hse
theorem calls_len {op n : Int} {name : ByteArray} {kids : List Ex} (h : valE (.mk op n name kids) = true) : (nmV 13 (.mk op n name kids)).length ≤ (catN kids).length + 1 := by
  have h1 := catN_len kids (fun k hk => val_kid h hk)
  rw [nmV_dd h, flE_mk, dd_append]
  have h2 := dd_len (dd [] (if op = 13 then [name] else [])) (flL 13 kids)
  have h3 : (dd [] (if op = 13 then [name] else [])).length ≤ 1 := by
    split
    · rw [dd_cons, addN_out (by simp)]
      simp [dd]
    · simp [dd]
  omega
theorem calls_mem {op n : Int} {name : ByteArray} {kids : List Ex} (h : valE (.mk op n name kids) = true) {s : ByteArray} (hs : s ∈ catN kids) : s ∈ nmV 13 (.mk op n name kids) := by
  have h1 := catN_mem (fun k hk => val_kid h hk) hs
  rw [nmV_dd h, dd_mem, flE_mk, List.mem_append]
  exact Or.inr (Or.inr h1)
theorem any_take {l : List ByteArray} {s : ByteArray} {k : Nat} (hk : k < l.length) : (l.take (k + 1)).any (fun x => x.toList == s.toList) = ((l.take k).any (fun x => x.toList == s.toList) || (l[k].toList == s.toList)) := by
  rw [List.take_succ_eq_append_getElem hk, List.any_append]
  simp
theorem any_mem {l : List ByteArray} {s : ByteArray} (h : s ∈ l) : l.any (fun x => x.toList == s.toList) = true := List.any_eq_true.2 ⟨s, h, by simp⟩
theorem kids_few {op n : Int} {name : ByteArray} {kids : List Ex} (h : valE (.mk op n name kids) = true) : kids.length ≤ 3 := by
  have h1 := val_form h
  rw [formB, Bool.and_eq_true] at h1
  exact fmK_len h1.1
set_option maxRecDepth 100000 in
set_option maxHeartbeats 16000000 in
theorem law_Calls (l : List UInt8) (v : Value) (w : World) (hv : Sl false byS w 0 w.heap.size l v) (ht : Tabs w) : Calls Tryd.prog 5 #[v] w (Yes w) := by
  obtain ⟨A, cap, rfl, hlc, hcm⟩ := hv.form
  by_cases hbig : 1048576 < l.length
  · have q0 : decide ((1048576 : Int) < (l.length : Int)) = true := by simp; omega
    go_enter Tryd.func5, Tryd.ntmps5
    go_wp2_with fail
    go_ret
    exact ⟨rfl, Below.refl _ _⟩
  have q0 : decide ((1048576 : Int) < (l.length : Int)) = false := by simp; omega
  go_enter Tryd.func5, Tryd.ntmps5
  go_wp2_with fail
  refine (draw_calls l _ _ hv).mono ?_
  rintro e w1 ⟨op, n, name, kids, A3, c3, rfl, ho, hn64, hnm, h3, hz, b1⟩
  have HT := Lib.hid (fun (w9 : World) (h9 : Below w.heap.size w w9) => ht.below h9 (Nat.le_refl _))
  have hkc : kids.length ≤ c3 ∧ c3 ≤ 9223372036854775807 := by
    obtain ⟨_, _, hf, h4, h5⟩ := h3.form
    injection hf with _ _ e3
    subst e3
    exact ⟨h4, h5⟩
  obtain ⟨hkc1, hkc2⟩ := hkc
  have st2 := (Below.refl _ w1).alloc (Nat.le_refl _) (.cells #[.int .i64 op, .int .i64 n, .string name, .slice A3 kids.length c3] 25)
  have hb2 : Below w.heap.size w (w1.alloc (.cells #[.int .i64 op, .int .i64 n, .string name, .slice A3 kids.length c3] 25)) := b1.alloc b1.size (.cells #[.int .i64 op, .int .i64 n, .string name, .slice A3 kids.length c3] 25)
  have R2 : Row (w1.alloc (.cells #[.int .i64 op, .int .i64 n, .string name, .slice A3 kids.length c3] 25)) w1.heap.size 25 #[.int .i64 op, .int .i64 n, .string name, .slice A3 kids.length c3] := Row.new _ _ _
  have h32 : Sl false (exS false 9) (w1.alloc (.cells #[.int .i64 op, .int .i64 n, .string name, .slice A3 kids.length c3] 25)) w.heap.size w1.heap.size kids (.slice A3 kids.length c3) := h3.below st2 (Nat.le_refl _)
  have hwb := b1.size
  have hs2 : w1.heap.size < (w1.alloc (.cells #[.int .i64 op, .int .i64 n, .string name, .slice A3 kids.length c3] 25)).heap.size := by simp
  clear ht hv h3
  obtain ⟨L, hL⟩ : ∃ L, nmV 13 (.mk op n name kids) = L := ⟨_, rfl⟩
  have HL := Lib.hid hL
  have hL30 := nmV_short 13 (.mk op n name kids)
  rw [hL] at hL30
  clear hL
  obtain ⟨is, hval⟩ : ∃ is, valE (.mk op n name kids) = is := ⟨_, rfl⟩
  have HV := Lib.hid hval
  clear hval
  have e2 : Below (w1.alloc (.cells #[.int .i64 op, .int .i64 n, .string name, .slice A3 kids.length c3] 25)).heap.size (w1.alloc (.cells #[.int .i64 op, .int .i64 n, .string name, .slice A3 kids.length c3] 25)) (w1.alloc (.cells #[.int .i64 op, .int .i64 n, .string name, .slice A3 kids.length c3] 25)) := Below.refl _ _
  have y0 : (w1.alloc (.cells #[.int .i64 op, .int .i64 n, .string name, .slice A3 kids.length c3] 25)).cell? ⟨w1.heap.size, 0, none⟩ = some (.int .i64 op) := R2.cell 0
  have y1 : (w1.alloc (.cells #[.int .i64 op, .int .i64 n, .string name, .slice A3 kids.length c3] 25)).cell? ⟨w1.heap.size, 1, none⟩ = some (.int .i64 n) := R2.cell 1
  have y2 : (w1.alloc (.cells #[.int .i64 op, .int .i64 n, .string name, .slice A3 kids.length c3] 25)).cell? ⟨w1.heap.size, 2, none⟩ = some (.string name) := R2.cell 2
  have y3 : (w1.alloc (.cells #[.int .i64 op, .int .i64 n, .string name, .slice A3 kids.length c3] 25)).cell? ⟨w1.heap.size, 3, none⟩ = some (.slice A3 kids.length c3) := R2.cell 3
  go_wp2_with fail
  refine (impl_CallsIn 9 op n name kids (.slice A3 kids.length c3) _ w.heap.size w1.heap.size (Nat.le_trans (Nat.le_of_lt hs2) (e2).size) ho hn64 hnm (h32.below e2 (Nat.le_of_lt hs2)) (HT.out _ hb2)).mono ?_
  rw [HL.out]
  rintro e w3 ⟨v3, rfl, hl3, x3⟩
  have p3 := hl3 false
  clear hl3
  obtain ⟨A103, c103, hf3, _, hcm3⟩ := p3.form
  subst hf3
  have hb3 : Below w.heap.size w w3 := hb2.trans (x3.mono hb2.size)
  have e3 := e2.trans (x3.mono e2.size)
  have R3 := R2.below x3 R2.lt
  have ya0 : w3.cell? ⟨w1.heap.size, 0, none⟩ = some (.int .i64 op) := R3.cell 0
  have ya1 : w3.cell? ⟨w1.heap.size, 1, none⟩ = some (.int .i64 n) := R3.cell 1
  have ya2 : w3.cell? ⟨w1.heap.size, 2, none⟩ = some (.string name) := R3.cell 2
  have ya3 : w3.cell? ⟨w1.heap.size, 3, none⟩ = some (.slice A3 kids.length c3) := R3.cell 3
  go_wp2_with fail
  refine (spec_CallsIn 9 op n name kids (.slice A3 kids.length c3) _ w.heap.size w1.heap.size (Nat.le_trans (Nat.le_of_lt hs2) (e3).size) ho hn64 hnm (h32.below e3 (Nat.le_of_lt hs2))).mono ?_
  rw [HL.out]
  rintro e w4 ⟨v4, rfl, hl4, x4⟩
  have p4 := hl4 false
  clear hl4
  obtain ⟨A104, c104, hf4, _, hcm4⟩ := p4.form
  subst hf4
  have hb4 : Below w.heap.size w w4 := hb3.trans (x4.mono hb3.size)
  have e4 := e3.trans (x4.mono e3.size)
  have R4 := R3.below x4 R3.lt
  have p34 := p3.below x4 (Nat.le_refl _)
  go_wp2_with fail
  refine (names_ok L _ _ w4 _ _ _ _ x4.size (Nat.le_refl _) p34 p4).mono ?_
  rintro e w5 ⟨rfl, x5⟩
  have hb5 : Below w.heap.size w w5 := hb4.trans (x5.mono hb4.size)
  have e5 := e4.trans (x5.mono e4.size)
  have R5 := R4.below x5 R4.lt
  have p35 := p34.below x5 x4.size
  have yb0 : w5.cell? ⟨w1.heap.size, 0, none⟩ = some (.int .i64 op) := R5.cell 0
  have yb1 : w5.cell? ⟨w1.heap.size, 1, none⟩ = some (.int .i64 n) := R5.cell 1
  have yb2 : w5.cell? ⟨w1.heap.size, 2, none⟩ = some (.string name) := R5.cell 2
  have yb3 : w5.cell? ⟨w1.heap.size, 3, none⟩ = some (.slice A3 kids.length c3) := R5.cell 3
  go_wp2_with fail
  refine (impl_ExprValid 9 op n name kids (.slice A3 kids.length c3) _ w.heap.size w1.heap.size (Nat.le_trans (Nat.le_of_lt hs2) (e5).size) ho hn64 hnm (h32.below e5 (Nat.le_of_lt hs2)) (HT.out _ hb5)).mono ?_
  rw [HV.out]
  rintro e w6 ⟨rfl, x6⟩
  have hb6 : Below w.heap.size w w6 := hb5.trans (x6.mono hb5.size)
  have e6 := e5.trans (x6.mono e5.size)
  have R6 := R5.below x6 R5.lt
  have z35 := Nat.le_trans x4.size x5.size
  have p36 := p35.below x6 z35
  have z36 := Nat.le_trans z35 x6.size
  clear p3 p34 p35 p4 y0 y1 y2 y3 ya0 ya1 ya2 ya3 yb0 yb1 yb2 yb3
  have yc0 : w6.cell? ⟨w1.heap.size, 0, none⟩ = some (.int .i64 op) := R6.cell 0
  have yc1 : w6.cell? ⟨w1.heap.size, 1, none⟩ = some (.int .i64 n) := R6.cell 1
  have yc2 : w6.cell? ⟨w1.heap.size, 2, none⟩ = some (.string name) := R6.cell 2
  have yc3 : w6.cell? ⟨w1.heap.size, 3, none⟩ = some (.slice A3 kids.length c3) := R6.cell 3
  cases is
  case false =>
    obtain rfl : L = [] := by rw [← HL.out, nmV_no HV.out]
    go_wp2_with fail
    refine (spec_CallsIn 9 op n name kids (.slice A3 kids.length c3) _ w.heap.size w1.heap.size (Nat.le_trans (Nat.le_of_lt hs2) (e6).size) ho hn64 hnm (h32.below e6 (Nat.le_of_lt hs2))).mono ?_
    rw [HL.out]
    rintro e w7 ⟨v7, rfl, hl7, x7⟩
    have p7 := hl7 false
    clear hl7
    obtain ⟨A107, c107, hf7, _, hcm7⟩ := p7.form
    subst hf7
    have hb7 : Below w.heap.size w w7 := hb6.trans (x7.mono hb6.size)
    have e7 := e6.trans (x7.mono e6.size)
    have R7 := R6.below x7 R6.lt
    have p37 := p36.below x7 z36
    go_wp2_with fail
    refine (names_ok [] _ _ w7 _ _ _ _ (Nat.le_trans z36 x7.size) (Nat.le_refl _) p37 p7).mono ?_
    rintro e w8 ⟨rfl, x8⟩
    have hb8 : Below w.heap.size w w8 := hb7.trans (x8.mono hb7.size)
    have e8 := e7.trans (x8.mono e7.size)
    have R8 := R7.below x8 R7.lt
    go_wp2_with fail
    go_ret
    exact ⟨rfl, hb8⟩
  case true =>
    have hk3 := kids_few HV.out
    have HVK : Hid (∀ k ∈ kids, valE k = true) := fun k hk => val_kid HV.out hk
    have own0 := own_emptyS w6 w6.heap.size 9 (Nat.le_refl _)
    have sA := (Below.refl _ w6).alloc (Nat.le_refl _) (.cells #[] 9)
    have RA := R6.alloc (.cells #[] 9)
    have hbA := hb6.trans (sA.mono hb6.size)
    have eA := e6.trans (sA.mono e6.size)
    have yd0 : (w6.alloc (.cells #[] 9)).cell? ⟨w1.heap.size, 0, none⟩ = some (.int .i64 op) := RA.cell 0
    have yd1 : (w6.alloc (.cells #[] 9)).cell? ⟨w1.heap.size, 1, none⟩ = some (.int .i64 n) := RA.cell 1
    have yd2 : (w6.alloc (.cells #[] 9)).cell? ⟨w1.heap.size, 2, none⟩ = some (.string name) := RA.cell 2
    have yd3 : (w6.alloc (.cells #[] 9)).cell? ⟨w1.heap.size, 3, none⟩ = some (.slice A3 kids.length c3) := RA.cell 3
    clear yc0 yc1 yc2 yc3
    go_wp2_with fail
    go_loopw [5, 46] (fun sv i wr => ∃ (k : Nat) (ks : List ByteArray), k ≤ kids.length ∧ i = .int .i64 (k : Int) ∧ wr.ownsRow w6.heap.size 9 1 sv ks.length (ks.map Value.string) ∧ Hid (ks = catN (kids.take k)) ∧ ks.length ≤ k * 30 ∧ Row wr w1.heap.size 25 #[.int .i64 op, .int .i64 n, .string name, .slice A3 kids.length c3] ∧ Below w.heap.size w wr ∧ Below (w1.alloc (.cells #[.int .i64 op, .int .i64 n, .string name, .slice A3 kids.length c3] 25)).heap.size (w1.alloc (.cells #[.int .i64 op, .int .i64 n, .string name, .slice A3 kids.length c3] 25)) wr ∧ Below w6.heap.size w6 wr) (fun _ i _ => kids.length - (intOf i).toNat)
    case atStart => exact ⟨0, [], by omega, rfl, own0, (by show _ = _; simp [catN]), by simp, RA, hbA, eA, sA⟩
    case round =>
      obtain ⟨k, ks, hk, rfl, own, HKS, hks, R, hb, ex, e6r⟩ := hrel
      have hs6 := e6r.size
      by_cases hkl : k < kids.length
      · obtain ⟨b, o, op', n', name', kids', v', rfl, _, hbB, HE, g0, g1, g2, g3, k0, k1, k2, k3⟩ := ex_get 8 (h32.below ex (Nat.le_of_lt hs2)) hkl
        obtain ⟨A', p', hf', _, _⟩ := g3.form
        change _ = Value.slice A' kids'.length p' at hf'
        subst hf'
        have hkn : (k : Int) < (kids.length : Int) := by omega
        have hki : (0 : Int) ≤ (k : Int) := by omega
        obtain ⟨nk, hnk⟩ : ∃ nk, nmV 13 (.mk op' n' name' kids') = nk := ⟨_, rfl⟩
        have HNK := Lib.hid hnk
        have hnk30 := nmV_short 13 (.mk op' n' name' kids')
        rw [hnk] at hnk30
        have HKS' : Hid (ks ++ nk = catN (kids.take (k + 1))) := by
          show _ = _
          rw [List.take_succ_eq_append_getElem hkl, catN_snoc, HE.out, hnk, HKS.out]
        clear hnk HKS
        have hws := ex.size
        have x7 := (Below.refl _ wr).alloc (Nat.le_refl _) (.cells #[.int .i64 op', .int .i64 n', .string name', .slice A' kids'.length p'] 25)
        have hb7 := hb.trans (x7.mono hb.size)
        have e7 := ex.trans (x7.mono ex.size)
        have z7 := e6r.trans (x7.mono hs6)
        have own7 := own.alloc (.cells #[.int .i64 op', .int .i64 n', .string name', .slice A' kids'.length p'] 25)
        go_wp2_with fail
        refine (impl_CallsIn 8 op' n' name' kids' (.slice A' kids'.length p') _ w.heap.size w1.heap.size (Nat.le_trans (Nat.le_of_lt hs2) e7.size) g0 g1 g2 (g3.below x7 (by omega)) (HT.out _ hb7)).mono ?_
        rw [HNK.out]
        rintro e w8 ⟨v8, rfl, hl8, x8⟩
        have p8 := hl8 false
        clear hl8
        obtain ⟨A8, c8, hf8, _, hcm8⟩ := p8.form
        subst hf8
        have hb8 := hb7.trans (x8.mono hb7.size)
        have e8 := e7.trans (x8.mono e7.size)
        have z8 := z7.trans (x8.mono z7.size)
        have own8 := own_below own7 x8 (Nat.le_refl _)
        obtain ⟨v9, w9, r9, own9, g9⟩ := append_strs w8 w6.heap.size 34 _ ks own8 nk _ _ _ p8 (by omega) z8.size
        have z9 : Below w6.heap.size w6 w9 := z8.grown g9 z8.size (fun r hr => own_ge own8 hr)
        have g98 : Below w6.heap.size w8 w9 := (Below.refl _ _).grown g9 z8.size (fun r hr => own_ge own8 hr)
        have hb9 : Below w.heap.size w w9 := hb8.trans (g98.mono hb6.size)
        have e9 := e8.trans (g98.mono e6.size)
        have R9 := ((R.alloc (.cells #[.int .i64 op', .int .i64 n', .string name', .slice A' kids'.length p'] 25)).below x8 (R.alloc (.cells #[.int .i64 op', .int .i64 n', .string name', .slice A' kids'.length p'] 25)).lt).below g98 (by have := e6.size; omega)
        clear k0 k1 k2 k3 own own7 own8 g98
        go_wp2_with (at_builtin; refine BigFrame.wpList_want (by kernel_rfl) fun K hK => Lib.wp_append_run_sl _ _ _ _ rfl _ _ rfl rfl r9 (hK _ _ ?_))
        go_roundw
        case rel => exact ⟨k + 1, ks ++ nk, by omega, by go_num, own9, HKS', by rw [List.length_append]; omega, R9, hb9, e9, z9⟩
        case measure => simp [intOf]; omega
      · obtain rfl : k = kids.length := by omega
        obtain ⟨wk, hwk⟩ : ∃ x, x = wr := ⟨_, rfl⟩
        subst hwk
        have hkse := HKS.out
        rw [List.take_length] at hkse
        have HM : Hid (∀ s ∈ ks, s ∈ L) := fun s hs => HL.out ▸ calls_mem HV.out (hkse ▸ hs)
        have hlen : L.length ≤ ks.length + 1 := by have := calls_len HV.out; rw [HL.out, ← hkse] at this; exact this
        have pL := p36.below e6r z36
        have hszs := sl_sizes pL
        have pK : Sl false (strS false) wk w6.heap.size wk.heap.size ks _ := Sl.of_ownS own (fun s hs => hszs s (HM.out s hs)) (Nat.le_refl _) false
        obtain ⟨A5, c5, hf5, _, hcm5⟩ := pK.form
        subst hf5
        clear own hszs hkse HKS
        go_wp2_with fail
        go_loopw [57] (fun i w2r => ∃ j : Nat, j ≤ ks.length ∧ i = .int .i64 (j : Int) ∧ Below wk.heap.size wk w2r) (fun i _ => ks.length - (intOf i).toNat)
        case atStart => exact ⟨0, by omega, rfl, Below.refl _ _⟩
        case round =>
          obtain ⟨j, hj, rfl, hbj⟩ := hrel
          obtain ⟨w2r, hw2r⟩ : ∃ x, x = wr := ⟨_, rfl⟩
          subst hw2r
          by_cases hjl : j < ks.length
          · obtain ⟨bs, os, s, hAs, _, _, HS, hsm, cs0⟩ := str_get (pK.below hbj (Nat.le_refl _)) hjl
            subst hAs
            have hjn : (j : Int) < (ks.length : Int) := by omega
            have hji : (0 : Int) ≤ (j : Int) := by omega
            have hsL : Hid (s ∈ L) := HM.out s (HS.out ▸ List.getElem_mem hjl)
            go_wp2_with fail
            go_loopw [10, 63] (fun h i w3r => ∃ (q : Nat) (hb : Bool), q ≤ L.length ∧ h = .bool hb ∧ i = .int .i64 (q : Int) ∧ Hid (hb = (L.take q).any (fun x => x.toList == s.toList)) ∧ Below wk.heap.size wk w3r) (fun _ i _ => L.length - (intOf i).toNat)
            case atStart => exact ⟨0, false, by omega, rfl, rfl, (by show _ = _; simp), hbj⟩
            case round =>
              obtain ⟨q, hasb, hq, rfl, rfl, HH, hbq⟩ := hrel
              by_cases hql : q < L.length
              · obtain ⟨bt, ot, t, hAt, _, _, HTt, htm, ct0⟩ := str_get (pL.below hbq (Nat.le_trans z36 hs6)) hql
                subst hAt
                have hqn : (q : Int) < (L.length : Int) := by omega
                have hqi : (0 : Int) ≤ (q : Int) := by omega
                have hst : Hid ((L.take (q + 1)).any (fun x => x.toList == s.toList) = (hasb || (t.toList == s.toList))) := by
                  show _ = _
                  rw [any_take hql, HTt.out, HH.out]
                clear HH
                cases hasb
                case true =>
                  go_wp2_with fail
                  go_roundw
                  case rel => exact ⟨q + 1, true, by omega, rfl, by go_num, hst.out.symm, hbq⟩
                  case measure => simp [intOf]; omega
                case false =>
                  cases hc : (t.toList == s.toList)
                  all_goals
                    rw [hc] at hst
                    go_wp2_with fail
                    go_roundw
                    case rel => exact ⟨q + 1, _, by omega, rfl, by go_num, hst.out.symm, hbq⟩
                    case measure => simp [intOf]; omega
              · obtain rfl : q = L.length := by omega
                have hh := HH.out
                rw [List.take_length, any_mem hsL.out] at hh
                subst hh
                clear HH
                go_wp2_with fail
                go_roundw
                case rel => exact ⟨j + 1, by omega, by go_num, hbq⟩
                case measure => simp [intOf]; omega
          · have hw1r : w1.heap.size < wk.heap.size := R.lt
            have R20 := R.below hbj hw1r
            have hb20 := hb.trans (hbj.mono hb.size)
            have e20 := ex.trans (hbj.mono ex.size)
            have yu0 : w2r.cell? ⟨w1.heap.size, 0, none⟩ = some (.int .i64 op) := R20.cell 0
            have yu1 : w2r.cell? ⟨w1.heap.size, 1, none⟩ = some (.int .i64 n) := R20.cell 1
            have yu2 : w2r.cell? ⟨w1.heap.size, 2, none⟩ = some (.string name) := R20.cell 2
            have yu3 : w2r.cell? ⟨w1.heap.size, 3, none⟩ = some (.slice A3 kids.length c3) := R20.cell 3
            have sB := (Below.refl _ w2r).alloc (Nat.le_refl _) (.cells #[.int .i64 op, .int .i64 n, .string name, .slice A3 kids.length c3] 25)
            have RB := R20.alloc (.cells #[.int .i64 op, .int .i64 n, .string name, .slice A3 kids.length c3] 25)
            have BB : Row (w2r.alloc (.cells #[.int .i64 op, .int .i64 n, .string name, .slice A3 kids.length c3] 25)) w2r.heap.size 25 #[.int .i64 op, .int .i64 n, .string name, .slice A3 kids.length c3] := Row.new _ _ _
            have hb21 := hb20.trans (sB.mono hb20.size)
            have e21 := e20.trans (sB.mono e20.size)
            have yv0 : (w2r.alloc (.cells #[.int .i64 op, .int .i64 n, .string name, .slice A3 kids.length c3] 25)).cell? ⟨w1.heap.size, 0, none⟩ = some (.int .i64 op) := RB.cell 0
            have yv1 : (w2r.alloc (.cells #[.int .i64 op, .int .i64 n, .string name, .slice A3 kids.length c3] 25)).cell? ⟨w1.heap.size, 1, none⟩ = some (.int .i64 n) := RB.cell 1
            have yv2 : (w2r.alloc (.cells #[.int .i64 op, .int .i64 n, .string name, .slice A3 kids.length c3] 25)).cell? ⟨w1.heap.size, 2, none⟩ = some (.string name) := RB.cell 2
            have yv3 : (w2r.alloc (.cells #[.int .i64 op, .int .i64 n, .string name, .slice A3 kids.length c3] 25)).cell? ⟨w1.heap.size, 3, none⟩ = some (.slice A3 kids.length c3) := RB.cell 3
            obtain ⟨VL, hVL⟩ : ∃ VL, nmV 2 (.mk op n name kids) = VL := ⟨_, rfl⟩
            have HVL := Lib.hid hVL
            clear hVL
            go_wp2_with fail
            refine (impl_VarsOf 9 op n name kids (.slice A3 kids.length c3) _ w.heap.size w1.heap.size (Nat.le_trans (Nat.le_of_lt hs2) (e21).size) ho hn64 hnm (h32.below e21 (Nat.le_of_lt hs2)) (HT.out _ hb21)).mono ?_
            rw [HVL.out]
            rintro e w22 ⟨v22, rfl, hl22, x22⟩
            have p22 := hl22 false
            clear hl22
            obtain ⟨A122, c122, hf22, _, hcm22⟩ := p22.form
            subst hf22
            have hb22 : Below w.heap.size w w22 := hb21.trans (x22.mono hb21.size)
            have e22 := e21.trans (x22.mono e21.size)
            have R22 := RB.below x22 RB.lt
            have BV := BB.below x22 BB.lt
            have pV := p22
            have hb13 : w2r.heap.size < (w2r.alloc (.cells #[.int .i64 op, .int .i64 n, .string name, .slice A3 kids.length c3] 25)).heap.size := by simp
            have pL22 := ((pL.below hbj (Nat.le_trans z36 hs6)).below sB (Nat.le_trans (Nat.le_trans z36 hs6) hbj.size)).below x22 (Nat.le_trans (Nat.le_trans (Nat.le_trans z36 hs6) hbj.size) sB.size)
            have hzk := hbj.size
            have hz2 : w3.heap.size ≤ w2r.heap.size := Nat.le_trans (Nat.le_trans z36 hs6) hzk
            have hz22 := x22.size
            have h322 := h32.below e22 (Nat.le_of_lt hs2)
            clear yu0 yu1 yu2 yu3
            go_wp2_with fail
            go_loopw [81] (fun i w4r => ∃ (q D lo' B' : Nat) (xop xn : Int) (xname : ByteArray) (xkids : List Ex) (A13 : Option Addr) (c13 : Nat), q ≤ VL.length ∧ i = .int .i64 (q : Int) ∧ Row w4r w2r.heap.size 25 #[.int .i64 xop, .int .i64 xn, .string xname, .slice A13 xkids.length c13] ∧ I64 xop ∧ I64 xn ∧ xname.size ≤ maxLen ∧ Sl false (exS false D) w4r lo' B' xkids (.slice A13 xkids.length c13) ∧ (B' ≤ w2r.heap.size ∨ w2r.heap.size < lo') ∧ B' ≤ w4r.heap.size ∧ Hid (valE (.mk xop xn xname xkids) = true) ∧ Hid (flE 13 (.mk xop xn xname xkids) = flE 13 (.mk op n name kids)) ∧ But w2r.heap.size w22 w4r) (fun i _ => VL.length - (intOf i).toNat)
            case atStart => exact ⟨0, 9, w.heap.size, w1.heap.size, op, n, name, kids, A3, c3, by omega, rfl, BV, ho, hn64, hnm, h322, Or.inl (by omega), Nat.le_trans (Nat.le_of_lt hs2) e22.size, HV, rfl, ⟨Below.refl _ _, fun _ _ _ => rfl⟩⟩
            case round =>
              obtain ⟨q, D, lo', B', xop, xn, xname, xkids, A13, c13, hq, rfl, RX, xo, xn64, xnm, hx3, hx4, hx5, HXV, HXF, hBt⟩ := hrel
              obtain ⟨w4r, hw4r⟩ : ∃ x, x = wr := ⟨_, rfl⟩
              subst hw4r
              have hq4 := hBt.1.size
              have hb4r : Below w.heap.size w w4r := hb22.trans (hBt.1.mono (by have := hb20.size; omega))
              have u0 : w4r.cell? ⟨w2r.heap.size, 0, none⟩ = some (.int .i64 xop) := RX.cell 0
              have u1 : w4r.cell? ⟨w2r.heap.size, 1, none⟩ = some (.int .i64 xn) := RX.cell 1
              have u2 : w4r.cell? ⟨w2r.heap.size, 2, none⟩ = some (.string xname) := RX.cell 2
              have u3 : w4r.cell? ⟨w2r.heap.size, 3, none⟩ = some (.slice A13 xkids.length c13) := RX.cell 3
              have uf0 : w4r.frozen? ⟨w2r.heap.size, 0, none⟩ = false := RX.frozen 0
              have uf1 : w4r.frozen? ⟨w2r.heap.size, 1, none⟩ = false := RX.frozen 1
              have uf2 : w4r.frozen? ⟨w2r.heap.size, 2, none⟩ = false := RX.frozen 2
              have uf3 : w4r.frozen? ⟨w2r.heap.size, 3, none⟩ = false := RX.frozen 3
              by_cases hql : q < VL.length
              · obtain ⟨bt, ot, t, hAt, _, _, HTt, htm, ct0⟩ := str_get (hBt.sl pV (by simp) (Nat.le_refl _)) hql
                subst hAt
                have hqn : (q : Int) < (VL.length : Int) := by omega
                have hqi : (0 : Int) ≤ (q : Int) := by omega
                go_wp2_with fail
                refine (impl_putNum 1 (by omega) (by omega) t D xop xn xname xkids _ _ lo' B' hx5 xo xn64 xnm hx3 (HT.out _ hb4r) HXV.out).mono ?_
                rintro e w9 ⟨yop, yn, yname, ykids, A14, c14, rfl, hy, yo, yn64, ynm, hy3, x9⟩
                have RX9 := RX.below x9 RX.lt
                have HYV : Hid (valE (.mk yop yn yname ykids) = true) := hy ▸ (put_leaf (num_form (by omega) (by omega)) (num_parts 1) HXV.out).1
                have HYF : Hid (flE 13 (.mk yop yn yname ykids) = flE 13 (.mk op n name kids)) := by
                  show _ = _
                  rw [← hy, fl_put13 (num_fl 13 1 (by omega)) 6 _ (val_form HXV.out), HXF.out]
                have s0 : w9.cell? ⟨w2r.heap.size, 0, none⟩ = some (.int .i64 xop) := RX9.cell 0
                have s1 : w9.cell? ⟨w2r.heap.size, 1, none⟩ = some (.int .i64 xn) := RX9.cell 1
                have s2 : w9.cell? ⟨w2r.heap.size, 2, none⟩ = some (.string xname) := RX9.cell 2
                have s3 : w9.cell? ⟨w2r.heap.size, 3, none⟩ = some (.slice A13 xkids.length c13) := RX9.cell 3
                have sf0 : w9.frozen? ⟨w2r.heap.size, 0, none⟩ = false := RX9.frozen 0
                have sf1 : w9.frozen? ⟨w2r.heap.size, 1, none⟩ = false := RX9.frozen 1
                have sf2 : w9.frozen? ⟨w2r.heap.size, 2, none⟩ = false := RX9.frozen 2
                have sf3 : w9.frozen? ⟨w2r.heap.size, 3, none⟩ = false := RX9.frozen 3
                have RX10 := (((RX9.set_ 0 (.int .i64 yop)).set_ 1 (.int .i64 yn)).set_ 2 (.string yname)).set_ 3 (.slice A14 ykids.length c14)
                have hBt9 : But w2r.heap.size w22 w9 := ⟨hBt.1.trans (x9.mono (by omega)), fun b h1 h2 => (x9.block b (by omega)).trans (hBt.2 b h1 h2)⟩
                have hBt10 := (((hBt9.setG 0 (.int .i64 yop)).setG 1 (.int .i64 yn)).setG 2 (.string yname)).setG 3 (.slice A14 ykids.length c14)
                have hlt4 : w2r.heap.size < w4r.heap.size := RX.lt
                have hy10 : Sl false (exS false 12) ((((w9.setCell ⟨w2r.heap.size, 0, none⟩ (.int .i64 yop)).setCell ⟨w2r.heap.size, 1, none⟩ (.int .i64 yn)).setCell ⟨w2r.heap.size, 2, none⟩ (.string yname)).setCell ⟨w2r.heap.size, 3, none⟩ (.slice A14 ykids.length c14)) w4r.heap.size w9.heap.size ykids (.slice A14 ykids.length c14) := hy3.keep (Nat.le_refl _) (Nat.le_refl _) (fun b h1 h2 => set4_block w9 w2r.heap.size _ _ _ _ b (by omega))
                have hsz10 : w9.heap.size ≤ ((((w9.setCell ⟨w2r.heap.size, 0, none⟩ (.int .i64 yop)).setCell ⟨w2r.heap.size, 1, none⟩ (.int .i64 yn)).setCell ⟨w2r.heap.size, 2, none⟩ (.string yname)).setCell ⟨w2r.heap.size, 3, none⟩ (.slice A14 ykids.length c14)).heap.size := Nat.le_of_eq (set4_size w9 w2r.heap.size _ _ _ _).symm
                clear hy ct0 hy3 hx3 hBt9 hBt HXV HXF u0 uf0 u1 uf1 u2 uf2 u3 uf3
                go_wp2_with fail
                go_roundw
                case rel => exact ⟨q + 1, 12, _, _, yop, yn, yname, ykids, A14, c14, by omega, by go_num, RX10, yo, yn64, ynm, hy10, Or.inr hlt4, hsz10, HYV, HYF, hBt10⟩
                case measure => simp [intOf]; omega
              · obtain rfl : q = VL.length := by omega
                have HLX : Hid (nmV 13 (.mk xop xn xname xkids) = L) := by
                  show _ = _
                  rw [nmV_dd HXV.out, HXF.out, ← nmV_dd HV.out, HL.out]
                have pLr := pL22.below hBt.1 hz2
                go_wp2_with fail
                refine (impl_CallsIn D xop xn xname xkids _ _ lo' B' hx5 xo xn64 xnm hx3 (HT.out _ hb4r)).mono ?_
                rw [HLX.out]
                rintro e w30 ⟨v30, rfl, hl30, x30⟩
                have p30 := hl30 false
                clear hl30
                obtain ⟨A30, c30, hf30, _, hcm30⟩ := p30.form
                subst hf30
                have hz4 : w3.heap.size ≤ w4r.heap.size := Nat.le_trans hz2 (Nat.le_of_lt RX.lt)
                have hb30 := hb4r.trans (x30.mono hb4r.size)
                have pL30 := pLr.below x30 hz4
                clear pLr pL22 hx3 u0 uf0 u1 uf1 u2 uf2 u3 uf3
                go_wp2_with fail
                refine (names_ok L _ _ w30 _ _ _ _ (Nat.le_refl _) (Nat.le_trans hz4 x30.size) p30 pL30).mono ?_
                rintro e w31 ⟨rfl, x31⟩
                have hb31 := hb30.trans (x31.mono hb30.size)
                have tl : decide ((L.length : Int) ≤ (ks.length : Int) + 1) = true := by simp; omega
                go_wp2_with fail
                go_ret
                exact ⟨rfl, hb31⟩

set_option maxRecDepth 100000 in
theorem fnCalls_lifted (os : Os) (started : os.Started) (H : Type) (enc : TypeId × Value → H) :
    ReturnsInHanded {} Tryd.checked os 5 .any (fun w args => (Rows.fnCallsSpec.pre enc Tryd.prog Tryd.f5 [] false w args ∧ laidMetH Tryd.prog [("loop.example/wholeway/impl.keys", Rows.laid_loop_example_wholeway_impl_keys), ("loop.example/wholeway/impl.opSign", Rows.laid_loop_example_wholeway_impl_opSign)] w) ∧ sizedMet enc Tryd.prog Tryd.f5 (OpenSpec.ofChange Rows.fnCallsSpec) false w args) (Rows.fnCallsSpec.post enc Tryd.prog Tryd.f5 false true false false) := by
  refine returnsInHanded_of_change_and (C := Tryd.checked) (X := fun w _ => laidMetH Tryd.prog [("loop.example/wholeway/impl.keys", Rows.laid_loop_example_wholeway_impl_keys), ("loop.example/wholeway/impl.opSign", Rows.laid_loop_example_wholeway_impl_opSign)] w) (fun _ _ _ hh h => h.of_heap hh) own started (by kernel_rfl) Tryd.func5
    (ChangeSpec.witness_shaped (enc := enc) (C := Tryd.checked) (os := os) (X := fun w _ => laidMetH Tryd.prog [("loop.example/wholeway/impl.keys", Rows.laid_loop_example_wholeway_impl_keys), ("loop.example/wholeway/impl.opSign", Rows.laid_loop_example_wholeway_impl_opSign)] w) false (World.doorLaid Tryd.prog 400 os) #[.slice none 0 0] 8 rfl (World.shaped_of_RefB (by kernel_rfl) (by kernel_rfl)) (by kernel_rfl) (by kernel_rfl) (by kernel_rfl) (door_met os _)) ?_
  intro W base args ds gs before hval0 hW _ _ hL _
  have hval : ∀ (j : Nat) t v, Tryd.f5.params[j]? = some t → args[j]? = some v → Value.okWide Tryd.prog W .any base t v := hval0
  obtain ⟨p, q, hA0, hV, hrest⟩ := id hW
  have hA : DataW.TrodAll enc Tryd.prog W 0 (fun _ => true) true Tryd.f5.params.toList args.toList ds p := hA0
  rw [Tryd.params5] at hA hval
  obtain ⟨v0, d0, rfl, rfl, h0⟩ := trodAll_one hA
  obtain ⟨gv0, gv1, rfl⟩ := two_vars hV
  obtain ⟨a, len, cap, rfl⟩ := okWide_slice Tryd.underlying22 (hval 0 _ v0 rfl rfl)
  obtain ⟨fuel0, hf0⟩ := h0
  obtain ⟨da0, vv, hv0, ha0⟩ := dec_slice Tryd.underlying22 (by kernel_rfl) (by decide) dec_u8 hf0
  simp only [Value.cells, List.cons.injEq, and_true] at hv0
  subst hv0
  have hcall := law_Calls da0 _ W ha0 (tabs_of hL)
  refine hcall.mono fun e W' ⟨he, hb⟩ => ?_
  subst he
  exact ⟨_, rfl, post_true_vars laidO hW (by kernel_rfl) Tryd.underlying4 (by rw [Tryd.params5]; intro t ht; simp only [List.mem_cons, List.not_mem_nil, or_false] at ht; subst ht; exact ⟨by kernel_rfl, of_decide_eq_true (by kernel_rfl)⟩) vars_ok rfl rfl rfl hb⟩

set_option maxRecDepth 100000 in
set_option maxHeartbeats 1000000 in
theorem fnCalls_facts : joinedFacts Tryd.prog 5 Tryd.f5 Rows.fnCallsSpec Rows.fnCallsRow = true := by
  unfold joinedFacts
  exact and_mk (and_mk (and_mk (and_mk (and_mk (and_mk (and_mk (and_mk (and_mk (and_mk (and_mk (and_mk (and_mk (and_mk (and_mk (and_mk (and_mk (and_mk (and_mk (and_mk (and_mk (and_mk (and_mk (and_mk (and_mk (and_mk (and_mk (and_mk (and_mk (and_mk (and_mk (by as_aux_lemma => kernel_rfl) laidO) mapsRowedO) (by as_aux_lemma => kernel_rfl)) (by as_aux_lemma => kernel_rfl)) (by as_aux_lemma => kernel_rfl)) (by as_aux_lemma => kernel_rfl)) (by as_aux_lemma => kernel_rfl)) (by as_aux_lemma => kernel_rfl)) (by as_aux_lemma => kernel_rfl)) (by as_aux_lemma => kernel_rfl)) (by as_aux_lemma => kernel_rfl)) (by as_aux_lemma => kernel_rfl)) (by as_aux_lemma => kernel_rfl)) (by as_aux_lemma => kernel_rfl)) (by as_aux_lemma => kernel_rfl)) (by as_aux_lemma => kernel_rfl)) (by as_aux_lemma => kernel_rfl)) (by as_aux_lemma => kernel_rfl)) (by as_aux_lemma => kernel_rfl)) (by as_aux_lemma => kernel_rfl)) (by as_aux_lemma => kernel_rfl)) (by rw [plainKeysO]; rfl)) (by as_aux_lemma => kernel_rfl)) stopsHeardO) mayEnter) (by rw [liftsFinal]; rfl)) (by rw [makeCut]; rfl)) (by as_aux_lemma => kernel_rfl)) (by as_aux_lemma => kernel_rfl)) (by as_aux_lemma => kernel_rfl)) (by as_aux_lemma => kernel_rfl)

theorem fnCalls_said : Rows.FnCallsSaid :=
  OpenClaim.holds_of_wide 5 Tryd.f5 rfl rfl rfl rfl rfl rfl rfl ⟨rfl, rfl, rfl, rfl, rfl⟩ rfl rfl rfl rfl rfl (by kernel_rfl) Tryd.func5 fnCalls_facts
    (of_decide_eq_true (by kernel_rfl)) (by unfold Func.isWrapper; first | (rw [if_pos (by decide +kernel)]; kernel_rfl) | (rw [if_neg (by decide +kernel)]; exact ⟨rfl, rfl⟩))
    (fun os started H enc _ => fnCalls_lifted os started H enc)

/-- no parameter wants a stand-in -/
theorem fnCalls_plain (f : FuncId) (fn : Func) (hf : Tryd.pinned.checked.prog.funcNamed "loop.example/wholeway/laws.FnCalls" = some f) (hfn : Tryd.pinned.checked.prog.funcs[f]? = some fn) :
    true = Tryd.pinned.checked.prog.looks [] ∧ ∀ (j : Nat) t, fn.params[j]? = some t → Tryd.pinned.checked.prog.wantsStandIn t = false := by
  obtain rfl : f = 5 := Option.some.inj ((show Tryd.prog.funcNamed "loop.example/wholeway/laws.FnCalls" = some 5 by kernel_rfl).symm.trans hf) |>.symm
  obtain rfl : fn = Tryd.f5 := (Option.some.inj (Tryd.func5.symm.trans hfn)).symm
  refine ⟨by kernel_rfl, fun j t ht => ?_⟩
  rw [Tryd.params5] at ht
  have hm : t ∈ [22] := by simpa using Array.mem_of_getElem? ht
  have hall : ([22].all fun u => !Tryd.prog.wantsStandIn u) = true := by kernel_rfl
  exact (show Tryd.prog.wantsStandIn t = false by simpa using List.all_eq_true.1 hall t hm)
theorem fnCalls_holds : Rows.FnCallsCardSaid :=
  Claim7.holds_tied_plain_at .later [] _ _ _ _ fnCalls_said (fun _ h => by cases h) (by kernel_rfl) (fun _ h => by cases h) fnCalls_row_tie rfl ⟨rfl, rfl⟩ (by kernel_rfl) rfl fnCalls_plain (by kernel_rfl)
end Go.Proofs.YtpheoddpkmaidaaDoor
