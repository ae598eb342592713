/-
  The law FnUnitForm: it returns true for all arguments. No condition.
-/
import Derived.Test.YtafembiemaflfaaDrU10
import Derived.Test.YtafembiemaflfaaUnit9
import Derived.Test.YtafembiemaflfaaFacts
import Derived.Test.YtafembiemaflfaaDecL
import Derived.Deep.CutRange
namespace Go.Proofs.Ytafembiemaflfaa
open Go.RowKit Go.ChangeShapes Go.WideShapes Go.Deep
set_option linter.unusedVariables false
set_option linter.unusedSimpArgs false
theorem take_small {codes : List CodeD} (h1 : codes.length ≤ 10) (h2 : ∀ a ∈ codes, codeN a ≤ 10010) (k : Nat) : (codes.take k).length + sumBy codeN (codes.take k) ≤ 1048576 :=
  cods_small (by rw [List.length_take]; omega) (fun a ha => h2 a (List.mem_of_mem_take ha))
theorem cnt_is (codes : List CodeD) : decide (0 ≤ cntU codes) = unitB codes := by
  unfold cntU
  cases h : unitB codes
  · rfl
  · simp
def fiveC : Array Value := #[.int .i64 0, .int .i64 0, .slice none 0 0, .int .i64 0, .int .i64 0, .slice none 0 0, .int .i64 0, .int .i64 0, .slice none 0 0, .int .i64 0, .int .i64 0, .slice none 0 0, .int .i64 0, .int .i64 0, .slice none 0 0]
def fiveD : List CodeD := [⟨0, 0, []⟩, ⟨0, 0, []⟩, ⟨0, 0, []⟩, ⟨0, 0, []⟩, ⟨0, 0, []⟩]
theorem info_code5 : (Try.prog.info? 25).map (fun i => (i.zero, i.size, i.bytes)) = some (some (.agg #[.int .i64 0, .int .i64 0, .slice none 0 0]), 3, 40) := by kernel_rfl
theorem make_five (w : World) : (Instr.makeSlice 37 (.int .i64 5) (.int .i64 5)).run Try.prog w = .ok (.slice (some ⟨w.heap.size, 0, none⟩) 5 5) (w.alloc (.cells fiveC 25)) := by
  obtain ⟨i0, hi, hz0, hz1, hz2⟩ := info_parts info_code5
  have := run_make (P := Try.prog) w 37 25 i0 _ Try.underlying37 hi hz0 .i64 .i64 5 5 (by omega) (by omega) (by rw [hz2]; omega) (by omega)
  rw [hz1] at this
  rw [show madeCells (Value.agg #[.int .i64 0, .int .i64 0, .slice none 0 0]).cells (Int.toNat 5 * 3) = fiveC by kernel_rfl] at this
  exact this
theorem five_sl (w : World) : Sl false (codeS false) (w.alloc (.cells fiveC 25)) w.heap.size (w.alloc (.cells fiveC 25)).heap.size fiveD (.slice (some ⟨w.heap.size, 0, none⟩) 5 5) := by
  refine Sl.of_row (l := fiveD) (Row.new w _ _) (Nat.le_refl _) (by simp) (by decide) (by simp [maxLen]) ?_
  intro i a hi ha
  have hi5 : i < 5 := hi
  have ha5 : a = ⟨0, 0, []⟩ := by
    have : i = 0 ∨ i = 1 ∨ i = 2 ∨ i = 3 ∨ i = 4 := by omega
    rcases this with rfl | rfl | rfl | rfl | rfl <;> (simp [fiveD] at ha; exact ha.symm)
  subst ha5
  refine ⟨[.int .i64 0, .int .i64 0, .slice none 0 0], code_mk false 0 0 [] _ ⟨by omega, by omega⟩ ⟨by omega, by omega⟩ (Sl.nil_ _ _ _ _ _), fun j u hu => ?_⟩
  have hj : j < 3 := by simpa using (List.getElem?_eq_some_iff.1 hu).1
  have h3 : j = 0 ∨ j = 1 ∨ j = 2 := by omega
  have h5 : i = 0 ∨ i = 1 ∨ i = 2 ∨ i = 3 ∨ i = 4 := by omega
  rcases h3 with rfl | rfl | rfl <;> rcases h5 with rfl | rfl | rfl | rfl | rfl <;> exact hu
set_option maxRecDepth 100000 in
set_option maxHeartbeats 4000000 in
theorem law_FnUnitForm (l : List UInt8) (v : Value) (w : World) (hv : Sl false byS w 0 w.heap.size l v) : Calls Try.prog 5 #[v] w (Yes w) := by
  obtain ⟨A0, cap0, rfl, hlc, hcm⟩ := hv.form
  by_cases hbig : 1048576 < l.length
  · have q0 : decide ((1048576 : Int) < (l.length : Int)) = true := by simp; omega
    go_enter Try.func5, Try.ntmps5
    go_wp2_with fail
    go_ret
    exact ⟨rfl, Below.refl _ _⟩
  have q0 : decide ((1048576 : Int) < (l.length : Int)) = false := by simp; omega
  go_enter Try.func5, Try.ntmps5
  go_wp2_with fail
  refine (draw_DrawUnitValid l _ w hv).mono ?_
  rintro e w1 ⟨A, n, c, rfl, hn, ty, b1⟩
  obtain ⟨codes, h10, hNa, ⟨A', cap', eqv⟩, hs⟩ := ty.sl (by omega)
  injection eqv with e1 e2 e3
  subst e2
  clear e1 e3 A' cap' ty hv
  obtain ⟨bC, oC, _, rfl, _, hbC, _⟩ := hs.at_ (show 0 < codes.length by omega)
  have hN := cods_small h10 hNa
  have hcap : codes.length ≤ c ∧ c ≤ 9223372036854775807 := by
    obtain ⟨_, _, ecap, hcap1, hcap2⟩ := hs.form
    injection ecap with _ _ ecap
    omega
  obtain ⟨hcap1, hcap2⟩ := hcap
  go_upto_region 4 with fail
  have RU := Row.new w1 39 #[.slice (some ⟨bC, oC, none⟩) codes.length c]
  have nb : Below w1.heap.size w1 (w1.alloc (.cells #[.slice (some ⟨bC, oC, none⟩) codes.length c] 39)) := (Below.refl _ _).alloc (Nat.le_refl _) _
  have b2 := b1.trans (nb.mono b1.size)
  have hs2 := (hs.below nb (Nat.le_refl _)).more (Nat.le_refl _) nb.size
  have hgu : w.heap.size ≤ w1.heap.size := b1.size
  clear hs nb b1
  generalize w1.alloc (.cells #[.slice (some ⟨bC, oC, none⟩) codes.length c] 39) = w2 at RU b2 hs2 ⊢
  generalize w1.heap.size = gu at RU hgu ⊢
  have y2 : w2.cell? ⟨gu, 0, none⟩ = some (.slice (some ⟨bC, oC, none⟩) codes.length c) := RU.cell 0
  go_wp2_with fail
  refine (impl_UnitValid codes (.slice (some ⟨bC, oC, none⟩) codes.length c) w2 w.heap.size w2.heap.size (Nat.le_refl _) hN hs2).mono ?_
  rintro e w3 ⟨rfl, e3⟩
  have b3 := b2.trans (e3.mono b2.size)
  have RU3 := RU.below e3 RU.lt
  have hs3 := (hs2.below e3 (Nat.le_refl _)).more (Nat.le_refl _) e3.size
  have HV := Lib.hid (cnt_is codes)
  have HT := Lib.hid (fun (k : Nat) => @unitB_take codes k)
  obtain ⟨V, hVe⟩ : ∃ V, unitB codes = V := ⟨_, rfl⟩
  obtain ⟨C, hC⟩ : ∃ C, cntU codes = C := ⟨_, rfl⟩
  have hVC : decide (0 ≤ C) = V := by rw [← hC, ← hVe]; exact HV.out
  have HT2 : Hid (∀ k : Nat, V = true → 0 < k → k ≤ codes.length → unitB (codes.take k) = true) := by
    show ∀ k : Nat, _
    rw [← hVe]
    exact fun k h h1 h2 => unitB_take h h1 h2
  rw [hVe]
  clear HV HT RU y2 hs2 b2 e3
  go_upto_region 5 with fail
  have y3 : w3.cell? ⟨gu, 0, none⟩ = some (.slice (some ⟨bC, oC, none⟩) codes.length c) := RU3.cell 0
  have hVV : (V != V) = false := by simp
  have hCC : (C != C) = false := by simp
  refine wp_region_held_drew (S := fun w' => (w'.cell? ⟨gu, 0, none⟩ = some (.slice (some ⟨bC, oC, none⟩) codes.length c))) (by kernel_rfl) ?_ (fun hHeld => ?_)
  · first | exact y3 | exact y4 | exact y5 | exact y6 | exact y7
  replace RU3 := RU3.drew
  replace b3 : Below w.heap.size w w3.drew := b3.drew
  replace hs3 : Sl false (codeS false) w3.drew w.heap.size w3.drew.heap.size codes (.slice (some ⟨bC, oC, none⟩) codes.length c) := hs3.keep (Nat.le_refl _) (Nat.le_refl _) (fun _ _ _ => rfl)
  replace y3 : w3.drew.cell? ⟨gu, 0, none⟩ = some (.slice (some ⟨bC, oC, none⟩) codes.length c) := RU3.cell 0
  generalize w3.drew = w3 at hHeld RU3 b3 hs3 y3 ⊢
  refine reg_take (i := 0) (v := ?v17) rfl (by kernel_rfl) (by kernel_rfl) (by kernel_rfl) (fun _ _ _ h => h) (Or.inl ⟨by kernel_rfl, ?h17⟩) (by assumption) ?r17
  case h17 => (intro w hSw; (try dsimp only at hSw); go_simp; try with_reducible rfl)
  try simp only [Act.put, List.setIfInBounds_toArray, List.set_cons_zero, List.set_cons_succ]
  refine reg_take (i := 1) (v := ?v18) rfl (by kernel_rfl) (by kernel_rfl) (by kernel_rfl) (fun _ _ _ h => h) (Or.inl ⟨by kernel_rfl, ?h18⟩) (by assumption) ?r18
  case h18 => (intro w hSw; (try dsimp only at hSw); go_simp; try with_reducible rfl)
  try simp only [Act.put, List.setIfInBounds_toArray, List.set_cons_zero, List.set_cons_succ]
  refine reg_call (i := 2) (by kernel_rfl) rfl (fun K hK => ?_)
  go_simp
  refine (spec_UnitValid codes (.slice (some ⟨bC, oC, none⟩) codes.length c) w3 w.heap.size w3.heap.size (Nat.le_refl _) hN hs3).mono ?_
  rintro e w4 ⟨rfl, e4⟩
  have b4 := b3.trans (e4.mono b3.size)
  have RU4 := RU3.below e4 RU3.lt
  have hs4 := (hs3.below e4 (Nat.le_refl _)).more (Nat.le_refl _) e4.size
  have y4 : w4.cell? ⟨gu, 0, none⟩ = some (.slice (some ⟨bC, oC, none⟩) codes.length c) := RU4.cell 0
  rw [hVe]
  refine hK.out _ _ ?_ (fun hHeld => ?_)
  · first | exact y3 | exact y4 | exact y5 | exact y6 | exact y7
  clear hK K
  try simp only [Act.put, List.setIfInBounds_toArray, List.set_cons_zero, List.set_cons_succ]
  refine reg_take (i := 3) (v := ?v20) rfl (by kernel_rfl) (by kernel_rfl) (by kernel_rfl) (fun _ _ _ h => h) (Or.inl ⟨by kernel_rfl, ?h20⟩) (by assumption) ?r20
  case h20 => (intro w hSw; (try dsimp only at hSw); go_simp; try with_reducible rfl)
  try simp only [Act.put, List.setIfInBounds_toArray, List.set_cons_zero, List.set_cons_succ]
  refine reg_take (i := 4) (v := ?v21) rfl (by kernel_rfl) (by kernel_rfl) (by kernel_rfl) (fun _ _ _ h => h) (Or.inl ⟨by kernel_rfl, ?h21⟩) (by assumption) ?r21
  case h21 => (intro w hSw; (try dsimp only at hSw); go_simp; try with_reducible rfl)
  try simp only [Act.put, List.setIfInBounds_toArray, List.set_cons_zero, List.set_cons_succ]
  refine reg_take (i := 5) (v := ?v22) rfl (by kernel_rfl) (by kernel_rfl) (by kernel_rfl) (fun _ _ _ h => h) (Or.inl ⟨by kernel_rfl, ?h22⟩) (by assumption) ?r22
  case h22 => (intro w hSw; (try dsimp only at hSw); go_simp; try with_reducible rfl)
  try simp only [Act.put, List.setIfInBounds_toArray, List.set_cons_zero, List.set_cons_succ]
  refine reg_take (i := 7) (v := ?v23) rfl (by kernel_rfl) (by kernel_rfl) (by kernel_rfl) (fun _ _ _ h => h) (Or.inl ⟨by kernel_rfl, ?h23⟩) (by assumption) ?r23
  case h23 => (intro w hSw; (try dsimp only at hSw); go_simp; try with_reducible rfl)
  try simp only [Act.put, List.setIfInBounds_toArray, List.set_cons_zero, List.set_cons_succ]
  refine reg_call (i := 6) (by kernel_rfl) rfl (fun K hK => ?_)
  go_simp
  refine (impl_InsCount codes (.slice (some ⟨bC, oC, none⟩) codes.length c) w4 w.heap.size w4.heap.size (Nat.le_refl _) hN hs4).mono ?_
  rintro e w5 ⟨rfl, e5⟩
  have b5 := b4.trans (e5.mono b4.size)
  have RU5 := RU4.below e5 RU4.lt
  have hs5 := (hs4.below e5 (Nat.le_refl _)).more (Nat.le_refl _) e5.size
  have y5 : w5.cell? ⟨gu, 0, none⟩ = some (.slice (some ⟨bC, oC, none⟩) codes.length c) := RU5.cell 0
  rw [hC]
  refine hK.out _ _ ?_ (fun hHeld => ?_)
  · first | exact y3 | exact y4 | exact y5 | exact y6 | exact y7
  clear hK K
  try simp only [Act.put, List.setIfInBounds_toArray, List.set_cons_zero, List.set_cons_succ]
  refine reg_call (i := 8) (by kernel_rfl) rfl (fun K hK => ?_)
  go_simp
  refine (spec_InsCount codes (.slice (some ⟨bC, oC, none⟩) codes.length c) w5 w.heap.size w5.heap.size (Nat.le_refl _) hN hs5).mono ?_
  rintro e w6 ⟨rfl, e6⟩
  have b6 := b5.trans (e6.mono b5.size)
  have RU6 := RU5.below e6 RU5.lt
  have hs6 := (hs5.below e6 (Nat.le_refl _)).more (Nat.le_refl _) e6.size
  have y6 : w6.cell? ⟨gu, 0, none⟩ = some (.slice (some ⟨bC, oC, none⟩) codes.length c) := RU6.cell 0
  rw [hC]
  refine hK.out _ _ ?_ (fun hHeld => ?_)
  · first | exact y3 | exact y4 | exact y5 | exact y6 | exact y7
  clear hK K
  try simp only [Act.put, List.setIfInBounds_toArray, List.set_cons_zero, List.set_cons_succ]
  refine reg_take (i := 9) (v := ?v26) rfl (by kernel_rfl) (by kernel_rfl) (by kernel_rfl) (fun _ _ _ h => h) (Or.inl ⟨by kernel_rfl, ?h26⟩) (by assumption) ?r26
  case h26 => (intro w hSw; (try dsimp only at hSw); go_simp; try with_reducible rfl)
  try simp only [Act.put, List.setIfInBounds_toArray, List.set_cons_zero, List.set_cons_succ]
  refine reg_take (i := 10) (v := ?v27) rfl (by kernel_rfl) (by kernel_rfl) (by kernel_rfl) (fun _ _ _ h => h) (Or.inl ⟨by kernel_rfl, ?h27⟩) (by assumption) ?r27
  case h27 => (intro w hSw; (try dsimp only at hSw); go_simp; try with_reducible rfl)
  try simp only [Act.put, List.setIfInBounds_toArray, List.set_cons_zero, List.set_cons_succ]
  refine reg_take (i := 11) (v := ?v28) rfl (by kernel_rfl) (by kernel_rfl) (by kernel_rfl) (fun _ _ _ h => h) (Or.inl ⟨by kernel_rfl, ?h28⟩) (by assumption) ?r28
  case h28 => (intro w hSw; (try dsimp only at hSw); go_simp; try with_reducible rfl)
  try simp only [Act.put, List.setIfInBounds_toArray, List.set_cons_zero, List.set_cons_succ]
  refine reg_take (i := 12) (v := ?v29) rfl (by kernel_rfl) (by kernel_rfl) (by kernel_rfl) (fun _ _ _ h => h) (Or.inl ⟨by kernel_rfl, ?h29⟩) (by assumption) ?r29
  case h29 => (intro w hSw; (try dsimp only at hSw); go_simp; try with_reducible rfl)
  try simp only [Act.put, List.setIfInBounds_toArray, List.set_cons_zero, List.set_cons_succ]
  refine reg_take (i := 15) (v := ?v30) rfl (by kernel_rfl) (by kernel_rfl) (by kernel_rfl) (fun _ _ _ h => h) (Or.inl ⟨by kernel_rfl, ?h30⟩) (by assumption) ?r30
  case h30 => (intro w hSw; (try dsimp only at hSw); go_simp; try with_reducible rfl)
  try simp only [Act.put, List.setIfInBounds_toArray, List.set_cons_zero, List.set_cons_succ]
  refine reg_call (i := 13) (by kernel_rfl) rfl (fun K hK => ?_)
  go_simp
  refine (impl_InsCount codes (.slice (some ⟨bC, oC, none⟩) codes.length c) w6 w.heap.size w6.heap.size (Nat.le_refl _) hN hs6).mono ?_
  rintro e w7 ⟨rfl, e7⟩
  have b7 := b6.trans (e7.mono b6.size)
  have RU7 := RU6.below e7 RU6.lt
  have hs7 := (hs6.below e7 (Nat.le_refl _)).more (Nat.le_refl _) e7.size
  have y7 : w7.cell? ⟨gu, 0, none⟩ = some (.slice (some ⟨bC, oC, none⟩) codes.length c) := RU7.cell 0
  rw [hC]
  refine hK.out _ _ ?_ (fun hHeld => ?_)
  · first | exact y3 | exact y4 | exact y5 | exact y6 | exact y7
  clear hK K
  try simp only [Act.put, List.setIfInBounds_toArray, List.set_cons_zero, List.set_cons_succ]
  refine reg_take (i := 14) (v := ?v32) rfl (by kernel_rfl) (by kernel_rfl) (by kernel_rfl) (fun _ _ _ h => h) (Or.inl ⟨by kernel_rfl, ?h32⟩) (by assumption) ?r32
  case h32 => (intro w hSw; (try dsimp only at hSw); go_simp; try with_reducible rfl)
  try simp only [Act.put, List.setIfInBounds_toArray, List.set_cons_zero, List.set_cons_succ]
  refine reg_take (i := 16) (v := ?v33) rfl (by kernel_rfl) (by kernel_rfl) (by kernel_rfl) (fun _ _ _ h => h) (Or.inl ⟨by kernel_rfl, ?h33⟩) (by assumption) ?r33
  case h33 => (intro w hSw; (try dsimp only at hSw); go_simp; try with_reducible rfl)
  try simp only [Act.put, List.setIfInBounds_toArray, List.set_cons_zero, List.set_cons_succ]
  refine reg_take (i := 17) (v := ?v34) rfl (by kernel_rfl) (by kernel_rfl) (by kernel_rfl) (fun _ _ _ h => h) (Or.inl ⟨by kernel_rfl, ?h34⟩) (by assumption) ?r34
  case h34 => (intro w hSw; (try dsimp only at hSw); go_simp; try with_reducible rfl)
  try simp only [Act.put, List.setIfInBounds_toArray, List.set_cons_zero, List.set_cons_succ]
  refine wpAnyH_done (by kernel_rfl) ?_ _
  clear RU3 RU4 RU5 RU6 b3 b4 b5 b6 hs3 hs4 hs5 hs6 y3 y4 y5 y6 hHeld e4 e5 e6 e7
  go_wp2_with fail
  go_loopw [5] (fun i wr => ∃ k : Nat, 1 ≤ k ∧ k ≤ codes.length ∧ i = .int .i64 (k : Int) ∧ Below w7.heap.size w7 wr) (fun i _ => codes.length - (intOf i).toNat)
  case atStart => exact ⟨1, by omega, by omega, rfl, Below.refl _ _⟩
  case round =>
    obtain ⟨k, hk1, hk, rfl, hbr⟩ := hrel
    have yr : wr.cell? ⟨gu, 0, none⟩ = some (.slice (some ⟨bC, oC, none⟩) codes.length c) := (RU7.below hbr RU7.lt).cell 0
    by_cases hkn : k < codes.length
    case pos =>
      have hk2 : (k : Int) < (codes.length : Int) := by omega
      cases V with
      | false =>
        go_wp2_with fail
        go_roundw
        case rel => exact ⟨k + 1, by omega, by omega, by go_num, hbr⟩
        case measure => simp [intOf]; omega
      | true =>
        have hT := HT2.out k rfl (by omega) (by omega)
        go_wp2_with fail
        refine (impl_UnitValid (codes.take k) _ wr w.heap.size w7.heap.size hbr.size (take_small h10 hNa _) ((hs7.below hbr (Nat.le_refl _)).take_ k (by omega))).mono ?_
        rintro e w8 ⟨rfl, e8⟩
        rw [hT]
        clear hT
        go_wp2_with fail
        go_roundw
        case rel => exact ⟨k + 1, by omega, by omega, by go_num, hbr.trans (e8.mono hbr.size)⟩
        case measure => simp [intOf]; omega
    have hk2 : ¬ (k : Int) < (codes.length : Int) := by omega
    have b8 := b7.trans (hbr.mono b7.size)
    clear hs7 RU7 y7 hbr HT2 b7
    go_upto_region 13 with fail
    have RN := Row.new wr 39 #[.slice none 0 0]
    have b9 : Below w.heap.size w (wr.alloc (.cells #[.slice none 0 0] 39)) := b8.alloc b8.size _
    clear b8 yr
    generalize wr.alloc (.cells #[.slice none 0 0] 39) = wm at RN b9 ⊢
    generalize wr.heap.size = gn at RN ⊢
    have hmk := make_five wm
    have RF := Row.new wm 25 fiveC
    have hsf := five_sl wm
    have b10 : Below w.heap.size w (wm.alloc (.cells fiveC 25)) := b9.alloc b9.size _
    have RN2 := RN.alloc (.cells fiveC 25)
    go_upto_region 14 with fail
    clear hmk
    have hwf : (wm.alloc (.cells fiveC 25)).heap.size = wm.heap.size + 1 := by simp
    generalize wm.alloc (.cells fiveC 25) = wf at RN2 hsf b10 RF hwf ⊢
    have R5 := Row.new wf 39 #[.slice (some ⟨wm.heap.size, 0, none⟩) 5 5]
    have nb : Below wf.heap.size wf (wf.alloc (.cells #[.slice (some ⟨wm.heap.size, 0, none⟩) 5 5] 39)) := (Below.refl _ _).alloc (Nat.le_refl _) _
    have RN3 := RN2.below nb RN2.lt
    have hsf2 := (hsf.below nb (Nat.le_refl _)).more (Nat.zero_le _) nb.size
    have b11 := b10.trans (nb.mono b10.size)
    clear RN RN2 RF hsf nb b10 b9
    generalize wf.alloc (.cells #[.slice (some ⟨wm.heap.size, 0, none⟩) 5 5] 39) = wz at R5 RN3 hsf2 b11 ⊢
    rw [hwf] at R5
    have yn : wz.cell? ⟨gn, 0, none⟩ = some (.slice none 0 0) := RN3.cell 0
    go_wp2_with fail
    refine (impl_UnitValid [] (.slice none 0 0) wz 0 wz.heap.size (Nat.le_refl _) (by decide) (Sl.nil_ _ _ _ _ _)).mono ?_
    rintro e w8 ⟨rfl, e8⟩
    rw [unitB_none]
    have y5 : w8.cell? ⟨wm.heap.size + 1, 0, none⟩ = some (.slice (some ⟨wm.heap.size, 0, none⟩) 5 5) := (R5.below e8 R5.lt).cell 0
    clear yn
    go_wp2_with fail
    refine (impl_UnitValid fiveD (.slice (some ⟨wm.heap.size, 0, none⟩) 5 5) w8 0 wz.heap.size e8.size (by decide) (hsf2.below e8 (Nat.le_refl _))).mono ?_
    rintro e w9 ⟨rfl, e9⟩
    rw [unitB_many (show 4 < fiveD.length by decide)]
    go_wp2_with fail
    go_ret
    exact ⟨rfl, (b11.trans (e8.mono b11.size)).trans (e9.mono (Nat.le_trans b11.size e8.size))⟩

set_option maxRecDepth 100000 in
theorem fnUnitForm_lifted (os : Os) (started : os.Started) (H : Type) (enc : TypeId × Value → H) :
    ReturnsInHanded {} Try.checked os 5 .any (Rows.fnUnitFormSpec.pre6 enc Try.prog Try.f5 Rows.fnUnitFormRow.domain false) (Rows.fnUnitFormSpec.post enc Try.prog Try.f5 false true false false) := by
  refine returnsInHanded_of_change (C := Try.checked) own started (by kernel_rfl) Try.func5
    (ChangeSpec.witness6 (enc := enc) (C := Try.checked) false ⟨#[], #[.slice none 0 0], []⟩ 8 (by kernel_rfl) (by kernel_rfl) (by kernel_rfl) (by kernel_rfl)) ?_
  intro W base args ds gs before hval0 hW hcnd _
  have hval : ∀ (j : Nat) t v, Try.f5.params[j]? = some t → args[j]? = some v → Value.okWide Try.prog W .any base t v := hval0
  obtain ⟨p, q, hA0, hV, hrest⟩ := id hW
  have hA : DataW.TrodAll enc Try.prog W 0 (fun _ => true) true Try.f5.params.toList args.toList ds p := hA0
  rw [Try.params5] at hA hval
  obtain ⟨v0, d0, rfl, rfl, h0⟩ := trodAll_one hA
  obtain ⟨rfl, rfl⟩ := trodVars_none hV
  obtain ⟨a, len, cap, rfl⟩ := okWide_slice Try.underlying22 (hval 0 _ v0 rfl rfl)
  obtain ⟨fuel0, hf0⟩ := h0
  obtain ⟨da0, vv, hv0, ha0⟩ := dec_slice Try.underlying22 (by kernel_rfl) (by decide) dec_u8 hf0
  simp only [Value.cells, List.cons.injEq, and_true] at hv0
  subst hv0
  have hcall := law_FnUnitForm da0 _ W ha0
  refine hcall.mono fun e W' ⟨he, hb⟩ => ?_
  subst he
  exact ⟨_, rfl, post_true laidO hW rfl (by kernel_rfl) Try.underlying4 (by rw [Try.params5]; intro t ht; simp only [List.mem_cons, List.not_mem_nil, or_false] at ht; subst ht; exact ⟨by kernel_rfl, of_decide_eq_true (by kernel_rfl)⟩) rfl rfl rfl hb⟩

set_option maxRecDepth 100000 in
set_option maxHeartbeats 1000000 in
theorem fnUnitForm_facts : joinedFacts Try.prog 5 Try.f5 Rows.fnUnitFormSpec Rows.fnUnitFormRow = true := by
  unfold joinedFacts
  exact and_mk (and_mk (and_mk (and_mk (and_mk (and_mk (and_mk (and_mk (and_mk (and_mk (and_mk (and_mk (and_mk (and_mk (and_mk (and_mk (and_mk (and_mk (and_mk (and_mk (and_mk (and_mk (and_mk (and_mk (and_mk (and_mk (and_mk (and_mk (and_mk (and_mk (and_mk (by as_aux_lemma => kernel_rfl) laidO) mapsRowedO) (by as_aux_lemma => kernel_rfl)) (by as_aux_lemma => kernel_rfl)) (by as_aux_lemma => kernel_rfl)) (by as_aux_lemma => kernel_rfl)) (by as_aux_lemma => kernel_rfl)) (by as_aux_lemma => kernel_rfl)) (by as_aux_lemma => kernel_rfl)) (by as_aux_lemma => kernel_rfl)) (by as_aux_lemma => kernel_rfl)) (by as_aux_lemma => kernel_rfl)) (by as_aux_lemma => kernel_rfl)) (by as_aux_lemma => kernel_rfl)) (by as_aux_lemma => kernel_rfl)) (by as_aux_lemma => kernel_rfl)) (by as_aux_lemma => kernel_rfl)) (by as_aux_lemma => kernel_rfl)) (by as_aux_lemma => kernel_rfl)) (by as_aux_lemma => kernel_rfl)) (by as_aux_lemma => kernel_rfl)) (by rw [plainKeysO]; rfl)) (by as_aux_lemma => kernel_rfl)) stopsHeardO) mayEnter) (by rw [liftsFinal]; rfl)) (by rw [makeCut]; rfl)) (by as_aux_lemma => kernel_rfl)) (by as_aux_lemma => kernel_rfl)) (by as_aux_lemma => kernel_rfl)) (by as_aux_lemma => kernel_rfl)

theorem fnUnitForm_holds : Rows.FnUnitFormSaid :=
  OpenClaim.holds_of_wide 5 Try.f5 rfl rfl rfl rfl rfl rfl rfl ⟨rfl, rfl, rfl, rfl, rfl⟩ rfl rfl rfl rfl rfl (by kernel_rfl) Try.func5 fnUnitForm_facts
    (of_decide_eq_true (by kernel_rfl)) (by unfold Func.isWrapper; first | (rw [if_pos (by decide +kernel)]; kernel_rfl) | (rw [if_neg (by decide +kernel)]; exact ⟨rfl, rfl⟩))
    (fun os started H enc _ => fnUnitForm_lifted os started H enc)
end Go.Proofs.Ytafembiemaflfaa
