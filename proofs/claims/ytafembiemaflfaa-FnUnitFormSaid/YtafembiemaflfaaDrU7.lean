/-
  The copy of a block: l7CopyBlock. Condition: the block's memory goes by types.
-/
import Derived.Test.YtafembiemaflfaaDrU6
namespace Go.Proofs.Ytafembiemaflfaa
open Go.RowKit Go.ChangeShapes Go.WideShapes Go.Deep
variable {D : Nat}
set_option linter.unusedVariables false
set_option linter.unusedSimpArgs false
/-- what a copy answers: a value of new blocks; all old ones are as they were -/
def CpP (T : World → Value → Prop) (w : World) (e : Ending) (w' : World) : Prop := ∃ v, e = .returned v ∧ T w' v ∧ Below w.heap.size w w'
def BlkV (D lo : Nat) (w : World) (v : Value) : Prop := ∃ (A0 : Option Addr) (n0 c0 : Nat) (A1 : Option Addr) (n1 c1 : Nat) (jp on : Int) (A4 : Option Addr) (n4 c4 : Nat), v = .agg #[.slice A0 n0 c0, .slice A1 n1 c1, .int .i64 jp, .int .i64 on, .slice A4 n4 c4] ∧ TyPhis D lo w (.slice A0 n0 c0) ∧ TyInss D lo w (.slice A1 n1 c1) ∧ I64 jp ∧ I64 on ∧ TyI D lo w (.slice A4 n4 c4)
theorem copy_leaf {w wd : World} {gb : Nat} {x0 x1 x2 x3 x4 u0 u1 : Value} {jp on : Int} {A16 : Option Addr} {n16 c16 : Nat} {bb zz : Array Value} (Rg : Row wd gb 34 #[x0, x1, x2, x3, x4]) (tn : TyI D w.heap.size wd (.slice A16 n16 c16)) (Rb : Row wd w.heap.size 34 bb) (RR : Row wd (w.heap.size + 1) 34 zz) (hbl : Below w.heap.size w wd) (hgb : w.heap.size + 1 < gb) :
    Row (set5 wd gb u0 u1 (.int .i64 jp) (.int .i64 on) (.slice A16 n16 c16)) gb 34 #[u0, u1, .int .i64 jp, .int .i64 on, .slice A16 n16 c16] ∧ TyI D w.heap.size (set5 wd gb u0 u1 (.int .i64 jp) (.int .i64 on) (.slice A16 n16 c16)) (.slice A16 n16 c16) ∧ Row (set5 wd gb u0 u1 (.int .i64 jp) (.int .i64 on) (.slice A16 n16 c16)) w.heap.size 34 bb ∧ Row (set5 wd gb u0 u1 (.int .i64 jp) (.int .i64 on) (.slice A16 n16 c16)) (w.heap.size + 1) 34 zz ∧ Below w.heap.size w (set5 wd gb u0 u1 (.int .i64 jp) (.int .i64 on) (.slice A16 n16 c16)) :=
  ⟨row_set5 Rg _ _ _ _ _, TyI.far tn (fun b cur Rb' => heap_set5 (fun e => row_ne Rb' (e ▸ Rg) (by decide)) _ _ _ _ _), row_far5 Rb (by omega) _ _ _ _ _, row_far5 RR (by omega) _ _ _ _ _, below_set5 hbl (by omega) _ _ _ _ _⟩
theorem OK.blkInss {lo : Nat} {w : World} {j : Nat} {v : Value} (hj : j % 5 = 1) (h : TyInss D lo w v) : OK D lo w 34 j v := Or.inr (Or.inr (Or.inr (Or.inl ⟨rfl, by unfold BlkP; rw [if_neg (by omega), if_pos hj]; exact h⟩)))
theorem copy_fin {w wr : World} {rb : Nat} {z0 z1 z2 z3 z4 : Value} {A7 A8 A16 : Option Addr} {n7 c7 n8 c8 n16 c16 : Nat} {jp on : Int} (hrb : w.heap.size ≤ rb) (RR : Row wr rb 34 #[z0, z1, z2, z3, z4]) (ti : TyInss D w.heap.size wr (.slice A8 n8 c8)) (tn : TyI D w.heap.size wr (.slice A16 n16 c16)) (tp : TyPhis D w.heap.size wr (.slice A7 n7 c7)) (hj : I64 jp) (ho : I64 on) (hbl : Below w.heap.size w wr) :
    CpP (fun w' v => BlkV D w.heap.size w' v) w (.returned (.agg #[.slice A7 n7 c7, .slice A8 n8 c8, .int .i64 jp, .int .i64 on, .slice A16 n16 c16])) (set5 wr rb (.slice A7 n7 c7) (.slice A8 n8 c8) (.int .i64 jp) (.int .i64 on) (.slice A16 n16 c16)) := by
  have R0 := RR.set_ 0 (.slice A7 n7 c7)
  have R1 := R0.set_ 1 (.slice A8 n8 c8)
  have R2 := R1.set_ 2 (.int .i64 jp)
  have R3 := R2.set_ 3 (.int .i64 on)
  have ch0 : Chg D w.heap.size wr _ := Chg.set (j := 0) RR (OK.blkPhis rfl tp)
  have ti0 := ti.keep ch0
  have tn0 := tn.keep ch0
  have tp0 := tp.keep ch0
  have ch1 : Chg D w.heap.size _ _ := Chg.set (j := 1) R0 (OK.blkInss rfl ti0)
  have ti1 := ti0.keep ch1
  have tn1 := tn0.keep ch1
  have tp1 := tp0.keep ch1
  have ch2 : Chg D w.heap.size _ _ := Chg.set (j := 2) R1 (OK.blkInt (by decide) (by decide) (by decide) hj)
  have ch3 : Chg D w.heap.size _ _ := Chg.set (j := 3) R2 (OK.blkInt (by decide) (by decide) (by decide) ho)
  have tn3 := (tn1.keep ch2).keep ch3
  have ch4 : Chg D w.heap.size _ _ := Chg.set R3 (OK.blkI tn3)
  exact ⟨_, rfl, ⟨A7, n7, c7, A8, n8, c8, jp, on, A16, n16, c16, rfl, ((tp1.keep ch2).keep ch3).keep ch4, ((ti1.keep ch2).keep ch3).keep ch4, hj, ho, tn3.keep ch4⟩, below_set5 hbl hrb _ _ _ _ _⟩
set_option maxRecDepth 100000 in
set_option maxHeartbeats 8000000 in
theorem copyblk_ok (lo : Nat) (w : World) (hD : D ≤ 6) (A0 : Option Addr) (n0 c0 : Nat) (A1 : Option Addr) (n1 c1 : Nat) (jp on : Int) (A4 : Option Addr) (n4 c4 : Nat) (tp : TyPhis D lo w (.slice A0 n0 c0)) (ti : TyInss D lo w (.slice A1 n1 c1)) (hj : I64 jp) (ho : I64 on) (tv : TyI D lo w (.slice A4 n4 c4)) :
    Calls Try.prog 70 #[.agg #[.slice A0 n0 c0, .slice A1 n1 c1, .int .i64 jp, .int .i64 on, .slice A4 n4 c4]] w (CpP (fun w' v => BlkV D w.heap.size w' v) w) := by
  go_enter Try.func70, Try.ntmps70
  go_upto_region 1 with fail
  have hbl : Below w.heap.size w ((w.alloc (.cells #[.slice A0 n0 c0, .slice A1 n1 c1, .int .i64 jp, .int .i64 on, .slice A4 n4 c4] 34)).alloc (.cells #[.slice none 0 0, .slice none 0 0, .int .i64 0, .int .i64 0, .slice none 0 0] 34)) := ((Below.refl _ w).alloc (Nat.le_refl _) _).alloc (by simp) _
  have Rb : Row ((w.alloc (.cells #[.slice A0 n0 c0, .slice A1 n1 c1, .int .i64 jp, .int .i64 on, .slice A4 n4 c4] 34)).alloc (.cells #[.slice none 0 0, .slice none 0 0, .int .i64 0, .int .i64 0, .slice none 0 0] 34)) w.heap.size 34 #[.slice A0 n0 c0, .slice A1 n1 c1, .int .i64 jp, .int .i64 on, .slice A4 n4 c4] := (Row.new w _ _).alloc _
  have RR : Row ((w.alloc (.cells #[.slice A0 n0 c0, .slice A1 n1 c1, .int .i64 jp, .int .i64 on, .slice A4 n4 c4] 34)).alloc (.cells #[.slice none 0 0, .slice none 0 0, .int .i64 0, .int .i64 0, .slice none 0 0] 34)) (w.heap.size + 1) 34 #[.slice none 0 0, .slice none 0 0, .int .i64 0, .int .i64 0, .slice none 0 0] := by simpa using Row.new (w.alloc (.cells #[.slice A0 n0 c0, .slice A1 n1 c1, .int .i64 jp, .int .i64 on, .slice A4 n4 c4] 34)) 34 #[.slice none 0 0, .slice none 0 0, .int .i64 0, .int .i64 0, .slice none 0 0]
  generalize (w.alloc (.cells #[.slice A0 n0 c0, .slice A1 n1 c1, .int .i64 jp, .int .i64 on, .slice A4 n4 c4] 34)).alloc (.cells #[.slice none 0 0, .slice none 0 0, .int .i64 0, .int .i64 0, .slice none 0 0] 34) = w1 at hbl Rb RR ⊢
  go_cut [3] from 7 (fun v wx => ∃ (gb : Nat) (A7 A8 A16 : Option Addr) (n16 c16 : Nat), v = .pointer (some ⟨gb, 0, none⟩) ∧ w.heap.size + 1 < gb ∧ Row wx gb 34 #[.slice A7 0 0, .slice A8 0 0, .int .i64 jp, .int .i64 on, .slice A16 n16 c16] ∧ TyI D w.heap.size wx (.slice A16 n16 c16) ∧ Row wx w.heap.size 34 #[.slice A0 n0 c0, .slice A1 n1 c1, .int .i64 jp, .int .i64 on, .slice A4 n4 c4] ∧ Row wx (w.heap.size + 1) 34 #[.slice none 0 0, .slice none 0 0, .int .i64 0, .int .i64 0, .slice none 0 0] ∧ Below w.heap.size w wx)
  case first =>
    refine wp_region_held_drew (S := fun w' => (w'.cell? ⟨w.heap.size, 2, none⟩ = some (.int .i64 jp) ∧ w'.cell? ⟨w.heap.size, 3, none⟩ = some (.int .i64 on) ∧ w'.cell? ⟨w.heap.size, 4, none⟩ = some (.slice A4 n4 c4))) (by kernel_rfl) ?_ (fun hHeld => ?_)
    · exact ⟨Rb.cell 2, Rb.cell 3, Rb.cell 4⟩
    replace hbl : Below w.heap.size w w1.drew := hbl.drew
    replace Rb := Rb.drew
    replace RR := RR.drew
    generalize w1.drew = wd at hHeld hbl Rb RR ⊢
    refine reg_take (i := 2) (v := ?v17) rfl (by kernel_rfl) (by kernel_rfl) (by kernel_rfl) (fun _ _ _ h => h) (Or.inl ⟨by kernel_rfl, ?h17⟩) (by assumption) ?r17
    case h17 => (intro w hSw; (try dsimp only at hSw); go_simp; try with_reducible rfl)
    try simp only [Act.put, List.setIfInBounds_toArray, List.set_cons_zero, List.set_cons_succ]
    refine reg_take (i := 3) (v := ?v18) rfl (by kernel_rfl) (by kernel_rfl) (by kernel_rfl) (fun _ _ _ h => h) (Or.inl ⟨by kernel_rfl, ?h18⟩) (by assumption) ?r18
    case h18 => (intro w hSw; (try dsimp only at hSw); go_simp; try with_reducible rfl)
    try simp only [Act.put, List.setIfInBounds_toArray, List.set_cons_zero, List.set_cons_succ]
    refine reg_take (i := 4) (v := ?v19) rfl (by kernel_rfl) (by kernel_rfl) (by kernel_rfl) (fun _ _ _ h => h) (Or.inl ⟨by kernel_rfl, ?h19⟩) (by assumption) ?r19
    case h19 => (intro w hSw; (try dsimp only at hSw); go_simp; try with_reducible rfl)
    try simp only [Act.put, List.setIfInBounds_toArray, List.set_cons_zero, List.set_cons_succ]
    refine reg_take (i := 5) (v := ?v20) rfl (by kernel_rfl) (by kernel_rfl) (by kernel_rfl) (fun _ _ _ h => h) (Or.inl ⟨by kernel_rfl, ?h20⟩) (by assumption) ?r20
    case h20 => (intro w hSw; (try dsimp only at hSw); go_simp; try with_reducible rfl)
    try simp only [Act.put, List.setIfInBounds_toArray, List.set_cons_zero, List.set_cons_succ]
    refine reg_take (i := 7) (v := ?v21) rfl (by kernel_rfl) (by kernel_rfl) (by kernel_rfl) (fun _ _ _ h => h) (Or.inl ⟨by kernel_rfl, ?h21⟩) (by assumption) ?r21
    case h21 => (intro w hSw; (try dsimp only at hSw); go_simp; try with_reducible rfl)
    try simp only [Act.put, List.setIfInBounds_toArray, List.set_cons_zero, List.set_cons_succ]
    refine reg_take (i := 8) (v := ?v22) rfl (by kernel_rfl) (by kernel_rfl) (by kernel_rfl) (fun _ _ _ h => h) (Or.inl ⟨by kernel_rfl, ?h22⟩) (by assumption) ?r22
    case h22 => (intro w hSw; (try dsimp only at hSw); go_simp; try with_reducible rfl)
    try simp only [Act.put, List.setIfInBounds_toArray, List.set_cons_zero, List.set_cons_succ]
    refine reg_call4 (i := 0) (j := 1) (k := 6) (l := 11) (by kernel_rfl) rfl rfl rfl rfl (fun K hK => ?_) (fun K hK => ?_) (fun K hK => ?_) (fun K hK => ?_)
    · go_simp
      have nb := (Below.refl wd.heap.size wd).alloc (Nat.le_refl _) (.cells #[] 68)
      replace hbl : Below w.heap.size w (wd.alloc (.cells #[] 68)) := hbl.trans (nb.mono hbl.size)
      replace Rb := Rb.below nb Rb.lt
      replace RR := RR.below nb RR.lt
      clear nb
      generalize wd.alloc (.cells #[] 68) = wd at hbl Rb RR ⊢
      refine hK.out _ _ ?_ (fun hHeld => ?_)
      · exact ⟨Rb.cell 2, Rb.cell 3, Rb.cell 4⟩
      clear hK K
      try simp only [Act.put, List.setIfInBounds_toArray, List.set_cons_zero, List.set_cons_succ]
      refine reg_call3 (i := 1) (j := 6) (k := 11) (by kernel_rfl) rfl rfl rfl (fun K hK => ?_) (fun K hK => ?_) (fun K hK => ?_)
      · go_simp
        have nb := (Below.refl wd.heap.size wd).alloc (Nat.le_refl _) (.cells #[] 44)
        replace hbl : Below w.heap.size w (wd.alloc (.cells #[] 44)) := hbl.trans (nb.mono hbl.size)
        replace Rb := Rb.below nb Rb.lt
        replace RR := RR.below nb RR.lt
        clear nb
        generalize wd.alloc (.cells #[] 44) = wd at hbl Rb RR ⊢
        refine hK.out _ _ ?_ (fun hHeld => ?_)
        · exact ⟨Rb.cell 2, Rb.cell 3, Rb.cell 4⟩
        clear hK K
        try simp only [Act.put, List.setIfInBounds_toArray, List.set_cons_zero, List.set_cons_succ]
        refine reg_call2 (i := 6) (j := 11) (by kernel_rfl) rfl rfl (fun K hK => ?_) (fun K hK => ?_)
        · go_simp
          have nb := (Below.refl wd.heap.size wd).alloc (Nat.le_refl _) (.cells #[] 3)
          obtain ⟨a6, ha6⟩ : ∃ x, x = wd.heap.size := ⟨_, rfl⟩
          rw [← ha6]
          clear ha6
          replace hbl : Below w.heap.size w (wd.alloc (.cells #[] 3)) := hbl.trans (nb.mono hbl.size)
          replace Rb := Rb.below nb Rb.lt
          replace RR := RR.below nb RR.lt
          clear nb
          generalize wd.alloc (.cells #[] 3) = wd at hbl Rb RR ⊢
          refine hK.out _ _ ?_ (fun hHeld => ?_)
          · exact ⟨Rb.cell 2, Rb.cell 3, Rb.cell 4⟩
          clear hK K
          try simp only [Act.put, List.setIfInBounds_toArray, List.set_cons_zero, List.set_cons_succ]
          refine reg_call2 (i := 9) (j := 11) (by kernel_rfl) rfl rfl (fun K hK => ?_) (fun K hK => ?_)
          · obtain ⟨A16, n16, c16, wq, r9, tn, nb⟩ := append_ints wd lo w.heap.size ⟨a6, 0, none⟩ A4 n4 c4 (tv.keep (Chg.below hbl)) hbl.size (by omega)
            rw [if_pos (show Region.wanted _ _ = true by kernel_rfl)]
            refine Lib.wp_append_run_sl _ _ _ 28 rfl _ _ rfl rfl r9 ?_
            clear r9
            replace hbl : Below w.heap.size w wq := hbl.trans (nb.mono hbl.size)
            replace Rb := Rb.below nb Rb.lt
            replace RR := RR.below nb RR.lt
            clear nb
            obtain ⟨wd, hwd⟩ : ∃ x, x = wq := ⟨_, rfl⟩
            subst hwd
            refine hK.out _ _ ?_ (fun hHeld => ?_)
            · exact ⟨Rb.cell 2, Rb.cell 3, Rb.cell 4⟩
            clear hK K
            try simp only [Act.put, List.setIfInBounds_toArray, List.set_cons_zero, List.set_cons_succ]
            refine reg_take (i := 10) (v := ?v23) rfl (by kernel_rfl) (by kernel_rfl) (by kernel_rfl) (fun _ _ _ h => h) (Or.inl ⟨by kernel_rfl, ?h23⟩) (by assumption) ?r23
            case h23 => (intro w hSw; (try dsimp only at hSw); go_simp; try with_reducible rfl)
            try simp only [Act.put, List.setIfInBounds_toArray, List.set_cons_zero, List.set_cons_succ]
            refine reg_call (i := 11) (by kernel_rfl) rfl (fun K hK => ?_)
            go_simp
            have nb := (Below.refl wd.heap.size wd).alloc (Nat.le_refl _) (.cells #[.slice none 0 0, .slice none 0 0, .int .i64 0, .int .i64 0, .slice none 0 0] 34)
            have Rg := Row.new wd 34 #[.slice none 0 0, .slice none 0 0, .int .i64 0, .int .i64 0, .slice none 0 0]
            have hgb : w.heap.size + 1 < wd.heap.size := RR.lt
            replace hbl : Below w.heap.size w (wd.alloc (.cells #[.slice none 0 0, .slice none 0 0, .int .i64 0, .int .i64 0, .slice none 0 0] 34)) := hbl.trans (nb.mono hbl.size)
            replace Rb := Rb.below nb Rb.lt
            replace RR := RR.below nb RR.lt
            replace tn := tn.keep (Chg.below (lo := w.heap.size) nb)
            clear nb
            generalize hgbv : wd.heap.size = gb at Rg hgb ⊢
            clear hgbv
            generalize wd.alloc (.cells #[.slice none 0 0, .slice none 0 0, .int .i64 0, .int .i64 0, .slice none 0 0] 34) = wd at hbl Rb RR tn Rg ⊢
            refine hK.out _ _ ?_ (fun hHeld => ?_)
            · exact ⟨Rb.cell 2, Rb.cell 3, Rb.cell 4⟩
            clear hK K
            try simp only [Act.put, List.setIfInBounds_toArray, List.set_cons_zero, List.set_cons_succ]
            refine reg_call (i := 12) (by kernel_rfl) rfl (fun K hK => ?_)
            rw [if_pos (show Region.wanted _ _ = true by kernel_rfl)]
            refine wp_store_mid 34 _ _ rfl gb 0 #[.slice (some ⟨_, 0, none⟩) 0 0, .slice (some ⟨_, 0, none⟩) 0 0, .int .i64 jp, .int .i64 on, .slice A16 n16 c16] rfl rfl (row_there Rg 5 (by decide)) size_block (by simp [Value.oneCell']) ?_
            rw [set5_eq]
            refine hK.out _ _ ?_ (fun hHeld => ?_)
            · exact ⟨(row_far5 Rb (by omega) _ _ _ _ _).cell 2, (row_far5 Rb (by omega) _ _ _ _ _).cell 3, (row_far5 Rb (by omega) _ _ _ _ _).cell 4⟩
            clear hK K
            try simp only [Act.put, List.setIfInBounds_toArray, List.set_cons_zero, List.set_cons_succ]
            refine wpAnyH_done (by kernel_rfl) ?_ _
            go_wp2_with fail
            go_meet
            exact ⟨gb, _, _, A16, n16, c16, rfl, hgb, copy_leaf Rg tn Rb RR hbl hgb⟩
          go_simp
          have nb := (Below.refl wd.heap.size wd).alloc (Nat.le_refl _) (.cells #[.slice none 0 0, .slice none 0 0, .int .i64 0, .int .i64 0, .slice none 0 0] 34)
          have Rg := Row.new wd 34 #[.slice none 0 0, .slice none 0 0, .int .i64 0, .int .i64 0, .slice none 0 0]
          have hgb : w.heap.size + 1 < wd.heap.size := RR.lt
          replace hbl : Below w.heap.size w (wd.alloc (.cells #[.slice none 0 0, .slice none 0 0, .int .i64 0, .int .i64 0, .slice none 0 0] 34)) := hbl.trans (nb.mono hbl.size)
          replace Rb := Rb.below nb Rb.lt
          replace RR := RR.below nb RR.lt
          clear nb
          generalize hgbv : wd.heap.size = gb at Rg hgb ⊢
          clear hgbv
          generalize wd.alloc (.cells #[.slice none 0 0, .slice none 0 0, .int .i64 0, .int .i64 0, .slice none 0 0] 34) = wd at hbl Rb RR Rg ⊢
          refine hK.out _ _ ?_ (fun hHeld => ?_)
          · exact ⟨Rb.cell 2, Rb.cell 3, Rb.cell 4⟩
          clear hK K
          try simp only [Act.put, List.setIfInBounds_toArray, List.set_cons_zero, List.set_cons_succ]
          refine reg_call (i := 9) (by kernel_rfl) rfl (fun K hK => ?_)
          obtain ⟨A16, n16, c16, wq, r9, tn, nb⟩ := append_ints wd lo w.heap.size ⟨a6, 0, none⟩ A4 n4 c4 (tv.keep (Chg.below hbl)) hbl.size (by omega)
          rw [if_pos (show Region.wanted _ _ = true by kernel_rfl)]
          refine Lib.wp_append_run_sl _ _ _ 28 rfl _ _ rfl rfl r9 ?_
          clear r9
          replace hbl : Below w.heap.size w wq := hbl.trans (nb.mono hbl.size)
          replace Rb := Rb.below nb Rb.lt
          replace RR := RR.below nb RR.lt
          replace Rg := Rg.below nb Rg.lt
          clear nb
          obtain ⟨wd, hwd⟩ : ∃ x, x = wq := ⟨_, rfl⟩
          subst hwd
          refine hK.out _ _ ?_ (fun hHeld => ?_)
          · exact ⟨Rb.cell 2, Rb.cell 3, Rb.cell 4⟩
          clear hK K
          try simp only [Act.put, List.setIfInBounds_toArray, List.set_cons_zero, List.set_cons_succ]
          refine reg_take (i := 10) (v := ?v24) rfl (by kernel_rfl) (by kernel_rfl) (by kernel_rfl) (fun _ _ _ h => h) (Or.inl ⟨by kernel_rfl, ?h24⟩) (by assumption) ?r24
          case h24 => (intro w hSw; (try dsimp only at hSw); go_simp; try with_reducible rfl)
          try simp only [Act.put, List.setIfInBounds_toArray, List.set_cons_zero, List.set_cons_succ]
          refine reg_call (i := 12) (by kernel_rfl) rfl (fun K hK => ?_)
          rw [if_pos (show Region.wanted _ _ = true by kernel_rfl)]
          refine wp_store_mid 34 _ _ rfl gb 0 #[.slice (some ⟨_, 0, none⟩) 0 0, .slice (some ⟨_, 0, none⟩) 0 0, .int .i64 jp, .int .i64 on, .slice A16 n16 c16] rfl rfl (row_there Rg 5 (by decide)) size_block (by simp [Value.oneCell']) ?_
          rw [set5_eq]
          refine hK.out _ _ ?_ (fun hHeld => ?_)
          · exact ⟨(row_far5 Rb (by omega) _ _ _ _ _).cell 2, (row_far5 Rb (by omega) _ _ _ _ _).cell 3, (row_far5 Rb (by omega) _ _ _ _ _).cell 4⟩
          clear hK K
          try simp only [Act.put, List.setIfInBounds_toArray, List.set_cons_zero, List.set_cons_succ]
          refine wpAnyH_done (by kernel_rfl) ?_ _
          go_wp2_with fail
          go_meet
          exact ⟨gb, _, _, A16, n16, c16, rfl, hgb, copy_leaf Rg tn Rb RR hbl hgb⟩
        go_simp
        have nb := (Below.refl wd.heap.size wd).alloc (Nat.le_refl _) (.cells #[.slice none 0 0, .slice none 0 0, .int .i64 0, .int .i64 0, .slice none 0 0] 34)
        have Rg := Row.new wd 34 #[.slice none 0 0, .slice none 0 0, .int .i64 0, .int .i64 0, .slice none 0 0]
        have hgb : w.heap.size + 1 < wd.heap.size := RR.lt
        replace hbl : Below w.heap.size w (wd.alloc (.cells #[.slice none 0 0, .slice none 0 0, .int .i64 0, .int .i64 0, .slice none 0 0] 34)) := hbl.trans (nb.mono hbl.size)
        replace Rb := Rb.below nb Rb.lt
        replace RR := RR.below nb RR.lt
        clear nb
        generalize hgbv : wd.heap.size = gb at Rg hgb ⊢
        clear hgbv
        generalize wd.alloc (.cells #[.slice none 0 0, .slice none 0 0, .int .i64 0, .int .i64 0, .slice none 0 0] 34) = wd at hbl Rb RR Rg ⊢
        refine hK.out _ _ ?_ (fun hHeld => ?_)
        · exact ⟨Rb.cell 2, Rb.cell 3, Rb.cell 4⟩
        clear hK K
        try simp only [Act.put, List.setIfInBounds_toArray, List.set_cons_zero, List.set_cons_succ]
        refine reg_call (i := 6) (by kernel_rfl) rfl (fun K hK => ?_)
        go_simp
        have nb := (Below.refl wd.heap.size wd).alloc (Nat.le_refl _) (.cells #[] 3)
        obtain ⟨a6, ha6⟩ : ∃ x, x = wd.heap.size := ⟨_, rfl⟩
        rw [← ha6]
        clear ha6
        replace hbl : Below w.heap.size w (wd.alloc (.cells #[] 3)) := hbl.trans (nb.mono hbl.size)
        replace Rb := Rb.below nb Rb.lt
        replace RR := RR.below nb RR.lt
        replace Rg := Rg.below nb Rg.lt
        clear nb
        generalize wd.alloc (.cells #[] 3) = wd at hbl Rb RR Rg ⊢
        refine hK.out _ _ ?_ (fun hHeld => ?_)
        · exact ⟨Rb.cell 2, Rb.cell 3, Rb.cell 4⟩
        clear hK K
        try simp only [Act.put, List.setIfInBounds_toArray, List.set_cons_zero, List.set_cons_succ]
        refine reg_call (i := 9) (by kernel_rfl) rfl (fun K hK => ?_)
        obtain ⟨A16, n16, c16, wq, r9, tn, nb⟩ := append_ints wd lo w.heap.size ⟨a6, 0, none⟩ A4 n4 c4 (tv.keep (Chg.below hbl)) hbl.size (by omega)
        rw [if_pos (show Region.wanted _ _ = true by kernel_rfl)]
        refine Lib.wp_append_run_sl _ _ _ 28 rfl _ _ rfl rfl r9 ?_
        clear r9
        replace hbl : Below w.heap.size w wq := hbl.trans (nb.mono hbl.size)
        replace Rb := Rb.below nb Rb.lt
        replace RR := RR.below nb RR.lt
        replace Rg := Rg.below nb Rg.lt
        clear nb
        obtain ⟨wd, hwd⟩ : ∃ x, x = wq := ⟨_, rfl⟩
        subst hwd
        refine hK.out _ _ ?_ (fun hHeld => ?_)
        · exact ⟨Rb.cell 2, Rb.cell 3, Rb.cell 4⟩
        clear hK K
        try simp only [Act.put, List.setIfInBounds_toArray, List.set_cons_zero, List.set_cons_succ]
        refine reg_take (i := 10) (v := ?v25) rfl (by kernel_rfl) (by kernel_rfl) (by kernel_rfl) (fun _ _ _ h => h) (Or.inl ⟨by kernel_rfl, ?h25⟩) (by assumption) ?r25
        case h25 => (intro w hSw; (try dsimp only at hSw); go_simp; try with_reducible rfl)
        try simp only [Act.put, List.setIfInBounds_toArray, List.set_cons_zero, List.set_cons_succ]
        refine reg_call (i := 12) (by kernel_rfl) rfl (fun K hK => ?_)
        rw [if_pos (show Region.wanted _ _ = true by kernel_rfl)]
        refine wp_store_mid 34 _ _ rfl gb 0 #[.slice (some ⟨_, 0, none⟩) 0 0, .slice (some ⟨_, 0, none⟩) 0 0, .int .i64 jp, .int .i64 on, .slice A16 n16 c16] rfl rfl (row_there Rg 5 (by decide)) size_block (by simp [Value.oneCell']) ?_
        rw [set5_eq]
        refine hK.out _ _ ?_ (fun hHeld => ?_)
        · exact ⟨(row_far5 Rb (by omega) _ _ _ _ _).cell 2, (row_far5 Rb (by omega) _ _ _ _ _).cell 3, (row_far5 Rb (by omega) _ _ _ _ _).cell 4⟩
        clear hK K
        try simp only [Act.put, List.setIfInBounds_toArray, List.set_cons_zero, List.set_cons_succ]
        refine wpAnyH_done (by kernel_rfl) ?_ _
        go_wp2_with fail
        go_meet
        exact ⟨gb, _, _, A16, n16, c16, rfl, hgb, copy_leaf Rg tn Rb RR hbl hgb⟩
      · go_simp
        have nb := (Below.refl wd.heap.size wd).alloc (Nat.le_refl _) (.cells #[] 3)
        obtain ⟨a6, ha6⟩ : ∃ x, x = wd.heap.size := ⟨_, rfl⟩
        rw [← ha6]
        clear ha6
        replace hbl : Below w.heap.size w (wd.alloc (.cells #[] 3)) := hbl.trans (nb.mono hbl.size)
        replace Rb := Rb.below nb Rb.lt
        replace RR := RR.below nb RR.lt
        clear nb
        generalize wd.alloc (.cells #[] 3) = wd at hbl Rb RR ⊢
        refine hK.out _ _ ?_ (fun hHeld => ?_)
        · exact ⟨Rb.cell 2, Rb.cell 3, Rb.cell 4⟩
        clear hK K
        try simp only [Act.put, List.setIfInBounds_toArray, List.set_cons_zero, List.set_cons_succ]
        refine reg_call3 (i := 1) (j := 9) (k := 11) (by kernel_rfl) rfl rfl rfl (fun K hK => ?_) (fun K hK => ?_) (fun K hK => ?_)
        · go_simp
          have nb := (Below.refl wd.heap.size wd).alloc (Nat.le_refl _) (.cells #[] 44)
          replace hbl : Below w.heap.size w (wd.alloc (.cells #[] 44)) := hbl.trans (nb.mono hbl.size)
          replace Rb := Rb.below nb Rb.lt
          replace RR := RR.below nb RR.lt
          clear nb
          generalize wd.alloc (.cells #[] 44) = wd at hbl Rb RR ⊢
          refine hK.out _ _ ?_ (fun hHeld => ?_)
          · exact ⟨Rb.cell 2, Rb.cell 3, Rb.cell 4⟩
          clear hK K
          try simp only [Act.put, List.setIfInBounds_toArray, List.set_cons_zero, List.set_cons_succ]
          refine reg_call2 (i := 9) (j := 11) (by kernel_rfl) rfl rfl (fun K hK => ?_) (fun K hK => ?_)
          · obtain ⟨A16, n16, c16, wq, r9, tn, nb⟩ := append_ints wd lo w.heap.size ⟨a6, 0, none⟩ A4 n4 c4 (tv.keep (Chg.below hbl)) hbl.size (by omega)
            rw [if_pos (show Region.wanted _ _ = true by kernel_rfl)]
            refine Lib.wp_append_run_sl _ _ _ 28 rfl _ _ rfl rfl r9 ?_
            clear r9
            replace hbl : Below w.heap.size w wq := hbl.trans (nb.mono hbl.size)
            replace Rb := Rb.below nb Rb.lt
            replace RR := RR.below nb RR.lt
            clear nb
            obtain ⟨wd, hwd⟩ : ∃ x, x = wq := ⟨_, rfl⟩
            subst hwd
            refine hK.out _ _ ?_ (fun hHeld => ?_)
            · exact ⟨Rb.cell 2, Rb.cell 3, Rb.cell 4⟩
            clear hK K
            try simp only [Act.put, List.setIfInBounds_toArray, List.set_cons_zero, List.set_cons_succ]
            refine reg_take (i := 10) (v := ?v26) rfl (by kernel_rfl) (by kernel_rfl) (by kernel_rfl) (fun _ _ _ h => h) (Or.inl ⟨by kernel_rfl, ?h26⟩) (by assumption) ?r26
            case h26 => (intro w hSw; (try dsimp only at hSw); go_simp; try with_reducible rfl)
            try simp only [Act.put, List.setIfInBounds_toArray, List.set_cons_zero, List.set_cons_succ]
            refine reg_call (i := 11) (by kernel_rfl) rfl (fun K hK => ?_)
            go_simp
            have nb := (Below.refl wd.heap.size wd).alloc (Nat.le_refl _) (.cells #[.slice none 0 0, .slice none 0 0, .int .i64 0, .int .i64 0, .slice none 0 0] 34)
            have Rg := Row.new wd 34 #[.slice none 0 0, .slice none 0 0, .int .i64 0, .int .i64 0, .slice none 0 0]
            have hgb : w.heap.size + 1 < wd.heap.size := RR.lt
            replace hbl : Below w.heap.size w (wd.alloc (.cells #[.slice none 0 0, .slice none 0 0, .int .i64 0, .int .i64 0, .slice none 0 0] 34)) := hbl.trans (nb.mono hbl.size)
            replace Rb := Rb.below nb Rb.lt
            replace RR := RR.below nb RR.lt
            replace tn := tn.keep (Chg.below (lo := w.heap.size) nb)
            clear nb
            generalize hgbv : wd.heap.size = gb at Rg hgb ⊢
            clear hgbv
            generalize wd.alloc (.cells #[.slice none 0 0, .slice none 0 0, .int .i64 0, .int .i64 0, .slice none 0 0] 34) = wd at hbl Rb RR tn Rg ⊢
            refine hK.out _ _ ?_ (fun hHeld => ?_)
            · exact ⟨Rb.cell 2, Rb.cell 3, Rb.cell 4⟩
            clear hK K
            try simp only [Act.put, List.setIfInBounds_toArray, List.set_cons_zero, List.set_cons_succ]
            refine reg_call (i := 12) (by kernel_rfl) rfl (fun K hK => ?_)
            rw [if_pos (show Region.wanted _ _ = true by kernel_rfl)]
            refine wp_store_mid 34 _ _ rfl gb 0 #[.slice (some ⟨_, 0, none⟩) 0 0, .slice (some ⟨_, 0, none⟩) 0 0, .int .i64 jp, .int .i64 on, .slice A16 n16 c16] rfl rfl (row_there Rg 5 (by decide)) size_block (by simp [Value.oneCell']) ?_
            rw [set5_eq]
            refine hK.out _ _ ?_ (fun hHeld => ?_)
            · exact ⟨(row_far5 Rb (by omega) _ _ _ _ _).cell 2, (row_far5 Rb (by omega) _ _ _ _ _).cell 3, (row_far5 Rb (by omega) _ _ _ _ _).cell 4⟩
            clear hK K
            try simp only [Act.put, List.setIfInBounds_toArray, List.set_cons_zero, List.set_cons_succ]
            refine wpAnyH_done (by kernel_rfl) ?_ _
            go_wp2_with fail
            go_meet
            exact ⟨gb, _, _, A16, n16, c16, rfl, hgb, copy_leaf Rg tn Rb RR hbl hgb⟩
          go_simp
          have nb := (Below.refl wd.heap.size wd).alloc (Nat.le_refl _) (.cells #[.slice none 0 0, .slice none 0 0, .int .i64 0, .int .i64 0, .slice none 0 0] 34)
          have Rg := Row.new wd 34 #[.slice none 0 0, .slice none 0 0, .int .i64 0, .int .i64 0, .slice none 0 0]
          have hgb : w.heap.size + 1 < wd.heap.size := RR.lt
          replace hbl : Below w.heap.size w (wd.alloc (.cells #[.slice none 0 0, .slice none 0 0, .int .i64 0, .int .i64 0, .slice none 0 0] 34)) := hbl.trans (nb.mono hbl.size)
          replace Rb := Rb.below nb Rb.lt
          replace RR := RR.below nb RR.lt
          clear nb
          generalize hgbv : wd.heap.size = gb at Rg hgb ⊢
          clear hgbv
          generalize wd.alloc (.cells #[.slice none 0 0, .slice none 0 0, .int .i64 0, .int .i64 0, .slice none 0 0] 34) = wd at hbl Rb RR Rg ⊢
          refine hK.out _ _ ?_ (fun hHeld => ?_)
          · exact ⟨Rb.cell 2, Rb.cell 3, Rb.cell 4⟩
          clear hK K
          try simp only [Act.put, List.setIfInBounds_toArray, List.set_cons_zero, List.set_cons_succ]
          refine reg_call (i := 9) (by kernel_rfl) rfl (fun K hK => ?_)
          obtain ⟨A16, n16, c16, wq, r9, tn, nb⟩ := append_ints wd lo w.heap.size ⟨a6, 0, none⟩ A4 n4 c4 (tv.keep (Chg.below hbl)) hbl.size (by omega)
          rw [if_pos (show Region.wanted _ _ = true by kernel_rfl)]
          refine Lib.wp_append_run_sl _ _ _ 28 rfl _ _ rfl rfl r9 ?_
          clear r9
          replace hbl : Below w.heap.size w wq := hbl.trans (nb.mono hbl.size)
          replace Rb := Rb.below nb Rb.lt
          replace RR := RR.below nb RR.lt
          replace Rg := Rg.below nb Rg.lt
          clear nb
          obtain ⟨wd, hwd⟩ : ∃ x, x = wq := ⟨_, rfl⟩
          subst hwd
          refine hK.out _ _ ?_ (fun hHeld => ?_)
          · exact ⟨Rb.cell 2, Rb.cell 3, Rb.cell 4⟩
          clear hK K
          try simp only [Act.put, List.setIfInBounds_toArray, List.set_cons_zero, List.set_cons_succ]
          refine reg_take (i := 10) (v := ?v27) rfl (by kernel_rfl) (by kernel_rfl) (by kernel_rfl) (fun _ _ _ h => h) (Or.inl ⟨by kernel_rfl, ?h27⟩) (by assumption) ?r27
          case h27 => (intro w hSw; (try dsimp only at hSw); go_simp; try with_reducible rfl)
          try simp only [Act.put, List.setIfInBounds_toArray, List.set_cons_zero, List.set_cons_succ]
          refine reg_call (i := 12) (by kernel_rfl) rfl (fun K hK => ?_)
          rw [if_pos (show Region.wanted _ _ = true by kernel_rfl)]
          refine wp_store_mid 34 _ _ rfl gb 0 #[.slice (some ⟨_, 0, none⟩) 0 0, .slice (some ⟨_, 0, none⟩) 0 0, .int .i64 jp, .int .i64 on, .slice A16 n16 c16] rfl rfl (row_there Rg 5 (by decide)) size_block (by simp [Value.oneCell']) ?_
          rw [set5_eq]
          refine hK.out _ _ ?_ (fun hHeld => ?_)
          · exact ⟨(row_far5 Rb (by omega) _ _ _ _ _).cell 2, (row_far5 Rb (by omega) _ _ _ _ _).cell 3, (row_far5 Rb (by omega) _ _ _ _ _).cell 4⟩
          clear hK K
          try simp only [Act.put, List.setIfInBounds_toArray, List.set_cons_zero, List.set_cons_succ]
          refine wpAnyH_done (by kernel_rfl) ?_ _
          go_wp2_with fail
          go_meet
          exact ⟨gb, _, _, A16, n16, c16, rfl, hgb, copy_leaf Rg tn Rb RR hbl hgb⟩
        · obtain ⟨A16, n16, c16, wq, r9, tn, nb⟩ := append_ints wd lo w.heap.size ⟨a6, 0, none⟩ A4 n4 c4 (tv.keep (Chg.below hbl)) hbl.size (by omega)
          rw [if_pos (show Region.wanted _ _ = true by kernel_rfl)]
          refine Lib.wp_append_run_sl _ _ _ 28 rfl _ _ rfl rfl r9 ?_
          clear r9
          replace hbl : Below w.heap.size w wq := hbl.trans (nb.mono hbl.size)
          replace Rb := Rb.below nb Rb.lt
          replace RR := RR.below nb RR.lt
          clear nb
          obtain ⟨wd, hwd⟩ : ∃ x, x = wq := ⟨_, rfl⟩
          subst hwd
          refine hK.out _ _ ?_ (fun hHeld => ?_)
          · exact ⟨Rb.cell 2, Rb.cell 3, Rb.cell 4⟩
          clear hK K
          try simp only [Act.put, List.setIfInBounds_toArray, List.set_cons_zero, List.set_cons_succ]
          refine reg_call2 (i := 1) (j := 11) (by kernel_rfl) rfl rfl (fun K hK => ?_) (fun K hK => ?_)
          · go_simp
            have nb := (Below.refl wd.heap.size wd).alloc (Nat.le_refl _) (.cells #[] 44)
            replace hbl : Below w.heap.size w (wd.alloc (.cells #[] 44)) := hbl.trans (nb.mono hbl.size)
            replace Rb := Rb.below nb Rb.lt
            replace RR := RR.below nb RR.lt
            replace tn := tn.keep (Chg.below (lo := w.heap.size) nb)
            clear nb
            generalize wd.alloc (.cells #[] 44) = wd at hbl Rb RR tn ⊢
            refine hK.out _ _ ?_ (fun hHeld => ?_)
            · exact ⟨Rb.cell 2, Rb.cell 3, Rb.cell 4⟩
            clear hK K
            try simp only [Act.put, List.setIfInBounds_toArray, List.set_cons_zero, List.set_cons_succ]
            refine reg_take (i := 10) (v := ?v28) rfl (by kernel_rfl) (by kernel_rfl) (by kernel_rfl) (fun _ _ _ h => h) (Or.inl ⟨by kernel_rfl, ?h28⟩) (by assumption) ?r28
            case h28 => (intro w hSw; (try dsimp only at hSw); go_simp; try with_reducible rfl)
            try simp only [Act.put, List.setIfInBounds_toArray, List.set_cons_zero, List.set_cons_succ]
            refine reg_call (i := 11) (by kernel_rfl) rfl (fun K hK => ?_)
            go_simp
            have nb := (Below.refl wd.heap.size wd).alloc (Nat.le_refl _) (.cells #[.slice none 0 0, .slice none 0 0, .int .i64 0, .int .i64 0, .slice none 0 0] 34)
            have Rg := Row.new wd 34 #[.slice none 0 0, .slice none 0 0, .int .i64 0, .int .i64 0, .slice none 0 0]
            have hgb : w.heap.size + 1 < wd.heap.size := RR.lt
            replace hbl : Below w.heap.size w (wd.alloc (.cells #[.slice none 0 0, .slice none 0 0, .int .i64 0, .int .i64 0, .slice none 0 0] 34)) := hbl.trans (nb.mono hbl.size)
            replace Rb := Rb.below nb Rb.lt
            replace RR := RR.below nb RR.lt
            replace tn := tn.keep (Chg.below (lo := w.heap.size) nb)
            clear nb
            generalize hgbv : wd.heap.size = gb at Rg hgb ⊢
            clear hgbv
            generalize wd.alloc (.cells #[.slice none 0 0, .slice none 0 0, .int .i64 0, .int .i64 0, .slice none 0 0] 34) = wd at hbl Rb RR tn Rg ⊢
            refine hK.out _ _ ?_ (fun hHeld => ?_)
            · exact ⟨Rb.cell 2, Rb.cell 3, Rb.cell 4⟩
            clear hK K
            try simp only [Act.put, List.setIfInBounds_toArray, List.set_cons_zero, List.set_cons_succ]
            refine reg_call (i := 12) (by kernel_rfl) rfl (fun K hK => ?_)
            rw [if_pos (show Region.wanted _ _ = true by kernel_rfl)]
            refine wp_store_mid 34 _ _ rfl gb 0 #[.slice (some ⟨_, 0, none⟩) 0 0, .slice (some ⟨_, 0, none⟩) 0 0, .int .i64 jp, .int .i64 on, .slice A16 n16 c16] rfl rfl (row_there Rg 5 (by decide)) size_block (by simp [Value.oneCell']) ?_
            rw [set5_eq]
            refine hK.out _ _ ?_ (fun hHeld => ?_)
            · exact ⟨(row_far5 Rb (by omega) _ _ _ _ _).cell 2, (row_far5 Rb (by omega) _ _ _ _ _).cell 3, (row_far5 Rb (by omega) _ _ _ _ _).cell 4⟩
            clear hK K
            try simp only [Act.put, List.setIfInBounds_toArray, List.set_cons_zero, List.set_cons_succ]
            refine wpAnyH_done (by kernel_rfl) ?_ _
            go_wp2_with fail
            go_meet
            exact ⟨gb, _, _, A16, n16, c16, rfl, hgb, copy_leaf Rg tn Rb RR hbl hgb⟩
          go_simp
          have nb := (Below.refl wd.heap.size wd).alloc (Nat.le_refl _) (.cells #[.slice none 0 0, .slice none 0 0, .int .i64 0, .int .i64 0, .slice none 0 0] 34)
          have Rg := Row.new wd 34 #[.slice none 0 0, .slice none 0 0, .int .i64 0, .int .i64 0, .slice none 0 0]
          have hgb : w.heap.size + 1 < wd.heap.size := RR.lt
          replace hbl : Below w.heap.size w (wd.alloc (.cells #[.slice none 0 0, .slice none 0 0, .int .i64 0, .int .i64 0, .slice none 0 0] 34)) := hbl.trans (nb.mono hbl.size)
          replace Rb := Rb.below nb Rb.lt
          replace RR := RR.below nb RR.lt
          replace tn := tn.keep (Chg.below (lo := w.heap.size) nb)
          clear nb
          generalize hgbv : wd.heap.size = gb at Rg hgb ⊢
          clear hgbv
          generalize wd.alloc (.cells #[.slice none 0 0, .slice none 0 0, .int .i64 0, .int .i64 0, .slice none 0 0] 34) = wd at hbl Rb RR tn Rg ⊢
          refine hK.out _ _ ?_ (fun hHeld => ?_)
          · exact ⟨Rb.cell 2, Rb.cell 3, Rb.cell 4⟩
          clear hK K
          try simp only [Act.put, List.setIfInBounds_toArray, List.set_cons_zero, List.set_cons_succ]
          refine reg_call (i := 1) (by kernel_rfl) rfl (fun K hK => ?_)
          go_simp
          have nb := (Below.refl wd.heap.size wd).alloc (Nat.le_refl _) (.cells #[] 44)
          replace hbl : Below w.heap.size w (wd.alloc (.cells #[] 44)) := hbl.trans (nb.mono hbl.size)
          replace Rb := Rb.below nb Rb.lt
          replace RR := RR.below nb RR.lt
          replace tn := tn.keep (Chg.below (lo := w.heap.size) nb)
          replace Rg := Rg.below nb Rg.lt
          clear nb
          generalize wd.alloc (.cells #[] 44) = wd at hbl Rb RR tn Rg ⊢
          refine hK.out _ _ ?_ (fun hHeld => ?_)
          · exact ⟨Rb.cell 2, Rb.cell 3, Rb.cell 4⟩
          clear hK K
          try simp only [Act.put, List.setIfInBounds_toArray, List.set_cons_zero, List.set_cons_succ]
          refine reg_take (i := 10) (v := ?v29) rfl (by kernel_rfl) (by kernel_rfl) (by kernel_rfl) (fun _ _ _ h => h) (Or.inl ⟨by kernel_rfl, ?h29⟩) (by assumption) ?r29
          case h29 => (intro w hSw; (try dsimp only at hSw); go_simp; try with_reducible rfl)
          try simp only [Act.put, List.setIfInBounds_toArray, List.set_cons_zero, List.set_cons_succ]
          refine reg_call (i := 12) (by kernel_rfl) rfl (fun K hK => ?_)
          rw [if_pos (show Region.wanted _ _ = true by kernel_rfl)]
          refine wp_store_mid 34 _ _ rfl gb 0 #[.slice (some ⟨_, 0, none⟩) 0 0, .slice (some ⟨_, 0, none⟩) 0 0, .int .i64 jp, .int .i64 on, .slice A16 n16 c16] rfl rfl (row_there Rg 5 (by decide)) size_block (by simp [Value.oneCell']) ?_
          rw [set5_eq]
          refine hK.out _ _ ?_ (fun hHeld => ?_)
          · exact ⟨(row_far5 Rb (by omega) _ _ _ _ _).cell 2, (row_far5 Rb (by omega) _ _ _ _ _).cell 3, (row_far5 Rb (by omega) _ _ _ _ _).cell 4⟩
          clear hK K
          try simp only [Act.put, List.setIfInBounds_toArray, List.set_cons_zero, List.set_cons_succ]
          refine wpAnyH_done (by kernel_rfl) ?_ _
          go_wp2_with fail
          go_meet
          exact ⟨gb, _, _, A16, n16, c16, rfl, hgb, copy_leaf Rg tn Rb RR hbl hgb⟩
        go_simp
        have nb := (Below.refl wd.heap.size wd).alloc (Nat.le_refl _) (.cells #[.slice none 0 0, .slice none 0 0, .int .i64 0, .int .i64 0, .slice none 0 0] 34)
        have Rg := Row.new wd 34 #[.slice none 0 0, .slice none 0 0, .int .i64 0, .int .i64 0, .slice none 0 0]
        have hgb : w.heap.size + 1 < wd.heap.size := RR.lt
        replace hbl : Below w.heap.size w (wd.alloc (.cells #[.slice none 0 0, .slice none 0 0, .int .i64 0, .int .i64 0, .slice none 0 0] 34)) := hbl.trans (nb.mono hbl.size)
        replace Rb := Rb.below nb Rb.lt
        replace RR := RR.below nb RR.lt
        clear nb
        generalize hgbv : wd.heap.size = gb at Rg hgb ⊢
        clear hgbv
        generalize wd.alloc (.cells #[.slice none 0 0, .slice none 0 0, .int .i64 0, .int .i64 0, .slice none 0 0] 34) = wd at hbl Rb RR Rg ⊢
        refine hK.out _ _ ?_ (fun hHeld => ?_)
        · exact ⟨Rb.cell 2, Rb.cell 3, Rb.cell 4⟩
        clear hK K
        try simp only [Act.put, List.setIfInBounds_toArray, List.set_cons_zero, List.set_cons_succ]
        refine reg_call2 (i := 1) (j := 9) (by kernel_rfl) rfl rfl (fun K hK => ?_) (fun K hK => ?_)
        · go_simp
          have nb := (Below.refl wd.heap.size wd).alloc (Nat.le_refl _) (.cells #[] 44)
          replace hbl : Below w.heap.size w (wd.alloc (.cells #[] 44)) := hbl.trans (nb.mono hbl.size)
          replace Rb := Rb.below nb Rb.lt
          replace RR := RR.below nb RR.lt
          replace Rg := Rg.below nb Rg.lt
          clear nb
          generalize wd.alloc (.cells #[] 44) = wd at hbl Rb RR Rg ⊢
          refine hK.out _ _ ?_ (fun hHeld => ?_)
          · exact ⟨Rb.cell 2, Rb.cell 3, Rb.cell 4⟩
          clear hK K
          try simp only [Act.put, List.setIfInBounds_toArray, List.set_cons_zero, List.set_cons_succ]
          refine reg_call (i := 9) (by kernel_rfl) rfl (fun K hK => ?_)
          obtain ⟨A16, n16, c16, wq, r9, tn, nb⟩ := append_ints wd lo w.heap.size ⟨a6, 0, none⟩ A4 n4 c4 (tv.keep (Chg.below hbl)) hbl.size (by omega)
          rw [if_pos (show Region.wanted _ _ = true by kernel_rfl)]
          refine Lib.wp_append_run_sl _ _ _ 28 rfl _ _ rfl rfl r9 ?_
          clear r9
          replace hbl : Below w.heap.size w wq := hbl.trans (nb.mono hbl.size)
          replace Rb := Rb.below nb Rb.lt
          replace RR := RR.below nb RR.lt
          replace Rg := Rg.below nb Rg.lt
          clear nb
          obtain ⟨wd, hwd⟩ : ∃ x, x = wq := ⟨_, rfl⟩
          subst hwd
          refine hK.out _ _ ?_ (fun hHeld => ?_)
          · exact ⟨Rb.cell 2, Rb.cell 3, Rb.cell 4⟩
          clear hK K
          try simp only [Act.put, List.setIfInBounds_toArray, List.set_cons_zero, List.set_cons_succ]
          refine reg_take (i := 10) (v := ?v30) rfl (by kernel_rfl) (by kernel_rfl) (by kernel_rfl) (fun _ _ _ h => h) (Or.inl ⟨by kernel_rfl, ?h30⟩) (by assumption) ?r30
          case h30 => (intro w hSw; (try dsimp only at hSw); go_simp; try with_reducible rfl)
          try simp only [Act.put, List.setIfInBounds_toArray, List.set_cons_zero, List.set_cons_succ]
          refine reg_call (i := 12) (by kernel_rfl) rfl (fun K hK => ?_)
          rw [if_pos (show Region.wanted _ _ = true by kernel_rfl)]
          refine wp_store_mid 34 _ _ rfl gb 0 #[.slice (some ⟨_, 0, none⟩) 0 0, .slice (some ⟨_, 0, none⟩) 0 0, .int .i64 jp, .int .i64 on, .slice A16 n16 c16] rfl rfl (row_there Rg 5 (by decide)) size_block (by simp [Value.oneCell']) ?_
          rw [set5_eq]
          refine hK.out _ _ ?_ (fun hHeld => ?_)
          · exact ⟨(row_far5 Rb (by omega) _ _ _ _ _).cell 2, (row_far5 Rb (by omega) _ _ _ _ _).cell 3, (row_far5 Rb (by omega) _ _ _ _ _).cell 4⟩
          clear hK K
          try simp only [Act.put, List.setIfInBounds_toArray, List.set_cons_zero, List.set_cons_succ]
          refine wpAnyH_done (by kernel_rfl) ?_ _
          go_wp2_with fail
          go_meet
          exact ⟨gb, _, _, A16, n16, c16, rfl, hgb, copy_leaf Rg tn Rb RR hbl hgb⟩
        obtain ⟨A16, n16, c16, wq, r9, tn, nb⟩ := append_ints wd lo w.heap.size ⟨a6, 0, none⟩ A4 n4 c4 (tv.keep (Chg.below hbl)) hbl.size (by omega)
        rw [if_pos (show Region.wanted _ _ = true by kernel_rfl)]
        refine Lib.wp_append_run_sl _ _ _ 28 rfl _ _ rfl rfl r9 ?_
        clear r9
        replace hbl : Below w.heap.size w wq := hbl.trans (nb.mono hbl.size)
        replace Rb := Rb.below nb Rb.lt
        replace RR := RR.below nb RR.lt
        replace Rg := Rg.below nb Rg.lt
        clear nb
        obtain ⟨wd, hwd⟩ : ∃ x, x = wq := ⟨_, rfl⟩
        subst hwd
        refine hK.out _ _ ?_ (fun hHeld => ?_)
        · exact ⟨Rb.cell 2, Rb.cell 3, Rb.cell 4⟩
        clear hK K
        try simp only [Act.put, List.setIfInBounds_toArray, List.set_cons_zero, List.set_cons_succ]
        refine reg_call (i := 1) (by kernel_rfl) rfl (fun K hK => ?_)
        go_simp
        have nb := (Below.refl wd.heap.size wd).alloc (Nat.le_refl _) (.cells #[] 44)
        replace hbl : Below w.heap.size w (wd.alloc (.cells #[] 44)) := hbl.trans (nb.mono hbl.size)
        replace Rb := Rb.below nb Rb.lt
        replace RR := RR.below nb RR.lt
        replace tn := tn.keep (Chg.below (lo := w.heap.size) nb)
        replace Rg := Rg.below nb Rg.lt
        clear nb
        generalize wd.alloc (.cells #[] 44) = wd at hbl Rb RR tn Rg ⊢
        refine hK.out _ _ ?_ (fun hHeld => ?_)
        · exact ⟨Rb.cell 2, Rb.cell 3, Rb.cell 4⟩
        clear hK K
        try simp only [Act.put, List.setIfInBounds_toArray, List.set_cons_zero, List.set_cons_succ]
        refine reg_take (i := 10) (v := ?v31) rfl (by kernel_rfl) (by kernel_rfl) (by kernel_rfl) (fun _ _ _ h => h) (Or.inl ⟨by kernel_rfl, ?h31⟩) (by assumption) ?r31
        case h31 => (intro w hSw; (try dsimp only at hSw); go_simp; try with_reducible rfl)
        try simp only [Act.put, List.setIfInBounds_toArray, List.set_cons_zero, List.set_cons_succ]
        refine reg_call (i := 12) (by kernel_rfl) rfl (fun K hK => ?_)
        rw [if_pos (show Region.wanted _ _ = true by kernel_rfl)]
        refine wp_store_mid 34 _ _ rfl gb 0 #[.slice (some ⟨_, 0, none⟩) 0 0, .slice (some ⟨_, 0, none⟩) 0 0, .int .i64 jp, .int .i64 on, .slice A16 n16 c16] rfl rfl (row_there Rg 5 (by decide)) size_block (by simp [Value.oneCell']) ?_
        rw [set5_eq]
        refine hK.out _ _ ?_ (fun hHeld => ?_)
        · exact ⟨(row_far5 Rb (by omega) _ _ _ _ _).cell 2, (row_far5 Rb (by omega) _ _ _ _ _).cell 3, (row_far5 Rb (by omega) _ _ _ _ _).cell 4⟩
        clear hK K
        try simp only [Act.put, List.setIfInBounds_toArray, List.set_cons_zero, List.set_cons_succ]
        refine wpAnyH_done (by kernel_rfl) ?_ _
        go_wp2_with fail
        go_meet
        exact ⟨gb, _, _, A16, n16, c16, rfl, hgb, copy_leaf Rg tn Rb RR hbl hgb⟩
      go_simp
      have nb := (Below.refl wd.heap.size wd).alloc (Nat.le_refl _) (.cells #[.slice none 0 0, .slice none 0 0, .int .i64 0, .int .i64 0, .slice none 0 0] 34)
      have Rg := Row.new wd 34 #[.slice none 0 0, .slice none 0 0, .int .i64 0, .int .i64 0, .slice none 0 0]
      have hgb : w.heap.size + 1 < wd.heap.size := RR.lt
      replace hbl : Below w.heap.size w (wd.alloc (.cells #[.slice none 0 0, .slice none 0 0, .int .i64 0, .int .i64 0, .slice none 0 0] 34)) := hbl.trans (nb.mono hbl.size)
      replace Rb := Rb.below nb Rb.lt
      replace RR := RR.below nb RR.lt
      clear nb
      generalize hgbv : wd.heap.size = gb at Rg hgb ⊢
      clear hgbv
      generalize wd.alloc (.cells #[.slice none 0 0, .slice none 0 0, .int .i64 0, .int .i64 0, .slice none 0 0] 34) = wd at hbl Rb RR Rg ⊢
      refine hK.out _ _ ?_ (fun hHeld => ?_)
      · exact ⟨Rb.cell 2, Rb.cell 3, Rb.cell 4⟩
      clear hK K
      try simp only [Act.put, List.setIfInBounds_toArray, List.set_cons_zero, List.set_cons_succ]
      refine reg_call2 (i := 1) (j := 6) (by kernel_rfl) rfl rfl (fun K hK => ?_) (fun K hK => ?_)
      · go_simp
        have nb := (Below.refl wd.heap.size wd).alloc (Nat.le_refl _) (.cells #[] 44)
        replace hbl : Below w.heap.size w (wd.alloc (.cells #[] 44)) := hbl.trans (nb.mono hbl.size)
        replace Rb := Rb.below nb Rb.lt
        replace RR := RR.below nb RR.lt
        replace Rg := Rg.below nb Rg.lt
        clear nb
        generalize wd.alloc (.cells #[] 44) = wd at hbl Rb RR Rg ⊢
        refine hK.out _ _ ?_ (fun hHeld => ?_)
        · exact ⟨Rb.cell 2, Rb.cell 3, Rb.cell 4⟩
        clear hK K
        try simp only [Act.put, List.setIfInBounds_toArray, List.set_cons_zero, List.set_cons_succ]
        refine reg_call (i := 6) (by kernel_rfl) rfl (fun K hK => ?_)
        go_simp
        have nb := (Below.refl wd.heap.size wd).alloc (Nat.le_refl _) (.cells #[] 3)
        obtain ⟨a6, ha6⟩ : ∃ x, x = wd.heap.size := ⟨_, rfl⟩
        rw [← ha6]
        clear ha6
        replace hbl : Below w.heap.size w (wd.alloc (.cells #[] 3)) := hbl.trans (nb.mono hbl.size)
        replace Rb := Rb.below nb Rb.lt
        replace RR := RR.below nb RR.lt
        replace Rg := Rg.below nb Rg.lt
        clear nb
        generalize wd.alloc (.cells #[] 3) = wd at hbl Rb RR Rg ⊢
        refine hK.out _ _ ?_ (fun hHeld => ?_)
        · exact ⟨Rb.cell 2, Rb.cell 3, Rb.cell 4⟩
        clear hK K
        try simp only [Act.put, List.setIfInBounds_toArray, List.set_cons_zero, List.set_cons_succ]
        refine reg_call (i := 9) (by kernel_rfl) rfl (fun K hK => ?_)
        obtain ⟨A16, n16, c16, wq, r9, tn, nb⟩ := append_ints wd lo w.heap.size ⟨a6, 0, none⟩ A4 n4 c4 (tv.keep (Chg.below hbl)) hbl.size (by omega)
        rw [if_pos (show Region.wanted _ _ = true by kernel_rfl)]
        refine Lib.wp_append_run_sl _ _ _ 28 rfl _ _ rfl rfl r9 ?_
        clear r9
        replace hbl : Below w.heap.size w wq := hbl.trans (nb.mono hbl.size)
        replace Rb := Rb.below nb Rb.lt
        replace RR := RR.below nb RR.lt
        replace Rg := Rg.below nb Rg.lt
        clear nb
        obtain ⟨wd, hwd⟩ : ∃ x, x = wq := ⟨_, rfl⟩
        subst hwd
        refine hK.out _ _ ?_ (fun hHeld => ?_)
        · exact ⟨Rb.cell 2, Rb.cell 3, Rb.cell 4⟩
        clear hK K
        try simp only [Act.put, List.setIfInBounds_toArray, List.set_cons_zero, List.set_cons_succ]
        refine reg_take (i := 10) (v := ?v32) rfl (by kernel_rfl) (by kernel_rfl) (by kernel_rfl) (fun _ _ _ h => h) (Or.inl ⟨by kernel_rfl, ?h32⟩) (by assumption) ?r32
        case h32 => (intro w hSw; (try dsimp only at hSw); go_simp; try with_reducible rfl)
        try simp only [Act.put, List.setIfInBounds_toArray, List.set_cons_zero, List.set_cons_succ]
        refine reg_call (i := 12) (by kernel_rfl) rfl (fun K hK => ?_)
        rw [if_pos (show Region.wanted _ _ = true by kernel_rfl)]
        refine wp_store_mid 34 _ _ rfl gb 0 #[.slice (some ⟨_, 0, none⟩) 0 0, .slice (some ⟨_, 0, none⟩) 0 0, .int .i64 jp, .int .i64 on, .slice A16 n16 c16] rfl rfl (row_there Rg 5 (by decide)) size_block (by simp [Value.oneCell']) ?_
        rw [set5_eq]
        refine hK.out _ _ ?_ (fun hHeld => ?_)
        · exact ⟨(row_far5 Rb (by omega) _ _ _ _ _).cell 2, (row_far5 Rb (by omega) _ _ _ _ _).cell 3, (row_far5 Rb (by omega) _ _ _ _ _).cell 4⟩
        clear hK K
        try simp only [Act.put, List.setIfInBounds_toArray, List.set_cons_zero, List.set_cons_succ]
        refine wpAnyH_done (by kernel_rfl) ?_ _
        go_wp2_with fail
        go_meet
        exact ⟨gb, _, _, A16, n16, c16, rfl, hgb, copy_leaf Rg tn Rb RR hbl hgb⟩
      go_simp
      have nb := (Below.refl wd.heap.size wd).alloc (Nat.le_refl _) (.cells #[] 3)
      obtain ⟨a6, ha6⟩ : ∃ x, x = wd.heap.size := ⟨_, rfl⟩
      rw [← ha6]
      clear ha6
      replace hbl : Below w.heap.size w (wd.alloc (.cells #[] 3)) := hbl.trans (nb.mono hbl.size)
      replace Rb := Rb.below nb Rb.lt
      replace RR := RR.below nb RR.lt
      replace Rg := Rg.below nb Rg.lt
      clear nb
      generalize wd.alloc (.cells #[] 3) = wd at hbl Rb RR Rg ⊢
      refine hK.out _ _ ?_ (fun hHeld => ?_)
      · exact ⟨Rb.cell 2, Rb.cell 3, Rb.cell 4⟩
      clear hK K
      try simp only [Act.put, List.setIfInBounds_toArray, List.set_cons_zero, List.set_cons_succ]
      refine reg_call2 (i := 1) (j := 9) (by kernel_rfl) rfl rfl (fun K hK => ?_) (fun K hK => ?_)
      · go_simp
        have nb := (Below.refl wd.heap.size wd).alloc (Nat.le_refl _) (.cells #[] 44)
        replace hbl : Below w.heap.size w (wd.alloc (.cells #[] 44)) := hbl.trans (nb.mono hbl.size)
        replace Rb := Rb.below nb Rb.lt
        replace RR := RR.below nb RR.lt
        replace Rg := Rg.below nb Rg.lt
        clear nb
        generalize wd.alloc (.cells #[] 44) = wd at hbl Rb RR Rg ⊢
        refine hK.out _ _ ?_ (fun hHeld => ?_)
        · exact ⟨Rb.cell 2, Rb.cell 3, Rb.cell 4⟩
        clear hK K
        try simp only [Act.put, List.setIfInBounds_toArray, List.set_cons_zero, List.set_cons_succ]
        refine reg_call (i := 9) (by kernel_rfl) rfl (fun K hK => ?_)
        obtain ⟨A16, n16, c16, wq, r9, tn, nb⟩ := append_ints wd lo w.heap.size ⟨a6, 0, none⟩ A4 n4 c4 (tv.keep (Chg.below hbl)) hbl.size (by omega)
        rw [if_pos (show Region.wanted _ _ = true by kernel_rfl)]
        refine Lib.wp_append_run_sl _ _ _ 28 rfl _ _ rfl rfl r9 ?_
        clear r9
        replace hbl : Below w.heap.size w wq := hbl.trans (nb.mono hbl.size)
        replace Rb := Rb.below nb Rb.lt
        replace RR := RR.below nb RR.lt
        replace Rg := Rg.below nb Rg.lt
        clear nb
        obtain ⟨wd, hwd⟩ : ∃ x, x = wq := ⟨_, rfl⟩
        subst hwd
        refine hK.out _ _ ?_ (fun hHeld => ?_)
        · exact ⟨Rb.cell 2, Rb.cell 3, Rb.cell 4⟩
        clear hK K
        try simp only [Act.put, List.setIfInBounds_toArray, List.set_cons_zero, List.set_cons_succ]
        refine reg_take (i := 10) (v := ?v33) rfl (by kernel_rfl) (by kernel_rfl) (by kernel_rfl) (fun _ _ _ h => h) (Or.inl ⟨by kernel_rfl, ?h33⟩) (by assumption) ?r33
        case h33 => (intro w hSw; (try dsimp only at hSw); go_simp; try with_reducible rfl)
        try simp only [Act.put, List.setIfInBounds_toArray, List.set_cons_zero, List.set_cons_succ]
        refine reg_call (i := 12) (by kernel_rfl) rfl (fun K hK => ?_)
        rw [if_pos (show Region.wanted _ _ = true by kernel_rfl)]
        refine wp_store_mid 34 _ _ rfl gb 0 #[.slice (some ⟨_, 0, none⟩) 0 0, .slice (some ⟨_, 0, none⟩) 0 0, .int .i64 jp, .int .i64 on, .slice A16 n16 c16] rfl rfl (row_there Rg 5 (by decide)) size_block (by simp [Value.oneCell']) ?_
        rw [set5_eq]
        refine hK.out _ _ ?_ (fun hHeld => ?_)
        · exact ⟨(row_far5 Rb (by omega) _ _ _ _ _).cell 2, (row_far5 Rb (by omega) _ _ _ _ _).cell 3, (row_far5 Rb (by omega) _ _ _ _ _).cell 4⟩
        clear hK K
        try simp only [Act.put, List.setIfInBounds_toArray, List.set_cons_zero, List.set_cons_succ]
        refine wpAnyH_done (by kernel_rfl) ?_ _
        go_wp2_with fail
        go_meet
        exact ⟨gb, _, _, A16, n16, c16, rfl, hgb, copy_leaf Rg tn Rb RR hbl hgb⟩
      obtain ⟨A16, n16, c16, wq, r9, tn, nb⟩ := append_ints wd lo w.heap.size ⟨a6, 0, none⟩ A4 n4 c4 (tv.keep (Chg.below hbl)) hbl.size (by omega)
      rw [if_pos (show Region.wanted _ _ = true by kernel_rfl)]
      refine Lib.wp_append_run_sl _ _ _ 28 rfl _ _ rfl rfl r9 ?_
      clear r9
      replace hbl : Below w.heap.size w wq := hbl.trans (nb.mono hbl.size)
      replace Rb := Rb.below nb Rb.lt
      replace RR := RR.below nb RR.lt
      replace Rg := Rg.below nb Rg.lt
      clear nb
      obtain ⟨wd, hwd⟩ : ∃ x, x = wq := ⟨_, rfl⟩
      subst hwd
      refine hK.out _ _ ?_ (fun hHeld => ?_)
      · exact ⟨Rb.cell 2, Rb.cell 3, Rb.cell 4⟩
      clear hK K
      try simp only [Act.put, List.setIfInBounds_toArray, List.set_cons_zero, List.set_cons_succ]
      refine reg_call (i := 1) (by kernel_rfl) rfl (fun K hK => ?_)
      go_simp
      have nb := (Below.refl wd.heap.size wd).alloc (Nat.le_refl _) (.cells #[] 44)
      replace hbl : Below w.heap.size w (wd.alloc (.cells #[] 44)) := hbl.trans (nb.mono hbl.size)
      replace Rb := Rb.below nb Rb.lt
      replace RR := RR.below nb RR.lt
      replace tn := tn.keep (Chg.below (lo := w.heap.size) nb)
      replace Rg := Rg.below nb Rg.lt
      clear nb
      generalize wd.alloc (.cells #[] 44) = wd at hbl Rb RR tn Rg ⊢
      refine hK.out _ _ ?_ (fun hHeld => ?_)
      · exact ⟨Rb.cell 2, Rb.cell 3, Rb.cell 4⟩
      clear hK K
      try simp only [Act.put, List.setIfInBounds_toArray, List.set_cons_zero, List.set_cons_succ]
      refine reg_take (i := 10) (v := ?v34) rfl (by kernel_rfl) (by kernel_rfl) (by kernel_rfl) (fun _ _ _ h => h) (Or.inl ⟨by kernel_rfl, ?h34⟩) (by assumption) ?r34
      case h34 => (intro w hSw; (try dsimp only at hSw); go_simp; try with_reducible rfl)
      try simp only [Act.put, List.setIfInBounds_toArray, List.set_cons_zero, List.set_cons_succ]
      refine reg_call (i := 12) (by kernel_rfl) rfl (fun K hK => ?_)
      rw [if_pos (show Region.wanted _ _ = true by kernel_rfl)]
      refine wp_store_mid 34 _ _ rfl gb 0 #[.slice (some ⟨_, 0, none⟩) 0 0, .slice (some ⟨_, 0, none⟩) 0 0, .int .i64 jp, .int .i64 on, .slice A16 n16 c16] rfl rfl (row_there Rg 5 (by decide)) size_block (by simp [Value.oneCell']) ?_
      rw [set5_eq]
      refine hK.out _ _ ?_ (fun hHeld => ?_)
      · exact ⟨(row_far5 Rb (by omega) _ _ _ _ _).cell 2, (row_far5 Rb (by omega) _ _ _ _ _).cell 3, (row_far5 Rb (by omega) _ _ _ _ _).cell 4⟩
      clear hK K
      try simp only [Act.put, List.setIfInBounds_toArray, List.set_cons_zero, List.set_cons_succ]
      refine wpAnyH_done (by kernel_rfl) ?_ _
      go_wp2_with fail
      go_meet
      exact ⟨gb, _, _, A16, n16, c16, rfl, hgb, copy_leaf Rg tn Rb RR hbl hgb⟩
    · go_simp
      have nb := (Below.refl wd.heap.size wd).alloc (Nat.le_refl _) (.cells #[] 44)
      replace hbl : Below w.heap.size w (wd.alloc (.cells #[] 44)) := hbl.trans (nb.mono hbl.size)
      replace Rb := Rb.below nb Rb.lt
      replace RR := RR.below nb RR.lt
      clear nb
      generalize wd.alloc (.cells #[] 44) = wd at hbl Rb RR ⊢
      refine hK.out _ _ ?_ (fun hHeld => ?_)
      · exact ⟨Rb.cell 2, Rb.cell 3, Rb.cell 4⟩
      clear hK K
      try simp only [Act.put, List.setIfInBounds_toArray, List.set_cons_zero, List.set_cons_succ]
      refine reg_call3 (i := 0) (j := 6) (k := 11) (by kernel_rfl) rfl rfl rfl (fun K hK => ?_) (fun K hK => ?_) (fun K hK => ?_)
      · go_simp
        have nb := (Below.refl wd.heap.size wd).alloc (Nat.le_refl _) (.cells #[] 68)
        replace hbl : Below w.heap.size w (wd.alloc (.cells #[] 68)) := hbl.trans (nb.mono hbl.size)
        replace Rb := Rb.below nb Rb.lt
        replace RR := RR.below nb RR.lt
        clear nb
        generalize wd.alloc (.cells #[] 68) = wd at hbl Rb RR ⊢
        refine hK.out _ _ ?_ (fun hHeld => ?_)
        · exact ⟨Rb.cell 2, Rb.cell 3, Rb.cell 4⟩
        clear hK K
        try simp only [Act.put, List.setIfInBounds_toArray, List.set_cons_zero, List.set_cons_succ]
        refine reg_call2 (i := 6) (j := 11) (by kernel_rfl) rfl rfl (fun K hK => ?_) (fun K hK => ?_)
        · go_simp
          have nb := (Below.refl wd.heap.size wd).alloc (Nat.le_refl _) (.cells #[] 3)
          obtain ⟨a6, ha6⟩ : ∃ x, x = wd.heap.size := ⟨_, rfl⟩
          rw [← ha6]
          clear ha6
          replace hbl : Below w.heap.size w (wd.alloc (.cells #[] 3)) := hbl.trans (nb.mono hbl.size)
          replace Rb := Rb.below nb Rb.lt
          replace RR := RR.below nb RR.lt
          clear nb
          generalize wd.alloc (.cells #[] 3) = wd at hbl Rb RR ⊢
          refine hK.out _ _ ?_ (fun hHeld => ?_)
          · exact ⟨Rb.cell 2, Rb.cell 3, Rb.cell 4⟩
          clear hK K
          try simp only [Act.put, List.setIfInBounds_toArray, List.set_cons_zero, List.set_cons_succ]
          refine reg_call2 (i := 9) (j := 11) (by kernel_rfl) rfl rfl (fun K hK => ?_) (fun K hK => ?_)
          · obtain ⟨A16, n16, c16, wq, r9, tn, nb⟩ := append_ints wd lo w.heap.size ⟨a6, 0, none⟩ A4 n4 c4 (tv.keep (Chg.below hbl)) hbl.size (by omega)
            rw [if_pos (show Region.wanted _ _ = true by kernel_rfl)]
            refine Lib.wp_append_run_sl _ _ _ 28 rfl _ _ rfl rfl r9 ?_
            clear r9
            replace hbl : Below w.heap.size w wq := hbl.trans (nb.mono hbl.size)
            replace Rb := Rb.below nb Rb.lt
            replace RR := RR.below nb RR.lt
            clear nb
            obtain ⟨wd, hwd⟩ : ∃ x, x = wq := ⟨_, rfl⟩
            subst hwd
            refine hK.out _ _ ?_ (fun hHeld => ?_)
            · exact ⟨Rb.cell 2, Rb.cell 3, Rb.cell 4⟩
            clear hK K
            try simp only [Act.put, List.setIfInBounds_toArray, List.set_cons_zero, List.set_cons_succ]
            refine reg_take (i := 10) (v := ?v35) rfl (by kernel_rfl) (by kernel_rfl) (by kernel_rfl) (fun _ _ _ h => h) (Or.inl ⟨by kernel_rfl, ?h35⟩) (by assumption) ?r35
            case h35 => (intro w hSw; (try dsimp only at hSw); go_simp; try with_reducible rfl)
            try simp only [Act.put, List.setIfInBounds_toArray, List.set_cons_zero, List.set_cons_succ]
            refine reg_call (i := 11) (by kernel_rfl) rfl (fun K hK => ?_)
            go_simp
            have nb := (Below.refl wd.heap.size wd).alloc (Nat.le_refl _) (.cells #[.slice none 0 0, .slice none 0 0, .int .i64 0, .int .i64 0, .slice none 0 0] 34)
            have Rg := Row.new wd 34 #[.slice none 0 0, .slice none 0 0, .int .i64 0, .int .i64 0, .slice none 0 0]
            have hgb : w.heap.size + 1 < wd.heap.size := RR.lt
            replace hbl : Below w.heap.size w (wd.alloc (.cells #[.slice none 0 0, .slice none 0 0, .int .i64 0, .int .i64 0, .slice none 0 0] 34)) := hbl.trans (nb.mono hbl.size)
            replace Rb := Rb.below nb Rb.lt
            replace RR := RR.below nb RR.lt
            replace tn := tn.keep (Chg.below (lo := w.heap.size) nb)
            clear nb
            generalize hgbv : wd.heap.size = gb at Rg hgb ⊢
            clear hgbv
            generalize wd.alloc (.cells #[.slice none 0 0, .slice none 0 0, .int .i64 0, .int .i64 0, .slice none 0 0] 34) = wd at hbl Rb RR tn Rg ⊢
            refine hK.out _ _ ?_ (fun hHeld => ?_)
            · exact ⟨Rb.cell 2, Rb.cell 3, Rb.cell 4⟩
            clear hK K
            try simp only [Act.put, List.setIfInBounds_toArray, List.set_cons_zero, List.set_cons_succ]
            refine reg_call (i := 12) (by kernel_rfl) rfl (fun K hK => ?_)
            rw [if_pos (show Region.wanted _ _ = true by kernel_rfl)]
            refine wp_store_mid 34 _ _ rfl gb 0 #[.slice (some ⟨_, 0, none⟩) 0 0, .slice (some ⟨_, 0, none⟩) 0 0, .int .i64 jp, .int .i64 on, .slice A16 n16 c16] rfl rfl (row_there Rg 5 (by decide)) size_block (by simp [Value.oneCell']) ?_
            rw [set5_eq]
            refine hK.out _ _ ?_ (fun hHeld => ?_)
            · exact ⟨(row_far5 Rb (by omega) _ _ _ _ _).cell 2, (row_far5 Rb (by omega) _ _ _ _ _).cell 3, (row_far5 Rb (by omega) _ _ _ _ _).cell 4⟩
            clear hK K
            try simp only [Act.put, List.setIfInBounds_toArray, List.set_cons_zero, List.set_cons_succ]
            refine wpAnyH_done (by kernel_rfl) ?_ _
            go_wp2_with fail
            go_meet
            exact ⟨gb, _, _, A16, n16, c16, rfl, hgb, copy_leaf Rg tn Rb RR hbl hgb⟩
          go_simp
          have nb := (Below.refl wd.heap.size wd).alloc (Nat.le_refl _) (.cells #[.slice none 0 0, .slice none 0 0, .int .i64 0, .int .i64 0, .slice none 0 0] 34)
          have Rg := Row.new wd 34 #[.slice none 0 0, .slice none 0 0, .int .i64 0, .int .i64 0, .slice none 0 0]
          have hgb : w.heap.size + 1 < wd.heap.size := RR.lt
          replace hbl : Below w.heap.size w (wd.alloc (.cells #[.slice none 0 0, .slice none 0 0, .int .i64 0, .int .i64 0, .slice none 0 0] 34)) := hbl.trans (nb.mono hbl.size)
          replace Rb := Rb.below nb Rb.lt
          replace RR := RR.below nb RR.lt
          clear nb
          generalize hgbv : wd.heap.size = gb at Rg hgb ⊢
          clear hgbv
          generalize wd.alloc (.cells #[.slice none 0 0, .slice none 0 0, .int .i64 0, .int .i64 0, .slice none 0 0] 34) = wd at hbl Rb RR Rg ⊢
          refine hK.out _ _ ?_ (fun hHeld => ?_)
          · exact ⟨Rb.cell 2, Rb.cell 3, Rb.cell 4⟩
          clear hK K
          try simp only [Act.put, List.setIfInBounds_toArray, List.set_cons_zero, List.set_cons_succ]
          refine reg_call (i := 9) (by kernel_rfl) rfl (fun K hK => ?_)
          obtain ⟨A16, n16, c16, wq, r9, tn, nb⟩ := append_ints wd lo w.heap.size ⟨a6, 0, none⟩ A4 n4 c4 (tv.keep (Chg.below hbl)) hbl.size (by omega)
          rw [if_pos (show Region.wanted _ _ = true by kernel_rfl)]
          refine Lib.wp_append_run_sl _ _ _ 28 rfl _ _ rfl rfl r9 ?_
          clear r9
          replace hbl : Below w.heap.size w wq := hbl.trans (nb.mono hbl.size)
          replace Rb := Rb.below nb Rb.lt
          replace RR := RR.below nb RR.lt
          replace Rg := Rg.below nb Rg.lt
          clear nb
          obtain ⟨wd, hwd⟩ : ∃ x, x = wq := ⟨_, rfl⟩
          subst hwd
          refine hK.out _ _ ?_ (fun hHeld => ?_)
          · exact ⟨Rb.cell 2, Rb.cell 3, Rb.cell 4⟩
          clear hK K
          try simp only [Act.put, List.setIfInBounds_toArray, List.set_cons_zero, List.set_cons_succ]
          refine reg_take (i := 10) (v := ?v36) rfl (by kernel_rfl) (by kernel_rfl) (by kernel_rfl) (fun _ _ _ h => h) (Or.inl ⟨by kernel_rfl, ?h36⟩) (by assumption) ?r36
          case h36 => (intro w hSw; (try dsimp only at hSw); go_simp; try with_reducible rfl)
          try simp only [Act.put, List.setIfInBounds_toArray, List.set_cons_zero, List.set_cons_succ]
          refine reg_call (i := 12) (by kernel_rfl) rfl (fun K hK => ?_)
          rw [if_pos (show Region.wanted _ _ = true by kernel_rfl)]
          refine wp_store_mid 34 _ _ rfl gb 0 #[.slice (some ⟨_, 0, none⟩) 0 0, .slice (some ⟨_, 0, none⟩) 0 0, .int .i64 jp, .int .i64 on, .slice A16 n16 c16] rfl rfl (row_there Rg 5 (by decide)) size_block (by simp [Value.oneCell']) ?_
          rw [set5_eq]
          refine hK.out _ _ ?_ (fun hHeld => ?_)
          · exact ⟨(row_far5 Rb (by omega) _ _ _ _ _).cell 2, (row_far5 Rb (by omega) _ _ _ _ _).cell 3, (row_far5 Rb (by omega) _ _ _ _ _).cell 4⟩
          clear hK K
          try simp only [Act.put, List.setIfInBounds_toArray, List.set_cons_zero, List.set_cons_succ]
          refine wpAnyH_done (by kernel_rfl) ?_ _
          go_wp2_with fail
          go_meet
          exact ⟨gb, _, _, A16, n16, c16, rfl, hgb, copy_leaf Rg tn Rb RR hbl hgb⟩
        go_simp
        have nb := (Below.refl wd.heap.size wd).alloc (Nat.le_refl _) (.cells #[.slice none 0 0, .slice none 0 0, .int .i64 0, .int .i64 0, .slice none 0 0] 34)
        have Rg := Row.new wd 34 #[.slice none 0 0, .slice none 0 0, .int .i64 0, .int .i64 0, .slice none 0 0]
        have hgb : w.heap.size + 1 < wd.heap.size := RR.lt
        replace hbl : Below w.heap.size w (wd.alloc (.cells #[.slice none 0 0, .slice none 0 0, .int .i64 0, .int .i64 0, .slice none 0 0] 34)) := hbl.trans (nb.mono hbl.size)
        replace Rb := Rb.below nb Rb.lt
        replace RR := RR.below nb RR.lt
        clear nb
        generalize hgbv : wd.heap.size = gb at Rg hgb ⊢
        clear hgbv
        generalize wd.alloc (.cells #[.slice none 0 0, .slice none 0 0, .int .i64 0, .int .i64 0, .slice none 0 0] 34) = wd at hbl Rb RR Rg ⊢
        refine hK.out _ _ ?_ (fun hHeld => ?_)
        · exact ⟨Rb.cell 2, Rb.cell 3, Rb.cell 4⟩
        clear hK K
        try simp only [Act.put, List.setIfInBounds_toArray, List.set_cons_zero, List.set_cons_succ]
        refine reg_call (i := 6) (by kernel_rfl) rfl (fun K hK => ?_)
        go_simp
        have nb := (Below.refl wd.heap.size wd).alloc (Nat.le_refl _) (.cells #[] 3)
        obtain ⟨a6, ha6⟩ : ∃ x, x = wd.heap.size := ⟨_, rfl⟩
        rw [← ha6]
        clear ha6
        replace hbl : Below w.heap.size w (wd.alloc (.cells #[] 3)) := hbl.trans (nb.mono hbl.size)
        replace Rb := Rb.below nb Rb.lt
        replace RR := RR.below nb RR.lt
        replace Rg := Rg.below nb Rg.lt
        clear nb
        generalize wd.alloc (.cells #[] 3) = wd at hbl Rb RR Rg ⊢
        refine hK.out _ _ ?_ (fun hHeld => ?_)
        · exact ⟨Rb.cell 2, Rb.cell 3, Rb.cell 4⟩
        clear hK K
        try simp only [Act.put, List.setIfInBounds_toArray, List.set_cons_zero, List.set_cons_succ]
        refine reg_call (i := 9) (by kernel_rfl) rfl (fun K hK => ?_)
        obtain ⟨A16, n16, c16, wq, r9, tn, nb⟩ := append_ints wd lo w.heap.size ⟨a6, 0, none⟩ A4 n4 c4 (tv.keep (Chg.below hbl)) hbl.size (by omega)
        rw [if_pos (show Region.wanted _ _ = true by kernel_rfl)]
        refine Lib.wp_append_run_sl _ _ _ 28 rfl _ _ rfl rfl r9 ?_
        clear r9
        replace hbl : Below w.heap.size w wq := hbl.trans (nb.mono hbl.size)
        replace Rb := Rb.below nb Rb.lt
        replace RR := RR.below nb RR.lt
        replace Rg := Rg.below nb Rg.lt
        clear nb
        obtain ⟨wd, hwd⟩ : ∃ x, x = wq := ⟨_, rfl⟩
        subst hwd
        refine hK.out _ _ ?_ (fun hHeld => ?_)
        · exact ⟨Rb.cell 2, Rb.cell 3, Rb.cell 4⟩
        clear hK K
        try simp only [Act.put, List.setIfInBounds_toArray, List.set_cons_zero, List.set_cons_succ]
        refine reg_take (i := 10) (v := ?v37) rfl (by kernel_rfl) (by kernel_rfl) (by kernel_rfl) (fun _ _ _ h => h) (Or.inl ⟨by kernel_rfl, ?h37⟩) (by assumption) ?r37
        case h37 => (intro w hSw; (try dsimp only at hSw); go_simp; try with_reducible rfl)
        try simp only [Act.put, List.setIfInBounds_toArray, List.set_cons_zero, List.set_cons_succ]
        refine reg_call (i := 12) (by kernel_rfl) rfl (fun K hK => ?_)
        rw [if_pos (show Region.wanted _ _ = true by kernel_rfl)]
        refine wp_store_mid 34 _ _ rfl gb 0 #[.slice (some ⟨_, 0, none⟩) 0 0, .slice (some ⟨_, 0, none⟩) 0 0, .int .i64 jp, .int .i64 on, .slice A16 n16 c16] rfl rfl (row_there Rg 5 (by decide)) size_block (by simp [Value.oneCell']) ?_
        rw [set5_eq]
        refine hK.out _ _ ?_ (fun hHeld => ?_)
        · exact ⟨(row_far5 Rb (by omega) _ _ _ _ _).cell 2, (row_far5 Rb (by omega) _ _ _ _ _).cell 3, (row_far5 Rb (by omega) _ _ _ _ _).cell 4⟩
        clear hK K
        try simp only [Act.put, List.setIfInBounds_toArray, List.set_cons_zero, List.set_cons_succ]
        refine wpAnyH_done (by kernel_rfl) ?_ _
        go_wp2_with fail
        go_meet
        exact ⟨gb, _, _, A16, n16, c16, rfl, hgb, copy_leaf Rg tn Rb RR hbl hgb⟩
      · go_simp
        have nb := (Below.refl wd.heap.size wd).alloc (Nat.le_refl _) (.cells #[] 3)
        obtain ⟨a6, ha6⟩ : ∃ x, x = wd.heap.size := ⟨_, rfl⟩
        rw [← ha6]
        clear ha6
        replace hbl : Below w.heap.size w (wd.alloc (.cells #[] 3)) := hbl.trans (nb.mono hbl.size)
        replace Rb := Rb.below nb Rb.lt
        replace RR := RR.below nb RR.lt
        clear nb
        generalize wd.alloc (.cells #[] 3) = wd at hbl Rb RR ⊢
        refine hK.out _ _ ?_ (fun hHeld => ?_)
        · exact ⟨Rb.cell 2, Rb.cell 3, Rb.cell 4⟩
        clear hK K
        try simp only [Act.put, List.setIfInBounds_toArray, List.set_cons_zero, List.set_cons_succ]
        refine reg_call3 (i := 0) (j := 9) (k := 11) (by kernel_rfl) rfl rfl rfl (fun K hK => ?_) (fun K hK => ?_) (fun K hK => ?_)
        · go_simp
          have nb := (Below.refl wd.heap.size wd).alloc (Nat.le_refl _) (.cells #[] 68)
          replace hbl : Below w.heap.size w (wd.alloc (.cells #[] 68)) := hbl.trans (nb.mono hbl.size)
          replace Rb := Rb.below nb Rb.lt
          replace RR := RR.below nb RR.lt
          clear nb
          generalize wd.alloc (.cells #[] 68) = wd at hbl Rb RR ⊢
          refine hK.out _ _ ?_ (fun hHeld => ?_)
          · exact ⟨Rb.cell 2, Rb.cell 3, Rb.cell 4⟩
          clear hK K
          try simp only [Act.put, List.setIfInBounds_toArray, List.set_cons_zero, List.set_cons_succ]
          refine reg_call2 (i := 9) (j := 11) (by kernel_rfl) rfl rfl (fun K hK => ?_) (fun K hK => ?_)
          · obtain ⟨A16, n16, c16, wq, r9, tn, nb⟩ := append_ints wd lo w.heap.size ⟨a6, 0, none⟩ A4 n4 c4 (tv.keep (Chg.below hbl)) hbl.size (by omega)
            rw [if_pos (show Region.wanted _ _ = true by kernel_rfl)]
            refine Lib.wp_append_run_sl _ _ _ 28 rfl _ _ rfl rfl r9 ?_
            clear r9
            replace hbl : Below w.heap.size w wq := hbl.trans (nb.mono hbl.size)
            replace Rb := Rb.below nb Rb.lt
            replace RR := RR.below nb RR.lt
            clear nb
            obtain ⟨wd, hwd⟩ : ∃ x, x = wq := ⟨_, rfl⟩
            subst hwd
            refine hK.out _ _ ?_ (fun hHeld => ?_)
            · exact ⟨Rb.cell 2, Rb.cell 3, Rb.cell 4⟩
            clear hK K
            try simp only [Act.put, List.setIfInBounds_toArray, List.set_cons_zero, List.set_cons_succ]
            refine reg_take (i := 10) (v := ?v38) rfl (by kernel_rfl) (by kernel_rfl) (by kernel_rfl) (fun _ _ _ h => h) (Or.inl ⟨by kernel_rfl, ?h38⟩) (by assumption) ?r38
            case h38 => (intro w hSw; (try dsimp only at hSw); go_simp; try with_reducible rfl)
            try simp only [Act.put, List.setIfInBounds_toArray, List.set_cons_zero, List.set_cons_succ]
            refine reg_call (i := 11) (by kernel_rfl) rfl (fun K hK => ?_)
            go_simp
            have nb := (Below.refl wd.heap.size wd).alloc (Nat.le_refl _) (.cells #[.slice none 0 0, .slice none 0 0, .int .i64 0, .int .i64 0, .slice none 0 0] 34)
            have Rg := Row.new wd 34 #[.slice none 0 0, .slice none 0 0, .int .i64 0, .int .i64 0, .slice none 0 0]
            have hgb : w.heap.size + 1 < wd.heap.size := RR.lt
            replace hbl : Below w.heap.size w (wd.alloc (.cells #[.slice none 0 0, .slice none 0 0, .int .i64 0, .int .i64 0, .slice none 0 0] 34)) := hbl.trans (nb.mono hbl.size)
            replace Rb := Rb.below nb Rb.lt
            replace RR := RR.below nb RR.lt
            replace tn := tn.keep (Chg.below (lo := w.heap.size) nb)
            clear nb
            generalize hgbv : wd.heap.size = gb at Rg hgb ⊢
            clear hgbv
            generalize wd.alloc (.cells #[.slice none 0 0, .slice none 0 0, .int .i64 0, .int .i64 0, .slice none 0 0] 34) = wd at hbl Rb RR tn Rg ⊢
            refine hK.out _ _ ?_ (fun hHeld => ?_)
            · exact ⟨Rb.cell 2, Rb.cell 3, Rb.cell 4⟩
            clear hK K
            try simp only [Act.put, List.setIfInBounds_toArray, List.set_cons_zero, List.set_cons_succ]
            refine reg_call (i := 12) (by kernel_rfl) rfl (fun K hK => ?_)
            rw [if_pos (show Region.wanted _ _ = true by kernel_rfl)]
            refine wp_store_mid 34 _ _ rfl gb 0 #[.slice (some ⟨_, 0, none⟩) 0 0, .slice (some ⟨_, 0, none⟩) 0 0, .int .i64 jp, .int .i64 on, .slice A16 n16 c16] rfl rfl (row_there Rg 5 (by decide)) size_block (by simp [Value.oneCell']) ?_
            rw [set5_eq]
            refine hK.out _ _ ?_ (fun hHeld => ?_)
            · exact ⟨(row_far5 Rb (by omega) _ _ _ _ _).cell 2, (row_far5 Rb (by omega) _ _ _ _ _).cell 3, (row_far5 Rb (by omega) _ _ _ _ _).cell 4⟩
            clear hK K
            try simp only [Act.put, List.setIfInBounds_toArray, List.set_cons_zero, List.set_cons_succ]
            refine wpAnyH_done (by kernel_rfl) ?_ _
            go_wp2_with fail
            go_meet
            exact ⟨gb, _, _, A16, n16, c16, rfl, hgb, copy_leaf Rg tn Rb RR hbl hgb⟩
          go_simp
          have nb := (Below.refl wd.heap.size wd).alloc (Nat.le_refl _) (.cells #[.slice none 0 0, .slice none 0 0, .int .i64 0, .int .i64 0, .slice none 0 0] 34)
          have Rg := Row.new wd 34 #[.slice none 0 0, .slice none 0 0, .int .i64 0, .int .i64 0, .slice none 0 0]
          have hgb : w.heap.size + 1 < wd.heap.size := RR.lt
          replace hbl : Below w.heap.size w (wd.alloc (.cells #[.slice none 0 0, .slice none 0 0, .int .i64 0, .int .i64 0, .slice none 0 0] 34)) := hbl.trans (nb.mono hbl.size)
          replace Rb := Rb.below nb Rb.lt
          replace RR := RR.below nb RR.lt
          clear nb
          generalize hgbv : wd.heap.size = gb at Rg hgb ⊢
          clear hgbv
          generalize wd.alloc (.cells #[.slice none 0 0, .slice none 0 0, .int .i64 0, .int .i64 0, .slice none 0 0] 34) = wd at hbl Rb RR Rg ⊢
          refine hK.out _ _ ?_ (fun hHeld => ?_)
          · exact ⟨Rb.cell 2, Rb.cell 3, Rb.cell 4⟩
          clear hK K
          try simp only [Act.put, List.setIfInBounds_toArray, List.set_cons_zero, List.set_cons_succ]
          refine reg_call (i := 9) (by kernel_rfl) rfl (fun K hK => ?_)
          obtain ⟨A16, n16, c16, wq, r9, tn, nb⟩ := append_ints wd lo w.heap.size ⟨a6, 0, none⟩ A4 n4 c4 (tv.keep (Chg.below hbl)) hbl.size (by omega)
          rw [if_pos (show Region.wanted _ _ = true by kernel_rfl)]
          refine Lib.wp_append_run_sl _ _ _ 28 rfl _ _ rfl rfl r9 ?_
          clear r9
          replace hbl : Below w.heap.size w wq := hbl.trans (nb.mono hbl.size)
          replace Rb := Rb.below nb Rb.lt
          replace RR := RR.below nb RR.lt
          replace Rg := Rg.below nb Rg.lt
          clear nb
          obtain ⟨wd, hwd⟩ : ∃ x, x = wq := ⟨_, rfl⟩
          subst hwd
          refine hK.out _ _ ?_ (fun hHeld => ?_)
          · exact ⟨Rb.cell 2, Rb.cell 3, Rb.cell 4⟩
          clear hK K
          try simp only [Act.put, List.setIfInBounds_toArray, List.set_cons_zero, List.set_cons_succ]
          refine reg_take (i := 10) (v := ?v39) rfl (by kernel_rfl) (by kernel_rfl) (by kernel_rfl) (fun _ _ _ h => h) (Or.inl ⟨by kernel_rfl, ?h39⟩) (by assumption) ?r39
          case h39 => (intro w hSw; (try dsimp only at hSw); go_simp; try with_reducible rfl)
          try simp only [Act.put, List.setIfInBounds_toArray, List.set_cons_zero, List.set_cons_succ]
          refine reg_call (i := 12) (by kernel_rfl) rfl (fun K hK => ?_)
          rw [if_pos (show Region.wanted _ _ = true by kernel_rfl)]
          refine wp_store_mid 34 _ _ rfl gb 0 #[.slice (some ⟨_, 0, none⟩) 0 0, .slice (some ⟨_, 0, none⟩) 0 0, .int .i64 jp, .int .i64 on, .slice A16 n16 c16] rfl rfl (row_there Rg 5 (by decide)) size_block (by simp [Value.oneCell']) ?_
          rw [set5_eq]
          refine hK.out _ _ ?_ (fun hHeld => ?_)
          · exact ⟨(row_far5 Rb (by omega) _ _ _ _ _).cell 2, (row_far5 Rb (by omega) _ _ _ _ _).cell 3, (row_far5 Rb (by omega) _ _ _ _ _).cell 4⟩
          clear hK K
          try simp only [Act.put, List.setIfInBounds_toArray, List.set_cons_zero, List.set_cons_succ]
          refine wpAnyH_done (by kernel_rfl) ?_ _
          go_wp2_with fail
          go_meet
          exact ⟨gb, _, _, A16, n16, c16, rfl, hgb, copy_leaf Rg tn Rb RR hbl hgb⟩
        · obtain ⟨A16, n16, c16, wq, r9, tn, nb⟩ := append_ints wd lo w.heap.size ⟨a6, 0, none⟩ A4 n4 c4 (tv.keep (Chg.below hbl)) hbl.size (by omega)
          rw [if_pos (show Region.wanted _ _ = true by kernel_rfl)]
          refine Lib.wp_append_run_sl _ _ _ 28 rfl _ _ rfl rfl r9 ?_
          clear r9
          replace hbl : Below w.heap.size w wq := hbl.trans (nb.mono hbl.size)
          replace Rb := Rb.below nb Rb.lt
          replace RR := RR.below nb RR.lt
          clear nb
          obtain ⟨wd, hwd⟩ : ∃ x, x = wq := ⟨_, rfl⟩
          subst hwd
          refine hK.out _ _ ?_ (fun hHeld => ?_)
          · exact ⟨Rb.cell 2, Rb.cell 3, Rb.cell 4⟩
          clear hK K
          try simp only [Act.put, List.setIfInBounds_toArray, List.set_cons_zero, List.set_cons_succ]
          refine reg_call2 (i := 0) (j := 11) (by kernel_rfl) rfl rfl (fun K hK => ?_) (fun K hK => ?_)
          · go_simp
            have nb := (Below.refl wd.heap.size wd).alloc (Nat.le_refl _) (.cells #[] 68)
            replace hbl : Below w.heap.size w (wd.alloc (.cells #[] 68)) := hbl.trans (nb.mono hbl.size)
            replace Rb := Rb.below nb Rb.lt
            replace RR := RR.below nb RR.lt
            replace tn := tn.keep (Chg.below (lo := w.heap.size) nb)
            clear nb
            generalize wd.alloc (.cells #[] 68) = wd at hbl Rb RR tn ⊢
            refine hK.out _ _ ?_ (fun hHeld => ?_)
            · exact ⟨Rb.cell 2, Rb.cell 3, Rb.cell 4⟩
            clear hK K
            try simp only [Act.put, List.setIfInBounds_toArray, List.set_cons_zero, List.set_cons_succ]
            refine reg_take (i := 10) (v := ?v40) rfl (by kernel_rfl) (by kernel_rfl) (by kernel_rfl) (fun _ _ _ h => h) (Or.inl ⟨by kernel_rfl, ?h40⟩) (by assumption) ?r40
            case h40 => (intro w hSw; (try dsimp only at hSw); go_simp; try with_reducible rfl)
            try simp only [Act.put, List.setIfInBounds_toArray, List.set_cons_zero, List.set_cons_succ]
            refine reg_call (i := 11) (by kernel_rfl) rfl (fun K hK => ?_)
            go_simp
            have nb := (Below.refl wd.heap.size wd).alloc (Nat.le_refl _) (.cells #[.slice none 0 0, .slice none 0 0, .int .i64 0, .int .i64 0, .slice none 0 0] 34)
            have Rg := Row.new wd 34 #[.slice none 0 0, .slice none 0 0, .int .i64 0, .int .i64 0, .slice none 0 0]
            have hgb : w.heap.size + 1 < wd.heap.size := RR.lt
            replace hbl : Below w.heap.size w (wd.alloc (.cells #[.slice none 0 0, .slice none 0 0, .int .i64 0, .int .i64 0, .slice none 0 0] 34)) := hbl.trans (nb.mono hbl.size)
            replace Rb := Rb.below nb Rb.lt
            replace RR := RR.below nb RR.lt
            replace tn := tn.keep (Chg.below (lo := w.heap.size) nb)
            clear nb
            generalize hgbv : wd.heap.size = gb at Rg hgb ⊢
            clear hgbv
            generalize wd.alloc (.cells #[.slice none 0 0, .slice none 0 0, .int .i64 0, .int .i64 0, .slice none 0 0] 34) = wd at hbl Rb RR tn Rg ⊢
            refine hK.out _ _ ?_ (fun hHeld => ?_)
            · exact ⟨Rb.cell 2, Rb.cell 3, Rb.cell 4⟩
            clear hK K
            try simp only [Act.put, List.setIfInBounds_toArray, List.set_cons_zero, List.set_cons_succ]
            refine reg_call (i := 12) (by kernel_rfl) rfl (fun K hK => ?_)
            rw [if_pos (show Region.wanted _ _ = true by kernel_rfl)]
            refine wp_store_mid 34 _ _ rfl gb 0 #[.slice (some ⟨_, 0, none⟩) 0 0, .slice (some ⟨_, 0, none⟩) 0 0, .int .i64 jp, .int .i64 on, .slice A16 n16 c16] rfl rfl (row_there Rg 5 (by decide)) size_block (by simp [Value.oneCell']) ?_
            rw [set5_eq]
            refine hK.out _ _ ?_ (fun hHeld => ?_)
            · exact ⟨(row_far5 Rb (by omega) _ _ _ _ _).cell 2, (row_far5 Rb (by omega) _ _ _ _ _).cell 3, (row_far5 Rb (by omega) _ _ _ _ _).cell 4⟩
            clear hK K
            try simp only [Act.put, List.setIfInBounds_toArray, List.set_cons_zero, List.set_cons_succ]
            refine wpAnyH_done (by kernel_rfl) ?_ _
            go_wp2_with fail
            go_meet
            exact ⟨gb, _, _, A16, n16, c16, rfl, hgb, copy_leaf Rg tn Rb RR hbl hgb⟩
          go_simp
          have nb := (Below.refl wd.heap.size wd).alloc (Nat.le_refl _) (.cells #[.slice none 0 0, .slice none 0 0, .int .i64 0, .int .i64 0, .slice none 0 0] 34)
          have Rg := Row.new wd 34 #[.slice none 0 0, .slice none 0 0, .int .i64 0, .int .i64 0, .slice none 0 0]
          have hgb : w.heap.size + 1 < wd.heap.size := RR.lt
          replace hbl : Below w.heap.size w (wd.alloc (.cells #[.slice none 0 0, .slice none 0 0, .int .i64 0, .int .i64 0, .slice none 0 0] 34)) := hbl.trans (nb.mono hbl.size)
          replace Rb := Rb.below nb Rb.lt
          replace RR := RR.below nb RR.lt
          replace tn := tn.keep (Chg.below (lo := w.heap.size) nb)
          clear nb
          generalize hgbv : wd.heap.size = gb at Rg hgb ⊢
          clear hgbv
          generalize wd.alloc (.cells #[.slice none 0 0, .slice none 0 0, .int .i64 0, .int .i64 0, .slice none 0 0] 34) = wd at hbl Rb RR tn Rg ⊢
          refine hK.out _ _ ?_ (fun hHeld => ?_)
          · exact ⟨Rb.cell 2, Rb.cell 3, Rb.cell 4⟩
          clear hK K
          try simp only [Act.put, List.setIfInBounds_toArray, List.set_cons_zero, List.set_cons_succ]
          refine reg_call (i := 0) (by kernel_rfl) rfl (fun K hK => ?_)
          go_simp
          have nb := (Below.refl wd.heap.size wd).alloc (Nat.le_refl _) (.cells #[] 68)
          replace hbl : Below w.heap.size w (wd.alloc (.cells #[] 68)) := hbl.trans (nb.mono hbl.size)
          replace Rb := Rb.below nb Rb.lt
          replace RR := RR.below nb RR.lt
          replace tn := tn.keep (Chg.below (lo := w.heap.size) nb)
          replace Rg := Rg.below nb Rg.lt
          clear nb
          generalize wd.alloc (.cells #[] 68) = wd at hbl Rb RR tn Rg ⊢
          refine hK.out _ _ ?_ (fun hHeld => ?_)
          · exact ⟨Rb.cell 2, Rb.cell 3, Rb.cell 4⟩
          clear hK K
          try simp only [Act.put, List.setIfInBounds_toArray, List.set_cons_zero, List.set_cons_succ]
          refine reg_take (i := 10) (v := ?v41) rfl (by kernel_rfl) (by kernel_rfl) (by kernel_rfl) (fun _ _ _ h => h) (Or.inl ⟨by kernel_rfl, ?h41⟩) (by assumption) ?r41
          case h41 => (intro w hSw; (try dsimp only at hSw); go_simp; try with_reducible rfl)
          try simp only [Act.put, List.setIfInBounds_toArray, List.set_cons_zero, List.set_cons_succ]
          refine reg_call (i := 12) (by kernel_rfl) rfl (fun K hK => ?_)
          rw [if_pos (show Region.wanted _ _ = true by kernel_rfl)]
          refine wp_store_mid 34 _ _ rfl gb 0 #[.slice (some ⟨_, 0, none⟩) 0 0, .slice (some ⟨_, 0, none⟩) 0 0, .int .i64 jp, .int .i64 on, .slice A16 n16 c16] rfl rfl (row_there Rg 5 (by decide)) size_block (by simp [Value.oneCell']) ?_
          rw [set5_eq]
          refine hK.out _ _ ?_ (fun hHeld => ?_)
          · exact ⟨(row_far5 Rb (by omega) _ _ _ _ _).cell 2, (row_far5 Rb (by omega) _ _ _ _ _).cell 3, (row_far5 Rb (by omega) _ _ _ _ _).cell 4⟩
          clear hK K
          try simp only [Act.put, List.setIfInBounds_toArray, List.set_cons_zero, List.set_cons_succ]
          refine wpAnyH_done (by kernel_rfl) ?_ _
          go_wp2_with fail
          go_meet
          exact ⟨gb, _, _, A16, n16, c16, rfl, hgb, copy_leaf Rg tn Rb RR hbl hgb⟩
        go_simp
        have nb := (Below.refl wd.heap.size wd).alloc (Nat.le_refl _) (.cells #[.slice none 0 0, .slice none 0 0, .int .i64 0, .int .i64 0, .slice none 0 0] 34)
        have Rg := Row.new wd 34 #[.slice none 0 0, .slice none 0 0, .int .i64 0, .int .i64 0, .slice none 0 0]
        have hgb : w.heap.size + 1 < wd.heap.size := RR.lt
        replace hbl : Below w.heap.size w (wd.alloc (.cells #[.slice none 0 0, .slice none 0 0, .int .i64 0, .int .i64 0, .slice none 0 0] 34)) := hbl.trans (nb.mono hbl.size)
        replace Rb := Rb.below nb Rb.lt
        replace RR := RR.below nb RR.lt
        clear nb
        generalize hgbv : wd.heap.size = gb at Rg hgb ⊢
        clear hgbv
        generalize wd.alloc (.cells #[.slice none 0 0, .slice none 0 0, .int .i64 0, .int .i64 0, .slice none 0 0] 34) = wd at hbl Rb RR Rg ⊢
        refine hK.out _ _ ?_ (fun hHeld => ?_)
        · exact ⟨Rb.cell 2, Rb.cell 3, Rb.cell 4⟩
        clear hK K
        try simp only [Act.put, List.setIfInBounds_toArray, List.set_cons_zero, List.set_cons_succ]
        refine reg_call2 (i := 0) (j := 9) (by kernel_rfl) rfl rfl (fun K hK => ?_) (fun K hK => ?_)
        · go_simp
          have nb := (Below.refl wd.heap.size wd).alloc (Nat.le_refl _) (.cells #[] 68)
          replace hbl : Below w.heap.size w (wd.alloc (.cells #[] 68)) := hbl.trans (nb.mono hbl.size)
          replace Rb := Rb.below nb Rb.lt
          replace RR := RR.below nb RR.lt
          replace Rg := Rg.below nb Rg.lt
          clear nb
          generalize wd.alloc (.cells #[] 68) = wd at hbl Rb RR Rg ⊢
          refine hK.out _ _ ?_ (fun hHeld => ?_)
          · exact ⟨Rb.cell 2, Rb.cell 3, Rb.cell 4⟩
          clear hK K
          try simp only [Act.put, List.setIfInBounds_toArray, List.set_cons_zero, List.set_cons_succ]
          refine reg_call (i := 9) (by kernel_rfl) rfl (fun K hK => ?_)
          obtain ⟨A16, n16, c16, wq, r9, tn, nb⟩ := append_ints wd lo w.heap.size ⟨a6, 0, none⟩ A4 n4 c4 (tv.keep (Chg.below hbl)) hbl.size (by omega)
          rw [if_pos (show Region.wanted _ _ = true by kernel_rfl)]
          refine Lib.wp_append_run_sl _ _ _ 28 rfl _ _ rfl rfl r9 ?_
          clear r9
          replace hbl : Below w.heap.size w wq := hbl.trans (nb.mono hbl.size)
          replace Rb := Rb.below nb Rb.lt
          replace RR := RR.below nb RR.lt
          replace Rg := Rg.below nb Rg.lt
          clear nb
          obtain ⟨wd, hwd⟩ : ∃ x, x = wq := ⟨_, rfl⟩
          subst hwd
          refine hK.out _ _ ?_ (fun hHeld => ?_)
          · exact ⟨Rb.cell 2, Rb.cell 3, Rb.cell 4⟩
          clear hK K
          try simp only [Act.put, List.setIfInBounds_toArray, List.set_cons_zero, List.set_cons_succ]
          refine reg_take (i := 10) (v := ?v42) rfl (by kernel_rfl) (by kernel_rfl) (by kernel_rfl) (fun _ _ _ h => h) (Or.inl ⟨by kernel_rfl, ?h42⟩) (by assumption) ?r42
          case h42 => (intro w hSw; (try dsimp only at hSw); go_simp; try with_reducible rfl)
          try simp only [Act.put, List.setIfInBounds_toArray, List.set_cons_zero, List.set_cons_succ]
          refine reg_call (i := 12) (by kernel_rfl) rfl (fun K hK => ?_)
          rw [if_pos (show Region.wanted _ _ = true by kernel_rfl)]
          refine wp_store_mid 34 _ _ rfl gb 0 #[.slice (some ⟨_, 0, none⟩) 0 0, .slice (some ⟨_, 0, none⟩) 0 0, .int .i64 jp, .int .i64 on, .slice A16 n16 c16] rfl rfl (row_there Rg 5 (by decide)) size_block (by simp [Value.oneCell']) ?_
          rw [set5_eq]
          refine hK.out _ _ ?_ (fun hHeld => ?_)
          · exact ⟨(row_far5 Rb (by omega) _ _ _ _ _).cell 2, (row_far5 Rb (by omega) _ _ _ _ _).cell 3, (row_far5 Rb (by omega) _ _ _ _ _).cell 4⟩
          clear hK K
          try simp only [Act.put, List.setIfInBounds_toArray, List.set_cons_zero, List.set_cons_succ]
          refine wpAnyH_done (by kernel_rfl) ?_ _
          go_wp2_with fail
          go_meet
          exact ⟨gb, _, _, A16, n16, c16, rfl, hgb, copy_leaf Rg tn Rb RR hbl hgb⟩
        obtain ⟨A16, n16, c16, wq, r9, tn, nb⟩ := append_ints wd lo w.heap.size ⟨a6, 0, none⟩ A4 n4 c4 (tv.keep (Chg.below hbl)) hbl.size (by omega)
        rw [if_pos (show Region.wanted _ _ = true by kernel_rfl)]
        refine Lib.wp_append_run_sl _ _ _ 28 rfl _ _ rfl rfl r9 ?_
        clear r9
        replace hbl : Below w.heap.size w wq := hbl.trans (nb.mono hbl.size)
        replace Rb := Rb.below nb Rb.lt
        replace RR := RR.below nb RR.lt
        replace Rg := Rg.below nb Rg.lt
        clear nb
        obtain ⟨wd, hwd⟩ : ∃ x, x = wq := ⟨_, rfl⟩
        subst hwd
        refine hK.out _ _ ?_ (fun hHeld => ?_)
        · exact ⟨Rb.cell 2, Rb.cell 3, Rb.cell 4⟩
        clear hK K
        try simp only [Act.put, List.setIfInBounds_toArray, List.set_cons_zero, List.set_cons_succ]
        refine reg_call (i := 0) (by kernel_rfl) rfl (fun K hK => ?_)
        go_simp
        have nb := (Below.refl wd.heap.size wd).alloc (Nat.le_refl _) (.cells #[] 68)
        replace hbl : Below w.heap.size w (wd.alloc (.cells #[] 68)) := hbl.trans (nb.mono hbl.size)
        replace Rb := Rb.below nb Rb.lt
        replace RR := RR.below nb RR.lt
        replace tn := tn.keep (Chg.below (lo := w.heap.size) nb)
        replace Rg := Rg.below nb Rg.lt
        clear nb
        generalize wd.alloc (.cells #[] 68) = wd at hbl Rb RR tn Rg ⊢
        refine hK.out _ _ ?_ (fun hHeld => ?_)
        · exact ⟨Rb.cell 2, Rb.cell 3, Rb.cell 4⟩
        clear hK K
        try simp only [Act.put, List.setIfInBounds_toArray, List.set_cons_zero, List.set_cons_succ]
        refine reg_take (i := 10) (v := ?v43) rfl (by kernel_rfl) (by kernel_rfl) (by kernel_rfl) (fun _ _ _ h => h) (Or.inl ⟨by kernel_rfl, ?h43⟩) (by assumption) ?r43
        case h43 => (intro w hSw; (try dsimp only at hSw); go_simp; try with_reducible rfl)
        try simp only [Act.put, List.setIfInBounds_toArray, List.set_cons_zero, List.set_cons_succ]
        refine reg_call (i := 12) (by kernel_rfl) rfl (fun K hK => ?_)
        rw [if_pos (show Region.wanted _ _ = true by kernel_rfl)]
        refine wp_store_mid 34 _ _ rfl gb 0 #[.slice (some ⟨_, 0, none⟩) 0 0, .slice (some ⟨_, 0, none⟩) 0 0, .int .i64 jp, .int .i64 on, .slice A16 n16 c16] rfl rfl (row_there Rg 5 (by decide)) size_block (by simp [Value.oneCell']) ?_
        rw [set5_eq]
        refine hK.out _ _ ?_ (fun hHeld => ?_)
        · exact ⟨(row_far5 Rb (by omega) _ _ _ _ _).cell 2, (row_far5 Rb (by omega) _ _ _ _ _).cell 3, (row_far5 Rb (by omega) _ _ _ _ _).cell 4⟩
        clear hK K
        try simp only [Act.put, List.setIfInBounds_toArray, List.set_cons_zero, List.set_cons_succ]
        refine wpAnyH_done (by kernel_rfl) ?_ _
        go_wp2_with fail
        go_meet
        exact ⟨gb, _, _, A16, n16, c16, rfl, hgb, copy_leaf Rg tn Rb RR hbl hgb⟩
      go_simp
      have nb := (Below.refl wd.heap.size wd).alloc (Nat.le_refl _) (.cells #[.slice none 0 0, .slice none 0 0, .int .i64 0, .int .i64 0, .slice none 0 0] 34)
      have Rg := Row.new wd 34 #[.slice none 0 0, .slice none 0 0, .int .i64 0, .int .i64 0, .slice none 0 0]
      have hgb : w.heap.size + 1 < wd.heap.size := RR.lt
      replace hbl : Below w.heap.size w (wd.alloc (.cells #[.slice none 0 0, .slice none 0 0, .int .i64 0, .int .i64 0, .slice none 0 0] 34)) := hbl.trans (nb.mono hbl.size)
      replace Rb := Rb.below nb Rb.lt
      replace RR := RR.below nb RR.lt
      clear nb
      generalize hgbv : wd.heap.size = gb at Rg hgb ⊢
      clear hgbv
      generalize wd.alloc (.cells #[.slice none 0 0, .slice none 0 0, .int .i64 0, .int .i64 0, .slice none 0 0] 34) = wd at hbl Rb RR Rg ⊢
      refine hK.out _ _ ?_ (fun hHeld => ?_)
      · exact ⟨Rb.cell 2, Rb.cell 3, Rb.cell 4⟩
      clear hK K
      try simp only [Act.put, List.setIfInBounds_toArray, List.set_cons_zero, List.set_cons_succ]
      refine reg_call2 (i := 0) (j := 6) (by kernel_rfl) rfl rfl (fun K hK => ?_) (fun K hK => ?_)
      · go_simp
        have nb := (Below.refl wd.heap.size wd).alloc (Nat.le_refl _) (.cells #[] 68)
        replace hbl : Below w.heap.size w (wd.alloc (.cells #[] 68)) := hbl.trans (nb.mono hbl.size)
        replace Rb := Rb.below nb Rb.lt
        replace RR := RR.below nb RR.lt
        replace Rg := Rg.below nb Rg.lt
        clear nb
        generalize wd.alloc (.cells #[] 68) = wd at hbl Rb RR Rg ⊢
        refine hK.out _ _ ?_ (fun hHeld => ?_)
        · exact ⟨Rb.cell 2, Rb.cell 3, Rb.cell 4⟩
        clear hK K
        try simp only [Act.put, List.setIfInBounds_toArray, List.set_cons_zero, List.set_cons_succ]
        refine reg_call (i := 6) (by kernel_rfl) rfl (fun K hK => ?_)
        go_simp
        have nb := (Below.refl wd.heap.size wd).alloc (Nat.le_refl _) (.cells #[] 3)
        obtain ⟨a6, ha6⟩ : ∃ x, x = wd.heap.size := ⟨_, rfl⟩
        rw [← ha6]
        clear ha6
        replace hbl : Below w.heap.size w (wd.alloc (.cells #[] 3)) := hbl.trans (nb.mono hbl.size)
        replace Rb := Rb.below nb Rb.lt
        replace RR := RR.below nb RR.lt
        replace Rg := Rg.below nb Rg.lt
        clear nb
        generalize wd.alloc (.cells #[] 3) = wd at hbl Rb RR Rg ⊢
        refine hK.out _ _ ?_ (fun hHeld => ?_)
        · exact ⟨Rb.cell 2, Rb.cell 3, Rb.cell 4⟩
        clear hK K
        try simp only [Act.put, List.setIfInBounds_toArray, List.set_cons_zero, List.set_cons_succ]
        refine reg_call (i := 9) (by kernel_rfl) rfl (fun K hK => ?_)
        obtain ⟨A16, n16, c16, wq, r9, tn, nb⟩ := append_ints wd lo w.heap.size ⟨a6, 0, none⟩ A4 n4 c4 (tv.keep (Chg.below hbl)) hbl.size (by omega)
        rw [if_pos (show Region.wanted _ _ = true by kernel_rfl)]
        refine Lib.wp_append_run_sl _ _ _ 28 rfl _ _ rfl rfl r9 ?_
        clear r9
        replace hbl : Below w.heap.size w wq := hbl.trans (nb.mono hbl.size)
        replace Rb := Rb.below nb Rb.lt
        replace RR := RR.below nb RR.lt
        replace Rg := Rg.below nb Rg.lt
        clear nb
        obtain ⟨wd, hwd⟩ : ∃ x, x = wq := ⟨_, rfl⟩
        subst hwd
        refine hK.out _ _ ?_ (fun hHeld => ?_)
        · exact ⟨Rb.cell 2, Rb.cell 3, Rb.cell 4⟩
        clear hK K
        try simp only [Act.put, List.setIfInBounds_toArray, List.set_cons_zero, List.set_cons_succ]
        refine reg_take (i := 10) (v := ?v44) rfl (by kernel_rfl) (by kernel_rfl) (by kernel_rfl) (fun _ _ _ h => h) (Or.inl ⟨by kernel_rfl, ?h44⟩) (by assumption) ?r44
        case h44 => (intro w hSw; (try dsimp only at hSw); go_simp; try with_reducible rfl)
        try simp only [Act.put, List.setIfInBounds_toArray, List.set_cons_zero, List.set_cons_succ]
        refine reg_call (i := 12) (by kernel_rfl) rfl (fun K hK => ?_)
        rw [if_pos (show Region.wanted _ _ = true by kernel_rfl)]
        refine wp_store_mid 34 _ _ rfl gb 0 #[.slice (some ⟨_, 0, none⟩) 0 0, .slice (some ⟨_, 0, none⟩) 0 0, .int .i64 jp, .int .i64 on, .slice A16 n16 c16] rfl rfl (row_there Rg 5 (by decide)) size_block (by simp [Value.oneCell']) ?_
        rw [set5_eq]
        refine hK.out _ _ ?_ (fun hHeld => ?_)
        · exact ⟨(row_far5 Rb (by omega) _ _ _ _ _).cell 2, (row_far5 Rb (by omega) _ _ _ _ _).cell 3, (row_far5 Rb (by omega) _ _ _ _ _).cell 4⟩
        clear hK K
        try simp only [Act.put, List.setIfInBounds_toArray, List.set_cons_zero, List.set_cons_succ]
        refine wpAnyH_done (by kernel_rfl) ?_ _
        go_wp2_with fail
        go_meet
        exact ⟨gb, _, _, A16, n16, c16, rfl, hgb, copy_leaf Rg tn Rb RR hbl hgb⟩
      go_simp
      have nb := (Below.refl wd.heap.size wd).alloc (Nat.le_refl _) (.cells #[] 3)
      obtain ⟨a6, ha6⟩ : ∃ x, x = wd.heap.size := ⟨_, rfl⟩
      rw [← ha6]
      clear ha6
      replace hbl : Below w.heap.size w (wd.alloc (.cells #[] 3)) := hbl.trans (nb.mono hbl.size)
      replace Rb := Rb.below nb Rb.lt
      replace RR := RR.below nb RR.lt
      replace Rg := Rg.below nb Rg.lt
      clear nb
      generalize wd.alloc (.cells #[] 3) = wd at hbl Rb RR Rg ⊢
      refine hK.out _ _ ?_ (fun hHeld => ?_)
      · exact ⟨Rb.cell 2, Rb.cell 3, Rb.cell 4⟩
      clear hK K
      try simp only [Act.put, List.setIfInBounds_toArray, List.set_cons_zero, List.set_cons_succ]
      refine reg_call2 (i := 0) (j := 9) (by kernel_rfl) rfl rfl (fun K hK => ?_) (fun K hK => ?_)
      · go_simp
        have nb := (Below.refl wd.heap.size wd).alloc (Nat.le_refl _) (.cells #[] 68)
        replace hbl : Below w.heap.size w (wd.alloc (.cells #[] 68)) := hbl.trans (nb.mono hbl.size)
        replace Rb := Rb.below nb Rb.lt
        replace RR := RR.below nb RR.lt
        replace Rg := Rg.below nb Rg.lt
        clear nb
        generalize wd.alloc (.cells #[] 68) = wd at hbl Rb RR Rg ⊢
        refine hK.out _ _ ?_ (fun hHeld => ?_)
        · exact ⟨Rb.cell 2, Rb.cell 3, Rb.cell 4⟩
        clear hK K
        try simp only [Act.put, List.setIfInBounds_toArray, List.set_cons_zero, List.set_cons_succ]
        refine reg_call (i := 9) (by kernel_rfl) rfl (fun K hK => ?_)
        obtain ⟨A16, n16, c16, wq, r9, tn, nb⟩ := append_ints wd lo w.heap.size ⟨a6, 0, none⟩ A4 n4 c4 (tv.keep (Chg.below hbl)) hbl.size (by omega)
        rw [if_pos (show Region.wanted _ _ = true by kernel_rfl)]
        refine Lib.wp_append_run_sl _ _ _ 28 rfl _ _ rfl rfl r9 ?_
        clear r9
        replace hbl : Below w.heap.size w wq := hbl.trans (nb.mono hbl.size)
        replace Rb := Rb.below nb Rb.lt
        replace RR := RR.below nb RR.lt
        replace Rg := Rg.below nb Rg.lt
        clear nb
        obtain ⟨wd, hwd⟩ : ∃ x, x = wq := ⟨_, rfl⟩
        subst hwd
        refine hK.out _ _ ?_ (fun hHeld => ?_)
        · exact ⟨Rb.cell 2, Rb.cell 3, Rb.cell 4⟩
        clear hK K
        try simp only [Act.put, List.setIfInBounds_toArray, List.set_cons_zero, List.set_cons_succ]
        refine reg_take (i := 10) (v := ?v45) rfl (by kernel_rfl) (by kernel_rfl) (by kernel_rfl) (fun _ _ _ h => h) (Or.inl ⟨by kernel_rfl, ?h45⟩) (by assumption) ?r45
        case h45 => (intro w hSw; (try dsimp only at hSw); go_simp; try with_reducible rfl)
        try simp only [Act.put, List.setIfInBounds_toArray, List.set_cons_zero, List.set_cons_succ]
        refine reg_call (i := 12) (by kernel_rfl) rfl (fun K hK => ?_)
        rw [if_pos (show Region.wanted _ _ = true by kernel_rfl)]
        refine wp_store_mid 34 _ _ rfl gb 0 #[.slice (some ⟨_, 0, none⟩) 0 0, .slice (some ⟨_, 0, none⟩) 0 0, .int .i64 jp, .int .i64 on, .slice A16 n16 c16] rfl rfl (row_there Rg 5 (by decide)) size_block (by simp [Value.oneCell']) ?_
        rw [set5_eq]
        refine hK.out _ _ ?_ (fun hHeld => ?_)
        · exact ⟨(row_far5 Rb (by omega) _ _ _ _ _).cell 2, (row_far5 Rb (by omega) _ _ _ _ _).cell 3, (row_far5 Rb (by omega) _ _ _ _ _).cell 4⟩
        clear hK K
        try simp only [Act.put, List.setIfInBounds_toArray, List.set_cons_zero, List.set_cons_succ]
        refine wpAnyH_done (by kernel_rfl) ?_ _
        go_wp2_with fail
        go_meet
        exact ⟨gb, _, _, A16, n16, c16, rfl, hgb, copy_leaf Rg tn Rb RR hbl hgb⟩
      obtain ⟨A16, n16, c16, wq, r9, tn, nb⟩ := append_ints wd lo w.heap.size ⟨a6, 0, none⟩ A4 n4 c4 (tv.keep (Chg.below hbl)) hbl.size (by omega)
      rw [if_pos (show Region.wanted _ _ = true by kernel_rfl)]
      refine Lib.wp_append_run_sl _ _ _ 28 rfl _ _ rfl rfl r9 ?_
      clear r9
      replace hbl : Below w.heap.size w wq := hbl.trans (nb.mono hbl.size)
      replace Rb := Rb.below nb Rb.lt
      replace RR := RR.below nb RR.lt
      replace Rg := Rg.below nb Rg.lt
      clear nb
      obtain ⟨wd, hwd⟩ : ∃ x, x = wq := ⟨_, rfl⟩
      subst hwd
      refine hK.out _ _ ?_ (fun hHeld => ?_)
      · exact ⟨Rb.cell 2, Rb.cell 3, Rb.cell 4⟩
      clear hK K
      try simp only [Act.put, List.setIfInBounds_toArray, List.set_cons_zero, List.set_cons_succ]
      refine reg_call (i := 0) (by kernel_rfl) rfl (fun K hK => ?_)
      go_simp
      have nb := (Below.refl wd.heap.size wd).alloc (Nat.le_refl _) (.cells #[] 68)
      replace hbl : Below w.heap.size w (wd.alloc (.cells #[] 68)) := hbl.trans (nb.mono hbl.size)
      replace Rb := Rb.below nb Rb.lt
      replace RR := RR.below nb RR.lt
      replace tn := tn.keep (Chg.below (lo := w.heap.size) nb)
      replace Rg := Rg.below nb Rg.lt
      clear nb
      generalize wd.alloc (.cells #[] 68) = wd at hbl Rb RR tn Rg ⊢
      refine hK.out _ _ ?_ (fun hHeld => ?_)
      · exact ⟨Rb.cell 2, Rb.cell 3, Rb.cell 4⟩
      clear hK K
      try simp only [Act.put, List.setIfInBounds_toArray, List.set_cons_zero, List.set_cons_succ]
      refine reg_take (i := 10) (v := ?v46) rfl (by kernel_rfl) (by kernel_rfl) (by kernel_rfl) (fun _ _ _ h => h) (Or.inl ⟨by kernel_rfl, ?h46⟩) (by assumption) ?r46
      case h46 => (intro w hSw; (try dsimp only at hSw); go_simp; try with_reducible rfl)
      try simp only [Act.put, List.setIfInBounds_toArray, List.set_cons_zero, List.set_cons_succ]
      refine reg_call (i := 12) (by kernel_rfl) rfl (fun K hK => ?_)
      rw [if_pos (show Region.wanted _ _ = true by kernel_rfl)]
      refine wp_store_mid 34 _ _ rfl gb 0 #[.slice (some ⟨_, 0, none⟩) 0 0, .slice (some ⟨_, 0, none⟩) 0 0, .int .i64 jp, .int .i64 on, .slice A16 n16 c16] rfl rfl (row_there Rg 5 (by decide)) size_block (by simp [Value.oneCell']) ?_
      rw [set5_eq]
      refine hK.out _ _ ?_ (fun hHeld => ?_)
      · exact ⟨(row_far5 Rb (by omega) _ _ _ _ _).cell 2, (row_far5 Rb (by omega) _ _ _ _ _).cell 3, (row_far5 Rb (by omega) _ _ _ _ _).cell 4⟩
      clear hK K
      try simp only [Act.put, List.setIfInBounds_toArray, List.set_cons_zero, List.set_cons_succ]
      refine wpAnyH_done (by kernel_rfl) ?_ _
      go_wp2_with fail
      go_meet
      exact ⟨gb, _, _, A16, n16, c16, rfl, hgb, copy_leaf Rg tn Rb RR hbl hgb⟩
    · go_simp
      have nb := (Below.refl wd.heap.size wd).alloc (Nat.le_refl _) (.cells #[] 3)
      obtain ⟨a6, ha6⟩ : ∃ x, x = wd.heap.size := ⟨_, rfl⟩
      rw [← ha6]
      clear ha6
      replace hbl : Below w.heap.size w (wd.alloc (.cells #[] 3)) := hbl.trans (nb.mono hbl.size)
      replace Rb := Rb.below nb Rb.lt
      replace RR := RR.below nb RR.lt
      clear nb
      generalize wd.alloc (.cells #[] 3) = wd at hbl Rb RR ⊢
      refine hK.out _ _ ?_ (fun hHeld => ?_)
      · exact ⟨Rb.cell 2, Rb.cell 3, Rb.cell 4⟩
      clear hK K
      try simp only [Act.put, List.setIfInBounds_toArray, List.set_cons_zero, List.set_cons_succ]
      refine reg_call4 (i := 0) (j := 1) (k := 9) (l := 11) (by kernel_rfl) rfl rfl rfl rfl (fun K hK => ?_) (fun K hK => ?_) (fun K hK => ?_) (fun K hK => ?_)
      · go_simp
        have nb := (Below.refl wd.heap.size wd).alloc (Nat.le_refl _) (.cells #[] 68)
        replace hbl : Below w.heap.size w (wd.alloc (.cells #[] 68)) := hbl.trans (nb.mono hbl.size)
        replace Rb := Rb.below nb Rb.lt
        replace RR := RR.below nb RR.lt
        clear nb
        generalize wd.alloc (.cells #[] 68) = wd at hbl Rb RR ⊢
        refine hK.out _ _ ?_ (fun hHeld => ?_)
        · exact ⟨Rb.cell 2, Rb.cell 3, Rb.cell 4⟩
        clear hK K
        try simp only [Act.put, List.setIfInBounds_toArray, List.set_cons_zero, List.set_cons_succ]
        refine reg_call3 (i := 1) (j := 9) (k := 11) (by kernel_rfl) rfl rfl rfl (fun K hK => ?_) (fun K hK => ?_) (fun K hK => ?_)
        · go_simp
          have nb := (Below.refl wd.heap.size wd).alloc (Nat.le_refl _) (.cells #[] 44)
          replace hbl : Below w.heap.size w (wd.alloc (.cells #[] 44)) := hbl.trans (nb.mono hbl.size)
          replace Rb := Rb.below nb Rb.lt
          replace RR := RR.below nb RR.lt
          clear nb
          generalize wd.alloc (.cells #[] 44) = wd at hbl Rb RR ⊢
          refine hK.out _ _ ?_ (fun hHeld => ?_)
          · exact ⟨Rb.cell 2, Rb.cell 3, Rb.cell 4⟩
          clear hK K
          try simp only [Act.put, List.setIfInBounds_toArray, List.set_cons_zero, List.set_cons_succ]
          refine reg_call2 (i := 9) (j := 11) (by kernel_rfl) rfl rfl (fun K hK => ?_) (fun K hK => ?_)
          · obtain ⟨A16, n16, c16, wq, r9, tn, nb⟩ := append_ints wd lo w.heap.size ⟨a6, 0, none⟩ A4 n4 c4 (tv.keep (Chg.below hbl)) hbl.size (by omega)
            rw [if_pos (show Region.wanted _ _ = true by kernel_rfl)]
            refine Lib.wp_append_run_sl _ _ _ 28 rfl _ _ rfl rfl r9 ?_
            clear r9
            replace hbl : Below w.heap.size w wq := hbl.trans (nb.mono hbl.size)
            replace Rb := Rb.below nb Rb.lt
            replace RR := RR.below nb RR.lt
            clear nb
            obtain ⟨wd, hwd⟩ : ∃ x, x = wq := ⟨_, rfl⟩
            subst hwd
            refine hK.out _ _ ?_ (fun hHeld => ?_)
            · exact ⟨Rb.cell 2, Rb.cell 3, Rb.cell 4⟩
            clear hK K
            try simp only [Act.put, List.setIfInBounds_toArray, List.set_cons_zero, List.set_cons_succ]
            refine reg_take (i := 10) (v := ?v47) rfl (by kernel_rfl) (by kernel_rfl) (by kernel_rfl) (fun _ _ _ h => h) (Or.inl ⟨by kernel_rfl, ?h47⟩) (by assumption) ?r47
            case h47 => (intro w hSw; (try dsimp only at hSw); go_simp; try with_reducible rfl)
            try simp only [Act.put, List.setIfInBounds_toArray, List.set_cons_zero, List.set_cons_succ]
            refine reg_call (i := 11) (by kernel_rfl) rfl (fun K hK => ?_)
            go_simp
            have nb := (Below.refl wd.heap.size wd).alloc (Nat.le_refl _) (.cells #[.slice none 0 0, .slice none 0 0, .int .i64 0, .int .i64 0, .slice none 0 0] 34)
            have Rg := Row.new wd 34 #[.slice none 0 0, .slice none 0 0, .int .i64 0, .int .i64 0, .slice none 0 0]
            have hgb : w.heap.size + 1 < wd.heap.size := RR.lt
            replace hbl : Below w.heap.size w (wd.alloc (.cells #[.slice none 0 0, .slice none 0 0, .int .i64 0, .int .i64 0, .slice none 0 0] 34)) := hbl.trans (nb.mono hbl.size)
            replace Rb := Rb.below nb Rb.lt
            replace RR := RR.below nb RR.lt
            replace tn := tn.keep (Chg.below (lo := w.heap.size) nb)
            clear nb
            generalize hgbv : wd.heap.size = gb at Rg hgb ⊢
            clear hgbv
            generalize wd.alloc (.cells #[.slice none 0 0, .slice none 0 0, .int .i64 0, .int .i64 0, .slice none 0 0] 34) = wd at hbl Rb RR tn Rg ⊢
            refine hK.out _ _ ?_ (fun hHeld => ?_)
            · exact ⟨Rb.cell 2, Rb.cell 3, Rb.cell 4⟩
            clear hK K
            try simp only [Act.put, List.setIfInBounds_toArray, List.set_cons_zero, List.set_cons_succ]
            refine reg_call (i := 12) (by kernel_rfl) rfl (fun K hK => ?_)
            rw [if_pos (show Region.wanted _ _ = true by kernel_rfl)]
            refine wp_store_mid 34 _ _ rfl gb 0 #[.slice (some ⟨_, 0, none⟩) 0 0, .slice (some ⟨_, 0, none⟩) 0 0, .int .i64 jp, .int .i64 on, .slice A16 n16 c16] rfl rfl (row_there Rg 5 (by decide)) size_block (by simp [Value.oneCell']) ?_
            rw [set5_eq]
            refine hK.out _ _ ?_ (fun hHeld => ?_)
            · exact ⟨(row_far5 Rb (by omega) _ _ _ _ _).cell 2, (row_far5 Rb (by omega) _ _ _ _ _).cell 3, (row_far5 Rb (by omega) _ _ _ _ _).cell 4⟩
            clear hK K
            try simp only [Act.put, List.setIfInBounds_toArray, List.set_cons_zero, List.set_cons_succ]
            refine wpAnyH_done (by kernel_rfl) ?_ _
            go_wp2_with fail
            go_meet
            exact ⟨gb, _, _, A16, n16, c16, rfl, hgb, copy_leaf Rg tn Rb RR hbl hgb⟩
          go_simp
          have nb := (Below.refl wd.heap.size wd).alloc (Nat.le_refl _) (.cells #[.slice none 0 0, .slice none 0 0, .int .i64 0, .int .i64 0, .slice none 0 0] 34)
          have Rg := Row.new wd 34 #[.slice none 0 0, .slice none 0 0, .int .i64 0, .int .i64 0, .slice none 0 0]
          have hgb : w.heap.size + 1 < wd.heap.size := RR.lt
          replace hbl : Below w.heap.size w (wd.alloc (.cells #[.slice none 0 0, .slice none 0 0, .int .i64 0, .int .i64 0, .slice none 0 0] 34)) := hbl.trans (nb.mono hbl.size)
          replace Rb := Rb.below nb Rb.lt
          replace RR := RR.below nb RR.lt
          clear nb
          generalize hgbv : wd.heap.size = gb at Rg hgb ⊢
          clear hgbv
          generalize wd.alloc (.cells #[.slice none 0 0, .slice none 0 0, .int .i64 0, .int .i64 0, .slice none 0 0] 34) = wd at hbl Rb RR Rg ⊢
          refine hK.out _ _ ?_ (fun hHeld => ?_)
          · exact ⟨Rb.cell 2, Rb.cell 3, Rb.cell 4⟩
          clear hK K
          try simp only [Act.put, List.setIfInBounds_toArray, List.set_cons_zero, List.set_cons_succ]
          refine reg_call (i := 9) (by kernel_rfl) rfl (fun K hK => ?_)
          obtain ⟨A16, n16, c16, wq, r9, tn, nb⟩ := append_ints wd lo w.heap.size ⟨a6, 0, none⟩ A4 n4 c4 (tv.keep (Chg.below hbl)) hbl.size (by omega)
          rw [if_pos (show Region.wanted _ _ = true by kernel_rfl)]
          refine Lib.wp_append_run_sl _ _ _ 28 rfl _ _ rfl rfl r9 ?_
          clear r9
          replace hbl : Below w.heap.size w wq := hbl.trans (nb.mono hbl.size)
          replace Rb := Rb.below nb Rb.lt
          replace RR := RR.below nb RR.lt
          replace Rg := Rg.below nb Rg.lt
          clear nb
          obtain ⟨wd, hwd⟩ : ∃ x, x = wq := ⟨_, rfl⟩
          subst hwd
          refine hK.out _ _ ?_ (fun hHeld => ?_)
          · exact ⟨Rb.cell 2, Rb.cell 3, Rb.cell 4⟩
          clear hK K
          try simp only [Act.put, List.setIfInBounds_toArray, List.set_cons_zero, List.set_cons_succ]
          refine reg_take (i := 10) (v := ?v48) rfl (by kernel_rfl) (by kernel_rfl) (by kernel_rfl) (fun _ _ _ h => h) (Or.inl ⟨by kernel_rfl, ?h48⟩) (by assumption) ?r48
          case h48 => (intro w hSw; (try dsimp only at hSw); go_simp; try with_reducible rfl)
          try simp only [Act.put, List.setIfInBounds_toArray, List.set_cons_zero, List.set_cons_succ]
          refine reg_call (i := 12) (by kernel_rfl) rfl (fun K hK => ?_)
          rw [if_pos (show Region.wanted _ _ = true by kernel_rfl)]
          refine wp_store_mid 34 _ _ rfl gb 0 #[.slice (some ⟨_, 0, none⟩) 0 0, .slice (some ⟨_, 0, none⟩) 0 0, .int .i64 jp, .int .i64 on, .slice A16 n16 c16] rfl rfl (row_there Rg 5 (by decide)) size_block (by simp [Value.oneCell']) ?_
          rw [set5_eq]
          refine hK.out _ _ ?_ (fun hHeld => ?_)
          · exact ⟨(row_far5 Rb (by omega) _ _ _ _ _).cell 2, (row_far5 Rb (by omega) _ _ _ _ _).cell 3, (row_far5 Rb (by omega) _ _ _ _ _).cell 4⟩
          clear hK K
          try simp only [Act.put, List.setIfInBounds_toArray, List.set_cons_zero, List.set_cons_succ]
          refine wpAnyH_done (by kernel_rfl) ?_ _
          go_wp2_with fail
          go_meet
          exact ⟨gb, _, _, A16, n16, c16, rfl, hgb, copy_leaf Rg tn Rb RR hbl hgb⟩
        · obtain ⟨A16, n16, c16, wq, r9, tn, nb⟩ := append_ints wd lo w.heap.size ⟨a6, 0, none⟩ A4 n4 c4 (tv.keep (Chg.below hbl)) hbl.size (by omega)
          rw [if_pos (show Region.wanted _ _ = true by kernel_rfl)]
          refine Lib.wp_append_run_sl _ _ _ 28 rfl _ _ rfl rfl r9 ?_
          clear r9
          replace hbl : Below w.heap.size w wq := hbl.trans (nb.mono hbl.size)
          replace Rb := Rb.below nb Rb.lt
          replace RR := RR.below nb RR.lt
          clear nb
          obtain ⟨wd, hwd⟩ : ∃ x, x = wq := ⟨_, rfl⟩
          subst hwd
          refine hK.out _ _ ?_ (fun hHeld => ?_)
          · exact ⟨Rb.cell 2, Rb.cell 3, Rb.cell 4⟩
          clear hK K
          try simp only [Act.put, List.setIfInBounds_toArray, List.set_cons_zero, List.set_cons_succ]
          refine reg_call2 (i := 1) (j := 11) (by kernel_rfl) rfl rfl (fun K hK => ?_) (fun K hK => ?_)
          · go_simp
            have nb := (Below.refl wd.heap.size wd).alloc (Nat.le_refl _) (.cells #[] 44)
            replace hbl : Below w.heap.size w (wd.alloc (.cells #[] 44)) := hbl.trans (nb.mono hbl.size)
            replace Rb := Rb.below nb Rb.lt
            replace RR := RR.below nb RR.lt
            replace tn := tn.keep (Chg.below (lo := w.heap.size) nb)
            clear nb
            generalize wd.alloc (.cells #[] 44) = wd at hbl Rb RR tn ⊢
            refine hK.out _ _ ?_ (fun hHeld => ?_)
            · exact ⟨Rb.cell 2, Rb.cell 3, Rb.cell 4⟩
            clear hK K
            try simp only [Act.put, List.setIfInBounds_toArray, List.set_cons_zero, List.set_cons_succ]
            refine reg_take (i := 10) (v := ?v49) rfl (by kernel_rfl) (by kernel_rfl) (by kernel_rfl) (fun _ _ _ h => h) (Or.inl ⟨by kernel_rfl, ?h49⟩) (by assumption) ?r49
            case h49 => (intro w hSw; (try dsimp only at hSw); go_simp; try with_reducible rfl)
            try simp only [Act.put, List.setIfInBounds_toArray, List.set_cons_zero, List.set_cons_succ]
            refine reg_call (i := 11) (by kernel_rfl) rfl (fun K hK => ?_)
            go_simp
            have nb := (Below.refl wd.heap.size wd).alloc (Nat.le_refl _) (.cells #[.slice none 0 0, .slice none 0 0, .int .i64 0, .int .i64 0, .slice none 0 0] 34)
            have Rg := Row.new wd 34 #[.slice none 0 0, .slice none 0 0, .int .i64 0, .int .i64 0, .slice none 0 0]
            have hgb : w.heap.size + 1 < wd.heap.size := RR.lt
            replace hbl : Below w.heap.size w (wd.alloc (.cells #[.slice none 0 0, .slice none 0 0, .int .i64 0, .int .i64 0, .slice none 0 0] 34)) := hbl.trans (nb.mono hbl.size)
            replace Rb := Rb.below nb Rb.lt
            replace RR := RR.below nb RR.lt
            replace tn := tn.keep (Chg.below (lo := w.heap.size) nb)
            clear nb
            generalize hgbv : wd.heap.size = gb at Rg hgb ⊢
            clear hgbv
            generalize wd.alloc (.cells #[.slice none 0 0, .slice none 0 0, .int .i64 0, .int .i64 0, .slice none 0 0] 34) = wd at hbl Rb RR tn Rg ⊢
            refine hK.out _ _ ?_ (fun hHeld => ?_)
            · exact ⟨Rb.cell 2, Rb.cell 3, Rb.cell 4⟩
            clear hK K
            try simp only [Act.put, List.setIfInBounds_toArray, List.set_cons_zero, List.set_cons_succ]
            refine reg_call (i := 12) (by kernel_rfl) rfl (fun K hK => ?_)
            rw [if_pos (show Region.wanted _ _ = true by kernel_rfl)]
            refine wp_store_mid 34 _ _ rfl gb 0 #[.slice (some ⟨_, 0, none⟩) 0 0, .slice (some ⟨_, 0, none⟩) 0 0, .int .i64 jp, .int .i64 on, .slice A16 n16 c16] rfl rfl (row_there Rg 5 (by decide)) size_block (by simp [Value.oneCell']) ?_
            rw [set5_eq]
            refine hK.out _ _ ?_ (fun hHeld => ?_)
            · exact ⟨(row_far5 Rb (by omega) _ _ _ _ _).cell 2, (row_far5 Rb (by omega) _ _ _ _ _).cell 3, (row_far5 Rb (by omega) _ _ _ _ _).cell 4⟩
            clear hK K
            try simp only [Act.put, List.setIfInBounds_toArray, List.set_cons_zero, List.set_cons_succ]
            refine wpAnyH_done (by kernel_rfl) ?_ _
            go_wp2_with fail
            go_meet
            exact ⟨gb, _, _, A16, n16, c16, rfl, hgb, copy_leaf Rg tn Rb RR hbl hgb⟩
          go_simp
          have nb := (Below.refl wd.heap.size wd).alloc (Nat.le_refl _) (.cells #[.slice none 0 0, .slice none 0 0, .int .i64 0, .int .i64 0, .slice none 0 0] 34)
          have Rg := Row.new wd 34 #[.slice none 0 0, .slice none 0 0, .int .i64 0, .int .i64 0, .slice none 0 0]
          have hgb : w.heap.size + 1 < wd.heap.size := RR.lt
          replace hbl : Below w.heap.size w (wd.alloc (.cells #[.slice none 0 0, .slice none 0 0, .int .i64 0, .int .i64 0, .slice none 0 0] 34)) := hbl.trans (nb.mono hbl.size)
          replace Rb := Rb.below nb Rb.lt
          replace RR := RR.below nb RR.lt
          replace tn := tn.keep (Chg.below (lo := w.heap.size) nb)
          clear nb
          generalize hgbv : wd.heap.size = gb at Rg hgb ⊢
          clear hgbv
          generalize wd.alloc (.cells #[.slice none 0 0, .slice none 0 0, .int .i64 0, .int .i64 0, .slice none 0 0] 34) = wd at hbl Rb RR tn Rg ⊢
          refine hK.out _ _ ?_ (fun hHeld => ?_)
          · exact ⟨Rb.cell 2, Rb.cell 3, Rb.cell 4⟩
          clear hK K
          try simp only [Act.put, List.setIfInBounds_toArray, List.set_cons_zero, List.set_cons_succ]
          refine reg_call (i := 1) (by kernel_rfl) rfl (fun K hK => ?_)
          go_simp
          have nb := (Below.refl wd.heap.size wd).alloc (Nat.le_refl _) (.cells #[] 44)
          replace hbl : Below w.heap.size w (wd.alloc (.cells #[] 44)) := hbl.trans (nb.mono hbl.size)
          replace Rb := Rb.below nb Rb.lt
          replace RR := RR.below nb RR.lt
          replace tn := tn.keep (Chg.below (lo := w.heap.size) nb)
          replace Rg := Rg.below nb Rg.lt
          clear nb
          generalize wd.alloc (.cells #[] 44) = wd at hbl Rb RR tn Rg ⊢
          refine hK.out _ _ ?_ (fun hHeld => ?_)
          · exact ⟨Rb.cell 2, Rb.cell 3, Rb.cell 4⟩
          clear hK K
          try simp only [Act.put, List.setIfInBounds_toArray, List.set_cons_zero, List.set_cons_succ]
          refine reg_take (i := 10) (v := ?v50) rfl (by kernel_rfl) (by kernel_rfl) (by kernel_rfl) (fun _ _ _ h => h) (Or.inl ⟨by kernel_rfl, ?h50⟩) (by assumption) ?r50
          case h50 => (intro w hSw; (try dsimp only at hSw); go_simp; try with_reducible rfl)
          try simp only [Act.put, List.setIfInBounds_toArray, List.set_cons_zero, List.set_cons_succ]
          refine reg_call (i := 12) (by kernel_rfl) rfl (fun K hK => ?_)
          rw [if_pos (show Region.wanted _ _ = true by kernel_rfl)]
          refine wp_store_mid 34 _ _ rfl gb 0 #[.slice (some ⟨_, 0, none⟩) 0 0, .slice (some ⟨_, 0, none⟩) 0 0, .int .i64 jp, .int .i64 on, .slice A16 n16 c16] rfl rfl (row_there Rg 5 (by decide)) size_block (by simp [Value.oneCell']) ?_
          rw [set5_eq]
          refine hK.out _ _ ?_ (fun hHeld => ?_)
          · exact ⟨(row_far5 Rb (by omega) _ _ _ _ _).cell 2, (row_far5 Rb (by omega) _ _ _ _ _).cell 3, (row_far5 Rb (by omega) _ _ _ _ _).cell 4⟩
          clear hK K
          try simp only [Act.put, List.setIfInBounds_toArray, List.set_cons_zero, List.set_cons_succ]
          refine wpAnyH_done (by kernel_rfl) ?_ _
          go_wp2_with fail
          go_meet
          exact ⟨gb, _, _, A16, n16, c16, rfl, hgb, copy_leaf Rg tn Rb RR hbl hgb⟩
        go_simp
        have nb := (Below.refl wd.heap.size wd).alloc (Nat.le_refl _) (.cells #[.slice none 0 0, .slice none 0 0, .int .i64 0, .int .i64 0, .slice none 0 0] 34)
        have Rg := Row.new wd 34 #[.slice none 0 0, .slice none 0 0, .int .i64 0, .int .i64 0, .slice none 0 0]
        have hgb : w.heap.size + 1 < wd.heap.size := RR.lt
        replace hbl : Below w.heap.size w (wd.alloc (.cells #[.slice none 0 0, .slice none 0 0, .int .i64 0, .int .i64 0, .slice none 0 0] 34)) := hbl.trans (nb.mono hbl.size)
        replace Rb := Rb.below nb Rb.lt
        replace RR := RR.below nb RR.lt
        clear nb
        generalize hgbv : wd.heap.size = gb at Rg hgb ⊢
        clear hgbv
        generalize wd.alloc (.cells #[.slice none 0 0, .slice none 0 0, .int .i64 0, .int .i64 0, .slice none 0 0] 34) = wd at hbl Rb RR Rg ⊢
        refine hK.out _ _ ?_ (fun hHeld => ?_)
        · exact ⟨Rb.cell 2, Rb.cell 3, Rb.cell 4⟩
        clear hK K
        try simp only [Act.put, List.setIfInBounds_toArray, List.set_cons_zero, List.set_cons_succ]
        refine reg_call2 (i := 1) (j := 9) (by kernel_rfl) rfl rfl (fun K hK => ?_) (fun K hK => ?_)
        · go_simp
          have nb := (Below.refl wd.heap.size wd).alloc (Nat.le_refl _) (.cells #[] 44)
          replace hbl : Below w.heap.size w (wd.alloc (.cells #[] 44)) := hbl.trans (nb.mono hbl.size)
          replace Rb := Rb.below nb Rb.lt
          replace RR := RR.below nb RR.lt
          replace Rg := Rg.below nb Rg.lt
          clear nb
          generalize wd.alloc (.cells #[] 44) = wd at hbl Rb RR Rg ⊢
          refine hK.out _ _ ?_ (fun hHeld => ?_)
          · exact ⟨Rb.cell 2, Rb.cell 3, Rb.cell 4⟩
          clear hK K
          try simp only [Act.put, List.setIfInBounds_toArray, List.set_cons_zero, List.set_cons_succ]
          refine reg_call (i := 9) (by kernel_rfl) rfl (fun K hK => ?_)
          obtain ⟨A16, n16, c16, wq, r9, tn, nb⟩ := append_ints wd lo w.heap.size ⟨a6, 0, none⟩ A4 n4 c4 (tv.keep (Chg.below hbl)) hbl.size (by omega)
          rw [if_pos (show Region.wanted _ _ = true by kernel_rfl)]
          refine Lib.wp_append_run_sl _ _ _ 28 rfl _ _ rfl rfl r9 ?_
          clear r9
          replace hbl : Below w.heap.size w wq := hbl.trans (nb.mono hbl.size)
          replace Rb := Rb.below nb Rb.lt
          replace RR := RR.below nb RR.lt
          replace Rg := Rg.below nb Rg.lt
          clear nb
          obtain ⟨wd, hwd⟩ : ∃ x, x = wq := ⟨_, rfl⟩
          subst hwd
          refine hK.out _ _ ?_ (fun hHeld => ?_)
          · exact ⟨Rb.cell 2, Rb.cell 3, Rb.cell 4⟩
          clear hK K
          try simp only [Act.put, List.setIfInBounds_toArray, List.set_cons_zero, List.set_cons_succ]
          refine reg_take (i := 10) (v := ?v51) rfl (by kernel_rfl) (by kernel_rfl) (by kernel_rfl) (fun _ _ _ h => h) (Or.inl ⟨by kernel_rfl, ?h51⟩) (by assumption) ?r51
          case h51 => (intro w hSw; (try dsimp only at hSw); go_simp; try with_reducible rfl)
          try simp only [Act.put, List.setIfInBounds_toArray, List.set_cons_zero, List.set_cons_succ]
          refine reg_call (i := 12) (by kernel_rfl) rfl (fun K hK => ?_)
          rw [if_pos (show Region.wanted _ _ = true by kernel_rfl)]
          refine wp_store_mid 34 _ _ rfl gb 0 #[.slice (some ⟨_, 0, none⟩) 0 0, .slice (some ⟨_, 0, none⟩) 0 0, .int .i64 jp, .int .i64 on, .slice A16 n16 c16] rfl rfl (row_there Rg 5 (by decide)) size_block (by simp [Value.oneCell']) ?_
          rw [set5_eq]
          refine hK.out _ _ ?_ (fun hHeld => ?_)
          · exact ⟨(row_far5 Rb (by omega) _ _ _ _ _).cell 2, (row_far5 Rb (by omega) _ _ _ _ _).cell 3, (row_far5 Rb (by omega) _ _ _ _ _).cell 4⟩
          clear hK K
          try simp only [Act.put, List.setIfInBounds_toArray, List.set_cons_zero, List.set_cons_succ]
          refine wpAnyH_done (by kernel_rfl) ?_ _
          go_wp2_with fail
          go_meet
          exact ⟨gb, _, _, A16, n16, c16, rfl, hgb, copy_leaf Rg tn Rb RR hbl hgb⟩
        obtain ⟨A16, n16, c16, wq, r9, tn, nb⟩ := append_ints wd lo w.heap.size ⟨a6, 0, none⟩ A4 n4 c4 (tv.keep (Chg.below hbl)) hbl.size (by omega)
        rw [if_pos (show Region.wanted _ _ = true by kernel_rfl)]
        refine Lib.wp_append_run_sl _ _ _ 28 rfl _ _ rfl rfl r9 ?_
        clear r9
        replace hbl : Below w.heap.size w wq := hbl.trans (nb.mono hbl.size)
        replace Rb := Rb.below nb Rb.lt
        replace RR := RR.below nb RR.lt
        replace Rg := Rg.below nb Rg.lt
        clear nb
        obtain ⟨wd, hwd⟩ : ∃ x, x = wq := ⟨_, rfl⟩
        subst hwd
        refine hK.out _ _ ?_ (fun hHeld => ?_)
        · exact ⟨Rb.cell 2, Rb.cell 3, Rb.cell 4⟩
        clear hK K
        try simp only [Act.put, List.setIfInBounds_toArray, List.set_cons_zero, List.set_cons_succ]
        refine reg_call (i := 1) (by kernel_rfl) rfl (fun K hK => ?_)
        go_simp
        have nb := (Below.refl wd.heap.size wd).alloc (Nat.le_refl _) (.cells #[] 44)
        replace hbl : Below w.heap.size w (wd.alloc (.cells #[] 44)) := hbl.trans (nb.mono hbl.size)
        replace Rb := Rb.below nb Rb.lt
        replace RR := RR.below nb RR.lt
        replace tn := tn.keep (Chg.below (lo := w.heap.size) nb)
        replace Rg := Rg.below nb Rg.lt
        clear nb
        generalize wd.alloc (.cells #[] 44) = wd at hbl Rb RR tn Rg ⊢
        refine hK.out _ _ ?_ (fun hHeld => ?_)
        · exact ⟨Rb.cell 2, Rb.cell 3, Rb.cell 4⟩
        clear hK K
        try simp only [Act.put, List.setIfInBounds_toArray, List.set_cons_zero, List.set_cons_succ]
        refine reg_take (i := 10) (v := ?v52) rfl (by kernel_rfl) (by kernel_rfl) (by kernel_rfl) (fun _ _ _ h => h) (Or.inl ⟨by kernel_rfl, ?h52⟩) (by assumption) ?r52
        case h52 => (intro w hSw; (try dsimp only at hSw); go_simp; try with_reducible rfl)
        try simp only [Act.put, List.setIfInBounds_toArray, List.set_cons_zero, List.set_cons_succ]
        refine reg_call (i := 12) (by kernel_rfl) rfl (fun K hK => ?_)
        rw [if_pos (show Region.wanted _ _ = true by kernel_rfl)]
        refine wp_store_mid 34 _ _ rfl gb 0 #[.slice (some ⟨_, 0, none⟩) 0 0, .slice (some ⟨_, 0, none⟩) 0 0, .int .i64 jp, .int .i64 on, .slice A16 n16 c16] rfl rfl (row_there Rg 5 (by decide)) size_block (by simp [Value.oneCell']) ?_
        rw [set5_eq]
        refine hK.out _ _ ?_ (fun hHeld => ?_)
        · exact ⟨(row_far5 Rb (by omega) _ _ _ _ _).cell 2, (row_far5 Rb (by omega) _ _ _ _ _).cell 3, (row_far5 Rb (by omega) _ _ _ _ _).cell 4⟩
        clear hK K
        try simp only [Act.put, List.setIfInBounds_toArray, List.set_cons_zero, List.set_cons_succ]
        refine wpAnyH_done (by kernel_rfl) ?_ _
        go_wp2_with fail
        go_meet
        exact ⟨gb, _, _, A16, n16, c16, rfl, hgb, copy_leaf Rg tn Rb RR hbl hgb⟩
      · go_simp
        have nb := (Below.refl wd.heap.size wd).alloc (Nat.le_refl _) (.cells #[] 44)
        replace hbl : Below w.heap.size w (wd.alloc (.cells #[] 44)) := hbl.trans (nb.mono hbl.size)
        replace Rb := Rb.below nb Rb.lt
        replace RR := RR.below nb RR.lt
        clear nb
        generalize wd.alloc (.cells #[] 44) = wd at hbl Rb RR ⊢
        refine hK.out _ _ ?_ (fun hHeld => ?_)
        · exact ⟨Rb.cell 2, Rb.cell 3, Rb.cell 4⟩
        clear hK K
        try simp only [Act.put, List.setIfInBounds_toArray, List.set_cons_zero, List.set_cons_succ]
        refine reg_call3 (i := 0) (j := 9) (k := 11) (by kernel_rfl) rfl rfl rfl (fun K hK => ?_) (fun K hK => ?_) (fun K hK => ?_)
        · go_simp
          have nb := (Below.refl wd.heap.size wd).alloc (Nat.le_refl _) (.cells #[] 68)
          replace hbl : Below w.heap.size w (wd.alloc (.cells #[] 68)) := hbl.trans (nb.mono hbl.size)
          replace Rb := Rb.below nb Rb.lt
          replace RR := RR.below nb RR.lt
          clear nb
          generalize wd.alloc (.cells #[] 68) = wd at hbl Rb RR ⊢
          refine hK.out _ _ ?_ (fun hHeld => ?_)
          · exact ⟨Rb.cell 2, Rb.cell 3, Rb.cell 4⟩
          clear hK K
          try simp only [Act.put, List.setIfInBounds_toArray, List.set_cons_zero, List.set_cons_succ]
          refine reg_call2 (i := 9) (j := 11) (by kernel_rfl) rfl rfl (fun K hK => ?_) (fun K hK => ?_)
          · obtain ⟨A16, n16, c16, wq, r9, tn, nb⟩ := append_ints wd lo w.heap.size ⟨a6, 0, none⟩ A4 n4 c4 (tv.keep (Chg.below hbl)) hbl.size (by omega)
            rw [if_pos (show Region.wanted _ _ = true by kernel_rfl)]
            refine Lib.wp_append_run_sl _ _ _ 28 rfl _ _ rfl rfl r9 ?_
            clear r9
            replace hbl : Below w.heap.size w wq := hbl.trans (nb.mono hbl.size)
            replace Rb := Rb.below nb Rb.lt
            replace RR := RR.below nb RR.lt
            clear nb
            obtain ⟨wd, hwd⟩ : ∃ x, x = wq := ⟨_, rfl⟩
            subst hwd
            refine hK.out _ _ ?_ (fun hHeld => ?_)
            · exact ⟨Rb.cell 2, Rb.cell 3, Rb.cell 4⟩
            clear hK K
            try simp only [Act.put, List.setIfInBounds_toArray, List.set_cons_zero, List.set_cons_succ]
            refine reg_take (i := 10) (v := ?v53) rfl (by kernel_rfl) (by kernel_rfl) (by kernel_rfl) (fun _ _ _ h => h) (Or.inl ⟨by kernel_rfl, ?h53⟩) (by assumption) ?r53
            case h53 => (intro w hSw; (try dsimp only at hSw); go_simp; try with_reducible rfl)
            try simp only [Act.put, List.setIfInBounds_toArray, List.set_cons_zero, List.set_cons_succ]
            refine reg_call (i := 11) (by kernel_rfl) rfl (fun K hK => ?_)
            go_simp
            have nb := (Below.refl wd.heap.size wd).alloc (Nat.le_refl _) (.cells #[.slice none 0 0, .slice none 0 0, .int .i64 0, .int .i64 0, .slice none 0 0] 34)
            have Rg := Row.new wd 34 #[.slice none 0 0, .slice none 0 0, .int .i64 0, .int .i64 0, .slice none 0 0]
            have hgb : w.heap.size + 1 < wd.heap.size := RR.lt
            replace hbl : Below w.heap.size w (wd.alloc (.cells #[.slice none 0 0, .slice none 0 0, .int .i64 0, .int .i64 0, .slice none 0 0] 34)) := hbl.trans (nb.mono hbl.size)
            replace Rb := Rb.below nb Rb.lt
            replace RR := RR.below nb RR.lt
            replace tn := tn.keep (Chg.below (lo := w.heap.size) nb)
            clear nb
            generalize hgbv : wd.heap.size = gb at Rg hgb ⊢
            clear hgbv
            generalize wd.alloc (.cells #[.slice none 0 0, .slice none 0 0, .int .i64 0, .int .i64 0, .slice none 0 0] 34) = wd at hbl Rb RR tn Rg ⊢
            refine hK.out _ _ ?_ (fun hHeld => ?_)
            · exact ⟨Rb.cell 2, Rb.cell 3, Rb.cell 4⟩
            clear hK K
            try simp only [Act.put, List.setIfInBounds_toArray, List.set_cons_zero, List.set_cons_succ]
            refine reg_call (i := 12) (by kernel_rfl) rfl (fun K hK => ?_)
            rw [if_pos (show Region.wanted _ _ = true by kernel_rfl)]
            refine wp_store_mid 34 _ _ rfl gb 0 #[.slice (some ⟨_, 0, none⟩) 0 0, .slice (some ⟨_, 0, none⟩) 0 0, .int .i64 jp, .int .i64 on, .slice A16 n16 c16] rfl rfl (row_there Rg 5 (by decide)) size_block (by simp [Value.oneCell']) ?_
            rw [set5_eq]
            refine hK.out _ _ ?_ (fun hHeld => ?_)
            · exact ⟨(row_far5 Rb (by omega) _ _ _ _ _).cell 2, (row_far5 Rb (by omega) _ _ _ _ _).cell 3, (row_far5 Rb (by omega) _ _ _ _ _).cell 4⟩
            clear hK K
            try simp only [Act.put, List.setIfInBounds_toArray, List.set_cons_zero, List.set_cons_succ]
            refine wpAnyH_done (by kernel_rfl) ?_ _
            go_wp2_with fail
            go_meet
            exact ⟨gb, _, _, A16, n16, c16, rfl, hgb, copy_leaf Rg tn Rb RR hbl hgb⟩
          go_simp
          have nb := (Below.refl wd.heap.size wd).alloc (Nat.le_refl _) (.cells #[.slice none 0 0, .slice none 0 0, .int .i64 0, .int .i64 0, .slice none 0 0] 34)
          have Rg := Row.new wd 34 #[.slice none 0 0, .slice none 0 0, .int .i64 0, .int .i64 0, .slice none 0 0]
          have hgb : w.heap.size + 1 < wd.heap.size := RR.lt
          replace hbl : Below w.heap.size w (wd.alloc (.cells #[.slice none 0 0, .slice none 0 0, .int .i64 0, .int .i64 0, .slice none 0 0] 34)) := hbl.trans (nb.mono hbl.size)
          replace Rb := Rb.below nb Rb.lt
          replace RR := RR.below nb RR.lt
          clear nb
          generalize hgbv : wd.heap.size = gb at Rg hgb ⊢
          clear hgbv
          generalize wd.alloc (.cells #[.slice none 0 0, .slice none 0 0, .int .i64 0, .int .i64 0, .slice none 0 0] 34) = wd at hbl Rb RR Rg ⊢
          refine hK.out _ _ ?_ (fun hHeld => ?_)
          · exact ⟨Rb.cell 2, Rb.cell 3, Rb.cell 4⟩
          clear hK K
          try simp only [Act.put, List.setIfInBounds_toArray, List.set_cons_zero, List.set_cons_succ]
          refine reg_call (i := 9) (by kernel_rfl) rfl (fun K hK => ?_)
          obtain ⟨A16, n16, c16, wq, r9, tn, nb⟩ := append_ints wd lo w.heap.size ⟨a6, 0, none⟩ A4 n4 c4 (tv.keep (Chg.below hbl)) hbl.size (by omega)
          rw [if_pos (show Region.wanted _ _ = true by kernel_rfl)]
          refine Lib.wp_append_run_sl _ _ _ 28 rfl _ _ rfl rfl r9 ?_
          clear r9
          replace hbl : Below w.heap.size w wq := hbl.trans (nb.mono hbl.size)
          replace Rb := Rb.below nb Rb.lt
          replace RR := RR.below nb RR.lt
          replace Rg := Rg.below nb Rg.lt
          clear nb
          obtain ⟨wd, hwd⟩ : ∃ x, x = wq := ⟨_, rfl⟩
          subst hwd
          refine hK.out _ _ ?_ (fun hHeld => ?_)
          · exact ⟨Rb.cell 2, Rb.cell 3, Rb.cell 4⟩
          clear hK K
          try simp only [Act.put, List.setIfInBounds_toArray, List.set_cons_zero, List.set_cons_succ]
          refine reg_take (i := 10) (v := ?v54) rfl (by kernel_rfl) (by kernel_rfl) (by kernel_rfl) (fun _ _ _ h => h) (Or.inl ⟨by kernel_rfl, ?h54⟩) (by assumption) ?r54
          case h54 => (intro w hSw; (try dsimp only at hSw); go_simp; try with_reducible rfl)
          try simp only [Act.put, List.setIfInBounds_toArray, List.set_cons_zero, List.set_cons_succ]
          refine reg_call (i := 12) (by kernel_rfl) rfl (fun K hK => ?_)
          rw [if_pos (show Region.wanted _ _ = true by kernel_rfl)]
          refine wp_store_mid 34 _ _ rfl gb 0 #[.slice (some ⟨_, 0, none⟩) 0 0, .slice (some ⟨_, 0, none⟩) 0 0, .int .i64 jp, .int .i64 on, .slice A16 n16 c16] rfl rfl (row_there Rg 5 (by decide)) size_block (by simp [Value.oneCell']) ?_
          rw [set5_eq]
          refine hK.out _ _ ?_ (fun hHeld => ?_)
          · exact ⟨(row_far5 Rb (by omega) _ _ _ _ _).cell 2, (row_far5 Rb (by omega) _ _ _ _ _).cell 3, (row_far5 Rb (by omega) _ _ _ _ _).cell 4⟩
          clear hK K
          try simp only [Act.put, List.setIfInBounds_toArray, List.set_cons_zero, List.set_cons_succ]
          refine wpAnyH_done (by kernel_rfl) ?_ _
          go_wp2_with fail
          go_meet
          exact ⟨gb, _, _, A16, n16, c16, rfl, hgb, copy_leaf Rg tn Rb RR hbl hgb⟩
        · obtain ⟨A16, n16, c16, wq, r9, tn, nb⟩ := append_ints wd lo w.heap.size ⟨a6, 0, none⟩ A4 n4 c4 (tv.keep (Chg.below hbl)) hbl.size (by omega)
          rw [if_pos (show Region.wanted _ _ = true by kernel_rfl)]
          refine Lib.wp_append_run_sl _ _ _ 28 rfl _ _ rfl rfl r9 ?_
          clear r9
          replace hbl : Below w.heap.size w wq := hbl.trans (nb.mono hbl.size)
          replace Rb := Rb.below nb Rb.lt
          replace RR := RR.below nb RR.lt
          clear nb
          obtain ⟨wd, hwd⟩ : ∃ x, x = wq := ⟨_, rfl⟩
          subst hwd
          refine hK.out _ _ ?_ (fun hHeld => ?_)
          · exact ⟨Rb.cell 2, Rb.cell 3, Rb.cell 4⟩
          clear hK K
          try simp only [Act.put, List.setIfInBounds_toArray, List.set_cons_zero, List.set_cons_succ]
          refine reg_call2 (i := 0) (j := 11) (by kernel_rfl) rfl rfl (fun K hK => ?_) (fun K hK => ?_)
          · go_simp
            have nb := (Below.refl wd.heap.size wd).alloc (Nat.le_refl _) (.cells #[] 68)
            replace hbl : Below w.heap.size w (wd.alloc (.cells #[] 68)) := hbl.trans (nb.mono hbl.size)
            replace Rb := Rb.below nb Rb.lt
            replace RR := RR.below nb RR.lt
            replace tn := tn.keep (Chg.below (lo := w.heap.size) nb)
            clear nb
            generalize wd.alloc (.cells #[] 68) = wd at hbl Rb RR tn ⊢
            refine hK.out _ _ ?_ (fun hHeld => ?_)
            · exact ⟨Rb.cell 2, Rb.cell 3, Rb.cell 4⟩
            clear hK K
            try simp only [Act.put, List.setIfInBounds_toArray, List.set_cons_zero, List.set_cons_succ]
            refine reg_take (i := 10) (v := ?v55) rfl (by kernel_rfl) (by kernel_rfl) (by kernel_rfl) (fun _ _ _ h => h) (Or.inl ⟨by kernel_rfl, ?h55⟩) (by assumption) ?r55
            case h55 => (intro w hSw; (try dsimp only at hSw); go_simp; try with_reducible rfl)
            try simp only [Act.put, List.setIfInBounds_toArray, List.set_cons_zero, List.set_cons_succ]
            refine reg_call (i := 11) (by kernel_rfl) rfl (fun K hK => ?_)
            go_simp
            have nb := (Below.refl wd.heap.size wd).alloc (Nat.le_refl _) (.cells #[.slice none 0 0, .slice none 0 0, .int .i64 0, .int .i64 0, .slice none 0 0] 34)
            have Rg := Row.new wd 34 #[.slice none 0 0, .slice none 0 0, .int .i64 0, .int .i64 0, .slice none 0 0]
            have hgb : w.heap.size + 1 < wd.heap.size := RR.lt
            replace hbl : Below w.heap.size w (wd.alloc (.cells #[.slice none 0 0, .slice none 0 0, .int .i64 0, .int .i64 0, .slice none 0 0] 34)) := hbl.trans (nb.mono hbl.size)
            replace Rb := Rb.below nb Rb.lt
            replace RR := RR.below nb RR.lt
            replace tn := tn.keep (Chg.below (lo := w.heap.size) nb)
            clear nb
            generalize hgbv : wd.heap.size = gb at Rg hgb ⊢
            clear hgbv
            generalize wd.alloc (.cells #[.slice none 0 0, .slice none 0 0, .int .i64 0, .int .i64 0, .slice none 0 0] 34) = wd at hbl Rb RR tn Rg ⊢
            refine hK.out _ _ ?_ (fun hHeld => ?_)
            · exact ⟨Rb.cell 2, Rb.cell 3, Rb.cell 4⟩
            clear hK K
            try simp only [Act.put, List.setIfInBounds_toArray, List.set_cons_zero, List.set_cons_succ]
            refine reg_call (i := 12) (by kernel_rfl) rfl (fun K hK => ?_)
            rw [if_pos (show Region.wanted _ _ = true by kernel_rfl)]
            refine wp_store_mid 34 _ _ rfl gb 0 #[.slice (some ⟨_, 0, none⟩) 0 0, .slice (some ⟨_, 0, none⟩) 0 0, .int .i64 jp, .int .i64 on, .slice A16 n16 c16] rfl rfl (row_there Rg 5 (by decide)) size_block (by simp [Value.oneCell']) ?_
            rw [set5_eq]
            refine hK.out _ _ ?_ (fun hHeld => ?_)
            · exact ⟨(row_far5 Rb (by omega) _ _ _ _ _).cell 2, (row_far5 Rb (by omega) _ _ _ _ _).cell 3, (row_far5 Rb (by omega) _ _ _ _ _).cell 4⟩
            clear hK K
            try simp only [Act.put, List.setIfInBounds_toArray, List.set_cons_zero, List.set_cons_succ]
            refine wpAnyH_done (by kernel_rfl) ?_ _
            go_wp2_with fail
            go_meet
            exact ⟨gb, _, _, A16, n16, c16, rfl, hgb, copy_leaf Rg tn Rb RR hbl hgb⟩
          go_simp
          have nb := (Below.refl wd.heap.size wd).alloc (Nat.le_refl _) (.cells #[.slice none 0 0, .slice none 0 0, .int .i64 0, .int .i64 0, .slice none 0 0] 34)
          have Rg := Row.new wd 34 #[.slice none 0 0, .slice none 0 0, .int .i64 0, .int .i64 0, .slice none 0 0]
          have hgb : w.heap.size + 1 < wd.heap.size := RR.lt
          replace hbl : Below w.heap.size w (wd.alloc (.cells #[.slice none 0 0, .slice none 0 0, .int .i64 0, .int .i64 0, .slice none 0 0] 34)) := hbl.trans (nb.mono hbl.size)
          replace Rb := Rb.below nb Rb.lt
          replace RR := RR.below nb RR.lt
          replace tn := tn.keep (Chg.below (lo := w.heap.size) nb)
          clear nb
          generalize hgbv : wd.heap.size = gb at Rg hgb ⊢
          clear hgbv
          generalize wd.alloc (.cells #[.slice none 0 0, .slice none 0 0, .int .i64 0, .int .i64 0, .slice none 0 0] 34) = wd at hbl Rb RR tn Rg ⊢
          refine hK.out _ _ ?_ (fun hHeld => ?_)
          · exact ⟨Rb.cell 2, Rb.cell 3, Rb.cell 4⟩
          clear hK K
          try simp only [Act.put, List.setIfInBounds_toArray, List.set_cons_zero, List.set_cons_succ]
          refine reg_call (i := 0) (by kernel_rfl) rfl (fun K hK => ?_)
          go_simp
          have nb := (Below.refl wd.heap.size wd).alloc (Nat.le_refl _) (.cells #[] 68)
          replace hbl : Below w.heap.size w (wd.alloc (.cells #[] 68)) := hbl.trans (nb.mono hbl.size)
          replace Rb := Rb.below nb Rb.lt
          replace RR := RR.below nb RR.lt
          replace tn := tn.keep (Chg.below (lo := w.heap.size) nb)
          replace Rg := Rg.below nb Rg.lt
          clear nb
          generalize wd.alloc (.cells #[] 68) = wd at hbl Rb RR tn Rg ⊢
          refine hK.out _ _ ?_ (fun hHeld => ?_)
          · exact ⟨Rb.cell 2, Rb.cell 3, Rb.cell 4⟩
          clear hK K
          try simp only [Act.put, List.setIfInBounds_toArray, List.set_cons_zero, List.set_cons_succ]
          refine reg_take (i := 10) (v := ?v56) rfl (by kernel_rfl) (by kernel_rfl) (by kernel_rfl) (fun _ _ _ h => h) (Or.inl ⟨by kernel_rfl, ?h56⟩) (by assumption) ?r56
          case h56 => (intro w hSw; (try dsimp only at hSw); go_simp; try with_reducible rfl)
          try simp only [Act.put, List.setIfInBounds_toArray, List.set_cons_zero, List.set_cons_succ]
          refine reg_call (i := 12) (by kernel_rfl) rfl (fun K hK => ?_)
          rw [if_pos (show Region.wanted _ _ = true by kernel_rfl)]
          refine wp_store_mid 34 _ _ rfl gb 0 #[.slice (some ⟨_, 0, none⟩) 0 0, .slice (some ⟨_, 0, none⟩) 0 0, .int .i64 jp, .int .i64 on, .slice A16 n16 c16] rfl rfl (row_there Rg 5 (by decide)) size_block (by simp [Value.oneCell']) ?_
          rw [set5_eq]
          refine hK.out _ _ ?_ (fun hHeld => ?_)
          · exact ⟨(row_far5 Rb (by omega) _ _ _ _ _).cell 2, (row_far5 Rb (by omega) _ _ _ _ _).cell 3, (row_far5 Rb (by omega) _ _ _ _ _).cell 4⟩
          clear hK K
          try simp only [Act.put, List.setIfInBounds_toArray, List.set_cons_zero, List.set_cons_succ]
          refine wpAnyH_done (by kernel_rfl) ?_ _
          go_wp2_with fail
          go_meet
          exact ⟨gb, _, _, A16, n16, c16, rfl, hgb, copy_leaf Rg tn Rb RR hbl hgb⟩
        go_simp
        have nb := (Below.refl wd.heap.size wd).alloc (Nat.le_refl _) (.cells #[.slice none 0 0, .slice none 0 0, .int .i64 0, .int .i64 0, .slice none 0 0] 34)
        have Rg := Row.new wd 34 #[.slice none 0 0, .slice none 0 0, .int .i64 0, .int .i64 0, .slice none 0 0]
        have hgb : w.heap.size + 1 < wd.heap.size := RR.lt
        replace hbl : Below w.heap.size w (wd.alloc (.cells #[.slice none 0 0, .slice none 0 0, .int .i64 0, .int .i64 0, .slice none 0 0] 34)) := hbl.trans (nb.mono hbl.size)
        replace Rb := Rb.below nb Rb.lt
        replace RR := RR.below nb RR.lt
        clear nb
        generalize hgbv : wd.heap.size = gb at Rg hgb ⊢
        clear hgbv
        generalize wd.alloc (.cells #[.slice none 0 0, .slice none 0 0, .int .i64 0, .int .i64 0, .slice none 0 0] 34) = wd at hbl Rb RR Rg ⊢
        refine hK.out _ _ ?_ (fun hHeld => ?_)
        · exact ⟨Rb.cell 2, Rb.cell 3, Rb.cell 4⟩
        clear hK K
        try simp only [Act.put, List.setIfInBounds_toArray, List.set_cons_zero, List.set_cons_succ]
        refine reg_call2 (i := 0) (j := 9) (by kernel_rfl) rfl rfl (fun K hK => ?_) (fun K hK => ?_)
        · go_simp
          have nb := (Below.refl wd.heap.size wd).alloc (Nat.le_refl _) (.cells #[] 68)
          replace hbl : Below w.heap.size w (wd.alloc (.cells #[] 68)) := hbl.trans (nb.mono hbl.size)
          replace Rb := Rb.below nb Rb.lt
          replace RR := RR.below nb RR.lt
          replace Rg := Rg.below nb Rg.lt
          clear nb
          generalize wd.alloc (.cells #[] 68) = wd at hbl Rb RR Rg ⊢
          refine hK.out _ _ ?_ (fun hHeld => ?_)
          · exact ⟨Rb.cell 2, Rb.cell 3, Rb.cell 4⟩
          clear hK K
          try simp only [Act.put, List.setIfInBounds_toArray, List.set_cons_zero, List.set_cons_succ]
          refine reg_call (i := 9) (by kernel_rfl) rfl (fun K hK => ?_)
          obtain ⟨A16, n16, c16, wq, r9, tn, nb⟩ := append_ints wd lo w.heap.size ⟨a6, 0, none⟩ A4 n4 c4 (tv.keep (Chg.below hbl)) hbl.size (by omega)
          rw [if_pos (show Region.wanted _ _ = true by kernel_rfl)]
          refine Lib.wp_append_run_sl _ _ _ 28 rfl _ _ rfl rfl r9 ?_
          clear r9
          replace hbl : Below w.heap.size w wq := hbl.trans (nb.mono hbl.size)
          replace Rb := Rb.below nb Rb.lt
          replace RR := RR.below nb RR.lt
          replace Rg := Rg.below nb Rg.lt
          clear nb
          obtain ⟨wd, hwd⟩ : ∃ x, x = wq := ⟨_, rfl⟩
          subst hwd
          refine hK.out _ _ ?_ (fun hHeld => ?_)
          · exact ⟨Rb.cell 2, Rb.cell 3, Rb.cell 4⟩
          clear hK K
          try simp only [Act.put, List.setIfInBounds_toArray, List.set_cons_zero, List.set_cons_succ]
          refine reg_take (i := 10) (v := ?v57) rfl (by kernel_rfl) (by kernel_rfl) (by kernel_rfl) (fun _ _ _ h => h) (Or.inl ⟨by kernel_rfl, ?h57⟩) (by assumption) ?r57
          case h57 => (intro w hSw; (try dsimp only at hSw); go_simp; try with_reducible rfl)
          try simp only [Act.put, List.setIfInBounds_toArray, List.set_cons_zero, List.set_cons_succ]
          refine reg_call (i := 12) (by kernel_rfl) rfl (fun K hK => ?_)
          rw [if_pos (show Region.wanted _ _ = true by kernel_rfl)]
          refine wp_store_mid 34 _ _ rfl gb 0 #[.slice (some ⟨_, 0, none⟩) 0 0, .slice (some ⟨_, 0, none⟩) 0 0, .int .i64 jp, .int .i64 on, .slice A16 n16 c16] rfl rfl (row_there Rg 5 (by decide)) size_block (by simp [Value.oneCell']) ?_
          rw [set5_eq]
          refine hK.out _ _ ?_ (fun hHeld => ?_)
          · exact ⟨(row_far5 Rb (by omega) _ _ _ _ _).cell 2, (row_far5 Rb (by omega) _ _ _ _ _).cell 3, (row_far5 Rb (by omega) _ _ _ _ _).cell 4⟩
          clear hK K
          try simp only [Act.put, List.setIfInBounds_toArray, List.set_cons_zero, List.set_cons_succ]
          refine wpAnyH_done (by kernel_rfl) ?_ _
          go_wp2_with fail
          go_meet
          exact ⟨gb, _, _, A16, n16, c16, rfl, hgb, copy_leaf Rg tn Rb RR hbl hgb⟩
        obtain ⟨A16, n16, c16, wq, r9, tn, nb⟩ := append_ints wd lo w.heap.size ⟨a6, 0, none⟩ A4 n4 c4 (tv.keep (Chg.below hbl)) hbl.size (by omega)
        rw [if_pos (show Region.wanted _ _ = true by kernel_rfl)]
        refine Lib.wp_append_run_sl _ _ _ 28 rfl _ _ rfl rfl r9 ?_
        clear r9
        replace hbl : Below w.heap.size w wq := hbl.trans (nb.mono hbl.size)
        replace Rb := Rb.below nb Rb.lt
        replace RR := RR.below nb RR.lt
        replace Rg := Rg.below nb Rg.lt
        clear nb
        obtain ⟨wd, hwd⟩ : ∃ x, x = wq := ⟨_, rfl⟩
        subst hwd
        refine hK.out _ _ ?_ (fun hHeld => ?_)
        · exact ⟨Rb.cell 2, Rb.cell 3, Rb.cell 4⟩
        clear hK K
        try simp only [Act.put, List.setIfInBounds_toArray, List.set_cons_zero, List.set_cons_succ]
        refine reg_call (i := 0) (by kernel_rfl) rfl (fun K hK => ?_)
        go_simp
        have nb := (Below.refl wd.heap.size wd).alloc (Nat.le_refl _) (.cells #[] 68)
        replace hbl : Below w.heap.size w (wd.alloc (.cells #[] 68)) := hbl.trans (nb.mono hbl.size)
        replace Rb := Rb.below nb Rb.lt
        replace RR := RR.below nb RR.lt
        replace tn := tn.keep (Chg.below (lo := w.heap.size) nb)
        replace Rg := Rg.below nb Rg.lt
        clear nb
        generalize wd.alloc (.cells #[] 68) = wd at hbl Rb RR tn Rg ⊢
        refine hK.out _ _ ?_ (fun hHeld => ?_)
        · exact ⟨Rb.cell 2, Rb.cell 3, Rb.cell 4⟩
        clear hK K
        try simp only [Act.put, List.setIfInBounds_toArray, List.set_cons_zero, List.set_cons_succ]
        refine reg_take (i := 10) (v := ?v58) rfl (by kernel_rfl) (by kernel_rfl) (by kernel_rfl) (fun _ _ _ h => h) (Or.inl ⟨by kernel_rfl, ?h58⟩) (by assumption) ?r58
        case h58 => (intro w hSw; (try dsimp only at hSw); go_simp; try with_reducible rfl)
        try simp only [Act.put, List.setIfInBounds_toArray, List.set_cons_zero, List.set_cons_succ]
        refine reg_call (i := 12) (by kernel_rfl) rfl (fun K hK => ?_)
        rw [if_pos (show Region.wanted _ _ = true by kernel_rfl)]
        refine wp_store_mid 34 _ _ rfl gb 0 #[.slice (some ⟨_, 0, none⟩) 0 0, .slice (some ⟨_, 0, none⟩) 0 0, .int .i64 jp, .int .i64 on, .slice A16 n16 c16] rfl rfl (row_there Rg 5 (by decide)) size_block (by simp [Value.oneCell']) ?_
        rw [set5_eq]
        refine hK.out _ _ ?_ (fun hHeld => ?_)
        · exact ⟨(row_far5 Rb (by omega) _ _ _ _ _).cell 2, (row_far5 Rb (by omega) _ _ _ _ _).cell 3, (row_far5 Rb (by omega) _ _ _ _ _).cell 4⟩
        clear hK K
        try simp only [Act.put, List.setIfInBounds_toArray, List.set_cons_zero, List.set_cons_succ]
        refine wpAnyH_done (by kernel_rfl) ?_ _
        go_wp2_with fail
        go_meet
        exact ⟨gb, _, _, A16, n16, c16, rfl, hgb, copy_leaf Rg tn Rb RR hbl hgb⟩
      · obtain ⟨A16, n16, c16, wq, r9, tn, nb⟩ := append_ints wd lo w.heap.size ⟨a6, 0, none⟩ A4 n4 c4 (tv.keep (Chg.below hbl)) hbl.size (by omega)
        rw [if_pos (show Region.wanted _ _ = true by kernel_rfl)]
        refine Lib.wp_append_run_sl _ _ _ 28 rfl _ _ rfl rfl r9 ?_
        clear r9
        replace hbl : Below w.heap.size w wq := hbl.trans (nb.mono hbl.size)
        replace Rb := Rb.below nb Rb.lt
        replace RR := RR.below nb RR.lt
        clear nb
        obtain ⟨wd, hwd⟩ : ∃ x, x = wq := ⟨_, rfl⟩
        subst hwd
        refine hK.out _ _ ?_ (fun hHeld => ?_)
        · exact ⟨Rb.cell 2, Rb.cell 3, Rb.cell 4⟩
        clear hK K
        try simp only [Act.put, List.setIfInBounds_toArray, List.set_cons_zero, List.set_cons_succ]
        refine reg_call3 (i := 0) (j := 1) (k := 11) (by kernel_rfl) rfl rfl rfl (fun K hK => ?_) (fun K hK => ?_) (fun K hK => ?_)
        · go_simp
          have nb := (Below.refl wd.heap.size wd).alloc (Nat.le_refl _) (.cells #[] 68)
          replace hbl : Below w.heap.size w (wd.alloc (.cells #[] 68)) := hbl.trans (nb.mono hbl.size)
          replace Rb := Rb.below nb Rb.lt
          replace RR := RR.below nb RR.lt
          replace tn := tn.keep (Chg.below (lo := w.heap.size) nb)
          clear nb
          generalize wd.alloc (.cells #[] 68) = wd at hbl Rb RR tn ⊢
          refine hK.out _ _ ?_ (fun hHeld => ?_)
          · exact ⟨Rb.cell 2, Rb.cell 3, Rb.cell 4⟩
          clear hK K
          try simp only [Act.put, List.setIfInBounds_toArray, List.set_cons_zero, List.set_cons_succ]
          refine reg_call2 (i := 1) (j := 11) (by kernel_rfl) rfl rfl (fun K hK => ?_) (fun K hK => ?_)
          · go_simp
            have nb := (Below.refl wd.heap.size wd).alloc (Nat.le_refl _) (.cells #[] 44)
            replace hbl : Below w.heap.size w (wd.alloc (.cells #[] 44)) := hbl.trans (nb.mono hbl.size)
            replace Rb := Rb.below nb Rb.lt
            replace RR := RR.below nb RR.lt
            replace tn := tn.keep (Chg.below (lo := w.heap.size) nb)
            clear nb
            generalize wd.alloc (.cells #[] 44) = wd at hbl Rb RR tn ⊢
            refine hK.out _ _ ?_ (fun hHeld => ?_)
            · exact ⟨Rb.cell 2, Rb.cell 3, Rb.cell 4⟩
            clear hK K
            try simp only [Act.put, List.setIfInBounds_toArray, List.set_cons_zero, List.set_cons_succ]
            refine reg_take (i := 10) (v := ?v59) rfl (by kernel_rfl) (by kernel_rfl) (by kernel_rfl) (fun _ _ _ h => h) (Or.inl ⟨by kernel_rfl, ?h59⟩) (by assumption) ?r59
            case h59 => (intro w hSw; (try dsimp only at hSw); go_simp; try with_reducible rfl)
            try simp only [Act.put, List.setIfInBounds_toArray, List.set_cons_zero, List.set_cons_succ]
            refine reg_call (i := 11) (by kernel_rfl) rfl (fun K hK => ?_)
            go_simp
            have nb := (Below.refl wd.heap.size wd).alloc (Nat.le_refl _) (.cells #[.slice none 0 0, .slice none 0 0, .int .i64 0, .int .i64 0, .slice none 0 0] 34)
            have Rg := Row.new wd 34 #[.slice none 0 0, .slice none 0 0, .int .i64 0, .int .i64 0, .slice none 0 0]
            have hgb : w.heap.size + 1 < wd.heap.size := RR.lt
            replace hbl : Below w.heap.size w (wd.alloc (.cells #[.slice none 0 0, .slice none 0 0, .int .i64 0, .int .i64 0, .slice none 0 0] 34)) := hbl.trans (nb.mono hbl.size)
            replace Rb := Rb.below nb Rb.lt
            replace RR := RR.below nb RR.lt
            replace tn := tn.keep (Chg.below (lo := w.heap.size) nb)
            clear nb
            generalize hgbv : wd.heap.size = gb at Rg hgb ⊢
            clear hgbv
            generalize wd.alloc (.cells #[.slice none 0 0, .slice none 0 0, .int .i64 0, .int .i64 0, .slice none 0 0] 34) = wd at hbl Rb RR tn Rg ⊢
            refine hK.out _ _ ?_ (fun hHeld => ?_)
            · exact ⟨Rb.cell 2, Rb.cell 3, Rb.cell 4⟩
            clear hK K
            try simp only [Act.put, List.setIfInBounds_toArray, List.set_cons_zero, List.set_cons_succ]
            refine reg_call (i := 12) (by kernel_rfl) rfl (fun K hK => ?_)
            rw [if_pos (show Region.wanted _ _ = true by kernel_rfl)]
            refine wp_store_mid 34 _ _ rfl gb 0 #[.slice (some ⟨_, 0, none⟩) 0 0, .slice (some ⟨_, 0, none⟩) 0 0, .int .i64 jp, .int .i64 on, .slice A16 n16 c16] rfl rfl (row_there Rg 5 (by decide)) size_block (by simp [Value.oneCell']) ?_
            rw [set5_eq]
            refine hK.out _ _ ?_ (fun hHeld => ?_)
            · exact ⟨(row_far5 Rb (by omega) _ _ _ _ _).cell 2, (row_far5 Rb (by omega) _ _ _ _ _).cell 3, (row_far5 Rb (by omega) _ _ _ _ _).cell 4⟩
            clear hK K
            try simp only [Act.put, List.setIfInBounds_toArray, List.set_cons_zero, List.set_cons_succ]
            refine wpAnyH_done (by kernel_rfl) ?_ _
            go_wp2_with fail
            go_meet
            exact ⟨gb, _, _, A16, n16, c16, rfl, hgb, copy_leaf Rg tn Rb RR hbl hgb⟩
          go_simp
          have nb := (Below.refl wd.heap.size wd).alloc (Nat.le_refl _) (.cells #[.slice none 0 0, .slice none 0 0, .int .i64 0, .int .i64 0, .slice none 0 0] 34)
          have Rg := Row.new wd 34 #[.slice none 0 0, .slice none 0 0, .int .i64 0, .int .i64 0, .slice none 0 0]
          have hgb : w.heap.size + 1 < wd.heap.size := RR.lt
          replace hbl : Below w.heap.size w (wd.alloc (.cells #[.slice none 0 0, .slice none 0 0, .int .i64 0, .int .i64 0, .slice none 0 0] 34)) := hbl.trans (nb.mono hbl.size)
          replace Rb := Rb.below nb Rb.lt
          replace RR := RR.below nb RR.lt
          replace tn := tn.keep (Chg.below (lo := w.heap.size) nb)
          clear nb
          generalize hgbv : wd.heap.size = gb at Rg hgb ⊢
          clear hgbv
          generalize wd.alloc (.cells #[.slice none 0 0, .slice none 0 0, .int .i64 0, .int .i64 0, .slice none 0 0] 34) = wd at hbl Rb RR tn Rg ⊢
          refine hK.out _ _ ?_ (fun hHeld => ?_)
          · exact ⟨Rb.cell 2, Rb.cell 3, Rb.cell 4⟩
          clear hK K
          try simp only [Act.put, List.setIfInBounds_toArray, List.set_cons_zero, List.set_cons_succ]
          refine reg_call (i := 1) (by kernel_rfl) rfl (fun K hK => ?_)
          go_simp
          have nb := (Below.refl wd.heap.size wd).alloc (Nat.le_refl _) (.cells #[] 44)
          replace hbl : Below w.heap.size w (wd.alloc (.cells #[] 44)) := hbl.trans (nb.mono hbl.size)
          replace Rb := Rb.below nb Rb.lt
          replace RR := RR.below nb RR.lt
          replace tn := tn.keep (Chg.below (lo := w.heap.size) nb)
          replace Rg := Rg.below nb Rg.lt
          clear nb
          generalize wd.alloc (.cells #[] 44) = wd at hbl Rb RR tn Rg ⊢
          refine hK.out _ _ ?_ (fun hHeld => ?_)
          · exact ⟨Rb.cell 2, Rb.cell 3, Rb.cell 4⟩
          clear hK K
          try simp only [Act.put, List.setIfInBounds_toArray, List.set_cons_zero, List.set_cons_succ]
          refine reg_take (i := 10) (v := ?v60) rfl (by kernel_rfl) (by kernel_rfl) (by kernel_rfl) (fun _ _ _ h => h) (Or.inl ⟨by kernel_rfl, ?h60⟩) (by assumption) ?r60
          case h60 => (intro w hSw; (try dsimp only at hSw); go_simp; try with_reducible rfl)
          try simp only [Act.put, List.setIfInBounds_toArray, List.set_cons_zero, List.set_cons_succ]
          refine reg_call (i := 12) (by kernel_rfl) rfl (fun K hK => ?_)
          rw [if_pos (show Region.wanted _ _ = true by kernel_rfl)]
          refine wp_store_mid 34 _ _ rfl gb 0 #[.slice (some ⟨_, 0, none⟩) 0 0, .slice (some ⟨_, 0, none⟩) 0 0, .int .i64 jp, .int .i64 on, .slice A16 n16 c16] rfl rfl (row_there Rg 5 (by decide)) size_block (by simp [Value.oneCell']) ?_
          rw [set5_eq]
          refine hK.out _ _ ?_ (fun hHeld => ?_)
          · exact ⟨(row_far5 Rb (by omega) _ _ _ _ _).cell 2, (row_far5 Rb (by omega) _ _ _ _ _).cell 3, (row_far5 Rb (by omega) _ _ _ _ _).cell 4⟩
          clear hK K
          try simp only [Act.put, List.setIfInBounds_toArray, List.set_cons_zero, List.set_cons_succ]
          refine wpAnyH_done (by kernel_rfl) ?_ _
          go_wp2_with fail
          go_meet
          exact ⟨gb, _, _, A16, n16, c16, rfl, hgb, copy_leaf Rg tn Rb RR hbl hgb⟩
        · go_simp
          have nb := (Below.refl wd.heap.size wd).alloc (Nat.le_refl _) (.cells #[] 44)
          replace hbl : Below w.heap.size w (wd.alloc (.cells #[] 44)) := hbl.trans (nb.mono hbl.size)
          replace Rb := Rb.below nb Rb.lt
          replace RR := RR.below nb RR.lt
          replace tn := tn.keep (Chg.below (lo := w.heap.size) nb)
          clear nb
          generalize wd.alloc (.cells #[] 44) = wd at hbl Rb RR tn ⊢
          refine hK.out _ _ ?_ (fun hHeld => ?_)
          · exact ⟨Rb.cell 2, Rb.cell 3, Rb.cell 4⟩
          clear hK K
          try simp only [Act.put, List.setIfInBounds_toArray, List.set_cons_zero, List.set_cons_succ]
          refine reg_call2 (i := 0) (j := 11) (by kernel_rfl) rfl rfl (fun K hK => ?_) (fun K hK => ?_)
          · go_simp
            have nb := (Below.refl wd.heap.size wd).alloc (Nat.le_refl _) (.cells #[] 68)
            replace hbl : Below w.heap.size w (wd.alloc (.cells #[] 68)) := hbl.trans (nb.mono hbl.size)
            replace Rb := Rb.below nb Rb.lt
            replace RR := RR.below nb RR.lt
            replace tn := tn.keep (Chg.below (lo := w.heap.size) nb)
            clear nb
            generalize wd.alloc (.cells #[] 68) = wd at hbl Rb RR tn ⊢
            refine hK.out _ _ ?_ (fun hHeld => ?_)
            · exact ⟨Rb.cell 2, Rb.cell 3, Rb.cell 4⟩
            clear hK K
            try simp only [Act.put, List.setIfInBounds_toArray, List.set_cons_zero, List.set_cons_succ]
            refine reg_take (i := 10) (v := ?v61) rfl (by kernel_rfl) (by kernel_rfl) (by kernel_rfl) (fun _ _ _ h => h) (Or.inl ⟨by kernel_rfl, ?h61⟩) (by assumption) ?r61
            case h61 => (intro w hSw; (try dsimp only at hSw); go_simp; try with_reducible rfl)
            try simp only [Act.put, List.setIfInBounds_toArray, List.set_cons_zero, List.set_cons_succ]
            refine reg_call (i := 11) (by kernel_rfl) rfl (fun K hK => ?_)
            go_simp
            have nb := (Below.refl wd.heap.size wd).alloc (Nat.le_refl _) (.cells #[.slice none 0 0, .slice none 0 0, .int .i64 0, .int .i64 0, .slice none 0 0] 34)
            have Rg := Row.new wd 34 #[.slice none 0 0, .slice none 0 0, .int .i64 0, .int .i64 0, .slice none 0 0]
            have hgb : w.heap.size + 1 < wd.heap.size := RR.lt
            replace hbl : Below w.heap.size w (wd.alloc (.cells #[.slice none 0 0, .slice none 0 0, .int .i64 0, .int .i64 0, .slice none 0 0] 34)) := hbl.trans (nb.mono hbl.size)
            replace Rb := Rb.below nb Rb.lt
            replace RR := RR.below nb RR.lt
            replace tn := tn.keep (Chg.below (lo := w.heap.size) nb)
            clear nb
            generalize hgbv : wd.heap.size = gb at Rg hgb ⊢
            clear hgbv
            generalize wd.alloc (.cells #[.slice none 0 0, .slice none 0 0, .int .i64 0, .int .i64 0, .slice none 0 0] 34) = wd at hbl Rb RR tn Rg ⊢
            refine hK.out _ _ ?_ (fun hHeld => ?_)
            · exact ⟨Rb.cell 2, Rb.cell 3, Rb.cell 4⟩
            clear hK K
            try simp only [Act.put, List.setIfInBounds_toArray, List.set_cons_zero, List.set_cons_succ]
            refine reg_call (i := 12) (by kernel_rfl) rfl (fun K hK => ?_)
            rw [if_pos (show Region.wanted _ _ = true by kernel_rfl)]
            refine wp_store_mid 34 _ _ rfl gb 0 #[.slice (some ⟨_, 0, none⟩) 0 0, .slice (some ⟨_, 0, none⟩) 0 0, .int .i64 jp, .int .i64 on, .slice A16 n16 c16] rfl rfl (row_there Rg 5 (by decide)) size_block (by simp [Value.oneCell']) ?_
            rw [set5_eq]
            refine hK.out _ _ ?_ (fun hHeld => ?_)
            · exact ⟨(row_far5 Rb (by omega) _ _ _ _ _).cell 2, (row_far5 Rb (by omega) _ _ _ _ _).cell 3, (row_far5 Rb (by omega) _ _ _ _ _).cell 4⟩
            clear hK K
            try simp only [Act.put, List.setIfInBounds_toArray, List.set_cons_zero, List.set_cons_succ]
            refine wpAnyH_done (by kernel_rfl) ?_ _
            go_wp2_with fail
            go_meet
            exact ⟨gb, _, _, A16, n16, c16, rfl, hgb, copy_leaf Rg tn Rb RR hbl hgb⟩
          go_simp
          have nb := (Below.refl wd.heap.size wd).alloc (Nat.le_refl _) (.cells #[.slice none 0 0, .slice none 0 0, .int .i64 0, .int .i64 0, .slice none 0 0] 34)
          have Rg := Row.new wd 34 #[.slice none 0 0, .slice none 0 0, .int .i64 0, .int .i64 0, .slice none 0 0]
          have hgb : w.heap.size + 1 < wd.heap.size := RR.lt
          replace hbl : Below w.heap.size w (wd.alloc (.cells #[.slice none 0 0, .slice none 0 0, .int .i64 0, .int .i64 0, .slice none 0 0] 34)) := hbl.trans (nb.mono hbl.size)
          replace Rb := Rb.below nb Rb.lt
          replace RR := RR.below nb RR.lt
          replace tn := tn.keep (Chg.below (lo := w.heap.size) nb)
          clear nb
          generalize hgbv : wd.heap.size = gb at Rg hgb ⊢
          clear hgbv
          generalize wd.alloc (.cells #[.slice none 0 0, .slice none 0 0, .int .i64 0, .int .i64 0, .slice none 0 0] 34) = wd at hbl Rb RR tn Rg ⊢
          refine hK.out _ _ ?_ (fun hHeld => ?_)
          · exact ⟨Rb.cell 2, Rb.cell 3, Rb.cell 4⟩
          clear hK K
          try simp only [Act.put, List.setIfInBounds_toArray, List.set_cons_zero, List.set_cons_succ]
          refine reg_call (i := 0) (by kernel_rfl) rfl (fun K hK => ?_)
          go_simp
          have nb := (Below.refl wd.heap.size wd).alloc (Nat.le_refl _) (.cells #[] 68)
          replace hbl : Below w.heap.size w (wd.alloc (.cells #[] 68)) := hbl.trans (nb.mono hbl.size)
          replace Rb := Rb.below nb Rb.lt
          replace RR := RR.below nb RR.lt
          replace tn := tn.keep (Chg.below (lo := w.heap.size) nb)
          replace Rg := Rg.below nb Rg.lt
          clear nb
          generalize wd.alloc (.cells #[] 68) = wd at hbl Rb RR tn Rg ⊢
          refine hK.out _ _ ?_ (fun hHeld => ?_)
          · exact ⟨Rb.cell 2, Rb.cell 3, Rb.cell 4⟩
          clear hK K
          try simp only [Act.put, List.setIfInBounds_toArray, List.set_cons_zero, List.set_cons_succ]
          refine reg_take (i := 10) (v := ?v62) rfl (by kernel_rfl) (by kernel_rfl) (by kernel_rfl) (fun _ _ _ h => h) (Or.inl ⟨by kernel_rfl, ?h62⟩) (by assumption) ?r62
          case h62 => (intro w hSw; (try dsimp only at hSw); go_simp; try with_reducible rfl)
          try simp only [Act.put, List.setIfInBounds_toArray, List.set_cons_zero, List.set_cons_succ]
          refine reg_call (i := 12) (by kernel_rfl) rfl (fun K hK => ?_)
          rw [if_pos (show Region.wanted _ _ = true by kernel_rfl)]
          refine wp_store_mid 34 _ _ rfl gb 0 #[.slice (some ⟨_, 0, none⟩) 0 0, .slice (some ⟨_, 0, none⟩) 0 0, .int .i64 jp, .int .i64 on, .slice A16 n16 c16] rfl rfl (row_there Rg 5 (by decide)) size_block (by simp [Value.oneCell']) ?_
          rw [set5_eq]
          refine hK.out _ _ ?_ (fun hHeld => ?_)
          · exact ⟨(row_far5 Rb (by omega) _ _ _ _ _).cell 2, (row_far5 Rb (by omega) _ _ _ _ _).cell 3, (row_far5 Rb (by omega) _ _ _ _ _).cell 4⟩
          clear hK K
          try simp only [Act.put, List.setIfInBounds_toArray, List.set_cons_zero, List.set_cons_succ]
          refine wpAnyH_done (by kernel_rfl) ?_ _
          go_wp2_with fail
          go_meet
          exact ⟨gb, _, _, A16, n16, c16, rfl, hgb, copy_leaf Rg tn Rb RR hbl hgb⟩
        go_simp
        have nb := (Below.refl wd.heap.size wd).alloc (Nat.le_refl _) (.cells #[.slice none 0 0, .slice none 0 0, .int .i64 0, .int .i64 0, .slice none 0 0] 34)
        have Rg := Row.new wd 34 #[.slice none 0 0, .slice none 0 0, .int .i64 0, .int .i64 0, .slice none 0 0]
        have hgb : w.heap.size + 1 < wd.heap.size := RR.lt
        replace hbl : Below w.heap.size w (wd.alloc (.cells #[.slice none 0 0, .slice none 0 0, .int .i64 0, .int .i64 0, .slice none 0 0] 34)) := hbl.trans (nb.mono hbl.size)
        replace Rb := Rb.below nb Rb.lt
        replace RR := RR.below nb RR.lt
        replace tn := tn.keep (Chg.below (lo := w.heap.size) nb)
        clear nb
        generalize hgbv : wd.heap.size = gb at Rg hgb ⊢
        clear hgbv
        generalize wd.alloc (.cells #[.slice none 0 0, .slice none 0 0, .int .i64 0, .int .i64 0, .slice none 0 0] 34) = wd at hbl Rb RR tn Rg ⊢
        refine hK.out _ _ ?_ (fun hHeld => ?_)
        · exact ⟨Rb.cell 2, Rb.cell 3, Rb.cell 4⟩
        clear hK K
        try simp only [Act.put, List.setIfInBounds_toArray, List.set_cons_zero, List.set_cons_succ]
        refine reg_call2 (i := 0) (j := 1) (by kernel_rfl) rfl rfl (fun K hK => ?_) (fun K hK => ?_)
        · go_simp
          have nb := (Below.refl wd.heap.size wd).alloc (Nat.le_refl _) (.cells #[] 68)
          replace hbl : Below w.heap.size w (wd.alloc (.cells #[] 68)) := hbl.trans (nb.mono hbl.size)
          replace Rb := Rb.below nb Rb.lt
          replace RR := RR.below nb RR.lt
          replace tn := tn.keep (Chg.below (lo := w.heap.size) nb)
          replace Rg := Rg.below nb Rg.lt
          clear nb
          generalize wd.alloc (.cells #[] 68) = wd at hbl Rb RR tn Rg ⊢
          refine hK.out _ _ ?_ (fun hHeld => ?_)
          · exact ⟨Rb.cell 2, Rb.cell 3, Rb.cell 4⟩
          clear hK K
          try simp only [Act.put, List.setIfInBounds_toArray, List.set_cons_zero, List.set_cons_succ]
          refine reg_call (i := 1) (by kernel_rfl) rfl (fun K hK => ?_)
          go_simp
          have nb := (Below.refl wd.heap.size wd).alloc (Nat.le_refl _) (.cells #[] 44)
          replace hbl : Below w.heap.size w (wd.alloc (.cells #[] 44)) := hbl.trans (nb.mono hbl.size)
          replace Rb := Rb.below nb Rb.lt
          replace RR := RR.below nb RR.lt
          replace tn := tn.keep (Chg.below (lo := w.heap.size) nb)
          replace Rg := Rg.below nb Rg.lt
          clear nb
          generalize wd.alloc (.cells #[] 44) = wd at hbl Rb RR tn Rg ⊢
          refine hK.out _ _ ?_ (fun hHeld => ?_)
          · exact ⟨Rb.cell 2, Rb.cell 3, Rb.cell 4⟩
          clear hK K
          try simp only [Act.put, List.setIfInBounds_toArray, List.set_cons_zero, List.set_cons_succ]
          refine reg_take (i := 10) (v := ?v63) rfl (by kernel_rfl) (by kernel_rfl) (by kernel_rfl) (fun _ _ _ h => h) (Or.inl ⟨by kernel_rfl, ?h63⟩) (by assumption) ?r63
          case h63 => (intro w hSw; (try dsimp only at hSw); go_simp; try with_reducible rfl)
          try simp only [Act.put, List.setIfInBounds_toArray, List.set_cons_zero, List.set_cons_succ]
          refine reg_call (i := 12) (by kernel_rfl) rfl (fun K hK => ?_)
          rw [if_pos (show Region.wanted _ _ = true by kernel_rfl)]
          refine wp_store_mid 34 _ _ rfl gb 0 #[.slice (some ⟨_, 0, none⟩) 0 0, .slice (some ⟨_, 0, none⟩) 0 0, .int .i64 jp, .int .i64 on, .slice A16 n16 c16] rfl rfl (row_there Rg 5 (by decide)) size_block (by simp [Value.oneCell']) ?_
          rw [set5_eq]
          refine hK.out _ _ ?_ (fun hHeld => ?_)
          · exact ⟨(row_far5 Rb (by omega) _ _ _ _ _).cell 2, (row_far5 Rb (by omega) _ _ _ _ _).cell 3, (row_far5 Rb (by omega) _ _ _ _ _).cell 4⟩
          clear hK K
          try simp only [Act.put, List.setIfInBounds_toArray, List.set_cons_zero, List.set_cons_succ]
          refine wpAnyH_done (by kernel_rfl) ?_ _
          go_wp2_with fail
          go_meet
          exact ⟨gb, _, _, A16, n16, c16, rfl, hgb, copy_leaf Rg tn Rb RR hbl hgb⟩
        go_simp
        have nb := (Below.refl wd.heap.size wd).alloc (Nat.le_refl _) (.cells #[] 44)
        replace hbl : Below w.heap.size w (wd.alloc (.cells #[] 44)) := hbl.trans (nb.mono hbl.size)
        replace Rb := Rb.below nb Rb.lt
        replace RR := RR.below nb RR.lt
        replace tn := tn.keep (Chg.below (lo := w.heap.size) nb)
        replace Rg := Rg.below nb Rg.lt
        clear nb
        generalize wd.alloc (.cells #[] 44) = wd at hbl Rb RR tn Rg ⊢
        refine hK.out _ _ ?_ (fun hHeld => ?_)
        · exact ⟨Rb.cell 2, Rb.cell 3, Rb.cell 4⟩
        clear hK K
        try simp only [Act.put, List.setIfInBounds_toArray, List.set_cons_zero, List.set_cons_succ]
        refine reg_call (i := 0) (by kernel_rfl) rfl (fun K hK => ?_)
        go_simp
        have nb := (Below.refl wd.heap.size wd).alloc (Nat.le_refl _) (.cells #[] 68)
        replace hbl : Below w.heap.size w (wd.alloc (.cells #[] 68)) := hbl.trans (nb.mono hbl.size)
        replace Rb := Rb.below nb Rb.lt
        replace RR := RR.below nb RR.lt
        replace tn := tn.keep (Chg.below (lo := w.heap.size) nb)
        replace Rg := Rg.below nb Rg.lt
        clear nb
        generalize wd.alloc (.cells #[] 68) = wd at hbl Rb RR tn Rg ⊢
        refine hK.out _ _ ?_ (fun hHeld => ?_)
        · exact ⟨Rb.cell 2, Rb.cell 3, Rb.cell 4⟩
        clear hK K
        try simp only [Act.put, List.setIfInBounds_toArray, List.set_cons_zero, List.set_cons_succ]
        refine reg_take (i := 10) (v := ?v64) rfl (by kernel_rfl) (by kernel_rfl) (by kernel_rfl) (fun _ _ _ h => h) (Or.inl ⟨by kernel_rfl, ?h64⟩) (by assumption) ?r64
        case h64 => (intro w hSw; (try dsimp only at hSw); go_simp; try with_reducible rfl)
        try simp only [Act.put, List.setIfInBounds_toArray, List.set_cons_zero, List.set_cons_succ]
        refine reg_call (i := 12) (by kernel_rfl) rfl (fun K hK => ?_)
        rw [if_pos (show Region.wanted _ _ = true by kernel_rfl)]
        refine wp_store_mid 34 _ _ rfl gb 0 #[.slice (some ⟨_, 0, none⟩) 0 0, .slice (some ⟨_, 0, none⟩) 0 0, .int .i64 jp, .int .i64 on, .slice A16 n16 c16] rfl rfl (row_there Rg 5 (by decide)) size_block (by simp [Value.oneCell']) ?_
        rw [set5_eq]
        refine hK.out _ _ ?_ (fun hHeld => ?_)
        · exact ⟨(row_far5 Rb (by omega) _ _ _ _ _).cell 2, (row_far5 Rb (by omega) _ _ _ _ _).cell 3, (row_far5 Rb (by omega) _ _ _ _ _).cell 4⟩
        clear hK K
        try simp only [Act.put, List.setIfInBounds_toArray, List.set_cons_zero, List.set_cons_succ]
        refine wpAnyH_done (by kernel_rfl) ?_ _
        go_wp2_with fail
        go_meet
        exact ⟨gb, _, _, A16, n16, c16, rfl, hgb, copy_leaf Rg tn Rb RR hbl hgb⟩
      go_simp
      have nb := (Below.refl wd.heap.size wd).alloc (Nat.le_refl _) (.cells #[.slice none 0 0, .slice none 0 0, .int .i64 0, .int .i64 0, .slice none 0 0] 34)
      have Rg := Row.new wd 34 #[.slice none 0 0, .slice none 0 0, .int .i64 0, .int .i64 0, .slice none 0 0]
      have hgb : w.heap.size + 1 < wd.heap.size := RR.lt
      replace hbl : Below w.heap.size w (wd.alloc (.cells #[.slice none 0 0, .slice none 0 0, .int .i64 0, .int .i64 0, .slice none 0 0] 34)) := hbl.trans (nb.mono hbl.size)
      replace Rb := Rb.below nb Rb.lt
      replace RR := RR.below nb RR.lt
      clear nb
      generalize hgbv : wd.heap.size = gb at Rg hgb ⊢
      clear hgbv
      generalize wd.alloc (.cells #[.slice none 0 0, .slice none 0 0, .int .i64 0, .int .i64 0, .slice none 0 0] 34) = wd at hbl Rb RR Rg ⊢
      refine hK.out _ _ ?_ (fun hHeld => ?_)
      · exact ⟨Rb.cell 2, Rb.cell 3, Rb.cell 4⟩
      clear hK K
      try simp only [Act.put, List.setIfInBounds_toArray, List.set_cons_zero, List.set_cons_succ]
      refine reg_call3 (i := 0) (j := 1) (k := 9) (by kernel_rfl) rfl rfl rfl (fun K hK => ?_) (fun K hK => ?_) (fun K hK => ?_)
      · go_simp
        have nb := (Below.refl wd.heap.size wd).alloc (Nat.le_refl _) (.cells #[] 68)
        replace hbl : Below w.heap.size w (wd.alloc (.cells #[] 68)) := hbl.trans (nb.mono hbl.size)
        replace Rb := Rb.below nb Rb.lt
        replace RR := RR.below nb RR.lt
        replace Rg := Rg.below nb Rg.lt
        clear nb
        generalize wd.alloc (.cells #[] 68) = wd at hbl Rb RR Rg ⊢
        refine hK.out _ _ ?_ (fun hHeld => ?_)
        · exact ⟨Rb.cell 2, Rb.cell 3, Rb.cell 4⟩
        clear hK K
        try simp only [Act.put, List.setIfInBounds_toArray, List.set_cons_zero, List.set_cons_succ]
        refine reg_call2 (i := 1) (j := 9) (by kernel_rfl) rfl rfl (fun K hK => ?_) (fun K hK => ?_)
        · go_simp
          have nb := (Below.refl wd.heap.size wd).alloc (Nat.le_refl _) (.cells #[] 44)
          replace hbl : Below w.heap.size w (wd.alloc (.cells #[] 44)) := hbl.trans (nb.mono hbl.size)
          replace Rb := Rb.below nb Rb.lt
          replace RR := RR.below nb RR.lt
          replace Rg := Rg.below nb Rg.lt
          clear nb
          generalize wd.alloc (.cells #[] 44) = wd at hbl Rb RR Rg ⊢
          refine hK.out _ _ ?_ (fun hHeld => ?_)
          · exact ⟨Rb.cell 2, Rb.cell 3, Rb.cell 4⟩
          clear hK K
          try simp only [Act.put, List.setIfInBounds_toArray, List.set_cons_zero, List.set_cons_succ]
          refine reg_call (i := 9) (by kernel_rfl) rfl (fun K hK => ?_)
          obtain ⟨A16, n16, c16, wq, r9, tn, nb⟩ := append_ints wd lo w.heap.size ⟨a6, 0, none⟩ A4 n4 c4 (tv.keep (Chg.below hbl)) hbl.size (by omega)
          rw [if_pos (show Region.wanted _ _ = true by kernel_rfl)]
          refine Lib.wp_append_run_sl _ _ _ 28 rfl _ _ rfl rfl r9 ?_
          clear r9
          replace hbl : Below w.heap.size w wq := hbl.trans (nb.mono hbl.size)
          replace Rb := Rb.below nb Rb.lt
          replace RR := RR.below nb RR.lt
          replace Rg := Rg.below nb Rg.lt
          clear nb
          obtain ⟨wd, hwd⟩ : ∃ x, x = wq := ⟨_, rfl⟩
          subst hwd
          refine hK.out _ _ ?_ (fun hHeld => ?_)
          · exact ⟨Rb.cell 2, Rb.cell 3, Rb.cell 4⟩
          clear hK K
          try simp only [Act.put, List.setIfInBounds_toArray, List.set_cons_zero, List.set_cons_succ]
          refine reg_take (i := 10) (v := ?v65) rfl (by kernel_rfl) (by kernel_rfl) (by kernel_rfl) (fun _ _ _ h => h) (Or.inl ⟨by kernel_rfl, ?h65⟩) (by assumption) ?r65
          case h65 => (intro w hSw; (try dsimp only at hSw); go_simp; try with_reducible rfl)
          try simp only [Act.put, List.setIfInBounds_toArray, List.set_cons_zero, List.set_cons_succ]
          refine reg_call (i := 12) (by kernel_rfl) rfl (fun K hK => ?_)
          rw [if_pos (show Region.wanted _ _ = true by kernel_rfl)]
          refine wp_store_mid 34 _ _ rfl gb 0 #[.slice (some ⟨_, 0, none⟩) 0 0, .slice (some ⟨_, 0, none⟩) 0 0, .int .i64 jp, .int .i64 on, .slice A16 n16 c16] rfl rfl (row_there Rg 5 (by decide)) size_block (by simp [Value.oneCell']) ?_
          rw [set5_eq]
          refine hK.out _ _ ?_ (fun hHeld => ?_)
          · exact ⟨(row_far5 Rb (by omega) _ _ _ _ _).cell 2, (row_far5 Rb (by omega) _ _ _ _ _).cell 3, (row_far5 Rb (by omega) _ _ _ _ _).cell 4⟩
          clear hK K
          try simp only [Act.put, List.setIfInBounds_toArray, List.set_cons_zero, List.set_cons_succ]
          refine wpAnyH_done (by kernel_rfl) ?_ _
          go_wp2_with fail
          go_meet
          exact ⟨gb, _, _, A16, n16, c16, rfl, hgb, copy_leaf Rg tn Rb RR hbl hgb⟩
        obtain ⟨A16, n16, c16, wq, r9, tn, nb⟩ := append_ints wd lo w.heap.size ⟨a6, 0, none⟩ A4 n4 c4 (tv.keep (Chg.below hbl)) hbl.size (by omega)
        rw [if_pos (show Region.wanted _ _ = true by kernel_rfl)]
        refine Lib.wp_append_run_sl _ _ _ 28 rfl _ _ rfl rfl r9 ?_
        clear r9
        replace hbl : Below w.heap.size w wq := hbl.trans (nb.mono hbl.size)
        replace Rb := Rb.below nb Rb.lt
        replace RR := RR.below nb RR.lt
        replace Rg := Rg.below nb Rg.lt
        clear nb
        obtain ⟨wd, hwd⟩ : ∃ x, x = wq := ⟨_, rfl⟩
        subst hwd
        refine hK.out _ _ ?_ (fun hHeld => ?_)
        · exact ⟨Rb.cell 2, Rb.cell 3, Rb.cell 4⟩
        clear hK K
        try simp only [Act.put, List.setIfInBounds_toArray, List.set_cons_zero, List.set_cons_succ]
        refine reg_call (i := 1) (by kernel_rfl) rfl (fun K hK => ?_)
        go_simp
        have nb := (Below.refl wd.heap.size wd).alloc (Nat.le_refl _) (.cells #[] 44)
        replace hbl : Below w.heap.size w (wd.alloc (.cells #[] 44)) := hbl.trans (nb.mono hbl.size)
        replace Rb := Rb.below nb Rb.lt
        replace RR := RR.below nb RR.lt
        replace tn := tn.keep (Chg.below (lo := w.heap.size) nb)
        replace Rg := Rg.below nb Rg.lt
        clear nb
        generalize wd.alloc (.cells #[] 44) = wd at hbl Rb RR tn Rg ⊢
        refine hK.out _ _ ?_ (fun hHeld => ?_)
        · exact ⟨Rb.cell 2, Rb.cell 3, Rb.cell 4⟩
        clear hK K
        try simp only [Act.put, List.setIfInBounds_toArray, List.set_cons_zero, List.set_cons_succ]
        refine reg_take (i := 10) (v := ?v66) rfl (by kernel_rfl) (by kernel_rfl) (by kernel_rfl) (fun _ _ _ h => h) (Or.inl ⟨by kernel_rfl, ?h66⟩) (by assumption) ?r66
        case h66 => (intro w hSw; (try dsimp only at hSw); go_simp; try with_reducible rfl)
        try simp only [Act.put, List.setIfInBounds_toArray, List.set_cons_zero, List.set_cons_succ]
        refine reg_call (i := 12) (by kernel_rfl) rfl (fun K hK => ?_)
        rw [if_pos (show Region.wanted _ _ = true by kernel_rfl)]
        refine wp_store_mid 34 _ _ rfl gb 0 #[.slice (some ⟨_, 0, none⟩) 0 0, .slice (some ⟨_, 0, none⟩) 0 0, .int .i64 jp, .int .i64 on, .slice A16 n16 c16] rfl rfl (row_there Rg 5 (by decide)) size_block (by simp [Value.oneCell']) ?_
        rw [set5_eq]
        refine hK.out _ _ ?_ (fun hHeld => ?_)
        · exact ⟨(row_far5 Rb (by omega) _ _ _ _ _).cell 2, (row_far5 Rb (by omega) _ _ _ _ _).cell 3, (row_far5 Rb (by omega) _ _ _ _ _).cell 4⟩
        clear hK K
        try simp only [Act.put, List.setIfInBounds_toArray, List.set_cons_zero, List.set_cons_succ]
        refine wpAnyH_done (by kernel_rfl) ?_ _
        go_wp2_with fail
        go_meet
        exact ⟨gb, _, _, A16, n16, c16, rfl, hgb, copy_leaf Rg tn Rb RR hbl hgb⟩
      · go_simp
        have nb := (Below.refl wd.heap.size wd).alloc (Nat.le_refl _) (.cells #[] 44)
        replace hbl : Below w.heap.size w (wd.alloc (.cells #[] 44)) := hbl.trans (nb.mono hbl.size)
        replace Rb := Rb.below nb Rb.lt
        replace RR := RR.below nb RR.lt
        replace Rg := Rg.below nb Rg.lt
        clear nb
        generalize wd.alloc (.cells #[] 44) = wd at hbl Rb RR Rg ⊢
        refine hK.out _ _ ?_ (fun hHeld => ?_)
        · exact ⟨Rb.cell 2, Rb.cell 3, Rb.cell 4⟩
        clear hK K
        try simp only [Act.put, List.setIfInBounds_toArray, List.set_cons_zero, List.set_cons_succ]
        refine reg_call2 (i := 0) (j := 9) (by kernel_rfl) rfl rfl (fun K hK => ?_) (fun K hK => ?_)
        · go_simp
          have nb := (Below.refl wd.heap.size wd).alloc (Nat.le_refl _) (.cells #[] 68)
          replace hbl : Below w.heap.size w (wd.alloc (.cells #[] 68)) := hbl.trans (nb.mono hbl.size)
          replace Rb := Rb.below nb Rb.lt
          replace RR := RR.below nb RR.lt
          replace Rg := Rg.below nb Rg.lt
          clear nb
          generalize wd.alloc (.cells #[] 68) = wd at hbl Rb RR Rg ⊢
          refine hK.out _ _ ?_ (fun hHeld => ?_)
          · exact ⟨Rb.cell 2, Rb.cell 3, Rb.cell 4⟩
          clear hK K
          try simp only [Act.put, List.setIfInBounds_toArray, List.set_cons_zero, List.set_cons_succ]
          refine reg_call (i := 9) (by kernel_rfl) rfl (fun K hK => ?_)
          obtain ⟨A16, n16, c16, wq, r9, tn, nb⟩ := append_ints wd lo w.heap.size ⟨a6, 0, none⟩ A4 n4 c4 (tv.keep (Chg.below hbl)) hbl.size (by omega)
          rw [if_pos (show Region.wanted _ _ = true by kernel_rfl)]
          refine Lib.wp_append_run_sl _ _ _ 28 rfl _ _ rfl rfl r9 ?_
          clear r9
          replace hbl : Below w.heap.size w wq := hbl.trans (nb.mono hbl.size)
          replace Rb := Rb.below nb Rb.lt
          replace RR := RR.below nb RR.lt
          replace Rg := Rg.below nb Rg.lt
          clear nb
          obtain ⟨wd, hwd⟩ : ∃ x, x = wq := ⟨_, rfl⟩
          subst hwd
          refine hK.out _ _ ?_ (fun hHeld => ?_)
          · exact ⟨Rb.cell 2, Rb.cell 3, Rb.cell 4⟩
          clear hK K
          try simp only [Act.put, List.setIfInBounds_toArray, List.set_cons_zero, List.set_cons_succ]
          refine reg_take (i := 10) (v := ?v67) rfl (by kernel_rfl) (by kernel_rfl) (by kernel_rfl) (fun _ _ _ h => h) (Or.inl ⟨by kernel_rfl, ?h67⟩) (by assumption) ?r67
          case h67 => (intro w hSw; (try dsimp only at hSw); go_simp; try with_reducible rfl)
          try simp only [Act.put, List.setIfInBounds_toArray, List.set_cons_zero, List.set_cons_succ]
          refine reg_call (i := 12) (by kernel_rfl) rfl (fun K hK => ?_)
          rw [if_pos (show Region.wanted _ _ = true by kernel_rfl)]
          refine wp_store_mid 34 _ _ rfl gb 0 #[.slice (some ⟨_, 0, none⟩) 0 0, .slice (some ⟨_, 0, none⟩) 0 0, .int .i64 jp, .int .i64 on, .slice A16 n16 c16] rfl rfl (row_there Rg 5 (by decide)) size_block (by simp [Value.oneCell']) ?_
          rw [set5_eq]
          refine hK.out _ _ ?_ (fun hHeld => ?_)
          · exact ⟨(row_far5 Rb (by omega) _ _ _ _ _).cell 2, (row_far5 Rb (by omega) _ _ _ _ _).cell 3, (row_far5 Rb (by omega) _ _ _ _ _).cell 4⟩
          clear hK K
          try simp only [Act.put, List.setIfInBounds_toArray, List.set_cons_zero, List.set_cons_succ]
          refine wpAnyH_done (by kernel_rfl) ?_ _
          go_wp2_with fail
          go_meet
          exact ⟨gb, _, _, A16, n16, c16, rfl, hgb, copy_leaf Rg tn Rb RR hbl hgb⟩
        obtain ⟨A16, n16, c16, wq, r9, tn, nb⟩ := append_ints wd lo w.heap.size ⟨a6, 0, none⟩ A4 n4 c4 (tv.keep (Chg.below hbl)) hbl.size (by omega)
        rw [if_pos (show Region.wanted _ _ = true by kernel_rfl)]
        refine Lib.wp_append_run_sl _ _ _ 28 rfl _ _ rfl rfl r9 ?_
        clear r9
        replace hbl : Below w.heap.size w wq := hbl.trans (nb.mono hbl.size)
        replace Rb := Rb.below nb Rb.lt
        replace RR := RR.below nb RR.lt
        replace Rg := Rg.below nb Rg.lt
        clear nb
        obtain ⟨wd, hwd⟩ : ∃ x, x = wq := ⟨_, rfl⟩
        subst hwd
        refine hK.out _ _ ?_ (fun hHeld => ?_)
        · exact ⟨Rb.cell 2, Rb.cell 3, Rb.cell 4⟩
        clear hK K
        try simp only [Act.put, List.setIfInBounds_toArray, List.set_cons_zero, List.set_cons_succ]
        refine reg_call (i := 0) (by kernel_rfl) rfl (fun K hK => ?_)
        go_simp
        have nb := (Below.refl wd.heap.size wd).alloc (Nat.le_refl _) (.cells #[] 68)
        replace hbl : Below w.heap.size w (wd.alloc (.cells #[] 68)) := hbl.trans (nb.mono hbl.size)
        replace Rb := Rb.below nb Rb.lt
        replace RR := RR.below nb RR.lt
        replace tn := tn.keep (Chg.below (lo := w.heap.size) nb)
        replace Rg := Rg.below nb Rg.lt
        clear nb
        generalize wd.alloc (.cells #[] 68) = wd at hbl Rb RR tn Rg ⊢
        refine hK.out _ _ ?_ (fun hHeld => ?_)
        · exact ⟨Rb.cell 2, Rb.cell 3, Rb.cell 4⟩
        clear hK K
        try simp only [Act.put, List.setIfInBounds_toArray, List.set_cons_zero, List.set_cons_succ]
        refine reg_take (i := 10) (v := ?v68) rfl (by kernel_rfl) (by kernel_rfl) (by kernel_rfl) (fun _ _ _ h => h) (Or.inl ⟨by kernel_rfl, ?h68⟩) (by assumption) ?r68
        case h68 => (intro w hSw; (try dsimp only at hSw); go_simp; try with_reducible rfl)
        try simp only [Act.put, List.setIfInBounds_toArray, List.set_cons_zero, List.set_cons_succ]
        refine reg_call (i := 12) (by kernel_rfl) rfl (fun K hK => ?_)
        rw [if_pos (show Region.wanted _ _ = true by kernel_rfl)]
        refine wp_store_mid 34 _ _ rfl gb 0 #[.slice (some ⟨_, 0, none⟩) 0 0, .slice (some ⟨_, 0, none⟩) 0 0, .int .i64 jp, .int .i64 on, .slice A16 n16 c16] rfl rfl (row_there Rg 5 (by decide)) size_block (by simp [Value.oneCell']) ?_
        rw [set5_eq]
        refine hK.out _ _ ?_ (fun hHeld => ?_)
        · exact ⟨(row_far5 Rb (by omega) _ _ _ _ _).cell 2, (row_far5 Rb (by omega) _ _ _ _ _).cell 3, (row_far5 Rb (by omega) _ _ _ _ _).cell 4⟩
        clear hK K
        try simp only [Act.put, List.setIfInBounds_toArray, List.set_cons_zero, List.set_cons_succ]
        refine wpAnyH_done (by kernel_rfl) ?_ _
        go_wp2_with fail
        go_meet
        exact ⟨gb, _, _, A16, n16, c16, rfl, hgb, copy_leaf Rg tn Rb RR hbl hgb⟩
      obtain ⟨A16, n16, c16, wq, r9, tn, nb⟩ := append_ints wd lo w.heap.size ⟨a6, 0, none⟩ A4 n4 c4 (tv.keep (Chg.below hbl)) hbl.size (by omega)
      rw [if_pos (show Region.wanted _ _ = true by kernel_rfl)]
      refine Lib.wp_append_run_sl _ _ _ 28 rfl _ _ rfl rfl r9 ?_
      clear r9
      replace hbl : Below w.heap.size w wq := hbl.trans (nb.mono hbl.size)
      replace Rb := Rb.below nb Rb.lt
      replace RR := RR.below nb RR.lt
      replace Rg := Rg.below nb Rg.lt
      clear nb
      obtain ⟨wd, hwd⟩ : ∃ x, x = wq := ⟨_, rfl⟩
      subst hwd
      refine hK.out _ _ ?_ (fun hHeld => ?_)
      · exact ⟨Rb.cell 2, Rb.cell 3, Rb.cell 4⟩
      clear hK K
      try simp only [Act.put, List.setIfInBounds_toArray, List.set_cons_zero, List.set_cons_succ]
      refine reg_call2 (i := 0) (j := 1) (by kernel_rfl) rfl rfl (fun K hK => ?_) (fun K hK => ?_)
      · go_simp
        have nb := (Below.refl wd.heap.size wd).alloc (Nat.le_refl _) (.cells #[] 68)
        replace hbl : Below w.heap.size w (wd.alloc (.cells #[] 68)) := hbl.trans (nb.mono hbl.size)
        replace Rb := Rb.below nb Rb.lt
        replace RR := RR.below nb RR.lt
        replace tn := tn.keep (Chg.below (lo := w.heap.size) nb)
        replace Rg := Rg.below nb Rg.lt
        clear nb
        generalize wd.alloc (.cells #[] 68) = wd at hbl Rb RR tn Rg ⊢
        refine hK.out _ _ ?_ (fun hHeld => ?_)
        · exact ⟨Rb.cell 2, Rb.cell 3, Rb.cell 4⟩
        clear hK K
        try simp only [Act.put, List.setIfInBounds_toArray, List.set_cons_zero, List.set_cons_succ]
        refine reg_call (i := 1) (by kernel_rfl) rfl (fun K hK => ?_)
        go_simp
        have nb := (Below.refl wd.heap.size wd).alloc (Nat.le_refl _) (.cells #[] 44)
        replace hbl : Below w.heap.size w (wd.alloc (.cells #[] 44)) := hbl.trans (nb.mono hbl.size)
        replace Rb := Rb.below nb Rb.lt
        replace RR := RR.below nb RR.lt
        replace tn := tn.keep (Chg.below (lo := w.heap.size) nb)
        replace Rg := Rg.below nb Rg.lt
        clear nb
        generalize wd.alloc (.cells #[] 44) = wd at hbl Rb RR tn Rg ⊢
        refine hK.out _ _ ?_ (fun hHeld => ?_)
        · exact ⟨Rb.cell 2, Rb.cell 3, Rb.cell 4⟩
        clear hK K
        try simp only [Act.put, List.setIfInBounds_toArray, List.set_cons_zero, List.set_cons_succ]
        refine reg_take (i := 10) (v := ?v69) rfl (by kernel_rfl) (by kernel_rfl) (by kernel_rfl) (fun _ _ _ h => h) (Or.inl ⟨by kernel_rfl, ?h69⟩) (by assumption) ?r69
        case h69 => (intro w hSw; (try dsimp only at hSw); go_simp; try with_reducible rfl)
        try simp only [Act.put, List.setIfInBounds_toArray, List.set_cons_zero, List.set_cons_succ]
        refine reg_call (i := 12) (by kernel_rfl) rfl (fun K hK => ?_)
        rw [if_pos (show Region.wanted _ _ = true by kernel_rfl)]
        refine wp_store_mid 34 _ _ rfl gb 0 #[.slice (some ⟨_, 0, none⟩) 0 0, .slice (some ⟨_, 0, none⟩) 0 0, .int .i64 jp, .int .i64 on, .slice A16 n16 c16] rfl rfl (row_there Rg 5 (by decide)) size_block (by simp [Value.oneCell']) ?_
        rw [set5_eq]
        refine hK.out _ _ ?_ (fun hHeld => ?_)
        · exact ⟨(row_far5 Rb (by omega) _ _ _ _ _).cell 2, (row_far5 Rb (by omega) _ _ _ _ _).cell 3, (row_far5 Rb (by omega) _ _ _ _ _).cell 4⟩
        clear hK K
        try simp only [Act.put, List.setIfInBounds_toArray, List.set_cons_zero, List.set_cons_succ]
        refine wpAnyH_done (by kernel_rfl) ?_ _
        go_wp2_with fail
        go_meet
        exact ⟨gb, _, _, A16, n16, c16, rfl, hgb, copy_leaf Rg tn Rb RR hbl hgb⟩
      go_simp
      have nb := (Below.refl wd.heap.size wd).alloc (Nat.le_refl _) (.cells #[] 44)
      replace hbl : Below w.heap.size w (wd.alloc (.cells #[] 44)) := hbl.trans (nb.mono hbl.size)
      replace Rb := Rb.below nb Rb.lt
      replace RR := RR.below nb RR.lt
      replace tn := tn.keep (Chg.below (lo := w.heap.size) nb)
      replace Rg := Rg.below nb Rg.lt
      clear nb
      generalize wd.alloc (.cells #[] 44) = wd at hbl Rb RR tn Rg ⊢
      refine hK.out _ _ ?_ (fun hHeld => ?_)
      · exact ⟨Rb.cell 2, Rb.cell 3, Rb.cell 4⟩
      clear hK K
      try simp only [Act.put, List.setIfInBounds_toArray, List.set_cons_zero, List.set_cons_succ]
      refine reg_call (i := 0) (by kernel_rfl) rfl (fun K hK => ?_)
      go_simp
      have nb := (Below.refl wd.heap.size wd).alloc (Nat.le_refl _) (.cells #[] 68)
      replace hbl : Below w.heap.size w (wd.alloc (.cells #[] 68)) := hbl.trans (nb.mono hbl.size)
      replace Rb := Rb.below nb Rb.lt
      replace RR := RR.below nb RR.lt
      replace tn := tn.keep (Chg.below (lo := w.heap.size) nb)
      replace Rg := Rg.below nb Rg.lt
      clear nb
      generalize wd.alloc (.cells #[] 68) = wd at hbl Rb RR tn Rg ⊢
      refine hK.out _ _ ?_ (fun hHeld => ?_)
      · exact ⟨Rb.cell 2, Rb.cell 3, Rb.cell 4⟩
      clear hK K
      try simp only [Act.put, List.setIfInBounds_toArray, List.set_cons_zero, List.set_cons_succ]
      refine reg_take (i := 10) (v := ?v70) rfl (by kernel_rfl) (by kernel_rfl) (by kernel_rfl) (fun _ _ _ h => h) (Or.inl ⟨by kernel_rfl, ?h70⟩) (by assumption) ?r70
      case h70 => (intro w hSw; (try dsimp only at hSw); go_simp; try with_reducible rfl)
      try simp only [Act.put, List.setIfInBounds_toArray, List.set_cons_zero, List.set_cons_succ]
      refine reg_call (i := 12) (by kernel_rfl) rfl (fun K hK => ?_)
      rw [if_pos (show Region.wanted _ _ = true by kernel_rfl)]
      refine wp_store_mid 34 _ _ rfl gb 0 #[.slice (some ⟨_, 0, none⟩) 0 0, .slice (some ⟨_, 0, none⟩) 0 0, .int .i64 jp, .int .i64 on, .slice A16 n16 c16] rfl rfl (row_there Rg 5 (by decide)) size_block (by simp [Value.oneCell']) ?_
      rw [set5_eq]
      refine hK.out _ _ ?_ (fun hHeld => ?_)
      · exact ⟨(row_far5 Rb (by omega) _ _ _ _ _).cell 2, (row_far5 Rb (by omega) _ _ _ _ _).cell 3, (row_far5 Rb (by omega) _ _ _ _ _).cell 4⟩
      clear hK K
      try simp only [Act.put, List.setIfInBounds_toArray, List.set_cons_zero, List.set_cons_succ]
      refine wpAnyH_done (by kernel_rfl) ?_ _
      go_wp2_with fail
      go_meet
      exact ⟨gb, _, _, A16, n16, c16, rfl, hgb, copy_leaf Rg tn Rb RR hbl hgb⟩
    go_simp
    have nb := (Below.refl wd.heap.size wd).alloc (Nat.le_refl _) (.cells #[.slice none 0 0, .slice none 0 0, .int .i64 0, .int .i64 0, .slice none 0 0] 34)
    have Rg := Row.new wd 34 #[.slice none 0 0, .slice none 0 0, .int .i64 0, .int .i64 0, .slice none 0 0]
    have hgb : w.heap.size + 1 < wd.heap.size := RR.lt
    replace hbl : Below w.heap.size w (wd.alloc (.cells #[.slice none 0 0, .slice none 0 0, .int .i64 0, .int .i64 0, .slice none 0 0] 34)) := hbl.trans (nb.mono hbl.size)
    replace Rb := Rb.below nb Rb.lt
    replace RR := RR.below nb RR.lt
    clear nb
    generalize hgbv : wd.heap.size = gb at Rg hgb ⊢
    clear hgbv
    generalize wd.alloc (.cells #[.slice none 0 0, .slice none 0 0, .int .i64 0, .int .i64 0, .slice none 0 0] 34) = wd at hbl Rb RR Rg ⊢
    refine hK.out _ _ ?_ (fun hHeld => ?_)
    · exact ⟨Rb.cell 2, Rb.cell 3, Rb.cell 4⟩
    clear hK K
    try simp only [Act.put, List.setIfInBounds_toArray, List.set_cons_zero, List.set_cons_succ]
    refine reg_call3 (i := 0) (j := 1) (k := 6) (by kernel_rfl) rfl rfl rfl (fun K hK => ?_) (fun K hK => ?_) (fun K hK => ?_)
    · go_simp
      have nb := (Below.refl wd.heap.size wd).alloc (Nat.le_refl _) (.cells #[] 68)
      replace hbl : Below w.heap.size w (wd.alloc (.cells #[] 68)) := hbl.trans (nb.mono hbl.size)
      replace Rb := Rb.below nb Rb.lt
      replace RR := RR.below nb RR.lt
      replace Rg := Rg.below nb Rg.lt
      clear nb
      generalize wd.alloc (.cells #[] 68) = wd at hbl Rb RR Rg ⊢
      refine hK.out _ _ ?_ (fun hHeld => ?_)
      · exact ⟨Rb.cell 2, Rb.cell 3, Rb.cell 4⟩
      clear hK K
      try simp only [Act.put, List.setIfInBounds_toArray, List.set_cons_zero, List.set_cons_succ]
      refine reg_call2 (i := 1) (j := 6) (by kernel_rfl) rfl rfl (fun K hK => ?_) (fun K hK => ?_)
      · go_simp
        have nb := (Below.refl wd.heap.size wd).alloc (Nat.le_refl _) (.cells #[] 44)
        replace hbl : Below w.heap.size w (wd.alloc (.cells #[] 44)) := hbl.trans (nb.mono hbl.size)
        replace Rb := Rb.below nb Rb.lt
        replace RR := RR.below nb RR.lt
        replace Rg := Rg.below nb Rg.lt
        clear nb
        generalize wd.alloc (.cells #[] 44) = wd at hbl Rb RR Rg ⊢
        refine hK.out _ _ ?_ (fun hHeld => ?_)
        · exact ⟨Rb.cell 2, Rb.cell 3, Rb.cell 4⟩
        clear hK K
        try simp only [Act.put, List.setIfInBounds_toArray, List.set_cons_zero, List.set_cons_succ]
        refine reg_call (i := 6) (by kernel_rfl) rfl (fun K hK => ?_)
        go_simp
        have nb := (Below.refl wd.heap.size wd).alloc (Nat.le_refl _) (.cells #[] 3)
        obtain ⟨a6, ha6⟩ : ∃ x, x = wd.heap.size := ⟨_, rfl⟩
        rw [← ha6]
        clear ha6
        replace hbl : Below w.heap.size w (wd.alloc (.cells #[] 3)) := hbl.trans (nb.mono hbl.size)
        replace Rb := Rb.below nb Rb.lt
        replace RR := RR.below nb RR.lt
        replace Rg := Rg.below nb Rg.lt
        clear nb
        generalize wd.alloc (.cells #[] 3) = wd at hbl Rb RR Rg ⊢
        refine hK.out _ _ ?_ (fun hHeld => ?_)
        · exact ⟨Rb.cell 2, Rb.cell 3, Rb.cell 4⟩
        clear hK K
        try simp only [Act.put, List.setIfInBounds_toArray, List.set_cons_zero, List.set_cons_succ]
        refine reg_call (i := 9) (by kernel_rfl) rfl (fun K hK => ?_)
        obtain ⟨A16, n16, c16, wq, r9, tn, nb⟩ := append_ints wd lo w.heap.size ⟨a6, 0, none⟩ A4 n4 c4 (tv.keep (Chg.below hbl)) hbl.size (by omega)
        rw [if_pos (show Region.wanted _ _ = true by kernel_rfl)]
        refine Lib.wp_append_run_sl _ _ _ 28 rfl _ _ rfl rfl r9 ?_
        clear r9
        replace hbl : Below w.heap.size w wq := hbl.trans (nb.mono hbl.size)
        replace Rb := Rb.below nb Rb.lt
        replace RR := RR.below nb RR.lt
        replace Rg := Rg.below nb Rg.lt
        clear nb
        obtain ⟨wd, hwd⟩ : ∃ x, x = wq := ⟨_, rfl⟩
        subst hwd
        refine hK.out _ _ ?_ (fun hHeld => ?_)
        · exact ⟨Rb.cell 2, Rb.cell 3, Rb.cell 4⟩
        clear hK K
        try simp only [Act.put, List.setIfInBounds_toArray, List.set_cons_zero, List.set_cons_succ]
        refine reg_take (i := 10) (v := ?v71) rfl (by kernel_rfl) (by kernel_rfl) (by kernel_rfl) (fun _ _ _ h => h) (Or.inl ⟨by kernel_rfl, ?h71⟩) (by assumption) ?r71
        case h71 => (intro w hSw; (try dsimp only at hSw); go_simp; try with_reducible rfl)
        try simp only [Act.put, List.setIfInBounds_toArray, List.set_cons_zero, List.set_cons_succ]
        refine reg_call (i := 12) (by kernel_rfl) rfl (fun K hK => ?_)
        rw [if_pos (show Region.wanted _ _ = true by kernel_rfl)]
        refine wp_store_mid 34 _ _ rfl gb 0 #[.slice (some ⟨_, 0, none⟩) 0 0, .slice (some ⟨_, 0, none⟩) 0 0, .int .i64 jp, .int .i64 on, .slice A16 n16 c16] rfl rfl (row_there Rg 5 (by decide)) size_block (by simp [Value.oneCell']) ?_
        rw [set5_eq]
        refine hK.out _ _ ?_ (fun hHeld => ?_)
        · exact ⟨(row_far5 Rb (by omega) _ _ _ _ _).cell 2, (row_far5 Rb (by omega) _ _ _ _ _).cell 3, (row_far5 Rb (by omega) _ _ _ _ _).cell 4⟩
        clear hK K
        try simp only [Act.put, List.setIfInBounds_toArray, List.set_cons_zero, List.set_cons_succ]
        refine wpAnyH_done (by kernel_rfl) ?_ _
        go_wp2_with fail
        go_meet
        exact ⟨gb, _, _, A16, n16, c16, rfl, hgb, copy_leaf Rg tn Rb RR hbl hgb⟩
      go_simp
      have nb := (Below.refl wd.heap.size wd).alloc (Nat.le_refl _) (.cells #[] 3)
      obtain ⟨a6, ha6⟩ : ∃ x, x = wd.heap.size := ⟨_, rfl⟩
      rw [← ha6]
      clear ha6
      replace hbl : Below w.heap.size w (wd.alloc (.cells #[] 3)) := hbl.trans (nb.mono hbl.size)
      replace Rb := Rb.below nb Rb.lt
      replace RR := RR.below nb RR.lt
      replace Rg := Rg.below nb Rg.lt
      clear nb
      generalize wd.alloc (.cells #[] 3) = wd at hbl Rb RR Rg ⊢
      refine hK.out _ _ ?_ (fun hHeld => ?_)
      · exact ⟨Rb.cell 2, Rb.cell 3, Rb.cell 4⟩
      clear hK K
      try simp only [Act.put, List.setIfInBounds_toArray, List.set_cons_zero, List.set_cons_succ]
      refine reg_call2 (i := 1) (j := 9) (by kernel_rfl) rfl rfl (fun K hK => ?_) (fun K hK => ?_)
      · go_simp
        have nb := (Below.refl wd.heap.size wd).alloc (Nat.le_refl _) (.cells #[] 44)
        replace hbl : Below w.heap.size w (wd.alloc (.cells #[] 44)) := hbl.trans (nb.mono hbl.size)
        replace Rb := Rb.below nb Rb.lt
        replace RR := RR.below nb RR.lt
        replace Rg := Rg.below nb Rg.lt
        clear nb
        generalize wd.alloc (.cells #[] 44) = wd at hbl Rb RR Rg ⊢
        refine hK.out _ _ ?_ (fun hHeld => ?_)
        · exact ⟨Rb.cell 2, Rb.cell 3, Rb.cell 4⟩
        clear hK K
        try simp only [Act.put, List.setIfInBounds_toArray, List.set_cons_zero, List.set_cons_succ]
        refine reg_call (i := 9) (by kernel_rfl) rfl (fun K hK => ?_)
        obtain ⟨A16, n16, c16, wq, r9, tn, nb⟩ := append_ints wd lo w.heap.size ⟨a6, 0, none⟩ A4 n4 c4 (tv.keep (Chg.below hbl)) hbl.size (by omega)
        rw [if_pos (show Region.wanted _ _ = true by kernel_rfl)]
        refine Lib.wp_append_run_sl _ _ _ 28 rfl _ _ rfl rfl r9 ?_
        clear r9
        replace hbl : Below w.heap.size w wq := hbl.trans (nb.mono hbl.size)
        replace Rb := Rb.below nb Rb.lt
        replace RR := RR.below nb RR.lt
        replace Rg := Rg.below nb Rg.lt
        clear nb
        obtain ⟨wd, hwd⟩ : ∃ x, x = wq := ⟨_, rfl⟩
        subst hwd
        refine hK.out _ _ ?_ (fun hHeld => ?_)
        · exact ⟨Rb.cell 2, Rb.cell 3, Rb.cell 4⟩
        clear hK K
        try simp only [Act.put, List.setIfInBounds_toArray, List.set_cons_zero, List.set_cons_succ]
        refine reg_take (i := 10) (v := ?v72) rfl (by kernel_rfl) (by kernel_rfl) (by kernel_rfl) (fun _ _ _ h => h) (Or.inl ⟨by kernel_rfl, ?h72⟩) (by assumption) ?r72
        case h72 => (intro w hSw; (try dsimp only at hSw); go_simp; try with_reducible rfl)
        try simp only [Act.put, List.setIfInBounds_toArray, List.set_cons_zero, List.set_cons_succ]
        refine reg_call (i := 12) (by kernel_rfl) rfl (fun K hK => ?_)
        rw [if_pos (show Region.wanted _ _ = true by kernel_rfl)]
        refine wp_store_mid 34 _ _ rfl gb 0 #[.slice (some ⟨_, 0, none⟩) 0 0, .slice (some ⟨_, 0, none⟩) 0 0, .int .i64 jp, .int .i64 on, .slice A16 n16 c16] rfl rfl (row_there Rg 5 (by decide)) size_block (by simp [Value.oneCell']) ?_
        rw [set5_eq]
        refine hK.out _ _ ?_ (fun hHeld => ?_)
        · exact ⟨(row_far5 Rb (by omega) _ _ _ _ _).cell 2, (row_far5 Rb (by omega) _ _ _ _ _).cell 3, (row_far5 Rb (by omega) _ _ _ _ _).cell 4⟩
        clear hK K
        try simp only [Act.put, List.setIfInBounds_toArray, List.set_cons_zero, List.set_cons_succ]
        refine wpAnyH_done (by kernel_rfl) ?_ _
        go_wp2_with fail
        go_meet
        exact ⟨gb, _, _, A16, n16, c16, rfl, hgb, copy_leaf Rg tn Rb RR hbl hgb⟩
      obtain ⟨A16, n16, c16, wq, r9, tn, nb⟩ := append_ints wd lo w.heap.size ⟨a6, 0, none⟩ A4 n4 c4 (tv.keep (Chg.below hbl)) hbl.size (by omega)
      rw [if_pos (show Region.wanted _ _ = true by kernel_rfl)]
      refine Lib.wp_append_run_sl _ _ _ 28 rfl _ _ rfl rfl r9 ?_
      clear r9
      replace hbl : Below w.heap.size w wq := hbl.trans (nb.mono hbl.size)
      replace Rb := Rb.below nb Rb.lt
      replace RR := RR.below nb RR.lt
      replace Rg := Rg.below nb Rg.lt
      clear nb
      obtain ⟨wd, hwd⟩ : ∃ x, x = wq := ⟨_, rfl⟩
      subst hwd
      refine hK.out _ _ ?_ (fun hHeld => ?_)
      · exact ⟨Rb.cell 2, Rb.cell 3, Rb.cell 4⟩
      clear hK K
      try simp only [Act.put, List.setIfInBounds_toArray, List.set_cons_zero, List.set_cons_succ]
      refine reg_call (i := 1) (by kernel_rfl) rfl (fun K hK => ?_)
      go_simp
      have nb := (Below.refl wd.heap.size wd).alloc (Nat.le_refl _) (.cells #[] 44)
      replace hbl : Below w.heap.size w (wd.alloc (.cells #[] 44)) := hbl.trans (nb.mono hbl.size)
      replace Rb := Rb.below nb Rb.lt
      replace RR := RR.below nb RR.lt
      replace tn := tn.keep (Chg.below (lo := w.heap.size) nb)
      replace Rg := Rg.below nb Rg.lt
      clear nb
      generalize wd.alloc (.cells #[] 44) = wd at hbl Rb RR tn Rg ⊢
      refine hK.out _ _ ?_ (fun hHeld => ?_)
      · exact ⟨Rb.cell 2, Rb.cell 3, Rb.cell 4⟩
      clear hK K
      try simp only [Act.put, List.setIfInBounds_toArray, List.set_cons_zero, List.set_cons_succ]
      refine reg_take (i := 10) (v := ?v73) rfl (by kernel_rfl) (by kernel_rfl) (by kernel_rfl) (fun _ _ _ h => h) (Or.inl ⟨by kernel_rfl, ?h73⟩) (by assumption) ?r73
      case h73 => (intro w hSw; (try dsimp only at hSw); go_simp; try with_reducible rfl)
      try simp only [Act.put, List.setIfInBounds_toArray, List.set_cons_zero, List.set_cons_succ]
      refine reg_call (i := 12) (by kernel_rfl) rfl (fun K hK => ?_)
      rw [if_pos (show Region.wanted _ _ = true by kernel_rfl)]
      refine wp_store_mid 34 _ _ rfl gb 0 #[.slice (some ⟨_, 0, none⟩) 0 0, .slice (some ⟨_, 0, none⟩) 0 0, .int .i64 jp, .int .i64 on, .slice A16 n16 c16] rfl rfl (row_there Rg 5 (by decide)) size_block (by simp [Value.oneCell']) ?_
      rw [set5_eq]
      refine hK.out _ _ ?_ (fun hHeld => ?_)
      · exact ⟨(row_far5 Rb (by omega) _ _ _ _ _).cell 2, (row_far5 Rb (by omega) _ _ _ _ _).cell 3, (row_far5 Rb (by omega) _ _ _ _ _).cell 4⟩
      clear hK K
      try simp only [Act.put, List.setIfInBounds_toArray, List.set_cons_zero, List.set_cons_succ]
      refine wpAnyH_done (by kernel_rfl) ?_ _
      go_wp2_with fail
      go_meet
      exact ⟨gb, _, _, A16, n16, c16, rfl, hgb, copy_leaf Rg tn Rb RR hbl hgb⟩
    · go_simp
      have nb := (Below.refl wd.heap.size wd).alloc (Nat.le_refl _) (.cells #[] 44)
      replace hbl : Below w.heap.size w (wd.alloc (.cells #[] 44)) := hbl.trans (nb.mono hbl.size)
      replace Rb := Rb.below nb Rb.lt
      replace RR := RR.below nb RR.lt
      replace Rg := Rg.below nb Rg.lt
      clear nb
      generalize wd.alloc (.cells #[] 44) = wd at hbl Rb RR Rg ⊢
      refine hK.out _ _ ?_ (fun hHeld => ?_)
      · exact ⟨Rb.cell 2, Rb.cell 3, Rb.cell 4⟩
      clear hK K
      try simp only [Act.put, List.setIfInBounds_toArray, List.set_cons_zero, List.set_cons_succ]
      refine reg_call2 (i := 0) (j := 6) (by kernel_rfl) rfl rfl (fun K hK => ?_) (fun K hK => ?_)
      · go_simp
        have nb := (Below.refl wd.heap.size wd).alloc (Nat.le_refl _) (.cells #[] 68)
        replace hbl : Below w.heap.size w (wd.alloc (.cells #[] 68)) := hbl.trans (nb.mono hbl.size)
        replace Rb := Rb.below nb Rb.lt
        replace RR := RR.below nb RR.lt
        replace Rg := Rg.below nb Rg.lt
        clear nb
        generalize wd.alloc (.cells #[] 68) = wd at hbl Rb RR Rg ⊢
        refine hK.out _ _ ?_ (fun hHeld => ?_)
        · exact ⟨Rb.cell 2, Rb.cell 3, Rb.cell 4⟩
        clear hK K
        try simp only [Act.put, List.setIfInBounds_toArray, List.set_cons_zero, List.set_cons_succ]
        refine reg_call (i := 6) (by kernel_rfl) rfl (fun K hK => ?_)
        go_simp
        have nb := (Below.refl wd.heap.size wd).alloc (Nat.le_refl _) (.cells #[] 3)
        obtain ⟨a6, ha6⟩ : ∃ x, x = wd.heap.size := ⟨_, rfl⟩
        rw [← ha6]
        clear ha6
        replace hbl : Below w.heap.size w (wd.alloc (.cells #[] 3)) := hbl.trans (nb.mono hbl.size)
        replace Rb := Rb.below nb Rb.lt
        replace RR := RR.below nb RR.lt
        replace Rg := Rg.below nb Rg.lt
        clear nb
        generalize wd.alloc (.cells #[] 3) = wd at hbl Rb RR Rg ⊢
        refine hK.out _ _ ?_ (fun hHeld => ?_)
        · exact ⟨Rb.cell 2, Rb.cell 3, Rb.cell 4⟩
        clear hK K
        try simp only [Act.put, List.setIfInBounds_toArray, List.set_cons_zero, List.set_cons_succ]
        refine reg_call (i := 9) (by kernel_rfl) rfl (fun K hK => ?_)
        obtain ⟨A16, n16, c16, wq, r9, tn, nb⟩ := append_ints wd lo w.heap.size ⟨a6, 0, none⟩ A4 n4 c4 (tv.keep (Chg.below hbl)) hbl.size (by omega)
        rw [if_pos (show Region.wanted _ _ = true by kernel_rfl)]
        refine Lib.wp_append_run_sl _ _ _ 28 rfl _ _ rfl rfl r9 ?_
        clear r9
        replace hbl : Below w.heap.size w wq := hbl.trans (nb.mono hbl.size)
        replace Rb := Rb.below nb Rb.lt
        replace RR := RR.below nb RR.lt
        replace Rg := Rg.below nb Rg.lt
        clear nb
        obtain ⟨wd, hwd⟩ : ∃ x, x = wq := ⟨_, rfl⟩
        subst hwd
        refine hK.out _ _ ?_ (fun hHeld => ?_)
        · exact ⟨Rb.cell 2, Rb.cell 3, Rb.cell 4⟩
        clear hK K
        try simp only [Act.put, List.setIfInBounds_toArray, List.set_cons_zero, List.set_cons_succ]
        refine reg_take (i := 10) (v := ?v74) rfl (by kernel_rfl) (by kernel_rfl) (by kernel_rfl) (fun _ _ _ h => h) (Or.inl ⟨by kernel_rfl, ?h74⟩) (by assumption) ?r74
        case h74 => (intro w hSw; (try dsimp only at hSw); go_simp; try with_reducible rfl)
        try simp only [Act.put, List.setIfInBounds_toArray, List.set_cons_zero, List.set_cons_succ]
        refine reg_call (i := 12) (by kernel_rfl) rfl (fun K hK => ?_)
        rw [if_pos (show Region.wanted _ _ = true by kernel_rfl)]
        refine wp_store_mid 34 _ _ rfl gb 0 #[.slice (some ⟨_, 0, none⟩) 0 0, .slice (some ⟨_, 0, none⟩) 0 0, .int .i64 jp, .int .i64 on, .slice A16 n16 c16] rfl rfl (row_there Rg 5 (by decide)) size_block (by simp [Value.oneCell']) ?_
        rw [set5_eq]
        refine hK.out _ _ ?_ (fun hHeld => ?_)
        · exact ⟨(row_far5 Rb (by omega) _ _ _ _ _).cell 2, (row_far5 Rb (by omega) _ _ _ _ _).cell 3, (row_far5 Rb (by omega) _ _ _ _ _).cell 4⟩
        clear hK K
        try simp only [Act.put, List.setIfInBounds_toArray, List.set_cons_zero, List.set_cons_succ]
        refine wpAnyH_done (by kernel_rfl) ?_ _
        go_wp2_with fail
        go_meet
        exact ⟨gb, _, _, A16, n16, c16, rfl, hgb, copy_leaf Rg tn Rb RR hbl hgb⟩
      go_simp
      have nb := (Below.refl wd.heap.size wd).alloc (Nat.le_refl _) (.cells #[] 3)
      obtain ⟨a6, ha6⟩ : ∃ x, x = wd.heap.size := ⟨_, rfl⟩
      rw [← ha6]
      clear ha6
      replace hbl : Below w.heap.size w (wd.alloc (.cells #[] 3)) := hbl.trans (nb.mono hbl.size)
      replace Rb := Rb.below nb Rb.lt
      replace RR := RR.below nb RR.lt
      replace Rg := Rg.below nb Rg.lt
      clear nb
      generalize wd.alloc (.cells #[] 3) = wd at hbl Rb RR Rg ⊢
      refine hK.out _ _ ?_ (fun hHeld => ?_)
      · exact ⟨Rb.cell 2, Rb.cell 3, Rb.cell 4⟩
      clear hK K
      try simp only [Act.put, List.setIfInBounds_toArray, List.set_cons_zero, List.set_cons_succ]
      refine reg_call2 (i := 0) (j := 9) (by kernel_rfl) rfl rfl (fun K hK => ?_) (fun K hK => ?_)
      · go_simp
        have nb := (Below.refl wd.heap.size wd).alloc (Nat.le_refl _) (.cells #[] 68)
        replace hbl : Below w.heap.size w (wd.alloc (.cells #[] 68)) := hbl.trans (nb.mono hbl.size)
        replace Rb := Rb.below nb Rb.lt
        replace RR := RR.below nb RR.lt
        replace Rg := Rg.below nb Rg.lt
        clear nb
        generalize wd.alloc (.cells #[] 68) = wd at hbl Rb RR Rg ⊢
        refine hK.out _ _ ?_ (fun hHeld => ?_)
        · exact ⟨Rb.cell 2, Rb.cell 3, Rb.cell 4⟩
        clear hK K
        try simp only [Act.put, List.setIfInBounds_toArray, List.set_cons_zero, List.set_cons_succ]
        refine reg_call (i := 9) (by kernel_rfl) rfl (fun K hK => ?_)
        obtain ⟨A16, n16, c16, wq, r9, tn, nb⟩ := append_ints wd lo w.heap.size ⟨a6, 0, none⟩ A4 n4 c4 (tv.keep (Chg.below hbl)) hbl.size (by omega)
        rw [if_pos (show Region.wanted _ _ = true by kernel_rfl)]
        refine Lib.wp_append_run_sl _ _ _ 28 rfl _ _ rfl rfl r9 ?_
        clear r9
        replace hbl : Below w.heap.size w wq := hbl.trans (nb.mono hbl.size)
        replace Rb := Rb.below nb Rb.lt
        replace RR := RR.below nb RR.lt
        replace Rg := Rg.below nb Rg.lt
        clear nb
        obtain ⟨wd, hwd⟩ : ∃ x, x = wq := ⟨_, rfl⟩
        subst hwd
        refine hK.out _ _ ?_ (fun hHeld => ?_)
        · exact ⟨Rb.cell 2, Rb.cell 3, Rb.cell 4⟩
        clear hK K
        try simp only [Act.put, List.setIfInBounds_toArray, List.set_cons_zero, List.set_cons_succ]
        refine reg_take (i := 10) (v := ?v75) rfl (by kernel_rfl) (by kernel_rfl) (by kernel_rfl) (fun _ _ _ h => h) (Or.inl ⟨by kernel_rfl, ?h75⟩) (by assumption) ?r75
        case h75 => (intro w hSw; (try dsimp only at hSw); go_simp; try with_reducible rfl)
        try simp only [Act.put, List.setIfInBounds_toArray, List.set_cons_zero, List.set_cons_succ]
        refine reg_call (i := 12) (by kernel_rfl) rfl (fun K hK => ?_)
        rw [if_pos (show Region.wanted _ _ = true by kernel_rfl)]
        refine wp_store_mid 34 _ _ rfl gb 0 #[.slice (some ⟨_, 0, none⟩) 0 0, .slice (some ⟨_, 0, none⟩) 0 0, .int .i64 jp, .int .i64 on, .slice A16 n16 c16] rfl rfl (row_there Rg 5 (by decide)) size_block (by simp [Value.oneCell']) ?_
        rw [set5_eq]
        refine hK.out _ _ ?_ (fun hHeld => ?_)
        · exact ⟨(row_far5 Rb (by omega) _ _ _ _ _).cell 2, (row_far5 Rb (by omega) _ _ _ _ _).cell 3, (row_far5 Rb (by omega) _ _ _ _ _).cell 4⟩
        clear hK K
        try simp only [Act.put, List.setIfInBounds_toArray, List.set_cons_zero, List.set_cons_succ]
        refine wpAnyH_done (by kernel_rfl) ?_ _
        go_wp2_with fail
        go_meet
        exact ⟨gb, _, _, A16, n16, c16, rfl, hgb, copy_leaf Rg tn Rb RR hbl hgb⟩
      obtain ⟨A16, n16, c16, wq, r9, tn, nb⟩ := append_ints wd lo w.heap.size ⟨a6, 0, none⟩ A4 n4 c4 (tv.keep (Chg.below hbl)) hbl.size (by omega)
      rw [if_pos (show Region.wanted _ _ = true by kernel_rfl)]
      refine Lib.wp_append_run_sl _ _ _ 28 rfl _ _ rfl rfl r9 ?_
      clear r9
      replace hbl : Below w.heap.size w wq := hbl.trans (nb.mono hbl.size)
      replace Rb := Rb.below nb Rb.lt
      replace RR := RR.below nb RR.lt
      replace Rg := Rg.below nb Rg.lt
      clear nb
      obtain ⟨wd, hwd⟩ : ∃ x, x = wq := ⟨_, rfl⟩
      subst hwd
      refine hK.out _ _ ?_ (fun hHeld => ?_)
      · exact ⟨Rb.cell 2, Rb.cell 3, Rb.cell 4⟩
      clear hK K
      try simp only [Act.put, List.setIfInBounds_toArray, List.set_cons_zero, List.set_cons_succ]
      refine reg_call (i := 0) (by kernel_rfl) rfl (fun K hK => ?_)
      go_simp
      have nb := (Below.refl wd.heap.size wd).alloc (Nat.le_refl _) (.cells #[] 68)
      replace hbl : Below w.heap.size w (wd.alloc (.cells #[] 68)) := hbl.trans (nb.mono hbl.size)
      replace Rb := Rb.below nb Rb.lt
      replace RR := RR.below nb RR.lt
      replace tn := tn.keep (Chg.below (lo := w.heap.size) nb)
      replace Rg := Rg.below nb Rg.lt
      clear nb
      generalize wd.alloc (.cells #[] 68) = wd at hbl Rb RR tn Rg ⊢
      refine hK.out _ _ ?_ (fun hHeld => ?_)
      · exact ⟨Rb.cell 2, Rb.cell 3, Rb.cell 4⟩
      clear hK K
      try simp only [Act.put, List.setIfInBounds_toArray, List.set_cons_zero, List.set_cons_succ]
      refine reg_take (i := 10) (v := ?v76) rfl (by kernel_rfl) (by kernel_rfl) (by kernel_rfl) (fun _ _ _ h => h) (Or.inl ⟨by kernel_rfl, ?h76⟩) (by assumption) ?r76
      case h76 => (intro w hSw; (try dsimp only at hSw); go_simp; try with_reducible rfl)
      try simp only [Act.put, List.setIfInBounds_toArray, List.set_cons_zero, List.set_cons_succ]
      refine reg_call (i := 12) (by kernel_rfl) rfl (fun K hK => ?_)
      rw [if_pos (show Region.wanted _ _ = true by kernel_rfl)]
      refine wp_store_mid 34 _ _ rfl gb 0 #[.slice (some ⟨_, 0, none⟩) 0 0, .slice (some ⟨_, 0, none⟩) 0 0, .int .i64 jp, .int .i64 on, .slice A16 n16 c16] rfl rfl (row_there Rg 5 (by decide)) size_block (by simp [Value.oneCell']) ?_
      rw [set5_eq]
      refine hK.out _ _ ?_ (fun hHeld => ?_)
      · exact ⟨(row_far5 Rb (by omega) _ _ _ _ _).cell 2, (row_far5 Rb (by omega) _ _ _ _ _).cell 3, (row_far5 Rb (by omega) _ _ _ _ _).cell 4⟩
      clear hK K
      try simp only [Act.put, List.setIfInBounds_toArray, List.set_cons_zero, List.set_cons_succ]
      refine wpAnyH_done (by kernel_rfl) ?_ _
      go_wp2_with fail
      go_meet
      exact ⟨gb, _, _, A16, n16, c16, rfl, hgb, copy_leaf Rg tn Rb RR hbl hgb⟩
    go_simp
    have nb := (Below.refl wd.heap.size wd).alloc (Nat.le_refl _) (.cells #[] 3)
    obtain ⟨a6, ha6⟩ : ∃ x, x = wd.heap.size := ⟨_, rfl⟩
    rw [← ha6]
    clear ha6
    replace hbl : Below w.heap.size w (wd.alloc (.cells #[] 3)) := hbl.trans (nb.mono hbl.size)
    replace Rb := Rb.below nb Rb.lt
    replace RR := RR.below nb RR.lt
    replace Rg := Rg.below nb Rg.lt
    clear nb
    generalize wd.alloc (.cells #[] 3) = wd at hbl Rb RR Rg ⊢
    refine hK.out _ _ ?_ (fun hHeld => ?_)
    · exact ⟨Rb.cell 2, Rb.cell 3, Rb.cell 4⟩
    clear hK K
    try simp only [Act.put, List.setIfInBounds_toArray, List.set_cons_zero, List.set_cons_succ]
    refine reg_call3 (i := 0) (j := 1) (k := 9) (by kernel_rfl) rfl rfl rfl (fun K hK => ?_) (fun K hK => ?_) (fun K hK => ?_)
    · go_simp
      have nb := (Below.refl wd.heap.size wd).alloc (Nat.le_refl _) (.cells #[] 68)
      replace hbl : Below w.heap.size w (wd.alloc (.cells #[] 68)) := hbl.trans (nb.mono hbl.size)
      replace Rb := Rb.below nb Rb.lt
      replace RR := RR.below nb RR.lt
      replace Rg := Rg.below nb Rg.lt
      clear nb
      generalize wd.alloc (.cells #[] 68) = wd at hbl Rb RR Rg ⊢
      refine hK.out _ _ ?_ (fun hHeld => ?_)
      · exact ⟨Rb.cell 2, Rb.cell 3, Rb.cell 4⟩
      clear hK K
      try simp only [Act.put, List.setIfInBounds_toArray, List.set_cons_zero, List.set_cons_succ]
      refine reg_call2 (i := 1) (j := 9) (by kernel_rfl) rfl rfl (fun K hK => ?_) (fun K hK => ?_)
      · go_simp
        have nb := (Below.refl wd.heap.size wd).alloc (Nat.le_refl _) (.cells #[] 44)
        replace hbl : Below w.heap.size w (wd.alloc (.cells #[] 44)) := hbl.trans (nb.mono hbl.size)
        replace Rb := Rb.below nb Rb.lt
        replace RR := RR.below nb RR.lt
        replace Rg := Rg.below nb Rg.lt
        clear nb
        generalize wd.alloc (.cells #[] 44) = wd at hbl Rb RR Rg ⊢
        refine hK.out _ _ ?_ (fun hHeld => ?_)
        · exact ⟨Rb.cell 2, Rb.cell 3, Rb.cell 4⟩
        clear hK K
        try simp only [Act.put, List.setIfInBounds_toArray, List.set_cons_zero, List.set_cons_succ]
        refine reg_call (i := 9) (by kernel_rfl) rfl (fun K hK => ?_)
        obtain ⟨A16, n16, c16, wq, r9, tn, nb⟩ := append_ints wd lo w.heap.size ⟨a6, 0, none⟩ A4 n4 c4 (tv.keep (Chg.below hbl)) hbl.size (by omega)
        rw [if_pos (show Region.wanted _ _ = true by kernel_rfl)]
        refine Lib.wp_append_run_sl _ _ _ 28 rfl _ _ rfl rfl r9 ?_
        clear r9
        replace hbl : Below w.heap.size w wq := hbl.trans (nb.mono hbl.size)
        replace Rb := Rb.below nb Rb.lt
        replace RR := RR.below nb RR.lt
        replace Rg := Rg.below nb Rg.lt
        clear nb
        obtain ⟨wd, hwd⟩ : ∃ x, x = wq := ⟨_, rfl⟩
        subst hwd
        refine hK.out _ _ ?_ (fun hHeld => ?_)
        · exact ⟨Rb.cell 2, Rb.cell 3, Rb.cell 4⟩
        clear hK K
        try simp only [Act.put, List.setIfInBounds_toArray, List.set_cons_zero, List.set_cons_succ]
        refine reg_take (i := 10) (v := ?v77) rfl (by kernel_rfl) (by kernel_rfl) (by kernel_rfl) (fun _ _ _ h => h) (Or.inl ⟨by kernel_rfl, ?h77⟩) (by assumption) ?r77
        case h77 => (intro w hSw; (try dsimp only at hSw); go_simp; try with_reducible rfl)
        try simp only [Act.put, List.setIfInBounds_toArray, List.set_cons_zero, List.set_cons_succ]
        refine reg_call (i := 12) (by kernel_rfl) rfl (fun K hK => ?_)
        rw [if_pos (show Region.wanted _ _ = true by kernel_rfl)]
        refine wp_store_mid 34 _ _ rfl gb 0 #[.slice (some ⟨_, 0, none⟩) 0 0, .slice (some ⟨_, 0, none⟩) 0 0, .int .i64 jp, .int .i64 on, .slice A16 n16 c16] rfl rfl (row_there Rg 5 (by decide)) size_block (by simp [Value.oneCell']) ?_
        rw [set5_eq]
        refine hK.out _ _ ?_ (fun hHeld => ?_)
        · exact ⟨(row_far5 Rb (by omega) _ _ _ _ _).cell 2, (row_far5 Rb (by omega) _ _ _ _ _).cell 3, (row_far5 Rb (by omega) _ _ _ _ _).cell 4⟩
        clear hK K
        try simp only [Act.put, List.setIfInBounds_toArray, List.set_cons_zero, List.set_cons_succ]
        refine wpAnyH_done (by kernel_rfl) ?_ _
        go_wp2_with fail
        go_meet
        exact ⟨gb, _, _, A16, n16, c16, rfl, hgb, copy_leaf Rg tn Rb RR hbl hgb⟩
      obtain ⟨A16, n16, c16, wq, r9, tn, nb⟩ := append_ints wd lo w.heap.size ⟨a6, 0, none⟩ A4 n4 c4 (tv.keep (Chg.below hbl)) hbl.size (by omega)
      rw [if_pos (show Region.wanted _ _ = true by kernel_rfl)]
      refine Lib.wp_append_run_sl _ _ _ 28 rfl _ _ rfl rfl r9 ?_
      clear r9
      replace hbl : Below w.heap.size w wq := hbl.trans (nb.mono hbl.size)
      replace Rb := Rb.below nb Rb.lt
      replace RR := RR.below nb RR.lt
      replace Rg := Rg.below nb Rg.lt
      clear nb
      obtain ⟨wd, hwd⟩ : ∃ x, x = wq := ⟨_, rfl⟩
      subst hwd
      refine hK.out _ _ ?_ (fun hHeld => ?_)
      · exact ⟨Rb.cell 2, Rb.cell 3, Rb.cell 4⟩
      clear hK K
      try simp only [Act.put, List.setIfInBounds_toArray, List.set_cons_zero, List.set_cons_succ]
      refine reg_call (i := 1) (by kernel_rfl) rfl (fun K hK => ?_)
      go_simp
      have nb := (Below.refl wd.heap.size wd).alloc (Nat.le_refl _) (.cells #[] 44)
      replace hbl : Below w.heap.size w (wd.alloc (.cells #[] 44)) := hbl.trans (nb.mono hbl.size)
      replace Rb := Rb.below nb Rb.lt
      replace RR := RR.below nb RR.lt
      replace tn := tn.keep (Chg.below (lo := w.heap.size) nb)
      replace Rg := Rg.below nb Rg.lt
      clear nb
      generalize wd.alloc (.cells #[] 44) = wd at hbl Rb RR tn Rg ⊢
      refine hK.out _ _ ?_ (fun hHeld => ?_)
      · exact ⟨Rb.cell 2, Rb.cell 3, Rb.cell 4⟩
      clear hK K
      try simp only [Act.put, List.setIfInBounds_toArray, List.set_cons_zero, List.set_cons_succ]
      refine reg_take (i := 10) (v := ?v78) rfl (by kernel_rfl) (by kernel_rfl) (by kernel_rfl) (fun _ _ _ h => h) (Or.inl ⟨by kernel_rfl, ?h78⟩) (by assumption) ?r78
      case h78 => (intro w hSw; (try dsimp only at hSw); go_simp; try with_reducible rfl)
      try simp only [Act.put, List.setIfInBounds_toArray, List.set_cons_zero, List.set_cons_succ]
      refine reg_call (i := 12) (by kernel_rfl) rfl (fun K hK => ?_)
      rw [if_pos (show Region.wanted _ _ = true by kernel_rfl)]
      refine wp_store_mid 34 _ _ rfl gb 0 #[.slice (some ⟨_, 0, none⟩) 0 0, .slice (some ⟨_, 0, none⟩) 0 0, .int .i64 jp, .int .i64 on, .slice A16 n16 c16] rfl rfl (row_there Rg 5 (by decide)) size_block (by simp [Value.oneCell']) ?_
      rw [set5_eq]
      refine hK.out _ _ ?_ (fun hHeld => ?_)
      · exact ⟨(row_far5 Rb (by omega) _ _ _ _ _).cell 2, (row_far5 Rb (by omega) _ _ _ _ _).cell 3, (row_far5 Rb (by omega) _ _ _ _ _).cell 4⟩
      clear hK K
      try simp only [Act.put, List.setIfInBounds_toArray, List.set_cons_zero, List.set_cons_succ]
      refine wpAnyH_done (by kernel_rfl) ?_ _
      go_wp2_with fail
      go_meet
      exact ⟨gb, _, _, A16, n16, c16, rfl, hgb, copy_leaf Rg tn Rb RR hbl hgb⟩
    · go_simp
      have nb := (Below.refl wd.heap.size wd).alloc (Nat.le_refl _) (.cells #[] 44)
      replace hbl : Below w.heap.size w (wd.alloc (.cells #[] 44)) := hbl.trans (nb.mono hbl.size)
      replace Rb := Rb.below nb Rb.lt
      replace RR := RR.below nb RR.lt
      replace Rg := Rg.below nb Rg.lt
      clear nb
      generalize wd.alloc (.cells #[] 44) = wd at hbl Rb RR Rg ⊢
      refine hK.out _ _ ?_ (fun hHeld => ?_)
      · exact ⟨Rb.cell 2, Rb.cell 3, Rb.cell 4⟩
      clear hK K
      try simp only [Act.put, List.setIfInBounds_toArray, List.set_cons_zero, List.set_cons_succ]
      refine reg_call2 (i := 0) (j := 9) (by kernel_rfl) rfl rfl (fun K hK => ?_) (fun K hK => ?_)
      · go_simp
        have nb := (Below.refl wd.heap.size wd).alloc (Nat.le_refl _) (.cells #[] 68)
        replace hbl : Below w.heap.size w (wd.alloc (.cells #[] 68)) := hbl.trans (nb.mono hbl.size)
        replace Rb := Rb.below nb Rb.lt
        replace RR := RR.below nb RR.lt
        replace Rg := Rg.below nb Rg.lt
        clear nb
        generalize wd.alloc (.cells #[] 68) = wd at hbl Rb RR Rg ⊢
        refine hK.out _ _ ?_ (fun hHeld => ?_)
        · exact ⟨Rb.cell 2, Rb.cell 3, Rb.cell 4⟩
        clear hK K
        try simp only [Act.put, List.setIfInBounds_toArray, List.set_cons_zero, List.set_cons_succ]
        refine reg_call (i := 9) (by kernel_rfl) rfl (fun K hK => ?_)
        obtain ⟨A16, n16, c16, wq, r9, tn, nb⟩ := append_ints wd lo w.heap.size ⟨a6, 0, none⟩ A4 n4 c4 (tv.keep (Chg.below hbl)) hbl.size (by omega)
        rw [if_pos (show Region.wanted _ _ = true by kernel_rfl)]
        refine Lib.wp_append_run_sl _ _ _ 28 rfl _ _ rfl rfl r9 ?_
        clear r9
        replace hbl : Below w.heap.size w wq := hbl.trans (nb.mono hbl.size)
        replace Rb := Rb.below nb Rb.lt
        replace RR := RR.below nb RR.lt
        replace Rg := Rg.below nb Rg.lt
        clear nb
        obtain ⟨wd, hwd⟩ : ∃ x, x = wq := ⟨_, rfl⟩
        subst hwd
        refine hK.out _ _ ?_ (fun hHeld => ?_)
        · exact ⟨Rb.cell 2, Rb.cell 3, Rb.cell 4⟩
        clear hK K
        try simp only [Act.put, List.setIfInBounds_toArray, List.set_cons_zero, List.set_cons_succ]
        refine reg_take (i := 10) (v := ?v79) rfl (by kernel_rfl) (by kernel_rfl) (by kernel_rfl) (fun _ _ _ h => h) (Or.inl ⟨by kernel_rfl, ?h79⟩) (by assumption) ?r79
        case h79 => (intro w hSw; (try dsimp only at hSw); go_simp; try with_reducible rfl)
        try simp only [Act.put, List.setIfInBounds_toArray, List.set_cons_zero, List.set_cons_succ]
        refine reg_call (i := 12) (by kernel_rfl) rfl (fun K hK => ?_)
        rw [if_pos (show Region.wanted _ _ = true by kernel_rfl)]
        refine wp_store_mid 34 _ _ rfl gb 0 #[.slice (some ⟨_, 0, none⟩) 0 0, .slice (some ⟨_, 0, none⟩) 0 0, .int .i64 jp, .int .i64 on, .slice A16 n16 c16] rfl rfl (row_there Rg 5 (by decide)) size_block (by simp [Value.oneCell']) ?_
        rw [set5_eq]
        refine hK.out _ _ ?_ (fun hHeld => ?_)
        · exact ⟨(row_far5 Rb (by omega) _ _ _ _ _).cell 2, (row_far5 Rb (by omega) _ _ _ _ _).cell 3, (row_far5 Rb (by omega) _ _ _ _ _).cell 4⟩
        clear hK K
        try simp only [Act.put, List.setIfInBounds_toArray, List.set_cons_zero, List.set_cons_succ]
        refine wpAnyH_done (by kernel_rfl) ?_ _
        go_wp2_with fail
        go_meet
        exact ⟨gb, _, _, A16, n16, c16, rfl, hgb, copy_leaf Rg tn Rb RR hbl hgb⟩
      obtain ⟨A16, n16, c16, wq, r9, tn, nb⟩ := append_ints wd lo w.heap.size ⟨a6, 0, none⟩ A4 n4 c4 (tv.keep (Chg.below hbl)) hbl.size (by omega)
      rw [if_pos (show Region.wanted _ _ = true by kernel_rfl)]
      refine Lib.wp_append_run_sl _ _ _ 28 rfl _ _ rfl rfl r9 ?_
      clear r9
      replace hbl : Below w.heap.size w wq := hbl.trans (nb.mono hbl.size)
      replace Rb := Rb.below nb Rb.lt
      replace RR := RR.below nb RR.lt
      replace Rg := Rg.below nb Rg.lt
      clear nb
      obtain ⟨wd, hwd⟩ : ∃ x, x = wq := ⟨_, rfl⟩
      subst hwd
      refine hK.out _ _ ?_ (fun hHeld => ?_)
      · exact ⟨Rb.cell 2, Rb.cell 3, Rb.cell 4⟩
      clear hK K
      try simp only [Act.put, List.setIfInBounds_toArray, List.set_cons_zero, List.set_cons_succ]
      refine reg_call (i := 0) (by kernel_rfl) rfl (fun K hK => ?_)
      go_simp
      have nb := (Below.refl wd.heap.size wd).alloc (Nat.le_refl _) (.cells #[] 68)
      replace hbl : Below w.heap.size w (wd.alloc (.cells #[] 68)) := hbl.trans (nb.mono hbl.size)
      replace Rb := Rb.below nb Rb.lt
      replace RR := RR.below nb RR.lt
      replace tn := tn.keep (Chg.below (lo := w.heap.size) nb)
      replace Rg := Rg.below nb Rg.lt
      clear nb
      generalize wd.alloc (.cells #[] 68) = wd at hbl Rb RR tn Rg ⊢
      refine hK.out _ _ ?_ (fun hHeld => ?_)
      · exact ⟨Rb.cell 2, Rb.cell 3, Rb.cell 4⟩
      clear hK K
      try simp only [Act.put, List.setIfInBounds_toArray, List.set_cons_zero, List.set_cons_succ]
      refine reg_take (i := 10) (v := ?v80) rfl (by kernel_rfl) (by kernel_rfl) (by kernel_rfl) (fun _ _ _ h => h) (Or.inl ⟨by kernel_rfl, ?h80⟩) (by assumption) ?r80
      case h80 => (intro w hSw; (try dsimp only at hSw); go_simp; try with_reducible rfl)
      try simp only [Act.put, List.setIfInBounds_toArray, List.set_cons_zero, List.set_cons_succ]
      refine reg_call (i := 12) (by kernel_rfl) rfl (fun K hK => ?_)
      rw [if_pos (show Region.wanted _ _ = true by kernel_rfl)]
      refine wp_store_mid 34 _ _ rfl gb 0 #[.slice (some ⟨_, 0, none⟩) 0 0, .slice (some ⟨_, 0, none⟩) 0 0, .int .i64 jp, .int .i64 on, .slice A16 n16 c16] rfl rfl (row_there Rg 5 (by decide)) size_block (by simp [Value.oneCell']) ?_
      rw [set5_eq]
      refine hK.out _ _ ?_ (fun hHeld => ?_)
      · exact ⟨(row_far5 Rb (by omega) _ _ _ _ _).cell 2, (row_far5 Rb (by omega) _ _ _ _ _).cell 3, (row_far5 Rb (by omega) _ _ _ _ _).cell 4⟩
      clear hK K
      try simp only [Act.put, List.setIfInBounds_toArray, List.set_cons_zero, List.set_cons_succ]
      refine wpAnyH_done (by kernel_rfl) ?_ _
      go_wp2_with fail
      go_meet
      exact ⟨gb, _, _, A16, n16, c16, rfl, hgb, copy_leaf Rg tn Rb RR hbl hgb⟩
    obtain ⟨A16, n16, c16, wq, r9, tn, nb⟩ := append_ints wd lo w.heap.size ⟨a6, 0, none⟩ A4 n4 c4 (tv.keep (Chg.below hbl)) hbl.size (by omega)
    rw [if_pos (show Region.wanted _ _ = true by kernel_rfl)]
    refine Lib.wp_append_run_sl _ _ _ 28 rfl _ _ rfl rfl r9 ?_
    clear r9
    replace hbl : Below w.heap.size w wq := hbl.trans (nb.mono hbl.size)
    replace Rb := Rb.below nb Rb.lt
    replace RR := RR.below nb RR.lt
    replace Rg := Rg.below nb Rg.lt
    clear nb
    obtain ⟨wd, hwd⟩ : ∃ x, x = wq := ⟨_, rfl⟩
    subst hwd
    refine hK.out _ _ ?_ (fun hHeld => ?_)
    · exact ⟨Rb.cell 2, Rb.cell 3, Rb.cell 4⟩
    clear hK K
    try simp only [Act.put, List.setIfInBounds_toArray, List.set_cons_zero, List.set_cons_succ]
    refine reg_call2 (i := 0) (j := 1) (by kernel_rfl) rfl rfl (fun K hK => ?_) (fun K hK => ?_)
    · go_simp
      have nb := (Below.refl wd.heap.size wd).alloc (Nat.le_refl _) (.cells #[] 68)
      replace hbl : Below w.heap.size w (wd.alloc (.cells #[] 68)) := hbl.trans (nb.mono hbl.size)
      replace Rb := Rb.below nb Rb.lt
      replace RR := RR.below nb RR.lt
      replace tn := tn.keep (Chg.below (lo := w.heap.size) nb)
      replace Rg := Rg.below nb Rg.lt
      clear nb
      generalize wd.alloc (.cells #[] 68) = wd at hbl Rb RR tn Rg ⊢
      refine hK.out _ _ ?_ (fun hHeld => ?_)
      · exact ⟨Rb.cell 2, Rb.cell 3, Rb.cell 4⟩
      clear hK K
      try simp only [Act.put, List.setIfInBounds_toArray, List.set_cons_zero, List.set_cons_succ]
      refine reg_call (i := 1) (by kernel_rfl) rfl (fun K hK => ?_)
      go_simp
      have nb := (Below.refl wd.heap.size wd).alloc (Nat.le_refl _) (.cells #[] 44)
      replace hbl : Below w.heap.size w (wd.alloc (.cells #[] 44)) := hbl.trans (nb.mono hbl.size)
      replace Rb := Rb.below nb Rb.lt
      replace RR := RR.below nb RR.lt
      replace tn := tn.keep (Chg.below (lo := w.heap.size) nb)
      replace Rg := Rg.below nb Rg.lt
      clear nb
      generalize wd.alloc (.cells #[] 44) = wd at hbl Rb RR tn Rg ⊢
      refine hK.out _ _ ?_ (fun hHeld => ?_)
      · exact ⟨Rb.cell 2, Rb.cell 3, Rb.cell 4⟩
      clear hK K
      try simp only [Act.put, List.setIfInBounds_toArray, List.set_cons_zero, List.set_cons_succ]
      refine reg_take (i := 10) (v := ?v81) rfl (by kernel_rfl) (by kernel_rfl) (by kernel_rfl) (fun _ _ _ h => h) (Or.inl ⟨by kernel_rfl, ?h81⟩) (by assumption) ?r81
      case h81 => (intro w hSw; (try dsimp only at hSw); go_simp; try with_reducible rfl)
      try simp only [Act.put, List.setIfInBounds_toArray, List.set_cons_zero, List.set_cons_succ]
      refine reg_call (i := 12) (by kernel_rfl) rfl (fun K hK => ?_)
      rw [if_pos (show Region.wanted _ _ = true by kernel_rfl)]
      refine wp_store_mid 34 _ _ rfl gb 0 #[.slice (some ⟨_, 0, none⟩) 0 0, .slice (some ⟨_, 0, none⟩) 0 0, .int .i64 jp, .int .i64 on, .slice A16 n16 c16] rfl rfl (row_there Rg 5 (by decide)) size_block (by simp [Value.oneCell']) ?_
      rw [set5_eq]
      refine hK.out _ _ ?_ (fun hHeld => ?_)
      · exact ⟨(row_far5 Rb (by omega) _ _ _ _ _).cell 2, (row_far5 Rb (by omega) _ _ _ _ _).cell 3, (row_far5 Rb (by omega) _ _ _ _ _).cell 4⟩
      clear hK K
      try simp only [Act.put, List.setIfInBounds_toArray, List.set_cons_zero, List.set_cons_succ]
      refine wpAnyH_done (by kernel_rfl) ?_ _
      go_wp2_with fail
      go_meet
      exact ⟨gb, _, _, A16, n16, c16, rfl, hgb, copy_leaf Rg tn Rb RR hbl hgb⟩
    go_simp
    have nb := (Below.refl wd.heap.size wd).alloc (Nat.le_refl _) (.cells #[] 44)
    replace hbl : Below w.heap.size w (wd.alloc (.cells #[] 44)) := hbl.trans (nb.mono hbl.size)
    replace Rb := Rb.below nb Rb.lt
    replace RR := RR.below nb RR.lt
    replace tn := tn.keep (Chg.below (lo := w.heap.size) nb)
    replace Rg := Rg.below nb Rg.lt
    clear nb
    generalize wd.alloc (.cells #[] 44) = wd at hbl Rb RR tn Rg ⊢
    refine hK.out _ _ ?_ (fun hHeld => ?_)
    · exact ⟨Rb.cell 2, Rb.cell 3, Rb.cell 4⟩
    clear hK K
    try simp only [Act.put, List.setIfInBounds_toArray, List.set_cons_zero, List.set_cons_succ]
    refine reg_call (i := 0) (by kernel_rfl) rfl (fun K hK => ?_)
    go_simp
    have nb := (Below.refl wd.heap.size wd).alloc (Nat.le_refl _) (.cells #[] 68)
    replace hbl : Below w.heap.size w (wd.alloc (.cells #[] 68)) := hbl.trans (nb.mono hbl.size)
    replace Rb := Rb.below nb Rb.lt
    replace RR := RR.below nb RR.lt
    replace tn := tn.keep (Chg.below (lo := w.heap.size) nb)
    replace Rg := Rg.below nb Rg.lt
    clear nb
    generalize wd.alloc (.cells #[] 68) = wd at hbl Rb RR tn Rg ⊢
    refine hK.out _ _ ?_ (fun hHeld => ?_)
    · exact ⟨Rb.cell 2, Rb.cell 3, Rb.cell 4⟩
    clear hK K
    try simp only [Act.put, List.setIfInBounds_toArray, List.set_cons_zero, List.set_cons_succ]
    refine reg_take (i := 10) (v := ?v82) rfl (by kernel_rfl) (by kernel_rfl) (by kernel_rfl) (fun _ _ _ h => h) (Or.inl ⟨by kernel_rfl, ?h82⟩) (by assumption) ?r82
    case h82 => (intro w hSw; (try dsimp only at hSw); go_simp; try with_reducible rfl)
    try simp only [Act.put, List.setIfInBounds_toArray, List.set_cons_zero, List.set_cons_succ]
    refine reg_call (i := 12) (by kernel_rfl) rfl (fun K hK => ?_)
    rw [if_pos (show Region.wanted _ _ = true by kernel_rfl)]
    refine wp_store_mid 34 _ _ rfl gb 0 #[.slice (some ⟨_, 0, none⟩) 0 0, .slice (some ⟨_, 0, none⟩) 0 0, .int .i64 jp, .int .i64 on, .slice A16 n16 c16] rfl rfl (row_there Rg 5 (by decide)) size_block (by simp [Value.oneCell']) ?_
    rw [set5_eq]
    refine hK.out _ _ ?_ (fun hHeld => ?_)
    · exact ⟨(row_far5 Rb (by omega) _ _ _ _ _).cell 2, (row_far5 Rb (by omega) _ _ _ _ _).cell 3, (row_far5 Rb (by omega) _ _ _ _ _).cell 4⟩
    clear hK K
    try simp only [Act.put, List.setIfInBounds_toArray, List.set_cons_zero, List.set_cons_succ]
    refine wpAnyH_done (by kernel_rfl) ?_ _
    go_wp2_with fail
    go_meet
    exact ⟨gb, _, _, A16, n16, c16, rfl, hgb, copy_leaf Rg tn Rb RR hbl hgb⟩
  case rest =>
    clear Rb RR hbl w1
    obtain ⟨gb, A7, A8, A16, n16, c16, rfl, hgb, Rg, tn, Rb, RR, hbl⟩ := hcut
    go_wp2_with fail
    go_loopw [4] (fun u wr => ∃ (e : Nat) (A7 : Option Addr) (c7 : Nat), u = .int .i64 (e : Int) ∧ e ≤ n0 ∧ Row wr gb 34 #[.slice A7 e c7, .slice A8 0 0, .int .i64 jp, .int .i64 on, .slice A16 n16 c16] ∧ TyPhis D w.heap.size wr (.slice A7 e c7) ∧ TyI D w.heap.size wr (.slice A16 n16 c16) ∧ Row wr w.heap.size 34 #[.slice A0 n0 c0, .slice A1 n1 c1, .int .i64 jp, .int .i64 on, .slice A4 n4 c4] ∧ Row wr (w.heap.size + 1) 34 #[.slice none 0 0, .slice none 0 0, .int .i64 0, .int .i64 0, .slice none 0 0] ∧ Below w.heap.size w wr) (fun u _ => n0 - (intOf u).toNat)
    case atStart => exact ⟨0, A7, 0, rfl, by omega, Rg, TyPhis.empty _ _ _, tn, Rb, RR, hbl⟩
    case round =>
      clear Rg tn Rb RR hbl
      obtain ⟨e, A7, c7, rfl, he, Rg, ty, tn, Rb, RR, hbl⟩ := hrel
      have x0 : wr.cell? ⟨w.heap.size, 0, none⟩ = some (.slice A0 n0 c0) := Rb.cell 0
      by_cases hen : e < n0
      case pos =>
        have hn0 : n0 ≤ 4 + D := by
          obtain ⟨_, _, _, hfm, hn0, _, _⟩ := TyS.form tp
          injection hfm with _ hfm _
          omega
        obtain ⟨bP, t, Aa, na, ca, cur, rfl, hlP, RP, q0, q1, ht, ta⟩ := phis_row tp hen
        have hbP := RP.lt
        have hen1 : (e : Int) < (n0 : Int) := by omega
        go_wp2_with fail
        clear x0
        refine wp_region_held_drew (S := fun w' => (w'.cell? ⟨w.heap.size, 0, none⟩ = some (.slice (some ⟨bP, 0, none⟩) n0 c0) ∧ w'.cell? ⟨bP, e * 2, none⟩ = some (.int .i64 t) ∧ w'.cell? ⟨bP, e * 2 + 1, none⟩ = some (.slice Aa na ca))) (by kernel_rfl) ?_ (fun hHeld => ?_)
        · exact ⟨Rb.cell 0, ((RP.below hbl hbP).cell _).trans q0, ((RP.below hbl hbP).cell _).trans q1⟩
        replace hbl : Below w.heap.size w wr.drew := hbl.drew
        replace Rb := Rb.drew
        replace RR := RR.drew
        replace Rg := Rg.drew
        replace tn : TyI D w.heap.size wr.drew (.slice A16 n16 c16) := tn
        replace ty : TyPhis D w.heap.size wr.drew (.slice A7 e c7) := ty
        generalize wr.drew = wd at hHeld hbl Rb RR Rg tn ty ⊢
        refine reg_take (i := 0) (v := ?v83) rfl (by kernel_rfl) (by kernel_rfl) (by kernel_rfl) (fun _ _ _ h => h) (Or.inl ⟨by kernel_rfl, ?h83⟩) (by assumption) ?r83
        case h83 => (intro w hSw; (try dsimp only at hSw); go_simp; try with_reducible rfl)
        try simp only [Act.put, List.setIfInBounds_toArray, List.set_cons_zero, List.set_cons_succ]
        refine reg_take (i := 2) (v := ?v84) rfl (by kernel_rfl) (by kernel_rfl) (by kernel_rfl) (fun _ _ _ h => h) (Or.inl ⟨by kernel_rfl, ?h84⟩) (by assumption) ?r84
        case h84 => (intro w hSw; (try dsimp only at hSw); go_simp; try with_reducible rfl)
        try simp only [Act.put, List.setIfInBounds_toArray, List.set_cons_zero, List.set_cons_succ]
        refine reg_take (i := 3) (v := ?v85) rfl (by kernel_rfl) (by kernel_rfl) (by kernel_rfl) (fun _ _ _ h => h) (Or.inl ⟨by kernel_rfl, ?h85⟩) (by assumption) ?r85
        case h85 => (intro w hSw; (try dsimp only at hSw); go_simp; try with_reducible rfl)
        try simp only [Act.put, List.setIfInBounds_toArray, List.set_cons_zero, List.set_cons_succ]
        refine reg_take (i := 4) (v := ?v86) rfl (by kernel_rfl) (by kernel_rfl) (by kernel_rfl) (fun _ _ _ h => h) (Or.inl ⟨by kernel_rfl, ?h86⟩) (by assumption) ?r86
        case h86 => (intro w hSw; (try dsimp only at hSw); go_simp; try with_reducible rfl)
        try simp only [Act.put, List.setIfInBounds_toArray, List.set_cons_zero, List.set_cons_succ]
        refine reg_take (i := 5) (v := ?v87) rfl (by kernel_rfl) (by kernel_rfl) (by kernel_rfl) (fun _ _ _ h => h) (Or.inl ⟨by kernel_rfl, ?h87⟩) (by assumption) ?r87
        case h87 => (intro w hSw; (try dsimp only at hSw); go_simp; try with_reducible rfl)
        try simp only [Act.put, List.setIfInBounds_toArray, List.set_cons_zero, List.set_cons_succ]
        refine reg_take (i := 6) (v := ?v88) rfl (by kernel_rfl) (by kernel_rfl) (by kernel_rfl) (fun _ _ _ h => h) (Or.inl ⟨by kernel_rfl, ?h88⟩) (by assumption) ?r88
        case h88 => (intro w hSw; (try dsimp only at hSw); go_simp; try with_reducible rfl)
        try simp only [Act.put, List.setIfInBounds_toArray, List.set_cons_zero, List.set_cons_succ]
        refine reg_take (i := 7) (v := ?v89) rfl (by kernel_rfl) (by kernel_rfl) (by kernel_rfl) (fun _ _ _ h => h) (Or.inl ⟨by kernel_rfl, ?h89⟩) (by assumption) ?r89
        case h89 => (intro w hSw; (try dsimp only at hSw); go_simp; try with_reducible rfl)
        try simp only [Act.put, List.setIfInBounds_toArray, List.set_cons_zero, List.set_cons_succ]
        refine reg_take (i := 9) (v := ?v90) rfl (by kernel_rfl) (by kernel_rfl) (by kernel_rfl) (fun _ _ _ h => h) (Or.inl ⟨by kernel_rfl, ?h90⟩) (by assumption) ?r90
        case h90 => (intro w hSw; (try dsimp only at hSw); go_simp; try with_reducible rfl)
        try simp only [Act.put, List.setIfInBounds_toArray, List.set_cons_zero, List.set_cons_succ]
        refine reg_take (i := 10) (v := ?v91) rfl (by kernel_rfl) (by kernel_rfl) (by kernel_rfl) (fun _ _ _ h => h) (Or.inl ⟨by kernel_rfl, ?h91⟩) (by assumption) ?r91
        case h91 => (intro w hSw; (try dsimp only at hSw); go_simp; try with_reducible rfl)
        try simp only [Act.put, List.setIfInBounds_toArray, List.set_cons_zero, List.set_cons_succ]
        refine reg_take (i := 11) (v := ?v92) rfl (by kernel_rfl) (by kernel_rfl) (by kernel_rfl) (fun _ _ _ h => h) (Or.inl ⟨by kernel_rfl, ?h92⟩) (by assumption) ?r92
        case h92 => (intro w hSw; (try dsimp only at hSw); go_simp; try with_reducible rfl)
        try simp only [Act.put, List.setIfInBounds_toArray, List.set_cons_zero, List.set_cons_succ]
        refine reg_take (i := 12) (v := ?v93) rfl (by kernel_rfl) (by kernel_rfl) (by kernel_rfl) (fun _ _ _ h => h) (Or.inl ⟨by kernel_rfl, ?h93⟩) (by assumption) ?r93
        case h93 => (intro w hSw; (try dsimp only at hSw); go_simp; try with_reducible rfl)
        try simp only [Act.put, List.setIfInBounds_toArray, List.set_cons_zero, List.set_cons_succ]
        refine reg_take (i := 13) (v := ?v94) rfl (by kernel_rfl) (by kernel_rfl) (by kernel_rfl) (fun _ _ _ h => h) (Or.inl ⟨by kernel_rfl, ?h94⟩) (by assumption) ?r94
        case h94 => (intro w hSw; (try dsimp only at hSw); go_simp; try with_reducible rfl)
        try simp only [Act.put, List.setIfInBounds_toArray, List.set_cons_zero, List.set_cons_succ]
        refine reg_take (i := 14) (v := ?v95) rfl (by kernel_rfl) (by kernel_rfl) (by kernel_rfl) (fun _ _ _ h => h) (Or.inl ⟨by kernel_rfl, ?h95⟩) (by assumption) ?r95
        case h95 => (intro w hSw; (try dsimp only at hSw); go_simp; try with_reducible rfl)
        try simp only [Act.put, List.setIfInBounds_toArray, List.set_cons_zero, List.set_cons_succ]
        refine reg_call2 (i := 1) (j := 8) (by kernel_rfl) rfl rfl (fun K hK => ?_) (fun K hK => ?_)
        · have k1 : wd.cell? ⟨gb, 0, none⟩ = some (.slice A7 e c7) := Rg.cell 0
          go_simp
          refine hK.out _ _ ?_ (fun hHeld => ?_)
          · exact ⟨Rb.cell 0, ((RP.below hbl hbP).cell _).trans q0, ((RP.below hbl hbP).cell _).trans q1⟩
          clear hK K
          try simp only [Act.put, List.setIfInBounds_toArray, List.set_cons_zero, List.set_cons_succ]
          refine reg_call (i := 8) (by kernel_rfl) rfl (fun K hK => ?_)
          go_simp
          have nb := (Below.refl wd.heap.size wd).alloc (Nat.le_refl _) (.cells #[] 3)
          obtain ⟨a6, ha6⟩ : ∃ x, x = wd.heap.size := ⟨_, rfl⟩
          rw [← ha6]
          clear ha6
          replace hbl : Below w.heap.size w (wd.alloc (.cells #[] 3)) := hbl.trans (nb.mono hbl.size)
          replace Rb := Rb.below nb Rb.lt
          replace RR := RR.below nb RR.lt
          replace Rg := Rg.below nb Rg.lt
          replace tn := tn.keep (Chg.below (lo := w.heap.size) nb)
          replace ty := ty.keep (Chg.below (lo := w.heap.size) nb)
          clear nb
          generalize wd.alloc (.cells #[] 3) = wd at hbl Rb RR Rg tn ty ⊢
          refine hK.out _ _ ?_ (fun hHeld => ?_)
          · exact ⟨Rb.cell 0, ((RP.below hbl hbP).cell _).trans q0, ((RP.below hbl hbP).cell _).trans q1⟩
          clear hK K
          try simp only [Act.put, List.setIfInBounds_toArray, List.set_cons_zero, List.set_cons_succ]
          refine reg_call (i := 15) (by kernel_rfl) rfl (fun K hK => ?_)
          obtain ⟨Aq, nq, cq, wq, r9, tq, nb⟩ := append_ints wd lo w.heap.size ⟨a6, 0, none⟩ Aa na ca (ta.keep (Chg.below hbl)) hbl.size (by omega)
          rw [if_pos (show Region.wanted _ _ = true by kernel_rfl)]
          refine Lib.wp_append_run_sl _ _ _ 28 rfl _ _ rfl rfl r9 ?_
          clear r9
          replace hbl : Below w.heap.size w wq := hbl.trans (nb.mono hbl.size)
          replace Rb := Rb.below nb Rb.lt
          replace RR := RR.below nb RR.lt
          replace Rg := Rg.below nb Rg.lt
          replace tn := tn.keep (Chg.below (lo := w.heap.size) nb)
          replace ty := ty.keep (Chg.below (lo := w.heap.size) nb)
          clear nb
          obtain ⟨wd, hwd⟩ : ∃ x, x = wq := ⟨_, rfl⟩
          subst hwd
          refine hK.out _ _ ?_ (fun hHeld => ?_)
          · exact ⟨Rb.cell 0, ((RP.below hbl hbP).cell _).trans q0, ((RP.below hbl hbP).cell _).trans q1⟩
          clear hK K
          try simp only [Act.put, List.setIfInBounds_toArray, List.set_cons_zero, List.set_cons_succ]
          refine reg_take (i := 16) (v := ?v96) rfl (by kernel_rfl) (by kernel_rfl) (by kernel_rfl) (fun _ _ _ h => h) (Or.inl ⟨by kernel_rfl, ?h96⟩) (by assumption) ?r96
          case h96 => (intro w hSw; (try dsimp only at hSw); go_simp; try with_reducible rfl)
          try simp only [Act.put, List.setIfInBounds_toArray, List.set_cons_zero, List.set_cons_succ]
          refine reg_call (i := 17) (by kernel_rfl) rfl (fun K hK => ?_)
          go_simp
          have RgR := Rg.alloc (.cells #[.int .i64 t, .slice Aq nq cq] 68)
          have RbR := Rb.alloc (.cells #[.int .i64 t, .slice Aq nq cq] 68)
          have RRR := RR.alloc (.cells #[.int .i64 t, .slice Aq nq cq] 68)
          have hblR : Below w.heap.size w (wd.alloc (.cells #[.int .i64 t, .slice Aq nq cq] 68)) := hbl.alloc hbl.size _
          refine hK.out _ _ ?_ (fun hHeld => ?_)
          · exact ⟨RbR.cell 0, ((RP.below hblR hbP).cell _).trans q0, ((RP.below hblR hbP).cell _).trans q1⟩
          clear hK K
          try simp only [Act.put, List.setIfInBounds_toArray, List.set_cons_zero, List.set_cons_succ]
          refine reg_call (i := 18) (by kernel_rfl) rfl (fun K hK => ?_)
          obtain ⟨A10, c10, w9, r9, ty9, kp9, hf9, rr, g9, hr9⟩ := append_phi (D := D) wd w.heap.size A7 e c7 ty t (.slice Aq nq cq) ht tq (by omega) (by omega) hbl.size
          rw [if_pos (show Region.wanted _ _ = true by kernel_rfl)]
          refine Lib.wp_append_run_sl _ _ _ 31 rfl _ _ rfl rfl r9 ?_
          clear r9
          have Rg9 := hf9 _ _ _ (by decide) RgR
          have Rb9 := hf9 _ _ _ (by decide) RbR
          have RR9 := hf9 _ _ _ (by decide) RRR
          have hbl9 : Below w.heap.size w w9 := grown_below hblR hblR.size g9 hr9
          have tn9 := tn.kept kp9
          have k9 : w9.cell? ⟨gb, 0, none⟩ = some (.slice A7 e c7) := Rg9.cell 0
          have f9 : w9.frozen? ⟨gb, 0, none⟩ = false := Rg9.frozen 0
          refine hK.out _ _ ?_ (fun hHeld => ?_)
          · exact ⟨Rb9.cell 0, ((RP.below hbl9 hbP).cell _).trans q0, ((RP.below hbl9 hbP).cell _).trans q1⟩
          clear hK K
          try simp only [Act.put, List.setIfInBounds_toArray, List.set_cons_zero, List.set_cons_succ]
          refine reg_take (i := 19) (v := ?v97) rfl (by kernel_rfl) (by kernel_rfl) (by kernel_rfl) (fun _ _ _ h => h) (Or.inl ⟨by kernel_rfl, ?h97⟩) (by assumption) ?r97
          case h97 => (intro w hSw; (try dsimp only at hSw); go_simp; try with_reducible rfl)
          try simp only [Act.put, List.setIfInBounds_toArray, List.set_cons_zero, List.set_cons_succ]
          refine reg_call (i := 20) (by kernel_rfl) rfl (fun K hK => ?_)
          have ch10 : Chg D w.heap.size w9 (w9.setCell ⟨gb, 0, none⟩ (.slice A10 (e + 1) c10)) := Chg.set Rg9 (OK.blkPhis rfl ty9)
          have Rg10 := Rg9.set_ 0 (.slice A10 (e + 1) c10)
          have Rb10 := Rb9.far (p := ⟨gb, 0, none⟩) (by show w.heap.size ≠ gb; omega) (.slice A10 (e + 1) c10)
          have RR10 := RR9.far (p := ⟨gb, 0, none⟩) (by show w.heap.size + 1 ≠ gb; omega) (.slice A10 (e + 1) c10)
          have hbl10 : Below w.heap.size w (w9.setCell ⟨gb, 0, none⟩ (.slice A10 (e + 1) c10)) := hbl9.setCell (p := ⟨gb, 0, none⟩) (by show w.heap.size ≤ gb; omega) _
          have hS10 : (w9.setCell ⟨gb, 0, none⟩ (.slice A10 (e + 1) c10)).cell? ⟨w.heap.size, 0, none⟩ = some (.slice (some ⟨bP, 0, none⟩) n0 c0) ∧ (w9.setCell ⟨gb, 0, none⟩ (.slice A10 (e + 1) c10)).cell? ⟨bP, e * 2, none⟩ = some (.int .i64 t) ∧ (w9.setCell ⟨gb, 0, none⟩ (.slice A10 (e + 1) c10)).cell? ⟨bP, e * 2 + 1, none⟩ = some (.slice Aa na ca) := ⟨Rb10.cell 0, ((RP.below hbl10 hbP).cell _).trans q0, ((RP.below hbl10 hbP).cell _).trans q1⟩
          go_simp
          refine hK.out _ _ ?_ (fun hHeld => ?_)
          · exact hS10
          clear hK K
          try simp only [Act.put, List.setIfInBounds_toArray, List.set_cons_zero, List.set_cons_succ]
          refine wpAnyH_done (by kernel_rfl) ?_ _
          go_wp2_with fail
          go_roundw
          case rel => exact ⟨e + 1, A10, c10, by go_num, by omega, Rg10, ty9.keep ch10, tn9.keep ch10, Rb10, RR10, hbl10⟩
          case measure => simp [intOf]; omega
        go_simp
        have nb := (Below.refl wd.heap.size wd).alloc (Nat.le_refl _) (.cells #[] 3)
        obtain ⟨a6, ha6⟩ : ∃ x, x = wd.heap.size := ⟨_, rfl⟩
        rw [← ha6]
        clear ha6
        replace hbl : Below w.heap.size w (wd.alloc (.cells #[] 3)) := hbl.trans (nb.mono hbl.size)
        replace Rb := Rb.below nb Rb.lt
        replace RR := RR.below nb RR.lt
        replace Rg := Rg.below nb Rg.lt
        replace tn := tn.keep (Chg.below (lo := w.heap.size) nb)
        replace ty := ty.keep (Chg.below (lo := w.heap.size) nb)
        clear nb
        generalize wd.alloc (.cells #[] 3) = wd at hbl Rb RR Rg tn ty ⊢
        refine hK.out _ _ ?_ (fun hHeld => ?_)
        · exact ⟨Rb.cell 0, ((RP.below hbl hbP).cell _).trans q0, ((RP.below hbl hbP).cell _).trans q1⟩
        clear hK K
        try simp only [Act.put, List.setIfInBounds_toArray, List.set_cons_zero, List.set_cons_succ]
        refine reg_call2 (i := 1) (j := 15) (by kernel_rfl) rfl rfl (fun K hK => ?_) (fun K hK => ?_)
        · have k1 : wd.cell? ⟨gb, 0, none⟩ = some (.slice A7 e c7) := Rg.cell 0
          go_simp
          refine hK.out _ _ ?_ (fun hHeld => ?_)
          · exact ⟨Rb.cell 0, ((RP.below hbl hbP).cell _).trans q0, ((RP.below hbl hbP).cell _).trans q1⟩
          clear hK K
          try simp only [Act.put, List.setIfInBounds_toArray, List.set_cons_zero, List.set_cons_succ]
          refine reg_call (i := 15) (by kernel_rfl) rfl (fun K hK => ?_)
          obtain ⟨Aq, nq, cq, wq, r9, tq, nb⟩ := append_ints wd lo w.heap.size ⟨a6, 0, none⟩ Aa na ca (ta.keep (Chg.below hbl)) hbl.size (by omega)
          rw [if_pos (show Region.wanted _ _ = true by kernel_rfl)]
          refine Lib.wp_append_run_sl _ _ _ 28 rfl _ _ rfl rfl r9 ?_
          clear r9
          replace hbl : Below w.heap.size w wq := hbl.trans (nb.mono hbl.size)
          replace Rb := Rb.below nb Rb.lt
          replace RR := RR.below nb RR.lt
          replace Rg := Rg.below nb Rg.lt
          replace tn := tn.keep (Chg.below (lo := w.heap.size) nb)
          replace ty := ty.keep (Chg.below (lo := w.heap.size) nb)
          clear nb
          obtain ⟨wd, hwd⟩ : ∃ x, x = wq := ⟨_, rfl⟩
          subst hwd
          refine hK.out _ _ ?_ (fun hHeld => ?_)
          · exact ⟨Rb.cell 0, ((RP.below hbl hbP).cell _).trans q0, ((RP.below hbl hbP).cell _).trans q1⟩
          clear hK K
          try simp only [Act.put, List.setIfInBounds_toArray, List.set_cons_zero, List.set_cons_succ]
          refine reg_take (i := 16) (v := ?v98) rfl (by kernel_rfl) (by kernel_rfl) (by kernel_rfl) (fun _ _ _ h => h) (Or.inl ⟨by kernel_rfl, ?h98⟩) (by assumption) ?r98
          case h98 => (intro w hSw; (try dsimp only at hSw); go_simp; try with_reducible rfl)
          try simp only [Act.put, List.setIfInBounds_toArray, List.set_cons_zero, List.set_cons_succ]
          refine reg_call (i := 17) (by kernel_rfl) rfl (fun K hK => ?_)
          go_simp
          have RgR := Rg.alloc (.cells #[.int .i64 t, .slice Aq nq cq] 68)
          have RbR := Rb.alloc (.cells #[.int .i64 t, .slice Aq nq cq] 68)
          have RRR := RR.alloc (.cells #[.int .i64 t, .slice Aq nq cq] 68)
          have hblR : Below w.heap.size w (wd.alloc (.cells #[.int .i64 t, .slice Aq nq cq] 68)) := hbl.alloc hbl.size _
          refine hK.out _ _ ?_ (fun hHeld => ?_)
          · exact ⟨RbR.cell 0, ((RP.below hblR hbP).cell _).trans q0, ((RP.below hblR hbP).cell _).trans q1⟩
          clear hK K
          try simp only [Act.put, List.setIfInBounds_toArray, List.set_cons_zero, List.set_cons_succ]
          refine reg_call (i := 18) (by kernel_rfl) rfl (fun K hK => ?_)
          obtain ⟨A10, c10, w9, r9, ty9, kp9, hf9, rr, g9, hr9⟩ := append_phi (D := D) wd w.heap.size A7 e c7 ty t (.slice Aq nq cq) ht tq (by omega) (by omega) hbl.size
          rw [if_pos (show Region.wanted _ _ = true by kernel_rfl)]
          refine Lib.wp_append_run_sl _ _ _ 31 rfl _ _ rfl rfl r9 ?_
          clear r9
          have Rg9 := hf9 _ _ _ (by decide) RgR
          have Rb9 := hf9 _ _ _ (by decide) RbR
          have RR9 := hf9 _ _ _ (by decide) RRR
          have hbl9 : Below w.heap.size w w9 := grown_below hblR hblR.size g9 hr9
          have tn9 := tn.kept kp9
          have k9 : w9.cell? ⟨gb, 0, none⟩ = some (.slice A7 e c7) := Rg9.cell 0
          have f9 : w9.frozen? ⟨gb, 0, none⟩ = false := Rg9.frozen 0
          refine hK.out _ _ ?_ (fun hHeld => ?_)
          · exact ⟨Rb9.cell 0, ((RP.below hbl9 hbP).cell _).trans q0, ((RP.below hbl9 hbP).cell _).trans q1⟩
          clear hK K
          try simp only [Act.put, List.setIfInBounds_toArray, List.set_cons_zero, List.set_cons_succ]
          refine reg_take (i := 19) (v := ?v99) rfl (by kernel_rfl) (by kernel_rfl) (by kernel_rfl) (fun _ _ _ h => h) (Or.inl ⟨by kernel_rfl, ?h99⟩) (by assumption) ?r99
          case h99 => (intro w hSw; (try dsimp only at hSw); go_simp; try with_reducible rfl)
          try simp only [Act.put, List.setIfInBounds_toArray, List.set_cons_zero, List.set_cons_succ]
          refine reg_call (i := 20) (by kernel_rfl) rfl (fun K hK => ?_)
          have ch10 : Chg D w.heap.size w9 (w9.setCell ⟨gb, 0, none⟩ (.slice A10 (e + 1) c10)) := Chg.set Rg9 (OK.blkPhis rfl ty9)
          have Rg10 := Rg9.set_ 0 (.slice A10 (e + 1) c10)
          have Rb10 := Rb9.far (p := ⟨gb, 0, none⟩) (by show w.heap.size ≠ gb; omega) (.slice A10 (e + 1) c10)
          have RR10 := RR9.far (p := ⟨gb, 0, none⟩) (by show w.heap.size + 1 ≠ gb; omega) (.slice A10 (e + 1) c10)
          have hbl10 : Below w.heap.size w (w9.setCell ⟨gb, 0, none⟩ (.slice A10 (e + 1) c10)) := hbl9.setCell (p := ⟨gb, 0, none⟩) (by show w.heap.size ≤ gb; omega) _
          have hS10 : (w9.setCell ⟨gb, 0, none⟩ (.slice A10 (e + 1) c10)).cell? ⟨w.heap.size, 0, none⟩ = some (.slice (some ⟨bP, 0, none⟩) n0 c0) ∧ (w9.setCell ⟨gb, 0, none⟩ (.slice A10 (e + 1) c10)).cell? ⟨bP, e * 2, none⟩ = some (.int .i64 t) ∧ (w9.setCell ⟨gb, 0, none⟩ (.slice A10 (e + 1) c10)).cell? ⟨bP, e * 2 + 1, none⟩ = some (.slice Aa na ca) := ⟨Rb10.cell 0, ((RP.below hbl10 hbP).cell _).trans q0, ((RP.below hbl10 hbP).cell _).trans q1⟩
          go_simp
          refine hK.out _ _ ?_ (fun hHeld => ?_)
          · exact hS10
          clear hK K
          try simp only [Act.put, List.setIfInBounds_toArray, List.set_cons_zero, List.set_cons_succ]
          refine wpAnyH_done (by kernel_rfl) ?_ _
          go_wp2_with fail
          go_roundw
          case rel => exact ⟨e + 1, A10, c10, by go_num, by omega, Rg10, ty9.keep ch10, tn9.keep ch10, Rb10, RR10, hbl10⟩
          case measure => simp [intOf]; omega
        obtain ⟨Aq, nq, cq, wq, r9, tq, nb⟩ := append_ints wd lo w.heap.size ⟨a6, 0, none⟩ Aa na ca (ta.keep (Chg.below hbl)) hbl.size (by omega)
        rw [if_pos (show Region.wanted _ _ = true by kernel_rfl)]
        refine Lib.wp_append_run_sl _ _ _ 28 rfl _ _ rfl rfl r9 ?_
        clear r9
        replace hbl : Below w.heap.size w wq := hbl.trans (nb.mono hbl.size)
        replace Rb := Rb.below nb Rb.lt
        replace RR := RR.below nb RR.lt
        replace Rg := Rg.below nb Rg.lt
        replace tn := tn.keep (Chg.below (lo := w.heap.size) nb)
        replace ty := ty.keep (Chg.below (lo := w.heap.size) nb)
        clear nb
        obtain ⟨wd, hwd⟩ : ∃ x, x = wq := ⟨_, rfl⟩
        subst hwd
        refine hK.out _ _ ?_ (fun hHeld => ?_)
        · exact ⟨Rb.cell 0, ((RP.below hbl hbP).cell _).trans q0, ((RP.below hbl hbP).cell _).trans q1⟩
        clear hK K
        try simp only [Act.put, List.setIfInBounds_toArray, List.set_cons_zero, List.set_cons_succ]
        refine reg_take (i := 16) (v := ?v100) rfl (by kernel_rfl) (by kernel_rfl) (by kernel_rfl) (fun _ _ _ h => h) (Or.inl ⟨by kernel_rfl, ?h100⟩) (by assumption) ?r100
        case h100 => (intro w hSw; (try dsimp only at hSw); go_simp; try with_reducible rfl)
        try simp only [Act.put, List.setIfInBounds_toArray, List.set_cons_zero, List.set_cons_succ]
        refine reg_call2 (i := 1) (j := 17) (by kernel_rfl) rfl rfl (fun K hK => ?_) (fun K hK => ?_)
        · have k1 : wd.cell? ⟨gb, 0, none⟩ = some (.slice A7 e c7) := Rg.cell 0
          go_simp
          refine hK.out _ _ ?_ (fun hHeld => ?_)
          · exact ⟨Rb.cell 0, ((RP.below hbl hbP).cell _).trans q0, ((RP.below hbl hbP).cell _).trans q1⟩
          clear hK K
          try simp only [Act.put, List.setIfInBounds_toArray, List.set_cons_zero, List.set_cons_succ]
          refine reg_call (i := 17) (by kernel_rfl) rfl (fun K hK => ?_)
          go_simp
          have RgR := Rg.alloc (.cells #[.int .i64 t, .slice Aq nq cq] 68)
          have RbR := Rb.alloc (.cells #[.int .i64 t, .slice Aq nq cq] 68)
          have RRR := RR.alloc (.cells #[.int .i64 t, .slice Aq nq cq] 68)
          have hblR : Below w.heap.size w (wd.alloc (.cells #[.int .i64 t, .slice Aq nq cq] 68)) := hbl.alloc hbl.size _
          refine hK.out _ _ ?_ (fun hHeld => ?_)
          · exact ⟨RbR.cell 0, ((RP.below hblR hbP).cell _).trans q0, ((RP.below hblR hbP).cell _).trans q1⟩
          clear hK K
          try simp only [Act.put, List.setIfInBounds_toArray, List.set_cons_zero, List.set_cons_succ]
          refine reg_call (i := 18) (by kernel_rfl) rfl (fun K hK => ?_)
          obtain ⟨A10, c10, w9, r9, ty9, kp9, hf9, rr, g9, hr9⟩ := append_phi (D := D) wd w.heap.size A7 e c7 ty t (.slice Aq nq cq) ht tq (by omega) (by omega) hbl.size
          rw [if_pos (show Region.wanted _ _ = true by kernel_rfl)]
          refine Lib.wp_append_run_sl _ _ _ 31 rfl _ _ rfl rfl r9 ?_
          clear r9
          have Rg9 := hf9 _ _ _ (by decide) RgR
          have Rb9 := hf9 _ _ _ (by decide) RbR
          have RR9 := hf9 _ _ _ (by decide) RRR
          have hbl9 : Below w.heap.size w w9 := grown_below hblR hblR.size g9 hr9
          have tn9 := tn.kept kp9
          have k9 : w9.cell? ⟨gb, 0, none⟩ = some (.slice A7 e c7) := Rg9.cell 0
          have f9 : w9.frozen? ⟨gb, 0, none⟩ = false := Rg9.frozen 0
          refine hK.out _ _ ?_ (fun hHeld => ?_)
          · exact ⟨Rb9.cell 0, ((RP.below hbl9 hbP).cell _).trans q0, ((RP.below hbl9 hbP).cell _).trans q1⟩
          clear hK K
          try simp only [Act.put, List.setIfInBounds_toArray, List.set_cons_zero, List.set_cons_succ]
          refine reg_take (i := 19) (v := ?v101) rfl (by kernel_rfl) (by kernel_rfl) (by kernel_rfl) (fun _ _ _ h => h) (Or.inl ⟨by kernel_rfl, ?h101⟩) (by assumption) ?r101
          case h101 => (intro w hSw; (try dsimp only at hSw); go_simp; try with_reducible rfl)
          try simp only [Act.put, List.setIfInBounds_toArray, List.set_cons_zero, List.set_cons_succ]
          refine reg_call (i := 20) (by kernel_rfl) rfl (fun K hK => ?_)
          have ch10 : Chg D w.heap.size w9 (w9.setCell ⟨gb, 0, none⟩ (.slice A10 (e + 1) c10)) := Chg.set Rg9 (OK.blkPhis rfl ty9)
          have Rg10 := Rg9.set_ 0 (.slice A10 (e + 1) c10)
          have Rb10 := Rb9.far (p := ⟨gb, 0, none⟩) (by show w.heap.size ≠ gb; omega) (.slice A10 (e + 1) c10)
          have RR10 := RR9.far (p := ⟨gb, 0, none⟩) (by show w.heap.size + 1 ≠ gb; omega) (.slice A10 (e + 1) c10)
          have hbl10 : Below w.heap.size w (w9.setCell ⟨gb, 0, none⟩ (.slice A10 (e + 1) c10)) := hbl9.setCell (p := ⟨gb, 0, none⟩) (by show w.heap.size ≤ gb; omega) _
          have hS10 : (w9.setCell ⟨gb, 0, none⟩ (.slice A10 (e + 1) c10)).cell? ⟨w.heap.size, 0, none⟩ = some (.slice (some ⟨bP, 0, none⟩) n0 c0) ∧ (w9.setCell ⟨gb, 0, none⟩ (.slice A10 (e + 1) c10)).cell? ⟨bP, e * 2, none⟩ = some (.int .i64 t) ∧ (w9.setCell ⟨gb, 0, none⟩ (.slice A10 (e + 1) c10)).cell? ⟨bP, e * 2 + 1, none⟩ = some (.slice Aa na ca) := ⟨Rb10.cell 0, ((RP.below hbl10 hbP).cell _).trans q0, ((RP.below hbl10 hbP).cell _).trans q1⟩
          go_simp
          refine hK.out _ _ ?_ (fun hHeld => ?_)
          · exact hS10
          clear hK K
          try simp only [Act.put, List.setIfInBounds_toArray, List.set_cons_zero, List.set_cons_succ]
          refine wpAnyH_done (by kernel_rfl) ?_ _
          go_wp2_with fail
          go_roundw
          case rel => exact ⟨e + 1, A10, c10, by go_num, by omega, Rg10, ty9.keep ch10, tn9.keep ch10, Rb10, RR10, hbl10⟩
          case measure => simp [intOf]; omega
        go_simp
        have RgR := Rg.alloc (.cells #[.int .i64 t, .slice Aq nq cq] 68)
        have RbR := Rb.alloc (.cells #[.int .i64 t, .slice Aq nq cq] 68)
        have RRR := RR.alloc (.cells #[.int .i64 t, .slice Aq nq cq] 68)
        have hblR : Below w.heap.size w (wd.alloc (.cells #[.int .i64 t, .slice Aq nq cq] 68)) := hbl.alloc hbl.size _
        refine hK.out _ _ ?_ (fun hHeld => ?_)
        · exact ⟨RbR.cell 0, ((RP.below hblR hbP).cell _).trans q0, ((RP.below hblR hbP).cell _).trans q1⟩
        clear hK K
        try simp only [Act.put, List.setIfInBounds_toArray, List.set_cons_zero, List.set_cons_succ]
        refine reg_call (i := 1) (by kernel_rfl) rfl (fun K hK => ?_)
        have k1 : (wd.alloc (.cells #[.int .i64 t, .slice Aq nq cq] 68)).cell? ⟨gb, 0, none⟩ = some (.slice A7 e c7) := RgR.cell 0
        go_simp
        refine hK.out _ _ ?_ (fun hHeld => ?_)
        · exact ⟨RbR.cell 0, ((RP.below hblR hbP).cell _).trans q0, ((RP.below hblR hbP).cell _).trans q1⟩
        clear hK K
        try simp only [Act.put, List.setIfInBounds_toArray, List.set_cons_zero, List.set_cons_succ]
        refine reg_call (i := 18) (by kernel_rfl) rfl (fun K hK => ?_)
        obtain ⟨A10, c10, w9, r9, ty9, kp9, hf9, rr, g9, hr9⟩ := append_phi (D := D) wd w.heap.size A7 e c7 ty t (.slice Aq nq cq) ht tq (by omega) (by omega) hbl.size
        rw [if_pos (show Region.wanted _ _ = true by kernel_rfl)]
        refine Lib.wp_append_run_sl _ _ _ 31 rfl _ _ rfl rfl r9 ?_
        clear r9
        have Rg9 := hf9 _ _ _ (by decide) RgR
        have Rb9 := hf9 _ _ _ (by decide) RbR
        have RR9 := hf9 _ _ _ (by decide) RRR
        have hbl9 : Below w.heap.size w w9 := grown_below hblR hblR.size g9 hr9
        have tn9 := tn.kept kp9
        have k9 : w9.cell? ⟨gb, 0, none⟩ = some (.slice A7 e c7) := Rg9.cell 0
        have f9 : w9.frozen? ⟨gb, 0, none⟩ = false := Rg9.frozen 0
        refine hK.out _ _ ?_ (fun hHeld => ?_)
        · exact ⟨Rb9.cell 0, ((RP.below hbl9 hbP).cell _).trans q0, ((RP.below hbl9 hbP).cell _).trans q1⟩
        clear hK K
        try simp only [Act.put, List.setIfInBounds_toArray, List.set_cons_zero, List.set_cons_succ]
        refine reg_take (i := 19) (v := ?v102) rfl (by kernel_rfl) (by kernel_rfl) (by kernel_rfl) (fun _ _ _ h => h) (Or.inl ⟨by kernel_rfl, ?h102⟩) (by assumption) ?r102
        case h102 => (intro w hSw; (try dsimp only at hSw); go_simp; try with_reducible rfl)
        try simp only [Act.put, List.setIfInBounds_toArray, List.set_cons_zero, List.set_cons_succ]
        refine reg_call (i := 20) (by kernel_rfl) rfl (fun K hK => ?_)
        have ch10 : Chg D w.heap.size w9 (w9.setCell ⟨gb, 0, none⟩ (.slice A10 (e + 1) c10)) := Chg.set Rg9 (OK.blkPhis rfl ty9)
        have Rg10 := Rg9.set_ 0 (.slice A10 (e + 1) c10)
        have Rb10 := Rb9.far (p := ⟨gb, 0, none⟩) (by show w.heap.size ≠ gb; omega) (.slice A10 (e + 1) c10)
        have RR10 := RR9.far (p := ⟨gb, 0, none⟩) (by show w.heap.size + 1 ≠ gb; omega) (.slice A10 (e + 1) c10)
        have hbl10 : Below w.heap.size w (w9.setCell ⟨gb, 0, none⟩ (.slice A10 (e + 1) c10)) := hbl9.setCell (p := ⟨gb, 0, none⟩) (by show w.heap.size ≤ gb; omega) _
        have hS10 : (w9.setCell ⟨gb, 0, none⟩ (.slice A10 (e + 1) c10)).cell? ⟨w.heap.size, 0, none⟩ = some (.slice (some ⟨bP, 0, none⟩) n0 c0) ∧ (w9.setCell ⟨gb, 0, none⟩ (.slice A10 (e + 1) c10)).cell? ⟨bP, e * 2, none⟩ = some (.int .i64 t) ∧ (w9.setCell ⟨gb, 0, none⟩ (.slice A10 (e + 1) c10)).cell? ⟨bP, e * 2 + 1, none⟩ = some (.slice Aa na ca) := ⟨Rb10.cell 0, ((RP.below hbl10 hbP).cell _).trans q0, ((RP.below hbl10 hbP).cell _).trans q1⟩
        go_simp
        refine hK.out _ _ ?_ (fun hHeld => ?_)
        · exact hS10
        clear hK K
        try simp only [Act.put, List.setIfInBounds_toArray, List.set_cons_zero, List.set_cons_succ]
        refine wpAnyH_done (by kernel_rfl) ?_ _
        go_wp2_with fail
        go_roundw
        case rel => exact ⟨e + 1, A10, c10, by go_num, by omega, Rg10, ty9.keep ch10, tn9.keep ch10, Rb10, RR10, hbl10⟩
        case measure => simp [intOf]; omega
      have hen1 : ¬ (e : Int) < (n0 : Int) := by omega
      obtain ⟨n7, hn7⟩ : ∃ x, x = e := ⟨_, rfl⟩
      rw [← hn7] at Rg ty
      clear hn7
      go_wp2_with fail
      clear x0 hen1
      go_loopw [5] (fun u wr => ∃ (e : Nat) (A8 : Option Addr) (c8 : Nat), u = .int .i64 (e : Int) ∧ e ≤ n1 ∧ Row wr gb 34 #[.slice A7 n7 c7, .slice A8 e c8, .int .i64 jp, .int .i64 on, .slice A16 n16 c16] ∧ TyInss D w.heap.size wr (.slice A8 e c8) ∧ TyI D w.heap.size wr (.slice A16 n16 c16) ∧ TyPhis D w.heap.size wr (.slice A7 n7 c7) ∧ Row wr w.heap.size 34 #[.slice A0 n0 c0, .slice A1 n1 c1, .int .i64 jp, .int .i64 on, .slice A4 n4 c4] ∧ Row wr (w.heap.size + 1) 34 #[.slice none 0 0, .slice none 0 0, .int .i64 0, .int .i64 0, .slice none 0 0] ∧ Below w.heap.size w wr) (fun u _ => n1 - (intOf u).toNat)
      case atStart => exact ⟨0, A8, 0, rfl, by omega, Rg, TyInss.empty _ _ _, tn, ty, Rb, RR, hbl⟩
      case round =>
        clear Rg tn Rb RR hbl ty
        obtain ⟨e, A8, c8, rfl, he, Rg, ty, tn, tz, Rb, RR, hbl⟩ := hrel
        have x1 : wr.cell? ⟨w.heap.size, 1, none⟩ = some (.slice A1 n1 c1) := Rb.cell 1
        by_cases hen : e < n1
        case neg =>
          have hen1 : ¬ (e : Int) < (n1 : Int) := by omega
          obtain ⟨n8, hn8⟩ : ∃ x, x = e := ⟨_, rfl⟩
          rw [← hn8] at Rg ty
          clear hn8
          have F := Lib.hid (copy_fin (w := w) (rb := w.heap.size + 1) (by omega) RR ty tn tz hj ho hbl)
          have k0 : wr.cell? ⟨gb, 0, none⟩ = some (.slice A7 n7 c7) := Rg.cell 0
          have k1 : wr.cell? ⟨gb, 1, none⟩ = some (.slice A8 n8 c8) := Rg.cell 1
          have k2 : wr.cell? ⟨gb, 2, none⟩ = some (.int .i64 jp) := Rg.cell 2
          have k3 : wr.cell? ⟨gb, 3, none⟩ = some (.int .i64 on) := Rg.cell 3
          have k4 : wr.cell? ⟨gb, 4, none⟩ = some (.slice A16 n16 c16) := Rg.cell 4
          have s0 : wr.cell? ⟨w.heap.size + 1, 0, none⟩ = some (.slice none 0 0) := RR.cell 0
          have s1 : wr.cell? ⟨w.heap.size + 1, 1, none⟩ = some (.slice none 0 0) := RR.cell 1
          have s2 : wr.cell? ⟨w.heap.size + 1, 2, none⟩ = some (.int .i64 0) := RR.cell 2
          have s3 : wr.cell? ⟨w.heap.size + 1, 3, none⟩ = some (.int .i64 0) := RR.cell 3
          have s4 : wr.cell? ⟨w.heap.size + 1, 4, none⟩ = some (.slice none 0 0) := RR.cell 4
          have sf0 : wr.frozen? ⟨w.heap.size + 1, 0, none⟩ = false := RR.frozen 0
          have sf1 : wr.frozen? ⟨w.heap.size + 1, 1, none⟩ = false := RR.frozen 1
          have sf2 : wr.frozen? ⟨w.heap.size + 1, 2, none⟩ = false := RR.frozen 2
          have sf3 : wr.frozen? ⟨w.heap.size + 1, 3, none⟩ = false := RR.frozen 3
          have sf4 : wr.frozen? ⟨w.heap.size + 1, 4, none⟩ = false := RR.frozen 4
          go_wp2_with fail
          refine bodyPost_ret (v := .agg #[.slice A7 n7 c7, .slice A8 n8 c8, .int .i64 jp, .int .i64 on, .slice A16 n16 c16]) (by simp [results, Try.results70, go_sem, s0, s1, s2, s3, s4]) rfl F.out
        have hn1 : n1 ≤ 10 := by
          obtain ⟨_, _, _, hfm, hn0, _, _⟩ := TyS.form ti
          injection hfm with _ hfm _
          omega
        obtain ⟨bP, op, t, Aa, na, ca, m, cur, rfl, hlP, RP, q0, q1, q2, q3, hop, ht, hm, ta⟩ := inss_row ti hen
        have hbP := RP.lt
        have hen1 : (e : Int) < (n1 : Int) := by omega
        have y0 : wr.cell? ⟨bP, e * 4, none⟩ = some (.int .i64 op) := ((RP.below hbl hbP).cell _).trans q0
        have y1 : wr.cell? ⟨bP, e * 4 + 1, none⟩ = some (.int .i64 t) := ((RP.below hbl hbP).cell _).trans q1
        have y2 : wr.cell? ⟨bP, e * 4 + 2, none⟩ = some (.slice Aa na ca) := ((RP.below hbl hbP).cell _).trans q2
        have y3 : wr.cell? ⟨bP, e * 4 + 3, none⟩ = some (.int .i64 m) := ((RP.below hbl hbP).cell _).trans q3
        have hgx2 : ¬ (A8 = some ⟨wr.heap.size, 0, none⟩ ∧ 0 < c8) := by
          rintro ⟨e1, e2⟩
          obtain ⟨A1', n1', c1', e3, _, _, _, h4⟩ := ty
          injection e3 with e3 e4 e5
          subst e5
          obtain ⟨b, cur', e6, _, R, _⟩ := h4 e2
          rw [← e3, e1] at e6
          injection e6 with e6
          injection e6 with e6
          have := R.lt
          omega
        go_upto_region 10 with fail
        have hgxb : wr.heap.size ≠ gb := by
          have := Rg.lt
          omega
        have hcx := Rg.lt
        have Rx := Row.new wr 44 #[.int .i64 op, .int .i64 t, .slice Aa na ca, .int .i64 m]
        have nb : Below wr.heap.size wr (wr.alloc (.cells #[.int .i64 op, .int .i64 t, .slice Aa na ca, .int .i64 m] 44)) := (Below.refl _ _).alloc (Nat.le_refl _) _
        replace ty := ty.keep (Chg.below (lo := w.heap.size) nb)
        replace tz := tz.keep (Chg.below (lo := w.heap.size) nb)
        replace tn := tn.keep (Chg.below (lo := w.heap.size) nb)
        replace Rb := Rb.below nb Rb.lt
        replace RR := RR.below nb RR.lt
        replace Rg := Rg.below nb Rg.lt
        replace hbl := hbl.trans (nb.mono hbl.size)
        clear nb x1 y0 y1 y2 y3
        obtain ⟨gx, hgx⟩ : ∃ x, x = wr.heap.size := ⟨_, rfl⟩
        rw [← hgx] at Rx hgx2 hgxb hcx ⊢
        clear hgx
        generalize wr.alloc (.cells #[.int .i64 op, .int .i64 t, .slice Aa na ca, .int .i64 m] 44) = wr at Rx ty tz tn Rb RR Rg hbl ⊢
        refine wp_region_held_drew (S := fun w' => (w'.cell? ⟨gx, 0, none⟩ = some (.int .i64 op) ∧ w'.cell? ⟨gx, 1, none⟩ = some (.int .i64 t) ∧ w'.cell? ⟨gx, 2, none⟩ = some (.slice Aa na ca) ∧ w'.cell? ⟨gx, 3, none⟩ = some (.int .i64 m))) (by kernel_rfl) ?_ (fun hHeld => ?_)
        · exact ⟨Rx.cell 0, Rx.cell 1, Rx.cell 2, Rx.cell 3⟩
        replace hbl : Below w.heap.size w wr.drew := hbl.drew
        replace Rb := Rb.drew
        replace RR := RR.drew
        replace Rg := Rg.drew
        replace Rx := Rx.drew
        replace tn : TyI D w.heap.size wr.drew (.slice A16 n16 c16) := tn
        replace ty : TyInss D w.heap.size wr.drew (.slice A8 e c8) := ty
        replace tz : TyPhis D w.heap.size wr.drew (.slice A7 n7 c7) := tz
        generalize wr.drew = wd at hHeld hbl Rb RR Rg tn ty Rx tz ⊢
        refine reg_take (i := 0) (v := ?v103) rfl (by kernel_rfl) (by kernel_rfl) (by kernel_rfl) (fun _ _ _ h => h) (Or.inl ⟨by kernel_rfl, ?h103⟩) (by assumption) ?r103
        case h103 => (intro w hSw; (try dsimp only at hSw); go_simp; try with_reducible rfl)
        try simp only [Act.put, List.setIfInBounds_toArray, List.set_cons_zero, List.set_cons_succ]
        refine reg_take (i := 2) (v := ?v104) rfl (by kernel_rfl) (by kernel_rfl) (by kernel_rfl) (fun _ _ _ h => h) (Or.inl ⟨by kernel_rfl, ?h104⟩) (by assumption) ?r104
        case h104 => (intro w hSw; (try dsimp only at hSw); go_simp; try with_reducible rfl)
        try simp only [Act.put, List.setIfInBounds_toArray, List.set_cons_zero, List.set_cons_succ]
        refine reg_take (i := 3) (v := ?v105) rfl (by kernel_rfl) (by kernel_rfl) (by kernel_rfl) (fun _ _ _ h => h) (Or.inl ⟨by kernel_rfl, ?h105⟩) (by assumption) ?r105
        case h105 => (intro w hSw; (try dsimp only at hSw); go_simp; try with_reducible rfl)
        try simp only [Act.put, List.setIfInBounds_toArray, List.set_cons_zero, List.set_cons_succ]
        refine reg_take (i := 4) (v := ?v106) rfl (by kernel_rfl) (by kernel_rfl) (by kernel_rfl) (fun _ _ _ h => h) (Or.inl ⟨by kernel_rfl, ?h106⟩) (by assumption) ?r106
        case h106 => (intro w hSw; (try dsimp only at hSw); go_simp; try with_reducible rfl)
        try simp only [Act.put, List.setIfInBounds_toArray, List.set_cons_zero, List.set_cons_succ]
        refine reg_take (i := 5) (v := ?v107) rfl (by kernel_rfl) (by kernel_rfl) (by kernel_rfl) (fun _ _ _ h => h) (Or.inl ⟨by kernel_rfl, ?h107⟩) (by assumption) ?r107
        case h107 => (intro w hSw; (try dsimp only at hSw); go_simp; try with_reducible rfl)
        try simp only [Act.put, List.setIfInBounds_toArray, List.set_cons_zero, List.set_cons_succ]
        refine reg_take (i := 7) (v := ?v108) rfl (by kernel_rfl) (by kernel_rfl) (by kernel_rfl) (fun _ _ _ h => h) (Or.inl ⟨by kernel_rfl, ?h108⟩) (by assumption) ?r108
        case h108 => (intro w hSw; (try dsimp only at hSw); go_simp; try with_reducible rfl)
        try simp only [Act.put, List.setIfInBounds_toArray, List.set_cons_zero, List.set_cons_succ]
        refine reg_take (i := 8) (v := ?v109) rfl (by kernel_rfl) (by kernel_rfl) (by kernel_rfl) (fun _ _ _ h => h) (Or.inl ⟨by kernel_rfl, ?h109⟩) (by assumption) ?r109
        case h109 => (intro w hSw; (try dsimp only at hSw); go_simp; try with_reducible rfl)
        try simp only [Act.put, List.setIfInBounds_toArray, List.set_cons_zero, List.set_cons_succ]
        refine reg_take (i := 10) (v := ?v110) rfl (by kernel_rfl) (by kernel_rfl) (by kernel_rfl) (fun _ _ _ h => h) (Or.inl ⟨by kernel_rfl, ?h110⟩) (by assumption) ?r110
        case h110 => (intro w hSw; (try dsimp only at hSw); go_simp; try with_reducible rfl)
        try simp only [Act.put, List.setIfInBounds_toArray, List.set_cons_zero, List.set_cons_succ]
        refine reg_take (i := 11) (v := ?v111) rfl (by kernel_rfl) (by kernel_rfl) (by kernel_rfl) (fun _ _ _ h => h) (Or.inl ⟨by kernel_rfl, ?h111⟩) (by assumption) ?r111
        case h111 => (intro w hSw; (try dsimp only at hSw); go_simp; try with_reducible rfl)
        try simp only [Act.put, List.setIfInBounds_toArray, List.set_cons_zero, List.set_cons_succ]
        refine reg_call2 (i := 1) (j := 6) (by kernel_rfl) rfl rfl (fun K hK => ?_) (fun K hK => ?_)
        · have k1 : wd.cell? ⟨gb, 1, none⟩ = some (.slice A8 e c8) := Rg.cell 1
          go_simp
          refine hK.out _ _ ?_ (fun hHeld => ?_)
          · exact ⟨Rx.cell 0, Rx.cell 1, Rx.cell 2, Rx.cell 3⟩
          clear hK K
          try simp only [Act.put, List.setIfInBounds_toArray, List.set_cons_zero, List.set_cons_succ]
          refine reg_call (i := 6) (by kernel_rfl) rfl (fun K hK => ?_)
          go_simp
          have nb := (Below.refl wd.heap.size wd).alloc (Nat.le_refl _) (.cells #[] 3)
          obtain ⟨a6, ha6⟩ : ∃ x, x = wd.heap.size := ⟨_, rfl⟩
          rw [← ha6]
          clear ha6
          replace hbl : Below w.heap.size w (wd.alloc (.cells #[] 3)) := hbl.trans (nb.mono hbl.size)
          replace Rb := Rb.below nb Rb.lt
          replace RR := RR.below nb RR.lt
          replace Rg := Rg.below nb Rg.lt
          replace tn := tn.keep (Chg.below (lo := w.heap.size) nb)
          replace ty := ty.keep (Chg.below (lo := w.heap.size) nb)
          replace tz := tz.keep (Chg.below (lo := w.heap.size) nb)
          replace Rx := Rx.below nb Rx.lt
          clear nb
          generalize wd.alloc (.cells #[] 3) = wd at hbl Rb RR Rg tn ty tz Rx ⊢
          refine hK.out _ _ ?_ (fun hHeld => ?_)
          · exact ⟨Rx.cell 0, Rx.cell 1, Rx.cell 2, Rx.cell 3⟩
          clear hK K
          try simp only [Act.put, List.setIfInBounds_toArray, List.set_cons_zero, List.set_cons_succ]
          refine reg_call (i := 9) (by kernel_rfl) rfl (fun K hK => ?_)
          obtain ⟨Aq, nq, cq, wq, r9, tq, nb⟩ := append_ints wd lo w.heap.size ⟨a6, 0, none⟩ Aa na ca (ta.keep (Chg.below hbl)) hbl.size (by omega)
          rw [if_pos (show Region.wanted _ _ = true by kernel_rfl)]
          refine Lib.wp_append_run_sl _ _ _ 28 rfl _ _ rfl rfl r9 ?_
          clear r9
          replace hbl : Below w.heap.size w wq := hbl.trans (nb.mono hbl.size)
          replace Rb := Rb.below nb Rb.lt
          replace RR := RR.below nb RR.lt
          replace Rg := Rg.below nb Rg.lt
          replace tn := tn.keep (Chg.below (lo := w.heap.size) nb)
          replace ty := ty.keep (Chg.below (lo := w.heap.size) nb)
          replace tz := tz.keep (Chg.below (lo := w.heap.size) nb)
          replace Rx := Rx.below nb Rx.lt
          clear nb
          obtain ⟨wd, hwd⟩ : ∃ x, x = wq := ⟨_, rfl⟩
          subst hwd
          refine hK.out _ _ ?_ (fun hHeld => ?_)
          · exact ⟨Rx.cell 0, Rx.cell 1, Rx.cell 2, Rx.cell 3⟩
          clear hK K
          try simp only [Act.put, List.setIfInBounds_toArray, List.set_cons_zero, List.set_cons_succ]
          refine reg_take (i := 12) (v := ?v112) rfl (by kernel_rfl) (by kernel_rfl) (by kernel_rfl) (fun _ _ _ h => h) (Or.inl ⟨by kernel_rfl, ?h112⟩) (by assumption) ?r112
          case h112 => (intro w hSw; (try dsimp only at hSw); go_simp; try with_reducible rfl)
          try simp only [Act.put, List.setIfInBounds_toArray, List.set_cons_zero, List.set_cons_succ]
          refine reg_call (i := 13) (by kernel_rfl) rfl (fun K hK => ?_)
          go_simp
          have RgR := Rg.alloc (.cells #[.int .i64 op, .int .i64 t, .slice Aq nq cq, .int .i64 m] 44)
          have RbR := Rb.alloc (.cells #[.int .i64 op, .int .i64 t, .slice Aq nq cq, .int .i64 m] 44)
          have RRR := RR.alloc (.cells #[.int .i64 op, .int .i64 t, .slice Aq nq cq, .int .i64 m] 44)
          have hblR : Below w.heap.size w (wd.alloc (.cells #[.int .i64 op, .int .i64 t, .slice Aq nq cq, .int .i64 m] 44)) := hbl.alloc hbl.size _
          have RxR := Rx.alloc (.cells #[.int .i64 op, .int .i64 t, .slice Aq nq cq, .int .i64 m] 44)
          refine hK.out _ _ ?_ (fun hHeld => ?_)
          · exact ⟨RxR.cell 0, RxR.cell 1, RxR.cell 2, RxR.cell 3⟩
          clear hK K
          try simp only [Act.put, List.setIfInBounds_toArray, List.set_cons_zero, List.set_cons_succ]
          refine reg_call (i := 14) (by kernel_rfl) rfl (fun K hK => ?_)
          obtain ⟨A10, c10, w9, r9, ty9, kp9, hf9, rr, g9, hr9, hA9⟩ := append_ins2 (D := D) wd w.heap.size A8 e c8 ty op t (.slice Aq nq cq) m hop ht tq hm (by omega) hbl.size
          rw [if_pos (show Region.wanted _ _ = true by kernel_rfl)]
          refine Lib.wp_append_run_sl _ _ _ 32 rfl _ _ rfl rfl r9 ?_
          clear r9
          have Rg9 := hf9 _ _ _ (by decide) RgR
          have Rb9 := hf9 _ _ _ (by decide) RbR
          have RR9 := hf9 _ _ _ (by decide) RRR
          have hbl9 : Below w.heap.size w w9 := grown_below hblR hblR.size g9 hr9
          have tn9 := tn.kept kp9
          have Rx9 : Row w9 gx 44 _ := (g9.block gx RxR.lt (fun e => hgx2 (hA9 gx e.symm))).trans RxR
          have tz9 := tz.kept kp9
          have k9 : w9.cell? ⟨gb, 1, none⟩ = some (.slice A8 e c8) := Rg9.cell 1
          have f9 : w9.frozen? ⟨gb, 1, none⟩ = false := Rg9.frozen 1
          refine hK.out _ _ ?_ (fun hHeld => ?_)
          · exact ⟨Rx9.cell 0, Rx9.cell 1, Rx9.cell 2, Rx9.cell 3⟩
          clear hK K
          try simp only [Act.put, List.setIfInBounds_toArray, List.set_cons_zero, List.set_cons_succ]
          refine reg_take (i := 15) (v := ?v113) rfl (by kernel_rfl) (by kernel_rfl) (by kernel_rfl) (fun _ _ _ h => h) (Or.inl ⟨by kernel_rfl, ?h113⟩) (by assumption) ?r113
          case h113 => (intro w hSw; (try dsimp only at hSw); go_simp; try with_reducible rfl)
          try simp only [Act.put, List.setIfInBounds_toArray, List.set_cons_zero, List.set_cons_succ]
          refine reg_call (i := 16) (by kernel_rfl) rfl (fun K hK => ?_)
          have ch10 : Chg D w.heap.size w9 (w9.setCell ⟨gb, 1, none⟩ (.slice A10 (e + 1) c10)) := Chg.set Rg9 (OK.blkInss rfl ty9)
          have Rg10 := Rg9.set_ 1 (.slice A10 (e + 1) c10)
          have Rb10 := Rb9.far (p := ⟨gb, 1, none⟩) (by show w.heap.size ≠ gb; omega) (.slice A10 (e + 1) c10)
          have RR10 := RR9.far (p := ⟨gb, 1, none⟩) (by show w.heap.size + 1 ≠ gb; omega) (.slice A10 (e + 1) c10)
          have hbl10 : Below w.heap.size w (w9.setCell ⟨gb, 1, none⟩ (.slice A10 (e + 1) c10)) := hbl9.setCell (p := ⟨gb, 1, none⟩) (by show w.heap.size ≤ gb; omega) _
          have Rx10 := Rx9.far (p := ⟨gb, 1, none⟩) hgxb (.slice A10 (e + 1) c10)
          have hS10 : (w9.setCell ⟨gb, 1, none⟩ (.slice A10 (e + 1) c10)).cell? ⟨gx, 0, none⟩ = some (.int .i64 op) ∧ (w9.setCell ⟨gb, 1, none⟩ (.slice A10 (e + 1) c10)).cell? ⟨gx, 1, none⟩ = some (.int .i64 t) ∧ (w9.setCell ⟨gb, 1, none⟩ (.slice A10 (e + 1) c10)).cell? ⟨gx, 2, none⟩ = some (.slice Aa na ca) ∧ (w9.setCell ⟨gb, 1, none⟩ (.slice A10 (e + 1) c10)).cell? ⟨gx, 3, none⟩ = some (.int .i64 m) := ⟨Rx10.cell 0, Rx10.cell 1, Rx10.cell 2, Rx10.cell 3⟩
          go_simp
          refine hK.out _ _ ?_ (fun hHeld => ?_)
          · exact hS10
          clear hK K
          try simp only [Act.put, List.setIfInBounds_toArray, List.set_cons_zero, List.set_cons_succ]
          refine wpAnyH_done (by kernel_rfl) ?_ _
          go_wp2_with fail
          go_roundw
          case rel => exact ⟨e + 1, A10, c10, by go_num, by omega, Rg10, ty9.keep ch10, tn9.keep ch10, tz9.keep ch10, Rb10, RR10, hbl10⟩
          case measure => simp [intOf]; omega
        go_simp
        have nb := (Below.refl wd.heap.size wd).alloc (Nat.le_refl _) (.cells #[] 3)
        obtain ⟨a6, ha6⟩ : ∃ x, x = wd.heap.size := ⟨_, rfl⟩
        rw [← ha6]
        clear ha6
        replace hbl : Below w.heap.size w (wd.alloc (.cells #[] 3)) := hbl.trans (nb.mono hbl.size)
        replace Rb := Rb.below nb Rb.lt
        replace RR := RR.below nb RR.lt
        replace Rg := Rg.below nb Rg.lt
        replace tn := tn.keep (Chg.below (lo := w.heap.size) nb)
        replace ty := ty.keep (Chg.below (lo := w.heap.size) nb)
        replace tz := tz.keep (Chg.below (lo := w.heap.size) nb)
        replace Rx := Rx.below nb Rx.lt
        clear nb
        generalize wd.alloc (.cells #[] 3) = wd at hbl Rb RR Rg tn ty tz Rx ⊢
        refine hK.out _ _ ?_ (fun hHeld => ?_)
        · exact ⟨Rx.cell 0, Rx.cell 1, Rx.cell 2, Rx.cell 3⟩
        clear hK K
        try simp only [Act.put, List.setIfInBounds_toArray, List.set_cons_zero, List.set_cons_succ]
        refine reg_call2 (i := 1) (j := 9) (by kernel_rfl) rfl rfl (fun K hK => ?_) (fun K hK => ?_)
        · have k1 : wd.cell? ⟨gb, 1, none⟩ = some (.slice A8 e c8) := Rg.cell 1
          go_simp
          refine hK.out _ _ ?_ (fun hHeld => ?_)
          · exact ⟨Rx.cell 0, Rx.cell 1, Rx.cell 2, Rx.cell 3⟩
          clear hK K
          try simp only [Act.put, List.setIfInBounds_toArray, List.set_cons_zero, List.set_cons_succ]
          refine reg_call (i := 9) (by kernel_rfl) rfl (fun K hK => ?_)
          obtain ⟨Aq, nq, cq, wq, r9, tq, nb⟩ := append_ints wd lo w.heap.size ⟨a6, 0, none⟩ Aa na ca (ta.keep (Chg.below hbl)) hbl.size (by omega)
          rw [if_pos (show Region.wanted _ _ = true by kernel_rfl)]
          refine Lib.wp_append_run_sl _ _ _ 28 rfl _ _ rfl rfl r9 ?_
          clear r9
          replace hbl : Below w.heap.size w wq := hbl.trans (nb.mono hbl.size)
          replace Rb := Rb.below nb Rb.lt
          replace RR := RR.below nb RR.lt
          replace Rg := Rg.below nb Rg.lt
          replace tn := tn.keep (Chg.below (lo := w.heap.size) nb)
          replace ty := ty.keep (Chg.below (lo := w.heap.size) nb)
          replace tz := tz.keep (Chg.below (lo := w.heap.size) nb)
          replace Rx := Rx.below nb Rx.lt
          clear nb
          obtain ⟨wd, hwd⟩ : ∃ x, x = wq := ⟨_, rfl⟩
          subst hwd
          refine hK.out _ _ ?_ (fun hHeld => ?_)
          · exact ⟨Rx.cell 0, Rx.cell 1, Rx.cell 2, Rx.cell 3⟩
          clear hK K
          try simp only [Act.put, List.setIfInBounds_toArray, List.set_cons_zero, List.set_cons_succ]
          refine reg_take (i := 12) (v := ?v114) rfl (by kernel_rfl) (by kernel_rfl) (by kernel_rfl) (fun _ _ _ h => h) (Or.inl ⟨by kernel_rfl, ?h114⟩) (by assumption) ?r114
          case h114 => (intro w hSw; (try dsimp only at hSw); go_simp; try with_reducible rfl)
          try simp only [Act.put, List.setIfInBounds_toArray, List.set_cons_zero, List.set_cons_succ]
          refine reg_call (i := 13) (by kernel_rfl) rfl (fun K hK => ?_)
          go_simp
          have RgR := Rg.alloc (.cells #[.int .i64 op, .int .i64 t, .slice Aq nq cq, .int .i64 m] 44)
          have RbR := Rb.alloc (.cells #[.int .i64 op, .int .i64 t, .slice Aq nq cq, .int .i64 m] 44)
          have RRR := RR.alloc (.cells #[.int .i64 op, .int .i64 t, .slice Aq nq cq, .int .i64 m] 44)
          have hblR : Below w.heap.size w (wd.alloc (.cells #[.int .i64 op, .int .i64 t, .slice Aq nq cq, .int .i64 m] 44)) := hbl.alloc hbl.size _
          have RxR := Rx.alloc (.cells #[.int .i64 op, .int .i64 t, .slice Aq nq cq, .int .i64 m] 44)
          refine hK.out _ _ ?_ (fun hHeld => ?_)
          · exact ⟨RxR.cell 0, RxR.cell 1, RxR.cell 2, RxR.cell 3⟩
          clear hK K
          try simp only [Act.put, List.setIfInBounds_toArray, List.set_cons_zero, List.set_cons_succ]
          refine reg_call (i := 14) (by kernel_rfl) rfl (fun K hK => ?_)
          obtain ⟨A10, c10, w9, r9, ty9, kp9, hf9, rr, g9, hr9, hA9⟩ := append_ins2 (D := D) wd w.heap.size A8 e c8 ty op t (.slice Aq nq cq) m hop ht tq hm (by omega) hbl.size
          rw [if_pos (show Region.wanted _ _ = true by kernel_rfl)]
          refine Lib.wp_append_run_sl _ _ _ 32 rfl _ _ rfl rfl r9 ?_
          clear r9
          have Rg9 := hf9 _ _ _ (by decide) RgR
          have Rb9 := hf9 _ _ _ (by decide) RbR
          have RR9 := hf9 _ _ _ (by decide) RRR
          have hbl9 : Below w.heap.size w w9 := grown_below hblR hblR.size g9 hr9
          have tn9 := tn.kept kp9
          have Rx9 : Row w9 gx 44 _ := (g9.block gx RxR.lt (fun e => hgx2 (hA9 gx e.symm))).trans RxR
          have tz9 := tz.kept kp9
          have k9 : w9.cell? ⟨gb, 1, none⟩ = some (.slice A8 e c8) := Rg9.cell 1
          have f9 : w9.frozen? ⟨gb, 1, none⟩ = false := Rg9.frozen 1
          refine hK.out _ _ ?_ (fun hHeld => ?_)
          · exact ⟨Rx9.cell 0, Rx9.cell 1, Rx9.cell 2, Rx9.cell 3⟩
          clear hK K
          try simp only [Act.put, List.setIfInBounds_toArray, List.set_cons_zero, List.set_cons_succ]
          refine reg_take (i := 15) (v := ?v115) rfl (by kernel_rfl) (by kernel_rfl) (by kernel_rfl) (fun _ _ _ h => h) (Or.inl ⟨by kernel_rfl, ?h115⟩) (by assumption) ?r115
          case h115 => (intro w hSw; (try dsimp only at hSw); go_simp; try with_reducible rfl)
          try simp only [Act.put, List.setIfInBounds_toArray, List.set_cons_zero, List.set_cons_succ]
          refine reg_call (i := 16) (by kernel_rfl) rfl (fun K hK => ?_)
          have ch10 : Chg D w.heap.size w9 (w9.setCell ⟨gb, 1, none⟩ (.slice A10 (e + 1) c10)) := Chg.set Rg9 (OK.blkInss rfl ty9)
          have Rg10 := Rg9.set_ 1 (.slice A10 (e + 1) c10)
          have Rb10 := Rb9.far (p := ⟨gb, 1, none⟩) (by show w.heap.size ≠ gb; omega) (.slice A10 (e + 1) c10)
          have RR10 := RR9.far (p := ⟨gb, 1, none⟩) (by show w.heap.size + 1 ≠ gb; omega) (.slice A10 (e + 1) c10)
          have hbl10 : Below w.heap.size w (w9.setCell ⟨gb, 1, none⟩ (.slice A10 (e + 1) c10)) := hbl9.setCell (p := ⟨gb, 1, none⟩) (by show w.heap.size ≤ gb; omega) _
          have Rx10 := Rx9.far (p := ⟨gb, 1, none⟩) hgxb (.slice A10 (e + 1) c10)
          have hS10 : (w9.setCell ⟨gb, 1, none⟩ (.slice A10 (e + 1) c10)).cell? ⟨gx, 0, none⟩ = some (.int .i64 op) ∧ (w9.setCell ⟨gb, 1, none⟩ (.slice A10 (e + 1) c10)).cell? ⟨gx, 1, none⟩ = some (.int .i64 t) ∧ (w9.setCell ⟨gb, 1, none⟩ (.slice A10 (e + 1) c10)).cell? ⟨gx, 2, none⟩ = some (.slice Aa na ca) ∧ (w9.setCell ⟨gb, 1, none⟩ (.slice A10 (e + 1) c10)).cell? ⟨gx, 3, none⟩ = some (.int .i64 m) := ⟨Rx10.cell 0, Rx10.cell 1, Rx10.cell 2, Rx10.cell 3⟩
          go_simp
          refine hK.out _ _ ?_ (fun hHeld => ?_)
          · exact hS10
          clear hK K
          try simp only [Act.put, List.setIfInBounds_toArray, List.set_cons_zero, List.set_cons_succ]
          refine wpAnyH_done (by kernel_rfl) ?_ _
          go_wp2_with fail
          go_roundw
          case rel => exact ⟨e + 1, A10, c10, by go_num, by omega, Rg10, ty9.keep ch10, tn9.keep ch10, tz9.keep ch10, Rb10, RR10, hbl10⟩
          case measure => simp [intOf]; omega
        obtain ⟨Aq, nq, cq, wq, r9, tq, nb⟩ := append_ints wd lo w.heap.size ⟨a6, 0, none⟩ Aa na ca (ta.keep (Chg.below hbl)) hbl.size (by omega)
        rw [if_pos (show Region.wanted _ _ = true by kernel_rfl)]
        refine Lib.wp_append_run_sl _ _ _ 28 rfl _ _ rfl rfl r9 ?_
        clear r9
        replace hbl : Below w.heap.size w wq := hbl.trans (nb.mono hbl.size)
        replace Rb := Rb.below nb Rb.lt
        replace RR := RR.below nb RR.lt
        replace Rg := Rg.below nb Rg.lt
        replace tn := tn.keep (Chg.below (lo := w.heap.size) nb)
        replace ty := ty.keep (Chg.below (lo := w.heap.size) nb)
        replace tz := tz.keep (Chg.below (lo := w.heap.size) nb)
        replace Rx := Rx.below nb Rx.lt
        clear nb
        obtain ⟨wd, hwd⟩ : ∃ x, x = wq := ⟨_, rfl⟩
        subst hwd
        refine hK.out _ _ ?_ (fun hHeld => ?_)
        · exact ⟨Rx.cell 0, Rx.cell 1, Rx.cell 2, Rx.cell 3⟩
        clear hK K
        try simp only [Act.put, List.setIfInBounds_toArray, List.set_cons_zero, List.set_cons_succ]
        refine reg_take (i := 12) (v := ?v116) rfl (by kernel_rfl) (by kernel_rfl) (by kernel_rfl) (fun _ _ _ h => h) (Or.inl ⟨by kernel_rfl, ?h116⟩) (by assumption) ?r116
        case h116 => (intro w hSw; (try dsimp only at hSw); go_simp; try with_reducible rfl)
        try simp only [Act.put, List.setIfInBounds_toArray, List.set_cons_zero, List.set_cons_succ]
        refine reg_call2 (i := 1) (j := 13) (by kernel_rfl) rfl rfl (fun K hK => ?_) (fun K hK => ?_)
        · have k1 : wd.cell? ⟨gb, 1, none⟩ = some (.slice A8 e c8) := Rg.cell 1
          go_simp
          refine hK.out _ _ ?_ (fun hHeld => ?_)
          · exact ⟨Rx.cell 0, Rx.cell 1, Rx.cell 2, Rx.cell 3⟩
          clear hK K
          try simp only [Act.put, List.setIfInBounds_toArray, List.set_cons_zero, List.set_cons_succ]
          refine reg_call (i := 13) (by kernel_rfl) rfl (fun K hK => ?_)
          go_simp
          have RgR := Rg.alloc (.cells #[.int .i64 op, .int .i64 t, .slice Aq nq cq, .int .i64 m] 44)
          have RbR := Rb.alloc (.cells #[.int .i64 op, .int .i64 t, .slice Aq nq cq, .int .i64 m] 44)
          have RRR := RR.alloc (.cells #[.int .i64 op, .int .i64 t, .slice Aq nq cq, .int .i64 m] 44)
          have hblR : Below w.heap.size w (wd.alloc (.cells #[.int .i64 op, .int .i64 t, .slice Aq nq cq, .int .i64 m] 44)) := hbl.alloc hbl.size _
          have RxR := Rx.alloc (.cells #[.int .i64 op, .int .i64 t, .slice Aq nq cq, .int .i64 m] 44)
          refine hK.out _ _ ?_ (fun hHeld => ?_)
          · exact ⟨RxR.cell 0, RxR.cell 1, RxR.cell 2, RxR.cell 3⟩
          clear hK K
          try simp only [Act.put, List.setIfInBounds_toArray, List.set_cons_zero, List.set_cons_succ]
          refine reg_call (i := 14) (by kernel_rfl) rfl (fun K hK => ?_)
          obtain ⟨A10, c10, w9, r9, ty9, kp9, hf9, rr, g9, hr9, hA9⟩ := append_ins2 (D := D) wd w.heap.size A8 e c8 ty op t (.slice Aq nq cq) m hop ht tq hm (by omega) hbl.size
          rw [if_pos (show Region.wanted _ _ = true by kernel_rfl)]
          refine Lib.wp_append_run_sl _ _ _ 32 rfl _ _ rfl rfl r9 ?_
          clear r9
          have Rg9 := hf9 _ _ _ (by decide) RgR
          have Rb9 := hf9 _ _ _ (by decide) RbR
          have RR9 := hf9 _ _ _ (by decide) RRR
          have hbl9 : Below w.heap.size w w9 := grown_below hblR hblR.size g9 hr9
          have tn9 := tn.kept kp9
          have Rx9 : Row w9 gx 44 _ := (g9.block gx RxR.lt (fun e => hgx2 (hA9 gx e.symm))).trans RxR
          have tz9 := tz.kept kp9
          have k9 : w9.cell? ⟨gb, 1, none⟩ = some (.slice A8 e c8) := Rg9.cell 1
          have f9 : w9.frozen? ⟨gb, 1, none⟩ = false := Rg9.frozen 1
          refine hK.out _ _ ?_ (fun hHeld => ?_)
          · exact ⟨Rx9.cell 0, Rx9.cell 1, Rx9.cell 2, Rx9.cell 3⟩
          clear hK K
          try simp only [Act.put, List.setIfInBounds_toArray, List.set_cons_zero, List.set_cons_succ]
          refine reg_take (i := 15) (v := ?v117) rfl (by kernel_rfl) (by kernel_rfl) (by kernel_rfl) (fun _ _ _ h => h) (Or.inl ⟨by kernel_rfl, ?h117⟩) (by assumption) ?r117
          case h117 => (intro w hSw; (try dsimp only at hSw); go_simp; try with_reducible rfl)
          try simp only [Act.put, List.setIfInBounds_toArray, List.set_cons_zero, List.set_cons_succ]
          refine reg_call (i := 16) (by kernel_rfl) rfl (fun K hK => ?_)
          have ch10 : Chg D w.heap.size w9 (w9.setCell ⟨gb, 1, none⟩ (.slice A10 (e + 1) c10)) := Chg.set Rg9 (OK.blkInss rfl ty9)
          have Rg10 := Rg9.set_ 1 (.slice A10 (e + 1) c10)
          have Rb10 := Rb9.far (p := ⟨gb, 1, none⟩) (by show w.heap.size ≠ gb; omega) (.slice A10 (e + 1) c10)
          have RR10 := RR9.far (p := ⟨gb, 1, none⟩) (by show w.heap.size + 1 ≠ gb; omega) (.slice A10 (e + 1) c10)
          have hbl10 : Below w.heap.size w (w9.setCell ⟨gb, 1, none⟩ (.slice A10 (e + 1) c10)) := hbl9.setCell (p := ⟨gb, 1, none⟩) (by show w.heap.size ≤ gb; omega) _
          have Rx10 := Rx9.far (p := ⟨gb, 1, none⟩) hgxb (.slice A10 (e + 1) c10)
          have hS10 : (w9.setCell ⟨gb, 1, none⟩ (.slice A10 (e + 1) c10)).cell? ⟨gx, 0, none⟩ = some (.int .i64 op) ∧ (w9.setCell ⟨gb, 1, none⟩ (.slice A10 (e + 1) c10)).cell? ⟨gx, 1, none⟩ = some (.int .i64 t) ∧ (w9.setCell ⟨gb, 1, none⟩ (.slice A10 (e + 1) c10)).cell? ⟨gx, 2, none⟩ = some (.slice Aa na ca) ∧ (w9.setCell ⟨gb, 1, none⟩ (.slice A10 (e + 1) c10)).cell? ⟨gx, 3, none⟩ = some (.int .i64 m) := ⟨Rx10.cell 0, Rx10.cell 1, Rx10.cell 2, Rx10.cell 3⟩
          go_simp
          refine hK.out _ _ ?_ (fun hHeld => ?_)
          · exact hS10
          clear hK K
          try simp only [Act.put, List.setIfInBounds_toArray, List.set_cons_zero, List.set_cons_succ]
          refine wpAnyH_done (by kernel_rfl) ?_ _
          go_wp2_with fail
          go_roundw
          case rel => exact ⟨e + 1, A10, c10, by go_num, by omega, Rg10, ty9.keep ch10, tn9.keep ch10, tz9.keep ch10, Rb10, RR10, hbl10⟩
          case measure => simp [intOf]; omega
        go_simp
        have RgR := Rg.alloc (.cells #[.int .i64 op, .int .i64 t, .slice Aq nq cq, .int .i64 m] 44)
        have RbR := Rb.alloc (.cells #[.int .i64 op, .int .i64 t, .slice Aq nq cq, .int .i64 m] 44)
        have RRR := RR.alloc (.cells #[.int .i64 op, .int .i64 t, .slice Aq nq cq, .int .i64 m] 44)
        have hblR : Below w.heap.size w (wd.alloc (.cells #[.int .i64 op, .int .i64 t, .slice Aq nq cq, .int .i64 m] 44)) := hbl.alloc hbl.size _
        have RxR := Rx.alloc (.cells #[.int .i64 op, .int .i64 t, .slice Aq nq cq, .int .i64 m] 44)
        refine hK.out _ _ ?_ (fun hHeld => ?_)
        · exact ⟨RxR.cell 0, RxR.cell 1, RxR.cell 2, RxR.cell 3⟩
        clear hK K
        try simp only [Act.put, List.setIfInBounds_toArray, List.set_cons_zero, List.set_cons_succ]
        refine reg_call (i := 1) (by kernel_rfl) rfl (fun K hK => ?_)
        have k1 : (wd.alloc (.cells #[.int .i64 op, .int .i64 t, .slice Aq nq cq, .int .i64 m] 44)).cell? ⟨gb, 1, none⟩ = some (.slice A8 e c8) := RgR.cell 1
        go_simp
        refine hK.out _ _ ?_ (fun hHeld => ?_)
        · exact ⟨RxR.cell 0, RxR.cell 1, RxR.cell 2, RxR.cell 3⟩
        clear hK K
        try simp only [Act.put, List.setIfInBounds_toArray, List.set_cons_zero, List.set_cons_succ]
        refine reg_call (i := 14) (by kernel_rfl) rfl (fun K hK => ?_)
        obtain ⟨A10, c10, w9, r9, ty9, kp9, hf9, rr, g9, hr9, hA9⟩ := append_ins2 (D := D) wd w.heap.size A8 e c8 ty op t (.slice Aq nq cq) m hop ht tq hm (by omega) hbl.size
        rw [if_pos (show Region.wanted _ _ = true by kernel_rfl)]
        refine Lib.wp_append_run_sl _ _ _ 32 rfl _ _ rfl rfl r9 ?_
        clear r9
        have Rg9 := hf9 _ _ _ (by decide) RgR
        have Rb9 := hf9 _ _ _ (by decide) RbR
        have RR9 := hf9 _ _ _ (by decide) RRR
        have hbl9 : Below w.heap.size w w9 := grown_below hblR hblR.size g9 hr9
        have tn9 := tn.kept kp9
        have Rx9 : Row w9 gx 44 _ := (g9.block gx RxR.lt (fun e => hgx2 (hA9 gx e.symm))).trans RxR
        have tz9 := tz.kept kp9
        have k9 : w9.cell? ⟨gb, 1, none⟩ = some (.slice A8 e c8) := Rg9.cell 1
        have f9 : w9.frozen? ⟨gb, 1, none⟩ = false := Rg9.frozen 1
        refine hK.out _ _ ?_ (fun hHeld => ?_)
        · exact ⟨Rx9.cell 0, Rx9.cell 1, Rx9.cell 2, Rx9.cell 3⟩
        clear hK K
        try simp only [Act.put, List.setIfInBounds_toArray, List.set_cons_zero, List.set_cons_succ]
        refine reg_take (i := 15) (v := ?v118) rfl (by kernel_rfl) (by kernel_rfl) (by kernel_rfl) (fun _ _ _ h => h) (Or.inl ⟨by kernel_rfl, ?h118⟩) (by assumption) ?r118
        case h118 => (intro w hSw; (try dsimp only at hSw); go_simp; try with_reducible rfl)
        try simp only [Act.put, List.setIfInBounds_toArray, List.set_cons_zero, List.set_cons_succ]
        refine reg_call (i := 16) (by kernel_rfl) rfl (fun K hK => ?_)
        have ch10 : Chg D w.heap.size w9 (w9.setCell ⟨gb, 1, none⟩ (.slice A10 (e + 1) c10)) := Chg.set Rg9 (OK.blkInss rfl ty9)
        have Rg10 := Rg9.set_ 1 (.slice A10 (e + 1) c10)
        have Rb10 := Rb9.far (p := ⟨gb, 1, none⟩) (by show w.heap.size ≠ gb; omega) (.slice A10 (e + 1) c10)
        have RR10 := RR9.far (p := ⟨gb, 1, none⟩) (by show w.heap.size + 1 ≠ gb; omega) (.slice A10 (e + 1) c10)
        have hbl10 : Below w.heap.size w (w9.setCell ⟨gb, 1, none⟩ (.slice A10 (e + 1) c10)) := hbl9.setCell (p := ⟨gb, 1, none⟩) (by show w.heap.size ≤ gb; omega) _
        have Rx10 := Rx9.far (p := ⟨gb, 1, none⟩) hgxb (.slice A10 (e + 1) c10)
        have hS10 : (w9.setCell ⟨gb, 1, none⟩ (.slice A10 (e + 1) c10)).cell? ⟨gx, 0, none⟩ = some (.int .i64 op) ∧ (w9.setCell ⟨gb, 1, none⟩ (.slice A10 (e + 1) c10)).cell? ⟨gx, 1, none⟩ = some (.int .i64 t) ∧ (w9.setCell ⟨gb, 1, none⟩ (.slice A10 (e + 1) c10)).cell? ⟨gx, 2, none⟩ = some (.slice Aa na ca) ∧ (w9.setCell ⟨gb, 1, none⟩ (.slice A10 (e + 1) c10)).cell? ⟨gx, 3, none⟩ = some (.int .i64 m) := ⟨Rx10.cell 0, Rx10.cell 1, Rx10.cell 2, Rx10.cell 3⟩
        go_simp
        refine hK.out _ _ ?_ (fun hHeld => ?_)
        · exact hS10
        clear hK K
        try simp only [Act.put, List.setIfInBounds_toArray, List.set_cons_zero, List.set_cons_succ]
        refine wpAnyH_done (by kernel_rfl) ?_ _
        go_wp2_with fail
        go_roundw
        case rel => exact ⟨e + 1, A10, c10, by go_num, by omega, Rg10, ty9.keep ch10, tn9.keep ch10, tz9.keep ch10, Rb10, RR10, hbl10⟩
        case measure => simp [intOf]; omega
end Go.Proofs.Ytafembiemaflfaa
