/-
  The copy of a block, exact: l7CopyBlock. Condition: the argument reads as data of small size.
-/
import Derived.Test.YtgcjccoglcgcoaaSt
import Derived.Deep.CutRange
import Derived.Deep.CutBlock
namespace Go.Proofs.Ytgcjccoglcgcoaa
open Go.RowKit Go.ChangeShapes Go.WideShapes Go.Deep
set_option linter.unusedVariables false
set_option linter.unusedSimpArgs false
set_option maxRecDepth 100000 in
set_option maxHeartbeats 8000000 in
theorem spec_l7CopyBlock (phis : List PhiD) (v0 : Value) (ins : List InsD) (v1 : Value) (jp on : Int) (next : List Int) (v4 : Value) (w : World) (lo B : Nat) (hB : B ≤ w.heap.size) (hl : blkN ⟨phis, ins, jp, on, next⟩ ≤ 1048576) (h0 : Sl false (phiS false) w lo B phis v0) (h1 : Sl false (insS false) w lo B ins v1) (hj : I64 jp) (ho : I64 on) (h4 : Sl false (intS false) w lo B next v4) :
    Calls Try.prog 97 #[.agg #[v0, v1, .int .i64 jp, .int .i64 on, v4]] w (ToF bkF ⟨phis, ins, jp, on, next⟩ w) := by
  have hl0 : (phis.length + sumBy phiN phis) + (ins.length + sumBy insN ins) + next.length ≤ 1048576 := hl
  have hlp : Hid (∀ a ∈ phis, a.args.length ≤ 1048576) := Lib.hid (fun a ha => by
    have : a.args.length ≤ sumBy phiN phis := sumBy_mem phiN ha
    omega)
  have hli : Hid (∀ a ∈ ins, a.args.length ≤ 1048576) := Lib.hid (fun a ha => by
    have : a.args.length ≤ sumBy insN ins := sumBy_mem insN ha
    omega)
  have hl1 : phis.length ≤ 1048576 := by omega
  have hl2 : ins.length ≤ 1048576 := by omega
  have hl4 : next.length ≤ 1048576 := by omega
  clear hl hl0
  obtain ⟨A0, p0, hf, _, _⟩ := h0.form
  change _ = Value.slice A0 phis.length p0 at hf
  subst hf
  obtain ⟨A1, p1, hf, _, _⟩ := h1.form
  change _ = Value.slice A1 ins.length p1 at hf
  subst hf
  obtain ⟨A4, p4, hf, _, _⟩ := h4.form
  change _ = Value.slice A4 next.length p4 at hf
  subst hf
  go_enter Try.func97, Try.ntmps97
  go_upto_region 1 with fail
  have st : S1 w ((w.alloc (.cells #[.slice A0 phis.length p0, .slice A1 ins.length p1, .int .i64 jp, .int .i64 on, .slice A4 next.length p4] 65)).alloc (.cells #[.slice none 0 0, .slice none 0 0, .int .i64 0, .int .i64 0, .slice none 0 0] 65)) #[.slice A0 phis.length p0, .slice A1 ins.length p1, .int .i64 jp, .int .i64 on, .slice A4 next.length p4] #[.slice none 0 0, .slice none 0 0, .int .i64 0, .int .i64 0, .slice none 0 0] [] [] [] [] [] (.slice none 0 0) := ⟨((Below.refl _ w).alloc (Nat.le_refl _) _).alloc (by simp) _, (Row.new w _ _).alloc _, by simpa using Row.new (w.alloc (.cells #[.slice A0 phis.length p0, .slice A1 ins.length p1, .int .i64 jp, .int .i64 on, .slice A4 next.length p4] 65)) 65 #[.slice none 0 0, .slice none 0 0, .int .i64 0, .int .i64 0, .slice none 0 0], fun b hb => (by cases hb), fun b hb => (by cases hb), fun b hb => (by cases hb), by simp, fun b hb => (by cases hb), SlF.nil_ _ _ _⟩
  generalize (w.alloc (.cells #[.slice A0 phis.length p0, .slice A1 ins.length p1, .int .i64 jp, .int .i64 on, .slice A4 next.length p4] 65)).alloc (.cells #[.slice none 0 0, .slice none 0 0, .int .i64 0, .int .i64 0, .slice none 0 0] 65) = w1 at st ⊢
  go_cut [3] from 7 (fun v wx => CutB w #[.slice A0 phis.length p0, .slice A1 ins.length p1, .int .i64 jp, .int .i64 on, .slice A4 next.length p4] #[.slice none 0 0, .slice none 0 0, .int .i64 0, .int .i64 0, .slice none 0 0] jp on next v wx)
  case first =>
    refine wp_region_held_drew (S := fun w' => (w'.cell? ⟨w.heap.size, 2, none⟩ = some (.int .i64 jp) ∧ w'.cell? ⟨w.heap.size, 3, none⟩ = some (.int .i64 on) ∧ w'.cell? ⟨w.heap.size, 4, none⟩ = some (.slice A4 next.length p4))) (by kernel_rfl) ?_ (fun hHeld => ?_)
    · exact ⟨st.Rb.cell 2, st.Rb.cell 3, st.Rb.cell 4⟩
    replace st := st.drew
    generalize w1.drew = wd at hHeld st ⊢
    refine reg_take (i := 2) (v := ?v1) rfl (by kernel_rfl) (by kernel_rfl) (by kernel_rfl) (fun _ _ _ h => h) (Or.inl ⟨by kernel_rfl, ?h1⟩) (by assumption) ?r1
    case h1 => (intro w hSw; (try dsimp only at hSw); go_simp; try with_reducible rfl)
    try simp only [Act.put, List.setIfInBounds_toArray, List.set_cons_zero, List.set_cons_succ]
    refine reg_take (i := 3) (v := ?v2) rfl (by kernel_rfl) (by kernel_rfl) (by kernel_rfl) (fun _ _ _ h => h) (Or.inl ⟨by kernel_rfl, ?h2⟩) (by assumption) ?r2
    case h2 => (intro w hSw; (try dsimp only at hSw); go_simp; try with_reducible rfl)
    try simp only [Act.put, List.setIfInBounds_toArray, List.set_cons_zero, List.set_cons_succ]
    refine reg_take (i := 4) (v := ?v3) rfl (by kernel_rfl) (by kernel_rfl) (by kernel_rfl) (fun _ _ _ h => h) (Or.inl ⟨by kernel_rfl, ?h3⟩) (by assumption) ?r3
    case h3 => (intro w hSw; (try dsimp only at hSw); go_simp; try with_reducible rfl)
    try simp only [Act.put, List.setIfInBounds_toArray, List.set_cons_zero, List.set_cons_succ]
    refine reg_take (i := 5) (v := ?v4) rfl (by kernel_rfl) (by kernel_rfl) (by kernel_rfl) (fun _ _ _ h => h) (Or.inl ⟨by kernel_rfl, ?h4⟩) (by assumption) ?r4
    case h4 => (intro w hSw; (try dsimp only at hSw); go_simp; try with_reducible rfl)
    try simp only [Act.put, List.setIfInBounds_toArray, List.set_cons_zero, List.set_cons_succ]
    refine reg_take (i := 7) (v := ?v5) rfl (by kernel_rfl) (by kernel_rfl) (by kernel_rfl) (fun _ _ _ h => h) (Or.inl ⟨by kernel_rfl, ?h5⟩) (by assumption) ?r5
    case h5 => (intro w hSw; (try dsimp only at hSw); go_simp; try with_reducible rfl)
    try simp only [Act.put, List.setIfInBounds_toArray, List.set_cons_zero, List.set_cons_succ]
    refine reg_take (i := 8) (v := ?v6) rfl (by kernel_rfl) (by kernel_rfl) (by kernel_rfl) (fun _ _ _ h => h) (Or.inl ⟨by kernel_rfl, ?h6⟩) (by assumption) ?r6
    case h6 => (intro w hSw; (try dsimp only at hSw); go_simp; try with_reducible rfl)
    try simp only [Act.put, List.setIfInBounds_toArray, List.set_cons_zero, List.set_cons_succ]
    refine reg_call4 (i := 0) (j := 1) (k := 6) (l := 11) (by kernel_rfl) rfl rfl rfl rfl (fun K hK => ?_) (fun K hK => ?_) (fun K hK => ?_) (fun K hK => ?_)
    · go_simp
      replace st := st.a0
      generalize wd.heap.size = b7 at st ⊢
      generalize wd.alloc (.cells #[] 69) = wd at st ⊢
      refine hK.out _ _ ?_ (fun hHeld => ?_)
      · exact ⟨st.Rb.cell 2, st.Rb.cell 3, st.Rb.cell 4⟩
      clear hK K
      try simp only [Act.put, List.setIfInBounds_toArray, List.set_cons_zero, List.set_cons_succ]
      refine reg_call3 (i := 1) (j := 6) (k := 11) (by kernel_rfl) rfl rfl rfl (fun K hK => ?_) (fun K hK => ?_) (fun K hK => ?_)
      · go_simp
        replace st := st.a1
        generalize wd.heap.size = b8 at st ⊢
        generalize wd.alloc (.cells #[] 72) = wd at st ⊢
        refine hK.out _ _ ?_ (fun hHeld => ?_)
        · exact ⟨st.Rb.cell 2, st.Rb.cell 3, st.Rb.cell 4⟩
        clear hK K
        try simp only [Act.put, List.setIfInBounds_toArray, List.set_cons_zero, List.set_cons_succ]
        refine reg_call2 (i := 6) (j := 11) (by kernel_rfl) rfl rfl (fun K hK => ?_) (fun K hK => ?_)
        · go_simp
          replace st := st.al (.cells #[] 3)
          generalize wd.heap.size = a6 at ⊢
          generalize wd.alloc (.cells #[] 3) = wd at st ⊢
          refine hK.out _ _ ?_ (fun hHeld => ?_)
          · exact ⟨st.Rb.cell 2, st.Rb.cell 3, st.Rb.cell 4⟩
          clear hK K
          try simp only [Act.put, List.setIfInBounds_toArray, List.set_cons_zero, List.set_cons_succ]
          refine reg_call2 (i := 9) (j := 11) (by kernel_rfl) rfl rfl (fun K hK => ?_) (fun K hK => ?_)
          · obtain ⟨A16, c16, f4, wq, r9, st⟩ := st.ap ⟨a6, 0, none⟩ (h4.below st.hbl hB) hl4
            rw [if_pos (show Region.wanted _ _ = true by kernel_rfl)]
            refine Lib.wp_append_run_sl _ _ _ 63 rfl _ _ rfl rfl r9 ?_
            clear r9
            obtain ⟨wd, hwd⟩ : ∃ x, x = wq := ⟨_, rfl⟩
            subst hwd
            refine hK.out _ _ ?_ (fun hHeld => ?_)
            · exact ⟨st.Rb.cell 2, st.Rb.cell 3, st.Rb.cell 4⟩
            clear hK K
            try simp only [Act.put, List.setIfInBounds_toArray, List.set_cons_zero, List.set_cons_succ]
            refine reg_take (i := 10) (v := ?v7) rfl (by kernel_rfl) (by kernel_rfl) (by kernel_rfl) (fun _ _ _ h => h) (Or.inl ⟨by kernel_rfl, ?h7⟩) (by assumption) ?r7
            case h7 => (intro w hSw; (try dsimp only at hSw); go_simp; try with_reducible rfl)
            try simp only [Act.put, List.setIfInBounds_toArray, List.set_cons_zero, List.set_cons_succ]
            refine reg_call (i := 11) (by kernel_rfl) rfl (fun K hK => ?_)
            go_simp
            replace st := st.ag
            generalize wd.heap.size = gb at st ⊢
            generalize wd.alloc (.cells #[.slice none 0 0, .slice none 0 0, .int .i64 0, .int .i64 0, .slice none 0 0] 65) = wd at st ⊢
            refine hK.out _ _ ?_ (fun hHeld => ?_)
            · exact ⟨st.Rb.cell 2, st.Rb.cell 3, st.Rb.cell 4⟩
            clear hK K
            try simp only [Act.put, List.setIfInBounds_toArray, List.set_cons_zero, List.set_cons_succ]
            refine reg_call (i := 12) (by kernel_rfl) rfl (fun K hK => ?_)
            rw [if_pos (show Region.wanted _ _ = true by kernel_rfl)]
            refine wp_store_mid 65 _ _ rfl gb 0 #[.slice (some ⟨b7, 0, none⟩) 0 0, .slice (some ⟨b8, 0, none⟩) 0 0, .int .i64 jp, .int .i64 on, .slice A16 next.length c16] rfl rfl (row_there (st.hg gb (by simp)) 5 (by decide)) size_block (by simp [Value.oneCell']) ?_
            rw [set5_eq]
            have R5 := row_far5 st.Rb st.gne
            refine hK.out _ _ ?_ (fun hHeld => ?_)
            · exact ⟨(R5 _ _ _ _ _).cell 2, (R5 _ _ _ _ _).cell 3, (R5 _ _ _ _ _).cell 4⟩
            clear hK K
            try simp only [Act.put, List.setIfInBounds_toArray, List.set_cons_zero, List.set_cons_succ]
            refine wpAnyH_done (by kernel_rfl) ?_ _
            go_wp2_with fail
            go_meet
            exact st.fin jp on
          go_simp
          replace st := st.ag
          generalize wd.heap.size = gb at st ⊢
          generalize wd.alloc (.cells #[.slice none 0 0, .slice none 0 0, .int .i64 0, .int .i64 0, .slice none 0 0] 65) = wd at st ⊢
          refine hK.out _ _ ?_ (fun hHeld => ?_)
          · exact ⟨st.Rb.cell 2, st.Rb.cell 3, st.Rb.cell 4⟩
          clear hK K
          try simp only [Act.put, List.setIfInBounds_toArray, List.set_cons_zero, List.set_cons_succ]
          refine reg_call (i := 9) (by kernel_rfl) rfl (fun K hK => ?_)
          obtain ⟨A16, c16, f4, wq, r9, st⟩ := st.ap ⟨a6, 0, none⟩ (h4.below st.hbl hB) hl4
          rw [if_pos (show Region.wanted _ _ = true by kernel_rfl)]
          refine Lib.wp_append_run_sl _ _ _ 63 rfl _ _ rfl rfl r9 ?_
          clear r9
          obtain ⟨wd, hwd⟩ : ∃ x, x = wq := ⟨_, rfl⟩
          subst hwd
          refine hK.out _ _ ?_ (fun hHeld => ?_)
          · exact ⟨st.Rb.cell 2, st.Rb.cell 3, st.Rb.cell 4⟩
          clear hK K
          try simp only [Act.put, List.setIfInBounds_toArray, List.set_cons_zero, List.set_cons_succ]
          refine reg_take (i := 10) (v := ?v8) rfl (by kernel_rfl) (by kernel_rfl) (by kernel_rfl) (fun _ _ _ h => h) (Or.inl ⟨by kernel_rfl, ?h8⟩) (by assumption) ?r8
          case h8 => (intro w hSw; (try dsimp only at hSw); go_simp; try with_reducible rfl)
          try simp only [Act.put, List.setIfInBounds_toArray, List.set_cons_zero, List.set_cons_succ]
          refine reg_call (i := 12) (by kernel_rfl) rfl (fun K hK => ?_)
          rw [if_pos (show Region.wanted _ _ = true by kernel_rfl)]
          refine wp_store_mid 65 _ _ rfl gb 0 #[.slice (some ⟨b7, 0, none⟩) 0 0, .slice (some ⟨b8, 0, none⟩) 0 0, .int .i64 jp, .int .i64 on, .slice A16 next.length c16] rfl rfl (row_there (st.hg gb (by simp)) 5 (by decide)) size_block (by simp [Value.oneCell']) ?_
          rw [set5_eq]
          have R5 := row_far5 st.Rb st.gne
          refine hK.out _ _ ?_ (fun hHeld => ?_)
          · exact ⟨(R5 _ _ _ _ _).cell 2, (R5 _ _ _ _ _).cell 3, (R5 _ _ _ _ _).cell 4⟩
          clear hK K
          try simp only [Act.put, List.setIfInBounds_toArray, List.set_cons_zero, List.set_cons_succ]
          refine wpAnyH_done (by kernel_rfl) ?_ _
          go_wp2_with fail
          go_meet
          exact st.fin jp on
        go_simp
        replace st := st.ag
        generalize wd.heap.size = gb at st ⊢
        generalize wd.alloc (.cells #[.slice none 0 0, .slice none 0 0, .int .i64 0, .int .i64 0, .slice none 0 0] 65) = wd at st ⊢
        refine hK.out _ _ ?_ (fun hHeld => ?_)
        · exact ⟨st.Rb.cell 2, st.Rb.cell 3, st.Rb.cell 4⟩
        clear hK K
        try simp only [Act.put, List.setIfInBounds_toArray, List.set_cons_zero, List.set_cons_succ]
        refine reg_call (i := 6) (by kernel_rfl) rfl (fun K hK => ?_)
        go_simp
        replace st := st.al (.cells #[] 3)
        generalize wd.heap.size = a6 at ⊢
        generalize wd.alloc (.cells #[] 3) = wd at st ⊢
        refine hK.out _ _ ?_ (fun hHeld => ?_)
        · exact ⟨st.Rb.cell 2, st.Rb.cell 3, st.Rb.cell 4⟩
        clear hK K
        try simp only [Act.put, List.setIfInBounds_toArray, List.set_cons_zero, List.set_cons_succ]
        refine reg_call (i := 9) (by kernel_rfl) rfl (fun K hK => ?_)
        obtain ⟨A16, c16, f4, wq, r9, st⟩ := st.ap ⟨a6, 0, none⟩ (h4.below st.hbl hB) hl4
        rw [if_pos (show Region.wanted _ _ = true by kernel_rfl)]
        refine Lib.wp_append_run_sl _ _ _ 63 rfl _ _ rfl rfl r9 ?_
        clear r9
        obtain ⟨wd, hwd⟩ : ∃ x, x = wq := ⟨_, rfl⟩
        subst hwd
        refine hK.out _ _ ?_ (fun hHeld => ?_)
        · exact ⟨st.Rb.cell 2, st.Rb.cell 3, st.Rb.cell 4⟩
        clear hK K
        try simp only [Act.put, List.setIfInBounds_toArray, List.set_cons_zero, List.set_cons_succ]
        refine reg_take (i := 10) (v := ?v9) rfl (by kernel_rfl) (by kernel_rfl) (by kernel_rfl) (fun _ _ _ h => h) (Or.inl ⟨by kernel_rfl, ?h9⟩) (by assumption) ?r9
        case h9 => (intro w hSw; (try dsimp only at hSw); go_simp; try with_reducible rfl)
        try simp only [Act.put, List.setIfInBounds_toArray, List.set_cons_zero, List.set_cons_succ]
        refine reg_call (i := 12) (by kernel_rfl) rfl (fun K hK => ?_)
        rw [if_pos (show Region.wanted _ _ = true by kernel_rfl)]
        refine wp_store_mid 65 _ _ rfl gb 0 #[.slice (some ⟨b7, 0, none⟩) 0 0, .slice (some ⟨b8, 0, none⟩) 0 0, .int .i64 jp, .int .i64 on, .slice A16 next.length c16] rfl rfl (row_there (st.hg gb (by simp)) 5 (by decide)) size_block (by simp [Value.oneCell']) ?_
        rw [set5_eq]
        have R5 := row_far5 st.Rb st.gne
        refine hK.out _ _ ?_ (fun hHeld => ?_)
        · exact ⟨(R5 _ _ _ _ _).cell 2, (R5 _ _ _ _ _).cell 3, (R5 _ _ _ _ _).cell 4⟩
        clear hK K
        try simp only [Act.put, List.setIfInBounds_toArray, List.set_cons_zero, List.set_cons_succ]
        refine wpAnyH_done (by kernel_rfl) ?_ _
        go_wp2_with fail
        go_meet
        exact st.fin jp on
      · go_simp
        replace st := st.al (.cells #[] 3)
        generalize wd.heap.size = a6 at ⊢
        generalize wd.alloc (.cells #[] 3) = wd at st ⊢
        refine hK.out _ _ ?_ (fun hHeld => ?_)
        · exact ⟨st.Rb.cell 2, st.Rb.cell 3, st.Rb.cell 4⟩
        clear hK K
        try simp only [Act.put, List.setIfInBounds_toArray, List.set_cons_zero, List.set_cons_succ]
        refine reg_call3 (i := 1) (j := 9) (k := 11) (by kernel_rfl) rfl rfl rfl (fun K hK => ?_) (fun K hK => ?_) (fun K hK => ?_)
        · go_simp
          replace st := st.a1
          generalize wd.heap.size = b8 at st ⊢
          generalize wd.alloc (.cells #[] 72) = wd at st ⊢
          refine hK.out _ _ ?_ (fun hHeld => ?_)
          · exact ⟨st.Rb.cell 2, st.Rb.cell 3, st.Rb.cell 4⟩
          clear hK K
          try simp only [Act.put, List.setIfInBounds_toArray, List.set_cons_zero, List.set_cons_succ]
          refine reg_call2 (i := 9) (j := 11) (by kernel_rfl) rfl rfl (fun K hK => ?_) (fun K hK => ?_)
          · obtain ⟨A16, c16, f4, wq, r9, st⟩ := st.ap ⟨a6, 0, none⟩ (h4.below st.hbl hB) hl4
            rw [if_pos (show Region.wanted _ _ = true by kernel_rfl)]
            refine Lib.wp_append_run_sl _ _ _ 63 rfl _ _ rfl rfl r9 ?_
            clear r9
            obtain ⟨wd, hwd⟩ : ∃ x, x = wq := ⟨_, rfl⟩
            subst hwd
            refine hK.out _ _ ?_ (fun hHeld => ?_)
            · exact ⟨st.Rb.cell 2, st.Rb.cell 3, st.Rb.cell 4⟩
            clear hK K
            try simp only [Act.put, List.setIfInBounds_toArray, List.set_cons_zero, List.set_cons_succ]
            refine reg_take (i := 10) (v := ?v10) rfl (by kernel_rfl) (by kernel_rfl) (by kernel_rfl) (fun _ _ _ h => h) (Or.inl ⟨by kernel_rfl, ?h10⟩) (by assumption) ?r10
            case h10 => (intro w hSw; (try dsimp only at hSw); go_simp; try with_reducible rfl)
            try simp only [Act.put, List.setIfInBounds_toArray, List.set_cons_zero, List.set_cons_succ]
            refine reg_call (i := 11) (by kernel_rfl) rfl (fun K hK => ?_)
            go_simp
            replace st := st.ag
            generalize wd.heap.size = gb at st ⊢
            generalize wd.alloc (.cells #[.slice none 0 0, .slice none 0 0, .int .i64 0, .int .i64 0, .slice none 0 0] 65) = wd at st ⊢
            refine hK.out _ _ ?_ (fun hHeld => ?_)
            · exact ⟨st.Rb.cell 2, st.Rb.cell 3, st.Rb.cell 4⟩
            clear hK K
            try simp only [Act.put, List.setIfInBounds_toArray, List.set_cons_zero, List.set_cons_succ]
            refine reg_call (i := 12) (by kernel_rfl) rfl (fun K hK => ?_)
            rw [if_pos (show Region.wanted _ _ = true by kernel_rfl)]
            refine wp_store_mid 65 _ _ rfl gb 0 #[.slice (some ⟨b7, 0, none⟩) 0 0, .slice (some ⟨b8, 0, none⟩) 0 0, .int .i64 jp, .int .i64 on, .slice A16 next.length c16] rfl rfl (row_there (st.hg gb (by simp)) 5 (by decide)) size_block (by simp [Value.oneCell']) ?_
            rw [set5_eq]
            have R5 := row_far5 st.Rb st.gne
            refine hK.out _ _ ?_ (fun hHeld => ?_)
            · exact ⟨(R5 _ _ _ _ _).cell 2, (R5 _ _ _ _ _).cell 3, (R5 _ _ _ _ _).cell 4⟩
            clear hK K
            try simp only [Act.put, List.setIfInBounds_toArray, List.set_cons_zero, List.set_cons_succ]
            refine wpAnyH_done (by kernel_rfl) ?_ _
            go_wp2_with fail
            go_meet
            exact st.fin jp on
          go_simp
          replace st := st.ag
          generalize wd.heap.size = gb at st ⊢
          generalize wd.alloc (.cells #[.slice none 0 0, .slice none 0 0, .int .i64 0, .int .i64 0, .slice none 0 0] 65) = wd at st ⊢
          refine hK.out _ _ ?_ (fun hHeld => ?_)
          · exact ⟨st.Rb.cell 2, st.Rb.cell 3, st.Rb.cell 4⟩
          clear hK K
          try simp only [Act.put, List.setIfInBounds_toArray, List.set_cons_zero, List.set_cons_succ]
          refine reg_call (i := 9) (by kernel_rfl) rfl (fun K hK => ?_)
          obtain ⟨A16, c16, f4, wq, r9, st⟩ := st.ap ⟨a6, 0, none⟩ (h4.below st.hbl hB) hl4
          rw [if_pos (show Region.wanted _ _ = true by kernel_rfl)]
          refine Lib.wp_append_run_sl _ _ _ 63 rfl _ _ rfl rfl r9 ?_
          clear r9
          obtain ⟨wd, hwd⟩ : ∃ x, x = wq := ⟨_, rfl⟩
          subst hwd
          refine hK.out _ _ ?_ (fun hHeld => ?_)
          · exact ⟨st.Rb.cell 2, st.Rb.cell 3, st.Rb.cell 4⟩
          clear hK K
          try simp only [Act.put, List.setIfInBounds_toArray, List.set_cons_zero, List.set_cons_succ]
          refine reg_take (i := 10) (v := ?v11) rfl (by kernel_rfl) (by kernel_rfl) (by kernel_rfl) (fun _ _ _ h => h) (Or.inl ⟨by kernel_rfl, ?h11⟩) (by assumption) ?r11
          case h11 => (intro w hSw; (try dsimp only at hSw); go_simp; try with_reducible rfl)
          try simp only [Act.put, List.setIfInBounds_toArray, List.set_cons_zero, List.set_cons_succ]
          refine reg_call (i := 12) (by kernel_rfl) rfl (fun K hK => ?_)
          rw [if_pos (show Region.wanted _ _ = true by kernel_rfl)]
          refine wp_store_mid 65 _ _ rfl gb 0 #[.slice (some ⟨b7, 0, none⟩) 0 0, .slice (some ⟨b8, 0, none⟩) 0 0, .int .i64 jp, .int .i64 on, .slice A16 next.length c16] rfl rfl (row_there (st.hg gb (by simp)) 5 (by decide)) size_block (by simp [Value.oneCell']) ?_
          rw [set5_eq]
          have R5 := row_far5 st.Rb st.gne
          refine hK.out _ _ ?_ (fun hHeld => ?_)
          · exact ⟨(R5 _ _ _ _ _).cell 2, (R5 _ _ _ _ _).cell 3, (R5 _ _ _ _ _).cell 4⟩
          clear hK K
          try simp only [Act.put, List.setIfInBounds_toArray, List.set_cons_zero, List.set_cons_succ]
          refine wpAnyH_done (by kernel_rfl) ?_ _
          go_wp2_with fail
          go_meet
          exact st.fin jp on
        · obtain ⟨A16, c16, f4, wq, r9, st⟩ := st.ap ⟨a6, 0, none⟩ (h4.below st.hbl hB) hl4
          rw [if_pos (show Region.wanted _ _ = true by kernel_rfl)]
          refine Lib.wp_append_run_sl _ _ _ 63 rfl _ _ rfl rfl r9 ?_
          clear r9
          obtain ⟨wd, hwd⟩ : ∃ x, x = wq := ⟨_, rfl⟩
          subst hwd
          refine hK.out _ _ ?_ (fun hHeld => ?_)
          · exact ⟨st.Rb.cell 2, st.Rb.cell 3, st.Rb.cell 4⟩
          clear hK K
          try simp only [Act.put, List.setIfInBounds_toArray, List.set_cons_zero, List.set_cons_succ]
          refine reg_call2 (i := 1) (j := 11) (by kernel_rfl) rfl rfl (fun K hK => ?_) (fun K hK => ?_)
          · go_simp
            replace st := st.a1
            generalize wd.heap.size = b8 at st ⊢
            generalize wd.alloc (.cells #[] 72) = wd at st ⊢
            refine hK.out _ _ ?_ (fun hHeld => ?_)
            · exact ⟨st.Rb.cell 2, st.Rb.cell 3, st.Rb.cell 4⟩
            clear hK K
            try simp only [Act.put, List.setIfInBounds_toArray, List.set_cons_zero, List.set_cons_succ]
            refine reg_take (i := 10) (v := ?v12) rfl (by kernel_rfl) (by kernel_rfl) (by kernel_rfl) (fun _ _ _ h => h) (Or.inl ⟨by kernel_rfl, ?h12⟩) (by assumption) ?r12
            case h12 => (intro w hSw; (try dsimp only at hSw); go_simp; try with_reducible rfl)
            try simp only [Act.put, List.setIfInBounds_toArray, List.set_cons_zero, List.set_cons_succ]
            refine reg_call (i := 11) (by kernel_rfl) rfl (fun K hK => ?_)
            go_simp
            replace st := st.ag
            generalize wd.heap.size = gb at st ⊢
            generalize wd.alloc (.cells #[.slice none 0 0, .slice none 0 0, .int .i64 0, .int .i64 0, .slice none 0 0] 65) = wd at st ⊢
            refine hK.out _ _ ?_ (fun hHeld => ?_)
            · exact ⟨st.Rb.cell 2, st.Rb.cell 3, st.Rb.cell 4⟩
            clear hK K
            try simp only [Act.put, List.setIfInBounds_toArray, List.set_cons_zero, List.set_cons_succ]
            refine reg_call (i := 12) (by kernel_rfl) rfl (fun K hK => ?_)
            rw [if_pos (show Region.wanted _ _ = true by kernel_rfl)]
            refine wp_store_mid 65 _ _ rfl gb 0 #[.slice (some ⟨b7, 0, none⟩) 0 0, .slice (some ⟨b8, 0, none⟩) 0 0, .int .i64 jp, .int .i64 on, .slice A16 next.length c16] rfl rfl (row_there (st.hg gb (by simp)) 5 (by decide)) size_block (by simp [Value.oneCell']) ?_
            rw [set5_eq]
            have R5 := row_far5 st.Rb st.gne
            refine hK.out _ _ ?_ (fun hHeld => ?_)
            · exact ⟨(R5 _ _ _ _ _).cell 2, (R5 _ _ _ _ _).cell 3, (R5 _ _ _ _ _).cell 4⟩
            clear hK K
            try simp only [Act.put, List.setIfInBounds_toArray, List.set_cons_zero, List.set_cons_succ]
            refine wpAnyH_done (by kernel_rfl) ?_ _
            go_wp2_with fail
            go_meet
            exact st.fin jp on
          go_simp
          replace st := st.ag
          generalize wd.heap.size = gb at st ⊢
          generalize wd.alloc (.cells #[.slice none 0 0, .slice none 0 0, .int .i64 0, .int .i64 0, .slice none 0 0] 65) = wd at st ⊢
          refine hK.out _ _ ?_ (fun hHeld => ?_)
          · exact ⟨st.Rb.cell 2, st.Rb.cell 3, st.Rb.cell 4⟩
          clear hK K
          try simp only [Act.put, List.setIfInBounds_toArray, List.set_cons_zero, List.set_cons_succ]
          refine reg_call (i := 1) (by kernel_rfl) rfl (fun K hK => ?_)
          go_simp
          replace st := st.a1
          generalize wd.heap.size = b8 at st ⊢
          generalize wd.alloc (.cells #[] 72) = wd at st ⊢
          refine hK.out _ _ ?_ (fun hHeld => ?_)
          · exact ⟨st.Rb.cell 2, st.Rb.cell 3, st.Rb.cell 4⟩
          clear hK K
          try simp only [Act.put, List.setIfInBounds_toArray, List.set_cons_zero, List.set_cons_succ]
          refine reg_take (i := 10) (v := ?v13) rfl (by kernel_rfl) (by kernel_rfl) (by kernel_rfl) (fun _ _ _ h => h) (Or.inl ⟨by kernel_rfl, ?h13⟩) (by assumption) ?r13
          case h13 => (intro w hSw; (try dsimp only at hSw); go_simp; try with_reducible rfl)
          try simp only [Act.put, List.setIfInBounds_toArray, List.set_cons_zero, List.set_cons_succ]
          refine reg_call (i := 12) (by kernel_rfl) rfl (fun K hK => ?_)
          rw [if_pos (show Region.wanted _ _ = true by kernel_rfl)]
          refine wp_store_mid 65 _ _ rfl gb 0 #[.slice (some ⟨b7, 0, none⟩) 0 0, .slice (some ⟨b8, 0, none⟩) 0 0, .int .i64 jp, .int .i64 on, .slice A16 next.length c16] rfl rfl (row_there (st.hg gb (by simp)) 5 (by decide)) size_block (by simp [Value.oneCell']) ?_
          rw [set5_eq]
          have R5 := row_far5 st.Rb st.gne
          refine hK.out _ _ ?_ (fun hHeld => ?_)
          · exact ⟨(R5 _ _ _ _ _).cell 2, (R5 _ _ _ _ _).cell 3, (R5 _ _ _ _ _).cell 4⟩
          clear hK K
          try simp only [Act.put, List.setIfInBounds_toArray, List.set_cons_zero, List.set_cons_succ]
          refine wpAnyH_done (by kernel_rfl) ?_ _
          go_wp2_with fail
          go_meet
          exact st.fin jp on
        go_simp
        replace st := st.ag
        generalize wd.heap.size = gb at st ⊢
        generalize wd.alloc (.cells #[.slice none 0 0, .slice none 0 0, .int .i64 0, .int .i64 0, .slice none 0 0] 65) = wd at st ⊢
        refine hK.out _ _ ?_ (fun hHeld => ?_)
        · exact ⟨st.Rb.cell 2, st.Rb.cell 3, st.Rb.cell 4⟩
        clear hK K
        try simp only [Act.put, List.setIfInBounds_toArray, List.set_cons_zero, List.set_cons_succ]
        refine reg_call2 (i := 1) (j := 9) (by kernel_rfl) rfl rfl (fun K hK => ?_) (fun K hK => ?_)
        · go_simp
          replace st := st.a1
          generalize wd.heap.size = b8 at st ⊢
          generalize wd.alloc (.cells #[] 72) = wd at st ⊢
          refine hK.out _ _ ?_ (fun hHeld => ?_)
          · exact ⟨st.Rb.cell 2, st.Rb.cell 3, st.Rb.cell 4⟩
          clear hK K
          try simp only [Act.put, List.setIfInBounds_toArray, List.set_cons_zero, List.set_cons_succ]
          refine reg_call (i := 9) (by kernel_rfl) rfl (fun K hK => ?_)
          obtain ⟨A16, c16, f4, wq, r9, st⟩ := st.ap ⟨a6, 0, none⟩ (h4.below st.hbl hB) hl4
          rw [if_pos (show Region.wanted _ _ = true by kernel_rfl)]
          refine Lib.wp_append_run_sl _ _ _ 63 rfl _ _ rfl rfl r9 ?_
          clear r9
          obtain ⟨wd, hwd⟩ : ∃ x, x = wq := ⟨_, rfl⟩
          subst hwd
          refine hK.out _ _ ?_ (fun hHeld => ?_)
          · exact ⟨st.Rb.cell 2, st.Rb.cell 3, st.Rb.cell 4⟩
          clear hK K
          try simp only [Act.put, List.setIfInBounds_toArray, List.set_cons_zero, List.set_cons_succ]
          refine reg_take (i := 10) (v := ?v14) rfl (by kernel_rfl) (by kernel_rfl) (by kernel_rfl) (fun _ _ _ h => h) (Or.inl ⟨by kernel_rfl, ?h14⟩) (by assumption) ?r14
          case h14 => (intro w hSw; (try dsimp only at hSw); go_simp; try with_reducible rfl)
          try simp only [Act.put, List.setIfInBounds_toArray, List.set_cons_zero, List.set_cons_succ]
          refine reg_call (i := 12) (by kernel_rfl) rfl (fun K hK => ?_)
          rw [if_pos (show Region.wanted _ _ = true by kernel_rfl)]
          refine wp_store_mid 65 _ _ rfl gb 0 #[.slice (some ⟨b7, 0, none⟩) 0 0, .slice (some ⟨b8, 0, none⟩) 0 0, .int .i64 jp, .int .i64 on, .slice A16 next.length c16] rfl rfl (row_there (st.hg gb (by simp)) 5 (by decide)) size_block (by simp [Value.oneCell']) ?_
          rw [set5_eq]
          have R5 := row_far5 st.Rb st.gne
          refine hK.out _ _ ?_ (fun hHeld => ?_)
          · exact ⟨(R5 _ _ _ _ _).cell 2, (R5 _ _ _ _ _).cell 3, (R5 _ _ _ _ _).cell 4⟩
          clear hK K
          try simp only [Act.put, List.setIfInBounds_toArray, List.set_cons_zero, List.set_cons_succ]
          refine wpAnyH_done (by kernel_rfl) ?_ _
          go_wp2_with fail
          go_meet
          exact st.fin jp on
        obtain ⟨A16, c16, f4, wq, r9, st⟩ := st.ap ⟨a6, 0, none⟩ (h4.below st.hbl hB) hl4
        rw [if_pos (show Region.wanted _ _ = true by kernel_rfl)]
        refine Lib.wp_append_run_sl _ _ _ 63 rfl _ _ rfl rfl r9 ?_
        clear r9
        obtain ⟨wd, hwd⟩ : ∃ x, x = wq := ⟨_, rfl⟩
        subst hwd
        refine hK.out _ _ ?_ (fun hHeld => ?_)
        · exact ⟨st.Rb.cell 2, st.Rb.cell 3, st.Rb.cell 4⟩
        clear hK K
        try simp only [Act.put, List.setIfInBounds_toArray, List.set_cons_zero, List.set_cons_succ]
        refine reg_call (i := 1) (by kernel_rfl) rfl (fun K hK => ?_)
        go_simp
        replace st := st.a1
        generalize wd.heap.size = b8 at st ⊢
        generalize wd.alloc (.cells #[] 72) = wd at st ⊢
        refine hK.out _ _ ?_ (fun hHeld => ?_)
        · exact ⟨st.Rb.cell 2, st.Rb.cell 3, st.Rb.cell 4⟩
        clear hK K
        try simp only [Act.put, List.setIfInBounds_toArray, List.set_cons_zero, List.set_cons_succ]
        refine reg_take (i := 10) (v := ?v15) rfl (by kernel_rfl) (by kernel_rfl) (by kernel_rfl) (fun _ _ _ h => h) (Or.inl ⟨by kernel_rfl, ?h15⟩) (by assumption) ?r15
        case h15 => (intro w hSw; (try dsimp only at hSw); go_simp; try with_reducible rfl)
        try simp only [Act.put, List.setIfInBounds_toArray, List.set_cons_zero, List.set_cons_succ]
        refine reg_call (i := 12) (by kernel_rfl) rfl (fun K hK => ?_)
        rw [if_pos (show Region.wanted _ _ = true by kernel_rfl)]
        refine wp_store_mid 65 _ _ rfl gb 0 #[.slice (some ⟨b7, 0, none⟩) 0 0, .slice (some ⟨b8, 0, none⟩) 0 0, .int .i64 jp, .int .i64 on, .slice A16 next.length c16] rfl rfl (row_there (st.hg gb (by simp)) 5 (by decide)) size_block (by simp [Value.oneCell']) ?_
        rw [set5_eq]
        have R5 := row_far5 st.Rb st.gne
        refine hK.out _ _ ?_ (fun hHeld => ?_)
        · exact ⟨(R5 _ _ _ _ _).cell 2, (R5 _ _ _ _ _).cell 3, (R5 _ _ _ _ _).cell 4⟩
        clear hK K
        try simp only [Act.put, List.setIfInBounds_toArray, List.set_cons_zero, List.set_cons_succ]
        refine wpAnyH_done (by kernel_rfl) ?_ _
        go_wp2_with fail
        go_meet
        exact st.fin jp on
      go_simp
      replace st := st.ag
      generalize wd.heap.size = gb at st ⊢
      generalize wd.alloc (.cells #[.slice none 0 0, .slice none 0 0, .int .i64 0, .int .i64 0, .slice none 0 0] 65) = wd at st ⊢
      refine hK.out _ _ ?_ (fun hHeld => ?_)
      · exact ⟨st.Rb.cell 2, st.Rb.cell 3, st.Rb.cell 4⟩
      clear hK K
      try simp only [Act.put, List.setIfInBounds_toArray, List.set_cons_zero, List.set_cons_succ]
      refine reg_call2 (i := 1) (j := 6) (by kernel_rfl) rfl rfl (fun K hK => ?_) (fun K hK => ?_)
      · go_simp
        replace st := st.a1
        generalize wd.heap.size = b8 at st ⊢
        generalize wd.alloc (.cells #[] 72) = wd at st ⊢
        refine hK.out _ _ ?_ (fun hHeld => ?_)
        · exact ⟨st.Rb.cell 2, st.Rb.cell 3, st.Rb.cell 4⟩
        clear hK K
        try simp only [Act.put, List.setIfInBounds_toArray, List.set_cons_zero, List.set_cons_succ]
        refine reg_call (i := 6) (by kernel_rfl) rfl (fun K hK => ?_)
        go_simp
        replace st := st.al (.cells #[] 3)
        generalize wd.heap.size = a6 at ⊢
        generalize wd.alloc (.cells #[] 3) = wd at st ⊢
        refine hK.out _ _ ?_ (fun hHeld => ?_)
        · exact ⟨st.Rb.cell 2, st.Rb.cell 3, st.Rb.cell 4⟩
        clear hK K
        try simp only [Act.put, List.setIfInBounds_toArray, List.set_cons_zero, List.set_cons_succ]
        refine reg_call (i := 9) (by kernel_rfl) rfl (fun K hK => ?_)
        obtain ⟨A16, c16, f4, wq, r9, st⟩ := st.ap ⟨a6, 0, none⟩ (h4.below st.hbl hB) hl4
        rw [if_pos (show Region.wanted _ _ = true by kernel_rfl)]
        refine Lib.wp_append_run_sl _ _ _ 63 rfl _ _ rfl rfl r9 ?_
        clear r9
        obtain ⟨wd, hwd⟩ : ∃ x, x = wq := ⟨_, rfl⟩
        subst hwd
        refine hK.out _ _ ?_ (fun hHeld => ?_)
        · exact ⟨st.Rb.cell 2, st.Rb.cell 3, st.Rb.cell 4⟩
        clear hK K
        try simp only [Act.put, List.setIfInBounds_toArray, List.set_cons_zero, List.set_cons_succ]
        refine reg_take (i := 10) (v := ?v16) rfl (by kernel_rfl) (by kernel_rfl) (by kernel_rfl) (fun _ _ _ h => h) (Or.inl ⟨by kernel_rfl, ?h16⟩) (by assumption) ?r16
        case h16 => (intro w hSw; (try dsimp only at hSw); go_simp; try with_reducible rfl)
        try simp only [Act.put, List.setIfInBounds_toArray, List.set_cons_zero, List.set_cons_succ]
        refine reg_call (i := 12) (by kernel_rfl) rfl (fun K hK => ?_)
        rw [if_pos (show Region.wanted _ _ = true by kernel_rfl)]
        refine wp_store_mid 65 _ _ rfl gb 0 #[.slice (some ⟨b7, 0, none⟩) 0 0, .slice (some ⟨b8, 0, none⟩) 0 0, .int .i64 jp, .int .i64 on, .slice A16 next.length c16] rfl rfl (row_there (st.hg gb (by simp)) 5 (by decide)) size_block (by simp [Value.oneCell']) ?_
        rw [set5_eq]
        have R5 := row_far5 st.Rb st.gne
        refine hK.out _ _ ?_ (fun hHeld => ?_)
        · exact ⟨(R5 _ _ _ _ _).cell 2, (R5 _ _ _ _ _).cell 3, (R5 _ _ _ _ _).cell 4⟩
        clear hK K
        try simp only [Act.put, List.setIfInBounds_toArray, List.set_cons_zero, List.set_cons_succ]
        refine wpAnyH_done (by kernel_rfl) ?_ _
        go_wp2_with fail
        go_meet
        exact st.fin jp on
      go_simp
      replace st := st.al (.cells #[] 3)
      generalize wd.heap.size = a6 at ⊢
      generalize wd.alloc (.cells #[] 3) = wd at st ⊢
      refine hK.out _ _ ?_ (fun hHeld => ?_)
      · exact ⟨st.Rb.cell 2, st.Rb.cell 3, st.Rb.cell 4⟩
      clear hK K
      try simp only [Act.put, List.setIfInBounds_toArray, List.set_cons_zero, List.set_cons_succ]
      refine reg_call2 (i := 1) (j := 9) (by kernel_rfl) rfl rfl (fun K hK => ?_) (fun K hK => ?_)
      · go_simp
        replace st := st.a1
        generalize wd.heap.size = b8 at st ⊢
        generalize wd.alloc (.cells #[] 72) = wd at st ⊢
        refine hK.out _ _ ?_ (fun hHeld => ?_)
        · exact ⟨st.Rb.cell 2, st.Rb.cell 3, st.Rb.cell 4⟩
        clear hK K
        try simp only [Act.put, List.setIfInBounds_toArray, List.set_cons_zero, List.set_cons_succ]
        refine reg_call (i := 9) (by kernel_rfl) rfl (fun K hK => ?_)
        obtain ⟨A16, c16, f4, wq, r9, st⟩ := st.ap ⟨a6, 0, none⟩ (h4.below st.hbl hB) hl4
        rw [if_pos (show Region.wanted _ _ = true by kernel_rfl)]
        refine Lib.wp_append_run_sl _ _ _ 63 rfl _ _ rfl rfl r9 ?_
        clear r9
        obtain ⟨wd, hwd⟩ : ∃ x, x = wq := ⟨_, rfl⟩
        subst hwd
        refine hK.out _ _ ?_ (fun hHeld => ?_)
        · exact ⟨st.Rb.cell 2, st.Rb.cell 3, st.Rb.cell 4⟩
        clear hK K
        try simp only [Act.put, List.setIfInBounds_toArray, List.set_cons_zero, List.set_cons_succ]
        refine reg_take (i := 10) (v := ?v17) rfl (by kernel_rfl) (by kernel_rfl) (by kernel_rfl) (fun _ _ _ h => h) (Or.inl ⟨by kernel_rfl, ?h17⟩) (by assumption) ?r17
        case h17 => (intro w hSw; (try dsimp only at hSw); go_simp; try with_reducible rfl)
        try simp only [Act.put, List.setIfInBounds_toArray, List.set_cons_zero, List.set_cons_succ]
        refine reg_call (i := 12) (by kernel_rfl) rfl (fun K hK => ?_)
        rw [if_pos (show Region.wanted _ _ = true by kernel_rfl)]
        refine wp_store_mid 65 _ _ rfl gb 0 #[.slice (some ⟨b7, 0, none⟩) 0 0, .slice (some ⟨b8, 0, none⟩) 0 0, .int .i64 jp, .int .i64 on, .slice A16 next.length c16] rfl rfl (row_there (st.hg gb (by simp)) 5 (by decide)) size_block (by simp [Value.oneCell']) ?_
        rw [set5_eq]
        have R5 := row_far5 st.Rb st.gne
        refine hK.out _ _ ?_ (fun hHeld => ?_)
        · exact ⟨(R5 _ _ _ _ _).cell 2, (R5 _ _ _ _ _).cell 3, (R5 _ _ _ _ _).cell 4⟩
        clear hK K
        try simp only [Act.put, List.setIfInBounds_toArray, List.set_cons_zero, List.set_cons_succ]
        refine wpAnyH_done (by kernel_rfl) ?_ _
        go_wp2_with fail
        go_meet
        exact st.fin jp on
      obtain ⟨A16, c16, f4, wq, r9, st⟩ := st.ap ⟨a6, 0, none⟩ (h4.below st.hbl hB) hl4
      rw [if_pos (show Region.wanted _ _ = true by kernel_rfl)]
      refine Lib.wp_append_run_sl _ _ _ 63 rfl _ _ rfl rfl r9 ?_
      clear r9
      obtain ⟨wd, hwd⟩ : ∃ x, x = wq := ⟨_, rfl⟩
      subst hwd
      refine hK.out _ _ ?_ (fun hHeld => ?_)
      · exact ⟨st.Rb.cell 2, st.Rb.cell 3, st.Rb.cell 4⟩
      clear hK K
      try simp only [Act.put, List.setIfInBounds_toArray, List.set_cons_zero, List.set_cons_succ]
      refine reg_call (i := 1) (by kernel_rfl) rfl (fun K hK => ?_)
      go_simp
      replace st := st.a1
      generalize wd.heap.size = b8 at st ⊢
      generalize wd.alloc (.cells #[] 72) = wd at st ⊢
      refine hK.out _ _ ?_ (fun hHeld => ?_)
      · exact ⟨st.Rb.cell 2, st.Rb.cell 3, st.Rb.cell 4⟩
      clear hK K
      try simp only [Act.put, List.setIfInBounds_toArray, List.set_cons_zero, List.set_cons_succ]
      refine reg_take (i := 10) (v := ?v18) rfl (by kernel_rfl) (by kernel_rfl) (by kernel_rfl) (fun _ _ _ h => h) (Or.inl ⟨by kernel_rfl, ?h18⟩) (by assumption) ?r18
      case h18 => (intro w hSw; (try dsimp only at hSw); go_simp; try with_reducible rfl)
      try simp only [Act.put, List.setIfInBounds_toArray, List.set_cons_zero, List.set_cons_succ]
      refine reg_call (i := 12) (by kernel_rfl) rfl (fun K hK => ?_)
      rw [if_pos (show Region.wanted _ _ = true by kernel_rfl)]
      refine wp_store_mid 65 _ _ rfl gb 0 #[.slice (some ⟨b7, 0, none⟩) 0 0, .slice (some ⟨b8, 0, none⟩) 0 0, .int .i64 jp, .int .i64 on, .slice A16 next.length c16] rfl rfl (row_there (st.hg gb (by simp)) 5 (by decide)) size_block (by simp [Value.oneCell']) ?_
      rw [set5_eq]
      have R5 := row_far5 st.Rb st.gne
      refine hK.out _ _ ?_ (fun hHeld => ?_)
      · exact ⟨(R5 _ _ _ _ _).cell 2, (R5 _ _ _ _ _).cell 3, (R5 _ _ _ _ _).cell 4⟩
      clear hK K
      try simp only [Act.put, List.setIfInBounds_toArray, List.set_cons_zero, List.set_cons_succ]
      refine wpAnyH_done (by kernel_rfl) ?_ _
      go_wp2_with fail
      go_meet
      exact st.fin jp on
    · go_simp
      replace st := st.a1
      generalize wd.heap.size = b8 at st ⊢
      generalize wd.alloc (.cells #[] 72) = wd at st ⊢
      refine hK.out _ _ ?_ (fun hHeld => ?_)
      · exact ⟨st.Rb.cell 2, st.Rb.cell 3, st.Rb.cell 4⟩
      clear hK K
      try simp only [Act.put, List.setIfInBounds_toArray, List.set_cons_zero, List.set_cons_succ]
      refine reg_call3 (i := 0) (j := 6) (k := 11) (by kernel_rfl) rfl rfl rfl (fun K hK => ?_) (fun K hK => ?_) (fun K hK => ?_)
      · go_simp
        replace st := st.a0
        generalize wd.heap.size = b7 at st ⊢
        generalize wd.alloc (.cells #[] 69) = wd at st ⊢
        refine hK.out _ _ ?_ (fun hHeld => ?_)
        · exact ⟨st.Rb.cell 2, st.Rb.cell 3, st.Rb.cell 4⟩
        clear hK K
        try simp only [Act.put, List.setIfInBounds_toArray, List.set_cons_zero, List.set_cons_succ]
        refine reg_call2 (i := 6) (j := 11) (by kernel_rfl) rfl rfl (fun K hK => ?_) (fun K hK => ?_)
        · go_simp
          replace st := st.al (.cells #[] 3)
          generalize wd.heap.size = a6 at ⊢
          generalize wd.alloc (.cells #[] 3) = wd at st ⊢
          refine hK.out _ _ ?_ (fun hHeld => ?_)
          · exact ⟨st.Rb.cell 2, st.Rb.cell 3, st.Rb.cell 4⟩
          clear hK K
          try simp only [Act.put, List.setIfInBounds_toArray, List.set_cons_zero, List.set_cons_succ]
          refine reg_call2 (i := 9) (j := 11) (by kernel_rfl) rfl rfl (fun K hK => ?_) (fun K hK => ?_)
          · obtain ⟨A16, c16, f4, wq, r9, st⟩ := st.ap ⟨a6, 0, none⟩ (h4.below st.hbl hB) hl4
            rw [if_pos (show Region.wanted _ _ = true by kernel_rfl)]
            refine Lib.wp_append_run_sl _ _ _ 63 rfl _ _ rfl rfl r9 ?_
            clear r9
            obtain ⟨wd, hwd⟩ : ∃ x, x = wq := ⟨_, rfl⟩
            subst hwd
            refine hK.out _ _ ?_ (fun hHeld => ?_)
            · exact ⟨st.Rb.cell 2, st.Rb.cell 3, st.Rb.cell 4⟩
            clear hK K
            try simp only [Act.put, List.setIfInBounds_toArray, List.set_cons_zero, List.set_cons_succ]
            refine reg_take (i := 10) (v := ?v19) rfl (by kernel_rfl) (by kernel_rfl) (by kernel_rfl) (fun _ _ _ h => h) (Or.inl ⟨by kernel_rfl, ?h19⟩) (by assumption) ?r19
            case h19 => (intro w hSw; (try dsimp only at hSw); go_simp; try with_reducible rfl)
            try simp only [Act.put, List.setIfInBounds_toArray, List.set_cons_zero, List.set_cons_succ]
            refine reg_call (i := 11) (by kernel_rfl) rfl (fun K hK => ?_)
            go_simp
            replace st := st.ag
            generalize wd.heap.size = gb at st ⊢
            generalize wd.alloc (.cells #[.slice none 0 0, .slice none 0 0, .int .i64 0, .int .i64 0, .slice none 0 0] 65) = wd at st ⊢
            refine hK.out _ _ ?_ (fun hHeld => ?_)
            · exact ⟨st.Rb.cell 2, st.Rb.cell 3, st.Rb.cell 4⟩
            clear hK K
            try simp only [Act.put, List.setIfInBounds_toArray, List.set_cons_zero, List.set_cons_succ]
            refine reg_call (i := 12) (by kernel_rfl) rfl (fun K hK => ?_)
            rw [if_pos (show Region.wanted _ _ = true by kernel_rfl)]
            refine wp_store_mid 65 _ _ rfl gb 0 #[.slice (some ⟨b7, 0, none⟩) 0 0, .slice (some ⟨b8, 0, none⟩) 0 0, .int .i64 jp, .int .i64 on, .slice A16 next.length c16] rfl rfl (row_there (st.hg gb (by simp)) 5 (by decide)) size_block (by simp [Value.oneCell']) ?_
            rw [set5_eq]
            have R5 := row_far5 st.Rb st.gne
            refine hK.out _ _ ?_ (fun hHeld => ?_)
            · exact ⟨(R5 _ _ _ _ _).cell 2, (R5 _ _ _ _ _).cell 3, (R5 _ _ _ _ _).cell 4⟩
            clear hK K
            try simp only [Act.put, List.setIfInBounds_toArray, List.set_cons_zero, List.set_cons_succ]
            refine wpAnyH_done (by kernel_rfl) ?_ _
            go_wp2_with fail
            go_meet
            exact st.fin jp on
          go_simp
          replace st := st.ag
          generalize wd.heap.size = gb at st ⊢
          generalize wd.alloc (.cells #[.slice none 0 0, .slice none 0 0, .int .i64 0, .int .i64 0, .slice none 0 0] 65) = wd at st ⊢
          refine hK.out _ _ ?_ (fun hHeld => ?_)
          · exact ⟨st.Rb.cell 2, st.Rb.cell 3, st.Rb.cell 4⟩
          clear hK K
          try simp only [Act.put, List.setIfInBounds_toArray, List.set_cons_zero, List.set_cons_succ]
          refine reg_call (i := 9) (by kernel_rfl) rfl (fun K hK => ?_)
          obtain ⟨A16, c16, f4, wq, r9, st⟩ := st.ap ⟨a6, 0, none⟩ (h4.below st.hbl hB) hl4
          rw [if_pos (show Region.wanted _ _ = true by kernel_rfl)]
          refine Lib.wp_append_run_sl _ _ _ 63 rfl _ _ rfl rfl r9 ?_
          clear r9
          obtain ⟨wd, hwd⟩ : ∃ x, x = wq := ⟨_, rfl⟩
          subst hwd
          refine hK.out _ _ ?_ (fun hHeld => ?_)
          · exact ⟨st.Rb.cell 2, st.Rb.cell 3, st.Rb.cell 4⟩
          clear hK K
          try simp only [Act.put, List.setIfInBounds_toArray, List.set_cons_zero, List.set_cons_succ]
          refine reg_take (i := 10) (v := ?v20) rfl (by kernel_rfl) (by kernel_rfl) (by kernel_rfl) (fun _ _ _ h => h) (Or.inl ⟨by kernel_rfl, ?h20⟩) (by assumption) ?r20
          case h20 => (intro w hSw; (try dsimp only at hSw); go_simp; try with_reducible rfl)
          try simp only [Act.put, List.setIfInBounds_toArray, List.set_cons_zero, List.set_cons_succ]
          refine reg_call (i := 12) (by kernel_rfl) rfl (fun K hK => ?_)
          rw [if_pos (show Region.wanted _ _ = true by kernel_rfl)]
          refine wp_store_mid 65 _ _ rfl gb 0 #[.slice (some ⟨b7, 0, none⟩) 0 0, .slice (some ⟨b8, 0, none⟩) 0 0, .int .i64 jp, .int .i64 on, .slice A16 next.length c16] rfl rfl (row_there (st.hg gb (by simp)) 5 (by decide)) size_block (by simp [Value.oneCell']) ?_
          rw [set5_eq]
          have R5 := row_far5 st.Rb st.gne
          refine hK.out _ _ ?_ (fun hHeld => ?_)
          · exact ⟨(R5 _ _ _ _ _).cell 2, (R5 _ _ _ _ _).cell 3, (R5 _ _ _ _ _).cell 4⟩
          clear hK K
          try simp only [Act.put, List.setIfInBounds_toArray, List.set_cons_zero, List.set_cons_succ]
          refine wpAnyH_done (by kernel_rfl) ?_ _
          go_wp2_with fail
          go_meet
          exact st.fin jp on
        go_simp
        replace st := st.ag
        generalize wd.heap.size = gb at st ⊢
        generalize wd.alloc (.cells #[.slice none 0 0, .slice none 0 0, .int .i64 0, .int .i64 0, .slice none 0 0] 65) = wd at st ⊢
        refine hK.out _ _ ?_ (fun hHeld => ?_)
        · exact ⟨st.Rb.cell 2, st.Rb.cell 3, st.Rb.cell 4⟩
        clear hK K
        try simp only [Act.put, List.setIfInBounds_toArray, List.set_cons_zero, List.set_cons_succ]
        refine reg_call (i := 6) (by kernel_rfl) rfl (fun K hK => ?_)
        go_simp
        replace st := st.al (.cells #[] 3)
        generalize wd.heap.size = a6 at ⊢
        generalize wd.alloc (.cells #[] 3) = wd at st ⊢
        refine hK.out _ _ ?_ (fun hHeld => ?_)
        · exact ⟨st.Rb.cell 2, st.Rb.cell 3, st.Rb.cell 4⟩
        clear hK K
        try simp only [Act.put, List.setIfInBounds_toArray, List.set_cons_zero, List.set_cons_succ]
        refine reg_call (i := 9) (by kernel_rfl) rfl (fun K hK => ?_)
        obtain ⟨A16, c16, f4, wq, r9, st⟩ := st.ap ⟨a6, 0, none⟩ (h4.below st.hbl hB) hl4
        rw [if_pos (show Region.wanted _ _ = true by kernel_rfl)]
        refine Lib.wp_append_run_sl _ _ _ 63 rfl _ _ rfl rfl r9 ?_
        clear r9
        obtain ⟨wd, hwd⟩ : ∃ x, x = wq := ⟨_, rfl⟩
        subst hwd
        refine hK.out _ _ ?_ (fun hHeld => ?_)
        · exact ⟨st.Rb.cell 2, st.Rb.cell 3, st.Rb.cell 4⟩
        clear hK K
        try simp only [Act.put, List.setIfInBounds_toArray, List.set_cons_zero, List.set_cons_succ]
        refine reg_take (i := 10) (v := ?v21) rfl (by kernel_rfl) (by kernel_rfl) (by kernel_rfl) (fun _ _ _ h => h) (Or.inl ⟨by kernel_rfl, ?h21⟩) (by assumption) ?r21
        case h21 => (intro w hSw; (try dsimp only at hSw); go_simp; try with_reducible rfl)
        try simp only [Act.put, List.setIfInBounds_toArray, List.set_cons_zero, List.set_cons_succ]
        refine reg_call (i := 12) (by kernel_rfl) rfl (fun K hK => ?_)
        rw [if_pos (show Region.wanted _ _ = true by kernel_rfl)]
        refine wp_store_mid 65 _ _ rfl gb 0 #[.slice (some ⟨b7, 0, none⟩) 0 0, .slice (some ⟨b8, 0, none⟩) 0 0, .int .i64 jp, .int .i64 on, .slice A16 next.length c16] rfl rfl (row_there (st.hg gb (by simp)) 5 (by decide)) size_block (by simp [Value.oneCell']) ?_
        rw [set5_eq]
        have R5 := row_far5 st.Rb st.gne
        refine hK.out _ _ ?_ (fun hHeld => ?_)
        · exact ⟨(R5 _ _ _ _ _).cell 2, (R5 _ _ _ _ _).cell 3, (R5 _ _ _ _ _).cell 4⟩
        clear hK K
        try simp only [Act.put, List.setIfInBounds_toArray, List.set_cons_zero, List.set_cons_succ]
        refine wpAnyH_done (by kernel_rfl) ?_ _
        go_wp2_with fail
        go_meet
        exact st.fin jp on
      · go_simp
        replace st := st.al (.cells #[] 3)
        generalize wd.heap.size = a6 at ⊢
        generalize wd.alloc (.cells #[] 3) = wd at st ⊢
        refine hK.out _ _ ?_ (fun hHeld => ?_)
        · exact ⟨st.Rb.cell 2, st.Rb.cell 3, st.Rb.cell 4⟩
        clear hK K
        try simp only [Act.put, List.setIfInBounds_toArray, List.set_cons_zero, List.set_cons_succ]
        refine reg_call3 (i := 0) (j := 9) (k := 11) (by kernel_rfl) rfl rfl rfl (fun K hK => ?_) (fun K hK => ?_) (fun K hK => ?_)
        · go_simp
          replace st := st.a0
          generalize wd.heap.size = b7 at st ⊢
          generalize wd.alloc (.cells #[] 69) = wd at st ⊢
          refine hK.out _ _ ?_ (fun hHeld => ?_)
          · exact ⟨st.Rb.cell 2, st.Rb.cell 3, st.Rb.cell 4⟩
          clear hK K
          try simp only [Act.put, List.setIfInBounds_toArray, List.set_cons_zero, List.set_cons_succ]
          refine reg_call2 (i := 9) (j := 11) (by kernel_rfl) rfl rfl (fun K hK => ?_) (fun K hK => ?_)
          · obtain ⟨A16, c16, f4, wq, r9, st⟩ := st.ap ⟨a6, 0, none⟩ (h4.below st.hbl hB) hl4
            rw [if_pos (show Region.wanted _ _ = true by kernel_rfl)]
            refine Lib.wp_append_run_sl _ _ _ 63 rfl _ _ rfl rfl r9 ?_
            clear r9
            obtain ⟨wd, hwd⟩ : ∃ x, x = wq := ⟨_, rfl⟩
            subst hwd
            refine hK.out _ _ ?_ (fun hHeld => ?_)
            · exact ⟨st.Rb.cell 2, st.Rb.cell 3, st.Rb.cell 4⟩
            clear hK K
            try simp only [Act.put, List.setIfInBounds_toArray, List.set_cons_zero, List.set_cons_succ]
            refine reg_take (i := 10) (v := ?v22) rfl (by kernel_rfl) (by kernel_rfl) (by kernel_rfl) (fun _ _ _ h => h) (Or.inl ⟨by kernel_rfl, ?h22⟩) (by assumption) ?r22
            case h22 => (intro w hSw; (try dsimp only at hSw); go_simp; try with_reducible rfl)
            try simp only [Act.put, List.setIfInBounds_toArray, List.set_cons_zero, List.set_cons_succ]
            refine reg_call (i := 11) (by kernel_rfl) rfl (fun K hK => ?_)
            go_simp
            replace st := st.ag
            generalize wd.heap.size = gb at st ⊢
            generalize wd.alloc (.cells #[.slice none 0 0, .slice none 0 0, .int .i64 0, .int .i64 0, .slice none 0 0] 65) = wd at st ⊢
            refine hK.out _ _ ?_ (fun hHeld => ?_)
            · exact ⟨st.Rb.cell 2, st.Rb.cell 3, st.Rb.cell 4⟩
            clear hK K
            try simp only [Act.put, List.setIfInBounds_toArray, List.set_cons_zero, List.set_cons_succ]
            refine reg_call (i := 12) (by kernel_rfl) rfl (fun K hK => ?_)
            rw [if_pos (show Region.wanted _ _ = true by kernel_rfl)]
            refine wp_store_mid 65 _ _ rfl gb 0 #[.slice (some ⟨b7, 0, none⟩) 0 0, .slice (some ⟨b8, 0, none⟩) 0 0, .int .i64 jp, .int .i64 on, .slice A16 next.length c16] rfl rfl (row_there (st.hg gb (by simp)) 5 (by decide)) size_block (by simp [Value.oneCell']) ?_
            rw [set5_eq]
            have R5 := row_far5 st.Rb st.gne
            refine hK.out _ _ ?_ (fun hHeld => ?_)
            · exact ⟨(R5 _ _ _ _ _).cell 2, (R5 _ _ _ _ _).cell 3, (R5 _ _ _ _ _).cell 4⟩
            clear hK K
            try simp only [Act.put, List.setIfInBounds_toArray, List.set_cons_zero, List.set_cons_succ]
            refine wpAnyH_done (by kernel_rfl) ?_ _
            go_wp2_with fail
            go_meet
            exact st.fin jp on
          go_simp
          replace st := st.ag
          generalize wd.heap.size = gb at st ⊢
          generalize wd.alloc (.cells #[.slice none 0 0, .slice none 0 0, .int .i64 0, .int .i64 0, .slice none 0 0] 65) = wd at st ⊢
          refine hK.out _ _ ?_ (fun hHeld => ?_)
          · exact ⟨st.Rb.cell 2, st.Rb.cell 3, st.Rb.cell 4⟩
          clear hK K
          try simp only [Act.put, List.setIfInBounds_toArray, List.set_cons_zero, List.set_cons_succ]
          refine reg_call (i := 9) (by kernel_rfl) rfl (fun K hK => ?_)
          obtain ⟨A16, c16, f4, wq, r9, st⟩ := st.ap ⟨a6, 0, none⟩ (h4.below st.hbl hB) hl4
          rw [if_pos (show Region.wanted _ _ = true by kernel_rfl)]
          refine Lib.wp_append_run_sl _ _ _ 63 rfl _ _ rfl rfl r9 ?_
          clear r9
          obtain ⟨wd, hwd⟩ : ∃ x, x = wq := ⟨_, rfl⟩
          subst hwd
          refine hK.out _ _ ?_ (fun hHeld => ?_)
          · exact ⟨st.Rb.cell 2, st.Rb.cell 3, st.Rb.cell 4⟩
          clear hK K
          try simp only [Act.put, List.setIfInBounds_toArray, List.set_cons_zero, List.set_cons_succ]
          refine reg_take (i := 10) (v := ?v23) rfl (by kernel_rfl) (by kernel_rfl) (by kernel_rfl) (fun _ _ _ h => h) (Or.inl ⟨by kernel_rfl, ?h23⟩) (by assumption) ?r23
          case h23 => (intro w hSw; (try dsimp only at hSw); go_simp; try with_reducible rfl)
          try simp only [Act.put, List.setIfInBounds_toArray, List.set_cons_zero, List.set_cons_succ]
          refine reg_call (i := 12) (by kernel_rfl) rfl (fun K hK => ?_)
          rw [if_pos (show Region.wanted _ _ = true by kernel_rfl)]
          refine wp_store_mid 65 _ _ rfl gb 0 #[.slice (some ⟨b7, 0, none⟩) 0 0, .slice (some ⟨b8, 0, none⟩) 0 0, .int .i64 jp, .int .i64 on, .slice A16 next.length c16] rfl rfl (row_there (st.hg gb (by simp)) 5 (by decide)) size_block (by simp [Value.oneCell']) ?_
          rw [set5_eq]
          have R5 := row_far5 st.Rb st.gne
          refine hK.out _ _ ?_ (fun hHeld => ?_)
          · exact ⟨(R5 _ _ _ _ _).cell 2, (R5 _ _ _ _ _).cell 3, (R5 _ _ _ _ _).cell 4⟩
          clear hK K
          try simp only [Act.put, List.setIfInBounds_toArray, List.set_cons_zero, List.set_cons_succ]
          refine wpAnyH_done (by kernel_rfl) ?_ _
          go_wp2_with fail
          go_meet
          exact st.fin jp on
        · obtain ⟨A16, c16, f4, wq, r9, st⟩ := st.ap ⟨a6, 0, none⟩ (h4.below st.hbl hB) hl4
          rw [if_pos (show Region.wanted _ _ = true by kernel_rfl)]
          refine Lib.wp_append_run_sl _ _ _ 63 rfl _ _ rfl rfl r9 ?_
          clear r9
          obtain ⟨wd, hwd⟩ : ∃ x, x = wq := ⟨_, rfl⟩
          subst hwd
          refine hK.out _ _ ?_ (fun hHeld => ?_)
          · exact ⟨st.Rb.cell 2, st.Rb.cell 3, st.Rb.cell 4⟩
          clear hK K
          try simp only [Act.put, List.setIfInBounds_toArray, List.set_cons_zero, List.set_cons_succ]
          refine reg_call2 (i := 0) (j := 11) (by kernel_rfl) rfl rfl (fun K hK => ?_) (fun K hK => ?_)
          · go_simp
            replace st := st.a0
            generalize wd.heap.size = b7 at st ⊢
            generalize wd.alloc (.cells #[] 69) = wd at st ⊢
            refine hK.out _ _ ?_ (fun hHeld => ?_)
            · exact ⟨st.Rb.cell 2, st.Rb.cell 3, st.Rb.cell 4⟩
            clear hK K
            try simp only [Act.put, List.setIfInBounds_toArray, List.set_cons_zero, List.set_cons_succ]
            refine reg_take (i := 10) (v := ?v24) rfl (by kernel_rfl) (by kernel_rfl) (by kernel_rfl) (fun _ _ _ h => h) (Or.inl ⟨by kernel_rfl, ?h24⟩) (by assumption) ?r24
            case h24 => (intro w hSw; (try dsimp only at hSw); go_simp; try with_reducible rfl)
            try simp only [Act.put, List.setIfInBounds_toArray, List.set_cons_zero, List.set_cons_succ]
            refine reg_call (i := 11) (by kernel_rfl) rfl (fun K hK => ?_)
            go_simp
            replace st := st.ag
            generalize wd.heap.size = gb at st ⊢
            generalize wd.alloc (.cells #[.slice none 0 0, .slice none 0 0, .int .i64 0, .int .i64 0, .slice none 0 0] 65) = wd at st ⊢
            refine hK.out _ _ ?_ (fun hHeld => ?_)
            · exact ⟨st.Rb.cell 2, st.Rb.cell 3, st.Rb.cell 4⟩
            clear hK K
            try simp only [Act.put, List.setIfInBounds_toArray, List.set_cons_zero, List.set_cons_succ]
            refine reg_call (i := 12) (by kernel_rfl) rfl (fun K hK => ?_)
            rw [if_pos (show Region.wanted _ _ = true by kernel_rfl)]
            refine wp_store_mid 65 _ _ rfl gb 0 #[.slice (some ⟨b7, 0, none⟩) 0 0, .slice (some ⟨b8, 0, none⟩) 0 0, .int .i64 jp, .int .i64 on, .slice A16 next.length c16] rfl rfl (row_there (st.hg gb (by simp)) 5 (by decide)) size_block (by simp [Value.oneCell']) ?_
            rw [set5_eq]
            have R5 := row_far5 st.Rb st.gne
            refine hK.out _ _ ?_ (fun hHeld => ?_)
            · exact ⟨(R5 _ _ _ _ _).cell 2, (R5 _ _ _ _ _).cell 3, (R5 _ _ _ _ _).cell 4⟩
            clear hK K
            try simp only [Act.put, List.setIfInBounds_toArray, List.set_cons_zero, List.set_cons_succ]
            refine wpAnyH_done (by kernel_rfl) ?_ _
            go_wp2_with fail
            go_meet
            exact st.fin jp on
          go_simp
          replace st := st.ag
          generalize wd.heap.size = gb at st ⊢
          generalize wd.alloc (.cells #[.slice none 0 0, .slice none 0 0, .int .i64 0, .int .i64 0, .slice none 0 0] 65) = wd at st ⊢
          refine hK.out _ _ ?_ (fun hHeld => ?_)
          · exact ⟨st.Rb.cell 2, st.Rb.cell 3, st.Rb.cell 4⟩
          clear hK K
          try simp only [Act.put, List.setIfInBounds_toArray, List.set_cons_zero, List.set_cons_succ]
          refine reg_call (i := 0) (by kernel_rfl) rfl (fun K hK => ?_)
          go_simp
          replace st := st.a0
          generalize wd.heap.size = b7 at st ⊢
          generalize wd.alloc (.cells #[] 69) = wd at st ⊢
          refine hK.out _ _ ?_ (fun hHeld => ?_)
          · exact ⟨st.Rb.cell 2, st.Rb.cell 3, st.Rb.cell 4⟩
          clear hK K
          try simp only [Act.put, List.setIfInBounds_toArray, List.set_cons_zero, List.set_cons_succ]
          refine reg_take (i := 10) (v := ?v25) rfl (by kernel_rfl) (by kernel_rfl) (by kernel_rfl) (fun _ _ _ h => h) (Or.inl ⟨by kernel_rfl, ?h25⟩) (by assumption) ?r25
          case h25 => (intro w hSw; (try dsimp only at hSw); go_simp; try with_reducible rfl)
          try simp only [Act.put, List.setIfInBounds_toArray, List.set_cons_zero, List.set_cons_succ]
          refine reg_call (i := 12) (by kernel_rfl) rfl (fun K hK => ?_)
          rw [if_pos (show Region.wanted _ _ = true by kernel_rfl)]
          refine wp_store_mid 65 _ _ rfl gb 0 #[.slice (some ⟨b7, 0, none⟩) 0 0, .slice (some ⟨b8, 0, none⟩) 0 0, .int .i64 jp, .int .i64 on, .slice A16 next.length c16] rfl rfl (row_there (st.hg gb (by simp)) 5 (by decide)) size_block (by simp [Value.oneCell']) ?_
          rw [set5_eq]
          have R5 := row_far5 st.Rb st.gne
          refine hK.out _ _ ?_ (fun hHeld => ?_)
          · exact ⟨(R5 _ _ _ _ _).cell 2, (R5 _ _ _ _ _).cell 3, (R5 _ _ _ _ _).cell 4⟩
          clear hK K
          try simp only [Act.put, List.setIfInBounds_toArray, List.set_cons_zero, List.set_cons_succ]
          refine wpAnyH_done (by kernel_rfl) ?_ _
          go_wp2_with fail
          go_meet
          exact st.fin jp on
        go_simp
        replace st := st.ag
        generalize wd.heap.size = gb at st ⊢
        generalize wd.alloc (.cells #[.slice none 0 0, .slice none 0 0, .int .i64 0, .int .i64 0, .slice none 0 0] 65) = wd at st ⊢
        refine hK.out _ _ ?_ (fun hHeld => ?_)
        · exact ⟨st.Rb.cell 2, st.Rb.cell 3, st.Rb.cell 4⟩
        clear hK K
        try simp only [Act.put, List.setIfInBounds_toArray, List.set_cons_zero, List.set_cons_succ]
        refine reg_call2 (i := 0) (j := 9) (by kernel_rfl) rfl rfl (fun K hK => ?_) (fun K hK => ?_)
        · go_simp
          replace st := st.a0
          generalize wd.heap.size = b7 at st ⊢
          generalize wd.alloc (.cells #[] 69) = wd at st ⊢
          refine hK.out _ _ ?_ (fun hHeld => ?_)
          · exact ⟨st.Rb.cell 2, st.Rb.cell 3, st.Rb.cell 4⟩
          clear hK K
          try simp only [Act.put, List.setIfInBounds_toArray, List.set_cons_zero, List.set_cons_succ]
          refine reg_call (i := 9) (by kernel_rfl) rfl (fun K hK => ?_)
          obtain ⟨A16, c16, f4, wq, r9, st⟩ := st.ap ⟨a6, 0, none⟩ (h4.below st.hbl hB) hl4
          rw [if_pos (show Region.wanted _ _ = true by kernel_rfl)]
          refine Lib.wp_append_run_sl _ _ _ 63 rfl _ _ rfl rfl r9 ?_
          clear r9
          obtain ⟨wd, hwd⟩ : ∃ x, x = wq := ⟨_, rfl⟩
          subst hwd
          refine hK.out _ _ ?_ (fun hHeld => ?_)
          · exact ⟨st.Rb.cell 2, st.Rb.cell 3, st.Rb.cell 4⟩
          clear hK K
          try simp only [Act.put, List.setIfInBounds_toArray, List.set_cons_zero, List.set_cons_succ]
          refine reg_take (i := 10) (v := ?v26) rfl (by kernel_rfl) (by kernel_rfl) (by kernel_rfl) (fun _ _ _ h => h) (Or.inl ⟨by kernel_rfl, ?h26⟩) (by assumption) ?r26
          case h26 => (intro w hSw; (try dsimp only at hSw); go_simp; try with_reducible rfl)
          try simp only [Act.put, List.setIfInBounds_toArray, List.set_cons_zero, List.set_cons_succ]
          refine reg_call (i := 12) (by kernel_rfl) rfl (fun K hK => ?_)
          rw [if_pos (show Region.wanted _ _ = true by kernel_rfl)]
          refine wp_store_mid 65 _ _ rfl gb 0 #[.slice (some ⟨b7, 0, none⟩) 0 0, .slice (some ⟨b8, 0, none⟩) 0 0, .int .i64 jp, .int .i64 on, .slice A16 next.length c16] rfl rfl (row_there (st.hg gb (by simp)) 5 (by decide)) size_block (by simp [Value.oneCell']) ?_
          rw [set5_eq]
          have R5 := row_far5 st.Rb st.gne
          refine hK.out _ _ ?_ (fun hHeld => ?_)
          · exact ⟨(R5 _ _ _ _ _).cell 2, (R5 _ _ _ _ _).cell 3, (R5 _ _ _ _ _).cell 4⟩
          clear hK K
          try simp only [Act.put, List.setIfInBounds_toArray, List.set_cons_zero, List.set_cons_succ]
          refine wpAnyH_done (by kernel_rfl) ?_ _
          go_wp2_with fail
          go_meet
          exact st.fin jp on
        obtain ⟨A16, c16, f4, wq, r9, st⟩ := st.ap ⟨a6, 0, none⟩ (h4.below st.hbl hB) hl4
        rw [if_pos (show Region.wanted _ _ = true by kernel_rfl)]
        refine Lib.wp_append_run_sl _ _ _ 63 rfl _ _ rfl rfl r9 ?_
        clear r9
        obtain ⟨wd, hwd⟩ : ∃ x, x = wq := ⟨_, rfl⟩
        subst hwd
        refine hK.out _ _ ?_ (fun hHeld => ?_)
        · exact ⟨st.Rb.cell 2, st.Rb.cell 3, st.Rb.cell 4⟩
        clear hK K
        try simp only [Act.put, List.setIfInBounds_toArray, List.set_cons_zero, List.set_cons_succ]
        refine reg_call (i := 0) (by kernel_rfl) rfl (fun K hK => ?_)
        go_simp
        replace st := st.a0
        generalize wd.heap.size = b7 at st ⊢
        generalize wd.alloc (.cells #[] 69) = wd at st ⊢
        refine hK.out _ _ ?_ (fun hHeld => ?_)
        · exact ⟨st.Rb.cell 2, st.Rb.cell 3, st.Rb.cell 4⟩
        clear hK K
        try simp only [Act.put, List.setIfInBounds_toArray, List.set_cons_zero, List.set_cons_succ]
        refine reg_take (i := 10) (v := ?v27) rfl (by kernel_rfl) (by kernel_rfl) (by kernel_rfl) (fun _ _ _ h => h) (Or.inl ⟨by kernel_rfl, ?h27⟩) (by assumption) ?r27
        case h27 => (intro w hSw; (try dsimp only at hSw); go_simp; try with_reducible rfl)
        try simp only [Act.put, List.setIfInBounds_toArray, List.set_cons_zero, List.set_cons_succ]
        refine reg_call (i := 12) (by kernel_rfl) rfl (fun K hK => ?_)
        rw [if_pos (show Region.wanted _ _ = true by kernel_rfl)]
        refine wp_store_mid 65 _ _ rfl gb 0 #[.slice (some ⟨b7, 0, none⟩) 0 0, .slice (some ⟨b8, 0, none⟩) 0 0, .int .i64 jp, .int .i64 on, .slice A16 next.length c16] rfl rfl (row_there (st.hg gb (by simp)) 5 (by decide)) size_block (by simp [Value.oneCell']) ?_
        rw [set5_eq]
        have R5 := row_far5 st.Rb st.gne
        refine hK.out _ _ ?_ (fun hHeld => ?_)
        · exact ⟨(R5 _ _ _ _ _).cell 2, (R5 _ _ _ _ _).cell 3, (R5 _ _ _ _ _).cell 4⟩
        clear hK K
        try simp only [Act.put, List.setIfInBounds_toArray, List.set_cons_zero, List.set_cons_succ]
        refine wpAnyH_done (by kernel_rfl) ?_ _
        go_wp2_with fail
        go_meet
        exact st.fin jp on
      go_simp
      replace st := st.ag
      generalize wd.heap.size = gb at st ⊢
      generalize wd.alloc (.cells #[.slice none 0 0, .slice none 0 0, .int .i64 0, .int .i64 0, .slice none 0 0] 65) = wd at st ⊢
      refine hK.out _ _ ?_ (fun hHeld => ?_)
      · exact ⟨st.Rb.cell 2, st.Rb.cell 3, st.Rb.cell 4⟩
      clear hK K
      try simp only [Act.put, List.setIfInBounds_toArray, List.set_cons_zero, List.set_cons_succ]
      refine reg_call2 (i := 0) (j := 6) (by kernel_rfl) rfl rfl (fun K hK => ?_) (fun K hK => ?_)
      · go_simp
        replace st := st.a0
        generalize wd.heap.size = b7 at st ⊢
        generalize wd.alloc (.cells #[] 69) = wd at st ⊢
        refine hK.out _ _ ?_ (fun hHeld => ?_)
        · exact ⟨st.Rb.cell 2, st.Rb.cell 3, st.Rb.cell 4⟩
        clear hK K
        try simp only [Act.put, List.setIfInBounds_toArray, List.set_cons_zero, List.set_cons_succ]
        refine reg_call (i := 6) (by kernel_rfl) rfl (fun K hK => ?_)
        go_simp
        replace st := st.al (.cells #[] 3)
        generalize wd.heap.size = a6 at ⊢
        generalize wd.alloc (.cells #[] 3) = wd at st ⊢
        refine hK.out _ _ ?_ (fun hHeld => ?_)
        · exact ⟨st.Rb.cell 2, st.Rb.cell 3, st.Rb.cell 4⟩
        clear hK K
        try simp only [Act.put, List.setIfInBounds_toArray, List.set_cons_zero, List.set_cons_succ]
        refine reg_call (i := 9) (by kernel_rfl) rfl (fun K hK => ?_)
        obtain ⟨A16, c16, f4, wq, r9, st⟩ := st.ap ⟨a6, 0, none⟩ (h4.below st.hbl hB) hl4
        rw [if_pos (show Region.wanted _ _ = true by kernel_rfl)]
        refine Lib.wp_append_run_sl _ _ _ 63 rfl _ _ rfl rfl r9 ?_
        clear r9
        obtain ⟨wd, hwd⟩ : ∃ x, x = wq := ⟨_, rfl⟩
        subst hwd
        refine hK.out _ _ ?_ (fun hHeld => ?_)
        · exact ⟨st.Rb.cell 2, st.Rb.cell 3, st.Rb.cell 4⟩
        clear hK K
        try simp only [Act.put, List.setIfInBounds_toArray, List.set_cons_zero, List.set_cons_succ]
        refine reg_take (i := 10) (v := ?v28) rfl (by kernel_rfl) (by kernel_rfl) (by kernel_rfl) (fun _ _ _ h => h) (Or.inl ⟨by kernel_rfl, ?h28⟩) (by assumption) ?r28
        case h28 => (intro w hSw; (try dsimp only at hSw); go_simp; try with_reducible rfl)
        try simp only [Act.put, List.setIfInBounds_toArray, List.set_cons_zero, List.set_cons_succ]
        refine reg_call (i := 12) (by kernel_rfl) rfl (fun K hK => ?_)
        rw [if_pos (show Region.wanted _ _ = true by kernel_rfl)]
        refine wp_store_mid 65 _ _ rfl gb 0 #[.slice (some ⟨b7, 0, none⟩) 0 0, .slice (some ⟨b8, 0, none⟩) 0 0, .int .i64 jp, .int .i64 on, .slice A16 next.length c16] rfl rfl (row_there (st.hg gb (by simp)) 5 (by decide)) size_block (by simp [Value.oneCell']) ?_
        rw [set5_eq]
        have R5 := row_far5 st.Rb st.gne
        refine hK.out _ _ ?_ (fun hHeld => ?_)
        · exact ⟨(R5 _ _ _ _ _).cell 2, (R5 _ _ _ _ _).cell 3, (R5 _ _ _ _ _).cell 4⟩
        clear hK K
        try simp only [Act.put, List.setIfInBounds_toArray, List.set_cons_zero, List.set_cons_succ]
        refine wpAnyH_done (by kernel_rfl) ?_ _
        go_wp2_with fail
        go_meet
        exact st.fin jp on
      go_simp
      replace st := st.al (.cells #[] 3)
      generalize wd.heap.size = a6 at ⊢
      generalize wd.alloc (.cells #[] 3) = wd at st ⊢
      refine hK.out _ _ ?_ (fun hHeld => ?_)
      · exact ⟨st.Rb.cell 2, st.Rb.cell 3, st.Rb.cell 4⟩
      clear hK K
      try simp only [Act.put, List.setIfInBounds_toArray, List.set_cons_zero, List.set_cons_succ]
      refine reg_call2 (i := 0) (j := 9) (by kernel_rfl) rfl rfl (fun K hK => ?_) (fun K hK => ?_)
      · go_simp
        replace st := st.a0
        generalize wd.heap.size = b7 at st ⊢
        generalize wd.alloc (.cells #[] 69) = wd at st ⊢
        refine hK.out _ _ ?_ (fun hHeld => ?_)
        · exact ⟨st.Rb.cell 2, st.Rb.cell 3, st.Rb.cell 4⟩
        clear hK K
        try simp only [Act.put, List.setIfInBounds_toArray, List.set_cons_zero, List.set_cons_succ]
        refine reg_call (i := 9) (by kernel_rfl) rfl (fun K hK => ?_)
        obtain ⟨A16, c16, f4, wq, r9, st⟩ := st.ap ⟨a6, 0, none⟩ (h4.below st.hbl hB) hl4
        rw [if_pos (show Region.wanted _ _ = true by kernel_rfl)]
        refine Lib.wp_append_run_sl _ _ _ 63 rfl _ _ rfl rfl r9 ?_
        clear r9
        obtain ⟨wd, hwd⟩ : ∃ x, x = wq := ⟨_, rfl⟩
        subst hwd
        refine hK.out _ _ ?_ (fun hHeld => ?_)
        · exact ⟨st.Rb.cell 2, st.Rb.cell 3, st.Rb.cell 4⟩
        clear hK K
        try simp only [Act.put, List.setIfInBounds_toArray, List.set_cons_zero, List.set_cons_succ]
        refine reg_take (i := 10) (v := ?v29) rfl (by kernel_rfl) (by kernel_rfl) (by kernel_rfl) (fun _ _ _ h => h) (Or.inl ⟨by kernel_rfl, ?h29⟩) (by assumption) ?r29
        case h29 => (intro w hSw; (try dsimp only at hSw); go_simp; try with_reducible rfl)
        try simp only [Act.put, List.setIfInBounds_toArray, List.set_cons_zero, List.set_cons_succ]
        refine reg_call (i := 12) (by kernel_rfl) rfl (fun K hK => ?_)
        rw [if_pos (show Region.wanted _ _ = true by kernel_rfl)]
        refine wp_store_mid 65 _ _ rfl gb 0 #[.slice (some ⟨b7, 0, none⟩) 0 0, .slice (some ⟨b8, 0, none⟩) 0 0, .int .i64 jp, .int .i64 on, .slice A16 next.length c16] rfl rfl (row_there (st.hg gb (by simp)) 5 (by decide)) size_block (by simp [Value.oneCell']) ?_
        rw [set5_eq]
        have R5 := row_far5 st.Rb st.gne
        refine hK.out _ _ ?_ (fun hHeld => ?_)
        · exact ⟨(R5 _ _ _ _ _).cell 2, (R5 _ _ _ _ _).cell 3, (R5 _ _ _ _ _).cell 4⟩
        clear hK K
        try simp only [Act.put, List.setIfInBounds_toArray, List.set_cons_zero, List.set_cons_succ]
        refine wpAnyH_done (by kernel_rfl) ?_ _
        go_wp2_with fail
        go_meet
        exact st.fin jp on
      obtain ⟨A16, c16, f4, wq, r9, st⟩ := st.ap ⟨a6, 0, none⟩ (h4.below st.hbl hB) hl4
      rw [if_pos (show Region.wanted _ _ = true by kernel_rfl)]
      refine Lib.wp_append_run_sl _ _ _ 63 rfl _ _ rfl rfl r9 ?_
      clear r9
      obtain ⟨wd, hwd⟩ : ∃ x, x = wq := ⟨_, rfl⟩
      subst hwd
      refine hK.out _ _ ?_ (fun hHeld => ?_)
      · exact ⟨st.Rb.cell 2, st.Rb.cell 3, st.Rb.cell 4⟩
      clear hK K
      try simp only [Act.put, List.setIfInBounds_toArray, List.set_cons_zero, List.set_cons_succ]
      refine reg_call (i := 0) (by kernel_rfl) rfl (fun K hK => ?_)
      go_simp
      replace st := st.a0
      generalize wd.heap.size = b7 at st ⊢
      generalize wd.alloc (.cells #[] 69) = wd at st ⊢
      refine hK.out _ _ ?_ (fun hHeld => ?_)
      · exact ⟨st.Rb.cell 2, st.Rb.cell 3, st.Rb.cell 4⟩
      clear hK K
      try simp only [Act.put, List.setIfInBounds_toArray, List.set_cons_zero, List.set_cons_succ]
      refine reg_take (i := 10) (v := ?v30) rfl (by kernel_rfl) (by kernel_rfl) (by kernel_rfl) (fun _ _ _ h => h) (Or.inl ⟨by kernel_rfl, ?h30⟩) (by assumption) ?r30
      case h30 => (intro w hSw; (try dsimp only at hSw); go_simp; try with_reducible rfl)
      try simp only [Act.put, List.setIfInBounds_toArray, List.set_cons_zero, List.set_cons_succ]
      refine reg_call (i := 12) (by kernel_rfl) rfl (fun K hK => ?_)
      rw [if_pos (show Region.wanted _ _ = true by kernel_rfl)]
      refine wp_store_mid 65 _ _ rfl gb 0 #[.slice (some ⟨b7, 0, none⟩) 0 0, .slice (some ⟨b8, 0, none⟩) 0 0, .int .i64 jp, .int .i64 on, .slice A16 next.length c16] rfl rfl (row_there (st.hg gb (by simp)) 5 (by decide)) size_block (by simp [Value.oneCell']) ?_
      rw [set5_eq]
      have R5 := row_far5 st.Rb st.gne
      refine hK.out _ _ ?_ (fun hHeld => ?_)
      · exact ⟨(R5 _ _ _ _ _).cell 2, (R5 _ _ _ _ _).cell 3, (R5 _ _ _ _ _).cell 4⟩
      clear hK K
      try simp only [Act.put, List.setIfInBounds_toArray, List.set_cons_zero, List.set_cons_succ]
      refine wpAnyH_done (by kernel_rfl) ?_ _
      go_wp2_with fail
      go_meet
      exact st.fin jp on
    · go_simp
      replace st := st.al (.cells #[] 3)
      generalize wd.heap.size = a6 at ⊢
      generalize wd.alloc (.cells #[] 3) = wd at st ⊢
      refine hK.out _ _ ?_ (fun hHeld => ?_)
      · exact ⟨st.Rb.cell 2, st.Rb.cell 3, st.Rb.cell 4⟩
      clear hK K
      try simp only [Act.put, List.setIfInBounds_toArray, List.set_cons_zero, List.set_cons_succ]
      refine reg_call4 (i := 0) (j := 1) (k := 9) (l := 11) (by kernel_rfl) rfl rfl rfl rfl (fun K hK => ?_) (fun K hK => ?_) (fun K hK => ?_) (fun K hK => ?_)
      · go_simp
        replace st := st.a0
        generalize wd.heap.size = b7 at st ⊢
        generalize wd.alloc (.cells #[] 69) = wd at st ⊢
        refine hK.out _ _ ?_ (fun hHeld => ?_)
        · exact ⟨st.Rb.cell 2, st.Rb.cell 3, st.Rb.cell 4⟩
        clear hK K
        try simp only [Act.put, List.setIfInBounds_toArray, List.set_cons_zero, List.set_cons_succ]
        refine reg_call3 (i := 1) (j := 9) (k := 11) (by kernel_rfl) rfl rfl rfl (fun K hK => ?_) (fun K hK => ?_) (fun K hK => ?_)
        · go_simp
          replace st := st.a1
          generalize wd.heap.size = b8 at st ⊢
          generalize wd.alloc (.cells #[] 72) = wd at st ⊢
          refine hK.out _ _ ?_ (fun hHeld => ?_)
          · exact ⟨st.Rb.cell 2, st.Rb.cell 3, st.Rb.cell 4⟩
          clear hK K
          try simp only [Act.put, List.setIfInBounds_toArray, List.set_cons_zero, List.set_cons_succ]
          refine reg_call2 (i := 9) (j := 11) (by kernel_rfl) rfl rfl (fun K hK => ?_) (fun K hK => ?_)
          · obtain ⟨A16, c16, f4, wq, r9, st⟩ := st.ap ⟨a6, 0, none⟩ (h4.below st.hbl hB) hl4
            rw [if_pos (show Region.wanted _ _ = true by kernel_rfl)]
            refine Lib.wp_append_run_sl _ _ _ 63 rfl _ _ rfl rfl r9 ?_
            clear r9
            obtain ⟨wd, hwd⟩ : ∃ x, x = wq := ⟨_, rfl⟩
            subst hwd
            refine hK.out _ _ ?_ (fun hHeld => ?_)
            · exact ⟨st.Rb.cell 2, st.Rb.cell 3, st.Rb.cell 4⟩
            clear hK K
            try simp only [Act.put, List.setIfInBounds_toArray, List.set_cons_zero, List.set_cons_succ]
            refine reg_take (i := 10) (v := ?v31) rfl (by kernel_rfl) (by kernel_rfl) (by kernel_rfl) (fun _ _ _ h => h) (Or.inl ⟨by kernel_rfl, ?h31⟩) (by assumption) ?r31
            case h31 => (intro w hSw; (try dsimp only at hSw); go_simp; try with_reducible rfl)
            try simp only [Act.put, List.setIfInBounds_toArray, List.set_cons_zero, List.set_cons_succ]
            refine reg_call (i := 11) (by kernel_rfl) rfl (fun K hK => ?_)
            go_simp
            replace st := st.ag
            generalize wd.heap.size = gb at st ⊢
            generalize wd.alloc (.cells #[.slice none 0 0, .slice none 0 0, .int .i64 0, .int .i64 0, .slice none 0 0] 65) = wd at st ⊢
            refine hK.out _ _ ?_ (fun hHeld => ?_)
            · exact ⟨st.Rb.cell 2, st.Rb.cell 3, st.Rb.cell 4⟩
            clear hK K
            try simp only [Act.put, List.setIfInBounds_toArray, List.set_cons_zero, List.set_cons_succ]
            refine reg_call (i := 12) (by kernel_rfl) rfl (fun K hK => ?_)
            rw [if_pos (show Region.wanted _ _ = true by kernel_rfl)]
            refine wp_store_mid 65 _ _ rfl gb 0 #[.slice (some ⟨b7, 0, none⟩) 0 0, .slice (some ⟨b8, 0, none⟩) 0 0, .int .i64 jp, .int .i64 on, .slice A16 next.length c16] rfl rfl (row_there (st.hg gb (by simp)) 5 (by decide)) size_block (by simp [Value.oneCell']) ?_
            rw [set5_eq]
            have R5 := row_far5 st.Rb st.gne
            refine hK.out _ _ ?_ (fun hHeld => ?_)
            · exact ⟨(R5 _ _ _ _ _).cell 2, (R5 _ _ _ _ _).cell 3, (R5 _ _ _ _ _).cell 4⟩
            clear hK K
            try simp only [Act.put, List.setIfInBounds_toArray, List.set_cons_zero, List.set_cons_succ]
            refine wpAnyH_done (by kernel_rfl) ?_ _
            go_wp2_with fail
            go_meet
            exact st.fin jp on
          go_simp
          replace st := st.ag
          generalize wd.heap.size = gb at st ⊢
          generalize wd.alloc (.cells #[.slice none 0 0, .slice none 0 0, .int .i64 0, .int .i64 0, .slice none 0 0] 65) = wd at st ⊢
          refine hK.out _ _ ?_ (fun hHeld => ?_)
          · exact ⟨st.Rb.cell 2, st.Rb.cell 3, st.Rb.cell 4⟩
          clear hK K
          try simp only [Act.put, List.setIfInBounds_toArray, List.set_cons_zero, List.set_cons_succ]
          refine reg_call (i := 9) (by kernel_rfl) rfl (fun K hK => ?_)
          obtain ⟨A16, c16, f4, wq, r9, st⟩ := st.ap ⟨a6, 0, none⟩ (h4.below st.hbl hB) hl4
          rw [if_pos (show Region.wanted _ _ = true by kernel_rfl)]
          refine Lib.wp_append_run_sl _ _ _ 63 rfl _ _ rfl rfl r9 ?_
          clear r9
          obtain ⟨wd, hwd⟩ : ∃ x, x = wq := ⟨_, rfl⟩
          subst hwd
          refine hK.out _ _ ?_ (fun hHeld => ?_)
          · exact ⟨st.Rb.cell 2, st.Rb.cell 3, st.Rb.cell 4⟩
          clear hK K
          try simp only [Act.put, List.setIfInBounds_toArray, List.set_cons_zero, List.set_cons_succ]
          refine reg_take (i := 10) (v := ?v32) rfl (by kernel_rfl) (by kernel_rfl) (by kernel_rfl) (fun _ _ _ h => h) (Or.inl ⟨by kernel_rfl, ?h32⟩) (by assumption) ?r32
          case h32 => (intro w hSw; (try dsimp only at hSw); go_simp; try with_reducible rfl)
          try simp only [Act.put, List.setIfInBounds_toArray, List.set_cons_zero, List.set_cons_succ]
          refine reg_call (i := 12) (by kernel_rfl) rfl (fun K hK => ?_)
          rw [if_pos (show Region.wanted _ _ = true by kernel_rfl)]
          refine wp_store_mid 65 _ _ rfl gb 0 #[.slice (some ⟨b7, 0, none⟩) 0 0, .slice (some ⟨b8, 0, none⟩) 0 0, .int .i64 jp, .int .i64 on, .slice A16 next.length c16] rfl rfl (row_there (st.hg gb (by simp)) 5 (by decide)) size_block (by simp [Value.oneCell']) ?_
          rw [set5_eq]
          have R5 := row_far5 st.Rb st.gne
          refine hK.out _ _ ?_ (fun hHeld => ?_)
          · exact ⟨(R5 _ _ _ _ _).cell 2, (R5 _ _ _ _ _).cell 3, (R5 _ _ _ _ _).cell 4⟩
          clear hK K
          try simp only [Act.put, List.setIfInBounds_toArray, List.set_cons_zero, List.set_cons_succ]
          refine wpAnyH_done (by kernel_rfl) ?_ _
          go_wp2_with fail
          go_meet
          exact st.fin jp on
        · obtain ⟨A16, c16, f4, wq, r9, st⟩ := st.ap ⟨a6, 0, none⟩ (h4.below st.hbl hB) hl4
          rw [if_pos (show Region.wanted _ _ = true by kernel_rfl)]
          refine Lib.wp_append_run_sl _ _ _ 63 rfl _ _ rfl rfl r9 ?_
          clear r9
          obtain ⟨wd, hwd⟩ : ∃ x, x = wq := ⟨_, rfl⟩
          subst hwd
          refine hK.out _ _ ?_ (fun hHeld => ?_)
          · exact ⟨st.Rb.cell 2, st.Rb.cell 3, st.Rb.cell 4⟩
          clear hK K
          try simp only [Act.put, List.setIfInBounds_toArray, List.set_cons_zero, List.set_cons_succ]
          refine reg_call2 (i := 1) (j := 11) (by kernel_rfl) rfl rfl (fun K hK => ?_) (fun K hK => ?_)
          · go_simp
            replace st := st.a1
            generalize wd.heap.size = b8 at st ⊢
            generalize wd.alloc (.cells #[] 72) = wd at st ⊢
            refine hK.out _ _ ?_ (fun hHeld => ?_)
            · exact ⟨st.Rb.cell 2, st.Rb.cell 3, st.Rb.cell 4⟩
            clear hK K
            try simp only [Act.put, List.setIfInBounds_toArray, List.set_cons_zero, List.set_cons_succ]
            refine reg_take (i := 10) (v := ?v33) rfl (by kernel_rfl) (by kernel_rfl) (by kernel_rfl) (fun _ _ _ h => h) (Or.inl ⟨by kernel_rfl, ?h33⟩) (by assumption) ?r33
            case h33 => (intro w hSw; (try dsimp only at hSw); go_simp; try with_reducible rfl)
            try simp only [Act.put, List.setIfInBounds_toArray, List.set_cons_zero, List.set_cons_succ]
            refine reg_call (i := 11) (by kernel_rfl) rfl (fun K hK => ?_)
            go_simp
            replace st := st.ag
            generalize wd.heap.size = gb at st ⊢
            generalize wd.alloc (.cells #[.slice none 0 0, .slice none 0 0, .int .i64 0, .int .i64 0, .slice none 0 0] 65) = wd at st ⊢
            refine hK.out _ _ ?_ (fun hHeld => ?_)
            · exact ⟨st.Rb.cell 2, st.Rb.cell 3, st.Rb.cell 4⟩
            clear hK K
            try simp only [Act.put, List.setIfInBounds_toArray, List.set_cons_zero, List.set_cons_succ]
            refine reg_call (i := 12) (by kernel_rfl) rfl (fun K hK => ?_)
            rw [if_pos (show Region.wanted _ _ = true by kernel_rfl)]
            refine wp_store_mid 65 _ _ rfl gb 0 #[.slice (some ⟨b7, 0, none⟩) 0 0, .slice (some ⟨b8, 0, none⟩) 0 0, .int .i64 jp, .int .i64 on, .slice A16 next.length c16] rfl rfl (row_there (st.hg gb (by simp)) 5 (by decide)) size_block (by simp [Value.oneCell']) ?_
            rw [set5_eq]
            have R5 := row_far5 st.Rb st.gne
            refine hK.out _ _ ?_ (fun hHeld => ?_)
            · exact ⟨(R5 _ _ _ _ _).cell 2, (R5 _ _ _ _ _).cell 3, (R5 _ _ _ _ _).cell 4⟩
            clear hK K
            try simp only [Act.put, List.setIfInBounds_toArray, List.set_cons_zero, List.set_cons_succ]
            refine wpAnyH_done (by kernel_rfl) ?_ _
            go_wp2_with fail
            go_meet
            exact st.fin jp on
          go_simp
          replace st := st.ag
          generalize wd.heap.size = gb at st ⊢
          generalize wd.alloc (.cells #[.slice none 0 0, .slice none 0 0, .int .i64 0, .int .i64 0, .slice none 0 0] 65) = wd at st ⊢
          refine hK.out _ _ ?_ (fun hHeld => ?_)
          · exact ⟨st.Rb.cell 2, st.Rb.cell 3, st.Rb.cell 4⟩
          clear hK K
          try simp only [Act.put, List.setIfInBounds_toArray, List.set_cons_zero, List.set_cons_succ]
          refine reg_call (i := 1) (by kernel_rfl) rfl (fun K hK => ?_)
          go_simp
          replace st := st.a1
          generalize wd.heap.size = b8 at st ⊢
          generalize wd.alloc (.cells #[] 72) = wd at st ⊢
          refine hK.out _ _ ?_ (fun hHeld => ?_)
          · exact ⟨st.Rb.cell 2, st.Rb.cell 3, st.Rb.cell 4⟩
          clear hK K
          try simp only [Act.put, List.setIfInBounds_toArray, List.set_cons_zero, List.set_cons_succ]
          refine reg_take (i := 10) (v := ?v34) rfl (by kernel_rfl) (by kernel_rfl) (by kernel_rfl) (fun _ _ _ h => h) (Or.inl ⟨by kernel_rfl, ?h34⟩) (by assumption) ?r34
          case h34 => (intro w hSw; (try dsimp only at hSw); go_simp; try with_reducible rfl)
          try simp only [Act.put, List.setIfInBounds_toArray, List.set_cons_zero, List.set_cons_succ]
          refine reg_call (i := 12) (by kernel_rfl) rfl (fun K hK => ?_)
          rw [if_pos (show Region.wanted _ _ = true by kernel_rfl)]
          refine wp_store_mid 65 _ _ rfl gb 0 #[.slice (some ⟨b7, 0, none⟩) 0 0, .slice (some ⟨b8, 0, none⟩) 0 0, .int .i64 jp, .int .i64 on, .slice A16 next.length c16] rfl rfl (row_there (st.hg gb (by simp)) 5 (by decide)) size_block (by simp [Value.oneCell']) ?_
          rw [set5_eq]
          have R5 := row_far5 st.Rb st.gne
          refine hK.out _ _ ?_ (fun hHeld => ?_)
          · exact ⟨(R5 _ _ _ _ _).cell 2, (R5 _ _ _ _ _).cell 3, (R5 _ _ _ _ _).cell 4⟩
          clear hK K
          try simp only [Act.put, List.setIfInBounds_toArray, List.set_cons_zero, List.set_cons_succ]
          refine wpAnyH_done (by kernel_rfl) ?_ _
          go_wp2_with fail
          go_meet
          exact st.fin jp on
        go_simp
        replace st := st.ag
        generalize wd.heap.size = gb at st ⊢
        generalize wd.alloc (.cells #[.slice none 0 0, .slice none 0 0, .int .i64 0, .int .i64 0, .slice none 0 0] 65) = wd at st ⊢
        refine hK.out _ _ ?_ (fun hHeld => ?_)
        · exact ⟨st.Rb.cell 2, st.Rb.cell 3, st.Rb.cell 4⟩
        clear hK K
        try simp only [Act.put, List.setIfInBounds_toArray, List.set_cons_zero, List.set_cons_succ]
        refine reg_call2 (i := 1) (j := 9) (by kernel_rfl) rfl rfl (fun K hK => ?_) (fun K hK => ?_)
        · go_simp
          replace st := st.a1
          generalize wd.heap.size = b8 at st ⊢
          generalize wd.alloc (.cells #[] 72) = wd at st ⊢
          refine hK.out _ _ ?_ (fun hHeld => ?_)
          · exact ⟨st.Rb.cell 2, st.Rb.cell 3, st.Rb.cell 4⟩
          clear hK K
          try simp only [Act.put, List.setIfInBounds_toArray, List.set_cons_zero, List.set_cons_succ]
          refine reg_call (i := 9) (by kernel_rfl) rfl (fun K hK => ?_)
          obtain ⟨A16, c16, f4, wq, r9, st⟩ := st.ap ⟨a6, 0, none⟩ (h4.below st.hbl hB) hl4
          rw [if_pos (show Region.wanted _ _ = true by kernel_rfl)]
          refine Lib.wp_append_run_sl _ _ _ 63 rfl _ _ rfl rfl r9 ?_
          clear r9
          obtain ⟨wd, hwd⟩ : ∃ x, x = wq := ⟨_, rfl⟩
          subst hwd
          refine hK.out _ _ ?_ (fun hHeld => ?_)
          · exact ⟨st.Rb.cell 2, st.Rb.cell 3, st.Rb.cell 4⟩
          clear hK K
          try simp only [Act.put, List.setIfInBounds_toArray, List.set_cons_zero, List.set_cons_succ]
          refine reg_take (i := 10) (v := ?v35) rfl (by kernel_rfl) (by kernel_rfl) (by kernel_rfl) (fun _ _ _ h => h) (Or.inl ⟨by kernel_rfl, ?h35⟩) (by assumption) ?r35
          case h35 => (intro w hSw; (try dsimp only at hSw); go_simp; try with_reducible rfl)
          try simp only [Act.put, List.setIfInBounds_toArray, List.set_cons_zero, List.set_cons_succ]
          refine reg_call (i := 12) (by kernel_rfl) rfl (fun K hK => ?_)
          rw [if_pos (show Region.wanted _ _ = true by kernel_rfl)]
          refine wp_store_mid 65 _ _ rfl gb 0 #[.slice (some ⟨b7, 0, none⟩) 0 0, .slice (some ⟨b8, 0, none⟩) 0 0, .int .i64 jp, .int .i64 on, .slice A16 next.length c16] rfl rfl (row_there (st.hg gb (by simp)) 5 (by decide)) size_block (by simp [Value.oneCell']) ?_
          rw [set5_eq]
          have R5 := row_far5 st.Rb st.gne
          refine hK.out _ _ ?_ (fun hHeld => ?_)
          · exact ⟨(R5 _ _ _ _ _).cell 2, (R5 _ _ _ _ _).cell 3, (R5 _ _ _ _ _).cell 4⟩
          clear hK K
          try simp only [Act.put, List.setIfInBounds_toArray, List.set_cons_zero, List.set_cons_succ]
          refine wpAnyH_done (by kernel_rfl) ?_ _
          go_wp2_with fail
          go_meet
          exact st.fin jp on
        obtain ⟨A16, c16, f4, wq, r9, st⟩ := st.ap ⟨a6, 0, none⟩ (h4.below st.hbl hB) hl4
        rw [if_pos (show Region.wanted _ _ = true by kernel_rfl)]
        refine Lib.wp_append_run_sl _ _ _ 63 rfl _ _ rfl rfl r9 ?_
        clear r9
        obtain ⟨wd, hwd⟩ : ∃ x, x = wq := ⟨_, rfl⟩
        subst hwd
        refine hK.out _ _ ?_ (fun hHeld => ?_)
        · exact ⟨st.Rb.cell 2, st.Rb.cell 3, st.Rb.cell 4⟩
        clear hK K
        try simp only [Act.put, List.setIfInBounds_toArray, List.set_cons_zero, List.set_cons_succ]
        refine reg_call (i := 1) (by kernel_rfl) rfl (fun K hK => ?_)
        go_simp
        replace st := st.a1
        generalize wd.heap.size = b8 at st ⊢
        generalize wd.alloc (.cells #[] 72) = wd at st ⊢
        refine hK.out _ _ ?_ (fun hHeld => ?_)
        · exact ⟨st.Rb.cell 2, st.Rb.cell 3, st.Rb.cell 4⟩
        clear hK K
        try simp only [Act.put, List.setIfInBounds_toArray, List.set_cons_zero, List.set_cons_succ]
        refine reg_take (i := 10) (v := ?v36) rfl (by kernel_rfl) (by kernel_rfl) (by kernel_rfl) (fun _ _ _ h => h) (Or.inl ⟨by kernel_rfl, ?h36⟩) (by assumption) ?r36
        case h36 => (intro w hSw; (try dsimp only at hSw); go_simp; try with_reducible rfl)
        try simp only [Act.put, List.setIfInBounds_toArray, List.set_cons_zero, List.set_cons_succ]
        refine reg_call (i := 12) (by kernel_rfl) rfl (fun K hK => ?_)
        rw [if_pos (show Region.wanted _ _ = true by kernel_rfl)]
        refine wp_store_mid 65 _ _ rfl gb 0 #[.slice (some ⟨b7, 0, none⟩) 0 0, .slice (some ⟨b8, 0, none⟩) 0 0, .int .i64 jp, .int .i64 on, .slice A16 next.length c16] rfl rfl (row_there (st.hg gb (by simp)) 5 (by decide)) size_block (by simp [Value.oneCell']) ?_
        rw [set5_eq]
        have R5 := row_far5 st.Rb st.gne
        refine hK.out _ _ ?_ (fun hHeld => ?_)
        · exact ⟨(R5 _ _ _ _ _).cell 2, (R5 _ _ _ _ _).cell 3, (R5 _ _ _ _ _).cell 4⟩
        clear hK K
        try simp only [Act.put, List.setIfInBounds_toArray, List.set_cons_zero, List.set_cons_succ]
        refine wpAnyH_done (by kernel_rfl) ?_ _
        go_wp2_with fail
        go_meet
        exact st.fin jp on
      · go_simp
        replace st := st.a1
        generalize wd.heap.size = b8 at st ⊢
        generalize wd.alloc (.cells #[] 72) = wd at st ⊢
        refine hK.out _ _ ?_ (fun hHeld => ?_)
        · exact ⟨st.Rb.cell 2, st.Rb.cell 3, st.Rb.cell 4⟩
        clear hK K
        try simp only [Act.put, List.setIfInBounds_toArray, List.set_cons_zero, List.set_cons_succ]
        refine reg_call3 (i := 0) (j := 9) (k := 11) (by kernel_rfl) rfl rfl rfl (fun K hK => ?_) (fun K hK => ?_) (fun K hK => ?_)
        · go_simp
          replace st := st.a0
          generalize wd.heap.size = b7 at st ⊢
          generalize wd.alloc (.cells #[] 69) = wd at st ⊢
          refine hK.out _ _ ?_ (fun hHeld => ?_)
          · exact ⟨st.Rb.cell 2, st.Rb.cell 3, st.Rb.cell 4⟩
          clear hK K
          try simp only [Act.put, List.setIfInBounds_toArray, List.set_cons_zero, List.set_cons_succ]
          refine reg_call2 (i := 9) (j := 11) (by kernel_rfl) rfl rfl (fun K hK => ?_) (fun K hK => ?_)
          · obtain ⟨A16, c16, f4, wq, r9, st⟩ := st.ap ⟨a6, 0, none⟩ (h4.below st.hbl hB) hl4
            rw [if_pos (show Region.wanted _ _ = true by kernel_rfl)]
            refine Lib.wp_append_run_sl _ _ _ 63 rfl _ _ rfl rfl r9 ?_
            clear r9
            obtain ⟨wd, hwd⟩ : ∃ x, x = wq := ⟨_, rfl⟩
            subst hwd
            refine hK.out _ _ ?_ (fun hHeld => ?_)
            · exact ⟨st.Rb.cell 2, st.Rb.cell 3, st.Rb.cell 4⟩
            clear hK K
            try simp only [Act.put, List.setIfInBounds_toArray, List.set_cons_zero, List.set_cons_succ]
            refine reg_take (i := 10) (v := ?v37) rfl (by kernel_rfl) (by kernel_rfl) (by kernel_rfl) (fun _ _ _ h => h) (Or.inl ⟨by kernel_rfl, ?h37⟩) (by assumption) ?r37
            case h37 => (intro w hSw; (try dsimp only at hSw); go_simp; try with_reducible rfl)
            try simp only [Act.put, List.setIfInBounds_toArray, List.set_cons_zero, List.set_cons_succ]
            refine reg_call (i := 11) (by kernel_rfl) rfl (fun K hK => ?_)
            go_simp
            replace st := st.ag
            generalize wd.heap.size = gb at st ⊢
            generalize wd.alloc (.cells #[.slice none 0 0, .slice none 0 0, .int .i64 0, .int .i64 0, .slice none 0 0] 65) = wd at st ⊢
            refine hK.out _ _ ?_ (fun hHeld => ?_)
            · exact ⟨st.Rb.cell 2, st.Rb.cell 3, st.Rb.cell 4⟩
            clear hK K
            try simp only [Act.put, List.setIfInBounds_toArray, List.set_cons_zero, List.set_cons_succ]
            refine reg_call (i := 12) (by kernel_rfl) rfl (fun K hK => ?_)
            rw [if_pos (show Region.wanted _ _ = true by kernel_rfl)]
            refine wp_store_mid 65 _ _ rfl gb 0 #[.slice (some ⟨b7, 0, none⟩) 0 0, .slice (some ⟨b8, 0, none⟩) 0 0, .int .i64 jp, .int .i64 on, .slice A16 next.length c16] rfl rfl (row_there (st.hg gb (by simp)) 5 (by decide)) size_block (by simp [Value.oneCell']) ?_
            rw [set5_eq]
            have R5 := row_far5 st.Rb st.gne
            refine hK.out _ _ ?_ (fun hHeld => ?_)
            · exact ⟨(R5 _ _ _ _ _).cell 2, (R5 _ _ _ _ _).cell 3, (R5 _ _ _ _ _).cell 4⟩
            clear hK K
            try simp only [Act.put, List.setIfInBounds_toArray, List.set_cons_zero, List.set_cons_succ]
            refine wpAnyH_done (by kernel_rfl) ?_ _
            go_wp2_with fail
            go_meet
            exact st.fin jp on
          go_simp
          replace st := st.ag
          generalize wd.heap.size = gb at st ⊢
          generalize wd.alloc (.cells #[.slice none 0 0, .slice none 0 0, .int .i64 0, .int .i64 0, .slice none 0 0] 65) = wd at st ⊢
          refine hK.out _ _ ?_ (fun hHeld => ?_)
          · exact ⟨st.Rb.cell 2, st.Rb.cell 3, st.Rb.cell 4⟩
          clear hK K
          try simp only [Act.put, List.setIfInBounds_toArray, List.set_cons_zero, List.set_cons_succ]
          refine reg_call (i := 9) (by kernel_rfl) rfl (fun K hK => ?_)
          obtain ⟨A16, c16, f4, wq, r9, st⟩ := st.ap ⟨a6, 0, none⟩ (h4.below st.hbl hB) hl4
          rw [if_pos (show Region.wanted _ _ = true by kernel_rfl)]
          refine Lib.wp_append_run_sl _ _ _ 63 rfl _ _ rfl rfl r9 ?_
          clear r9
          obtain ⟨wd, hwd⟩ : ∃ x, x = wq := ⟨_, rfl⟩
          subst hwd
          refine hK.out _ _ ?_ (fun hHeld => ?_)
          · exact ⟨st.Rb.cell 2, st.Rb.cell 3, st.Rb.cell 4⟩
          clear hK K
          try simp only [Act.put, List.setIfInBounds_toArray, List.set_cons_zero, List.set_cons_succ]
          refine reg_take (i := 10) (v := ?v38) rfl (by kernel_rfl) (by kernel_rfl) (by kernel_rfl) (fun _ _ _ h => h) (Or.inl ⟨by kernel_rfl, ?h38⟩) (by assumption) ?r38
          case h38 => (intro w hSw; (try dsimp only at hSw); go_simp; try with_reducible rfl)
          try simp only [Act.put, List.setIfInBounds_toArray, List.set_cons_zero, List.set_cons_succ]
          refine reg_call (i := 12) (by kernel_rfl) rfl (fun K hK => ?_)
          rw [if_pos (show Region.wanted _ _ = true by kernel_rfl)]
          refine wp_store_mid 65 _ _ rfl gb 0 #[.slice (some ⟨b7, 0, none⟩) 0 0, .slice (some ⟨b8, 0, none⟩) 0 0, .int .i64 jp, .int .i64 on, .slice A16 next.length c16] rfl rfl (row_there (st.hg gb (by simp)) 5 (by decide)) size_block (by simp [Value.oneCell']) ?_
          rw [set5_eq]
          have R5 := row_far5 st.Rb st.gne
          refine hK.out _ _ ?_ (fun hHeld => ?_)
          · exact ⟨(R5 _ _ _ _ _).cell 2, (R5 _ _ _ _ _).cell 3, (R5 _ _ _ _ _).cell 4⟩
          clear hK K
          try simp only [Act.put, List.setIfInBounds_toArray, List.set_cons_zero, List.set_cons_succ]
          refine wpAnyH_done (by kernel_rfl) ?_ _
          go_wp2_with fail
          go_meet
          exact st.fin jp on
        · obtain ⟨A16, c16, f4, wq, r9, st⟩ := st.ap ⟨a6, 0, none⟩ (h4.below st.hbl hB) hl4
          rw [if_pos (show Region.wanted _ _ = true by kernel_rfl)]
          refine Lib.wp_append_run_sl _ _ _ 63 rfl _ _ rfl rfl r9 ?_
          clear r9
          obtain ⟨wd, hwd⟩ : ∃ x, x = wq := ⟨_, rfl⟩
          subst hwd
          refine hK.out _ _ ?_ (fun hHeld => ?_)
          · exact ⟨st.Rb.cell 2, st.Rb.cell 3, st.Rb.cell 4⟩
          clear hK K
          try simp only [Act.put, List.setIfInBounds_toArray, List.set_cons_zero, List.set_cons_succ]
          refine reg_call2 (i := 0) (j := 11) (by kernel_rfl) rfl rfl (fun K hK => ?_) (fun K hK => ?_)
          · go_simp
            replace st := st.a0
            generalize wd.heap.size = b7 at st ⊢
            generalize wd.alloc (.cells #[] 69) = wd at st ⊢
            refine hK.out _ _ ?_ (fun hHeld => ?_)
            · exact ⟨st.Rb.cell 2, st.Rb.cell 3, st.Rb.cell 4⟩
            clear hK K
            try simp only [Act.put, List.setIfInBounds_toArray, List.set_cons_zero, List.set_cons_succ]
            refine reg_take (i := 10) (v := ?v39) rfl (by kernel_rfl) (by kernel_rfl) (by kernel_rfl) (fun _ _ _ h => h) (Or.inl ⟨by kernel_rfl, ?h39⟩) (by assumption) ?r39
            case h39 => (intro w hSw; (try dsimp only at hSw); go_simp; try with_reducible rfl)
            try simp only [Act.put, List.setIfInBounds_toArray, List.set_cons_zero, List.set_cons_succ]
            refine reg_call (i := 11) (by kernel_rfl) rfl (fun K hK => ?_)
            go_simp
            replace st := st.ag
            generalize wd.heap.size = gb at st ⊢
            generalize wd.alloc (.cells #[.slice none 0 0, .slice none 0 0, .int .i64 0, .int .i64 0, .slice none 0 0] 65) = wd at st ⊢
            refine hK.out _ _ ?_ (fun hHeld => ?_)
            · exact ⟨st.Rb.cell 2, st.Rb.cell 3, st.Rb.cell 4⟩
            clear hK K
            try simp only [Act.put, List.setIfInBounds_toArray, List.set_cons_zero, List.set_cons_succ]
            refine reg_call (i := 12) (by kernel_rfl) rfl (fun K hK => ?_)
            rw [if_pos (show Region.wanted _ _ = true by kernel_rfl)]
            refine wp_store_mid 65 _ _ rfl gb 0 #[.slice (some ⟨b7, 0, none⟩) 0 0, .slice (some ⟨b8, 0, none⟩) 0 0, .int .i64 jp, .int .i64 on, .slice A16 next.length c16] rfl rfl (row_there (st.hg gb (by simp)) 5 (by decide)) size_block (by simp [Value.oneCell']) ?_
            rw [set5_eq]
            have R5 := row_far5 st.Rb st.gne
            refine hK.out _ _ ?_ (fun hHeld => ?_)
            · exact ⟨(R5 _ _ _ _ _).cell 2, (R5 _ _ _ _ _).cell 3, (R5 _ _ _ _ _).cell 4⟩
            clear hK K
            try simp only [Act.put, List.setIfInBounds_toArray, List.set_cons_zero, List.set_cons_succ]
            refine wpAnyH_done (by kernel_rfl) ?_ _
            go_wp2_with fail
            go_meet
            exact st.fin jp on
          go_simp
          replace st := st.ag
          generalize wd.heap.size = gb at st ⊢
          generalize wd.alloc (.cells #[.slice none 0 0, .slice none 0 0, .int .i64 0, .int .i64 0, .slice none 0 0] 65) = wd at st ⊢
          refine hK.out _ _ ?_ (fun hHeld => ?_)
          · exact ⟨st.Rb.cell 2, st.Rb.cell 3, st.Rb.cell 4⟩
          clear hK K
          try simp only [Act.put, List.setIfInBounds_toArray, List.set_cons_zero, List.set_cons_succ]
          refine reg_call (i := 0) (by kernel_rfl) rfl (fun K hK => ?_)
          go_simp
          replace st := st.a0
          generalize wd.heap.size = b7 at st ⊢
          generalize wd.alloc (.cells #[] 69) = wd at st ⊢
          refine hK.out _ _ ?_ (fun hHeld => ?_)
          · exact ⟨st.Rb.cell 2, st.Rb.cell 3, st.Rb.cell 4⟩
          clear hK K
          try simp only [Act.put, List.setIfInBounds_toArray, List.set_cons_zero, List.set_cons_succ]
          refine reg_take (i := 10) (v := ?v40) rfl (by kernel_rfl) (by kernel_rfl) (by kernel_rfl) (fun _ _ _ h => h) (Or.inl ⟨by kernel_rfl, ?h40⟩) (by assumption) ?r40
          case h40 => (intro w hSw; (try dsimp only at hSw); go_simp; try with_reducible rfl)
          try simp only [Act.put, List.setIfInBounds_toArray, List.set_cons_zero, List.set_cons_succ]
          refine reg_call (i := 12) (by kernel_rfl) rfl (fun K hK => ?_)
          rw [if_pos (show Region.wanted _ _ = true by kernel_rfl)]
          refine wp_store_mid 65 _ _ rfl gb 0 #[.slice (some ⟨b7, 0, none⟩) 0 0, .slice (some ⟨b8, 0, none⟩) 0 0, .int .i64 jp, .int .i64 on, .slice A16 next.length c16] rfl rfl (row_there (st.hg gb (by simp)) 5 (by decide)) size_block (by simp [Value.oneCell']) ?_
          rw [set5_eq]
          have R5 := row_far5 st.Rb st.gne
          refine hK.out _ _ ?_ (fun hHeld => ?_)
          · exact ⟨(R5 _ _ _ _ _).cell 2, (R5 _ _ _ _ _).cell 3, (R5 _ _ _ _ _).cell 4⟩
          clear hK K
          try simp only [Act.put, List.setIfInBounds_toArray, List.set_cons_zero, List.set_cons_succ]
          refine wpAnyH_done (by kernel_rfl) ?_ _
          go_wp2_with fail
          go_meet
          exact st.fin jp on
        go_simp
        replace st := st.ag
        generalize wd.heap.size = gb at st ⊢
        generalize wd.alloc (.cells #[.slice none 0 0, .slice none 0 0, .int .i64 0, .int .i64 0, .slice none 0 0] 65) = wd at st ⊢
        refine hK.out _ _ ?_ (fun hHeld => ?_)
        · exact ⟨st.Rb.cell 2, st.Rb.cell 3, st.Rb.cell 4⟩
        clear hK K
        try simp only [Act.put, List.setIfInBounds_toArray, List.set_cons_zero, List.set_cons_succ]
        refine reg_call2 (i := 0) (j := 9) (by kernel_rfl) rfl rfl (fun K hK => ?_) (fun K hK => ?_)
        · go_simp
          replace st := st.a0
          generalize wd.heap.size = b7 at st ⊢
          generalize wd.alloc (.cells #[] 69) = wd at st ⊢
          refine hK.out _ _ ?_ (fun hHeld => ?_)
          · exact ⟨st.Rb.cell 2, st.Rb.cell 3, st.Rb.cell 4⟩
          clear hK K
          try simp only [Act.put, List.setIfInBounds_toArray, List.set_cons_zero, List.set_cons_succ]
          refine reg_call (i := 9) (by kernel_rfl) rfl (fun K hK => ?_)
          obtain ⟨A16, c16, f4, wq, r9, st⟩ := st.ap ⟨a6, 0, none⟩ (h4.below st.hbl hB) hl4
          rw [if_pos (show Region.wanted _ _ = true by kernel_rfl)]
          refine Lib.wp_append_run_sl _ _ _ 63 rfl _ _ rfl rfl r9 ?_
          clear r9
          obtain ⟨wd, hwd⟩ : ∃ x, x = wq := ⟨_, rfl⟩
          subst hwd
          refine hK.out _ _ ?_ (fun hHeld => ?_)
          · exact ⟨st.Rb.cell 2, st.Rb.cell 3, st.Rb.cell 4⟩
          clear hK K
          try simp only [Act.put, List.setIfInBounds_toArray, List.set_cons_zero, List.set_cons_succ]
          refine reg_take (i := 10) (v := ?v41) rfl (by kernel_rfl) (by kernel_rfl) (by kernel_rfl) (fun _ _ _ h => h) (Or.inl ⟨by kernel_rfl, ?h41⟩) (by assumption) ?r41
          case h41 => (intro w hSw; (try dsimp only at hSw); go_simp; try with_reducible rfl)
          try simp only [Act.put, List.setIfInBounds_toArray, List.set_cons_zero, List.set_cons_succ]
          refine reg_call (i := 12) (by kernel_rfl) rfl (fun K hK => ?_)
          rw [if_pos (show Region.wanted _ _ = true by kernel_rfl)]
          refine wp_store_mid 65 _ _ rfl gb 0 #[.slice (some ⟨b7, 0, none⟩) 0 0, .slice (some ⟨b8, 0, none⟩) 0 0, .int .i64 jp, .int .i64 on, .slice A16 next.length c16] rfl rfl (row_there (st.hg gb (by simp)) 5 (by decide)) size_block (by simp [Value.oneCell']) ?_
          rw [set5_eq]
          have R5 := row_far5 st.Rb st.gne
          refine hK.out _ _ ?_ (fun hHeld => ?_)
          · exact ⟨(R5 _ _ _ _ _).cell 2, (R5 _ _ _ _ _).cell 3, (R5 _ _ _ _ _).cell 4⟩
          clear hK K
          try simp only [Act.put, List.setIfInBounds_toArray, List.set_cons_zero, List.set_cons_succ]
          refine wpAnyH_done (by kernel_rfl) ?_ _
          go_wp2_with fail
          go_meet
          exact st.fin jp on
        obtain ⟨A16, c16, f4, wq, r9, st⟩ := st.ap ⟨a6, 0, none⟩ (h4.below st.hbl hB) hl4
        rw [if_pos (show Region.wanted _ _ = true by kernel_rfl)]
        refine Lib.wp_append_run_sl _ _ _ 63 rfl _ _ rfl rfl r9 ?_
        clear r9
        obtain ⟨wd, hwd⟩ : ∃ x, x = wq := ⟨_, rfl⟩
        subst hwd
        refine hK.out _ _ ?_ (fun hHeld => ?_)
        · exact ⟨st.Rb.cell 2, st.Rb.cell 3, st.Rb.cell 4⟩
        clear hK K
        try simp only [Act.put, List.setIfInBounds_toArray, List.set_cons_zero, List.set_cons_succ]
        refine reg_call (i := 0) (by kernel_rfl) rfl (fun K hK => ?_)
        go_simp
        replace st := st.a0
        generalize wd.heap.size = b7 at st ⊢
        generalize wd.alloc (.cells #[] 69) = wd at st ⊢
        refine hK.out _ _ ?_ (fun hHeld => ?_)
        · exact ⟨st.Rb.cell 2, st.Rb.cell 3, st.Rb.cell 4⟩
        clear hK K
        try simp only [Act.put, List.setIfInBounds_toArray, List.set_cons_zero, List.set_cons_succ]
        refine reg_take (i := 10) (v := ?v42) rfl (by kernel_rfl) (by kernel_rfl) (by kernel_rfl) (fun _ _ _ h => h) (Or.inl ⟨by kernel_rfl, ?h42⟩) (by assumption) ?r42
        case h42 => (intro w hSw; (try dsimp only at hSw); go_simp; try with_reducible rfl)
        try simp only [Act.put, List.setIfInBounds_toArray, List.set_cons_zero, List.set_cons_succ]
        refine reg_call (i := 12) (by kernel_rfl) rfl (fun K hK => ?_)
        rw [if_pos (show Region.wanted _ _ = true by kernel_rfl)]
        refine wp_store_mid 65 _ _ rfl gb 0 #[.slice (some ⟨b7, 0, none⟩) 0 0, .slice (some ⟨b8, 0, none⟩) 0 0, .int .i64 jp, .int .i64 on, .slice A16 next.length c16] rfl rfl (row_there (st.hg gb (by simp)) 5 (by decide)) size_block (by simp [Value.oneCell']) ?_
        rw [set5_eq]
        have R5 := row_far5 st.Rb st.gne
        refine hK.out _ _ ?_ (fun hHeld => ?_)
        · exact ⟨(R5 _ _ _ _ _).cell 2, (R5 _ _ _ _ _).cell 3, (R5 _ _ _ _ _).cell 4⟩
        clear hK K
        try simp only [Act.put, List.setIfInBounds_toArray, List.set_cons_zero, List.set_cons_succ]
        refine wpAnyH_done (by kernel_rfl) ?_ _
        go_wp2_with fail
        go_meet
        exact st.fin jp on
      · obtain ⟨A16, c16, f4, wq, r9, st⟩ := st.ap ⟨a6, 0, none⟩ (h4.below st.hbl hB) hl4
        rw [if_pos (show Region.wanted _ _ = true by kernel_rfl)]
        refine Lib.wp_append_run_sl _ _ _ 63 rfl _ _ rfl rfl r9 ?_
        clear r9
        obtain ⟨wd, hwd⟩ : ∃ x, x = wq := ⟨_, rfl⟩
        subst hwd
        refine hK.out _ _ ?_ (fun hHeld => ?_)
        · exact ⟨st.Rb.cell 2, st.Rb.cell 3, st.Rb.cell 4⟩
        clear hK K
        try simp only [Act.put, List.setIfInBounds_toArray, List.set_cons_zero, List.set_cons_succ]
        refine reg_call3 (i := 0) (j := 1) (k := 11) (by kernel_rfl) rfl rfl rfl (fun K hK => ?_) (fun K hK => ?_) (fun K hK => ?_)
        · go_simp
          replace st := st.a0
          generalize wd.heap.size = b7 at st ⊢
          generalize wd.alloc (.cells #[] 69) = wd at st ⊢
          refine hK.out _ _ ?_ (fun hHeld => ?_)
          · exact ⟨st.Rb.cell 2, st.Rb.cell 3, st.Rb.cell 4⟩
          clear hK K
          try simp only [Act.put, List.setIfInBounds_toArray, List.set_cons_zero, List.set_cons_succ]
          refine reg_call2 (i := 1) (j := 11) (by kernel_rfl) rfl rfl (fun K hK => ?_) (fun K hK => ?_)
          · go_simp
            replace st := st.a1
            generalize wd.heap.size = b8 at st ⊢
            generalize wd.alloc (.cells #[] 72) = wd at st ⊢
            refine hK.out _ _ ?_ (fun hHeld => ?_)
            · exact ⟨st.Rb.cell 2, st.Rb.cell 3, st.Rb.cell 4⟩
            clear hK K
            try simp only [Act.put, List.setIfInBounds_toArray, List.set_cons_zero, List.set_cons_succ]
            refine reg_take (i := 10) (v := ?v43) rfl (by kernel_rfl) (by kernel_rfl) (by kernel_rfl) (fun _ _ _ h => h) (Or.inl ⟨by kernel_rfl, ?h43⟩) (by assumption) ?r43
            case h43 => (intro w hSw; (try dsimp only at hSw); go_simp; try with_reducible rfl)
            try simp only [Act.put, List.setIfInBounds_toArray, List.set_cons_zero, List.set_cons_succ]
            refine reg_call (i := 11) (by kernel_rfl) rfl (fun K hK => ?_)
            go_simp
            replace st := st.ag
            generalize wd.heap.size = gb at st ⊢
            generalize wd.alloc (.cells #[.slice none 0 0, .slice none 0 0, .int .i64 0, .int .i64 0, .slice none 0 0] 65) = wd at st ⊢
            refine hK.out _ _ ?_ (fun hHeld => ?_)
            · exact ⟨st.Rb.cell 2, st.Rb.cell 3, st.Rb.cell 4⟩
            clear hK K
            try simp only [Act.put, List.setIfInBounds_toArray, List.set_cons_zero, List.set_cons_succ]
            refine reg_call (i := 12) (by kernel_rfl) rfl (fun K hK => ?_)
            rw [if_pos (show Region.wanted _ _ = true by kernel_rfl)]
            refine wp_store_mid 65 _ _ rfl gb 0 #[.slice (some ⟨b7, 0, none⟩) 0 0, .slice (some ⟨b8, 0, none⟩) 0 0, .int .i64 jp, .int .i64 on, .slice A16 next.length c16] rfl rfl (row_there (st.hg gb (by simp)) 5 (by decide)) size_block (by simp [Value.oneCell']) ?_
            rw [set5_eq]
            have R5 := row_far5 st.Rb st.gne
            refine hK.out _ _ ?_ (fun hHeld => ?_)
            · exact ⟨(R5 _ _ _ _ _).cell 2, (R5 _ _ _ _ _).cell 3, (R5 _ _ _ _ _).cell 4⟩
            clear hK K
            try simp only [Act.put, List.setIfInBounds_toArray, List.set_cons_zero, List.set_cons_succ]
            refine wpAnyH_done (by kernel_rfl) ?_ _
            go_wp2_with fail
            go_meet
            exact st.fin jp on
          go_simp
          replace st := st.ag
          generalize wd.heap.size = gb at st ⊢
          generalize wd.alloc (.cells #[.slice none 0 0, .slice none 0 0, .int .i64 0, .int .i64 0, .slice none 0 0] 65) = wd at st ⊢
          refine hK.out _ _ ?_ (fun hHeld => ?_)
          · exact ⟨st.Rb.cell 2, st.Rb.cell 3, st.Rb.cell 4⟩
          clear hK K
          try simp only [Act.put, List.setIfInBounds_toArray, List.set_cons_zero, List.set_cons_succ]
          refine reg_call (i := 1) (by kernel_rfl) rfl (fun K hK => ?_)
          go_simp
          replace st := st.a1
          generalize wd.heap.size = b8 at st ⊢
          generalize wd.alloc (.cells #[] 72) = wd at st ⊢
          refine hK.out _ _ ?_ (fun hHeld => ?_)
          · exact ⟨st.Rb.cell 2, st.Rb.cell 3, st.Rb.cell 4⟩
          clear hK K
          try simp only [Act.put, List.setIfInBounds_toArray, List.set_cons_zero, List.set_cons_succ]
          refine reg_take (i := 10) (v := ?v44) rfl (by kernel_rfl) (by kernel_rfl) (by kernel_rfl) (fun _ _ _ h => h) (Or.inl ⟨by kernel_rfl, ?h44⟩) (by assumption) ?r44
          case h44 => (intro w hSw; (try dsimp only at hSw); go_simp; try with_reducible rfl)
          try simp only [Act.put, List.setIfInBounds_toArray, List.set_cons_zero, List.set_cons_succ]
          refine reg_call (i := 12) (by kernel_rfl) rfl (fun K hK => ?_)
          rw [if_pos (show Region.wanted _ _ = true by kernel_rfl)]
          refine wp_store_mid 65 _ _ rfl gb 0 #[.slice (some ⟨b7, 0, none⟩) 0 0, .slice (some ⟨b8, 0, none⟩) 0 0, .int .i64 jp, .int .i64 on, .slice A16 next.length c16] rfl rfl (row_there (st.hg gb (by simp)) 5 (by decide)) size_block (by simp [Value.oneCell']) ?_
          rw [set5_eq]
          have R5 := row_far5 st.Rb st.gne
          refine hK.out _ _ ?_ (fun hHeld => ?_)
          · exact ⟨(R5 _ _ _ _ _).cell 2, (R5 _ _ _ _ _).cell 3, (R5 _ _ _ _ _).cell 4⟩
          clear hK K
          try simp only [Act.put, List.setIfInBounds_toArray, List.set_cons_zero, List.set_cons_succ]
          refine wpAnyH_done (by kernel_rfl) ?_ _
          go_wp2_with fail
          go_meet
          exact st.fin jp on
        · go_simp
          replace st := st.a1
          generalize wd.heap.size = b8 at st ⊢
          generalize wd.alloc (.cells #[] 72) = wd at st ⊢
          refine hK.out _ _ ?_ (fun hHeld => ?_)
          · exact ⟨st.Rb.cell 2, st.Rb.cell 3, st.Rb.cell 4⟩
          clear hK K
          try simp only [Act.put, List.setIfInBounds_toArray, List.set_cons_zero, List.set_cons_succ]
          refine reg_call2 (i := 0) (j := 11) (by kernel_rfl) rfl rfl (fun K hK => ?_) (fun K hK => ?_)
          · go_simp
            replace st := st.a0
            generalize wd.heap.size = b7 at st ⊢
            generalize wd.alloc (.cells #[] 69) = wd at st ⊢
            refine hK.out _ _ ?_ (fun hHeld => ?_)
            · exact ⟨st.Rb.cell 2, st.Rb.cell 3, st.Rb.cell 4⟩
            clear hK K
            try simp only [Act.put, List.setIfInBounds_toArray, List.set_cons_zero, List.set_cons_succ]
            refine reg_take (i := 10) (v := ?v45) rfl (by kernel_rfl) (by kernel_rfl) (by kernel_rfl) (fun _ _ _ h => h) (Or.inl ⟨by kernel_rfl, ?h45⟩) (by assumption) ?r45
            case h45 => (intro w hSw; (try dsimp only at hSw); go_simp; try with_reducible rfl)
            try simp only [Act.put, List.setIfInBounds_toArray, List.set_cons_zero, List.set_cons_succ]
            refine reg_call (i := 11) (by kernel_rfl) rfl (fun K hK => ?_)
            go_simp
            replace st := st.ag
            generalize wd.heap.size = gb at st ⊢
            generalize wd.alloc (.cells #[.slice none 0 0, .slice none 0 0, .int .i64 0, .int .i64 0, .slice none 0 0] 65) = wd at st ⊢
            refine hK.out _ _ ?_ (fun hHeld => ?_)
            · exact ⟨st.Rb.cell 2, st.Rb.cell 3, st.Rb.cell 4⟩
            clear hK K
            try simp only [Act.put, List.setIfInBounds_toArray, List.set_cons_zero, List.set_cons_succ]
            refine reg_call (i := 12) (by kernel_rfl) rfl (fun K hK => ?_)
            rw [if_pos (show Region.wanted _ _ = true by kernel_rfl)]
            refine wp_store_mid 65 _ _ rfl gb 0 #[.slice (some ⟨b7, 0, none⟩) 0 0, .slice (some ⟨b8, 0, none⟩) 0 0, .int .i64 jp, .int .i64 on, .slice A16 next.length c16] rfl rfl (row_there (st.hg gb (by simp)) 5 (by decide)) size_block (by simp [Value.oneCell']) ?_
            rw [set5_eq]
            have R5 := row_far5 st.Rb st.gne
            refine hK.out _ _ ?_ (fun hHeld => ?_)
            · exact ⟨(R5 _ _ _ _ _).cell 2, (R5 _ _ _ _ _).cell 3, (R5 _ _ _ _ _).cell 4⟩
            clear hK K
            try simp only [Act.put, List.setIfInBounds_toArray, List.set_cons_zero, List.set_cons_succ]
            refine wpAnyH_done (by kernel_rfl) ?_ _
            go_wp2_with fail
            go_meet
            exact st.fin jp on
          go_simp
          replace st := st.ag
          generalize wd.heap.size = gb at st ⊢
          generalize wd.alloc (.cells #[.slice none 0 0, .slice none 0 0, .int .i64 0, .int .i64 0, .slice none 0 0] 65) = wd at st ⊢
          refine hK.out _ _ ?_ (fun hHeld => ?_)
          · exact ⟨st.Rb.cell 2, st.Rb.cell 3, st.Rb.cell 4⟩
          clear hK K
          try simp only [Act.put, List.setIfInBounds_toArray, List.set_cons_zero, List.set_cons_succ]
          refine reg_call (i := 0) (by kernel_rfl) rfl (fun K hK => ?_)
          go_simp
          replace st := st.a0
          generalize wd.heap.size = b7 at st ⊢
          generalize wd.alloc (.cells #[] 69) = wd at st ⊢
          refine hK.out _ _ ?_ (fun hHeld => ?_)
          · exact ⟨st.Rb.cell 2, st.Rb.cell 3, st.Rb.cell 4⟩
          clear hK K
          try simp only [Act.put, List.setIfInBounds_toArray, List.set_cons_zero, List.set_cons_succ]
          refine reg_take (i := 10) (v := ?v46) rfl (by kernel_rfl) (by kernel_rfl) (by kernel_rfl) (fun _ _ _ h => h) (Or.inl ⟨by kernel_rfl, ?h46⟩) (by assumption) ?r46
          case h46 => (intro w hSw; (try dsimp only at hSw); go_simp; try with_reducible rfl)
          try simp only [Act.put, List.setIfInBounds_toArray, List.set_cons_zero, List.set_cons_succ]
          refine reg_call (i := 12) (by kernel_rfl) rfl (fun K hK => ?_)
          rw [if_pos (show Region.wanted _ _ = true by kernel_rfl)]
          refine wp_store_mid 65 _ _ rfl gb 0 #[.slice (some ⟨b7, 0, none⟩) 0 0, .slice (some ⟨b8, 0, none⟩) 0 0, .int .i64 jp, .int .i64 on, .slice A16 next.length c16] rfl rfl (row_there (st.hg gb (by simp)) 5 (by decide)) size_block (by simp [Value.oneCell']) ?_
          rw [set5_eq]
          have R5 := row_far5 st.Rb st.gne
          refine hK.out _ _ ?_ (fun hHeld => ?_)
          · exact ⟨(R5 _ _ _ _ _).cell 2, (R5 _ _ _ _ _).cell 3, (R5 _ _ _ _ _).cell 4⟩
          clear hK K
          try simp only [Act.put, List.setIfInBounds_toArray, List.set_cons_zero, List.set_cons_succ]
          refine wpAnyH_done (by kernel_rfl) ?_ _
          go_wp2_with fail
          go_meet
          exact st.fin jp on
        go_simp
        replace st := st.ag
        generalize wd.heap.size = gb at st ⊢
        generalize wd.alloc (.cells #[.slice none 0 0, .slice none 0 0, .int .i64 0, .int .i64 0, .slice none 0 0] 65) = wd at st ⊢
        refine hK.out _ _ ?_ (fun hHeld => ?_)
        · exact ⟨st.Rb.cell 2, st.Rb.cell 3, st.Rb.cell 4⟩
        clear hK K
        try simp only [Act.put, List.setIfInBounds_toArray, List.set_cons_zero, List.set_cons_succ]
        refine reg_call2 (i := 0) (j := 1) (by kernel_rfl) rfl rfl (fun K hK => ?_) (fun K hK => ?_)
        · go_simp
          replace st := st.a0
          generalize wd.heap.size = b7 at st ⊢
          generalize wd.alloc (.cells #[] 69) = wd at st ⊢
          refine hK.out _ _ ?_ (fun hHeld => ?_)
          · exact ⟨st.Rb.cell 2, st.Rb.cell 3, st.Rb.cell 4⟩
          clear hK K
          try simp only [Act.put, List.setIfInBounds_toArray, List.set_cons_zero, List.set_cons_succ]
          refine reg_call (i := 1) (by kernel_rfl) rfl (fun K hK => ?_)
          go_simp
          replace st := st.a1
          generalize wd.heap.size = b8 at st ⊢
          generalize wd.alloc (.cells #[] 72) = wd at st ⊢
          refine hK.out _ _ ?_ (fun hHeld => ?_)
          · exact ⟨st.Rb.cell 2, st.Rb.cell 3, st.Rb.cell 4⟩
          clear hK K
          try simp only [Act.put, List.setIfInBounds_toArray, List.set_cons_zero, List.set_cons_succ]
          refine reg_take (i := 10) (v := ?v47) rfl (by kernel_rfl) (by kernel_rfl) (by kernel_rfl) (fun _ _ _ h => h) (Or.inl ⟨by kernel_rfl, ?h47⟩) (by assumption) ?r47
          case h47 => (intro w hSw; (try dsimp only at hSw); go_simp; try with_reducible rfl)
          try simp only [Act.put, List.setIfInBounds_toArray, List.set_cons_zero, List.set_cons_succ]
          refine reg_call (i := 12) (by kernel_rfl) rfl (fun K hK => ?_)
          rw [if_pos (show Region.wanted _ _ = true by kernel_rfl)]
          refine wp_store_mid 65 _ _ rfl gb 0 #[.slice (some ⟨b7, 0, none⟩) 0 0, .slice (some ⟨b8, 0, none⟩) 0 0, .int .i64 jp, .int .i64 on, .slice A16 next.length c16] rfl rfl (row_there (st.hg gb (by simp)) 5 (by decide)) size_block (by simp [Value.oneCell']) ?_
          rw [set5_eq]
          have R5 := row_far5 st.Rb st.gne
          refine hK.out _ _ ?_ (fun hHeld => ?_)
          · exact ⟨(R5 _ _ _ _ _).cell 2, (R5 _ _ _ _ _).cell 3, (R5 _ _ _ _ _).cell 4⟩
          clear hK K
          try simp only [Act.put, List.setIfInBounds_toArray, List.set_cons_zero, List.set_cons_succ]
          refine wpAnyH_done (by kernel_rfl) ?_ _
          go_wp2_with fail
          go_meet
          exact st.fin jp on
        go_simp
        replace st := st.a1
        generalize wd.heap.size = b8 at st ⊢
        generalize wd.alloc (.cells #[] 72) = wd at st ⊢
        refine hK.out _ _ ?_ (fun hHeld => ?_)
        · exact ⟨st.Rb.cell 2, st.Rb.cell 3, st.Rb.cell 4⟩
        clear hK K
        try simp only [Act.put, List.setIfInBounds_toArray, List.set_cons_zero, List.set_cons_succ]
        refine reg_call (i := 0) (by kernel_rfl) rfl (fun K hK => ?_)
        go_simp
        replace st := st.a0
        generalize wd.heap.size = b7 at st ⊢
        generalize wd.alloc (.cells #[] 69) = wd at st ⊢
        refine hK.out _ _ ?_ (fun hHeld => ?_)
        · exact ⟨st.Rb.cell 2, st.Rb.cell 3, st.Rb.cell 4⟩
        clear hK K
        try simp only [Act.put, List.setIfInBounds_toArray, List.set_cons_zero, List.set_cons_succ]
        refine reg_take (i := 10) (v := ?v48) rfl (by kernel_rfl) (by kernel_rfl) (by kernel_rfl) (fun _ _ _ h => h) (Or.inl ⟨by kernel_rfl, ?h48⟩) (by assumption) ?r48
        case h48 => (intro w hSw; (try dsimp only at hSw); go_simp; try with_reducible rfl)
        try simp only [Act.put, List.setIfInBounds_toArray, List.set_cons_zero, List.set_cons_succ]
        refine reg_call (i := 12) (by kernel_rfl) rfl (fun K hK => ?_)
        rw [if_pos (show Region.wanted _ _ = true by kernel_rfl)]
        refine wp_store_mid 65 _ _ rfl gb 0 #[.slice (some ⟨b7, 0, none⟩) 0 0, .slice (some ⟨b8, 0, none⟩) 0 0, .int .i64 jp, .int .i64 on, .slice A16 next.length c16] rfl rfl (row_there (st.hg gb (by simp)) 5 (by decide)) size_block (by simp [Value.oneCell']) ?_
        rw [set5_eq]
        have R5 := row_far5 st.Rb st.gne
        refine hK.out _ _ ?_ (fun hHeld => ?_)
        · exact ⟨(R5 _ _ _ _ _).cell 2, (R5 _ _ _ _ _).cell 3, (R5 _ _ _ _ _).cell 4⟩
        clear hK K
        try simp only [Act.put, List.setIfInBounds_toArray, List.set_cons_zero, List.set_cons_succ]
        refine wpAnyH_done (by kernel_rfl) ?_ _
        go_wp2_with fail
        go_meet
        exact st.fin jp on
      go_simp
      replace st := st.ag
      generalize wd.heap.size = gb at st ⊢
      generalize wd.alloc (.cells #[.slice none 0 0, .slice none 0 0, .int .i64 0, .int .i64 0, .slice none 0 0] 65) = wd at st ⊢
      refine hK.out _ _ ?_ (fun hHeld => ?_)
      · exact ⟨st.Rb.cell 2, st.Rb.cell 3, st.Rb.cell 4⟩
      clear hK K
      try simp only [Act.put, List.setIfInBounds_toArray, List.set_cons_zero, List.set_cons_succ]
      refine reg_call3 (i := 0) (j := 1) (k := 9) (by kernel_rfl) rfl rfl rfl (fun K hK => ?_) (fun K hK => ?_) (fun K hK => ?_)
      · go_simp
        replace st := st.a0
        generalize wd.heap.size = b7 at st ⊢
        generalize wd.alloc (.cells #[] 69) = wd at st ⊢
        refine hK.out _ _ ?_ (fun hHeld => ?_)
        · exact ⟨st.Rb.cell 2, st.Rb.cell 3, st.Rb.cell 4⟩
        clear hK K
        try simp only [Act.put, List.setIfInBounds_toArray, List.set_cons_zero, List.set_cons_succ]
        refine reg_call2 (i := 1) (j := 9) (by kernel_rfl) rfl rfl (fun K hK => ?_) (fun K hK => ?_)
        · go_simp
          replace st := st.a1
          generalize wd.heap.size = b8 at st ⊢
          generalize wd.alloc (.cells #[] 72) = wd at st ⊢
          refine hK.out _ _ ?_ (fun hHeld => ?_)
          · exact ⟨st.Rb.cell 2, st.Rb.cell 3, st.Rb.cell 4⟩
          clear hK K
          try simp only [Act.put, List.setIfInBounds_toArray, List.set_cons_zero, List.set_cons_succ]
          refine reg_call (i := 9) (by kernel_rfl) rfl (fun K hK => ?_)
          obtain ⟨A16, c16, f4, wq, r9, st⟩ := st.ap ⟨a6, 0, none⟩ (h4.below st.hbl hB) hl4
          rw [if_pos (show Region.wanted _ _ = true by kernel_rfl)]
          refine Lib.wp_append_run_sl _ _ _ 63 rfl _ _ rfl rfl r9 ?_
          clear r9
          obtain ⟨wd, hwd⟩ : ∃ x, x = wq := ⟨_, rfl⟩
          subst hwd
          refine hK.out _ _ ?_ (fun hHeld => ?_)
          · exact ⟨st.Rb.cell 2, st.Rb.cell 3, st.Rb.cell 4⟩
          clear hK K
          try simp only [Act.put, List.setIfInBounds_toArray, List.set_cons_zero, List.set_cons_succ]
          refine reg_take (i := 10) (v := ?v49) rfl (by kernel_rfl) (by kernel_rfl) (by kernel_rfl) (fun _ _ _ h => h) (Or.inl ⟨by kernel_rfl, ?h49⟩) (by assumption) ?r49
          case h49 => (intro w hSw; (try dsimp only at hSw); go_simp; try with_reducible rfl)
          try simp only [Act.put, List.setIfInBounds_toArray, List.set_cons_zero, List.set_cons_succ]
          refine reg_call (i := 12) (by kernel_rfl) rfl (fun K hK => ?_)
          rw [if_pos (show Region.wanted _ _ = true by kernel_rfl)]
          refine wp_store_mid 65 _ _ rfl gb 0 #[.slice (some ⟨b7, 0, none⟩) 0 0, .slice (some ⟨b8, 0, none⟩) 0 0, .int .i64 jp, .int .i64 on, .slice A16 next.length c16] rfl rfl (row_there (st.hg gb (by simp)) 5 (by decide)) size_block (by simp [Value.oneCell']) ?_
          rw [set5_eq]
          have R5 := row_far5 st.Rb st.gne
          refine hK.out _ _ ?_ (fun hHeld => ?_)
          · exact ⟨(R5 _ _ _ _ _).cell 2, (R5 _ _ _ _ _).cell 3, (R5 _ _ _ _ _).cell 4⟩
          clear hK K
          try simp only [Act.put, List.setIfInBounds_toArray, List.set_cons_zero, List.set_cons_succ]
          refine wpAnyH_done (by kernel_rfl) ?_ _
          go_wp2_with fail
          go_meet
          exact st.fin jp on
        obtain ⟨A16, c16, f4, wq, r9, st⟩ := st.ap ⟨a6, 0, none⟩ (h4.below st.hbl hB) hl4
        rw [if_pos (show Region.wanted _ _ = true by kernel_rfl)]
        refine Lib.wp_append_run_sl _ _ _ 63 rfl _ _ rfl rfl r9 ?_
        clear r9
        obtain ⟨wd, hwd⟩ : ∃ x, x = wq := ⟨_, rfl⟩
        subst hwd
        refine hK.out _ _ ?_ (fun hHeld => ?_)
        · exact ⟨st.Rb.cell 2, st.Rb.cell 3, st.Rb.cell 4⟩
        clear hK K
        try simp only [Act.put, List.setIfInBounds_toArray, List.set_cons_zero, List.set_cons_succ]
        refine reg_call (i := 1) (by kernel_rfl) rfl (fun K hK => ?_)
        go_simp
        replace st := st.a1
        generalize wd.heap.size = b8 at st ⊢
        generalize wd.alloc (.cells #[] 72) = wd at st ⊢
        refine hK.out _ _ ?_ (fun hHeld => ?_)
        · exact ⟨st.Rb.cell 2, st.Rb.cell 3, st.Rb.cell 4⟩
        clear hK K
        try simp only [Act.put, List.setIfInBounds_toArray, List.set_cons_zero, List.set_cons_succ]
        refine reg_take (i := 10) (v := ?v50) rfl (by kernel_rfl) (by kernel_rfl) (by kernel_rfl) (fun _ _ _ h => h) (Or.inl ⟨by kernel_rfl, ?h50⟩) (by assumption) ?r50
        case h50 => (intro w hSw; (try dsimp only at hSw); go_simp; try with_reducible rfl)
        try simp only [Act.put, List.setIfInBounds_toArray, List.set_cons_zero, List.set_cons_succ]
        refine reg_call (i := 12) (by kernel_rfl) rfl (fun K hK => ?_)
        rw [if_pos (show Region.wanted _ _ = true by kernel_rfl)]
        refine wp_store_mid 65 _ _ rfl gb 0 #[.slice (some ⟨b7, 0, none⟩) 0 0, .slice (some ⟨b8, 0, none⟩) 0 0, .int .i64 jp, .int .i64 on, .slice A16 next.length c16] rfl rfl (row_there (st.hg gb (by simp)) 5 (by decide)) size_block (by simp [Value.oneCell']) ?_
        rw [set5_eq]
        have R5 := row_far5 st.Rb st.gne
        refine hK.out _ _ ?_ (fun hHeld => ?_)
        · exact ⟨(R5 _ _ _ _ _).cell 2, (R5 _ _ _ _ _).cell 3, (R5 _ _ _ _ _).cell 4⟩
        clear hK K
        try simp only [Act.put, List.setIfInBounds_toArray, List.set_cons_zero, List.set_cons_succ]
        refine wpAnyH_done (by kernel_rfl) ?_ _
        go_wp2_with fail
        go_meet
        exact st.fin jp on
      · go_simp
        replace st := st.a1
        generalize wd.heap.size = b8 at st ⊢
        generalize wd.alloc (.cells #[] 72) = wd at st ⊢
        refine hK.out _ _ ?_ (fun hHeld => ?_)
        · exact ⟨st.Rb.cell 2, st.Rb.cell 3, st.Rb.cell 4⟩
        clear hK K
        try simp only [Act.put, List.setIfInBounds_toArray, List.set_cons_zero, List.set_cons_succ]
        refine reg_call2 (i := 0) (j := 9) (by kernel_rfl) rfl rfl (fun K hK => ?_) (fun K hK => ?_)
        · go_simp
          replace st := st.a0
          generalize wd.heap.size = b7 at st ⊢
          generalize wd.alloc (.cells #[] 69) = wd at st ⊢
          refine hK.out _ _ ?_ (fun hHeld => ?_)
          · exact ⟨st.Rb.cell 2, st.Rb.cell 3, st.Rb.cell 4⟩
          clear hK K
          try simp only [Act.put, List.setIfInBounds_toArray, List.set_cons_zero, List.set_cons_succ]
          refine reg_call (i := 9) (by kernel_rfl) rfl (fun K hK => ?_)
          obtain ⟨A16, c16, f4, wq, r9, st⟩ := st.ap ⟨a6, 0, none⟩ (h4.below st.hbl hB) hl4
          rw [if_pos (show Region.wanted _ _ = true by kernel_rfl)]
          refine Lib.wp_append_run_sl _ _ _ 63 rfl _ _ rfl rfl r9 ?_
          clear r9
          obtain ⟨wd, hwd⟩ : ∃ x, x = wq := ⟨_, rfl⟩
          subst hwd
          refine hK.out _ _ ?_ (fun hHeld => ?_)
          · exact ⟨st.Rb.cell 2, st.Rb.cell 3, st.Rb.cell 4⟩
          clear hK K
          try simp only [Act.put, List.setIfInBounds_toArray, List.set_cons_zero, List.set_cons_succ]
          refine reg_take (i := 10) (v := ?v51) rfl (by kernel_rfl) (by kernel_rfl) (by kernel_rfl) (fun _ _ _ h => h) (Or.inl ⟨by kernel_rfl, ?h51⟩) (by assumption) ?r51
          case h51 => (intro w hSw; (try dsimp only at hSw); go_simp; try with_reducible rfl)
          try simp only [Act.put, List.setIfInBounds_toArray, List.set_cons_zero, List.set_cons_succ]
          refine reg_call (i := 12) (by kernel_rfl) rfl (fun K hK => ?_)
          rw [if_pos (show Region.wanted _ _ = true by kernel_rfl)]
          refine wp_store_mid 65 _ _ rfl gb 0 #[.slice (some ⟨b7, 0, none⟩) 0 0, .slice (some ⟨b8, 0, none⟩) 0 0, .int .i64 jp, .int .i64 on, .slice A16 next.length c16] rfl rfl (row_there (st.hg gb (by simp)) 5 (by decide)) size_block (by simp [Value.oneCell']) ?_
          rw [set5_eq]
          have R5 := row_far5 st.Rb st.gne
          refine hK.out _ _ ?_ (fun hHeld => ?_)
          · exact ⟨(R5 _ _ _ _ _).cell 2, (R5 _ _ _ _ _).cell 3, (R5 _ _ _ _ _).cell 4⟩
          clear hK K
          try simp only [Act.put, List.setIfInBounds_toArray, List.set_cons_zero, List.set_cons_succ]
          refine wpAnyH_done (by kernel_rfl) ?_ _
          go_wp2_with fail
          go_meet
          exact st.fin jp on
        obtain ⟨A16, c16, f4, wq, r9, st⟩ := st.ap ⟨a6, 0, none⟩ (h4.below st.hbl hB) hl4
        rw [if_pos (show Region.wanted _ _ = true by kernel_rfl)]
        refine Lib.wp_append_run_sl _ _ _ 63 rfl _ _ rfl rfl r9 ?_
        clear r9
        obtain ⟨wd, hwd⟩ : ∃ x, x = wq := ⟨_, rfl⟩
        subst hwd
        refine hK.out _ _ ?_ (fun hHeld => ?_)
        · exact ⟨st.Rb.cell 2, st.Rb.cell 3, st.Rb.cell 4⟩
        clear hK K
        try simp only [Act.put, List.setIfInBounds_toArray, List.set_cons_zero, List.set_cons_succ]
        refine reg_call (i := 0) (by kernel_rfl) rfl (fun K hK => ?_)
        go_simp
        replace st := st.a0
        generalize wd.heap.size = b7 at st ⊢
        generalize wd.alloc (.cells #[] 69) = wd at st ⊢
        refine hK.out _ _ ?_ (fun hHeld => ?_)
        · exact ⟨st.Rb.cell 2, st.Rb.cell 3, st.Rb.cell 4⟩
        clear hK K
        try simp only [Act.put, List.setIfInBounds_toArray, List.set_cons_zero, List.set_cons_succ]
        refine reg_take (i := 10) (v := ?v52) rfl (by kernel_rfl) (by kernel_rfl) (by kernel_rfl) (fun _ _ _ h => h) (Or.inl ⟨by kernel_rfl, ?h52⟩) (by assumption) ?r52
        case h52 => (intro w hSw; (try dsimp only at hSw); go_simp; try with_reducible rfl)
        try simp only [Act.put, List.setIfInBounds_toArray, List.set_cons_zero, List.set_cons_succ]
        refine reg_call (i := 12) (by kernel_rfl) rfl (fun K hK => ?_)
        rw [if_pos (show Region.wanted _ _ = true by kernel_rfl)]
        refine wp_store_mid 65 _ _ rfl gb 0 #[.slice (some ⟨b7, 0, none⟩) 0 0, .slice (some ⟨b8, 0, none⟩) 0 0, .int .i64 jp, .int .i64 on, .slice A16 next.length c16] rfl rfl (row_there (st.hg gb (by simp)) 5 (by decide)) size_block (by simp [Value.oneCell']) ?_
        rw [set5_eq]
        have R5 := row_far5 st.Rb st.gne
        refine hK.out _ _ ?_ (fun hHeld => ?_)
        · exact ⟨(R5 _ _ _ _ _).cell 2, (R5 _ _ _ _ _).cell 3, (R5 _ _ _ _ _).cell 4⟩
        clear hK K
        try simp only [Act.put, List.setIfInBounds_toArray, List.set_cons_zero, List.set_cons_succ]
        refine wpAnyH_done (by kernel_rfl) ?_ _
        go_wp2_with fail
        go_meet
        exact st.fin jp on
      obtain ⟨A16, c16, f4, wq, r9, st⟩ := st.ap ⟨a6, 0, none⟩ (h4.below st.hbl hB) hl4
      rw [if_pos (show Region.wanted _ _ = true by kernel_rfl)]
      refine Lib.wp_append_run_sl _ _ _ 63 rfl _ _ rfl rfl r9 ?_
      clear r9
      obtain ⟨wd, hwd⟩ : ∃ x, x = wq := ⟨_, rfl⟩
      subst hwd
      refine hK.out _ _ ?_ (fun hHeld => ?_)
      · exact ⟨st.Rb.cell 2, st.Rb.cell 3, st.Rb.cell 4⟩
      clear hK K
      try simp only [Act.put, List.setIfInBounds_toArray, List.set_cons_zero, List.set_cons_succ]
      refine reg_call2 (i := 0) (j := 1) (by kernel_rfl) rfl rfl (fun K hK => ?_) (fun K hK => ?_)
      · go_simp
        replace st := st.a0
        generalize wd.heap.size = b7 at st ⊢
        generalize wd.alloc (.cells #[] 69) = wd at st ⊢
        refine hK.out _ _ ?_ (fun hHeld => ?_)
        · exact ⟨st.Rb.cell 2, st.Rb.cell 3, st.Rb.cell 4⟩
        clear hK K
        try simp only [Act.put, List.setIfInBounds_toArray, List.set_cons_zero, List.set_cons_succ]
        refine reg_call (i := 1) (by kernel_rfl) rfl (fun K hK => ?_)
        go_simp
        replace st := st.a1
        generalize wd.heap.size = b8 at st ⊢
        generalize wd.alloc (.cells #[] 72) = wd at st ⊢
        refine hK.out _ _ ?_ (fun hHeld => ?_)
        · exact ⟨st.Rb.cell 2, st.Rb.cell 3, st.Rb.cell 4⟩
        clear hK K
        try simp only [Act.put, List.setIfInBounds_toArray, List.set_cons_zero, List.set_cons_succ]
        refine reg_take (i := 10) (v := ?v53) rfl (by kernel_rfl) (by kernel_rfl) (by kernel_rfl) (fun _ _ _ h => h) (Or.inl ⟨by kernel_rfl, ?h53⟩) (by assumption) ?r53
        case h53 => (intro w hSw; (try dsimp only at hSw); go_simp; try with_reducible rfl)
        try simp only [Act.put, List.setIfInBounds_toArray, List.set_cons_zero, List.set_cons_succ]
        refine reg_call (i := 12) (by kernel_rfl) rfl (fun K hK => ?_)
        rw [if_pos (show Region.wanted _ _ = true by kernel_rfl)]
        refine wp_store_mid 65 _ _ rfl gb 0 #[.slice (some ⟨b7, 0, none⟩) 0 0, .slice (some ⟨b8, 0, none⟩) 0 0, .int .i64 jp, .int .i64 on, .slice A16 next.length c16] rfl rfl (row_there (st.hg gb (by simp)) 5 (by decide)) size_block (by simp [Value.oneCell']) ?_
        rw [set5_eq]
        have R5 := row_far5 st.Rb st.gne
        refine hK.out _ _ ?_ (fun hHeld => ?_)
        · exact ⟨(R5 _ _ _ _ _).cell 2, (R5 _ _ _ _ _).cell 3, (R5 _ _ _ _ _).cell 4⟩
        clear hK K
        try simp only [Act.put, List.setIfInBounds_toArray, List.set_cons_zero, List.set_cons_succ]
        refine wpAnyH_done (by kernel_rfl) ?_ _
        go_wp2_with fail
        go_meet
        exact st.fin jp on
      go_simp
      replace st := st.a1
      generalize wd.heap.size = b8 at st ⊢
      generalize wd.alloc (.cells #[] 72) = wd at st ⊢
      refine hK.out _ _ ?_ (fun hHeld => ?_)
      · exact ⟨st.Rb.cell 2, st.Rb.cell 3, st.Rb.cell 4⟩
      clear hK K
      try simp only [Act.put, List.setIfInBounds_toArray, List.set_cons_zero, List.set_cons_succ]
      refine reg_call (i := 0) (by kernel_rfl) rfl (fun K hK => ?_)
      go_simp
      replace st := st.a0
      generalize wd.heap.size = b7 at st ⊢
      generalize wd.alloc (.cells #[] 69) = wd at st ⊢
      refine hK.out _ _ ?_ (fun hHeld => ?_)
      · exact ⟨st.Rb.cell 2, st.Rb.cell 3, st.Rb.cell 4⟩
      clear hK K
      try simp only [Act.put, List.setIfInBounds_toArray, List.set_cons_zero, List.set_cons_succ]
      refine reg_take (i := 10) (v := ?v54) rfl (by kernel_rfl) (by kernel_rfl) (by kernel_rfl) (fun _ _ _ h => h) (Or.inl ⟨by kernel_rfl, ?h54⟩) (by assumption) ?r54
      case h54 => (intro w hSw; (try dsimp only at hSw); go_simp; try with_reducible rfl)
      try simp only [Act.put, List.setIfInBounds_toArray, List.set_cons_zero, List.set_cons_succ]
      refine reg_call (i := 12) (by kernel_rfl) rfl (fun K hK => ?_)
      rw [if_pos (show Region.wanted _ _ = true by kernel_rfl)]
      refine wp_store_mid 65 _ _ rfl gb 0 #[.slice (some ⟨b7, 0, none⟩) 0 0, .slice (some ⟨b8, 0, none⟩) 0 0, .int .i64 jp, .int .i64 on, .slice A16 next.length c16] rfl rfl (row_there (st.hg gb (by simp)) 5 (by decide)) size_block (by simp [Value.oneCell']) ?_
      rw [set5_eq]
      have R5 := row_far5 st.Rb st.gne
      refine hK.out _ _ ?_ (fun hHeld => ?_)
      · exact ⟨(R5 _ _ _ _ _).cell 2, (R5 _ _ _ _ _).cell 3, (R5 _ _ _ _ _).cell 4⟩
      clear hK K
      try simp only [Act.put, List.setIfInBounds_toArray, List.set_cons_zero, List.set_cons_succ]
      refine wpAnyH_done (by kernel_rfl) ?_ _
      go_wp2_with fail
      go_meet
      exact st.fin jp on
    go_simp
    replace st := st.ag
    generalize wd.heap.size = gb at st ⊢
    generalize wd.alloc (.cells #[.slice none 0 0, .slice none 0 0, .int .i64 0, .int .i64 0, .slice none 0 0] 65) = wd at st ⊢
    refine hK.out _ _ ?_ (fun hHeld => ?_)
    · exact ⟨st.Rb.cell 2, st.Rb.cell 3, st.Rb.cell 4⟩
    clear hK K
    try simp only [Act.put, List.setIfInBounds_toArray, List.set_cons_zero, List.set_cons_succ]
    refine reg_call3 (i := 0) (j := 1) (k := 6) (by kernel_rfl) rfl rfl rfl (fun K hK => ?_) (fun K hK => ?_) (fun K hK => ?_)
    · go_simp
      replace st := st.a0
      generalize wd.heap.size = b7 at st ⊢
      generalize wd.alloc (.cells #[] 69) = wd at st ⊢
      refine hK.out _ _ ?_ (fun hHeld => ?_)
      · exact ⟨st.Rb.cell 2, st.Rb.cell 3, st.Rb.cell 4⟩
      clear hK K
      try simp only [Act.put, List.setIfInBounds_toArray, List.set_cons_zero, List.set_cons_succ]
      refine reg_call2 (i := 1) (j := 6) (by kernel_rfl) rfl rfl (fun K hK => ?_) (fun K hK => ?_)
      · go_simp
        replace st := st.a1
        generalize wd.heap.size = b8 at st ⊢
        generalize wd.alloc (.cells #[] 72) = wd at st ⊢
        refine hK.out _ _ ?_ (fun hHeld => ?_)
        · exact ⟨st.Rb.cell 2, st.Rb.cell 3, st.Rb.cell 4⟩
        clear hK K
        try simp only [Act.put, List.setIfInBounds_toArray, List.set_cons_zero, List.set_cons_succ]
        refine reg_call (i := 6) (by kernel_rfl) rfl (fun K hK => ?_)
        go_simp
        replace st := st.al (.cells #[] 3)
        generalize wd.heap.size = a6 at ⊢
        generalize wd.alloc (.cells #[] 3) = wd at st ⊢
        refine hK.out _ _ ?_ (fun hHeld => ?_)
        · exact ⟨st.Rb.cell 2, st.Rb.cell 3, st.Rb.cell 4⟩
        clear hK K
        try simp only [Act.put, List.setIfInBounds_toArray, List.set_cons_zero, List.set_cons_succ]
        refine reg_call (i := 9) (by kernel_rfl) rfl (fun K hK => ?_)
        obtain ⟨A16, c16, f4, wq, r9, st⟩ := st.ap ⟨a6, 0, none⟩ (h4.below st.hbl hB) hl4
        rw [if_pos (show Region.wanted _ _ = true by kernel_rfl)]
        refine Lib.wp_append_run_sl _ _ _ 63 rfl _ _ rfl rfl r9 ?_
        clear r9
        obtain ⟨wd, hwd⟩ : ∃ x, x = wq := ⟨_, rfl⟩
        subst hwd
        refine hK.out _ _ ?_ (fun hHeld => ?_)
        · exact ⟨st.Rb.cell 2, st.Rb.cell 3, st.Rb.cell 4⟩
        clear hK K
        try simp only [Act.put, List.setIfInBounds_toArray, List.set_cons_zero, List.set_cons_succ]
        refine reg_take (i := 10) (v := ?v55) rfl (by kernel_rfl) (by kernel_rfl) (by kernel_rfl) (fun _ _ _ h => h) (Or.inl ⟨by kernel_rfl, ?h55⟩) (by assumption) ?r55
        case h55 => (intro w hSw; (try dsimp only at hSw); go_simp; try with_reducible rfl)
        try simp only [Act.put, List.setIfInBounds_toArray, List.set_cons_zero, List.set_cons_succ]
        refine reg_call (i := 12) (by kernel_rfl) rfl (fun K hK => ?_)
        rw [if_pos (show Region.wanted _ _ = true by kernel_rfl)]
        refine wp_store_mid 65 _ _ rfl gb 0 #[.slice (some ⟨b7, 0, none⟩) 0 0, .slice (some ⟨b8, 0, none⟩) 0 0, .int .i64 jp, .int .i64 on, .slice A16 next.length c16] rfl rfl (row_there (st.hg gb (by simp)) 5 (by decide)) size_block (by simp [Value.oneCell']) ?_
        rw [set5_eq]
        have R5 := row_far5 st.Rb st.gne
        refine hK.out _ _ ?_ (fun hHeld => ?_)
        · exact ⟨(R5 _ _ _ _ _).cell 2, (R5 _ _ _ _ _).cell 3, (R5 _ _ _ _ _).cell 4⟩
        clear hK K
        try simp only [Act.put, List.setIfInBounds_toArray, List.set_cons_zero, List.set_cons_succ]
        refine wpAnyH_done (by kernel_rfl) ?_ _
        go_wp2_with fail
        go_meet
        exact st.fin jp on
      go_simp
      replace st := st.al (.cells #[] 3)
      generalize wd.heap.size = a6 at ⊢
      generalize wd.alloc (.cells #[] 3) = wd at st ⊢
      refine hK.out _ _ ?_ (fun hHeld => ?_)
      · exact ⟨st.Rb.cell 2, st.Rb.cell 3, st.Rb.cell 4⟩
      clear hK K
      try simp only [Act.put, List.setIfInBounds_toArray, List.set_cons_zero, List.set_cons_succ]
      refine reg_call2 (i := 1) (j := 9) (by kernel_rfl) rfl rfl (fun K hK => ?_) (fun K hK => ?_)
      · go_simp
        replace st := st.a1
        generalize wd.heap.size = b8 at st ⊢
        generalize wd.alloc (.cells #[] 72) = wd at st ⊢
        refine hK.out _ _ ?_ (fun hHeld => ?_)
        · exact ⟨st.Rb.cell 2, st.Rb.cell 3, st.Rb.cell 4⟩
        clear hK K
        try simp only [Act.put, List.setIfInBounds_toArray, List.set_cons_zero, List.set_cons_succ]
        refine reg_call (i := 9) (by kernel_rfl) rfl (fun K hK => ?_)
        obtain ⟨A16, c16, f4, wq, r9, st⟩ := st.ap ⟨a6, 0, none⟩ (h4.below st.hbl hB) hl4
        rw [if_pos (show Region.wanted _ _ = true by kernel_rfl)]
        refine Lib.wp_append_run_sl _ _ _ 63 rfl _ _ rfl rfl r9 ?_
        clear r9
        obtain ⟨wd, hwd⟩ : ∃ x, x = wq := ⟨_, rfl⟩
        subst hwd
        refine hK.out _ _ ?_ (fun hHeld => ?_)
        · exact ⟨st.Rb.cell 2, st.Rb.cell 3, st.Rb.cell 4⟩
        clear hK K
        try simp only [Act.put, List.setIfInBounds_toArray, List.set_cons_zero, List.set_cons_succ]
        refine reg_take (i := 10) (v := ?v56) rfl (by kernel_rfl) (by kernel_rfl) (by kernel_rfl) (fun _ _ _ h => h) (Or.inl ⟨by kernel_rfl, ?h56⟩) (by assumption) ?r56
        case h56 => (intro w hSw; (try dsimp only at hSw); go_simp; try with_reducible rfl)
        try simp only [Act.put, List.setIfInBounds_toArray, List.set_cons_zero, List.set_cons_succ]
        refine reg_call (i := 12) (by kernel_rfl) rfl (fun K hK => ?_)
        rw [if_pos (show Region.wanted _ _ = true by kernel_rfl)]
        refine wp_store_mid 65 _ _ rfl gb 0 #[.slice (some ⟨b7, 0, none⟩) 0 0, .slice (some ⟨b8, 0, none⟩) 0 0, .int .i64 jp, .int .i64 on, .slice A16 next.length c16] rfl rfl (row_there (st.hg gb (by simp)) 5 (by decide)) size_block (by simp [Value.oneCell']) ?_
        rw [set5_eq]
        have R5 := row_far5 st.Rb st.gne
        refine hK.out _ _ ?_ (fun hHeld => ?_)
        · exact ⟨(R5 _ _ _ _ _).cell 2, (R5 _ _ _ _ _).cell 3, (R5 _ _ _ _ _).cell 4⟩
        clear hK K
        try simp only [Act.put, List.setIfInBounds_toArray, List.set_cons_zero, List.set_cons_succ]
        refine wpAnyH_done (by kernel_rfl) ?_ _
        go_wp2_with fail
        go_meet
        exact st.fin jp on
      obtain ⟨A16, c16, f4, wq, r9, st⟩ := st.ap ⟨a6, 0, none⟩ (h4.below st.hbl hB) hl4
      rw [if_pos (show Region.wanted _ _ = true by kernel_rfl)]
      refine Lib.wp_append_run_sl _ _ _ 63 rfl _ _ rfl rfl r9 ?_
      clear r9
      obtain ⟨wd, hwd⟩ : ∃ x, x = wq := ⟨_, rfl⟩
      subst hwd
      refine hK.out _ _ ?_ (fun hHeld => ?_)
      · exact ⟨st.Rb.cell 2, st.Rb.cell 3, st.Rb.cell 4⟩
      clear hK K
      try simp only [Act.put, List.setIfInBounds_toArray, List.set_cons_zero, List.set_cons_succ]
      refine reg_call (i := 1) (by kernel_rfl) rfl (fun K hK => ?_)
      go_simp
      replace st := st.a1
      generalize wd.heap.size = b8 at st ⊢
      generalize wd.alloc (.cells #[] 72) = wd at st ⊢
      refine hK.out _ _ ?_ (fun hHeld => ?_)
      · exact ⟨st.Rb.cell 2, st.Rb.cell 3, st.Rb.cell 4⟩
      clear hK K
      try simp only [Act.put, List.setIfInBounds_toArray, List.set_cons_zero, List.set_cons_succ]
      refine reg_take (i := 10) (v := ?v57) rfl (by kernel_rfl) (by kernel_rfl) (by kernel_rfl) (fun _ _ _ h => h) (Or.inl ⟨by kernel_rfl, ?h57⟩) (by assumption) ?r57
      case h57 => (intro w hSw; (try dsimp only at hSw); go_simp; try with_reducible rfl)
      try simp only [Act.put, List.setIfInBounds_toArray, List.set_cons_zero, List.set_cons_succ]
      refine reg_call (i := 12) (by kernel_rfl) rfl (fun K hK => ?_)
      rw [if_pos (show Region.wanted _ _ = true by kernel_rfl)]
      refine wp_store_mid 65 _ _ rfl gb 0 #[.slice (some ⟨b7, 0, none⟩) 0 0, .slice (some ⟨b8, 0, none⟩) 0 0, .int .i64 jp, .int .i64 on, .slice A16 next.length c16] rfl rfl (row_there (st.hg gb (by simp)) 5 (by decide)) size_block (by simp [Value.oneCell']) ?_
      rw [set5_eq]
      have R5 := row_far5 st.Rb st.gne
      refine hK.out _ _ ?_ (fun hHeld => ?_)
      · exact ⟨(R5 _ _ _ _ _).cell 2, (R5 _ _ _ _ _).cell 3, (R5 _ _ _ _ _).cell 4⟩
      clear hK K
      try simp only [Act.put, List.setIfInBounds_toArray, List.set_cons_zero, List.set_cons_succ]
      refine wpAnyH_done (by kernel_rfl) ?_ _
      go_wp2_with fail
      go_meet
      exact st.fin jp on
    · go_simp
      replace st := st.a1
      generalize wd.heap.size = b8 at st ⊢
      generalize wd.alloc (.cells #[] 72) = wd at st ⊢
      refine hK.out _ _ ?_ (fun hHeld => ?_)
      · exact ⟨st.Rb.cell 2, st.Rb.cell 3, st.Rb.cell 4⟩
      clear hK K
      try simp only [Act.put, List.setIfInBounds_toArray, List.set_cons_zero, List.set_cons_succ]
      refine reg_call2 (i := 0) (j := 6) (by kernel_rfl) rfl rfl (fun K hK => ?_) (fun K hK => ?_)
      · go_simp
        replace st := st.a0
        generalize wd.heap.size = b7 at st ⊢
        generalize wd.alloc (.cells #[] 69) = wd at st ⊢
        refine hK.out _ _ ?_ (fun hHeld => ?_)
        · exact ⟨st.Rb.cell 2, st.Rb.cell 3, st.Rb.cell 4⟩
        clear hK K
        try simp only [Act.put, List.setIfInBounds_toArray, List.set_cons_zero, List.set_cons_succ]
        refine reg_call (i := 6) (by kernel_rfl) rfl (fun K hK => ?_)
        go_simp
        replace st := st.al (.cells #[] 3)
        generalize wd.heap.size = a6 at ⊢
        generalize wd.alloc (.cells #[] 3) = wd at st ⊢
        refine hK.out _ _ ?_ (fun hHeld => ?_)
        · exact ⟨st.Rb.cell 2, st.Rb.cell 3, st.Rb.cell 4⟩
        clear hK K
        try simp only [Act.put, List.setIfInBounds_toArray, List.set_cons_zero, List.set_cons_succ]
        refine reg_call (i := 9) (by kernel_rfl) rfl (fun K hK => ?_)
        obtain ⟨A16, c16, f4, wq, r9, st⟩ := st.ap ⟨a6, 0, none⟩ (h4.below st.hbl hB) hl4
        rw [if_pos (show Region.wanted _ _ = true by kernel_rfl)]
        refine Lib.wp_append_run_sl _ _ _ 63 rfl _ _ rfl rfl r9 ?_
        clear r9
        obtain ⟨wd, hwd⟩ : ∃ x, x = wq := ⟨_, rfl⟩
        subst hwd
        refine hK.out _ _ ?_ (fun hHeld => ?_)
        · exact ⟨st.Rb.cell 2, st.Rb.cell 3, st.Rb.cell 4⟩
        clear hK K
        try simp only [Act.put, List.setIfInBounds_toArray, List.set_cons_zero, List.set_cons_succ]
        refine reg_take (i := 10) (v := ?v58) rfl (by kernel_rfl) (by kernel_rfl) (by kernel_rfl) (fun _ _ _ h => h) (Or.inl ⟨by kernel_rfl, ?h58⟩) (by assumption) ?r58
        case h58 => (intro w hSw; (try dsimp only at hSw); go_simp; try with_reducible rfl)
        try simp only [Act.put, List.setIfInBounds_toArray, List.set_cons_zero, List.set_cons_succ]
        refine reg_call (i := 12) (by kernel_rfl) rfl (fun K hK => ?_)
        rw [if_pos (show Region.wanted _ _ = true by kernel_rfl)]
        refine wp_store_mid 65 _ _ rfl gb 0 #[.slice (some ⟨b7, 0, none⟩) 0 0, .slice (some ⟨b8, 0, none⟩) 0 0, .int .i64 jp, .int .i64 on, .slice A16 next.length c16] rfl rfl (row_there (st.hg gb (by simp)) 5 (by decide)) size_block (by simp [Value.oneCell']) ?_
        rw [set5_eq]
        have R5 := row_far5 st.Rb st.gne
        refine hK.out _ _ ?_ (fun hHeld => ?_)
        · exact ⟨(R5 _ _ _ _ _).cell 2, (R5 _ _ _ _ _).cell 3, (R5 _ _ _ _ _).cell 4⟩
        clear hK K
        try simp only [Act.put, List.setIfInBounds_toArray, List.set_cons_zero, List.set_cons_succ]
        refine wpAnyH_done (by kernel_rfl) ?_ _
        go_wp2_with fail
        go_meet
        exact st.fin jp on
      go_simp
      replace st := st.al (.cells #[] 3)
      generalize wd.heap.size = a6 at ⊢
      generalize wd.alloc (.cells #[] 3) = wd at st ⊢
      refine hK.out _ _ ?_ (fun hHeld => ?_)
      · exact ⟨st.Rb.cell 2, st.Rb.cell 3, st.Rb.cell 4⟩
      clear hK K
      try simp only [Act.put, List.setIfInBounds_toArray, List.set_cons_zero, List.set_cons_succ]
      refine reg_call2 (i := 0) (j := 9) (by kernel_rfl) rfl rfl (fun K hK => ?_) (fun K hK => ?_)
      · go_simp
        replace st := st.a0
        generalize wd.heap.size = b7 at st ⊢
        generalize wd.alloc (.cells #[] 69) = wd at st ⊢
        refine hK.out _ _ ?_ (fun hHeld => ?_)
        · exact ⟨st.Rb.cell 2, st.Rb.cell 3, st.Rb.cell 4⟩
        clear hK K
        try simp only [Act.put, List.setIfInBounds_toArray, List.set_cons_zero, List.set_cons_succ]
        refine reg_call (i := 9) (by kernel_rfl) rfl (fun K hK => ?_)
        obtain ⟨A16, c16, f4, wq, r9, st⟩ := st.ap ⟨a6, 0, none⟩ (h4.below st.hbl hB) hl4
        rw [if_pos (show Region.wanted _ _ = true by kernel_rfl)]
        refine Lib.wp_append_run_sl _ _ _ 63 rfl _ _ rfl rfl r9 ?_
        clear r9
        obtain ⟨wd, hwd⟩ : ∃ x, x = wq := ⟨_, rfl⟩
        subst hwd
        refine hK.out _ _ ?_ (fun hHeld => ?_)
        · exact ⟨st.Rb.cell 2, st.Rb.cell 3, st.Rb.cell 4⟩
        clear hK K
        try simp only [Act.put, List.setIfInBounds_toArray, List.set_cons_zero, List.set_cons_succ]
        refine reg_take (i := 10) (v := ?v59) rfl (by kernel_rfl) (by kernel_rfl) (by kernel_rfl) (fun _ _ _ h => h) (Or.inl ⟨by kernel_rfl, ?h59⟩) (by assumption) ?r59
        case h59 => (intro w hSw; (try dsimp only at hSw); go_simp; try with_reducible rfl)
        try simp only [Act.put, List.setIfInBounds_toArray, List.set_cons_zero, List.set_cons_succ]
        refine reg_call (i := 12) (by kernel_rfl) rfl (fun K hK => ?_)
        rw [if_pos (show Region.wanted _ _ = true by kernel_rfl)]
        refine wp_store_mid 65 _ _ rfl gb 0 #[.slice (some ⟨b7, 0, none⟩) 0 0, .slice (some ⟨b8, 0, none⟩) 0 0, .int .i64 jp, .int .i64 on, .slice A16 next.length c16] rfl rfl (row_there (st.hg gb (by simp)) 5 (by decide)) size_block (by simp [Value.oneCell']) ?_
        rw [set5_eq]
        have R5 := row_far5 st.Rb st.gne
        refine hK.out _ _ ?_ (fun hHeld => ?_)
        · exact ⟨(R5 _ _ _ _ _).cell 2, (R5 _ _ _ _ _).cell 3, (R5 _ _ _ _ _).cell 4⟩
        clear hK K
        try simp only [Act.put, List.setIfInBounds_toArray, List.set_cons_zero, List.set_cons_succ]
        refine wpAnyH_done (by kernel_rfl) ?_ _
        go_wp2_with fail
        go_meet
        exact st.fin jp on
      obtain ⟨A16, c16, f4, wq, r9, st⟩ := st.ap ⟨a6, 0, none⟩ (h4.below st.hbl hB) hl4
      rw [if_pos (show Region.wanted _ _ = true by kernel_rfl)]
      refine Lib.wp_append_run_sl _ _ _ 63 rfl _ _ rfl rfl r9 ?_
      clear r9
      obtain ⟨wd, hwd⟩ : ∃ x, x = wq := ⟨_, rfl⟩
      subst hwd
      refine hK.out _ _ ?_ (fun hHeld => ?_)
      · exact ⟨st.Rb.cell 2, st.Rb.cell 3, st.Rb.cell 4⟩
      clear hK K
      try simp only [Act.put, List.setIfInBounds_toArray, List.set_cons_zero, List.set_cons_succ]
      refine reg_call (i := 0) (by kernel_rfl) rfl (fun K hK => ?_)
      go_simp
      replace st := st.a0
      generalize wd.heap.size = b7 at st ⊢
      generalize wd.alloc (.cells #[] 69) = wd at st ⊢
      refine hK.out _ _ ?_ (fun hHeld => ?_)
      · exact ⟨st.Rb.cell 2, st.Rb.cell 3, st.Rb.cell 4⟩
      clear hK K
      try simp only [Act.put, List.setIfInBounds_toArray, List.set_cons_zero, List.set_cons_succ]
      refine reg_take (i := 10) (v := ?v60) rfl (by kernel_rfl) (by kernel_rfl) (by kernel_rfl) (fun _ _ _ h => h) (Or.inl ⟨by kernel_rfl, ?h60⟩) (by assumption) ?r60
      case h60 => (intro w hSw; (try dsimp only at hSw); go_simp; try with_reducible rfl)
      try simp only [Act.put, List.setIfInBounds_toArray, List.set_cons_zero, List.set_cons_succ]
      refine reg_call (i := 12) (by kernel_rfl) rfl (fun K hK => ?_)
      rw [if_pos (show Region.wanted _ _ = true by kernel_rfl)]
      refine wp_store_mid 65 _ _ rfl gb 0 #[.slice (some ⟨b7, 0, none⟩) 0 0, .slice (some ⟨b8, 0, none⟩) 0 0, .int .i64 jp, .int .i64 on, .slice A16 next.length c16] rfl rfl (row_there (st.hg gb (by simp)) 5 (by decide)) size_block (by simp [Value.oneCell']) ?_
      rw [set5_eq]
      have R5 := row_far5 st.Rb st.gne
      refine hK.out _ _ ?_ (fun hHeld => ?_)
      · exact ⟨(R5 _ _ _ _ _).cell 2, (R5 _ _ _ _ _).cell 3, (R5 _ _ _ _ _).cell 4⟩
      clear hK K
      try simp only [Act.put, List.setIfInBounds_toArray, List.set_cons_zero, List.set_cons_succ]
      refine wpAnyH_done (by kernel_rfl) ?_ _
      go_wp2_with fail
      go_meet
      exact st.fin jp on
    go_simp
    replace st := st.al (.cells #[] 3)
    generalize wd.heap.size = a6 at ⊢
    generalize wd.alloc (.cells #[] 3) = wd at st ⊢
    refine hK.out _ _ ?_ (fun hHeld => ?_)
    · exact ⟨st.Rb.cell 2, st.Rb.cell 3, st.Rb.cell 4⟩
    clear hK K
    try simp only [Act.put, List.setIfInBounds_toArray, List.set_cons_zero, List.set_cons_succ]
    refine reg_call3 (i := 0) (j := 1) (k := 9) (by kernel_rfl) rfl rfl rfl (fun K hK => ?_) (fun K hK => ?_) (fun K hK => ?_)
    · go_simp
      replace st := st.a0
      generalize wd.heap.size = b7 at st ⊢
      generalize wd.alloc (.cells #[] 69) = wd at st ⊢
      refine hK.out _ _ ?_ (fun hHeld => ?_)
      · exact ⟨st.Rb.cell 2, st.Rb.cell 3, st.Rb.cell 4⟩
      clear hK K
      try simp only [Act.put, List.setIfInBounds_toArray, List.set_cons_zero, List.set_cons_succ]
      refine reg_call2 (i := 1) (j := 9) (by kernel_rfl) rfl rfl (fun K hK => ?_) (fun K hK => ?_)
      · go_simp
        replace st := st.a1
        generalize wd.heap.size = b8 at st ⊢
        generalize wd.alloc (.cells #[] 72) = wd at st ⊢
        refine hK.out _ _ ?_ (fun hHeld => ?_)
        · exact ⟨st.Rb.cell 2, st.Rb.cell 3, st.Rb.cell 4⟩
        clear hK K
        try simp only [Act.put, List.setIfInBounds_toArray, List.set_cons_zero, List.set_cons_succ]
        refine reg_call (i := 9) (by kernel_rfl) rfl (fun K hK => ?_)
        obtain ⟨A16, c16, f4, wq, r9, st⟩ := st.ap ⟨a6, 0, none⟩ (h4.below st.hbl hB) hl4
        rw [if_pos (show Region.wanted _ _ = true by kernel_rfl)]
        refine Lib.wp_append_run_sl _ _ _ 63 rfl _ _ rfl rfl r9 ?_
        clear r9
        obtain ⟨wd, hwd⟩ : ∃ x, x = wq := ⟨_, rfl⟩
        subst hwd
        refine hK.out _ _ ?_ (fun hHeld => ?_)
        · exact ⟨st.Rb.cell 2, st.Rb.cell 3, st.Rb.cell 4⟩
        clear hK K
        try simp only [Act.put, List.setIfInBounds_toArray, List.set_cons_zero, List.set_cons_succ]
        refine reg_take (i := 10) (v := ?v61) rfl (by kernel_rfl) (by kernel_rfl) (by kernel_rfl) (fun _ _ _ h => h) (Or.inl ⟨by kernel_rfl, ?h61⟩) (by assumption) ?r61
        case h61 => (intro w hSw; (try dsimp only at hSw); go_simp; try with_reducible rfl)
        try simp only [Act.put, List.setIfInBounds_toArray, List.set_cons_zero, List.set_cons_succ]
        refine reg_call (i := 12) (by kernel_rfl) rfl (fun K hK => ?_)
        rw [if_pos (show Region.wanted _ _ = true by kernel_rfl)]
        refine wp_store_mid 65 _ _ rfl gb 0 #[.slice (some ⟨b7, 0, none⟩) 0 0, .slice (some ⟨b8, 0, none⟩) 0 0, .int .i64 jp, .int .i64 on, .slice A16 next.length c16] rfl rfl (row_there (st.hg gb (by simp)) 5 (by decide)) size_block (by simp [Value.oneCell']) ?_
        rw [set5_eq]
        have R5 := row_far5 st.Rb st.gne
        refine hK.out _ _ ?_ (fun hHeld => ?_)
        · exact ⟨(R5 _ _ _ _ _).cell 2, (R5 _ _ _ _ _).cell 3, (R5 _ _ _ _ _).cell 4⟩
        clear hK K
        try simp only [Act.put, List.setIfInBounds_toArray, List.set_cons_zero, List.set_cons_succ]
        refine wpAnyH_done (by kernel_rfl) ?_ _
        go_wp2_with fail
        go_meet
        exact st.fin jp on
      obtain ⟨A16, c16, f4, wq, r9, st⟩ := st.ap ⟨a6, 0, none⟩ (h4.below st.hbl hB) hl4
      rw [if_pos (show Region.wanted _ _ = true by kernel_rfl)]
      refine Lib.wp_append_run_sl _ _ _ 63 rfl _ _ rfl rfl r9 ?_
      clear r9
      obtain ⟨wd, hwd⟩ : ∃ x, x = wq := ⟨_, rfl⟩
      subst hwd
      refine hK.out _ _ ?_ (fun hHeld => ?_)
      · exact ⟨st.Rb.cell 2, st.Rb.cell 3, st.Rb.cell 4⟩
      clear hK K
      try simp only [Act.put, List.setIfInBounds_toArray, List.set_cons_zero, List.set_cons_succ]
      refine reg_call (i := 1) (by kernel_rfl) rfl (fun K hK => ?_)
      go_simp
      replace st := st.a1
      generalize wd.heap.size = b8 at st ⊢
      generalize wd.alloc (.cells #[] 72) = wd at st ⊢
      refine hK.out _ _ ?_ (fun hHeld => ?_)
      · exact ⟨st.Rb.cell 2, st.Rb.cell 3, st.Rb.cell 4⟩
      clear hK K
      try simp only [Act.put, List.setIfInBounds_toArray, List.set_cons_zero, List.set_cons_succ]
      refine reg_take (i := 10) (v := ?v62) rfl (by kernel_rfl) (by kernel_rfl) (by kernel_rfl) (fun _ _ _ h => h) (Or.inl ⟨by kernel_rfl, ?h62⟩) (by assumption) ?r62
      case h62 => (intro w hSw; (try dsimp only at hSw); go_simp; try with_reducible rfl)
      try simp only [Act.put, List.setIfInBounds_toArray, List.set_cons_zero, List.set_cons_succ]
      refine reg_call (i := 12) (by kernel_rfl) rfl (fun K hK => ?_)
      rw [if_pos (show Region.wanted _ _ = true by kernel_rfl)]
      refine wp_store_mid 65 _ _ rfl gb 0 #[.slice (some ⟨b7, 0, none⟩) 0 0, .slice (some ⟨b8, 0, none⟩) 0 0, .int .i64 jp, .int .i64 on, .slice A16 next.length c16] rfl rfl (row_there (st.hg gb (by simp)) 5 (by decide)) size_block (by simp [Value.oneCell']) ?_
      rw [set5_eq]
      have R5 := row_far5 st.Rb st.gne
      refine hK.out _ _ ?_ (fun hHeld => ?_)
      · exact ⟨(R5 _ _ _ _ _).cell 2, (R5 _ _ _ _ _).cell 3, (R5 _ _ _ _ _).cell 4⟩
      clear hK K
      try simp only [Act.put, List.setIfInBounds_toArray, List.set_cons_zero, List.set_cons_succ]
      refine wpAnyH_done (by kernel_rfl) ?_ _
      go_wp2_with fail
      go_meet
      exact st.fin jp on
    · go_simp
      replace st := st.a1
      generalize wd.heap.size = b8 at st ⊢
      generalize wd.alloc (.cells #[] 72) = wd at st ⊢
      refine hK.out _ _ ?_ (fun hHeld => ?_)
      · exact ⟨st.Rb.cell 2, st.Rb.cell 3, st.Rb.cell 4⟩
      clear hK K
      try simp only [Act.put, List.setIfInBounds_toArray, List.set_cons_zero, List.set_cons_succ]
      refine reg_call2 (i := 0) (j := 9) (by kernel_rfl) rfl rfl (fun K hK => ?_) (fun K hK => ?_)
      · go_simp
        replace st := st.a0
        generalize wd.heap.size = b7 at st ⊢
        generalize wd.alloc (.cells #[] 69) = wd at st ⊢
        refine hK.out _ _ ?_ (fun hHeld => ?_)
        · exact ⟨st.Rb.cell 2, st.Rb.cell 3, st.Rb.cell 4⟩
        clear hK K
        try simp only [Act.put, List.setIfInBounds_toArray, List.set_cons_zero, List.set_cons_succ]
        refine reg_call (i := 9) (by kernel_rfl) rfl (fun K hK => ?_)
        obtain ⟨A16, c16, f4, wq, r9, st⟩ := st.ap ⟨a6, 0, none⟩ (h4.below st.hbl hB) hl4
        rw [if_pos (show Region.wanted _ _ = true by kernel_rfl)]
        refine Lib.wp_append_run_sl _ _ _ 63 rfl _ _ rfl rfl r9 ?_
        clear r9
        obtain ⟨wd, hwd⟩ : ∃ x, x = wq := ⟨_, rfl⟩
        subst hwd
        refine hK.out _ _ ?_ (fun hHeld => ?_)
        · exact ⟨st.Rb.cell 2, st.Rb.cell 3, st.Rb.cell 4⟩
        clear hK K
        try simp only [Act.put, List.setIfInBounds_toArray, List.set_cons_zero, List.set_cons_succ]
        refine reg_take (i := 10) (v := ?v63) rfl (by kernel_rfl) (by kernel_rfl) (by kernel_rfl) (fun _ _ _ h => h) (Or.inl ⟨by kernel_rfl, ?h63⟩) (by assumption) ?r63
        case h63 => (intro w hSw; (try dsimp only at hSw); go_simp; try with_reducible rfl)
        try simp only [Act.put, List.setIfInBounds_toArray, List.set_cons_zero, List.set_cons_succ]
        refine reg_call (i := 12) (by kernel_rfl) rfl (fun K hK => ?_)
        rw [if_pos (show Region.wanted _ _ = true by kernel_rfl)]
        refine wp_store_mid 65 _ _ rfl gb 0 #[.slice (some ⟨b7, 0, none⟩) 0 0, .slice (some ⟨b8, 0, none⟩) 0 0, .int .i64 jp, .int .i64 on, .slice A16 next.length c16] rfl rfl (row_there (st.hg gb (by simp)) 5 (by decide)) size_block (by simp [Value.oneCell']) ?_
        rw [set5_eq]
        have R5 := row_far5 st.Rb st.gne
        refine hK.out _ _ ?_ (fun hHeld => ?_)
        · exact ⟨(R5 _ _ _ _ _).cell 2, (R5 _ _ _ _ _).cell 3, (R5 _ _ _ _ _).cell 4⟩
        clear hK K
        try simp only [Act.put, List.setIfInBounds_toArray, List.set_cons_zero, List.set_cons_succ]
        refine wpAnyH_done (by kernel_rfl) ?_ _
        go_wp2_with fail
        go_meet
        exact st.fin jp on
      obtain ⟨A16, c16, f4, wq, r9, st⟩ := st.ap ⟨a6, 0, none⟩ (h4.below st.hbl hB) hl4
      rw [if_pos (show Region.wanted _ _ = true by kernel_rfl)]
      refine Lib.wp_append_run_sl _ _ _ 63 rfl _ _ rfl rfl r9 ?_
      clear r9
      obtain ⟨wd, hwd⟩ : ∃ x, x = wq := ⟨_, rfl⟩
      subst hwd
      refine hK.out _ _ ?_ (fun hHeld => ?_)
      · exact ⟨st.Rb.cell 2, st.Rb.cell 3, st.Rb.cell 4⟩
      clear hK K
      try simp only [Act.put, List.setIfInBounds_toArray, List.set_cons_zero, List.set_cons_succ]
      refine reg_call (i := 0) (by kernel_rfl) rfl (fun K hK => ?_)
      go_simp
      replace st := st.a0
      generalize wd.heap.size = b7 at st ⊢
      generalize wd.alloc (.cells #[] 69) = wd at st ⊢
      refine hK.out _ _ ?_ (fun hHeld => ?_)
      · exact ⟨st.Rb.cell 2, st.Rb.cell 3, st.Rb.cell 4⟩
      clear hK K
      try simp only [Act.put, List.setIfInBounds_toArray, List.set_cons_zero, List.set_cons_succ]
      refine reg_take (i := 10) (v := ?v64) rfl (by kernel_rfl) (by kernel_rfl) (by kernel_rfl) (fun _ _ _ h => h) (Or.inl ⟨by kernel_rfl, ?h64⟩) (by assumption) ?r64
      case h64 => (intro w hSw; (try dsimp only at hSw); go_simp; try with_reducible rfl)
      try simp only [Act.put, List.setIfInBounds_toArray, List.set_cons_zero, List.set_cons_succ]
      refine reg_call (i := 12) (by kernel_rfl) rfl (fun K hK => ?_)
      rw [if_pos (show Region.wanted _ _ = true by kernel_rfl)]
      refine wp_store_mid 65 _ _ rfl gb 0 #[.slice (some ⟨b7, 0, none⟩) 0 0, .slice (some ⟨b8, 0, none⟩) 0 0, .int .i64 jp, .int .i64 on, .slice A16 next.length c16] rfl rfl (row_there (st.hg gb (by simp)) 5 (by decide)) size_block (by simp [Value.oneCell']) ?_
      rw [set5_eq]
      have R5 := row_far5 st.Rb st.gne
      refine hK.out _ _ ?_ (fun hHeld => ?_)
      · exact ⟨(R5 _ _ _ _ _).cell 2, (R5 _ _ _ _ _).cell 3, (R5 _ _ _ _ _).cell 4⟩
      clear hK K
      try simp only [Act.put, List.setIfInBounds_toArray, List.set_cons_zero, List.set_cons_succ]
      refine wpAnyH_done (by kernel_rfl) ?_ _
      go_wp2_with fail
      go_meet
      exact st.fin jp on
    obtain ⟨A16, c16, f4, wq, r9, st⟩ := st.ap ⟨a6, 0, none⟩ (h4.below st.hbl hB) hl4
    rw [if_pos (show Region.wanted _ _ = true by kernel_rfl)]
    refine Lib.wp_append_run_sl _ _ _ 63 rfl _ _ rfl rfl r9 ?_
    clear r9
    obtain ⟨wd, hwd⟩ : ∃ x, x = wq := ⟨_, rfl⟩
    subst hwd
    refine hK.out _ _ ?_ (fun hHeld => ?_)
    · exact ⟨st.Rb.cell 2, st.Rb.cell 3, st.Rb.cell 4⟩
    clear hK K
    try simp only [Act.put, List.setIfInBounds_toArray, List.set_cons_zero, List.set_cons_succ]
    refine reg_call2 (i := 0) (j := 1) (by kernel_rfl) rfl rfl (fun K hK => ?_) (fun K hK => ?_)
    · go_simp
      replace st := st.a0
      generalize wd.heap.size = b7 at st ⊢
      generalize wd.alloc (.cells #[] 69) = wd at st ⊢
      refine hK.out _ _ ?_ (fun hHeld => ?_)
      · exact ⟨st.Rb.cell 2, st.Rb.cell 3, st.Rb.cell 4⟩
      clear hK K
      try simp only [Act.put, List.setIfInBounds_toArray, List.set_cons_zero, List.set_cons_succ]
      refine reg_call (i := 1) (by kernel_rfl) rfl (fun K hK => ?_)
      go_simp
      replace st := st.a1
      generalize wd.heap.size = b8 at st ⊢
      generalize wd.alloc (.cells #[] 72) = wd at st ⊢
      refine hK.out _ _ ?_ (fun hHeld => ?_)
      · exact ⟨st.Rb.cell 2, st.Rb.cell 3, st.Rb.cell 4⟩
      clear hK K
      try simp only [Act.put, List.setIfInBounds_toArray, List.set_cons_zero, List.set_cons_succ]
      refine reg_take (i := 10) (v := ?v65) rfl (by kernel_rfl) (by kernel_rfl) (by kernel_rfl) (fun _ _ _ h => h) (Or.inl ⟨by kernel_rfl, ?h65⟩) (by assumption) ?r65
      case h65 => (intro w hSw; (try dsimp only at hSw); go_simp; try with_reducible rfl)
      try simp only [Act.put, List.setIfInBounds_toArray, List.set_cons_zero, List.set_cons_succ]
      refine reg_call (i := 12) (by kernel_rfl) rfl (fun K hK => ?_)
      rw [if_pos (show Region.wanted _ _ = true by kernel_rfl)]
      refine wp_store_mid 65 _ _ rfl gb 0 #[.slice (some ⟨b7, 0, none⟩) 0 0, .slice (some ⟨b8, 0, none⟩) 0 0, .int .i64 jp, .int .i64 on, .slice A16 next.length c16] rfl rfl (row_there (st.hg gb (by simp)) 5 (by decide)) size_block (by simp [Value.oneCell']) ?_
      rw [set5_eq]
      have R5 := row_far5 st.Rb st.gne
      refine hK.out _ _ ?_ (fun hHeld => ?_)
      · exact ⟨(R5 _ _ _ _ _).cell 2, (R5 _ _ _ _ _).cell 3, (R5 _ _ _ _ _).cell 4⟩
      clear hK K
      try simp only [Act.put, List.setIfInBounds_toArray, List.set_cons_zero, List.set_cons_succ]
      refine wpAnyH_done (by kernel_rfl) ?_ _
      go_wp2_with fail
      go_meet
      exact st.fin jp on
    go_simp
    replace st := st.a1
    generalize wd.heap.size = b8 at st ⊢
    generalize wd.alloc (.cells #[] 72) = wd at st ⊢
    refine hK.out _ _ ?_ (fun hHeld => ?_)
    · exact ⟨st.Rb.cell 2, st.Rb.cell 3, st.Rb.cell 4⟩
    clear hK K
    try simp only [Act.put, List.setIfInBounds_toArray, List.set_cons_zero, List.set_cons_succ]
    refine reg_call (i := 0) (by kernel_rfl) rfl (fun K hK => ?_)
    go_simp
    replace st := st.a0
    generalize wd.heap.size = b7 at st ⊢
    generalize wd.alloc (.cells #[] 69) = wd at st ⊢
    refine hK.out _ _ ?_ (fun hHeld => ?_)
    · exact ⟨st.Rb.cell 2, st.Rb.cell 3, st.Rb.cell 4⟩
    clear hK K
    try simp only [Act.put, List.setIfInBounds_toArray, List.set_cons_zero, List.set_cons_succ]
    refine reg_take (i := 10) (v := ?v66) rfl (by kernel_rfl) (by kernel_rfl) (by kernel_rfl) (fun _ _ _ h => h) (Or.inl ⟨by kernel_rfl, ?h66⟩) (by assumption) ?r66
    case h66 => (intro w hSw; (try dsimp only at hSw); go_simp; try with_reducible rfl)
    try simp only [Act.put, List.setIfInBounds_toArray, List.set_cons_zero, List.set_cons_succ]
    refine reg_call (i := 12) (by kernel_rfl) rfl (fun K hK => ?_)
    rw [if_pos (show Region.wanted _ _ = true by kernel_rfl)]
    refine wp_store_mid 65 _ _ rfl gb 0 #[.slice (some ⟨b7, 0, none⟩) 0 0, .slice (some ⟨b8, 0, none⟩) 0 0, .int .i64 jp, .int .i64 on, .slice A16 next.length c16] rfl rfl (row_there (st.hg gb (by simp)) 5 (by decide)) size_block (by simp [Value.oneCell']) ?_
    rw [set5_eq]
    have R5 := row_far5 st.Rb st.gne
    refine hK.out _ _ ?_ (fun hHeld => ?_)
    · exact ⟨(R5 _ _ _ _ _).cell 2, (R5 _ _ _ _ _).cell 3, (R5 _ _ _ _ _).cell 4⟩
    clear hK K
    try simp only [Act.put, List.setIfInBounds_toArray, List.set_cons_zero, List.set_cons_succ]
    refine wpAnyH_done (by kernel_rfl) ?_ _
    go_wp2_with fail
    go_meet
    exact st.fin jp on
  case rest =>
    clear st w1
    obtain ⟨gb, b7, b8, A16, c16, f4, rfl, st, R7, hfp, R8, h8, t4, hn4⟩ := hcut
    obtain ⟨wx, hwx⟩ : ∃ x, x = wc := ⟨_, rfl⟩
    subst hwx
    go_wp2_with fail
    go_loopw [4] (fun u wr => ∃ (e : Nat) (A7 : Option Addr) (c7 : Nat) (fp : List Nat), u = .int .i64 (e : Int) ∧ e ≤ phis.length ∧ S2 65 w wx wr #[.slice A0 phis.length p0, .slice A1 ins.length p1, .int .i64 jp, .int .i64 on, .slice A4 next.length p4] #[.slice none 0 0, .slice none 0 0, .int .i64 0, .int .i64 0, .slice none 0 0] gb #[.slice A7 e c7, .slice (some ⟨b8, 0, none⟩) 0 0, .int .i64 jp, .int .i64 on, .slice A16 next.length c16] (b8 :: f4) [] ∧ OwF phF 69 wr (w.heap.size + 2) fp (phis.take e) (.slice A7 e c7) ∧ Hid (FP w gb (b8 :: f4) fp)) (fun u _ => phis.length - (intOf u).toNat)
    case atStart => exact ⟨0, some ⟨b7, 0, none⟩, 0, [b7], rfl, by omega, st, OwF.row0 R7 (hfp.2 b7 (by simp)).1, Lib.hid hfp⟩
    case round =>
      clear st R7 hfp
      obtain ⟨e, A7, c7, fp, rfl, he, st, own, hfp⟩ := hrel
      have x0 : wr.cell? ⟨w.heap.size, 0, none⟩ = some (.slice A0 phis.length p0) := st.Rb.cell 0
      by_cases hen : e < phis.length
      case pos =>
        obtain ⟨bP, oP, tg, args, va, rfl, hlP, hbP, HL, ht, ha, q0, q1⟩ := phi_get h0 hen
        have hbW : bP < w.heap.size := by omega
        obtain ⟨Aa, ca, hf, _, _⟩ := ha.form
        change _ = Value.slice Aa args.length ca at hf
        subst hf
        have hla : args.length ≤ 1048576 := hlp.out ⟨tg, args⟩ (HL.out ▸ List.getElem_mem hen)
        have EL : Hid (phis.take (e + 1) = phis.take e ++ [⟨tg, args⟩]) := by
          show _ = _
          rw [List.take_succ_eq_append_getElem hen, HL.out]
        have htk : Hid ((phis.take e).length = e) := by
          show _ = _
          simp
          omega
        have hen1 : (e : Int) < (phis.length : Int) := by omega
        have s := S3.begin st own hfp.out
        obtain ⟨nr, hnr⟩ : ∃ x, x = wr.heap.size := ⟨_, rfl⟩
        rw [← hnr] at s
        clear st own hnr
        go_wp2_with fail
        clear x0
        refine wp_region_held_drew (S := fun w' => (w'.cell? ⟨w.heap.size, 0, none⟩ = some (.slice (some ⟨bP, oP, none⟩) phis.length p0) ∧ w'.cell? ⟨bP, oP + e * 2, none⟩ = some (.int .i64 tg) ∧ w'.cell? ⟨bP, oP + e * 2 + 1, none⟩ = some (.slice Aa args.length ca))) (by kernel_rfl) ?_ (fun hHeld => ?_)
        · exact ⟨s.st.Rb.cell 0, s.st.old hbW q0, s.st.old hbW q1⟩
        replace s := s.drew
        generalize wr.drew = wd at hHeld s ⊢
        refine reg_take (i := 0) (v := ?v67) rfl (by kernel_rfl) (by kernel_rfl) (by kernel_rfl) (fun _ _ _ h => h) (Or.inl ⟨by kernel_rfl, ?h67⟩) (by assumption) ?r67
        case h67 => (intro w hSw; (try dsimp only at hSw); go_simp; try with_reducible rfl)
        try simp only [Act.put, List.setIfInBounds_toArray, List.set_cons_zero, List.set_cons_succ]
        refine reg_take (i := 2) (v := ?v68) rfl (by kernel_rfl) (by kernel_rfl) (by kernel_rfl) (fun _ _ _ h => h) (Or.inl ⟨by kernel_rfl, ?h68⟩) (by assumption) ?r68
        case h68 => (intro w hSw; (try dsimp only at hSw); go_simp; try with_reducible rfl)
        try simp only [Act.put, List.setIfInBounds_toArray, List.set_cons_zero, List.set_cons_succ]
        refine reg_take (i := 3) (v := ?v69) rfl (by kernel_rfl) (by kernel_rfl) (by kernel_rfl) (fun _ _ _ h => h) (Or.inl ⟨by kernel_rfl, ?h69⟩) (by assumption) ?r69
        case h69 => (intro w hSw; (try dsimp only at hSw); go_simp; try with_reducible rfl)
        try simp only [Act.put, List.setIfInBounds_toArray, List.set_cons_zero, List.set_cons_succ]
        refine reg_take (i := 4) (v := ?v70) rfl (by kernel_rfl) (by kernel_rfl) (by kernel_rfl) (fun _ _ _ h => h) (Or.inl ⟨by kernel_rfl, ?h70⟩) (by assumption) ?r70
        case h70 => (intro w hSw; (try dsimp only at hSw); go_simp; try with_reducible rfl)
        try simp only [Act.put, List.setIfInBounds_toArray, List.set_cons_zero, List.set_cons_succ]
        refine reg_take (i := 5) (v := ?v71) rfl (by kernel_rfl) (by kernel_rfl) (by kernel_rfl) (fun _ _ _ h => h) (Or.inl ⟨by kernel_rfl, ?h71⟩) (by assumption) ?r71
        case h71 => (intro w hSw; (try dsimp only at hSw); go_simp; try with_reducible rfl)
        try simp only [Act.put, List.setIfInBounds_toArray, List.set_cons_zero, List.set_cons_succ]
        refine reg_take (i := 6) (v := ?v72) rfl (by kernel_rfl) (by kernel_rfl) (by kernel_rfl) (fun _ _ _ h => h) (Or.inl ⟨by kernel_rfl, ?h72⟩) (by assumption) ?r72
        case h72 => (intro w hSw; (try dsimp only at hSw); go_simp; try with_reducible rfl)
        try simp only [Act.put, List.setIfInBounds_toArray, List.set_cons_zero, List.set_cons_succ]
        refine reg_take (i := 7) (v := ?v73) rfl (by kernel_rfl) (by kernel_rfl) (by kernel_rfl) (fun _ _ _ h => h) (Or.inl ⟨by kernel_rfl, ?h73⟩) (by assumption) ?r73
        case h73 => (intro w hSw; (try dsimp only at hSw); go_simp; try with_reducible rfl)
        try simp only [Act.put, List.setIfInBounds_toArray, List.set_cons_zero, List.set_cons_succ]
        refine reg_take (i := 9) (v := ?v74) rfl (by kernel_rfl) (by kernel_rfl) (by kernel_rfl) (fun _ _ _ h => h) (Or.inl ⟨by kernel_rfl, ?h74⟩) (by assumption) ?r74
        case h74 => (intro w hSw; (try dsimp only at hSw); go_simp; try with_reducible rfl)
        try simp only [Act.put, List.setIfInBounds_toArray, List.set_cons_zero, List.set_cons_succ]
        refine reg_take (i := 10) (v := ?v75) rfl (by kernel_rfl) (by kernel_rfl) (by kernel_rfl) (fun _ _ _ h => h) (Or.inl ⟨by kernel_rfl, ?h75⟩) (by assumption) ?r75
        case h75 => (intro w hSw; (try dsimp only at hSw); go_simp; try with_reducible rfl)
        try simp only [Act.put, List.setIfInBounds_toArray, List.set_cons_zero, List.set_cons_succ]
        refine reg_take (i := 11) (v := ?v76) rfl (by kernel_rfl) (by kernel_rfl) (by kernel_rfl) (fun _ _ _ h => h) (Or.inl ⟨by kernel_rfl, ?h76⟩) (by assumption) ?r76
        case h76 => (intro w hSw; (try dsimp only at hSw); go_simp; try with_reducible rfl)
        try simp only [Act.put, List.setIfInBounds_toArray, List.set_cons_zero, List.set_cons_succ]
        refine reg_take (i := 12) (v := ?v77) rfl (by kernel_rfl) (by kernel_rfl) (by kernel_rfl) (fun _ _ _ h => h) (Or.inl ⟨by kernel_rfl, ?h77⟩) (by assumption) ?r77
        case h77 => (intro w hSw; (try dsimp only at hSw); go_simp; try with_reducible rfl)
        try simp only [Act.put, List.setIfInBounds_toArray, List.set_cons_zero, List.set_cons_succ]
        refine reg_take (i := 13) (v := ?v78) rfl (by kernel_rfl) (by kernel_rfl) (by kernel_rfl) (fun _ _ _ h => h) (Or.inl ⟨by kernel_rfl, ?h78⟩) (by assumption) ?r78
        case h78 => (intro w hSw; (try dsimp only at hSw); go_simp; try with_reducible rfl)
        try simp only [Act.put, List.setIfInBounds_toArray, List.set_cons_zero, List.set_cons_succ]
        refine reg_take (i := 14) (v := ?v79) rfl (by kernel_rfl) (by kernel_rfl) (by kernel_rfl) (fun _ _ _ h => h) (Or.inl ⟨by kernel_rfl, ?h79⟩) (by assumption) ?r79
        case h79 => (intro w hSw; (try dsimp only at hSw); go_simp; try with_reducible rfl)
        try simp only [Act.put, List.setIfInBounds_toArray, List.set_cons_zero, List.set_cons_succ]
        refine reg_call2 (i := 1) (j := 8) (by kernel_rfl) rfl rfl (fun K hK => ?_) (fun K hK => ?_)
        · have k1 : wd.cell? ⟨gb, 0, none⟩ = some (.slice A7 e c7) := s.st.Rg.cell 0
          go_simp
          refine hK.out _ _ ?_ (fun hHeld => ?_)
          · exact ⟨s.st.Rb.cell 0, s.st.old hbW q0, s.st.old hbW q1⟩
          clear hK K
          try simp only [Act.put, List.setIfInBounds_toArray, List.set_cons_zero, List.set_cons_succ]
          refine reg_call (i := 8) (by kernel_rfl) rfl (fun K hK => ?_)
          go_simp
          replace s := s.al (.cells #[] 3)
          generalize wd.heap.size = a6
          generalize wd.alloc (.cells #[] 3) = wd at s ⊢
          refine hK.out _ _ ?_ (fun hHeld => ?_)
          · exact ⟨s.st.Rb.cell 0, s.st.old hbW q0, s.st.old hbW q1⟩
          clear hK K
          try simp only [Act.put, List.setIfInBounds_toArray, List.set_cons_zero, List.set_cons_succ]
          refine reg_call (i := 15) (by kernel_rfl) rfl (fun K hK => ?_)
          obtain ⟨Aq, cq, fq, wq, r9, s⟩ := s.ap ⟨a6, 0, none⟩ (ha.below s.st.hbl hB) hla
          rw [if_pos (show Region.wanted _ _ = true by kernel_rfl)]
          refine Lib.wp_append_run_sl _ _ _ 63 rfl _ _ rfl rfl r9 ?_
          clear r9
          obtain ⟨wd, hwd⟩ : ∃ x, x = wq := ⟨_, rfl⟩
          subst hwd
          refine hK.out _ _ ?_ (fun hHeld => ?_)
          · exact ⟨s.s.st.Rb.cell 0, s.s.st.old hbW q0, s.s.st.old hbW q1⟩
          clear hK K
          try simp only [Act.put, List.setIfInBounds_toArray, List.set_cons_zero, List.set_cons_succ]
          refine reg_take (i := 16) (v := ?v80) rfl (by kernel_rfl) (by kernel_rfl) (by kernel_rfl) (fun _ _ _ h => h) (Or.inl ⟨by kernel_rfl, ?h80⟩) (by assumption) ?r80
          case h80 => (intro w hSw; (try dsimp only at hSw); go_simp; try with_reducible rfl)
          try simp only [Act.put, List.setIfInBounds_toArray, List.set_cons_zero, List.set_cons_succ]
          refine reg_call (i := 17) (by kernel_rfl) rfl (fun K hK => ?_)
          go_simp
          have sR := (s.al (.cells #[.int .i64 tg, .slice Aq args.length cq] 69)).s.st
          refine hK.out _ _ ?_ (fun hHeld => ?_)
          · exact ⟨sR.Rb.cell 0, sR.old hbW q0, sR.old hbW q1⟩
          clear hK K
          try simp only [Act.put, List.setIfInBounds_toArray, List.set_cons_zero, List.set_cons_succ]
          refine reg_call (i := 18) (by kernel_rfl) rfl (fun K hK => ?_)
          obtain ⟨A10, c10, w9, fp', r9, st9, own9, hfp9⟩ := s.app_phi htk.out ht (by omega)
          rw [if_pos (show Region.wanted _ _ = true by kernel_rfl)]
          refine Lib.wp_append_run_sl _ _ _ 61 rfl _ _ rfl rfl r9 ?_
          clear r9
          have k9 : w9.cell? ⟨gb, 0, none⟩ = some (.slice A7 e c7) := st9.Rg.cell 0
          have f9 : w9.frozen? ⟨gb, 0, none⟩ = false := st9.Rg.frozen 0
          refine hK.out _ _ ?_ (fun hHeld => ?_)
          · exact ⟨st9.Rb.cell 0, st9.old hbW q0, st9.old hbW q1⟩
          clear hK K
          try simp only [Act.put, List.setIfInBounds_toArray, List.set_cons_zero, List.set_cons_succ]
          refine reg_take (i := 19) (v := ?v81) rfl (by kernel_rfl) (by kernel_rfl) (by kernel_rfl) (fun _ _ _ h => h) (Or.inl ⟨by kernel_rfl, ?h81⟩) (by assumption) ?r81
          case h81 => (intro w hSw; (try dsimp only at hSw); go_simp; try with_reducible rfl)
          try simp only [Act.put, List.setIfInBounds_toArray, List.set_cons_zero, List.set_cons_succ]
          refine reg_call (i := 20) (by kernel_rfl) rfl (fun K hK => ?_)
          obtain ⟨st10, own10⟩ := st9.store own9 hfp9 0 (.slice A10 (e + 1) c10)
          go_simp
          refine hK.out _ _ ?_ (fun hHeld => ?_)
          · exact ⟨st10.Rb.cell 0, st10.old hbW q0, st10.old hbW q1⟩
          clear hK K
          try simp only [Act.put, List.setIfInBounds_toArray, List.set_cons_zero, List.set_cons_succ]
          refine wpAnyH_done (by kernel_rfl) ?_ _
          rw [← EL.out] at own10
          go_wp2_with fail
          go_roundw
          case rel => exact ⟨e + 1, A10, c10, fp', by go_num, by omega, st10, own10, Lib.hid hfp9⟩
          case measure => simp [intOf]; omega
        go_simp
        replace s := s.al (.cells #[] 3)
        generalize wd.heap.size = a6
        generalize wd.alloc (.cells #[] 3) = wd at s ⊢
        refine hK.out _ _ ?_ (fun hHeld => ?_)
        · exact ⟨s.st.Rb.cell 0, s.st.old hbW q0, s.st.old hbW q1⟩
        clear hK K
        try simp only [Act.put, List.setIfInBounds_toArray, List.set_cons_zero, List.set_cons_succ]
        refine reg_call2 (i := 1) (j := 15) (by kernel_rfl) rfl rfl (fun K hK => ?_) (fun K hK => ?_)
        · have k1 : wd.cell? ⟨gb, 0, none⟩ = some (.slice A7 e c7) := s.st.Rg.cell 0
          go_simp
          refine hK.out _ _ ?_ (fun hHeld => ?_)
          · exact ⟨s.st.Rb.cell 0, s.st.old hbW q0, s.st.old hbW q1⟩
          clear hK K
          try simp only [Act.put, List.setIfInBounds_toArray, List.set_cons_zero, List.set_cons_succ]
          refine reg_call (i := 15) (by kernel_rfl) rfl (fun K hK => ?_)
          obtain ⟨Aq, cq, fq, wq, r9, s⟩ := s.ap ⟨a6, 0, none⟩ (ha.below s.st.hbl hB) hla
          rw [if_pos (show Region.wanted _ _ = true by kernel_rfl)]
          refine Lib.wp_append_run_sl _ _ _ 63 rfl _ _ rfl rfl r9 ?_
          clear r9
          obtain ⟨wd, hwd⟩ : ∃ x, x = wq := ⟨_, rfl⟩
          subst hwd
          refine hK.out _ _ ?_ (fun hHeld => ?_)
          · exact ⟨s.s.st.Rb.cell 0, s.s.st.old hbW q0, s.s.st.old hbW q1⟩
          clear hK K
          try simp only [Act.put, List.setIfInBounds_toArray, List.set_cons_zero, List.set_cons_succ]
          refine reg_take (i := 16) (v := ?v82) rfl (by kernel_rfl) (by kernel_rfl) (by kernel_rfl) (fun _ _ _ h => h) (Or.inl ⟨by kernel_rfl, ?h82⟩) (by assumption) ?r82
          case h82 => (intro w hSw; (try dsimp only at hSw); go_simp; try with_reducible rfl)
          try simp only [Act.put, List.setIfInBounds_toArray, List.set_cons_zero, List.set_cons_succ]
          refine reg_call (i := 17) (by kernel_rfl) rfl (fun K hK => ?_)
          go_simp
          have sR := (s.al (.cells #[.int .i64 tg, .slice Aq args.length cq] 69)).s.st
          refine hK.out _ _ ?_ (fun hHeld => ?_)
          · exact ⟨sR.Rb.cell 0, sR.old hbW q0, sR.old hbW q1⟩
          clear hK K
          try simp only [Act.put, List.setIfInBounds_toArray, List.set_cons_zero, List.set_cons_succ]
          refine reg_call (i := 18) (by kernel_rfl) rfl (fun K hK => ?_)
          obtain ⟨A10, c10, w9, fp', r9, st9, own9, hfp9⟩ := s.app_phi htk.out ht (by omega)
          rw [if_pos (show Region.wanted _ _ = true by kernel_rfl)]
          refine Lib.wp_append_run_sl _ _ _ 61 rfl _ _ rfl rfl r9 ?_
          clear r9
          have k9 : w9.cell? ⟨gb, 0, none⟩ = some (.slice A7 e c7) := st9.Rg.cell 0
          have f9 : w9.frozen? ⟨gb, 0, none⟩ = false := st9.Rg.frozen 0
          refine hK.out _ _ ?_ (fun hHeld => ?_)
          · exact ⟨st9.Rb.cell 0, st9.old hbW q0, st9.old hbW q1⟩
          clear hK K
          try simp only [Act.put, List.setIfInBounds_toArray, List.set_cons_zero, List.set_cons_succ]
          refine reg_take (i := 19) (v := ?v83) rfl (by kernel_rfl) (by kernel_rfl) (by kernel_rfl) (fun _ _ _ h => h) (Or.inl ⟨by kernel_rfl, ?h83⟩) (by assumption) ?r83
          case h83 => (intro w hSw; (try dsimp only at hSw); go_simp; try with_reducible rfl)
          try simp only [Act.put, List.setIfInBounds_toArray, List.set_cons_zero, List.set_cons_succ]
          refine reg_call (i := 20) (by kernel_rfl) rfl (fun K hK => ?_)
          obtain ⟨st10, own10⟩ := st9.store own9 hfp9 0 (.slice A10 (e + 1) c10)
          go_simp
          refine hK.out _ _ ?_ (fun hHeld => ?_)
          · exact ⟨st10.Rb.cell 0, st10.old hbW q0, st10.old hbW q1⟩
          clear hK K
          try simp only [Act.put, List.setIfInBounds_toArray, List.set_cons_zero, List.set_cons_succ]
          refine wpAnyH_done (by kernel_rfl) ?_ _
          rw [← EL.out] at own10
          go_wp2_with fail
          go_roundw
          case rel => exact ⟨e + 1, A10, c10, fp', by go_num, by omega, st10, own10, Lib.hid hfp9⟩
          case measure => simp [intOf]; omega
        obtain ⟨Aq, cq, fq, wq, r9, s⟩ := s.ap ⟨a6, 0, none⟩ (ha.below s.st.hbl hB) hla
        rw [if_pos (show Region.wanted _ _ = true by kernel_rfl)]
        refine Lib.wp_append_run_sl _ _ _ 63 rfl _ _ rfl rfl r9 ?_
        clear r9
        obtain ⟨wd, hwd⟩ : ∃ x, x = wq := ⟨_, rfl⟩
        subst hwd
        refine hK.out _ _ ?_ (fun hHeld => ?_)
        · exact ⟨s.s.st.Rb.cell 0, s.s.st.old hbW q0, s.s.st.old hbW q1⟩
        clear hK K
        try simp only [Act.put, List.setIfInBounds_toArray, List.set_cons_zero, List.set_cons_succ]
        refine reg_take (i := 16) (v := ?v84) rfl (by kernel_rfl) (by kernel_rfl) (by kernel_rfl) (fun _ _ _ h => h) (Or.inl ⟨by kernel_rfl, ?h84⟩) (by assumption) ?r84
        case h84 => (intro w hSw; (try dsimp only at hSw); go_simp; try with_reducible rfl)
        try simp only [Act.put, List.setIfInBounds_toArray, List.set_cons_zero, List.set_cons_succ]
        refine reg_call2 (i := 1) (j := 17) (by kernel_rfl) rfl rfl (fun K hK => ?_) (fun K hK => ?_)
        · have k1 : wd.cell? ⟨gb, 0, none⟩ = some (.slice A7 e c7) := s.s.st.Rg.cell 0
          go_simp
          refine hK.out _ _ ?_ (fun hHeld => ?_)
          · exact ⟨s.s.st.Rb.cell 0, s.s.st.old hbW q0, s.s.st.old hbW q1⟩
          clear hK K
          try simp only [Act.put, List.setIfInBounds_toArray, List.set_cons_zero, List.set_cons_succ]
          refine reg_call (i := 17) (by kernel_rfl) rfl (fun K hK => ?_)
          go_simp
          have sR := (s.al (.cells #[.int .i64 tg, .slice Aq args.length cq] 69)).s.st
          refine hK.out _ _ ?_ (fun hHeld => ?_)
          · exact ⟨sR.Rb.cell 0, sR.old hbW q0, sR.old hbW q1⟩
          clear hK K
          try simp only [Act.put, List.setIfInBounds_toArray, List.set_cons_zero, List.set_cons_succ]
          refine reg_call (i := 18) (by kernel_rfl) rfl (fun K hK => ?_)
          obtain ⟨A10, c10, w9, fp', r9, st9, own9, hfp9⟩ := s.app_phi htk.out ht (by omega)
          rw [if_pos (show Region.wanted _ _ = true by kernel_rfl)]
          refine Lib.wp_append_run_sl _ _ _ 61 rfl _ _ rfl rfl r9 ?_
          clear r9
          have k9 : w9.cell? ⟨gb, 0, none⟩ = some (.slice A7 e c7) := st9.Rg.cell 0
          have f9 : w9.frozen? ⟨gb, 0, none⟩ = false := st9.Rg.frozen 0
          refine hK.out _ _ ?_ (fun hHeld => ?_)
          · exact ⟨st9.Rb.cell 0, st9.old hbW q0, st9.old hbW q1⟩
          clear hK K
          try simp only [Act.put, List.setIfInBounds_toArray, List.set_cons_zero, List.set_cons_succ]
          refine reg_take (i := 19) (v := ?v85) rfl (by kernel_rfl) (by kernel_rfl) (by kernel_rfl) (fun _ _ _ h => h) (Or.inl ⟨by kernel_rfl, ?h85⟩) (by assumption) ?r85
          case h85 => (intro w hSw; (try dsimp only at hSw); go_simp; try with_reducible rfl)
          try simp only [Act.put, List.setIfInBounds_toArray, List.set_cons_zero, List.set_cons_succ]
          refine reg_call (i := 20) (by kernel_rfl) rfl (fun K hK => ?_)
          obtain ⟨st10, own10⟩ := st9.store own9 hfp9 0 (.slice A10 (e + 1) c10)
          go_simp
          refine hK.out _ _ ?_ (fun hHeld => ?_)
          · exact ⟨st10.Rb.cell 0, st10.old hbW q0, st10.old hbW q1⟩
          clear hK K
          try simp only [Act.put, List.setIfInBounds_toArray, List.set_cons_zero, List.set_cons_succ]
          refine wpAnyH_done (by kernel_rfl) ?_ _
          rw [← EL.out] at own10
          go_wp2_with fail
          go_roundw
          case rel => exact ⟨e + 1, A10, c10, fp', by go_num, by omega, st10, own10, Lib.hid hfp9⟩
          case measure => simp [intOf]; omega
        go_simp
        have sR := (s.al (.cells #[.int .i64 tg, .slice Aq args.length cq] 69)).s.st
        refine hK.out _ _ ?_ (fun hHeld => ?_)
        · exact ⟨sR.Rb.cell 0, sR.old hbW q0, sR.old hbW q1⟩
        clear hK K
        try simp only [Act.put, List.setIfInBounds_toArray, List.set_cons_zero, List.set_cons_succ]
        refine reg_call (i := 1) (by kernel_rfl) rfl (fun K hK => ?_)
        have k1 : (wd.alloc (.cells #[.int .i64 tg, .slice Aq args.length cq] 69)).cell? ⟨gb, 0, none⟩ = some (.slice A7 e c7) := sR.Rg.cell 0
        go_simp
        refine hK.out _ _ ?_ (fun hHeld => ?_)
        · exact ⟨sR.Rb.cell 0, sR.old hbW q0, sR.old hbW q1⟩
        clear hK K
        try simp only [Act.put, List.setIfInBounds_toArray, List.set_cons_zero, List.set_cons_succ]
        refine reg_call (i := 18) (by kernel_rfl) rfl (fun K hK => ?_)
        obtain ⟨A10, c10, w9, fp', r9, st9, own9, hfp9⟩ := s.app_phi htk.out ht (by omega)
        rw [if_pos (show Region.wanted _ _ = true by kernel_rfl)]
        refine Lib.wp_append_run_sl _ _ _ 61 rfl _ _ rfl rfl r9 ?_
        clear r9
        have k9 : w9.cell? ⟨gb, 0, none⟩ = some (.slice A7 e c7) := st9.Rg.cell 0
        have f9 : w9.frozen? ⟨gb, 0, none⟩ = false := st9.Rg.frozen 0
        refine hK.out _ _ ?_ (fun hHeld => ?_)
        · exact ⟨st9.Rb.cell 0, st9.old hbW q0, st9.old hbW q1⟩
        clear hK K
        try simp only [Act.put, List.setIfInBounds_toArray, List.set_cons_zero, List.set_cons_succ]
        refine reg_take (i := 19) (v := ?v86) rfl (by kernel_rfl) (by kernel_rfl) (by kernel_rfl) (fun _ _ _ h => h) (Or.inl ⟨by kernel_rfl, ?h86⟩) (by assumption) ?r86
        case h86 => (intro w hSw; (try dsimp only at hSw); go_simp; try with_reducible rfl)
        try simp only [Act.put, List.setIfInBounds_toArray, List.set_cons_zero, List.set_cons_succ]
        refine reg_call (i := 20) (by kernel_rfl) rfl (fun K hK => ?_)
        obtain ⟨st10, own10⟩ := st9.store own9 hfp9 0 (.slice A10 (e + 1) c10)
        go_simp
        refine hK.out _ _ ?_ (fun hHeld => ?_)
        · exact ⟨st10.Rb.cell 0, st10.old hbW q0, st10.old hbW q1⟩
        clear hK K
        try simp only [Act.put, List.setIfInBounds_toArray, List.set_cons_zero, List.set_cons_succ]
        refine wpAnyH_done (by kernel_rfl) ?_ _
        rw [← EL.out] at own10
        go_wp2_with fail
        go_roundw
        case rel => exact ⟨e + 1, A10, c10, fp', by go_num, by omega, st10, own10, Lib.hid hfp9⟩
        case measure => simp [intOf]; omega
      have hen1 : ¬ (e : Int) < (phis.length : Int) := by omega
      obtain rfl : e = phis.length := by omega
      rw [List.take_length] at own
      obtain ⟨st2, own2, hfp2, tz, t4', hnd⟩ := st.next own hfp.out R8 h8 t4 hn4
      go_wp2_with fail
      clear x0 hen1 st own
      obtain ⟨wy, hwy⟩ : ∃ x, x = wr := ⟨_, rfl⟩
      subst hwy
      replace hnd := Lib.hid hnd
      clear hfp
      go_loopw [5] (fun u wr => ∃ (e : Nat) (A8 : Option Addr) (c8 : Nat) (fi : List Nat), u = .int .i64 (e : Int) ∧ e ≤ ins.length ∧ S2 65 w wy wr #[.slice A0 phis.length p0, .slice A1 ins.length p1, .int .i64 jp, .int .i64 on, .slice A4 next.length p4] #[.slice none 0 0, .slice none 0 0, .int .i64 0, .int .i64 0, .slice none 0 0] gb #[.slice A7 phis.length c7, .slice A8 e c8, .int .i64 jp, .int .i64 on, .slice A16 next.length c16] (fp ++ f4) [] ∧ OwF isF 72 wr (w.heap.size + 2) fi (ins.take e) (.slice A8 e c8) ∧ Hid (FP w gb (fp ++ f4) fi)) (fun u _ => ins.length - (intOf u).toNat)
      case atStart => exact ⟨0, some ⟨b8, 0, none⟩, 0, [b8], rfl, by omega, st2, own2, Lib.hid hfp2⟩
      case round =>
        clear st2 own2 hfp2
        obtain ⟨e, A8, c8, fi, rfl, he, st, own, hfi⟩ := hrel
        have x1 : wr.cell? ⟨w.heap.size, 1, none⟩ = some (.slice A1 ins.length p1) := st.Rb.cell 1
        by_cases hen : e < ins.length
        case neg =>
          have hen1 : ¬ (e : Int) < (ins.length : Int) := by omega
          obtain rfl : e = ins.length := by omega
          rw [List.take_length] at own
          have F := Lib.hid (st.fin own hfi.out tz t4' hnd.out hj ho)
          have k0 : wr.cell? ⟨gb, 0, none⟩ = some (.slice A7 phis.length c7) := st.Rg.cell 0
          have k1 : wr.cell? ⟨gb, 1, none⟩ = some (.slice A8 ins.length c8) := st.Rg.cell 1
          have k2 : wr.cell? ⟨gb, 2, none⟩ = some (.int .i64 jp) := st.Rg.cell 2
          have k3 : wr.cell? ⟨gb, 3, none⟩ = some (.int .i64 on) := st.Rg.cell 3
          have k4 : wr.cell? ⟨gb, 4, none⟩ = some (.slice A16 next.length c16) := st.Rg.cell 4
          have s0 : wr.cell? ⟨w.heap.size + 1, 0, none⟩ = some (.slice none 0 0) := st.RR.cell 0
          have s1 : wr.cell? ⟨w.heap.size + 1, 1, none⟩ = some (.slice none 0 0) := st.RR.cell 1
          have s2 : wr.cell? ⟨w.heap.size + 1, 2, none⟩ = some (.int .i64 0) := st.RR.cell 2
          have s3 : wr.cell? ⟨w.heap.size + 1, 3, none⟩ = some (.int .i64 0) := st.RR.cell 3
          have s4 : wr.cell? ⟨w.heap.size + 1, 4, none⟩ = some (.slice none 0 0) := st.RR.cell 4
          have sf0 : wr.frozen? ⟨w.heap.size + 1, 0, none⟩ = false := st.RR.frozen 0
          have sf1 : wr.frozen? ⟨w.heap.size + 1, 1, none⟩ = false := st.RR.frozen 1
          have sf2 : wr.frozen? ⟨w.heap.size + 1, 2, none⟩ = false := st.RR.frozen 2
          have sf3 : wr.frozen? ⟨w.heap.size + 1, 3, none⟩ = false := st.RR.frozen 3
          have sf4 : wr.frozen? ⟨w.heap.size + 1, 4, none⟩ = false := st.RR.frozen 4
          clear st own tz t4'
          go_wp2_with fail
          refine bodyPost_ret (v := .agg #[.slice A7 phis.length c7, .slice A8 ins.length c8, .int .i64 jp, .int .i64 on, .slice A16 next.length c16]) (by simp [results, Try.results97, go_sem, s0, s1, s2, s3, s4]) rfl F.out
        obtain ⟨bP, oP, op, tg, args, va, n, rfl, hlP, hbP, HL, hop, ht, ha, hn, q0, q1, q2, q3⟩ := ins_get h1 hen
        have hbW : bP < w.heap.size := by omega
        obtain ⟨Aa, ca, hf, _, _⟩ := ha.form
        change _ = Value.slice Aa args.length ca at hf
        subst hf
        have hla : args.length ≤ 1048576 := hli.out ⟨op, tg, args, n⟩ (HL.out ▸ List.getElem_mem hen)
        have EL : Hid (ins.take (e + 1) = ins.take e ++ [⟨op, tg, args, n⟩]) := by
          show _ = _
          rw [List.take_succ_eq_append_getElem hen, HL.out]
        have htk : Hid ((ins.take e).length = e) := by
          show _ = _
          simp
          omega
        have hen1 : (e : Int) < (ins.length : Int) := by omega
        have y0 : wr.cell? ⟨bP, oP + e * 4, none⟩ = some (.int .i64 op) := st.old hbW q0
        have y1 : wr.cell? ⟨bP, oP + e * 4 + 1, none⟩ = some (.int .i64 tg) := st.old hbW q1
        have y2 : wr.cell? ⟨bP, oP + e * 4 + 2, none⟩ = some (.slice Aa args.length ca) := st.old hbW q2
        have y3 : wr.cell? ⟨bP, oP + e * 4 + 3, none⟩ = some (.int .i64 n) := st.old hbW q3
        have s := (S3.begin st own hfi.out).row 72 #[.int .i64 op, .int .i64 tg, .slice Aa args.length ca, .int .i64 n]
        clear st own
        go_upto_region 10 with fail
        clear x1 y0 y1 y2 y3
        generalize wr.alloc (.cells #[.int .i64 op, .int .i64 tg, .slice Aa args.length ca, .int .i64 n] 72) = wq at s ⊢
        generalize wr.heap.size = gx at s ⊢
        clear wr
        obtain ⟨wr, hwr⟩ : ∃ x, x = wq := ⟨_, rfl⟩
        subst hwr
        refine wp_region_held_drew (S := fun w' => (w'.cell? ⟨gx, 0, none⟩ = some (.int .i64 op) ∧ w'.cell? ⟨gx, 1, none⟩ = some (.int .i64 tg) ∧ w'.cell? ⟨gx, 2, none⟩ = some (.slice Aa args.length ca) ∧ w'.cell? ⟨gx, 3, none⟩ = some (.int .i64 n))) (by kernel_rfl) ?_ (fun hHeld => ?_)
        · exact ⟨s.st.x1.cell 0, s.st.x1.cell 1, s.st.x1.cell 2, s.st.x1.cell 3⟩
        replace s := s.drew
        generalize wr.drew = wd at hHeld s ⊢
        refine reg_take (i := 0) (v := ?v87) rfl (by kernel_rfl) (by kernel_rfl) (by kernel_rfl) (fun _ _ _ h => h) (Or.inl ⟨by kernel_rfl, ?h87⟩) (by assumption) ?r87
        case h87 => (intro w hSw; (try dsimp only at hSw); go_simp; try with_reducible rfl)
        try simp only [Act.put, List.setIfInBounds_toArray, List.set_cons_zero, List.set_cons_succ]
        refine reg_take (i := 2) (v := ?v88) rfl (by kernel_rfl) (by kernel_rfl) (by kernel_rfl) (fun _ _ _ h => h) (Or.inl ⟨by kernel_rfl, ?h88⟩) (by assumption) ?r88
        case h88 => (intro w hSw; (try dsimp only at hSw); go_simp; try with_reducible rfl)
        try simp only [Act.put, List.setIfInBounds_toArray, List.set_cons_zero, List.set_cons_succ]
        refine reg_take (i := 3) (v := ?v89) rfl (by kernel_rfl) (by kernel_rfl) (by kernel_rfl) (fun _ _ _ h => h) (Or.inl ⟨by kernel_rfl, ?h89⟩) (by assumption) ?r89
        case h89 => (intro w hSw; (try dsimp only at hSw); go_simp; try with_reducible rfl)
        try simp only [Act.put, List.setIfInBounds_toArray, List.set_cons_zero, List.set_cons_succ]
        refine reg_take (i := 4) (v := ?v90) rfl (by kernel_rfl) (by kernel_rfl) (by kernel_rfl) (fun _ _ _ h => h) (Or.inl ⟨by kernel_rfl, ?h90⟩) (by assumption) ?r90
        case h90 => (intro w hSw; (try dsimp only at hSw); go_simp; try with_reducible rfl)
        try simp only [Act.put, List.setIfInBounds_toArray, List.set_cons_zero, List.set_cons_succ]
        refine reg_take (i := 5) (v := ?v91) rfl (by kernel_rfl) (by kernel_rfl) (by kernel_rfl) (fun _ _ _ h => h) (Or.inl ⟨by kernel_rfl, ?h91⟩) (by assumption) ?r91
        case h91 => (intro w hSw; (try dsimp only at hSw); go_simp; try with_reducible rfl)
        try simp only [Act.put, List.setIfInBounds_toArray, List.set_cons_zero, List.set_cons_succ]
        refine reg_take (i := 7) (v := ?v92) rfl (by kernel_rfl) (by kernel_rfl) (by kernel_rfl) (fun _ _ _ h => h) (Or.inl ⟨by kernel_rfl, ?h92⟩) (by assumption) ?r92
        case h92 => (intro w hSw; (try dsimp only at hSw); go_simp; try with_reducible rfl)
        try simp only [Act.put, List.setIfInBounds_toArray, List.set_cons_zero, List.set_cons_succ]
        refine reg_take (i := 8) (v := ?v93) rfl (by kernel_rfl) (by kernel_rfl) (by kernel_rfl) (fun _ _ _ h => h) (Or.inl ⟨by kernel_rfl, ?h93⟩) (by assumption) ?r93
        case h93 => (intro w hSw; (try dsimp only at hSw); go_simp; try with_reducible rfl)
        try simp only [Act.put, List.setIfInBounds_toArray, List.set_cons_zero, List.set_cons_succ]
        refine reg_take (i := 10) (v := ?v94) rfl (by kernel_rfl) (by kernel_rfl) (by kernel_rfl) (fun _ _ _ h => h) (Or.inl ⟨by kernel_rfl, ?h94⟩) (by assumption) ?r94
        case h94 => (intro w hSw; (try dsimp only at hSw); go_simp; try with_reducible rfl)
        try simp only [Act.put, List.setIfInBounds_toArray, List.set_cons_zero, List.set_cons_succ]
        refine reg_take (i := 11) (v := ?v95) rfl (by kernel_rfl) (by kernel_rfl) (by kernel_rfl) (fun _ _ _ h => h) (Or.inl ⟨by kernel_rfl, ?h95⟩) (by assumption) ?r95
        case h95 => (intro w hSw; (try dsimp only at hSw); go_simp; try with_reducible rfl)
        try simp only [Act.put, List.setIfInBounds_toArray, List.set_cons_zero, List.set_cons_succ]
        refine reg_call2 (i := 1) (j := 6) (by kernel_rfl) rfl rfl (fun K hK => ?_) (fun K hK => ?_)
        · have k1 : wd.cell? ⟨gb, 1, none⟩ = some (.slice A8 e c8) := s.st.Rg.cell 1
          go_simp
          refine hK.out _ _ ?_ (fun hHeld => ?_)
          · exact ⟨s.st.x1.cell 0, s.st.x1.cell 1, s.st.x1.cell 2, s.st.x1.cell 3⟩
          clear hK K
          try simp only [Act.put, List.setIfInBounds_toArray, List.set_cons_zero, List.set_cons_succ]
          refine reg_call (i := 6) (by kernel_rfl) rfl (fun K hK => ?_)
          go_simp
          replace s := s.al (.cells #[] 3)
          generalize wd.heap.size = a6
          generalize wd.alloc (.cells #[] 3) = wd at s ⊢
          refine hK.out _ _ ?_ (fun hHeld => ?_)
          · exact ⟨s.st.x1.cell 0, s.st.x1.cell 1, s.st.x1.cell 2, s.st.x1.cell 3⟩
          clear hK K
          try simp only [Act.put, List.setIfInBounds_toArray, List.set_cons_zero, List.set_cons_succ]
          refine reg_call (i := 9) (by kernel_rfl) rfl (fun K hK => ?_)
          obtain ⟨Aq, cq, fq, wq, r9, s⟩ := s.ap ⟨a6, 0, none⟩ (ha.below s.st.hbl hB) hla
          rw [if_pos (show Region.wanted _ _ = true by kernel_rfl)]
          refine Lib.wp_append_run_sl _ _ _ 63 rfl _ _ rfl rfl r9 ?_
          clear r9
          obtain ⟨wd, hwd⟩ : ∃ x, x = wq := ⟨_, rfl⟩
          subst hwd
          refine hK.out _ _ ?_ (fun hHeld => ?_)
          · exact ⟨s.s.st.x1.cell 0, s.s.st.x1.cell 1, s.s.st.x1.cell 2, s.s.st.x1.cell 3⟩
          clear hK K
          try simp only [Act.put, List.setIfInBounds_toArray, List.set_cons_zero, List.set_cons_succ]
          refine reg_take (i := 12) (v := ?v96) rfl (by kernel_rfl) (by kernel_rfl) (by kernel_rfl) (fun _ _ _ h => h) (Or.inl ⟨by kernel_rfl, ?h96⟩) (by assumption) ?r96
          case h96 => (intro w hSw; (try dsimp only at hSw); go_simp; try with_reducible rfl)
          try simp only [Act.put, List.setIfInBounds_toArray, List.set_cons_zero, List.set_cons_succ]
          refine reg_call (i := 13) (by kernel_rfl) rfl (fun K hK => ?_)
          go_simp
          have sR := (s.al (.cells #[.int .i64 op, .int .i64 tg, .slice Aq args.length cq, .int .i64 n] 72)).s.st
          refine hK.out _ _ ?_ (fun hHeld => ?_)
          · exact ⟨sR.x1.cell 0, sR.x1.cell 1, sR.x1.cell 2, sR.x1.cell 3⟩
          clear hK K
          try simp only [Act.put, List.setIfInBounds_toArray, List.set_cons_zero, List.set_cons_succ]
          refine reg_call (i := 14) (by kernel_rfl) rfl (fun K hK => ?_)
          obtain ⟨A10, c10, w9, fp', r9, st9, own9, hfp9⟩ := s.app_ins htk.out hop ht hn (by omega)
          rw [if_pos (show Region.wanted _ _ = true by kernel_rfl)]
          refine Lib.wp_append_run_sl _ _ _ 62 rfl _ _ rfl rfl r9 ?_
          clear r9
          have k9 : w9.cell? ⟨gb, 1, none⟩ = some (.slice A8 e c8) := st9.Rg.cell 1
          have f9 : w9.frozen? ⟨gb, 1, none⟩ = false := st9.Rg.frozen 1
          refine hK.out _ _ ?_ (fun hHeld => ?_)
          · exact ⟨st9.x1.cell 0, st9.x1.cell 1, st9.x1.cell 2, st9.x1.cell 3⟩
          clear hK K
          try simp only [Act.put, List.setIfInBounds_toArray, List.set_cons_zero, List.set_cons_succ]
          refine reg_take (i := 15) (v := ?v97) rfl (by kernel_rfl) (by kernel_rfl) (by kernel_rfl) (fun _ _ _ h => h) (Or.inl ⟨by kernel_rfl, ?h97⟩) (by assumption) ?r97
          case h97 => (intro w hSw; (try dsimp only at hSw); go_simp; try with_reducible rfl)
          try simp only [Act.put, List.setIfInBounds_toArray, List.set_cons_zero, List.set_cons_succ]
          refine reg_call (i := 16) (by kernel_rfl) rfl (fun K hK => ?_)
          obtain ⟨st10, own10⟩ := st9.store own9 hfp9 1 (.slice A10 (e + 1) c10)
          go_simp
          refine hK.out _ _ ?_ (fun hHeld => ?_)
          · exact ⟨st10.x1.cell 0, st10.x1.cell 1, st10.x1.cell 2, st10.x1.cell 3⟩
          clear hK K
          try simp only [Act.put, List.setIfInBounds_toArray, List.set_cons_zero, List.set_cons_succ]
          refine wpAnyH_done (by kernel_rfl) ?_ _
          rw [← EL.out] at own10
          go_wp2_with fail
          go_roundw
          case rel => exact ⟨e + 1, A10, c10, fp', by go_num, by omega, st10.cut, own10, Lib.hid hfp9⟩
          case measure => simp [intOf]; omega
        go_simp
        replace s := s.al (.cells #[] 3)
        generalize wd.heap.size = a6
        generalize wd.alloc (.cells #[] 3) = wd at s ⊢
        refine hK.out _ _ ?_ (fun hHeld => ?_)
        · exact ⟨s.st.x1.cell 0, s.st.x1.cell 1, s.st.x1.cell 2, s.st.x1.cell 3⟩
        clear hK K
        try simp only [Act.put, List.setIfInBounds_toArray, List.set_cons_zero, List.set_cons_succ]
        refine reg_call2 (i := 1) (j := 9) (by kernel_rfl) rfl rfl (fun K hK => ?_) (fun K hK => ?_)
        · have k1 : wd.cell? ⟨gb, 1, none⟩ = some (.slice A8 e c8) := s.st.Rg.cell 1
          go_simp
          refine hK.out _ _ ?_ (fun hHeld => ?_)
          · exact ⟨s.st.x1.cell 0, s.st.x1.cell 1, s.st.x1.cell 2, s.st.x1.cell 3⟩
          clear hK K
          try simp only [Act.put, List.setIfInBounds_toArray, List.set_cons_zero, List.set_cons_succ]
          refine reg_call (i := 9) (by kernel_rfl) rfl (fun K hK => ?_)
          obtain ⟨Aq, cq, fq, wq, r9, s⟩ := s.ap ⟨a6, 0, none⟩ (ha.below s.st.hbl hB) hla
          rw [if_pos (show Region.wanted _ _ = true by kernel_rfl)]
          refine Lib.wp_append_run_sl _ _ _ 63 rfl _ _ rfl rfl r9 ?_
          clear r9
          obtain ⟨wd, hwd⟩ : ∃ x, x = wq := ⟨_, rfl⟩
          subst hwd
          refine hK.out _ _ ?_ (fun hHeld => ?_)
          · exact ⟨s.s.st.x1.cell 0, s.s.st.x1.cell 1, s.s.st.x1.cell 2, s.s.st.x1.cell 3⟩
          clear hK K
          try simp only [Act.put, List.setIfInBounds_toArray, List.set_cons_zero, List.set_cons_succ]
          refine reg_take (i := 12) (v := ?v98) rfl (by kernel_rfl) (by kernel_rfl) (by kernel_rfl) (fun _ _ _ h => h) (Or.inl ⟨by kernel_rfl, ?h98⟩) (by assumption) ?r98
          case h98 => (intro w hSw; (try dsimp only at hSw); go_simp; try with_reducible rfl)
          try simp only [Act.put, List.setIfInBounds_toArray, List.set_cons_zero, List.set_cons_succ]
          refine reg_call (i := 13) (by kernel_rfl) rfl (fun K hK => ?_)
          go_simp
          have sR := (s.al (.cells #[.int .i64 op, .int .i64 tg, .slice Aq args.length cq, .int .i64 n] 72)).s.st
          refine hK.out _ _ ?_ (fun hHeld => ?_)
          · exact ⟨sR.x1.cell 0, sR.x1.cell 1, sR.x1.cell 2, sR.x1.cell 3⟩
          clear hK K
          try simp only [Act.put, List.setIfInBounds_toArray, List.set_cons_zero, List.set_cons_succ]
          refine reg_call (i := 14) (by kernel_rfl) rfl (fun K hK => ?_)
          obtain ⟨A10, c10, w9, fp', r9, st9, own9, hfp9⟩ := s.app_ins htk.out hop ht hn (by omega)
          rw [if_pos (show Region.wanted _ _ = true by kernel_rfl)]
          refine Lib.wp_append_run_sl _ _ _ 62 rfl _ _ rfl rfl r9 ?_
          clear r9
          have k9 : w9.cell? ⟨gb, 1, none⟩ = some (.slice A8 e c8) := st9.Rg.cell 1
          have f9 : w9.frozen? ⟨gb, 1, none⟩ = false := st9.Rg.frozen 1
          refine hK.out _ _ ?_ (fun hHeld => ?_)
          · exact ⟨st9.x1.cell 0, st9.x1.cell 1, st9.x1.cell 2, st9.x1.cell 3⟩
          clear hK K
          try simp only [Act.put, List.setIfInBounds_toArray, List.set_cons_zero, List.set_cons_succ]
          refine reg_take (i := 15) (v := ?v99) rfl (by kernel_rfl) (by kernel_rfl) (by kernel_rfl) (fun _ _ _ h => h) (Or.inl ⟨by kernel_rfl, ?h99⟩) (by assumption) ?r99
          case h99 => (intro w hSw; (try dsimp only at hSw); go_simp; try with_reducible rfl)
          try simp only [Act.put, List.setIfInBounds_toArray, List.set_cons_zero, List.set_cons_succ]
          refine reg_call (i := 16) (by kernel_rfl) rfl (fun K hK => ?_)
          obtain ⟨st10, own10⟩ := st9.store own9 hfp9 1 (.slice A10 (e + 1) c10)
          go_simp
          refine hK.out _ _ ?_ (fun hHeld => ?_)
          · exact ⟨st10.x1.cell 0, st10.x1.cell 1, st10.x1.cell 2, st10.x1.cell 3⟩
          clear hK K
          try simp only [Act.put, List.setIfInBounds_toArray, List.set_cons_zero, List.set_cons_succ]
          refine wpAnyH_done (by kernel_rfl) ?_ _
          rw [← EL.out] at own10
          go_wp2_with fail
          go_roundw
          case rel => exact ⟨e + 1, A10, c10, fp', by go_num, by omega, st10.cut, own10, Lib.hid hfp9⟩
          case measure => simp [intOf]; omega
        obtain ⟨Aq, cq, fq, wq, r9, s⟩ := s.ap ⟨a6, 0, none⟩ (ha.below s.st.hbl hB) hla
        rw [if_pos (show Region.wanted _ _ = true by kernel_rfl)]
        refine Lib.wp_append_run_sl _ _ _ 63 rfl _ _ rfl rfl r9 ?_
        clear r9
        obtain ⟨wd, hwd⟩ : ∃ x, x = wq := ⟨_, rfl⟩
        subst hwd
        refine hK.out _ _ ?_ (fun hHeld => ?_)
        · exact ⟨s.s.st.x1.cell 0, s.s.st.x1.cell 1, s.s.st.x1.cell 2, s.s.st.x1.cell 3⟩
        clear hK K
        try simp only [Act.put, List.setIfInBounds_toArray, List.set_cons_zero, List.set_cons_succ]
        refine reg_take (i := 12) (v := ?v100) rfl (by kernel_rfl) (by kernel_rfl) (by kernel_rfl) (fun _ _ _ h => h) (Or.inl ⟨by kernel_rfl, ?h100⟩) (by assumption) ?r100
        case h100 => (intro w hSw; (try dsimp only at hSw); go_simp; try with_reducible rfl)
        try simp only [Act.put, List.setIfInBounds_toArray, List.set_cons_zero, List.set_cons_succ]
        refine reg_call2 (i := 1) (j := 13) (by kernel_rfl) rfl rfl (fun K hK => ?_) (fun K hK => ?_)
        · have k1 : wd.cell? ⟨gb, 1, none⟩ = some (.slice A8 e c8) := s.s.st.Rg.cell 1
          go_simp
          refine hK.out _ _ ?_ (fun hHeld => ?_)
          · exact ⟨s.s.st.x1.cell 0, s.s.st.x1.cell 1, s.s.st.x1.cell 2, s.s.st.x1.cell 3⟩
          clear hK K
          try simp only [Act.put, List.setIfInBounds_toArray, List.set_cons_zero, List.set_cons_succ]
          refine reg_call (i := 13) (by kernel_rfl) rfl (fun K hK => ?_)
          go_simp
          have sR := (s.al (.cells #[.int .i64 op, .int .i64 tg, .slice Aq args.length cq, .int .i64 n] 72)).s.st
          refine hK.out _ _ ?_ (fun hHeld => ?_)
          · exact ⟨sR.x1.cell 0, sR.x1.cell 1, sR.x1.cell 2, sR.x1.cell 3⟩
          clear hK K
          try simp only [Act.put, List.setIfInBounds_toArray, List.set_cons_zero, List.set_cons_succ]
          refine reg_call (i := 14) (by kernel_rfl) rfl (fun K hK => ?_)
          obtain ⟨A10, c10, w9, fp', r9, st9, own9, hfp9⟩ := s.app_ins htk.out hop ht hn (by omega)
          rw [if_pos (show Region.wanted _ _ = true by kernel_rfl)]
          refine Lib.wp_append_run_sl _ _ _ 62 rfl _ _ rfl rfl r9 ?_
          clear r9
          have k9 : w9.cell? ⟨gb, 1, none⟩ = some (.slice A8 e c8) := st9.Rg.cell 1
          have f9 : w9.frozen? ⟨gb, 1, none⟩ = false := st9.Rg.frozen 1
          refine hK.out _ _ ?_ (fun hHeld => ?_)
          · exact ⟨st9.x1.cell 0, st9.x1.cell 1, st9.x1.cell 2, st9.x1.cell 3⟩
          clear hK K
          try simp only [Act.put, List.setIfInBounds_toArray, List.set_cons_zero, List.set_cons_succ]
          refine reg_take (i := 15) (v := ?v101) rfl (by kernel_rfl) (by kernel_rfl) (by kernel_rfl) (fun _ _ _ h => h) (Or.inl ⟨by kernel_rfl, ?h101⟩) (by assumption) ?r101
          case h101 => (intro w hSw; (try dsimp only at hSw); go_simp; try with_reducible rfl)
          try simp only [Act.put, List.setIfInBounds_toArray, List.set_cons_zero, List.set_cons_succ]
          refine reg_call (i := 16) (by kernel_rfl) rfl (fun K hK => ?_)
          obtain ⟨st10, own10⟩ := st9.store own9 hfp9 1 (.slice A10 (e + 1) c10)
          go_simp
          refine hK.out _ _ ?_ (fun hHeld => ?_)
          · exact ⟨st10.x1.cell 0, st10.x1.cell 1, st10.x1.cell 2, st10.x1.cell 3⟩
          clear hK K
          try simp only [Act.put, List.setIfInBounds_toArray, List.set_cons_zero, List.set_cons_succ]
          refine wpAnyH_done (by kernel_rfl) ?_ _
          rw [← EL.out] at own10
          go_wp2_with fail
          go_roundw
          case rel => exact ⟨e + 1, A10, c10, fp', by go_num, by omega, st10.cut, own10, Lib.hid hfp9⟩
          case measure => simp [intOf]; omega
        go_simp
        have sR := (s.al (.cells #[.int .i64 op, .int .i64 tg, .slice Aq args.length cq, .int .i64 n] 72)).s.st
        refine hK.out _ _ ?_ (fun hHeld => ?_)
        · exact ⟨sR.x1.cell 0, sR.x1.cell 1, sR.x1.cell 2, sR.x1.cell 3⟩
        clear hK K
        try simp only [Act.put, List.setIfInBounds_toArray, List.set_cons_zero, List.set_cons_succ]
        refine reg_call (i := 1) (by kernel_rfl) rfl (fun K hK => ?_)
        have k1 : (wd.alloc (.cells #[.int .i64 op, .int .i64 tg, .slice Aq args.length cq, .int .i64 n] 72)).cell? ⟨gb, 1, none⟩ = some (.slice A8 e c8) := sR.Rg.cell 1
        go_simp
        refine hK.out _ _ ?_ (fun hHeld => ?_)
        · exact ⟨sR.x1.cell 0, sR.x1.cell 1, sR.x1.cell 2, sR.x1.cell 3⟩
        clear hK K
        try simp only [Act.put, List.setIfInBounds_toArray, List.set_cons_zero, List.set_cons_succ]
        refine reg_call (i := 14) (by kernel_rfl) rfl (fun K hK => ?_)
        obtain ⟨A10, c10, w9, fp', r9, st9, own9, hfp9⟩ := s.app_ins htk.out hop ht hn (by omega)
        rw [if_pos (show Region.wanted _ _ = true by kernel_rfl)]
        refine Lib.wp_append_run_sl _ _ _ 62 rfl _ _ rfl rfl r9 ?_
        clear r9
        have k9 : w9.cell? ⟨gb, 1, none⟩ = some (.slice A8 e c8) := st9.Rg.cell 1
        have f9 : w9.frozen? ⟨gb, 1, none⟩ = false := st9.Rg.frozen 1
        refine hK.out _ _ ?_ (fun hHeld => ?_)
        · exact ⟨st9.x1.cell 0, st9.x1.cell 1, st9.x1.cell 2, st9.x1.cell 3⟩
        clear hK K
        try simp only [Act.put, List.setIfInBounds_toArray, List.set_cons_zero, List.set_cons_succ]
        refine reg_take (i := 15) (v := ?v102) rfl (by kernel_rfl) (by kernel_rfl) (by kernel_rfl) (fun _ _ _ h => h) (Or.inl ⟨by kernel_rfl, ?h102⟩) (by assumption) ?r102
        case h102 => (intro w hSw; (try dsimp only at hSw); go_simp; try with_reducible rfl)
        try simp only [Act.put, List.setIfInBounds_toArray, List.set_cons_zero, List.set_cons_succ]
        refine reg_call (i := 16) (by kernel_rfl) rfl (fun K hK => ?_)
        obtain ⟨st10, own10⟩ := st9.store own9 hfp9 1 (.slice A10 (e + 1) c10)
        go_simp
        refine hK.out _ _ ?_ (fun hHeld => ?_)
        · exact ⟨st10.x1.cell 0, st10.x1.cell 1, st10.x1.cell 2, st10.x1.cell 3⟩
        clear hK K
        try simp only [Act.put, List.setIfInBounds_toArray, List.set_cons_zero, List.set_cons_succ]
        refine wpAnyH_done (by kernel_rfl) ?_ _
        rw [← EL.out] at own10
        go_wp2_with fail
        go_roundw
        case rel => exact ⟨e + 1, A10, c10, fp', by go_num, by omega, st10.cut, own10, Lib.hid hfp9⟩
        case measure => simp [intOf]; omega
end Go.Proofs.Ytgcjccoglcgcoaa
