/-
  The copy of a block, exact: l7CopyBlock. Condition: the argument reads as data of small size.
-/
import Derived.Test.YtgcjccoglcgcoaaRegT
import Derived.Test.YtgcjccoglcgcoaaSt
import Derived.Deep.CutRange
import Derived.Deep.CutBlock
namespace Go.Proofs.Ytgcjccoglcgcoaa
open Go.RowKit Go.ChangeShapes Go.WideShapes Go.Deep
set_option linter.unusedVariables false
set_option linter.unusedSimpArgs false
set_option maxRecDepth 100000 in
set_option maxHeartbeats 8000000 in
theorem spec_l7CopyBlock (phis : List PhiD) (v0 : Value) (ins : List InsD) (v1 : Value) (jp on : Int) (next : List Int) (v4 : Value) (w : World) (lo B : Nat) (hB : B ≤ w.heap.size) (hl : blkN ⟨phis, ins, jp, on, next⟩ ≤ 1048576) (h0 : Sl false (phiS false) w lo B phis v0) (h1 : Sl false (insS false) w lo B ins v1) (hj : I64 jp) (ho : I64 on) (h4 : Sl false (intS false) w lo B next v4) :
    Calls Try.prog 97 #[.agg #[v0, v1, .int .i64 jp, .int .i64 on, v4]] w (ToF bkF ⟨phis, ins, jp, on, next⟩ w) := by
  have hl0 : (phis.length + sumBy phiN phis) + (ins.length + sumBy insN ins) + next.length ≤ 1048576 := hl
  have hlp : Hid (∀ a ∈ phis, a.args.length ≤ 1048576) := Lib.hid (fun a ha => by
    have : a.args.length ≤ sumBy phiN phis := sumBy_mem phiN ha
    omega)
  have hli : Hid (∀ a ∈ ins, a.args.length ≤ 1048576) := Lib.hid (fun a ha => by
    have : a.args.length ≤ sumBy insN ins := sumBy_mem insN ha
    omega)
  have hl1 : phis.length ≤ 1048576 := by omega
  have hl2 : ins.length ≤ 1048576 := by omega
  have hl4 : next.length ≤ 1048576 := by omega
  clear hl hl0
  obtain ⟨A0, p0, hf, _, _⟩ := h0.form
  change _ = Value.slice A0 phis.length p0 at hf
  subst hf
  obtain ⟨A1, p1, hf, _, _⟩ := h1.form
  change _ = Value.slice A1 ins.length p1 at hf
  subst hf
  obtain ⟨A4, p4, hf, _, _⟩ := h4.form
  change _ = Value.slice A4 next.length p4 at hf
  subst hf
  go_enter Try.func97, Try.ntmps97
  go_upto_region 1 with fail
  have st : S1 w ((w.alloc (.cells #[.slice A0 phis.length p0, .slice A1 ins.length p1, .int .i64 jp, .int .i64 on, .slice A4 next.length p4] 65)).alloc (.cells #[.slice none 0 0, .slice none 0 0, .int .i64 0, .int .i64 0, .slice none 0 0] 65)) #[.slice A0 phis.length p0, .slice A1 ins.length p1, .int .i64 jp, .int .i64 on, .slice A4 next.length p4] #[.slice none 0 0, .slice none 0 0, .int .i64 0, .int .i64 0, .slice none 0 0] [] [] [] [] [] (.slice none 0 0) := ⟨((Below.refl _ w).alloc (Nat.le_refl _) _).alloc (by simp) _, (Row.new w _ _).alloc _, by simpa using Row.new (w.alloc (.cells #[.slice A0 phis.length p0, .slice A1 ins.length p1, .int .i64 jp, .int .i64 on, .slice A4 next.length p4] 65)) 65 #[.slice none 0 0, .slice none 0 0, .int .i64 0, .int .i64 0, .slice none 0 0], fun b hb => (by cases hb), fun b hb => (by cases hb), fun b hb => (by cases hb), by simp, fun b hb => (by cases hb), SlF.nil_ _ _ _⟩
  generalize (w.alloc (.cells #[.slice A0 phis.length p0, .slice A1 ins.length p1, .int .i64 jp, .int .i64 on, .slice A4 next.length p4] 65)).alloc (.cells #[.slice none 0 0, .slice none 0 0, .int .i64 0, .int .i64 0, .slice none 0 0] 65) = w1 at st ⊢
  go_cut [3] from 7 (fun v wx => CutB w #[.slice A0 phis.length p0, .slice A1 ins.length p1, .int .i64 jp, .int .i64 on, .slice A4 next.length p4] #[.slice none 0 0, .slice none 0 0, .int .i64 0, .int .i64 0, .slice none 0 0] jp on next v wx)
  case first =>
    refine wp_region_held_drew (S := fun w' => (w'.cell? ⟨w.heap.size, 2, none⟩ = some (.int .i64 jp) ∧ w'.cell? ⟨w.heap.size, 3, none⟩ = some (.int .i64 on) ∧ w'.cell? ⟨w.heap.size, 4, none⟩ = some (.slice A4 next.length p4))) (by kernel_rfl) ?_ (fun hHeld => ?_)
    · exact ⟨st.Rb.cell 2, st.Rb.cell 3, st.Rb.cell 4⟩
    replace st := st.drew
    generalize w1.drew = wd at hHeld st ⊢
    refine tk (i := 2) ?_
    try simp only [ap]
    refine tk (i := 3) ?_
    try simp only [ap]
    refine tk (i := 4) ?_
    try simp only [ap]
    refine tk (i := 5) ?_
    try simp only [ap]
    refine tk (i := 7) ?_
    try simp only [ap]
    refine tk (i := 8) ?_
    try simp only [ap]
    refine reg_call4 (i := 0) (j := 1) (k := 6) (l := 11) (by kernel_rfl) rfl rfl rfl rfl (fun K hK => ?_) (fun K hK => ?_) (fun K hK => ?_) (fun K hK => ?_)
    · go_simp
      replace st := st.a0
      generalize wd.heap.size = b7 at st ⊢
      generalize wd.alloc (.cells #[] 69) = wd at st ⊢
      refine hK.out _ _ ?_ (fun hHeld => ?_)
      · exact ⟨st.Rb.cell 2, st.Rb.cell 3, st.Rb.cell 4⟩
      clear hK K
      try simp only [ap]
      refine reg_call3 (i := 1) (j := 6) (k := 11) (by kernel_rfl) rfl rfl rfl (fun K hK => ?_) (fun K hK => ?_) (fun K hK => ?_)
      · go_simp
        replace st := st.a1
        generalize wd.heap.size = b8 at st ⊢
        generalize wd.alloc (.cells #[] 72) = wd at st ⊢
        refine hK.out _ _ ?_ (fun hHeld => ?_)
        · exact ⟨st.Rb.cell 2, st.Rb.cell 3, st.Rb.cell 4⟩
        clear hK K
        try simp only [ap]
        refine reg_call2 (i := 6) (j := 11) (by kernel_rfl) rfl rfl (fun K hK => ?_) (fun K hK => ?_)
        · go_simp
          replace st := st.al (.cells #[] 3)
          generalize wd.heap.size = a6 at ⊢
          generalize wd.alloc (.cells #[] 3) = wd at st ⊢
          refine hK.out _ _ ?_ (fun hHeld => ?_)
          · exact ⟨st.Rb.cell 2, st.Rb.cell 3, st.Rb.cell 4⟩
          clear hK K
          try simp only [ap]
          refine reg_call2 (i := 9) (j := 11) (by kernel_rfl) rfl rfl (fun K hK => ?_) (fun K hK => ?_)
          · obtain ⟨A16, c16, f4, wq, r9, st⟩ := st.ap ⟨a6, 0, none⟩ (h4.below st.hbl hB) hl4
            rw [if_pos (show Region.wanted _ _ = true by kernel_rfl)]
            refine Lib.wp_append_run_sl _ _ _ 63 rfl _ _ rfl rfl r9 ?_
            clear r9
            obtain ⟨wd, hwd⟩ : ∃ x, x = wq := ⟨_, rfl⟩
            subst hwd
            refine hK.out _ _ ?_ (fun hHeld => ?_)
            · exact ⟨st.Rb.cell 2, st.Rb.cell 3, st.Rb.cell 4⟩
            clear hK K
            try simp only [ap]
            refine tk (i := 10) ?_
            try simp only [ap]
            refine reg_call (i := 11) (by kernel_rfl) rfl (fun K hK => ?_)
            go_simp
            replace st := st.ag
            generalize wd.heap.size = gb at st ⊢
            generalize wd.alloc (.cells #[.slice none 0 0, .slice none 0 0, .int .i64 0, .int .i64 0, .slice none 0 0] 65) = wd at st ⊢
            refine hK.out _ _ ?_ (fun hHeld => ?_)
            · exact ⟨st.Rb.cell 2, st.Rb.cell 3, st.Rb.cell 4⟩
            clear hK K
            try simp only [ap]
            refine reg_call (i := 12) (by kernel_rfl) rfl (fun K hK => ?_)
            rw [if_pos (show Region.wanted _ _ = true by kernel_rfl)]
            refine wp_store_mid 65 _ _ rfl gb 0 #[.slice (some ⟨b7, 0, none⟩) 0 0, .slice (some ⟨b8, 0, none⟩) 0 0, .int .i64 jp, .int .i64 on, .slice A16 next.length c16] rfl rfl (row_there (st.hg gb (by simp)) 5 (by decide)) size_block (by simp [Value.oneCell']) ?_
            rw [set5_eq]
            have R5 := row_far5 st.Rb st.gne
            refine hK.out _ _ ?_ (fun hHeld => ?_)
            · exact ⟨(R5 _ _ _ _ _).cell 2, (R5 _ _ _ _ _).cell 3, (R5 _ _ _ _ _).cell 4⟩
            clear hK K
            try simp only [ap]
            refine wpAnyH_done (by kernel_rfl) ?_ _
            go_wp2_with fail
            go_meet
            exact st.fin jp on
          go_simp
          replace st := st.ag
          generalize wd.heap.size = gb at st ⊢
          generalize wd.alloc (.cells #[.slice none 0 0, .slice none 0 0, .int .i64 0, .int .i64 0, .slice none 0 0] 65) = wd at st ⊢
          refine hK.out _ _ ?_ (fun hHeld => ?_)
          · exact ⟨st.Rb.cell 2, st.Rb.cell 3, st.Rb.cell 4⟩
          clear hK K
          try simp only [ap]
          refine reg_call (i := 9) (by kernel_rfl) rfl (fun K hK => ?_)
          obtain ⟨A16, c16, f4, wq, r9, st⟩ := st.ap ⟨a6, 0, none⟩ (h4.below st.hbl hB) hl4
          rw [if_pos (show Region.wanted _ _ = true by kernel_rfl)]
          refine Lib.wp_append_run_sl _ _ _ 63 rfl _ _ rfl rfl r9 ?_
          clear r9
          obtain ⟨wd, hwd⟩ : ∃ x, x = wq := ⟨_, rfl⟩
          subst hwd
          refine hK.out _ _ ?_ (fun hHeld => ?_)
          · exact ⟨st.Rb.cell 2, st.Rb.cell 3, st.Rb.cell 4⟩
          clear hK K
          try simp only [ap]
          refine tk (i := 10) ?_
          try simp only [ap]
          refine reg_call (i := 12) (by kernel_rfl) rfl (fun K hK => ?_)
          rw [if_pos (show Region.wanted _ _ = true by kernel_rfl)]
          refine wp_store_mid 65 _ _ rfl gb 0 #[.slice (some ⟨b7, 0, none⟩) 0 0, .slice (some ⟨b8, 0, none⟩) 0 0, .int .i64 jp, .int .i64 on, .slice A16 next.length c16] rfl rfl (row_there (st.hg gb (by simp)) 5 (by decide)) size_block (by simp [Value.oneCell']) ?_
          rw [set5_eq]
          have R5 := row_far5 st.Rb st.gne
          refine hK.out _ _ ?_ (fun hHeld => ?_)
          · exact ⟨(R5 _ _ _ _ _).cell 2, (R5 _ _ _ _ _).cell 3, (R5 _ _ _ _ _).cell 4⟩
          clear hK K
          try simp only [ap]
          refine wpAnyH_done (by kernel_rfl) ?_ _
          go_wp2_with fail
          go_meet
          exact st.fin jp on
        go_simp
        replace st := st.ag
        generalize wd.heap.size = gb at st ⊢
        generalize wd.alloc (.cells #[.slice none 0 0, .slice none 0 0, .int .i64 0, .int .i64 0, .slice none 0 0] 65) = wd at st ⊢
        refine hK.out _ _ ?_ (fun hHeld => ?_)
        · exact ⟨st.Rb.cell 2, st.Rb.cell 3, st.Rb.cell 4⟩
        clear hK K
        try simp only [ap]
        refine reg_call (i := 6) (by kernel_rfl) rfl (fun K hK => ?_)
        go_simp
        replace st := st.al (.cells #[] 3)
        generalize wd.heap.size = a6 at ⊢
        generalize wd.alloc (.cells #[] 3) = wd at st ⊢
        refine hK.out _ _ ?_ (fun hHeld => ?_)
        · exact ⟨st.Rb.cell 2, st.Rb.cell 3, st.Rb.cell 4⟩
        clear hK K
        try simp only [ap]
        refine reg_call (i := 9) (by kernel_rfl) rfl (fun K hK => ?_)
        obtain ⟨A16, c16, f4, wq, r9, st⟩ := st.ap ⟨a6, 0, none⟩ (h4.below st.hbl hB) hl4
        rw [if_pos (show Region.wanted _ _ = true by kernel_rfl)]
        refine Lib.wp_append_run_sl _ _ _ 63 rfl _ _ rfl rfl r9 ?_
        clear r9
        obtain ⟨wd, hwd⟩ : ∃ x, x = wq := ⟨_, rfl⟩
        subst hwd
        refine hK.out _ _ ?_ (fun hHeld => ?_)
        · exact ⟨st.Rb.cell 2, st.Rb.cell 3, st.Rb.cell 4⟩
        clear hK K
        try simp only [ap]
        refine tk (i := 10) ?_
        try simp only [ap]
        refine reg_call (i := 12) (by kernel_rfl) rfl (fun K hK => ?_)
        rw [if_pos (show Region.wanted _ _ = true by kernel_rfl)]
        refine wp_store_mid 65 _ _ rfl gb 0 #[.slice (some ⟨b7, 0, none⟩) 0 0, .slice (some ⟨b8, 0, none⟩) 0 0, .int .i64 jp, .int .i64 on, .slice A16 next.length c16] rfl rfl (row_there (st.hg gb (by simp)) 5 (by decide)) size_block (by simp [Value.oneCell']) ?_
        rw [set5_eq]
        have R5 := row_far5 st.Rb st.gne
        refine hK.out _ _ ?_ (fun hHeld => ?_)
        · exact ⟨(R5 _ _ _ _ _).cell 2, (R5 _ _ _ _ _).cell 3, (R5 _ _ _ _ _).cell 4⟩
        clear hK K
        try simp only [ap]
        refine wpAnyH_done (by kernel_rfl) ?_ _
        go_wp2_with fail
        go_meet
        exact st.fin jp on
      · go_simp
        replace st := st.al (.cells #[] 3)
        generalize wd.heap.size = a6 at ⊢
        generalize wd.alloc (.cells #[] 3) = wd at st ⊢
        refine hK.out _ _ ?_ (fun hHeld => ?_)
        · exact ⟨st.Rb.cell 2, st.Rb.cell 3, st.Rb.cell 4⟩
        clear hK K
        try simp only [ap]
        refine reg_call3 (i := 1) (j := 9) (k := 11) (by kernel_rfl) rfl rfl rfl (fun K hK => ?_) (fun K hK => ?_) (fun K hK => ?_)
        · go_simp
          replace st := st.a1
          generalize wd.heap.size = b8 at st ⊢
          generalize wd.alloc (.cells #[] 72) = wd at st ⊢
          refine hK.out _ _ ?_ (fun hHeld => ?_)
          · exact ⟨st.Rb.cell 2, st.Rb.cell 3, st.Rb.cell 4⟩
          clear hK K
          try simp only [ap]
          refine reg_call2 (i := 9) (j := 11) (by kernel_rfl) rfl rfl (fun K hK => ?_) (fun K hK => ?_)
          · obtain ⟨A16, c16, f4, wq, r9, st⟩ := st.ap ⟨a6, 0, none⟩ (h4.below st.hbl hB) hl4
            rw [if_pos (show Region.wanted _ _ = true by kernel_rfl)]
            refine Lib.wp_append_run_sl _ _ _ 63 rfl _ _ rfl rfl r9 ?_
            clear r9
            obtain ⟨wd, hwd⟩ : ∃ x, x = wq := ⟨_, rfl⟩
            subst hwd
            refine hK.out _ _ ?_ (fun hHeld => ?_)
            · exact ⟨st.Rb.cell 2, st.Rb.cell 3, st.Rb.cell 4⟩
            clear hK K
            try simp only [ap]
            refine tk (i := 10) ?_
            try simp only [ap]
            refine reg_call (i := 11) (by kernel_rfl) rfl (fun K hK => ?_)
            go_simp
            replace st := st.ag
            generalize wd.heap.size = gb at st ⊢
            generalize wd.alloc (.cells #[.slice none 0 0, .slice none 0 0, .int .i64 0, .int .i64 0, .slice none 0 0] 65) = wd at st ⊢
            refine hK.out _ _ ?_ (fun hHeld => ?_)
            · exact ⟨st.Rb.cell 2, st.Rb.cell 3, st.Rb.cell 4⟩
            clear hK K
            try simp only [ap]
            refine reg_call (i := 12) (by kernel_rfl) rfl (fun K hK => ?_)
            rw [if_pos (show Region.wanted _ _ = true by kernel_rfl)]
            refine wp_store_mid 65 _ _ rfl gb 0 #[.slice (some ⟨b7, 0, none⟩) 0 0, .slice (some ⟨b8, 0, none⟩) 0 0, .int .i64 jp, .int .i64 on, .slice A16 next.length c16] rfl rfl (row_there (st.hg gb (by simp)) 5 (by decide)) size_block (by simp [Value.oneCell']) ?_
            rw [set5_eq]
            have R5 := row_far5 st.Rb st.gne
            refine hK.out _ _ ?_ (fun hHeld => ?_)
            · exact ⟨(R5 _ _ _ _ _).cell 2, (R5 _ _ _ _ _).cell 3, (R5 _ _ _ _ _).cell 4⟩
            clear hK K
            try simp only [ap]
            refine wpAnyH_done (by kernel_rfl) ?_ _
            go_wp2_with fail
            go_meet
            exact st.fin jp on
          go_simp
          replace st := st.ag
          generalize wd.heap.size = gb at st ⊢
          generalize wd.alloc (.cells #[.slice none 0 0, .slice none 0 0, .int .i64 0, .int .i64 0, .slice none 0 0] 65) = wd at st ⊢
          refine hK.out _ _ ?_ (fun hHeld => ?_)
          · exact ⟨st.Rb.cell 2, st.Rb.cell 3, st.Rb.cell 4⟩
          clear hK K
          try simp only [ap]
          refine reg_call (i := 9) (by kernel_rfl) rfl (fun K hK => ?_)
          obtain ⟨A16, c16, f4, wq, r9, st⟩ := st.ap ⟨a6, 0, none⟩ (h4.below st.hbl hB) hl4
          rw [if_pos (show Region.wanted _ _ = true by kernel_rfl)]
          refine Lib.wp_append_run_sl _ _ _ 63 rfl _ _ rfl rfl r9 ?_
          clear r9
          obtain ⟨wd, hwd⟩ : ∃ x, x = wq := ⟨_, rfl⟩
          subst hwd
          refine hK.out _ _ ?_ (fun hHeld => ?_)
          · exact ⟨st.Rb.cell 2, st.Rb.cell 3, st.Rb.cell 4⟩
          clear hK K
          try simp only [ap]
          refine tk (i := 10) ?_
          try simp only [ap]
          refine reg_call (i := 12) (by kernel_rfl) rfl (fun K hK => ?_)
          rw [if_pos (show Region.wanted _ _ = true by kernel_rfl)]
          refine wp_store_mid 65 _ _ rfl gb 0 #[.slice (some ⟨b7, 0, none⟩) 0 0, .slice (some ⟨b8, 0, none⟩) 0 0, .int .i64 jp, .int .i64 on, .slice A16 next.length c16] rfl rfl (row_there (st.hg gb (by simp)) 5 (by decide)) size_block (by simp [Value.oneCell']) ?_
          rw [set5_eq]
          have R5 := row_far5 st.Rb st.gne
          refine hK.out _ _ ?_ (fun hHeld => ?_)
          · exact ⟨(R5 _ _ _ _ _).cell 2, (R5 _ _ _ _ _).cell 3, (R5 _ _ _ _ _).cell 4⟩
          clear hK K
          try simp only [ap]
          refine wpAnyH_done (by kernel_rfl) ?_ _
          go_wp2_with fail
          go_meet
          exact st.fin jp on
        · obtain ⟨A16, c16, f4, wq, r9, st⟩ := st.ap ⟨a6, 0, none⟩ (h4.below st.hbl hB) hl4
          rw [if_pos (show Region.wanted _ _ = true by kernel_rfl)]
          refine Lib.wp_append_run_sl _ _ _ 63 rfl _ _ rfl rfl r9 ?_
          clear r9
          obtain ⟨wd, hwd⟩ : ∃ x, x = wq := ⟨_, rfl⟩
          subst hwd
          refine hK.out _ _ ?_ (fun hHeld => ?_)
          · exact ⟨st.Rb.cell 2, st.Rb.cell 3, st.Rb.cell 4⟩
          clear hK K
          try simp only [ap]
          refine reg_call2 (i := 1) (j := 11) (by kernel_rfl) rfl rfl (fun K hK => ?_) (fun K hK => ?_)
          · go_simp
            replace st := st.a1
            generalize wd.heap.size = b8 at st ⊢
            generalize wd.alloc (.cells #[] 72) = wd at st ⊢
            refine hK.out _ _ ?_ (fun hHeld => ?_)
            · exact ⟨st.Rb.cell 2, st.Rb.cell 3, st.Rb.cell 4⟩
            clear hK K
            try simp only [ap]
            refine tk (i := 10) ?_
            try simp only [ap]
            refine reg_call (i := 11) (by kernel_rfl) rfl (fun K hK => ?_)
            go_simp
            replace st := st.ag
            generalize wd.heap.size = gb at st ⊢
            generalize wd.alloc (.cells #[.slice none 0 0, .slice none 0 0, .int .i64 0, .int .i64 0, .slice none 0 0] 65) = wd at st ⊢
            refine hK.out _ _ ?_ (fun hHeld => ?_)
            · exact ⟨st.Rb.cell 2, st.Rb.cell 3, st.Rb.cell 4⟩
            clear hK K
            try simp only [ap]
            refine reg_call (i := 12) (by kernel_rfl) rfl (fun K hK => ?_)
            rw [if_pos (show Region.wanted _ _ = true by kernel_rfl)]
            refine wp_store_mid 65 _ _ rfl gb 0 #[.slice (some ⟨b7, 0, none⟩) 0 0, .slice (some ⟨b8, 0, none⟩) 0 0, .int .i64 jp, .int .i64 on, .slice A16 next.length c16] rfl rfl (row_there (st.hg gb (by simp)) 5 (by decide)) size_block (by simp [Value.oneCell']) ?_
            rw [set5_eq]
            have R5 := row_far5 st.Rb st.gne
            refine hK.out _ _ ?_ (fun hHeld => ?_)
            · exact ⟨(R5 _ _ _ _ _).cell 2, (R5 _ _ _ _ _).cell 3, (R5 _ _ _ _ _).cell 4⟩
            clear hK K
            try simp only [ap]
            refine wpAnyH_done (by kernel_rfl) ?_ _
            go_wp2_with fail
            go_meet
            exact st.fin jp on
          go_simp
          replace st := st.ag
          generalize wd.heap.size = gb at st ⊢
          generalize wd.alloc (.cells #[.slice none 0 0, .slice none 0 0, .int .i64 0, .int .i64 0, .slice none 0 0] 65) = wd at st ⊢
          refine hK.out _ _ ?_ (fun hHeld => ?_)
          · exact ⟨st.Rb.cell 2, st.Rb.cell 3, st.Rb.cell 4⟩
          clear hK K
          try simp only [ap]
          refine reg_call (i := 1) (by kernel_rfl) rfl (fun K hK => ?_)
          go_simp
          replace st := st.a1
          generalize wd.heap.size = b8 at st ⊢
          generalize wd.alloc (.cells #[] 72) = wd at st ⊢
          refine hK.out _ _ ?_ (fun hHeld => ?_)
          · exact ⟨st.Rb.cell 2, st.Rb.cell 3, st.Rb.cell 4⟩
          clear hK K
          try simp only [ap]
          refine tk (i := 10) ?_
          try simp only [ap]
          refine reg_call (i := 12) (by kernel_rfl) rfl (fun K hK => ?_)
          rw [if_pos (show Region.wanted _ _ = true by kernel_rfl)]
          refine wp_store_mid 65 _ _ rfl gb 0 #[.slice (some ⟨b7, 0, none⟩) 0 0, .slice (some ⟨b8, 0, none⟩) 0 0, .int .i64 jp, .int .i64 on, .slice A16 next.length c16] rfl rfl (row_there (st.hg gb (by simp)) 5 (by decide)) size_block (by simp [Value.oneCell']) ?_
          rw [set5_eq]
          have R5 := row_far5 st.Rb st.gne
          refine hK.out _ _ ?_ (fun hHeld => ?_)
          · exact ⟨(R5 _ _ _ _ _).cell 2, (R5 _ _ _ _ _).cell 3, (R5 _ _ _ _ _).cell 4⟩
          clear hK K
          try simp only [ap]
          refine wpAnyH_done (by kernel_rfl) ?_ _
          go_wp2_with fail
          go_meet
          exact st.fin jp on
        go_simp
        replace st := st.ag
        generalize wd.heap.size = gb at st ⊢
        generalize wd.alloc (.cells #[.slice none 0 0, .slice none 0 0, .int .i64 0, .int .i64 0, .slice none 0 0] 65) = wd at st ⊢
        refine hK.out _ _ ?_ (fun hHeld => ?_)
        · exact ⟨st.Rb.cell 2, st.Rb.cell 3, st.Rb.cell 4⟩
        clear hK K
        try simp only [ap]
        refine reg_call2 (i := 1) (j := 9) (by kernel_rfl) rfl rfl (fun K hK => ?_) (fun K hK => ?_)
        · go_simp
          replace st := st.a1
          generalize wd.heap.size = b8 at st ⊢
          generalize wd.alloc (.cells #[] 72) = wd at st ⊢
          refine hK.out _ _ ?_ (fun hHeld => ?_)
          · exact ⟨st.Rb.cell 2, st.Rb.cell 3, st.Rb.cell 4⟩
          clear hK K
          try simp only [ap]
          refine reg_call (i := 9) (by kernel_rfl) rfl (fun K hK => ?_)
          obtain ⟨A16, c16, f4, wq, r9, st⟩ := st.ap ⟨a6, 0, none⟩ (h4.below st.hbl hB) hl4
          rw [if_pos (show Region.wanted _ _ = true by kernel_rfl)]
          refine Lib.wp_append_run_sl _ _ _ 63 rfl _ _ rfl rfl r9 ?_
          clear r9
          obtain ⟨wd, hwd⟩ : ∃ x, x = wq := ⟨_, rfl⟩
          subst hwd
          refine hK.out _ _ ?_ (fun hHeld => ?_)
          · exact ⟨st.Rb.cell 2, st.Rb.cell 3, st.Rb.cell 4⟩
          clear hK K
          try simp only [ap]
          refine tk (i := 10) ?_
          try simp only [ap]
          refine reg_call (i := 12) (by kernel_rfl) rfl (fun K hK => ?_)
          rw [if_pos (show Region.wanted _ _ = true by kernel_rfl)]
          refine wp_store_mid 65 _ _ rfl gb 0 #[.slice (some ⟨b7, 0, none⟩) 0 0, .slice (some ⟨b8, 0, none⟩) 0 0, .int .i64 jp, .int .i64 on, .slice A16 next.length c16] rfl rfl (row_there (st.hg gb (by simp)) 5 (by decide)) size_block (by simp [Value.oneCell']) ?_
          rw [set5_eq]
          have R5 := row_far5 st.Rb st.gne
          refine hK.out _ _ ?_ (fun hHeld => ?_)
          · exact ⟨(R5 _ _ _ _ _).cell 2, (R5 _ _ _ _ _).cell 3, (R5 _ _ _ _ _).cell 4⟩
          clear hK K
          try simp only [ap]
          refine wpAnyH_done (by kernel_rfl) ?_ _
          go_wp2_with fail
          go_meet
          exact st.fin jp on
        obtain ⟨A16, c16, f4, wq, r9, st⟩ := st.ap ⟨a6, 0, none⟩ (h4.below st.hbl hB) hl4
        rw [if_pos (show Region.wanted _ _ = true by kernel_rfl)]
        refine Lib.wp_append_run_sl _ _ _ 63 rfl _ _ rfl rfl r9 ?_
        clear r9
        obtain ⟨wd, hwd⟩ : ∃ x, x = wq := ⟨_, rfl⟩
        subst hwd
        refine hK.out _ _ ?_ (fun hHeld => ?_)
        · exact ⟨st.Rb.cell 2, st.Rb.cell 3, st.Rb.cell 4⟩
        clear hK K
        try simp only [ap]
        refine reg_call (i := 1) (by kernel_rfl) rfl (fun K hK => ?_)
        go_simp
        replace st := st.a1
        generalize wd.heap.size = b8 at st ⊢
        generalize wd.alloc (.cells #[] 72) = wd at st ⊢
        refine hK.out _ _ ?_ (fun hHeld => ?_)
        · exact ⟨st.Rb.cell 2, st.Rb.cell 3, st.Rb.cell 4⟩
        clear hK K
        try simp only [ap]
        refine tk (i := 10) ?_
        try simp only [ap]
        refine reg_call (i := 12) (by kernel_rfl) rfl (fun K hK => ?_)
        rw [if_pos (show Region.wanted _ _ = true by kernel_rfl)]
        refine wp_store_mid 65 _ _ rfl gb 0 #[.slice (some ⟨b7, 0, none⟩) 0 0, .slice (some ⟨b8, 0, none⟩) 0 0, .int .i64 jp, .int .i64 on, .slice A16 next.length c16] rfl rfl (row_there (st.hg gb (by simp)) 5 (by decide)) size_block (by simp [Value.oneCell']) ?_
        rw [set5_eq]
        have R5 := row_far5 st.Rb st.gne
        refine hK.out _ _ ?_ (fun hHeld => ?_)
        · exact ⟨(R5 _ _ _ _ _).cell 2, (R5 _ _ _ _ _).cell 3, (R5 _ _ _ _ _).cell 4⟩
        clear hK K
        try simp only [ap]
        refine wpAnyH_done (by kernel_rfl) ?_ _
        go_wp2_with fail
        go_meet
        exact st.fin jp on
      go_simp
      replace st := st.ag
      generalize wd.heap.size = gb at st ⊢
      generalize wd.alloc (.cells #[.slice none 0 0, .slice none 0 0, .int .i64 0, .int .i64 0, .slice none 0 0] 65) = wd at st ⊢
      refine hK.out _ _ ?_ (fun hHeld => ?_)
      · exact ⟨st.Rb.cell 2, st.Rb.cell 3, st.Rb.cell 4⟩
      clear hK K
      try simp only [ap]
      refine reg_call2 (i := 1) (j := 6) (by kernel_rfl) rfl rfl (fun K hK => ?_) (fun K hK => ?_)
      · go_simp
        replace st := st.a1
        generalize wd.heap.size = b8 at st ⊢
        generalize wd.alloc (.cells #[] 72) = wd at st ⊢
        refine hK.out _ _ ?_ (fun hHeld => ?_)
        · exact ⟨st.Rb.cell 2, st.Rb.cell 3, st.Rb.cell 4⟩
        clear hK K
        try simp only [ap]
        refine reg_call (i := 6) (by kernel_rfl) rfl (fun K hK => ?_)
        go_simp
        replace st := st.al (.cells #[] 3)
        generalize wd.heap.size = a6 at ⊢
        generalize wd.alloc (.cells #[] 3) = wd at st ⊢
        refine hK.out _ _ ?_ (fun hHeld => ?_)
        · exact ⟨st.Rb.cell 2, st.Rb.cell 3, st.Rb.cell 4⟩
        clear hK K
        try simp only [ap]
        refine reg_call (i := 9) (by kernel_rfl) rfl (fun K hK => ?_)
        obtain ⟨A16, c16, f4, wq, r9, st⟩ := st.ap ⟨a6, 0, none⟩ (h4.below st.hbl hB) hl4
        rw [if_pos (show Region.wanted _ _ = true by kernel_rfl)]
        refine Lib.wp_append_run_sl _ _ _ 63 rfl _ _ rfl rfl r9 ?_
        clear r9
        obtain ⟨wd, hwd⟩ : ∃ x, x = wq := ⟨_, rfl⟩
        subst hwd
        refine hK.out _ _ ?_ (fun hHeld => ?_)
        · exact ⟨st.Rb.cell 2, st.Rb.cell 3, st.Rb.cell 4⟩
        clear hK K
        try simp only [ap]
        refine tk (i := 10) ?_
        try simp only [ap]
        refine reg_call (i := 12) (by kernel_rfl) rfl (fun K hK => ?_)
        rw [if_pos (show Region.wanted _ _ = true by kernel_rfl)]
        refine wp_store_mid 65 _ _ rfl gb 0 #[.slice (some ⟨b7, 0, none⟩) 0 0, .slice (some ⟨b8, 0, none⟩) 0 0, .int .i64 jp, .int .i64 on, .slice A16 next.length c16] rfl rfl (row_there (st.hg gb (by simp)) 5 (by decide)) size_block (by simp [Value.oneCell']) ?_
        rw [set5_eq]
        have R5 := row_far5 st.Rb st.gne
        refine hK.out _ _ ?_ (fun hHeld => ?_)
        · exact ⟨(R5 _ _ _ _ _).cell 2, (R5 _ _ _ _ _).cell 3, (R5 _ _ _ _ _).cell 4⟩
        clear hK K
        try simp only [ap]
        refine wpAnyH_done (by kernel_rfl) ?_ _
        go_wp2_with fail
        go_meet
        exact st.fin jp on
      go_simp
      replace st := st.al (.cells #[] 3)
      generalize wd.heap.size = a6 at ⊢
      generalize wd.alloc (.cells #[] 3) = wd at st ⊢
      refine hK.out _ _ ?_ (fun hHeld => ?_)
      · exact ⟨st.Rb.cell 2, st.Rb.cell 3, st.Rb.cell 4⟩
      clear hK K
      try simp only [ap]
      refine reg_call2 (i := 1) (j := 9) (by kernel_rfl) rfl rfl (fun K hK => ?_) (fun K hK => ?_)
      · go_simp
        replace st := st.a1
        generalize wd.heap.size = b8 at st ⊢
        generalize wd.alloc (.cells #[] 72) = wd at st ⊢
        refine hK.out _ _ ?_ (fun hHeld => ?_)
        · exact ⟨st.Rb.cell 2, st.Rb.cell 3, st.Rb.cell 4⟩
        clear hK K
        try simp only [ap]
        refine reg_call (i := 9) (by kernel_rfl) rfl (fun K hK => ?_)
        obtain ⟨A16, c16, f4, wq, r9, st⟩ := st.ap ⟨a6, 0, none⟩ (h4.below st.hbl hB) hl4
        rw [if_pos (show Region.wanted _ _ = true by kernel_rfl)]
        refine Lib.wp_append_run_sl _ _ _ 63 rfl _ _ rfl rfl r9 ?_
        clear r9
        obtain ⟨wd, hwd⟩ : ∃ x, x = wq := ⟨_, rfl⟩
        subst hwd
        refine hK.out _ _ ?_ (fun hHeld => ?_)
        · exact ⟨st.Rb.cell 2, st.Rb.cell 3, st.Rb.cell 4⟩
        clear hK K
        try simp only [ap]
        refine tk (i := 10) ?_
        try simp only [ap]
        refine reg_call (i := 12) (by kernel_rfl) rfl (fun K hK => ?_)
        rw [if_pos (show Region.wanted _ _ = true by kernel_rfl)]
        refine wp_store_mid 65 _ _ rfl gb 0 #[.slice (some ⟨b7, 0, none⟩) 0 0, .slice (some ⟨b8, 0, none⟩) 0 0, .int .i64 jp, .int .i64 on, .slice A16 next.length c16] rfl rfl (row_there (st.hg gb (by simp)) 5 (by decide)) size_block (by simp [Value.oneCell']) ?_
        rw [set5_eq]
        have R5 := row_far5 st.Rb st.gne
        refine hK.out _ _ ?_ (fun hHeld => ?_)
        · exact ⟨(R5 _ _ _ _ _).cell 2, (R5 _ _ _ _ _).cell 3, (R5 _ _ _ _ _).cell 4⟩
        clear hK K
        try simp only [ap]
        refine wpAnyH_done (by kernel_rfl) ?_ _
        go_wp2_with fail
        go_meet
        exact st.fin jp on
      obtain ⟨A16, c16, f4, wq, r9, st⟩ := st.ap ⟨a6, 0, none⟩ (h4.below st.hbl hB) hl4
      rw [if_pos (show Region.wanted _ _ = true by kernel_rfl)]
      refine Lib.wp_append_run_sl _ _ _ 63 rfl _ _ rfl rfl r9 ?_
      clear r9
      obtain ⟨wd, hwd⟩ : ∃ x, x = wq := ⟨_, rfl⟩
      subst hwd
      refine hK.out _ _ ?_ (fun hHeld => ?_)
      · exact ⟨st.Rb.cell 2, st.Rb.cell 3, st.Rb.cell 4⟩
      clear hK K
      try simp only [ap]
      refine reg_call (i := 1) (by kernel_rfl) rfl (fun K hK => ?_)
      go_simp
      replace st := st.a1
      generalize wd.heap.size = b8 at st ⊢
      generalize wd.alloc (.cells #[] 72) = wd at st ⊢
      refine hK.out _ _ ?_ (fun hHeld => ?_)
      · exact ⟨st.Rb.cell 2, st.Rb.cell 3, st.Rb.cell 4⟩
      clear hK K
      try simp only [ap]
      refine tk (i := 10) ?_
      try simp only [ap]
      refine reg_call (i := 12) (by kernel_rfl) rfl (fun K hK => ?_)
      rw [if_pos (show Region.wanted _ _ = true by kernel_rfl)]
      refine wp_store_mid 65 _ _ rfl gb 0 #[.slice (some ⟨b7, 0, none⟩) 0 0, .slice (some ⟨b8, 0, none⟩) 0 0, .int .i64 jp, .int .i64 on, .slice A16 next.length c16] rfl rfl (row_there (st.hg gb (by simp)) 5 (by decide)) size_block (by simp [Value.oneCell']) ?_
      rw [set5_eq]
      have R5 := row_far5 st.Rb st.gne
      refine hK.out _ _ ?_ (fun hHeld => ?_)
      · exact ⟨(R5 _ _ _ _ _).cell 2, (R5 _ _ _ _ _).cell 3, (R5 _ _ _ _ _).cell 4⟩
      clear hK K
      try simp only [ap]
      refine wpAnyH_done (by kernel_rfl) ?_ _
      go_wp2_with fail
      go_meet
      exact st.fin jp on
    · go_simp
      replace st := st.a1
      generalize wd.heap.size = b8 at st ⊢
      generalize wd.alloc (.cells #[] 72) = wd at st ⊢
      refine hK.out _ _ ?_ (fun hHeld => ?_)
      · exact ⟨st.Rb.cell 2, st.Rb.cell 3, st.Rb.cell 4⟩
      clear hK K
      try simp only [ap]
      refine reg_call3 (i := 0) (j := 6) (k := 11) (by kernel_rfl) rfl rfl rfl (fun K hK => ?_) (fun K hK => ?_) (fun K hK => ?_)
      · go_simp
        replace st := st.a0
        generalize wd.heap.size = b7 at st ⊢
        generalize wd.alloc (.cells #[] 69) = wd at st ⊢
        refine hK.out _ _ ?_ (fun hHeld => ?_)
        · exact ⟨st.Rb.cell 2, st.Rb.cell 3, st.Rb.cell 4⟩
        clear hK K
        try simp only [ap]
        refine reg_call2 (i := 6) (j := 11) (by kernel_rfl) rfl rfl (fun K hK => ?_) (fun K hK => ?_)
        · go_simp
          replace st := st.al (.cells #[] 3)
          generalize wd.heap.size = a6 at ⊢
          generalize wd.alloc (.cells #[] 3) = wd at st ⊢
          refine hK.out _ _ ?_ (fun hHeld => ?_)
          · exact ⟨st.Rb.cell 2, st.Rb.cell 3, st.Rb.cell 4⟩
          clear hK K
          try simp only [ap]
          refine reg_call2 (i := 9) (j := 11) (by kernel_rfl) rfl rfl (fun K hK => ?_) (fun K hK => ?_)
          · obtain ⟨A16, c16, f4, wq, r9, st⟩ := st.ap ⟨a6, 0, none⟩ (h4.below st.hbl hB) hl4
            rw [if_pos (show Region.wanted _ _ = true by kernel_rfl)]
            refine Lib.wp_append_run_sl _ _ _ 63 rfl _ _ rfl rfl r9 ?_
            clear r9
            obtain ⟨wd, hwd⟩ : ∃ x, x = wq := ⟨_, rfl⟩
            subst hwd
            refine hK.out _ _ ?_ (fun hHeld => ?_)
            · exact ⟨st.Rb.cell 2, st.Rb.cell 3, st.Rb.cell 4⟩
            clear hK K
            try simp only [ap]
            refine tk (i := 10) ?_
            try simp only [ap]
            refine reg_call (i := 11) (by kernel_rfl) rfl (fun K hK => ?_)
            go_simp
            replace st := st.ag
            generalize wd.heap.size = gb at st ⊢
            generalize wd.alloc (.cells #[.slice none 0 0, .slice none 0 0, .int .i64 0, .int .i64 0, .slice none 0 0] 65) = wd at st ⊢
            refine hK.out _ _ ?_ (fun hHeld => ?_)
            · exact ⟨st.Rb.cell 2, st.Rb.cell 3, st.Rb.cell 4⟩
            clear hK K
            try simp only [ap]
            refine reg_call (i := 12) (by kernel_rfl) rfl (fun K hK => ?_)
            rw [if_pos (show Region.wanted _ _ = true by kernel_rfl)]
            refine wp_store_mid 65 _ _ rfl gb 0 #[.slice (some ⟨b7, 0, none⟩) 0 0, .slice (some ⟨b8, 0, none⟩) 0 0, .int .i64 jp, .int .i64 on, .slice A16 next.length c16] rfl rfl (row_there (st.hg gb (by simp)) 5 (by decide)) size_block (by simp [Value.oneCell']) ?_
            rw [set5_eq]
            have R5 := row_far5 st.Rb st.gne
            refine hK.out _ _ ?_ (fun hHeld => ?_)
            · exact ⟨(R5 _ _ _ _ _).cell 2, (R5 _ _ _ _ _).cell 3, (R5 _ _ _ _ _).cell 4⟩
            clear hK K
            try simp only [ap]
            refine wpAnyH_done (by kernel_rfl) ?_ _
            go_wp2_with fail
            go_meet
            exact st.fin jp on
          go_simp
          replace st := st.ag
          generalize wd.heap.size = gb at st ⊢
          generalize wd.alloc (.cells #[.slice none 0 0, .slice none 0 0, .int .i64 0, .int .i64 0, .slice none 0 0] 65) = wd at st ⊢
          refine hK.out _ _ ?_ (fun hHeld => ?_)
          · exact ⟨st.Rb.cell 2, st.Rb.cell 3, st.Rb.cell 4⟩
          clear hK K
          try simp only [ap]
          refine reg_call (i := 9) (by kernel_rfl) rfl (fun K hK => ?_)
          obtain ⟨A16, c16, f4, wq, r9, st⟩ := st.ap ⟨a6, 0, none⟩ (h4.below st.hbl hB) hl4
          rw [if_pos (show Region.wanted _ _ = true by kernel_rfl)]
          refine Lib.wp_append_run_sl _ _ _ 63 rfl _ _ rfl rfl r9 ?_
          clear r9
          obtain ⟨wd, hwd⟩ : ∃ x, x = wq := ⟨_, rfl⟩
          subst hwd
          refine hK.out _ _ ?_ (fun hHeld => ?_)
          · exact ⟨st.Rb.cell 2, st.Rb.cell 3, st.Rb.cell 4⟩
          clear hK K
          try simp only [ap]
          refine tk (i := 10) ?_
          try simp only [ap]
          refine reg_call (i := 12) (by kernel_rfl) rfl (fun K hK => ?_)
          rw [if_pos (show Region.wanted _ _ = true by kernel_rfl)]
          refine wp_store_mid 65 _ _ rfl gb 0 #[.slice (some ⟨b7, 0, none⟩) 0 0, .slice (some ⟨b8, 0, none⟩) 0 0, .int .i64 jp, .int .i64 on, .slice A16 next.length c16] rfl rfl (row_there (st.hg gb (by simp)) 5 (by decide)) size_block (by simp [Value.oneCell']) ?_
          rw [set5_eq]
          have R5 := row_far5 st.Rb st.gne
          refine hK.out _ _ ?_ (fun hHeld => ?_)
          · exact ⟨(R5 _ _ _ _ _).cell 2, (R5 _ _ _ _ _).cell 3, (R5 _ _ _ _ _).cell 4⟩
          clear hK K
          try simp only [ap]
          refine wpAnyH_done (by kernel_rfl) ?_ _
          go_wp2_with fail
          go_meet
          exact st.fin jp on
        go_simp
        replace st := st.ag
        generalize wd.heap.size = gb at st ⊢
        generalize wd.alloc (.cells #[.slice none 0 0, .slice none 0 0, .int .i64 0, .int .i64 0, .slice none 0 0] 65) = wd at st ⊢
        refine hK.out _ _ ?_ (fun hHeld => ?_)
        · exact ⟨st.Rb.cell 2, st.Rb.cell 3, st.Rb.cell 4⟩
        clear hK K
        try simp only [ap]
        refine reg_call (i := 6) (by kernel_rfl) rfl (fun K hK => ?_)
        go_simp
        replace st := st.al (.cells #[] 3)
        generalize wd.heap.size = a6 at ⊢
        generalize wd.alloc (.cells #[] 3) = wd at st ⊢
        refine hK.out _ _ ?_ (fun hHeld => ?_)
        · exact ⟨st.Rb.cell 2, st.Rb.cell 3, st.Rb.cell 4⟩
        clear hK K
        try simp only [ap]
        refine reg_call (i := 9) (by kernel_rfl) rfl (fun K hK => ?_)
        obtain ⟨A16, c16, f4, wq, r9, st⟩ := st.ap ⟨a6, 0, none⟩ (h4.below st.hbl hB) hl4
        rw [if_pos (show Region.wanted _ _ = true by kernel_rfl)]
        refine Lib.wp_append_run_sl _ _ _ 63 rfl _ _ rfl rfl r9 ?_
        clear r9
        obtain ⟨wd, hwd⟩ : ∃ x, x = wq := ⟨_, rfl⟩
        subst hwd
        refine hK.out _ _ ?_ (fun hHeld => ?_)
        · exact ⟨st.Rb.cell 2, st.Rb.cell 3, st.Rb.cell 4⟩
        clear hK K
        try simp only [ap]
        refine tk (i := 10) ?_
        try simp only [ap]
        refine reg_call (i := 12) (by kernel_rfl) rfl (fun K hK => ?_)
        rw [if_pos (show Region.wanted _ _ = true by kernel_rfl)]
        refine wp_store_mid 65 _ _ rfl gb 0 #[.slice (some ⟨b7, 0, none⟩) 0 0, .slice (some ⟨b8, 0, none⟩) 0 0, .int .i64 jp, .int .i64 on, .slice A16 next.length c16] rfl rfl (row_there (st.hg gb (by simp)) 5 (by decide)) size_block (by simp [Value.oneCell']) ?_
        rw [set5_eq]
        have R5 := row_far5 st.Rb st.gne
        refine hK.out _ _ ?_ (fun hHeld => ?_)
        · exact ⟨(R5 _ _ _ _ _).cell 2, (R5 _ _ _ _ _).cell 3, (R5 _ _ _ _ _).cell 4⟩
        clear hK K
        try simp only [ap]
        refine wpAnyH_done (by kernel_rfl) ?_ _
        go_wp2_with fail
        go_meet
        exact st.fin jp on
      · go_simp
        replace st := st.al (.cells #[] 3)
        generalize wd.heap.size = a6 at ⊢
        generalize wd.alloc (.cells #[] 3) = wd at st ⊢
        refine hK.out _ _ ?_ (fun hHeld => ?_)
        · exact ⟨st.Rb.cell 2, st.Rb.cell 3, st.Rb.cell 4⟩
        clear hK K
        try simp only [ap]
        refine reg_call3 (i := 0) (j := 9) (k := 11) (by kernel_rfl) rfl rfl rfl (fun K hK => ?_) (fun K hK => ?_) (fun K hK => ?_)
        · go_simp
          replace st := st.a0
          generalize wd.heap.size = b7 at st ⊢
          generalize wd.alloc (.cells #[] 69) = wd at st ⊢
          refine hK.out _ _ ?_ (fun hHeld => ?_)
          · exact ⟨st.Rb.cell 2, st.Rb.cell 3, st.Rb.cell 4⟩
          clear hK K
          try simp only [ap]
          refine reg_call2 (i := 9) (j := 11) (by kernel_rfl) rfl rfl (fun K hK => ?_) (fun K hK => ?_)
          · obtain ⟨A16, c16, f4, wq, r9, st⟩ := st.ap ⟨a6, 0, none⟩ (h4.below st.hbl hB) hl4
            rw [if_pos (show Region.wanted _ _ = true by kernel_rfl)]
            refine Lib.wp_append_run_sl _ _ _ 63 rfl _ _ rfl rfl r9 ?_
            clear r9
            obtain ⟨wd, hwd⟩ : ∃ x, x = wq := ⟨_, rfl⟩
            subst hwd
            refine hK.out _ _ ?_ (fun hHeld => ?_)
            · exact ⟨st.Rb.cell 2, st.Rb.cell 3, st.Rb.cell 4⟩
            clear hK K
            try simp only [ap]
            refine tk (i := 10) ?_
            try simp only [ap]
            refine reg_call (i := 11) (by kernel_rfl) rfl (fun K hK => ?_)
            go_simp
            replace st := st.ag
            generalize wd.heap.size = gb at st ⊢
            generalize wd.alloc (.cells #[.slice none 0 0, .slice none 0 0, .int .i64 0, .int .i64 0, .slice none 0 0] 65) = wd at st ⊢
            refine hK.out _ _ ?_ (fun hHeld => ?_)
            · exact ⟨st.Rb.cell 2, st.Rb.cell 3, st.Rb.cell 4⟩
            clear hK K
            try simp only [ap]
            refine reg_call (i := 12) (by kernel_rfl) rfl (fun K hK => ?_)
            rw [if_pos (show Region.wanted _ _ = true by kernel_rfl)]
            refine wp_store_mid 65 _ _ rfl gb 0 #[.slice (some ⟨b7, 0, none⟩) 0 0, .slice (some ⟨b8, 0, none⟩) 0 0, .int .i64 jp, .int .i64 on, .slice A16 next.length c16] rfl rfl (row_there (st.hg gb (by simp)) 5 (by decide)) size_block (by simp [Value.oneCell']) ?_
            rw [set5_eq]
            have R5 := row_far5 st.Rb st.gne
            refine hK.out _ _ ?_ (fun hHeld => ?_)
            · exact ⟨(R5 _ _ _ _ _).cell 2, (R5 _ _ _ _ _).cell 3, (R5 _ _ _ _ _).cell 4⟩
            clear hK K
            try simp only [ap]
            refine wpAnyH_done (by kernel_rfl) ?_ _
            go_wp2_with fail
            go_meet
            exact st.fin jp on
          go_simp
          replace st := st.ag
          generalize wd.heap.size = gb at st ⊢
          generalize wd.alloc (.cells #[.slice none 0 0, .slice none 0 0, .int .i64 0, .int .i64 0, .slice none 0 0] 65) = wd at st ⊢
          refine hK.out _ _ ?_ (fun hHeld => ?_)
          · exact ⟨st.Rb.cell 2, st.Rb.cell 3, st.Rb.cell 4⟩
          clear hK K
          try simp only [ap]
          refine reg_call (i := 9) (by kernel_rfl) rfl (fun K hK => ?_)
          obtain ⟨A16, c16, f4, wq, r9, st⟩ := st.ap ⟨a6, 0, none⟩ (h4.below st.hbl hB) hl4
          rw [if_pos (show Region.wanted _ _ = true by kernel_rfl)]
          refine Lib.wp_append_run_sl _ _ _ 63 rfl _ _ rfl rfl r9 ?_
          clear r9
          obtain ⟨wd, hwd⟩ : ∃ x, x = wq := ⟨_, rfl⟩
          subst hwd
          refine hK.out _ _ ?_ (fun hHeld => ?_)
          · exact ⟨st.Rb.cell 2, st.Rb.cell 3, st.Rb.cell 4⟩
          clear hK K
          try simp only [ap]
          refine tk (i := 10) ?_
          try simp only [ap]
          refine reg_call (i := 12) (by kernel_rfl) rfl (fun K hK => ?_)
          rw [if_pos (show Region.wanted _ _ = true by kernel_rfl)]
          refine wp_store_mid 65 _ _ rfl gb 0 #[.slice (some ⟨b7, 0, none⟩) 0 0, .slice (some ⟨b8, 0, none⟩) 0 0, .int .i64 jp, .int .i64 on, .slice A16 next.length c16] rfl rfl (row_there (st.hg gb (by simp)) 5 (by decide)) size_block (by simp [Value.oneCell']) ?_
          rw [set5_eq]
          have R5 := row_far5 st.Rb st.gne
          refine hK.out _ _ ?_ (fun hHeld => ?_)
          · exact ⟨(R5 _ _ _ _ _).cell 2, (R5 _ _ _ _ _).cell 3, (R5 _ _ _ _ _).cell 4⟩
          clear hK K
          try simp only [ap]
          refine wpAnyH_done (by kernel_rfl) ?_ _
          go_wp2_with fail
          go_meet
          exact st.fin jp on
        · obtain ⟨A16, c16, f4, wq, r9, st⟩ := st.ap ⟨a6, 0, none⟩ (h4.below st.hbl hB) hl4
          rw [if_pos (show Region.wanted _ _ = true by kernel_rfl)]
          refine Lib.wp_append_run_sl _ _ _ 63 rfl _ _ rfl rfl r9 ?_
          clear r9
          obtain ⟨wd, hwd⟩ : ∃ x, x = wq := ⟨_, rfl⟩
          subst hwd
          refine hK.out _ _ ?_ (fun hHeld => ?_)
          · exact ⟨st.Rb.cell 2, st.Rb.cell 3, st.Rb.cell 4⟩
          clear hK K
          try simp only [ap]
          refine reg_call2 (i := 0) (j := 11) (by kernel_rfl) rfl rfl (fun K hK => ?_) (fun K hK => ?_)
          · go_simp
            replace st := st.a0
            generalize wd.heap.size = b7 at st ⊢
            generalize wd.alloc (.cells #[] 69) = wd at st ⊢
            refine hK.out _ _ ?_ (fun hHeld => ?_)
            · exact ⟨st.Rb.cell 2, st.Rb.cell 3, st.Rb.cell 4⟩
            clear hK K
            try simp only [ap]
            refine tk (i := 10) ?_
            try simp only [ap]
            refine reg_call (i := 11) (by kernel_rfl) rfl (fun K hK => ?_)
            go_simp
            replace st := st.ag
            generalize wd.heap.size = gb at st ⊢
            generalize wd.alloc (.cells #[.slice none 0 0, .slice none 0 0, .int .i64 0, .int .i64 0, .slice none 0 0] 65) = wd at st ⊢
            refine hK.out _ _ ?_ (fun hHeld => ?_)
            · exact ⟨st.Rb.cell 2, st.Rb.cell 3, st.Rb.cell 4⟩
            clear hK K
            try simp only [ap]
            refine reg_call (i := 12) (by kernel_rfl) rfl (fun K hK => ?_)
            rw [if_pos (show Region.wanted _ _ = true by kernel_rfl)]
            refine wp_store_mid 65 _ _ rfl gb 0 #[.slice (some ⟨b7, 0, none⟩) 0 0, .slice (some ⟨b8, 0, none⟩) 0 0, .int .i64 jp, .int .i64 on, .slice A16 next.length c16] rfl rfl (row_there (st.hg gb (by simp)) 5 (by decide)) size_block (by simp [Value.oneCell']) ?_
            rw [set5_eq]
            have R5 := row_far5 st.Rb st.gne
            refine hK.out _ _ ?_ (fun hHeld => ?_)
            · exact ⟨(R5 _ _ _ _ _).cell 2, (R5 _ _ _ _ _).cell 3, (R5 _ _ _ _ _).cell 4⟩
            clear hK K
            try simp only [ap]
            refine wpAnyH_done (by kernel_rfl) ?_ _
            go_wp2_with fail
            go_meet
            exact st.fin jp on
          go_simp
          replace st := st.ag
          generalize wd.heap.size = gb at st ⊢
          generalize wd.alloc (.cells #[.slice none 0 0, .slice none 0 0, .int .i64 0, .int .i64 0, .slice none 0 0] 65) = wd at st ⊢
          refine hK.out _ _ ?_ (fun hHeld => ?_)
          · exact ⟨st.Rb.cell 2, st.Rb.cell 3, st.Rb.cell 4⟩
          clear hK K
          try simp only [ap]
          refine reg_call (i := 0) (by kernel_rfl) rfl (fun K hK => ?_)
          go_simp
          replace st := st.a0
          generalize wd.heap.size = b7 at st ⊢
          generalize wd.alloc (.cells #[] 69) = wd at st ⊢
          refine hK.out _ _ ?_ (fun hHeld => ?_)
          · exact ⟨st.Rb.cell 2, st.Rb.cell 3, st.Rb.cell 4⟩
          clear hK K
          try simp only [ap]
          refine tk (i := 10) ?_
          try simp only [ap]
          refine reg_call (i := 12) (by kernel_rfl) rfl (fun K hK => ?_)
          rw [if_pos (show Region.wanted _ _ = true by kernel_rfl)]
          refine wp_store_mid 65 _ _ rfl gb 0 #[.slice (some ⟨b7, 0, none⟩) 0 0, .slice (some ⟨b8, 0, none⟩) 0 0, .int .i64 jp, .int .i64 on, .slice A16 next.length c16] rfl rfl (row_there (st.hg gb (by simp)) 5 (by decide)) size_block (by simp [Value.oneCell']) ?_
          rw [set5_eq]
          have R5 := row_far5 st.Rb st.gne
          refine hK.out _ _ ?_ (fun hHeld => ?_)
          · exact ⟨(R5 _ _ _ _ _).cell 2, (R5 _ _ _ _ _).cell 3, (R5 _ _ _ _ _).cell 4⟩
          clear hK K
          try simp only [ap]
          refine wpAnyH_done (by kernel_rfl) ?_ _
          go_wp2_with fail
          go_meet
          exact st.fin jp on
        go_simp
        replace st := st.ag
        generalize wd.heap.size = gb at st ⊢
        generalize wd.alloc (.cells #[.slice none 0 0, .slice none 0 0, .int .i64 0, .int .i64 0, .slice none 0 0] 65) = wd at st ⊢
        refine hK.out _ _ ?_ (fun hHeld => ?_)
        · exact ⟨st.Rb.cell 2, st.Rb.cell 3, st.Rb.cell 4⟩
        clear hK K
        try simp only [ap]
        refine reg_call2 (i := 0) (j := 9) (by kernel_rfl) rfl rfl (fun K hK => ?_) (fun K hK => ?_)
        · go_simp
          replace st := st.a0
          generalize wd.heap.size = b7 at st ⊢
          generalize wd.alloc (.cells #[] 69) = wd at st ⊢
          refine hK.out _ _ ?_ (fun hHeld => ?_)
          · exact ⟨st.Rb.cell 2, st.Rb.cell 3, st.Rb.cell 4⟩
          clear hK K
          try simp only [ap]
          refine reg_call (i := 9) (by kernel_rfl) rfl (fun K hK => ?_)
          obtain ⟨A16, c16, f4, wq, r9, st⟩ := st.ap ⟨a6, 0, none⟩ (h4.below st.hbl hB) hl4
          rw [if_pos (show Region.wanted _ _ = true by kernel_rfl)]
          refine Lib.wp_append_run_sl _ _ _ 63 rfl _ _ rfl rfl r9 ?_
          clear r9
          obtain ⟨wd, hwd⟩ : ∃ x, x = wq := ⟨_, rfl⟩
          subst hwd
          refine hK.out _ _ ?_ (fun hHeld => ?_)
          · exact ⟨st.Rb.cell 2, st.Rb.cell 3, st.Rb.cell 4⟩
          clear hK K
          try simp only [ap]
          refine tk (i := 10) ?_
          try simp only [ap]
          refine reg_call (i := 12) (by kernel_rfl) rfl (fun K hK => ?_)
          rw [if_pos (show Region.wanted _ _ = true by kernel_rfl)]
          refine wp_store_mid 65 _ _ rfl gb 0 #[.slice (some ⟨b7, 0, none⟩) 0 0, .slice (some ⟨b8, 0, none⟩) 0 0, .int .i64 jp, .int .i64 on, .slice A16 next.length c16] rfl rfl (row_there (st.hg gb (by simp)) 5 (by decide)) size_block (by simp [Value.oneCell']) ?_
          rw [set5_eq]
          have R5 := row_far5 st.Rb st.gne
          refine hK.out _ _ ?_ (fun hHeld => ?_)
          · exact ⟨(R5 _ _ _ _ _).cell 2, (R5 _ _ _ _ _).cell 3, (R5 _ _ _ _ _).cell 4⟩
          clear hK K
          try simp only [ap]
          refine wpAnyH_done (by kernel_rfl) ?_ _
          go_wp2_with fail
          go_meet
          exact st.fin jp on
        obtain ⟨A16, c16, f4, wq, r9, st⟩ := st.ap ⟨a6, 0, none⟩ (h4.below st.hbl hB) hl4
        rw [if_pos (show Region.wanted _ _ = true by kernel_rfl)]
        refine Lib.wp_append_run_sl _ _ _ 63 rfl _ _ rfl rfl r9 ?_
        clear r9
        obtain ⟨wd, hwd⟩ : ∃ x, x = wq := ⟨_, rfl⟩
        subst hwd
        refine hK.out _ _ ?_ (fun hHeld => ?_)
        · exact ⟨st.Rb.cell 2, st.Rb.cell 3, st.Rb.cell 4⟩
        clear hK K
        try simp only [ap]
        refine reg_call (i := 0) (by kernel_rfl) rfl (fun K hK => ?_)
        go_simp
        replace st := st.a0
        generalize wd.heap.size = b7 at st ⊢
        generalize wd.alloc (.cells #[] 69) = wd at st ⊢
        refine hK.out _ _ ?_ (fun hHeld => ?_)
        · exact ⟨st.Rb.cell 2, st.Rb.cell 3, st.Rb.cell 4⟩
        clear hK K
        try simp only [ap]
        refine tk (i := 10) ?_
        try simp only [ap]
        refine reg_call (i := 12) (by kernel_rfl) rfl (fun K hK => ?_)
        rw [if_pos (show Region.wanted _ _ = true by kernel_rfl)]
        refine wp_store_mid 65 _ _ rfl gb 0 #[.slice (some ⟨b7, 0, none⟩) 0 0, .slice (some ⟨b8, 0, none⟩) 0 0, .int .i64 jp, .int .i64 on, .slice A16 next.length c16] rfl rfl (row_there (st.hg gb (by simp)) 5 (by decide)) size_block (by simp [Value.oneCell']) ?_
        rw [set5_eq]
        have R5 := row_far5 st.Rb st.gne
        refine hK.out _ _ ?_ (fun hHeld => ?_)
        · exact ⟨(R5 _ _ _ _ _).cell 2, (R5 _ _ _ _ _).cell 3, (R5 _ _ _ _ _).cell 4⟩
        clear hK K
        try simp only [ap]
        refine wpAnyH_done (by kernel_rfl) ?_ _
        go_wp2_with fail
        go_meet
        exact st.fin jp on
      go_simp
      replace st := st.ag
      generalize wd.heap.size = gb at st ⊢
      generalize wd.alloc (.cells #[.slice none 0 0, .slice none 0 0, .int .i64 0, .int .i64 0, .slice none 0 0] 65) = wd at st ⊢
      refine hK.out _ _ ?_ (fun hHeld => ?_)
      · exact ⟨st.Rb.cell 2, st.Rb.cell 3, st.Rb.cell 4⟩
      clear hK K
      try simp only [ap]
      refine reg_call2 (i := 0) (j := 6) (by kernel_rfl) rfl rfl (fun K hK => ?_) (fun K hK => ?_)
      · go_simp
        replace st := st.a0
        generalize wd.heap.size = b7 at st ⊢
        generalize wd.alloc (.cells #[] 69) = wd at st ⊢
        refine hK.out _ _ ?_ (fun hHeld => ?_)
        · exact ⟨st.Rb.cell 2, st.Rb.cell 3, st.Rb.cell 4⟩
        clear hK K
        try simp only [ap]
        refine reg_call (i := 6) (by kernel_rfl) rfl (fun K hK => ?_)
        go_simp
        replace st := st.al (.cells #[] 3)
        generalize wd.heap.size = a6 at ⊢
        generalize wd.alloc (.cells #[] 3) = wd at st ⊢
        refine hK.out _ _ ?_ (fun hHeld => ?_)
        · exact ⟨st.Rb.cell 2, st.Rb.cell 3, st.Rb.cell 4⟩
        clear hK K
        try simp only [ap]
        refine reg_call (i := 9) (by kernel_rfl) rfl (fun K hK => ?_)
        obtain ⟨A16, c16, f4, wq, r9, st⟩ := st.ap ⟨a6, 0, none⟩ (h4.below st.hbl hB) hl4
        rw [if_pos (show Region.wanted _ _ = true by kernel_rfl)]
        refine Lib.wp_append_run_sl _ _ _ 63 rfl _ _ rfl rfl r9 ?_
        clear r9
        obtain ⟨wd, hwd⟩ : ∃ x, x = wq := ⟨_, rfl⟩
        subst hwd
        refine hK.out _ _ ?_ (fun hHeld => ?_)
        · exact ⟨st.Rb.cell 2, st.Rb.cell 3, st.Rb.cell 4⟩
        clear hK K
        try simp only [ap]
        refine tk (i := 10) ?_
        try simp only [ap]
        refine reg_call (i := 12) (by kernel_rfl) rfl (fun K hK => ?_)
        rw [if_pos (show Region.wanted _ _ = true by kernel_rfl)]
        refine wp_store_mid 65 _ _ rfl gb 0 #[.slice (some ⟨b7, 0, none⟩) 0 0, .slice (some ⟨b8, 0, none⟩) 0 0, .int .i64 jp, .int .i64 on, .slice A16 next.length c16] rfl rfl (row_there (st.hg gb (by simp)) 5 (by decide)) size_block (by simp [Value.oneCell']) ?_
        rw [set5_eq]
        have R5 := row_far5 st.Rb st.gne
        refine hK.out _ _ ?_ (fun hHeld => ?_)
        · exact ⟨(R5 _ _ _ _ _).cell 2, (R5 _ _ _ _ _).cell 3, (R5 _ _ _ _ _).cell 4⟩
        clear hK K
        try simp only [ap]
        refine wpAnyH_done (by kernel_rfl) ?_ _
        go_wp2_with fail
        go_meet
        exact st.fin jp on
      go_simp
      replace st := st.al (.cells #[] 3)
      generalize wd.heap.size = a6 at ⊢
      generalize wd.alloc (.cells #[] 3) = wd at st ⊢
      refine hK.out _ _ ?_ (fun hHeld => ?_)
      · exact ⟨st.Rb.cell 2, st.Rb.cell 3, st.Rb.cell 4⟩
      clear hK K
      try simp only [ap]
      refine reg_call2 (i := 0) (j := 9) (by kernel_rfl) rfl rfl (fun K hK => ?_) (fun K hK => ?_)
      · go_simp
        replace st := st.a0
        generalize wd.heap.size = b7 at st ⊢
        generalize wd.alloc (.cells #[] 69) = wd at st ⊢
        refine hK.out _ _ ?_ (fun hHeld => ?_)
        · exact ⟨st.Rb.cell 2, st.Rb.cell 3, st.Rb.cell 4⟩
        clear hK K
        try simp only [ap]
        refine reg_call (i := 9) (by kernel_rfl) rfl (fun K hK => ?_)
        obtain ⟨A16, c16, f4, wq, r9, st⟩ := st.ap ⟨a6, 0, none⟩ (h4.below st.hbl hB) hl4
        rw [if_pos (show Region.wanted _ _ = true by kernel_rfl)]
        refine Lib.wp_append_run_sl _ _ _ 63 rfl _ _ rfl rfl r9 ?_
        clear r9
        obtain ⟨wd, hwd⟩ : ∃ x, x = wq := ⟨_, rfl⟩
        subst hwd
        refine hK.out _ _ ?_ (fun hHeld => ?_)
        · exact ⟨st.Rb.cell 2, st.Rb.cell 3, st.Rb.cell 4⟩
        clear hK K
        try simp only [ap]
        refine tk (i := 10) ?_
        try simp only [ap]
        refine reg_call (i := 12) (by kernel_rfl) rfl (fun K hK => ?_)
        rw [if_pos (show Region.wanted _ _ = true by kernel_rfl)]
        refine wp_store_mid 65 _ _ rfl gb 0 #[.slice (some ⟨b7, 0, none⟩) 0 0, .slice (some ⟨b8, 0, none⟩) 0 0, .int .i64 jp, .int .i64 on, .slice A16 next.length c16] rfl rfl (row_there (st.hg gb (by simp)) 5 (by decide)) size_block (by simp [Value.oneCell']) ?_
        rw [set5_eq]
        have R5 := row_far5 st.Rb st.gne
        refine hK.out _ _ ?_ (fun hHeld => ?_)
        · exact ⟨(R5 _ _ _ _ _).cell 2, (R5 _ _ _ _ _).cell 3, (R5 _ _ _ _ _).cell 4⟩
        clear hK K
        try simp only [ap]
        refine wpAnyH_done (by kernel_rfl) ?_ _
        go_wp2_with fail
        go_meet
        exact st.fin jp on
      obtain ⟨A16, c16, f4, wq, r9, st⟩ := st.ap ⟨a6, 0, none⟩ (h4.below st.hbl hB) hl4
      rw [if_pos (show Region.wanted _ _ = true by kernel_rfl)]
      refine Lib.wp_append_run_sl _ _ _ 63 rfl _ _ rfl rfl r9 ?_
      clear r9
      obtain ⟨wd, hwd⟩ : ∃ x, x = wq := ⟨_, rfl⟩
      subst hwd
      refine hK.out _ _ ?_ (fun hHeld => ?_)
      · exact ⟨st.Rb.cell 2, st.Rb.cell 3, st.Rb.cell 4⟩
      clear hK K
      try simp only [ap]
      refine reg_call (i := 0) (by kernel_rfl) rfl (fun K hK => ?_)
      go_simp
      replace st := st.a0
      generalize wd.heap.size = b7 at st ⊢
      generalize wd.alloc (.cells #[] 69) = wd at st ⊢
      refine hK.out _ _ ?_ (fun hHeld => ?_)
      · exact ⟨st.Rb.cell 2, st.Rb.cell 3, st.Rb.cell 4⟩
      clear hK K
      try simp only [ap]
      refine tk (i := 10) ?_
      try simp only [ap]
      refine reg_call (i := 12) (by kernel_rfl) rfl (fun K hK => ?_)
      rw [if_pos (show Region.wanted _ _ = true by kernel_rfl)]
      refine wp_store_mid 65 _ _ rfl gb 0 #[.slice (some ⟨b7, 0, none⟩) 0 0, .slice (some ⟨b8, 0, none⟩) 0 0, .int .i64 jp, .int .i64 on, .slice A16 next.length c16] rfl rfl (row_there (st.hg gb (by simp)) 5 (by decide)) size_block (by simp [Value.oneCell']) ?_
      rw [set5_eq]
      have R5 := row_far5 st.Rb st.gne
      refine hK.out _ _ ?_ (fun hHeld => ?_)
      · exact ⟨(R5 _ _ _ _ _).cell 2, (R5 _ _ _ _ _).cell 3, (R5 _ _ _ _ _).cell 4⟩
      clear hK K
      try simp only [ap]
      refine wpAnyH_done (by kernel_rfl) ?_ _
      go_wp2_with fail
      go_meet
      exact st.fin jp on
    · go_simp
      replace st := st.al (.cells #[] 3)
      generalize wd.heap.size = a6 at ⊢
      generalize wd.alloc (.cells #[] 3) = wd at st ⊢
      refine hK.out _ _ ?_ (fun hHeld => ?_)
      · exact ⟨st.Rb.cell 2, st.Rb.cell 3, st.Rb.cell 4⟩
      clear hK K
      try simp only [ap]
      refine reg_call4 (i := 0) (j := 1) (k := 9) (l := 11) (by kernel_rfl) rfl rfl rfl rfl (fun K hK => ?_) (fun K hK => ?_) (fun K hK => ?_) (fun K hK => ?_)
      · go_simp
        replace st := st.a0
        generalize wd.heap.size = b7 at st ⊢
        generalize wd.alloc (.cells #[] 69) = wd at st ⊢
        refine hK.out _ _ ?_ (fun hHeld => ?_)
        · exact ⟨st.Rb.cell 2, st.Rb.cell 3, st.Rb.cell 4⟩
        clear hK K
        try simp only [ap]
        refine reg_call3 (i := 1) (j := 9) (k := 11) (by kernel_rfl) rfl rfl rfl (fun K hK => ?_) (fun K hK => ?_) (fun K hK => ?_)
        · go_simp
          replace st := st.a1
          generalize wd.heap.size = b8 at st ⊢
          generalize wd.alloc (.cells #[] 72) = wd at st ⊢
          refine hK.out _ _ ?_ (fun hHeld => ?_)
          · exact ⟨st.Rb.cell 2, st.Rb.cell 3, st.Rb.cell 4⟩
          clear hK K
          try simp only [ap]
          refine reg_call2 (i := 9) (j := 11) (by kernel_rfl) rfl rfl (fun K hK => ?_) (fun K hK => ?_)
          · obtain ⟨A16, c16, f4, wq, r9, st⟩ := st.ap ⟨a6, 0, none⟩ (h4.below st.hbl hB) hl4
            rw [if_pos (show Region.wanted _ _ = true by kernel_rfl)]
            refine Lib.wp_append_run_sl _ _ _ 63 rfl _ _ rfl rfl r9 ?_
            clear r9
            obtain ⟨wd, hwd⟩ : ∃ x, x = wq := ⟨_, rfl⟩
            subst hwd
            refine hK.out _ _ ?_ (fun hHeld => ?_)
            · exact ⟨st.Rb.cell 2, st.Rb.cell 3, st.Rb.cell 4⟩
            clear hK K
            try simp only [ap]
            refine tk (i := 10) ?_
            try simp only [ap]
            refine reg_call (i := 11) (by kernel_rfl) rfl (fun K hK => ?_)
            go_simp
            replace st := st.ag
            generalize wd.heap.size = gb at st ⊢
            generalize wd.alloc (.cells #[.slice none 0 0, .slice none 0 0, .int .i64 0, .int .i64 0, .slice none 0 0] 65) = wd at st ⊢
            refine hK.out _ _ ?_ (fun hHeld => ?_)
            · exact ⟨st.Rb.cell 2, st.Rb.cell 3, st.Rb.cell 4⟩
            clear hK K
            try simp only [ap]
            refine reg_call (i := 12) (by kernel_rfl) rfl (fun K hK => ?_)
            rw [if_pos (show Region.wanted _ _ = true by kernel_rfl)]
            refine wp_store_mid 65 _ _ rfl gb 0 #[.slice (some ⟨b7, 0, none⟩) 0 0, .slice (some ⟨b8, 0, none⟩) 0 0, .int .i64 jp, .int .i64 on, .slice A16 next.length c16] rfl rfl (row_there (st.hg gb (by simp)) 5 (by decide)) size_block (by simp [Value.oneCell']) ?_
            rw [set5_eq]
            have R5 := row_far5 st.Rb st.gne
            refine hK.out _ _ ?_ (fun hHeld => ?_)
            · exact ⟨(R5 _ _ _ _ _).cell 2, (R5 _ _ _ _ _).cell 3, (R5 _ _ _ _ _).cell 4⟩
            clear hK K
            try simp only [ap]
            refine wpAnyH_done (by kernel_rfl) ?_ _
            go_wp2_with fail
            go_meet
            exact st.fin jp on
          go_simp
          replace st := st.ag
          generalize wd.heap.size = gb at st ⊢
          generalize wd.alloc (.cells #[.slice none 0 0, .slice none 0 0, .int .i64 0, .int .i64 0, .slice none 0 0] 65) = wd at st ⊢
          refine hK.out _ _ ?_ (fun hHeld => ?_)
          · exact ⟨st.Rb.cell 2, st.Rb.cell 3, st.Rb.cell 4⟩
          clear hK K
          try simp only [ap]
          refine reg_call (i := 9) (by kernel_rfl) rfl (fun K hK => ?_)
          obtain ⟨A16, c16, f4, wq, r9, st⟩ := st.ap ⟨a6, 0, none⟩ (h4.below st.hbl hB) hl4
          rw [if_pos (show Region.wanted _ _ = true by kernel_rfl)]
          refine Lib.wp_append_run_sl _ _ _ 63 rfl _ _ rfl rfl r9 ?_
          clear r9
          obtain ⟨wd, hwd⟩ : ∃ x, x = wq := ⟨_, rfl⟩
          subst hwd
          refine hK.out _ _ ?_ (fun hHeld => ?_)
          · exact ⟨st.Rb.cell 2, st.Rb.cell 3, st.Rb.cell 4⟩
          clear hK K
          try simp only [ap]
          refine tk (i := 10) ?_
          try simp only [ap]
          refine reg_call (i := 12) (by kernel_rfl) rfl (fun K hK => ?_)
          rw [if_pos (show Region.wanted _ _ = true by kernel_rfl)]
          refine wp_store_mid 65 _ _ rfl gb 0 #[.slice (some ⟨b7, 0, none⟩) 0 0, .slice (some ⟨b8, 0, none⟩) 0 0, .int .i64 jp, .int .i64 on, .slice A16 next.length c16] rfl rfl (row_there (st.hg gb (by simp)) 5 (by decide)) size_block (by simp [Value.oneCell']) ?_
          rw [set5_eq]
          have R5 := row_far5 st.Rb st.gne
          refine hK.out _ _ ?_ (fun hHeld => ?_)
          · exact ⟨(R5 _ _ _ _ _).cell 2, (R5 _ _ _ _ _).cell 3, (R5 _ _ _ _ _).cell 4⟩
          clear hK K
          try simp only [ap]
          refine wpAnyH_done (by kernel_rfl) ?_ _
          go_wp2_with fail
          go_meet
          exact st.fin jp on
        · obtain ⟨A16, c16, f4, wq, r9, st⟩ := st.ap ⟨a6, 0, none⟩ (h4.below st.hbl hB) hl4
          rw [if_pos (show Region.wanted _ _ = true by kernel_rfl)]
          refine Lib.wp_append_run_sl _ _ _ 63 rfl _ _ rfl rfl r9 ?_
          clear r9
          obtain ⟨wd, hwd⟩ : ∃ x, x = wq := ⟨_, rfl⟩
          subst hwd
          refine hK.out _ _ ?_ (fun hHeld => ?_)
          · exact ⟨st.Rb.cell 2, st.Rb.cell 3, st.Rb.cell 4⟩
          clear hK K
          try simp only [ap]
          refine reg_call2 (i := 1) (j := 11) (by kernel_rfl) rfl rfl (fun K hK => ?_) (fun K hK => ?_)
          · go_simp
            replace st := st.a1
            generalize wd.heap.size = b8 at st ⊢
            generalize wd.alloc (.cells #[] 72) = wd at st ⊢
            refine hK.out _ _ ?_ (fun hHeld => ?_)
            · exact ⟨st.Rb.cell 2, st.Rb.cell 3, st.Rb.cell 4⟩
            clear hK K
            try simp only [ap]
            refine tk (i := 10) ?_
            try simp only [ap]
            refine reg_call (i := 11) (by kernel_rfl) rfl (fun K hK => ?_)
            go_simp
            replace st := st.ag
            generalize wd.heap.size = gb at st ⊢
            generalize wd.alloc (.cells #[.slice none 0 0, .slice none 0 0, .int .i64 0, .int .i64 0, .slice none 0 0] 65) = wd at st ⊢
            refine hK.out _ _ ?_ (fun hHeld => ?_)
            · exact ⟨st.Rb.cell 2, st.Rb.cell 3, st.Rb.cell 4⟩
            clear hK K
            try simp only [ap]
            refine reg_call (i := 12) (by kernel_rfl) rfl (fun K hK => ?_)
            rw [if_pos (show Region.wanted _ _ = true by kernel_rfl)]
            refine wp_store_mid 65 _ _ rfl gb 0 #[.slice (some ⟨b7, 0, none⟩) 0 0, .slice (some ⟨b8, 0, none⟩) 0 0, .int .i64 jp, .int .i64 on, .slice A16 next.length c16] rfl rfl (row_there (st.hg gb (by simp)) 5 (by decide)) size_block (by simp [Value.oneCell']) ?_
            rw [set5_eq]
            have R5 := row_far5 st.Rb st.gne
            refine hK.out _ _ ?_ (fun hHeld => ?_)
            · exact ⟨(R5 _ _ _ _ _).cell 2, (R5 _ _ _ _ _).cell 3, (R5 _ _ _ _ _).cell 4⟩
            clear hK K
            try simp only [ap]
            refine wpAnyH_done (by kernel_rfl) ?_ _
            go_wp2_with fail
            go_meet
            exact st.fin jp on
          go_simp
          replace st := st.ag
          generalize wd.heap.size = gb at st ⊢
          generalize wd.alloc (.cells #[.slice none 0 0, .slice none 0 0, .int .i64 0, .int .i64 0, .slice none 0 0] 65) = wd at st ⊢
          refine hK.out _ _ ?_ (fun hHeld => ?_)
          · exact ⟨st.Rb.cell 2, st.Rb.cell 3, st.Rb.cell 4⟩
          clear hK K
          try simp only [ap]
          refine reg_call (i := 1) (by kernel_rfl) rfl (fun K hK => ?_)
          go_simp
          replace st := st.a1
          generalize wd.heap.size = b8 at st ⊢
          generalize wd.alloc (.cells #[] 72) = wd at st ⊢
          refine hK.out _ _ ?_ (fun hHeld => ?_)
          · exact ⟨st.Rb.cell 2, st.Rb.cell 3, st.Rb.cell 4⟩
          clear hK K
          try simp only [ap]
          refine tk (i := 10) ?_
          try simp only [ap]
          refine reg_call (i := 12) (by kernel_rfl) rfl (fun K hK => ?_)
          rw [if_pos (show Region.wanted _ _ = true by kernel_rfl)]
          refine wp_store_mid 65 _ _ rfl gb 0 #[.slice (some ⟨b7, 0, none⟩) 0 0, .slice (some ⟨b8, 0, none⟩) 0 0, .int .i64 jp, .int .i64 on, .slice A16 next.length c16] rfl rfl (row_there (st.hg gb (by simp)) 5 (by decide)) size_block (by simp [Value.oneCell']) ?_
          rw [set5_eq]
          have R5 := row_far5 st.Rb st.gne
          refine hK.out _ _ ?_ (fun hHeld => ?_)
          · exact ⟨(R5 _ _ _ _ _).cell 2, (R5 _ _ _ _ _).cell 3, (R5 _ _ _ _ _).cell 4⟩
          clear hK K
          try simp only [ap]
          refine wpAnyH_done (by kernel_rfl) ?_ _
          go_wp2_with fail
          go_meet
          exact st.fin jp on
        go_simp
        replace st := st.ag
        generalize wd.heap.size = gb at st ⊢
        generalize wd.alloc (.cells #[.slice none 0 0, .slice none 0 0, .int .i64 0, .int .i64 0, .slice none 0 0] 65) = wd at st ⊢
        refine hK.out _ _ ?_ (fun hHeld => ?_)
        · exact ⟨st.Rb.cell 2, st.Rb.cell 3, st.Rb.cell 4⟩
        clear hK K
        try simp only [ap]
        refine reg_call2 (i := 1) (j := 9) (by kernel_rfl) rfl rfl (fun K hK => ?_) (fun K hK => ?_)
        · go_simp
          replace st := st.a1
          generalize wd.heap.size = b8 at st ⊢
          generalize wd.alloc (.cells #[] 72) = wd at st ⊢
          refine hK.out _ _ ?_ (fun hHeld => ?_)
          · exact ⟨st.Rb.cell 2, st.Rb.cell 3, st.Rb.cell 4⟩
          clear hK K
          try simp only [ap]
          refine reg_call (i := 9) (by kernel_rfl) rfl (fun K hK => ?_)
          obtain ⟨A16, c16, f4, wq, r9, st⟩ := st.ap ⟨a6, 0, none⟩ (h4.below st.hbl hB) hl4
          rw [if_pos (show Region.wanted _ _ = true by kernel_rfl)]
          refine Lib.wp_append_run_sl _ _ _ 63 rfl _ _ rfl rfl r9 ?_
          clear r9
          obtain ⟨wd, hwd⟩ : ∃ x, x = wq := ⟨_, rfl⟩
          subst hwd
          refine hK.out _ _ ?_ (fun hHeld => ?_)
          · exact ⟨st.Rb.cell 2, st.Rb.cell 3, st.Rb.cell 4⟩
          clear hK K
          try simp only [ap]
          refine tk (i := 10) ?_
          try simp only [ap]
          refine reg_call (i := 12) (by kernel_rfl) rfl (fun K hK => ?_)
          rw [if_pos (show Region.wanted _ _ = true by kernel_rfl)]
          refine wp_store_mid 65 _ _ rfl gb 0 #[.slice (some ⟨b7, 0, none⟩) 0 0, .slice (some ⟨b8, 0, none⟩) 0 0, .int .i64 jp, .int .i64 on, .slice A16 next.length c16] rfl rfl (row_there (st.hg gb (by simp)) 5 (by decide)) size_block (by simp [Value.oneCell']) ?_
          rw [set5_eq]
          have R5 := row_far5 st.Rb st.gne
          refine hK.out _ _ ?_ (fun hHeld => ?_)
          · exact ⟨(R5 _ _ _ _ _).cell 2, (R5 _ _ _ _ _).cell 3, (R5 _ _ _ _ _).cell 4⟩
          clear hK K
          try simp only [ap]
          refine wpAnyH_done (by kernel_rfl) ?_ _
          go_wp2_with fail
          go_meet
          exact st.fin jp on
        obtain ⟨A16, c16, f4, wq, r9, st⟩ := st.ap ⟨a6, 0, none⟩ (h4.below st.hbl hB) hl4
        rw [if_pos (show Region.wanted _ _ = true by kernel_rfl)]
        refine Lib.wp_append_run_sl _ _ _ 63 rfl _ _ rfl rfl r9 ?_
        clear r9
        obtain ⟨wd, hwd⟩ : ∃ x, x = wq := ⟨_, rfl⟩
        subst hwd
        refine hK.out _ _ ?_ (fun hHeld => ?_)
        · exact ⟨st.Rb.cell 2, st.Rb.cell 3, st.Rb.cell 4⟩
        clear hK K
        try simp only [ap]
        refine reg_call (i := 1) (by kernel_rfl) rfl (fun K hK => ?_)
        go_simp
        replace st := st.a1
        generalize wd.heap.size = b8 at st ⊢
        generalize wd.alloc (.cells #[] 72) = wd at st ⊢
        refine hK.out _ _ ?_ (fun hHeld => ?_)
        · exact ⟨st.Rb.cell 2, st.Rb.cell 3, st.Rb.cell 4⟩
        clear hK K
        try simp only [ap]
        refine tk (i := 10) ?_
        try simp only [ap]
        refine reg_call (i := 12) (by kernel_rfl) rfl (fun K hK => ?_)
        rw [if_pos (show Region.wanted _ _ = true by kernel_rfl)]
        refine wp_store_mid 65 _ _ rfl gb 0 #[.slice (some ⟨b7, 0, none⟩) 0 0, .slice (some ⟨b8, 0, none⟩) 0 0, .int .i64 jp, .int .i64 on, .slice A16 next.length c16] rfl rfl (row_there (st.hg gb (by simp)) 5 (by decide)) size_block (by simp [Value.oneCell']) ?_
        rw [set5_eq]
        have R5 := row_far5 st.Rb st.gne
        refine hK.out _ _ ?_ (fun hHeld => ?_)
        · exact ⟨(R5 _ _ _ _ _).cell 2, (R5 _ _ _ _ _).cell 3, (R5 _ _ _ _ _).cell 4⟩
        clear hK K
        try simp only [ap]
        refine wpAnyH_done (by kernel_rfl) ?_ _
        go_wp2_with fail
        go_meet
        exact st.fin jp on
      · go_simp
        replace st := st.a1
        generalize wd.heap.size = b8 at st ⊢
        generalize wd.alloc (.cells #[] 72) = wd at st ⊢
        refine hK.out _ _ ?_ (fun hHeld => ?_)
        · exact ⟨st.Rb.cell 2, st.Rb.cell 3, st.Rb.cell 4⟩
        clear hK K
        try simp only [ap]
        refine reg_call3 (i := 0) (j := 9) (k := 11) (by kernel_rfl) rfl rfl rfl (fun K hK => ?_) (fun K hK => ?_) (fun K hK => ?_)
        · go_simp
          replace st := st.a0
          generalize wd.heap.size = b7 at st ⊢
          generalize wd.alloc (.cells #[] 69) = wd at st ⊢
          refine hK.out _ _ ?_ (fun hHeld => ?_)
          · exact ⟨st.Rb.cell 2, st.Rb.cell 3, st.Rb.cell 4⟩
          clear hK K
          try simp only [ap]
          refine reg_call2 (i := 9) (j := 11) (by kernel_rfl) rfl rfl (fun K hK => ?_) (fun K hK => ?_)
          · obtain ⟨A16, c16, f4, wq, r9, st⟩ := st.ap ⟨a6, 0, none⟩ (h4.below st.hbl hB) hl4
            rw [if_pos (show Region.wanted _ _ = true by kernel_rfl)]
            refine Lib.wp_append_run_sl _ _ _ 63 rfl _ _ rfl rfl r9 ?_
            clear r9
            obtain ⟨wd, hwd⟩ : ∃ x, x = wq := ⟨_, rfl⟩
            subst hwd
            refine hK.out _ _ ?_ (fun hHeld => ?_)
            · exact ⟨st.Rb.cell 2, st.Rb.cell 3, st.Rb.cell 4⟩
            clear hK K
            try simp only [ap]
            refine tk (i := 10) ?_
            try simp only [ap]
            refine reg_call (i := 11) (by kernel_rfl) rfl (fun K hK => ?_)
            go_simp
            replace st := st.ag
            generalize wd.heap.size = gb at st ⊢
            generalize wd.alloc (.cells #[.slice none 0 0, .slice none 0 0, .int .i64 0, .int .i64 0, .slice none 0 0] 65) = wd at st ⊢
            refine hK.out _ _ ?_ (fun hHeld => ?_)
            · exact ⟨st.Rb.cell 2, st.Rb.cell 3, st.Rb.cell 4⟩
            clear hK K
            try simp only [ap]
            refine reg_call (i := 12) (by kernel_rfl) rfl (fun K hK => ?_)
            rw [if_pos (show Region.wanted _ _ = true by kernel_rfl)]
            refine wp_store_mid 65 _ _ rfl gb 0 #[.slice (some ⟨b7, 0, none⟩) 0 0, .slice (some ⟨b8, 0, none⟩) 0 0, .int .i64 jp, .int .i64 on, .slice A16 next.length c16] rfl rfl (row_there (st.hg gb (by simp)) 5 (by decide)) size_block (by simp [Value.oneCell']) ?_
            rw [set5_eq]
            have R5 := row_far5 st.Rb st.gne
            refine hK.out _ _ ?_ (fun hHeld => ?_)
            · exact ⟨(R5 _ _ _ _ _).cell 2, (R5 _ _ _ _ _).cell 3, (R5 _ _ _ _ _).cell 4⟩
            clear hK K
            try simp only [ap]
            refine wpAnyH_done (by kernel_rfl) ?_ _
            go_wp2_with fail
            go_meet
            exact st.fin jp on
          go_simp
          replace st := st.ag
          generalize wd.heap.size = gb at st ⊢
          generalize wd.alloc (.cells #[.slice none 0 0, .slice none 0 0, .int .i64 0, .int .i64 0, .slice none 0 0] 65) = wd at st ⊢
          refine hK.out _ _ ?_ (fun hHeld => ?_)
          · exact ⟨st.Rb.cell 2, st.Rb.cell 3, st.Rb.cell 4⟩
          clear hK K
          try simp only [ap]
          refine reg_call (i := 9) (by kernel_rfl) rfl (fun K hK => ?_)
          obtain ⟨A16, c16, f4, wq, r9, st⟩ := st.ap ⟨a6, 0, none⟩ (h4.below st.hbl hB) hl4
          rw [if_pos (show Region.wanted _ _ = true by kernel_rfl)]
          refine Lib.wp_append_run_sl _ _ _ 63 rfl _ _ rfl rfl r9 ?_
          clear r9
          obtain ⟨wd, hwd⟩ : ∃ x, x = wq := ⟨_, rfl⟩
          subst hwd
          refine hK.out _ _ ?_ (fun hHeld => ?_)
          · exact ⟨st.Rb.cell 2, st.Rb.cell 3, st.Rb.cell 4⟩
          clear hK K
          try simp only [ap]
          refine tk (i := 10) ?_
          try simp only [ap]
          refine reg_call (i := 12) (by kernel_rfl) rfl (fun K hK => ?_)
          rw [if_pos (show Region.wanted _ _ = true by kernel_rfl)]
          refine wp_store_mid 65 _ _ rfl gb 0 #[.slice (some ⟨b7, 0, none⟩) 0 0, .slice (some ⟨b8, 0, none⟩) 0 0, .int .i64 jp, .int .i64 on, .slice A16 next.length c16] rfl rfl (row_there (st.hg gb (by simp)) 5 (by decide)) size_block (by simp [Value.oneCell']) ?_
          rw [set5_eq]
          have R5 := row_far5 st.Rb st.gne
          refine hK.out _ _ ?_ (fun hHeld => ?_)
          · exact ⟨(R5 _ _ _ _ _).cell 2, (R5 _ _ _ _ _).cell 3, (R5 _ _ _ _ _).cell 4⟩
          clear hK K
          try simp only [ap]
          refine wpAnyH_done (by kernel_rfl) ?_ _
          go_wp2_with fail
          go_meet
          exact st.fin jp on
        · obtain ⟨A16, c16, f4, wq, r9, st⟩ := st.ap ⟨a6, 0, none⟩ (h4.below st.hbl hB) hl4
          rw [if_pos (show Region.wanted _ _ = true by kernel_rfl)]
          refine Lib.wp_append_run_sl _ _ _ 63 rfl _ _ rfl rfl r9 ?_
          clear r9
          obtain ⟨wd, hwd⟩ : ∃ x, x = wq := ⟨_, rfl⟩
          subst hwd
          refine hK.out _ _ ?_ (fun hHeld => ?_)
          · exact ⟨st.Rb.cell 2, st.Rb.cell 3, st.Rb.cell 4⟩
          clear hK K
          try simp only [ap]
          refine reg_call2 (i := 0) (j := 11) (by kernel_rfl) rfl rfl (fun K hK => ?_) (fun K hK => ?_)
          · go_simp
            replace st := st.a0
            generalize wd.heap.size = b7 at st ⊢
            generalize wd.alloc (.cells #[] 69) = wd at st ⊢
            refine hK.out _ _ ?_ (fun hHeld => ?_)
            · exact ⟨st.Rb.cell 2, st.Rb.cell 3, st.Rb.cell 4⟩
            clear hK K
            try simp only [ap]
            refine tk (i := 10) ?_
            try simp only [ap]
            refine reg_call (i := 11) (by kernel_rfl) rfl (fun K hK => ?_)
            go_simp
            replace st := st.ag
            generalize wd.heap.size = gb at st ⊢
            generalize wd.alloc (.cells #[.slice none 0 0, .slice none 0 0, .int .i64 0, .int .i64 0, .slice none 0 0] 65) = wd at st ⊢
            refine hK.out _ _ ?_ (fun hHeld => ?_)
            · exact ⟨st.Rb.cell 2, st.Rb.cell 3, st.Rb.cell 4⟩
            clear hK K
            try simp only [ap]
            refine reg_call (i := 12) (by kernel_rfl) rfl (fun K hK => ?_)
            rw [if_pos (show Region.wanted _ _ = true by kernel_rfl)]
            refine wp_store_mid 65 _ _ rfl gb 0 #[.slice (some ⟨b7, 0, none⟩) 0 0, .slice (some ⟨b8, 0, none⟩) 0 0, .int .i64 jp, .int .i64 on, .slice A16 next.length c16] rfl rfl (row_there (st.hg gb (by simp)) 5 (by decide)) size_block (by simp [Value.oneCell']) ?_
            rw [set5_eq]
            have R5 := row_far5 st.Rb st.gne
            refine hK.out _ _ ?_ (fun hHeld => ?_)
            · exact ⟨(R5 _ _ _ _ _).cell 2, (R5 _ _ _ _ _).cell 3, (R5 _ _ _ _ _).cell 4⟩
            clear hK K
            try simp only [ap]
            refine wpAnyH_done (by kernel_rfl) ?_ _
            go_wp2_with fail
            go_meet
            exact st.fin jp on
          go_simp
          replace st := st.ag
          generalize wd.heap.size = gb at st ⊢
          generalize wd.alloc (.cells #[.slice none 0 0, .slice none 0 0, .int .i64 0, .int .i64 0, .slice none 0 0] 65) = wd at st ⊢
          refine hK.out _ _ ?_ (fun hHeld => ?_)
          · exact ⟨st.Rb.cell 2, st.Rb.cell 3, st.Rb.cell 4⟩
          clear hK K
          try simp only [ap]
          refine reg_call (i := 0) (by kernel_rfl) rfl (fun K hK => ?_)
          go_simp
          replace st := st.a0
          generalize wd.heap.size = b7 at st ⊢
          generalize wd.alloc (.cells #[] 69) = wd at st ⊢
          refine hK.out _ _ ?_ (fun hHeld => ?_)
          · exact ⟨st.Rb.cell 2, st.Rb.cell 3, st.Rb.cell 4⟩
          clear hK K
          try simp only [ap]
          refine tk (i := 10) ?_
          try simp only [ap]
          refine reg_call (i := 12) (by kernel_rfl) rfl (fun K hK => ?_)
          rw [if_pos (show Region.wanted _ _ = true by kernel_rfl)]
          refine wp_store_mid 65 _ _ rfl gb 0 #[.slice (some ⟨b7, 0, none⟩) 0 0, .slice (some ⟨b8, 0, none⟩) 0 0, .int .i64 jp, .int .i64 on, .slice A16 next.length c16] rfl rfl (row_there (st.hg gb (by simp)) 5 (by decide)) size_block (by simp [Value.oneCell']) ?_
          rw [set5_eq]
          have R5 := row_far5 st.Rb st.gne
          refine hK.out _ _ ?_ (fun hHeld => ?_)
          · exact ⟨(R5 _ _ _ _ _).cell 2, (R5 _ _ _ _ _).cell 3, (R5 _ _ _ _ _).cell 4⟩
          clear hK K
          try simp only [ap]
          refine wpAnyH_done (by kernel_rfl) ?_ _
          go_wp2_with fail
          go_meet
          exact st.fin jp on
        go_simp
        replace st := st.ag
        generalize wd.heap.size = gb at st ⊢
        generalize wd.alloc (.cells #[.slice none 0 0, .slice none 0 0, .int .i64 0, .int .i64 0, .slice none 0 0] 65) = wd at st ⊢
        refine hK.out _ _ ?_ (fun hHeld => ?_)
        · exact ⟨st.Rb.cell 2, st.Rb.cell 3, st.Rb.cell 4⟩
        clear hK K
        try simp only [ap]
        refine reg_call2 (i := 0) (j := 9) (by kernel_rfl) rfl rfl (fun K hK => ?_) (fun K hK => ?_)
        · go_simp
          replace st := st.a0
          generalize wd.heap.size = b7 at st ⊢
          generalize wd.alloc (.cells #[] 69) = wd at st ⊢
          refine hK.out _ _ ?_ (fun hHeld => ?_)
          · exact ⟨st.Rb.cell 2, st.Rb.cell 3, st.Rb.cell 4⟩
          clear hK K
          try simp only [ap]
          refine reg_call (i := 9) (by kernel_rfl) rfl (fun K hK => ?_)
          obtain ⟨A16, c16, f4, wq, r9, st⟩ := st.ap ⟨a6, 0, none⟩ (h4.below st.hbl hB) hl4
          rw [if_pos (show Region.wanted _ _ = true by kernel_rfl)]
          refine Lib.wp_append_run_sl _ _ _ 63 rfl _ _ rfl rfl r9 ?_
          clear r9
          obtain ⟨wd, hwd⟩ : ∃ x, x = wq := ⟨_, rfl⟩
          subst hwd
          refine hK.out _ _ ?_ (fun hHeld => ?_)
          · exact ⟨st.Rb.cell 2, st.Rb.cell 3, st.Rb.cell 4⟩
          clear hK K
          try simp only [ap]
          refine tk (i := 10) ?_
          try simp only [ap]
          refine reg_call (i := 12) (by kernel_rfl) rfl (fun K hK => ?_)
          rw [if_pos (show Region.wanted _ _ = true by kernel_rfl)]
          refine wp_store_mid 65 _ _ rfl gb 0 #[.slice (some ⟨b7, 0, none⟩) 0 0, .slice (some ⟨b8, 0, none⟩) 0 0, .int .i64 jp, .int .i64 on, .slice A16 next.length c16] rfl rfl (row_there (st.hg gb (by simp)) 5 (by decide)) size_block (by simp [Value.oneCell']) ?_
          rw [set5_eq]
          have R5 := row_far5 st.Rb st.gne
          refine hK.out _ _ ?_ (fun hHeld => ?_)
          · exact ⟨(R5 _ _ _ _ _).cell 2, (R5 _ _ _ _ _).cell 3, (R5 _ _ _ _ _).cell 4⟩
          clear hK K
          try simp only [ap]
          refine wpAnyH_done (by kernel_rfl) ?_ _
          go_wp2_with fail
          go_meet
          exact st.fin jp on
        obtain ⟨A16, c16, f4, wq, r9, st⟩ := st.ap ⟨a6, 0, none⟩ (h4.below st.hbl hB) hl4
        rw [if_pos (show Region.wanted _ _ = true by kernel_rfl)]
        refine Lib.wp_append_run_sl _ _ _ 63 rfl _ _ rfl rfl r9 ?_
        clear r9
        obtain ⟨wd, hwd⟩ : ∃ x, x = wq := ⟨_, rfl⟩
        subst hwd
        refine hK.out _ _ ?_ (fun hHeld => ?_)
        · exact ⟨st.Rb.cell 2, st.Rb.cell 3, st.Rb.cell 4⟩
        clear hK K
        try simp only [ap]
        refine reg_call (i := 0) (by kernel_rfl) rfl (fun K hK => ?_)
        go_simp
        replace st := st.a0
        generalize wd.heap.size = b7 at st ⊢
        generalize wd.alloc (.cells #[] 69) = wd at st ⊢
        refine hK.out _ _ ?_ (fun hHeld => ?_)
        · exact ⟨st.Rb.cell 2, st.Rb.cell 3, st.Rb.cell 4⟩
        clear hK K
        try simp only [ap]
        refine tk (i := 10) ?_
        try simp only [ap]
        refine reg_call (i := 12) (by kernel_rfl) rfl (fun K hK => ?_)
        rw [if_pos (show Region.wanted _ _ = true by kernel_rfl)]
        refine wp_store_mid 65 _ _ rfl gb 0 #[.slice (some ⟨b7, 0, none⟩) 0 0, .slice (some ⟨b8, 0, none⟩) 0 0, .int .i64 jp, .int .i64 on, .slice A16 next.length c16] rfl rfl (row_there (st.hg gb (by simp)) 5 (by decide)) size_block (by simp [Value.oneCell']) ?_
        rw [set5_eq]
        have R5 := row_far5 st.Rb st.gne
        refine hK.out _ _ ?_ (fun hHeld => ?_)
        · exact ⟨(R5 _ _ _ _ _).cell 2, (R5 _ _ _ _ _).cell 3, (R5 _ _ _ _ _).cell 4⟩
        clear hK K
        try simp only [ap]
        refine wpAnyH_done (by kernel_rfl) ?_ _
        go_wp2_with fail
        go_meet
        exact st.fin jp on
      · obtain ⟨A16, c16, f4, wq, r9, st⟩ := st.ap ⟨a6, 0, none⟩ (h4.below st.hbl hB) hl4
        rw [if_pos (show Region.wanted _ _ = true by kernel_rfl)]
        refine Lib.wp_append_run_sl _ _ _ 63 rfl _ _ rfl rfl r9 ?_
        clear r9
        obtain ⟨wd, hwd⟩ : ∃ x, x = wq := ⟨_, rfl⟩
        subst hwd
        refine hK.out _ _ ?_ (fun hHeld => ?_)
        · exact ⟨st.Rb.cell 2, st.Rb.cell 3, st.Rb.cell 4⟩
        clear hK K
        try simp only [ap]
        refine reg_call3 (i := 0) (j := 1) (k := 11) (by kernel_rfl) rfl rfl rfl (fun K hK => ?_) (fun K hK => ?_) (fun K hK => ?_)
        · go_simp
          replace st := st.a0
          generalize wd.heap.size = b7 at st ⊢
          generalize wd.alloc (.cells #[] 69) = wd at st ⊢
          refine hK.out _ _ ?_ (fun hHeld => ?_)
          · exact ⟨st.Rb.cell 2, st.Rb.cell 3, st.Rb.cell 4⟩
          clear hK K
          try simp only [ap]
          refine reg_call2 (i := 1) (j := 11) (by kernel_rfl) rfl rfl (fun K hK => ?_) (fun K hK => ?_)
          · go_simp
            replace st := st.a1
            generalize wd.heap.size = b8 at st ⊢
            generalize wd.alloc (.cells #[] 72) = wd at st ⊢
            refine hK.out _ _ ?_ (fun hHeld => ?_)
            · exact ⟨st.Rb.cell 2, st.Rb.cell 3, st.Rb.cell 4⟩
            clear hK K
            try simp only [ap]
            refine tk (i := 10) ?_
            try simp only [ap]
            refine reg_call (i := 11) (by kernel_rfl) rfl (fun K hK => ?_)
            go_simp
            replace st := st.ag
            generalize wd.heap.size = gb at st ⊢
            generalize wd.alloc (.cells #[.slice none 0 0, .slice none 0 0, .int .i64 0, .int .i64 0, .slice none 0 0] 65) = wd at st ⊢
            refine hK.out _ _ ?_ (fun hHeld => ?_)
            · exact ⟨st.Rb.cell 2, st.Rb.cell 3, st.Rb.cell 4⟩
            clear hK K
            try simp only [ap]
            refine reg_call (i := 12) (by kernel_rfl) rfl (fun K hK => ?_)
            rw [if_pos (show Region.wanted _ _ = true by kernel_rfl)]
            refine wp_store_mid 65 _ _ rfl gb 0 #[.slice (some ⟨b7, 0, none⟩) 0 0, .slice (some ⟨b8, 0, none⟩) 0 0, .int .i64 jp, .int .i64 on, .slice A16 next.length c16] rfl rfl (row_there (st.hg gb (by simp)) 5 (by decide)) size_block (by simp [Value.oneCell']) ?_
            rw [set5_eq]
            have R5 := row_far5 st.Rb st.gne
            refine hK.out _ _ ?_ (fun hHeld => ?_)
            · exact ⟨(R5 _ _ _ _ _).cell 2, (R5 _ _ _ _ _).cell 3, (R5 _ _ _ _ _).cell 4⟩
            clear hK K
            try simp only [ap]
            refine wpAnyH_done (by kernel_rfl) ?_ _
            go_wp2_with fail
            go_meet
            exact st.fin jp on
          go_simp
          replace st := st.ag
          generalize wd.heap.size = gb at st ⊢
          generalize wd.alloc (.cells #[.slice none 0 0, .slice none 0 0, .int .i64 0, .int .i64 0, .slice none 0 0] 65) = wd at st ⊢
          refine hK.out _ _ ?_ (fun hHeld => ?_)
          · exact ⟨st.Rb.cell 2, st.Rb.cell 3, st.Rb.cell 4⟩
          clear hK K
          try simp only [ap]
          refine reg_call (i := 1) (by kernel_rfl) rfl (fun K hK => ?_)
          go_simp
          replace st := st.a1
          generalize wd.heap.size = b8 at st ⊢
          generalize wd.alloc (.cells #[] 72) = wd at st ⊢
          refine hK.out _ _ ?_ (fun hHeld => ?_)
          · exact ⟨st.Rb.cell 2, st.Rb.cell 3, st.Rb.cell 4⟩
          clear hK K
          try simp only [ap]
          refine tk (i := 10) ?_
          try simp only [ap]
          refine reg_call (i := 12) (by kernel_rfl) rfl (fun K hK => ?_)
          rw [if_pos (show Region.wanted _ _ = true by kernel_rfl)]
          refine wp_store_mid 65 _ _ rfl gb 0 #[.slice (some ⟨b7, 0, none⟩) 0 0, .slice (some ⟨b8, 0, none⟩) 0 0, .int .i64 jp, .int .i64 on, .slice A16 next.length c16] rfl rfl (row_there (st.hg gb (by simp)) 5 (by decide)) size_block (by simp [Value.oneCell']) ?_
          rw [set5_eq]
          have R5 := row_far5 st.Rb st.gne
          refine hK.out _ _ ?_ (fun hHeld => ?_)
          · exact ⟨(R5 _ _ _ _ _).cell 2, (R5 _ _ _ _ _).cell 3, (R5 _ _ _ _ _).cell 4⟩
          clear hK K
          try simp only [ap]
          refine wpAnyH_done (by kernel_rfl) ?_ _
          go_wp2_with fail
          go_meet
          exact st.fin jp on
        · go_simp
          replace st := st.a1
          generalize wd.heap.size = b8 at st ⊢
          generalize wd.alloc (.cells #[] 72) = wd at st ⊢
          refine hK.out _ _ ?_ (fun hHeld => ?_)
          · exact ⟨st.Rb.cell 2, st.Rb.cell 3, st.Rb.cell 4⟩
          clear hK K
          try simp only [ap]
          refine reg_call2 (i := 0) (j := 11) (by kernel_rfl) rfl rfl (fun K hK => ?_) (fun K hK => ?_)
          · go_simp
            replace st := st.a0
            generalize wd.heap.size = b7 at st ⊢
            generalize wd.alloc (.cells #[] 69) = wd at st ⊢
            refine hK.out _ _ ?_ (fun hHeld => ?_)
            · exact ⟨st.Rb.cell 2, st.Rb.cell 3, st.Rb.cell 4⟩
            clear hK K
            try simp only [ap]
            refine tk (i := 10) ?_
            try simp only [ap]
            refine reg_call (i := 11) (by kernel_rfl) rfl (fun K hK => ?_)
            go_simp
            replace st := st.ag
            generalize wd.heap.size = gb at st ⊢
            generalize wd.alloc (.cells #[.slice none 0 0, .slice none 0 0, .int .i64 0, .int .i64 0, .slice none 0 0] 65) = wd at st ⊢
            refine hK.out _ _ ?_ (fun hHeld => ?_)
            · exact ⟨st.Rb.cell 2, st.Rb.cell 3, st.Rb.cell 4⟩
            clear hK K
            try simp only [ap]
            refine reg_call (i := 12) (by kernel_rfl) rfl (fun K hK => ?_)
            rw [if_pos (show Region.wanted _ _ = true by kernel_rfl)]
            refine wp_store_mid 65 _ _ rfl gb 0 #[.slice (some ⟨b7, 0, none⟩) 0 0, .slice (some ⟨b8, 0, none⟩) 0 0, .int .i64 jp, .int .i64 on, .slice A16 next.length c16] rfl rfl (row_there (st.hg gb (by simp)) 5 (by decide)) size_block (by simp [Value.oneCell']) ?_
            rw [set5_eq]
            have R5 := row_far5 st.Rb st.gne
            refine hK.out _ _ ?_ (fun hHeld => ?_)
            · exact ⟨(R5 _ _ _ _ _).cell 2, (R5 _ _ _ _ _).cell 3, (R5 _ _ _ _ _).cell 4⟩
            clear hK K
            try simp only [ap]
            refine wpAnyH_done (by kernel_rfl) ?_ _
            go_wp2_with fail
            go_meet
            exact st.fin jp on
          go_simp
          replace st := st.ag
          generalize wd.heap.size = gb at st ⊢
          generalize wd.alloc (.cells #[.slice none 0 0, .slice none 0 0, .int .i64 0, .int .i64 0, .slice none 0 0] 65) = wd at st ⊢
          refine hK.out _ _ ?_ (fun hHeld => ?_)
          · exact ⟨st.Rb.cell 2, st.Rb.cell 3, st.Rb.cell 4⟩
          clear hK K
          try simp only [ap]
          refine reg_call (i := 0) (by kernel_rfl) rfl (fun K hK => ?_)
          go_simp
          replace st := st.a0
          generalize wd.heap.size = b7 at st ⊢
          generalize wd.alloc (.cells #[] 69) = wd at st ⊢
          refine hK.out _ _ ?_ (fun hHeld => ?_)
          · exact ⟨st.Rb.cell 2, st.Rb.cell 3, st.Rb.cell 4⟩
          clear hK K
          try simp only [ap]
          refine tk (i := 10) ?_
          try simp only [ap]
          refine reg_call (i := 12) (by kernel_rfl) rfl (fun K hK => ?_)
          rw [if_pos (show Region.wanted _ _ = true by kernel_rfl)]
          refine wp_store_mid 65 _ _ rfl gb 0 #[.slice (some ⟨b7, 0, none⟩) 0 0, .slice (some ⟨b8, 0, none⟩) 0 0, .int .i64 jp, .int .i64 on, .slice A16 next.length c16] rfl rfl (row_there (st.hg gb (by simp)) 5 (by decide)) size_block (by simp [Value.oneCell']) ?_
          rw [set5_eq]
          have R5 := row_far5 st.Rb st.gne
          refine hK.out _ _ ?_ (fun hHeld => ?_)
          · exact ⟨(R5 _ _ _ _ _).cell 2, (R5 _ _ _ _ _).cell 3, (R5 _ _ _ _ _).cell 4⟩
          clear hK K
          try simp only [ap]
          refine wpAnyH_done (by kernel_rfl) ?_ _
          go_wp2_with fail
          go_meet
          exact st.fin jp on
        go_simp
        replace st := st.ag
        generalize wd.heap.size = gb at st ⊢
        generalize wd.alloc (.cells #[.slice none 0 0, .slice none 0 0, .int .i64 0, .int .i64 0, .slice none 0 0] 65) = wd at st ⊢
        refine hK.out _ _ ?_ (fun hHeld => ?_)
        · exact ⟨st.Rb.cell 2, st.Rb.cell 3, st.Rb.cell 4⟩
        clear hK K
        try simp only [ap]
        refine reg_call2 (i := 0) (j := 1) (by kernel_rfl) rfl rfl (fun K hK => ?_) (fun K hK => ?_)
        · go_simp
          replace st := st.a0
          generalize wd.heap.size = b7 at st ⊢
          generalize wd.alloc (.cells #[] 69) = wd at st ⊢
          refine hK.out _ _ ?_ (fun hHeld => ?_)
          · exact ⟨st.Rb.cell 2, st.Rb.cell 3, st.Rb.cell 4⟩
          clear hK K
          try simp only [ap]
          refine reg_call (i := 1) (by kernel_rfl) rfl (fun K hK => ?_)
          go_simp
          replace st := st.a1
          generalize wd.heap.size = b8 at st ⊢
          generalize wd.alloc (.cells #[] 72) = wd at st ⊢
          refine hK.out _ _ ?_ (fun hHeld => ?_)
          · exact ⟨st.Rb.cell 2, st.Rb.cell 3, st.Rb.cell 4⟩
          clear hK K
          try simp only [ap]
          refine tk (i := 10) ?_
          try simp only [ap]
          refine reg_call (i := 12) (by kernel_rfl) rfl (fun K hK => ?_)
          rw [if_pos (show Region.wanted _ _ = true by kernel_rfl)]
          refine wp_store_mid 65 _ _ rfl gb 0 #[.slice (some ⟨b7, 0, none⟩) 0 0, .slice (some ⟨b8, 0, none⟩) 0 0, .int .i64 jp, .int .i64 on, .slice A16 next.length c16] rfl rfl (row_there (st.hg gb (by simp)) 5 (by decide)) size_block (by simp [Value.oneCell']) ?_
          rw [set5_eq]
          have R5 := row_far5 st.Rb st.gne
          refine hK.out _ _ ?_ (fun hHeld => ?_)
          · exact ⟨(R5 _ _ _ _ _).cell 2, (R5 _ _ _ _ _).cell 3, (R5 _ _ _ _ _).cell 4⟩
          clear hK K
          try simp only [ap]
          refine wpAnyH_done (by kernel_rfl) ?_ _
          go_wp2_with fail
          go_meet
          exact st.fin jp on
        go_simp
        replace st := st.a1
        generalize wd.heap.size = b8 at st ⊢
        generalize wd.alloc (.cells #[] 72) = wd at st ⊢
        refine hK.out _ _ ?_ (fun hHeld => ?_)
        · exact ⟨st.Rb.cell 2, st.Rb.cell 3, st.Rb.cell 4⟩
        clear hK K
        try simp only [ap]
        refine reg_call (i := 0) (by kernel_rfl) rfl (fun K hK => ?_)
        go_simp
        replace st := st.a0
        generalize wd.heap.size = b7 at st ⊢
        generalize wd.alloc (.cells #[] 69) = wd at st ⊢
        refine hK.out _ _ ?_ (fun hHeld => ?_)
        · exact ⟨st.Rb.cell 2, st.Rb.cell 3, st.Rb.cell 4⟩
        clear hK K
        try simp only [ap]
        refine tk (i := 10) ?_
        try simp only [ap]
        refine reg_call (i := 12) (by kernel_rfl) rfl (fun K hK => ?_)
        rw [if_pos (show Region.wanted _ _ = true by kernel_rfl)]
        refine wp_store_mid 65 _ _ rfl gb 0 #[.slice (some ⟨b7, 0, none⟩) 0 0, .slice (some ⟨b8, 0, none⟩) 0 0, .int .i64 jp, .int .i64 on, .slice A16 next.length c16] rfl rfl (row_there (st.hg gb (by simp)) 5 (by decide)) size_block (by simp [Value.oneCell']) ?_
        rw [set5_eq]
        have R5 := row_far5 st.Rb st.gne
        refine hK.out _ _ ?_ (fun hHeld => ?_)
        · exact ⟨(R5 _ _ _ _ _).cell 2, (R5 _ _ _ _ _).cell 3, (R5 _ _ _ _ _).cell 4⟩
        clear hK K
        try simp only [ap]
        refine wpAnyH_done (by kernel_rfl) ?_ _
        go_wp2_with fail
        go_meet
        exact st.fin jp on
      go_simp
      replace st := st.ag
      generalize wd.heap.size = gb at st ⊢
      generalize wd.alloc (.cells #[.slice none 0 0, .slice none 0 0, .int .i64 0, .int .i64 0, .slice none 0 0] 65) = wd at st ⊢
      refine hK.out _ _ ?_ (fun hHeld => ?_)
      · exact ⟨st.Rb.cell 2, st.Rb.cell 3, st.Rb.cell 4⟩
      clear hK K
      try simp only [ap]
      refine reg_call3 (i := 0) (j := 1) (k := 9) (by kernel_rfl) rfl rfl rfl (fun K hK => ?_) (fun K hK => ?_) (fun K hK => ?_)
      · go_simp
        replace st := st.a0
        generalize wd.heap.size = b7 at st ⊢
        generalize wd.alloc (.cells #[] 69) = wd at st ⊢
        refine hK.out _ _ ?_ (fun hHeld => ?_)
        · exact ⟨st.Rb.cell 2, st.Rb.cell 3, st.Rb.cell 4⟩
        clear hK K
        try simp only [ap]
        refine reg_call2 (i := 1) (j := 9) (by kernel_rfl) rfl rfl (fun K hK => ?_) (fun K hK => ?_)
        · go_simp
          replace st := st.a1
          generalize wd.heap.size = b8 at st ⊢
          generalize wd.alloc (.cells #[] 72) = wd at st ⊢
          refine hK.out _ _ ?_ (fun hHeld => ?_)
          · exact ⟨st.Rb.cell 2, st.Rb.cell 3, st.Rb.cell 4⟩
          clear hK K
          try simp only [ap]
          refine reg_call (i := 9) (by kernel_rfl) rfl (fun K hK => ?_)
          obtain ⟨A16, c16, f4, wq, r9, st⟩ := st.ap ⟨a6, 0, none⟩ (h4.below st.hbl hB) hl4
          rw [if_pos (show Region.wanted _ _ = true by kernel_rfl)]
          refine Lib.wp_append_run_sl _ _ _ 63 rfl _ _ rfl rfl r9 ?_
          clear r9
          obtain ⟨wd, hwd⟩ : ∃ x, x = wq := ⟨_, rfl⟩
          subst hwd
          refine hK.out _ _ ?_ (fun hHeld => ?_)
          · exact ⟨st.Rb.cell 2, st.Rb.cell 3, st.Rb.cell 4⟩
          clear hK K
          try simp only [ap]
          refine tk (i := 10) ?_
          try simp only [ap]
          refine reg_call (i := 12) (by kernel_rfl) rfl (fun K hK => ?_)
          rw [if_pos (show Region.wanted _ _ = true by kernel_rfl)]
          refine wp_store_mid 65 _ _ rfl gb 0 #[.slice (some ⟨b7, 0, none⟩) 0 0, .slice (some ⟨b8, 0, none⟩) 0 0, .int .i64 jp, .int .i64 on, .slice A16 next.length c16] rfl rfl (row_there (st.hg gb (by simp)) 5 (by decide)) size_block (by simp [Value.oneCell']) ?_
          rw [set5_eq]
          have R5 := row_far5 st.Rb st.gne
          refine hK.out _ _ ?_ (fun hHeld => ?_)
          · exact ⟨(R5 _ _ _ _ _).cell 2, (R5 _ _ _ _ _).cell 3, (R5 _ _ _ _ _).cell 4⟩
          clear hK K
          try simp only [ap]
          refine wpAnyH_done (by kernel_rfl) ?_ _
          go_wp2_with fail
          go_meet
          exact st.fin jp on
        obtain ⟨A16, c16, f4, wq, r9, st⟩ := st.ap ⟨a6, 0, none⟩ (h4.below st.hbl hB) hl4
        rw [if_pos (show Region.wanted _ _ = true by kernel_rfl)]
        refine Lib.wp_append_run_sl _ _ _ 63 rfl _ _ rfl rfl r9 ?_
        clear r9
        obtain ⟨wd, hwd⟩ : ∃ x, x = wq := ⟨_, rfl⟩
        subst hwd
        refine hK.out _ _ ?_ (fun hHeld => ?_)
        · exact ⟨st.Rb.cell 2, st.Rb.cell 3, st.Rb.cell 4⟩
        clear hK K
        try simp only [ap]
        refine reg_call (i := 1) (by kernel_rfl) rfl (fun K hK => ?_)
        go_simp
        replace st := st.a1
        generalize wd.heap.size = b8 at st ⊢
        generalize wd.alloc (.cells #[] 72) = wd at st ⊢
        refine hK.out _ _ ?_ (fun hHeld => ?_)
        · exact ⟨st.Rb.cell 2, st.Rb.cell 3, st.Rb.cell 4⟩
        clear hK K
        try simp only [ap]
        refine tk (i := 10) ?_
        try simp only [ap]
        refine reg_call (i := 12) (by kernel_rfl) rfl (fun K hK => ?_)
        rw [if_pos (show Region.wanted _ _ = true by kernel_rfl)]
        refine wp_store_mid 65 _ _ rfl gb 0 #[.slice (some ⟨b7, 0, none⟩) 0 0, .slice (some ⟨b8, 0, none⟩) 0 0, .int .i64 jp, .int .i64 on, .slice A16 next.length c16] rfl rfl (row_there (st.hg gb (by simp)) 5 (by decide)) size_block (by simp [Value.oneCell']) ?_
        rw [set5_eq]
        have R5 := row_far5 st.Rb st.gne
        refine hK.out _ _ ?_ (fun hHeld => ?_)
        · exact ⟨(R5 _ _ _ _ _).cell 2, (R5 _ _ _ _ _).cell 3, (R5 _ _ _ _ _).cell 4⟩
        clear hK K
        try simp only [ap]
        refine wpAnyH_done (by kernel_rfl) ?_ _
        go_wp2_with fail
        go_meet
        exact st.fin jp on
      · go_simp
        replace st := st.a1
        generalize wd.heap.size = b8 at st ⊢
        generalize wd.alloc (.cells #[] 72) = wd at st ⊢
        refine hK.out _ _ ?_ (fun hHeld => ?_)
        · exact ⟨st.Rb.cell 2, st.Rb.cell 3, st.Rb.cell 4⟩
        clear hK K
        try simp only [ap]
        refine reg_call2 (i := 0) (j := 9) (by kernel_rfl) rfl rfl (fun K hK => ?_) (fun K hK => ?_)
        · go_simp
          replace st := st.a0
          generalize wd.heap.size = b7 at st ⊢
          generalize wd.alloc (.cells #[] 69) = wd at st ⊢
          refine hK.out _ _ ?_ (fun hHeld => ?_)
          · exact ⟨st.Rb.cell 2, st.Rb.cell 3, st.Rb.cell 4⟩
          clear hK K
          try simp only [ap]
          refine reg_call (i := 9) (by kernel_rfl) rfl (fun K hK => ?_)
          obtain ⟨A16, c16, f4, wq, r9, st⟩ := st.ap ⟨a6, 0, none⟩ (h4.below st.hbl hB) hl4
          rw [if_pos (show Region.wanted _ _ = true by kernel_rfl)]
          refine Lib.wp_append_run_sl _ _ _ 63 rfl _ _ rfl rfl r9 ?_
          clear r9
          obtain ⟨wd, hwd⟩ : ∃ x, x = wq := ⟨_, rfl⟩
          subst hwd
          refine hK.out _ _ ?_ (fun hHeld => ?_)
          · exact ⟨st.Rb.cell 2, st.Rb.cell 3, st.Rb.cell 4⟩
          clear hK K
          try simp only [ap]
          refine tk (i := 10) ?_
          try simp only [ap]
          refine reg_call (i := 12) (by kernel_rfl) rfl (fun K hK => ?_)
          rw [if_pos (show Region.wanted _ _ = true by kernel_rfl)]
          refine wp_store_mid 65 _ _ rfl gb 0 #[.slice (some ⟨b7, 0, none⟩) 0 0, .slice (some ⟨b8, 0, none⟩) 0 0, .int .i64 jp, .int .i64 on, .slice A16 next.length c16] rfl rfl (row_there (st.hg gb (by simp)) 5 (by decide)) size_block (by simp [Value.oneCell']) ?_
          rw [set5_eq]
          have R5 := row_far5 st.Rb st.gne
          refine hK.out _ _ ?_ (fun hHeld => ?_)
          · exact ⟨(R5 _ _ _ _ _).cell 2, (R5 _ _ _ _ _).cell 3, (R5 _ _ _ _ _).cell 4⟩
          clear hK K
          try simp only [ap]
          refine wpAnyH_done (by kernel_rfl) ?_ _
          go_wp2_with fail
          go_meet
          exact st.fin jp on
        obtain ⟨A16, c16, f4, wq, r9, st⟩ := st.ap ⟨a6, 0, none⟩ (h4.below st.hbl hB) hl4
        rw [if_pos (show Region.wanted _ _ = true by kernel_rfl)]
        refine Lib.wp_append_run_sl _ _ _ 63 rfl _ _ rfl rfl r9 ?_
        clear r9
        obtain ⟨wd, hwd⟩ : ∃ x, x = wq := ⟨_, rfl⟩
        subst hwd
        refine hK.out _ _ ?_ (fun hHeld => ?_)
        · exact ⟨st.Rb.cell 2, st.Rb.cell 3, st.Rb.cell 4⟩
        clear hK K
        try simp only [ap]
        refine reg_call (i := 0) (by kernel_rfl) rfl (fun K hK => ?_)
        go_simp
        replace st := st.a0
        generalize wd.heap.size = b7 at st ⊢
        generalize wd.alloc (.cells #[] 69) = wd at st ⊢
        refine hK.out _ _ ?_ (fun hHeld => ?_)
        · exact ⟨st.Rb.cell 2, st.Rb.cell 3, st.Rb.cell 4⟩
        clear hK K
        try simp only [ap]
        refine tk (i := 10) ?_
        try simp only [ap]
        refine reg_call (i := 12) (by kernel_rfl) rfl (fun K hK => ?_)
        rw [if_pos (show Region.wanted _ _ = true by kernel_rfl)]
        refine wp_store_mid 65 _ _ rfl gb 0 #[.slice (some ⟨b7, 0, none⟩) 0 0, .slice (some ⟨b8, 0, none⟩) 0 0, .int .i64 jp, .int .i64 on, .slice A16 next.length c16] rfl rfl (row_there (st.hg gb (by simp)) 5 (by decide)) size_block (by simp [Value.oneCell']) ?_
        rw [set5_eq]
        have R5 := row_far5 st.Rb st.gne
        refine hK.out _ _ ?_ (fun hHeld => ?_)
        · exact ⟨(R5 _ _ _ _ _).cell 2, (R5 _ _ _ _ _).cell 3, (R5 _ _ _ _ _).cell 4⟩
        clear hK K
        try simp only [ap]
        refine wpAnyH_done (by kernel_rfl) ?_ _
        go_wp2_with fail
        go_meet
        exact st.fin jp on
      obtain ⟨A16, c16, f4, wq, r9, st⟩ := st.ap ⟨a6, 0, none⟩ (h4.below st.hbl hB) hl4
      rw [if_pos (show Region.wanted _ _ = true by kernel_rfl)]
      refine Lib.wp_append_run_sl _ _ _ 63 rfl _ _ rfl rfl r9 ?_
      clear r9
      obtain ⟨wd, hwd⟩ : ∃ x, x = wq := ⟨_, rfl⟩
      subst hwd
      refine hK.out _ _ ?_ (fun hHeld => ?_)
      · exact ⟨st.Rb.cell 2, st.Rb.cell 3, st.Rb.cell 4⟩
      clear hK K
      try simp only [ap]
      refine reg_call2 (i := 0) (j := 1) (by kernel_rfl) rfl rfl (fun K hK => ?_) (fun K hK => ?_)
      · go_simp
        replace st := st.a0
        generalize wd.heap.size = b7 at st ⊢
        generalize wd.alloc (.cells #[] 69) = wd at st ⊢
        refine hK.out _ _ ?_ (fun hHeld => ?_)
        · exact ⟨st.Rb.cell 2, st.Rb.cell 3, st.Rb.cell 4⟩
        clear hK K
        try simp only [ap]
        refine reg_call (i := 1) (by kernel_rfl) rfl (fun K hK => ?_)
        go_simp
        replace st := st.a1
        generalize wd.heap.size = b8 at st ⊢
        generalize wd.alloc (.cells #[] 72) = wd at st ⊢
        refine hK.out _ _ ?_ (fun hHeld => ?_)
        · exact ⟨st.Rb.cell 2, st.Rb.cell 3, st.Rb.cell 4⟩
        clear hK K
        try simp only [ap]
        refine tk (i := 10) ?_
        try simp only [ap]
        refine reg_call (i := 12) (by kernel_rfl) rfl (fun K hK => ?_)
        rw [if_pos (show Region.wanted _ _ = true by kernel_rfl)]
        refine wp_store_mid 65 _ _ rfl gb 0 #[.slice (some ⟨b7, 0, none⟩) 0 0, .slice (some ⟨b8, 0, none⟩) 0 0, .int .i64 jp, .int .i64 on, .slice A16 next.length c16] rfl rfl (row_there (st.hg gb (by simp)) 5 (by decide)) size_block (by simp [Value.oneCell']) ?_
        rw [set5_eq]
        have R5 := row_far5 st.Rb st.gne
        refine hK.out _ _ ?_ (fun hHeld => ?_)
        · exact ⟨(R5 _ _ _ _ _).cell 2, (R5 _ _ _ _ _).cell 3, (R5 _ _ _ _ _).cell 4⟩
        clear hK K
        try simp only [ap]
        refine wpAnyH_done (by kernel_rfl) ?_ _
        go_wp2_with fail
        go_meet
        exact st.fin jp on
      go_simp
      replace st := st.a1
      generalize wd.heap.size = b8 at st ⊢
      generalize wd.alloc (.cells #[] 72) = wd at st ⊢
      refine hK.out _ _ ?_ (fun hHeld => ?_)
      · exact ⟨st.Rb.cell 2, st.Rb.cell 3, st.Rb.cell 4⟩
      clear hK K
      try simp only [ap]
      refine reg_call (i := 0) (by kernel_rfl) rfl (fun K hK => ?_)
      go_simp
      replace st := st.a0
      generalize wd.heap.size = b7 at st ⊢
      generalize wd.alloc (.cells #[] 69) = wd at st ⊢
      refine hK.out _ _ ?_ (fun hHeld => ?_)
      · exact ⟨st.Rb.cell 2, st.Rb.cell 3, st.Rb.cell 4⟩
      clear hK K
      try simp only [ap]
      refine tk (i := 10) ?_
      try simp only [ap]
      refine reg_call (i := 12) (by kernel_rfl) rfl (fun K hK => ?_)
      rw [if_pos (show Region.wanted _ _ = true by kernel_rfl)]
      refine wp_store_mid 65 _ _ rfl gb 0 #[.slice (some ⟨b7, 0, none⟩) 0 0, .slice (some ⟨b8, 0, none⟩) 0 0, .int .i64 jp, .int .i64 on, .slice A16 next.length c16] rfl rfl (row_there (st.hg gb (by simp)) 5 (by decide)) size_block (by simp [Value.oneCell']) ?_
      rw [set5_eq]
      have R5 := row_far5 st.Rb st.gne
      refine hK.out _ _ ?_ (fun hHeld => ?_)
      · exact ⟨(R5 _ _ _ _ _).cell 2, (R5 _ _ _ _ _).cell 3, (R5 _ _ _ _ _).cell 4⟩
      clear hK K
      try simp only [ap]
      refine wpAnyH_done (by kernel_rfl) ?_ _
      go_wp2_with fail
      go_meet
      exact st.fin jp on
    go_simp
    replace st := st.ag
    generalize wd.heap.size = gb at st ⊢
    generalize wd.alloc (.cells #[.slice none 0 0, .slice none 0 0, .int .i64 0, .int .i64 0, .slice none 0 0] 65) = wd at st ⊢
    refine hK.out _ _ ?_ (fun hHeld => ?_)
    · exact ⟨st.Rb.cell 2, st.Rb.cell 3, st.Rb.cell 4⟩
    clear hK K
    try simp only [ap]
    refine reg_call3 (i := 0) (j := 1) (k := 6) (by kernel_rfl) rfl rfl rfl (fun K hK => ?_) (fun K hK => ?_) (fun K hK => ?_)
    · go_simp
      replace st := st.a0
      generalize wd.heap.size = b7 at st ⊢
      generalize wd.alloc (.cells #[] 69) = wd at st ⊢
      refine hK.out _ _ ?_ (fun hHeld => ?_)
      · exact ⟨st.Rb.cell 2, st.Rb.cell 3, st.Rb.cell 4⟩
      clear hK K
      try simp only [ap]
      refine reg_call2 (i := 1) (j := 6) (by kernel_rfl) rfl rfl (fun K hK => ?_) (fun K hK => ?_)
      · go_simp
        replace st := st.a1
        generalize wd.heap.size = b8 at st ⊢
        generalize wd.alloc (.cells #[] 72) = wd at st ⊢
        refine hK.out _ _ ?_ (fun hHeld => ?_)
        · exact ⟨st.Rb.cell 2, st.Rb.cell 3, st.Rb.cell 4⟩
        clear hK K
        try simp only [ap]
        refine reg_call (i := 6) (by kernel_rfl) rfl (fun K hK => ?_)
        go_simp
        replace st := st.al (.cells #[] 3)
        generalize wd.heap.size = a6 at ⊢
        generalize wd.alloc (.cells #[] 3) = wd at st ⊢
        refine hK.out _ _ ?_ (fun hHeld => ?_)
        · exact ⟨st.Rb.cell 2, st.Rb.cell 3, st.Rb.cell 4⟩
        clear hK K
        try simp only [ap]
        refine reg_call (i := 9) (by kernel_rfl) rfl (fun K hK => ?_)
        obtain ⟨A16, c16, f4, wq, r9, st⟩ := st.ap ⟨a6, 0, none⟩ (h4.below st.hbl hB) hl4
        rw [if_pos (show Region.wanted _ _ = true by kernel_rfl)]
        refine Lib.wp_append_run_sl _ _ _ 63 rfl _ _ rfl rfl r9 ?_
        clear r9
        obtain ⟨wd, hwd⟩ : ∃ x, x = wq := ⟨_, rfl⟩
        subst hwd
        refine hK.out _ _ ?_ (fun hHeld => ?_)
        · exact ⟨st.Rb.cell 2, st.Rb.cell 3, st.Rb.cell 4⟩
        clear hK K
        try simp only [ap]
        refine tk (i := 10) ?_
        try simp only [ap]
        refine reg_call (i := 12) (by kernel_rfl) rfl (fun K hK => ?_)
        rw [if_pos (show Region.wanted _ _ = true by kernel_rfl)]
        refine wp_store_mid 65 _ _ rfl gb 0 #[.slice (some ⟨b7, 0, none⟩) 0 0, .slice (some ⟨b8, 0, none⟩) 0 0, .int .i64 jp, .int .i64 on, .slice A16 next.length c16] rfl rfl (row_there (st.hg gb (by simp)) 5 (by decide)) size_block (by simp [Value.oneCell']) ?_
        rw [set5_eq]
        have R5 := row_far5 st.Rb st.gne
        refine hK.out _ _ ?_ (fun hHeld => ?_)
        · exact ⟨(R5 _ _ _ _ _).cell 2, (R5 _ _ _ _ _).cell 3, (R5 _ _ _ _ _).cell 4⟩
        clear hK K
        try simp only [ap]
        refine wpAnyH_done (by kernel_rfl) ?_ _
        go_wp2_with fail
        go_meet
        exact st.fin jp on
      go_simp
      replace st := st.al (.cells #[] 3)
      generalize wd.heap.size = a6 at ⊢
      generalize wd.alloc (.cells #[] 3) = wd at st ⊢
      refine hK.out _ _ ?_ (fun hHeld => ?_)
      · exact ⟨st.Rb.cell 2, st.Rb.cell 3, st.Rb.cell 4⟩
      clear hK K
      try simp only [ap]
      refine reg_call2 (i := 1) (j := 9) (by kernel_rfl) rfl rfl (fun K hK => ?_) (fun K hK => ?_)
      · go_simp
        replace st := st.a1
        generalize wd.heap.size = b8 at st ⊢
        generalize wd.alloc (.cells #[] 72) = wd at st ⊢
        refine hK.out _ _ ?_ (fun hHeld => ?_)
        · exact ⟨st.Rb.cell 2, st.Rb.cell 3, st.Rb.cell 4⟩
        clear hK K
        try simp only [ap]
        refine reg_call (i := 9) (by kernel_rfl) rfl (fun K hK => ?_)
        obtain ⟨A16, c16, f4, wq, r9, st⟩ := st.ap ⟨a6, 0, none⟩ (h4.below st.hbl hB) hl4
        rw [if_pos (show Region.wanted _ _ = true by kernel_rfl)]
        refine Lib.wp_append_run_sl _ _ _ 63 rfl _ _ rfl rfl r9 ?_
        clear r9
        obtain ⟨wd, hwd⟩ : ∃ x, x = wq := ⟨_, rfl⟩
        subst hwd
        refine hK.out _ _ ?_ (fun hHeld => ?_)
        · exact ⟨st.Rb.cell 2, st.Rb.cell 3, st.Rb.cell 4⟩
        clear hK K
        try simp only [ap]
        refine tk (i := 10) ?_
        try simp only [ap]
        refine reg_call (i := 12) (by kernel_rfl) rfl (fun K hK => ?_)
        rw [if_pos (show Region.wanted _ _ = true by kernel_rfl)]
        refine wp_store_mid 65 _ _ rfl gb 0 #[.slice (some ⟨b7, 0, none⟩) 0 0, .slice (some ⟨b8, 0, none⟩) 0 0, .int .i64 jp, .int .i64 on, .slice A16 next.length c16] rfl rfl (row_there (st.hg gb (by simp)) 5 (by decide)) size_block (by simp [Value.oneCell']) ?_
        rw [set5_eq]
        have R5 := row_far5 st.Rb st.gne
        refine hK.out _ _ ?_ (fun hHeld => ?_)
        · exact ⟨(R5 _ _ _ _ _).cell 2, (R5 _ _ _ _ _).cell 3, (R5 _ _ _ _ _).cell 4⟩
        clear hK K
        try simp only [ap]
        refine wpAnyH_done (by kernel_rfl) ?_ _
        go_wp2_with fail
        go_meet
        exact st.fin jp on
      obtain ⟨A16, c16, f4, wq, r9, st⟩ := st.ap ⟨a6, 0, none⟩ (h4.below st.hbl hB) hl4
      rw [if_pos (show Region.wanted _ _ = true by kernel_rfl)]
      refine Lib.wp_append_run_sl _ _ _ 63 rfl _ _ rfl rfl r9 ?_
      clear r9
      obtain ⟨wd, hwd⟩ : ∃ x, x = wq := ⟨_, rfl⟩
      subst hwd
      refine hK.out _ _ ?_ (fun hHeld => ?_)
      · exact ⟨st.Rb.cell 2, st.Rb.cell 3, st.Rb.cell 4⟩
      clear hK K
      try simp only [ap]
      refine reg_call (i := 1) (by kernel_rfl) rfl (fun K hK => ?_)
      go_simp
      replace st := st.a1
      generalize wd.heap.size = b8 at st ⊢
      generalize wd.alloc (.cells #[] 72) = wd at st ⊢
      refine hK.out _ _ ?_ (fun hHeld => ?_)
      · exact ⟨st.Rb.cell 2, st.Rb.cell 3, st.Rb.cell 4⟩
      clear hK K
      try simp only [ap]
      refine tk (i := 10) ?_
      try simp only [ap]
      refine reg_call (i := 12) (by kernel_rfl) rfl (fun K hK => ?_)
      rw [if_pos (show Region.wanted _ _ = true by kernel_rfl)]
      refine wp_store_mid 65 _ _ rfl gb 0 #[.slice (some ⟨b7, 0, none⟩) 0 0, .slice (some ⟨b8, 0, none⟩) 0 0, .int .i64 jp, .int .i64 on, .slice A16 next.length c16] rfl rfl (row_there (st.hg gb (by simp)) 5 (by decide)) size_block (by simp [Value.oneCell']) ?_
      rw [set5_eq]
      have R5 := row_far5 st.Rb st.gne
      refine hK.out _ _ ?_ (fun hHeld => ?_)
      · exact ⟨(R5 _ _ _ _ _).cell 2, (R5 _ _ _ _ _).cell 3, (R5 _ _ _ _ _).cell 4⟩
      clear hK K
      try simp only [ap]
      refine wpAnyH_done (by kernel_rfl) ?_ _
      go_wp2_with fail
      go_meet
      exact st.fin jp on
    · go_simp
      replace st := st.a1
      generalize wd.heap.size = b8 at st ⊢
      generalize wd.alloc (.cells #[] 72) = wd at st ⊢
      refine hK.out _ _ ?_ (fun hHeld => ?_)
      · exact ⟨st.Rb.cell 2, st.Rb.cell 3, st.Rb.cell 4⟩
      clear hK K
      try simp only [ap]
      refine reg_call2 (i := 0) (j := 6) (by kernel_rfl) rfl rfl (fun K hK => ?_) (fun K hK => ?_)
      · go_simp
        replace st := st.a0
        generalize wd.heap.size = b7 at st ⊢
        generalize wd.alloc (.cells #[] 69) = wd at st ⊢
        refine hK.out _ _ ?_ (fun hHeld => ?_)
        · exact ⟨st.Rb.cell 2, st.Rb.cell 3, st.Rb.cell 4⟩
        clear hK K
        try simp only [ap]
        refine reg_call (i := 6) (by kernel_rfl) rfl (fun K hK => ?_)
        go_simp
        replace st := st.al (.cells #[] 3)
        generalize wd.heap.size = a6 at ⊢
        generalize wd.alloc (.cells #[] 3) = wd at st ⊢
        refine hK.out _ _ ?_ (fun hHeld => ?_)
        · exact ⟨st.Rb.cell 2, st.Rb.cell 3, st.Rb.cell 4⟩
        clear hK K
        try simp only [ap]
        refine reg_call (i := 9) (by kernel_rfl) rfl (fun K hK => ?_)
        obtain ⟨A16, c16, f4, wq, r9, st⟩ := st.ap ⟨a6, 0, none⟩ (h4.below st.hbl hB) hl4
        rw [if_pos (show Region.wanted _ _ = true by kernel_rfl)]
        refine Lib.wp_append_run_sl _ _ _ 63 rfl _ _ rfl rfl r9 ?_
        clear r9
        obtain ⟨wd, hwd⟩ : ∃ x, x = wq := ⟨_, rfl⟩
        subst hwd
        refine hK.out _ _ ?_ (fun hHeld => ?_)
        · exact ⟨st.Rb.cell 2, st.Rb.cell 3, st.Rb.cell 4⟩
        clear hK K
        try simp only [ap]
        refine tk (i := 10) ?_
        try simp only [ap]
        refine reg_call (i := 12) (by kernel_rfl) rfl (fun K hK => ?_)
        rw [if_pos (show Region.wanted _ _ = true by kernel_rfl)]
        refine wp_store_mid 65 _ _ rfl gb 0 #[.slice (some ⟨b7, 0, none⟩) 0 0, .slice (some ⟨b8, 0, none⟩) 0 0, .int .i64 jp, .int .i64 on, .slice A16 next.length c16] rfl rfl (row_there (st.hg gb (by simp)) 5 (by decide)) size_block (by simp [Value.oneCell']) ?_
        rw [set5_eq]
        have R5 := row_far5 st.Rb st.gne
        refine hK.out _ _ ?_ (fun hHeld => ?_)
        · exact ⟨(R5 _ _ _ _ _).cell 2, (R5 _ _ _ _ _).cell 3, (R5 _ _ _ _ _).cell 4⟩
        clear hK K
        try simp only [ap]
        refine wpAnyH_done (by kernel_rfl) ?_ _
        go_wp2_with fail
        go_meet
        exact st.fin jp on
      go_simp
      replace st := st.al (.cells #[] 3)
      generalize wd.heap.size = a6 at ⊢
      generalize wd.alloc (.cells #[] 3) = wd at st ⊢
      refine hK.out _ _ ?_ (fun hHeld => ?_)
      · exact ⟨st.Rb.cell 2, st.Rb.cell 3, st.Rb.cell 4⟩
      clear hK K
      try simp only [ap]
      refine reg_call2 (i := 0) (j := 9) (by kernel_rfl) rfl rfl (fun K hK => ?_) (fun K hK => ?_)
      · go_simp
        replace st := st.a0
        generalize wd.heap.size = b7 at st ⊢
        generalize wd.alloc (.cells #[] 69) = wd at st ⊢
        refine hK.out _ _ ?_ (fun hHeld => ?_)
        · exact ⟨st.Rb.cell 2, st.Rb.cell 3, st.Rb.cell 4⟩
        clear hK K
        try simp only [ap]
        refine reg_call (i := 9) (by kernel_rfl) rfl (fun K hK => ?_)
        obtain ⟨A16, c16, f4, wq, r9, st⟩ := st.ap ⟨a6, 0, none⟩ (h4.below st.hbl hB) hl4
        rw [if_pos (show Region.wanted _ _ = true by kernel_rfl)]
        refine Lib.wp_append_run_sl _ _ _ 63 rfl _ _ rfl rfl r9 ?_
        clear r9
        obtain ⟨wd, hwd⟩ : ∃ x, x = wq := ⟨_, rfl⟩
        subst hwd
        refine hK.out _ _ ?_ (fun hHeld => ?_)
        · exact ⟨st.Rb.cell 2, st.Rb.cell 3, st.Rb.cell 4⟩
        clear hK K
        try simp only [ap]
        refine tk (i := 10) ?_
        try simp only [ap]
        refine reg_call (i := 12) (by kernel_rfl) rfl (fun K hK => ?_)
        rw [if_pos (show Region.wanted _ _ = true by kernel_rfl)]
        refine wp_store_mid 65 _ _ rfl gb 0 #[.slice (some ⟨b7, 0, none⟩) 0 0, .slice (some ⟨b8, 0, none⟩) 0 0, .int .i64 jp, .int .i64 on, .slice A16 next.length c16] rfl rfl (row_there (st.hg gb (by simp)) 5 (by decide)) size_block (by simp [Value.oneCell']) ?_
        rw [set5_eq]
        have R5 := row_far5 st.Rb st.gne
        refine hK.out _ _ ?_ (fun hHeld => ?_)
        · exact ⟨(R5 _ _ _ _ _).cell 2, (R5 _ _ _ _ _).cell 3, (R5 _ _ _ _ _).cell 4⟩
        clear hK K
        try simp only [ap]
        refine wpAnyH_done (by kernel_rfl) ?_ _
        go_wp2_with fail
        go_meet
        exact st.fin jp on
      obtain ⟨A16, c16, f4, wq, r9, st⟩ := st.ap ⟨a6, 0, none⟩ (h4.below st.hbl hB) hl4
      rw [if_pos (show Region.wanted _ _ = true by kernel_rfl)]
      refine Lib.wp_append_run_sl _ _ _ 63 rfl _ _ rfl rfl r9 ?_
      clear r9
      obtain ⟨wd, hwd⟩ : ∃ x, x = wq := ⟨_, rfl⟩
      subst hwd
      refine hK.out _ _ ?_ (fun hHeld => ?_)
      · exact ⟨st.Rb.cell 2, st.Rb.cell 3, st.Rb.cell 4⟩
      clear hK K
      try simp only [ap]
      refine reg_call (i := 0) (by kernel_rfl) rfl (fun K hK => ?_)
      go_simp
      replace st := st.a0
      generalize wd.heap.size = b7 at st ⊢
      generalize wd.alloc (.cells #[] 69) = wd at st ⊢
      refine hK.out _ _ ?_ (fun hHeld => ?_)
      · exact ⟨st.Rb.cell 2, st.Rb.cell 3, st.Rb.cell 4⟩
      clear hK K
      try simp only [ap]
      refine tk (i := 10) ?_
      try simp only [ap]
      refine reg_call (i := 12) (by kernel_rfl) rfl (fun K hK => ?_)
      rw [if_pos (show Region.wanted _ _ = true by kernel_rfl)]
      refine wp_store_mid 65 _ _ rfl gb 0 #[.slice (some ⟨b7, 0, none⟩) 0 0, .slice (some ⟨b8, 0, none⟩) 0 0, .int .i64 jp, .int .i64 on, .slice A16 next.length c16] rfl rfl (row_there (st.hg gb (by simp)) 5 (by decide)) size_block (by simp [Value.oneCell']) ?_
      rw [set5_eq]
      have R5 := row_far5 st.Rb st.gne
      refine hK.out _ _ ?_ (fun hHeld => ?_)
      · exact ⟨(R5 _ _ _ _ _).cell 2, (R5 _ _ _ _ _).cell 3, (R5 _ _ _ _ _).cell 4⟩
      clear hK K
      try simp only [ap]
      refine wpAnyH_done (by kernel_rfl) ?_ _
      go_wp2_with fail
      go_meet
      exact st.fin jp on
    go_simp
    replace st := st.al (.cells #[] 3)
    generalize wd.heap.size = a6 at ⊢
    generalize wd.alloc (.cells #[] 3) = wd at st ⊢
    refine hK.out _ _ ?_ (fun hHeld => ?_)
    · exact ⟨st.Rb.cell 2, st.Rb.cell 3, st.Rb.cell 4⟩
    clear hK K
    try simp only [ap]
    refine reg_call3 (i := 0) (j := 1) (k := 9) (by kernel_rfl) rfl rfl rfl (fun K hK => ?_) (fun K hK => ?_) (fun K hK => ?_)
    · go_simp
      replace st := st.a0
      generalize wd.heap.size = b7 at st ⊢
      generalize wd.alloc (.cells #[] 69) = wd at st ⊢
      refine hK.out _ _ ?_ (fun hHeld => ?_)
      · exact ⟨st.Rb.cell 2, st.Rb.cell 3, st.Rb.cell 4⟩
      clear hK K
      try simp only [ap]
      refine reg_call2 (i := 1) (j := 9) (by kernel_rfl) rfl rfl (fun K hK => ?_) (fun K hK => ?_)
      · go_simp
        replace st := st.a1
        generalize wd.heap.size = b8 at st ⊢
        generalize wd.alloc (.cells #[] 72) = wd at st ⊢
        refine hK.out _ _ ?_ (fun hHeld => ?_)
        · exact ⟨st.Rb.cell 2, st.Rb.cell 3, st.Rb.cell 4⟩
        clear hK K
        try simp only [ap]
        refine reg_call (i := 9) (by kernel_rfl) rfl (fun K hK => ?_)
        obtain ⟨A16, c16, f4, wq, r9, st⟩ := st.ap ⟨a6, 0, none⟩ (h4.below st.hbl hB) hl4
        rw [if_pos (show Region.wanted _ _ = true by kernel_rfl)]
        refine Lib.wp_append_run_sl _ _ _ 63 rfl _ _ rfl rfl r9 ?_
        clear r9
        obtain ⟨wd, hwd⟩ : ∃ x, x = wq := ⟨_, rfl⟩
        subst hwd
        refine hK.out _ _ ?_ (fun hHeld => ?_)
        · exact ⟨st.Rb.cell 2, st.Rb.cell 3, st.Rb.cell 4⟩
        clear hK K
        try simp only [ap]
        refine tk (i := 10) ?_
        try simp only [ap]
        refine reg_call (i := 12) (by kernel_rfl) rfl (fun K hK => ?_)
        rw [if_pos (show Region.wanted _ _ = true by kernel_rfl)]
        refine wp_store_mid 65 _ _ rfl gb 0 #[.slice (some ⟨b7, 0, none⟩) 0 0, .slice (some ⟨b8, 0, none⟩) 0 0, .int .i64 jp, .int .i64 on, .slice A16 next.length c16] rfl rfl (row_there (st.hg gb (by simp)) 5 (by decide)) size_block (by simp [Value.oneCell']) ?_
        rw [set5_eq]
        have R5 := row_far5 st.Rb st.gne
        refine hK.out _ _ ?_ (fun hHeld => ?_)
        · exact ⟨(R5 _ _ _ _ _).cell 2, (R5 _ _ _ _ _).cell 3, (R5 _ _ _ _ _).cell 4⟩
        clear hK K
        try simp only [ap]
        refine wpAnyH_done (by kernel_rfl) ?_ _
        go_wp2_with fail
        go_meet
        exact st.fin jp on
      obtain ⟨A16, c16, f4, wq, r9, st⟩ := st.ap ⟨a6, 0, none⟩ (h4.below st.hbl hB) hl4
      rw [if_pos (show Region.wanted _ _ = true by kernel_rfl)]
      refine Lib.wp_append_run_sl _ _ _ 63 rfl _ _ rfl rfl r9 ?_
      clear r9
      obtain ⟨wd, hwd⟩ : ∃ x, x = wq := ⟨_, rfl⟩
      subst hwd
      refine hK.out _ _ ?_ (fun hHeld => ?_)
      · exact ⟨st.Rb.cell 2, st.Rb.cell 3, st.Rb.cell 4⟩
      clear hK K
      try simp only [ap]
      refine reg_call (i := 1) (by kernel_rfl) rfl (fun K hK => ?_)
      go_simp
      replace st := st.a1
      generalize wd.heap.size = b8 at st ⊢
      generalize wd.alloc (.cells #[] 72) = wd at st ⊢
      refine hK.out _ _ ?_ (fun hHeld => ?_)
      · exact ⟨st.Rb.cell 2, st.Rb.cell 3, st.Rb.cell 4⟩
      clear hK K
      try simp only [ap]
      refine tk (i := 10) ?_
      try simp only [ap]
      refine reg_call (i := 12) (by kernel_rfl) rfl (fun K hK => ?_)
      rw [if_pos (show Region.wanted _ _ = true by kernel_rfl)]
      refine wp_store_mid 65 _ _ rfl gb 0 #[.slice (some ⟨b7, 0, none⟩) 0 0, .slice (some ⟨b8, 0, none⟩) 0 0, .int .i64 jp, .int .i64 on, .slice A16 next.length c16] rfl rfl (row_there (st.hg gb (by simp)) 5 (by decide)) size_block (by simp [Value.oneCell']) ?_
      rw [set5_eq]
      have R5 := row_far5 st.Rb st.gne
      refine hK.out _ _ ?_ (fun hHeld => ?_)
      · exact ⟨(R5 _ _ _ _ _).cell 2, (R5 _ _ _ _ _).cell 3, (R5 _ _ _ _ _).cell 4⟩
      clear hK K
      try simp only [ap]
      refine wpAnyH_done (by kernel_rfl) ?_ _
      go_wp2_with fail
      go_meet
      exact st.fin jp on
    · go_simp
      replace st := st.a1
      generalize wd.heap.size = b8 at st ⊢
      generalize wd.alloc (.cells #[] 72) = wd at st ⊢
      refine hK.out _ _ ?_ (fun hHeld => ?_)
      · exact ⟨st.Rb.cell 2, st.Rb.cell 3, st.Rb.cell 4⟩
      clear hK K
      try simp only [ap]
      refine reg_call2 (i := 0) (j := 9) (by kernel_rfl) rfl rfl (fun K hK => ?_) (fun K hK => ?_)
      · go_simp
        replace st := st.a0
        generalize wd.heap.size = b7 at st ⊢
        generalize wd.alloc (.cells #[] 69) = wd at st ⊢
        refine hK.out _ _ ?_ (fun hHeld => ?_)
        · exact ⟨st.Rb.cell 2, st.Rb.cell 3, st.Rb.cell 4⟩
        clear hK K
        try simp only [ap]
        refine reg_call (i := 9) (by kernel_rfl) rfl (fun K hK => ?_)
        obtain ⟨A16, c16, f4, wq, r9, st⟩ := st.ap ⟨a6, 0, none⟩ (h4.below st.hbl hB) hl4
        rw [if_pos (show Region.wanted _ _ = true by kernel_rfl)]
        refine Lib.wp_append_run_sl _ _ _ 63 rfl _ _ rfl rfl r9 ?_
        clear r9
        obtain ⟨wd, hwd⟩ : ∃ x, x = wq := ⟨_, rfl⟩
        subst hwd
        refine hK.out _ _ ?_ (fun hHeld => ?_)
        · exact ⟨st.Rb.cell 2, st.Rb.cell 3, st.Rb.cell 4⟩
        clear hK K
        try simp only [ap]
        refine tk (i := 10) ?_
        try simp only [ap]
        refine reg_call (i := 12) (by kernel_rfl) rfl (fun K hK => ?_)
        rw [if_pos (show Region.wanted _ _ = true by kernel_rfl)]
        refine wp_store_mid 65 _ _ rfl gb 0 #[.slice (some ⟨b7, 0, none⟩) 0 0, .slice (some ⟨b8, 0, none⟩) 0 0, .int .i64 jp, .int .i64 on, .slice A16 next.length c16] rfl rfl (row_there (st.hg gb (by simp)) 5 (by decide)) size_block (by simp [Value.oneCell']) ?_
        rw [set5_eq]
        have R5 := row_far5 st.Rb st.gne
        refine hK.out _ _ ?_ (fun hHeld => ?_)
        · exact ⟨(R5 _ _ _ _ _).cell 2, (R5 _ _ _ _ _).cell 3, (R5 _ _ _ _ _).cell 4⟩
        clear hK K
        try simp only [ap]
        refine wpAnyH_done (by kernel_rfl) ?_ _
        go_wp2_with fail
        go_meet
        exact st.fin jp on
      obtain ⟨A16, c16, f4, wq, r9, st⟩ := st.ap ⟨a6, 0, none⟩ (h4.below st.hbl hB) hl4
      rw [if_pos (show Region.wanted _ _ = true by kernel_rfl)]
      refine Lib.wp_append_run_sl _ _ _ 63 rfl _ _ rfl rfl r9 ?_
      clear r9
      obtain ⟨wd, hwd⟩ : ∃ x, x = wq := ⟨_, rfl⟩
      subst hwd
      refine hK.out _ _ ?_ (fun hHeld => ?_)
      · exact ⟨st.Rb.cell 2, st.Rb.cell 3, st.Rb.cell 4⟩
      clear hK K
      try simp only [ap]
      refine reg_call (i := 0) (by kernel_rfl) rfl (fun K hK => ?_)
      go_simp
      replace st := st.a0
      generalize wd.heap.size = b7 at st ⊢
      generalize wd.alloc (.cells #[] 69) = wd at st ⊢
      refine hK.out _ _ ?_ (fun hHeld => ?_)
      · exact ⟨st.Rb.cell 2, st.Rb.cell 3, st.Rb.cell 4⟩
      clear hK K
      try simp only [ap]
      refine tk (i := 10) ?_
      try simp only [ap]
      refine reg_call (i := 12) (by kernel_rfl) rfl (fun K hK => ?_)
      rw [if_pos (show Region.wanted _ _ = true by kernel_rfl)]
      refine wp_store_mid 65 _ _ rfl gb 0 #[.slice (some ⟨b7, 0, none⟩) 0 0, .slice (some ⟨b8, 0, none⟩) 0 0, .int .i64 jp, .int .i64 on, .slice A16 next.length c16] rfl rfl (row_there (st.hg gb (by simp)) 5 (by decide)) size_block (by simp [Value.oneCell']) ?_
      rw [set5_eq]
      have R5 := row_far5 st.Rb st.gne
      refine hK.out _ _ ?_ (fun hHeld => ?_)
      · exact ⟨(R5 _ _ _ _ _).cell 2, (R5 _ _ _ _ _).cell 3, (R5 _ _ _ _ _).cell 4⟩
      clear hK K
      try simp only [ap]
      refine wpAnyH_done (by kernel_rfl) ?_ _
      go_wp2_with fail
      go_meet
      exact st.fin jp on
    obtain ⟨A16, c16, f4, wq, r9, st⟩ := st.ap ⟨a6, 0, none⟩ (h4.below st.hbl hB) hl4
    rw [if_pos (show Region.wanted _ _ = true by kernel_rfl)]
    refine Lib.wp_append_run_sl _ _ _ 63 rfl _ _ rfl rfl r9 ?_
    clear r9
    obtain ⟨wd, hwd⟩ : ∃ x, x = wq := ⟨_, rfl⟩
    subst hwd
    refine hK.out _ _ ?_ (fun hHeld => ?_)
    · exact ⟨st.Rb.cell 2, st.Rb.cell 3, st.Rb.cell 4⟩
    clear hK K
    try simp only [ap]
    refine reg_call2 (i := 0) (j := 1) (by kernel_rfl) rfl rfl (fun K hK => ?_) (fun K hK => ?_)
    · go_simp
      replace st := st.a0
      generalize wd.heap.size = b7 at st ⊢
      generalize wd.alloc (.cells #[] 69) = wd at st ⊢
      refine hK.out _ _ ?_ (fun hHeld => ?_)
      · exact ⟨st.Rb.cell 2, st.Rb.cell 3, st.Rb.cell 4⟩
      clear hK K
      try simp only [ap]
      refine reg_call (i := 1) (by kernel_rfl) rfl (fun K hK => ?_)
      go_simp
      replace st := st.a1
      generalize wd.heap.size = b8 at st ⊢
      generalize wd.alloc (.cells #[] 72) = wd at st ⊢
      refine hK.out _ _ ?_ (fun hHeld => ?_)
      · exact ⟨st.Rb.cell 2, st.Rb.cell 3, st.Rb.cell 4⟩
      clear hK K
      try simp only [ap]
      refine tk (i := 10) ?_
      try simp only [ap]
      refine reg_call (i := 12) (by kernel_rfl) rfl (fun K hK => ?_)
      rw [if_pos (show Region.wanted _ _ = true by kernel_rfl)]
      refine wp_store_mid 65 _ _ rfl gb 0 #[.slice (some ⟨b7, 0, none⟩) 0 0, .slice (some ⟨b8, 0, none⟩) 0 0, .int .i64 jp, .int .i64 on, .slice A16 next.length c16] rfl rfl (row_there (st.hg gb (by simp)) 5 (by decide)) size_block (by simp [Value.oneCell']) ?_
      rw [set5_eq]
      have R5 := row_far5 st.Rb st.gne
      refine hK.out _ _ ?_ (fun hHeld => ?_)
      · exact ⟨(R5 _ _ _ _ _).cell 2, (R5 _ _ _ _ _).cell 3, (R5 _ _ _ _ _).cell 4⟩
      clear hK K
      try simp only [ap]
      refine wpAnyH_done (by kernel_rfl) ?_ _
      go_wp2_with fail
      go_meet
      exact st.fin jp on
    go_simp
    replace st := st.a1
    generalize wd.heap.size = b8 at st ⊢
    generalize wd.alloc (.cells #[] 72) = wd at st ⊢
    refine hK.out _ _ ?_ (fun hHeld => ?_)
    · exact ⟨st.Rb.cell 2, st.Rb.cell 3, st.Rb.cell 4⟩
    clear hK K
    try simp only [ap]
    refine reg_call (i := 0) (by kernel_rfl) rfl (fun K hK => ?_)
    go_simp
    replace st := st.a0
    generalize wd.heap.size = b7 at st ⊢
    generalize wd.alloc (.cells #[] 69) = wd at st ⊢
    refine hK.out _ _ ?_ (fun hHeld => ?_)
    · exact ⟨st.Rb.cell 2, st.Rb.cell 3, st.Rb.cell 4⟩
    clear hK K
    try simp only [ap]
    refine tk (i := 10) ?_
    try simp only [ap]
    refine reg_call (i := 12) (by kernel_rfl) rfl (fun K hK => ?_)
    rw [if_pos (show Region.wanted _ _ = true by kernel_rfl)]
    refine wp_store_mid 65 _ _ rfl gb 0 #[.slice (some ⟨b7, 0, none⟩) 0 0, .slice (some ⟨b8, 0, none⟩) 0 0, .int .i64 jp, .int .i64 on, .slice A16 next.length c16] rfl rfl (row_there (st.hg gb (by simp)) 5 (by decide)) size_block (by simp [Value.oneCell']) ?_
    rw [set5_eq]
    have R5 := row_far5 st.Rb st.gne
    refine hK.out _ _ ?_ (fun hHeld => ?_)
    · exact ⟨(R5 _ _ _ _ _).cell 2, (R5 _ _ _ _ _).cell 3, (R5 _ _ _ _ _).cell 4⟩
    clear hK K
    try simp only [ap]
    refine wpAnyH_done (by kernel_rfl) ?_ _
    go_wp2_with fail
    go_meet
    exact st.fin jp on
  case rest =>
    clear st w1
    obtain ⟨gb, b7, b8, A16, c16, f4, rfl, st, R7, hfp, R8, h8, t4, hn4⟩ := hcut
    obtain ⟨wx, hwx⟩ : ∃ x, x = wc := ⟨_, rfl⟩
    subst hwx
    go_wp2_with fail
    go_loopw [4] (fun u wr => ∃ (e : Nat) (A7 : Option Addr) (c7 : Nat) (fp : List Nat), u = .int .i64 (e : Int) ∧ e ≤ phis.length ∧ S2 65 w wx wr #[.slice A0 phis.length p0, .slice A1 ins.length p1, .int .i64 jp, .int .i64 on, .slice A4 next.length p4] #[.slice none 0 0, .slice none 0 0, .int .i64 0, .int .i64 0, .slice none 0 0] gb #[.slice A7 e c7, .slice (some ⟨b8, 0, none⟩) 0 0, .int .i64 jp, .int .i64 on, .slice A16 next.length c16] (b8 :: f4) [] ∧ OwF phF 69 wr (w.heap.size + 2) fp (phis.take e) (.slice A7 e c7) ∧ Hid (FP w gb (b8 :: f4) fp)) (fun u _ => phis.length - (intOf u).toNat)
    case atStart => exact ⟨0, some ⟨b7, 0, none⟩, 0, [b7], rfl, by omega, st, OwF.row0 R7 (hfp.2 b7 (by simp)).1, Lib.hid hfp⟩
    case round =>
      clear st R7 hfp
      obtain ⟨e, A7, c7, fp, rfl, he, st, own, hfp⟩ := hrel
      have x0 : wr.cell? ⟨w.heap.size, 0, none⟩ = some (.slice A0 phis.length p0) := st.Rb.cell 0
      by_cases hen : e < phis.length
      case pos =>
        obtain ⟨bP, oP, tg, args, va, rfl, hlP, hbP, HL, ht, ha, q0, q1⟩ := phi_get h0 hen
        have hbW : bP < w.heap.size := by omega
        obtain ⟨Aa, ca, hf, _, _⟩ := ha.form
        change _ = Value.slice Aa args.length ca at hf
        subst hf
        have hla : args.length ≤ 1048576 := hlp.out ⟨tg, args⟩ (HL.out ▸ List.getElem_mem hen)
        have EL : Hid (phis.take (e + 1) = phis.take e ++ [⟨tg, args⟩]) := by
          show _ = _
          rw [List.take_succ_eq_append_getElem hen, HL.out]
        have htk : Hid ((phis.take e).length = e) := by
          show _ = _
          simp
          omega
        have hen1 : (e : Int) < (phis.length : Int) := by omega
        have s := S3.begin st own hfp.out
        obtain ⟨nr, hnr⟩ : ∃ x, x = wr.heap.size := ⟨_, rfl⟩
        rw [← hnr] at s
        clear st own hnr
        go_wp2_with fail
        clear x0
        refine wp_region_held_drew (S := fun w' => (w'.cell? ⟨w.heap.size, 0, none⟩ = some (.slice (some ⟨bP, oP, none⟩) phis.length p0) ∧ w'.cell? ⟨bP, oP + e * 2, none⟩ = some (.int .i64 tg) ∧ w'.cell? ⟨bP, oP + e * 2 + 1, none⟩ = some (.slice Aa args.length ca))) (by kernel_rfl) ?_ (fun hHeld => ?_)
        · exact ⟨s.st.Rb.cell 0, s.st.old hbW q0, s.st.old hbW q1⟩
        replace s := s.drew
        generalize wr.drew = wd at hHeld s ⊢
        refine tk (i := 0) ?_
        try simp only [ap]
        refine tk (i := 2) ?_
        try simp only [ap]
        refine tk (i := 3) ?_
        try simp only [ap]
        refine tk (i := 4) ?_
        try simp only [ap]
        refine tk (i := 5) ?_
        try simp only [ap]
        refine tk (i := 6) ?_
        try simp only [ap]
        refine tk (i := 7) ?_
        try simp only [ap]
        refine tk (i := 9) ?_
        try simp only [ap]
        refine tk (i := 10) ?_
        try simp only [ap]
        refine tk (i := 11) ?_
        try simp only [ap]
        refine tk (i := 12) ?_
        try simp only [ap]
        refine tk (i := 13) ?_
        try simp only [ap]
        refine tk (i := 14) ?_
        try simp only [ap]
        refine reg_call2 (i := 1) (j := 8) (by kernel_rfl) rfl rfl (fun K hK => ?_) (fun K hK => ?_)
        · have k1 : wd.cell? ⟨gb, 0, none⟩ = some (.slice A7 e c7) := s.st.Rg.cell 0
          go_simp
          refine hK.out _ _ ?_ (fun hHeld => ?_)
          · exact ⟨s.st.Rb.cell 0, s.st.old hbW q0, s.st.old hbW q1⟩
          clear hK K
          try simp only [ap]
          refine reg_call (i := 8) (by kernel_rfl) rfl (fun K hK => ?_)
          go_simp
          replace s := s.al (.cells #[] 3)
          generalize wd.heap.size = a6
          generalize wd.alloc (.cells #[] 3) = wd at s ⊢
          refine hK.out _ _ ?_ (fun hHeld => ?_)
          · exact ⟨s.st.Rb.cell 0, s.st.old hbW q0, s.st.old hbW q1⟩
          clear hK K
          try simp only [ap]
          refine reg_call (i := 15) (by kernel_rfl) rfl (fun K hK => ?_)
          obtain ⟨Aq, cq, fq, wq, r9, s⟩ := s.ap ⟨a6, 0, none⟩ (ha.below s.st.hbl hB) hla
          rw [if_pos (show Region.wanted _ _ = true by kernel_rfl)]
          refine Lib.wp_append_run_sl _ _ _ 63 rfl _ _ rfl rfl r9 ?_
          clear r9
          obtain ⟨wd, hwd⟩ : ∃ x, x = wq := ⟨_, rfl⟩
          subst hwd
          refine hK.out _ _ ?_ (fun hHeld => ?_)
          · exact ⟨s.s.st.Rb.cell 0, s.s.st.old hbW q0, s.s.st.old hbW q1⟩
          clear hK K
          try simp only [ap]
          refine tk (i := 16) ?_
          try simp only [ap]
          refine reg_call (i := 17) (by kernel_rfl) rfl (fun K hK => ?_)
          go_simp
          have sR := (s.al (.cells #[.int .i64 tg, .slice Aq args.length cq] 69)).s.st
          refine hK.out _ _ ?_ (fun hHeld => ?_)
          · exact ⟨sR.Rb.cell 0, sR.old hbW q0, sR.old hbW q1⟩
          clear hK K
          try simp only [ap]
          refine reg_call (i := 18) (by kernel_rfl) rfl (fun K hK => ?_)
          obtain ⟨A10, c10, w9, fp', r9, st9, own9, hfp9⟩ := s.app_phi htk.out ht (by omega)
          rw [if_pos (show Region.wanted _ _ = true by kernel_rfl)]
          refine Lib.wp_append_run_sl _ _ _ 61 rfl _ _ rfl rfl r9 ?_
          clear r9
          have k9 : w9.cell? ⟨gb, 0, none⟩ = some (.slice A7 e c7) := st9.Rg.cell 0
          have f9 : w9.frozen? ⟨gb, 0, none⟩ = false := st9.Rg.frozen 0
          refine hK.out _ _ ?_ (fun hHeld => ?_)
          · exact ⟨st9.Rb.cell 0, st9.old hbW q0, st9.old hbW q1⟩
          clear hK K
          try simp only [ap]
          refine tk (i := 19) ?_
          try simp only [ap]
          refine reg_call (i := 20) (by kernel_rfl) rfl (fun K hK => ?_)
          obtain ⟨st10, own10⟩ := st9.store own9 hfp9 0 (.slice A10 (e + 1) c10)
          go_simp
          refine hK.out _ _ ?_ (fun hHeld => ?_)
          · exact ⟨st10.Rb.cell 0, st10.old hbW q0, st10.old hbW q1⟩
          clear hK K
          try simp only [ap]
          refine wpAnyH_done (by kernel_rfl) ?_ _
          rw [← EL.out] at own10
          go_wp2_with fail
          go_roundw
          case rel => exact ⟨e + 1, A10, c10, fp', by go_num, by omega, st10, own10, Lib.hid hfp9⟩
          case measure => simp [intOf]; omega
        go_simp
        replace s := s.al (.cells #[] 3)
        generalize wd.heap.size = a6
        generalize wd.alloc (.cells #[] 3) = wd at s ⊢
        refine hK.out _ _ ?_ (fun hHeld => ?_)
        · exact ⟨s.st.Rb.cell 0, s.st.old hbW q0, s.st.old hbW q1⟩
        clear hK K
        try simp only [ap]
        refine reg_call2 (i := 1) (j := 15) (by kernel_rfl) rfl rfl (fun K hK => ?_) (fun K hK => ?_)
        · have k1 : wd.cell? ⟨gb, 0, none⟩ = some (.slice A7 e c7) := s.st.Rg.cell 0
          go_simp
          refine hK.out _ _ ?_ (fun hHeld => ?_)
          · exact ⟨s.st.Rb.cell 0, s.st.old hbW q0, s.st.old hbW q1⟩
          clear hK K
          try simp only [ap]
          refine reg_call (i := 15) (by kernel_rfl) rfl (fun K hK => ?_)
          obtain ⟨Aq, cq, fq, wq, r9, s⟩ := s.ap ⟨a6, 0, none⟩ (ha.below s.st.hbl hB) hla
          rw [if_pos (show Region.wanted _ _ = true by kernel_rfl)]
          refine Lib.wp_append_run_sl _ _ _ 63 rfl _ _ rfl rfl r9 ?_
          clear r9
          obtain ⟨wd, hwd⟩ : ∃ x, x = wq := ⟨_, rfl⟩
          subst hwd
          refine hK.out _ _ ?_ (fun hHeld => ?_)
          · exact ⟨s.s.st.Rb.cell 0, s.s.st.old hbW q0, s.s.st.old hbW q1⟩
          clear hK K
          try simp only [ap]
          refine tk (i := 16) ?_
          try simp only [ap]
          refine reg_call (i := 17) (by kernel_rfl) rfl (fun K hK => ?_)
          go_simp
          have sR := (s.al (.cells #[.int .i64 tg, .slice Aq args.length cq] 69)).s.st
          refine hK.out _ _ ?_ (fun hHeld => ?_)
          · exact ⟨sR.Rb.cell 0, sR.old hbW q0, sR.old hbW q1⟩
          clear hK K
          try simp only [ap]
          refine reg_call (i := 18) (by kernel_rfl) rfl (fun K hK => ?_)
          obtain ⟨A10, c10, w9, fp', r9, st9, own9, hfp9⟩ := s.app_phi htk.out ht (by omega)
          rw [if_pos (show Region.wanted _ _ = true by kernel_rfl)]
          refine Lib.wp_append_run_sl _ _ _ 61 rfl _ _ rfl rfl r9 ?_
          clear r9
          have k9 : w9.cell? ⟨gb, 0, none⟩ = some (.slice A7 e c7) := st9.Rg.cell 0
          have f9 : w9.frozen? ⟨gb, 0, none⟩ = false := st9.Rg.frozen 0
          refine hK.out _ _ ?_ (fun hHeld => ?_)
          · exact ⟨st9.Rb.cell 0, st9.old hbW q0, st9.old hbW q1⟩
          clear hK K
          try simp only [ap]
          refine tk (i := 19) ?_
          try simp only [ap]
          refine reg_call (i := 20) (by kernel_rfl) rfl (fun K hK => ?_)
          obtain ⟨st10, own10⟩ := st9.store own9 hfp9 0 (.slice A10 (e + 1) c10)
          go_simp
          refine hK.out _ _ ?_ (fun hHeld => ?_)
          · exact ⟨st10.Rb.cell 0, st10.old hbW q0, st10.old hbW q1⟩
          clear hK K
          try simp only [ap]
          refine wpAnyH_done (by kernel_rfl) ?_ _
          rw [← EL.out] at own10
          go_wp2_with fail
          go_roundw
          case rel => exact ⟨e + 1, A10, c10, fp', by go_num, by omega, st10, own10, Lib.hid hfp9⟩
          case measure => simp [intOf]; omega
        obtain ⟨Aq, cq, fq, wq, r9, s⟩ := s.ap ⟨a6, 0, none⟩ (ha.below s.st.hbl hB) hla
        rw [if_pos (show Region.wanted _ _ = true by kernel_rfl)]
        refine Lib.wp_append_run_sl _ _ _ 63 rfl _ _ rfl rfl r9 ?_
        clear r9
        obtain ⟨wd, hwd⟩ : ∃ x, x = wq := ⟨_, rfl⟩
        subst hwd
        refine hK.out _ _ ?_ (fun hHeld => ?_)
        · exact ⟨s.s.st.Rb.cell 0, s.s.st.old hbW q0, s.s.st.old hbW q1⟩
        clear hK K
        try simp only [ap]
        refine tk (i := 16) ?_
        try simp only [ap]
        refine reg_call2 (i := 1) (j := 17) (by kernel_rfl) rfl rfl (fun K hK => ?_) (fun K hK => ?_)
        · have k1 : wd.cell? ⟨gb, 0, none⟩ = some (.slice A7 e c7) := s.s.st.Rg.cell 0
          go_simp
          refine hK.out _ _ ?_ (fun hHeld => ?_)
          · exact ⟨s.s.st.Rb.cell 0, s.s.st.old hbW q0, s.s.st.old hbW q1⟩
          clear hK K
          try simp only [ap]
          refine reg_call (i := 17) (by kernel_rfl) rfl (fun K hK => ?_)
          go_simp
          have sR := (s.al (.cells #[.int .i64 tg, .slice Aq args.length cq] 69)).s.st
          refine hK.out _ _ ?_ (fun hHeld => ?_)
          · exact ⟨sR.Rb.cell 0, sR.old hbW q0, sR.old hbW q1⟩
          clear hK K
          try simp only [ap]
          refine reg_call (i := 18) (by kernel_rfl) rfl (fun K hK => ?_)
          obtain ⟨A10, c10, w9, fp', r9, st9, own9, hfp9⟩ := s.app_phi htk.out ht (by omega)
          rw [if_pos (show Region.wanted _ _ = true by kernel_rfl)]
          refine Lib.wp_append_run_sl _ _ _ 61 rfl _ _ rfl rfl r9 ?_
          clear r9
          have k9 : w9.cell? ⟨gb, 0, none⟩ = some (.slice A7 e c7) := st9.Rg.cell 0
          have f9 : w9.frozen? ⟨gb, 0, none⟩ = false := st9.Rg.frozen 0
          refine hK.out _ _ ?_ (fun hHeld => ?_)
          · exact ⟨st9.Rb.cell 0, st9.old hbW q0, st9.old hbW q1⟩
          clear hK K
          try simp only [ap]
          refine tk (i := 19) ?_
          try simp only [ap]
          refine reg_call (i := 20) (by kernel_rfl) rfl (fun K hK => ?_)
          obtain ⟨st10, own10⟩ := st9.store own9 hfp9 0 (.slice A10 (e + 1) c10)
          go_simp
          refine hK.out _ _ ?_ (fun hHeld => ?_)
          · exact ⟨st10.Rb.cell 0, st10.old hbW q0, st10.old hbW q1⟩
          clear hK K
          try simp only [ap]
          refine wpAnyH_done (by kernel_rfl) ?_ _
          rw [← EL.out] at own10
          go_wp2_with fail
          go_roundw
          case rel => exact ⟨e + 1, A10, c10, fp', by go_num, by omega, st10, own10, Lib.hid hfp9⟩
          case measure => simp [intOf]; omega
        go_simp
        have sR := (s.al (.cells #[.int .i64 tg, .slice Aq args.length cq] 69)).s.st
        refine hK.out _ _ ?_ (fun hHeld => ?_)
        · exact ⟨sR.Rb.cell 0, sR.old hbW q0, sR.old hbW q1⟩
        clear hK K
        try simp only [ap]
        refine reg_call (i := 1) (by kernel_rfl) rfl (fun K hK => ?_)
        have k1 : (wd.alloc (.cells #[.int .i64 tg, .slice Aq args.length cq] 69)).cell? ⟨gb, 0, none⟩ = some (.slice A7 e c7) := sR.Rg.cell 0
        go_simp
        refine hK.out _ _ ?_ (fun hHeld => ?_)
        · exact ⟨sR.Rb.cell 0, sR.old hbW q0, sR.old hbW q1⟩
        clear hK K
        try simp only [ap]
        refine reg_call (i := 18) (by kernel_rfl) rfl (fun K hK => ?_)
        obtain ⟨A10, c10, w9, fp', r9, st9, own9, hfp9⟩ := s.app_phi htk.out ht (by omega)
        rw [if_pos (show Region.wanted _ _ = true by kernel_rfl)]
        refine Lib.wp_append_run_sl _ _ _ 61 rfl _ _ rfl rfl r9 ?_
        clear r9
        have k9 : w9.cell? ⟨gb, 0, none⟩ = some (.slice A7 e c7) := st9.Rg.cell 0
        have f9 : w9.frozen? ⟨gb, 0, none⟩ = false := st9.Rg.frozen 0
        refine hK.out _ _ ?_ (fun hHeld => ?_)
        · exact ⟨st9.Rb.cell 0, st9.old hbW q0, st9.old hbW q1⟩
        clear hK K
        try simp only [ap]
        refine tk (i := 19) ?_
        try simp only [ap]
        refine reg_call (i := 20) (by kernel_rfl) rfl (fun K hK => ?_)
        obtain ⟨st10, own10⟩ := st9.store own9 hfp9 0 (.slice A10 (e + 1) c10)
        go_simp
        refine hK.out _ _ ?_ (fun hHeld => ?_)
        · exact ⟨st10.Rb.cell 0, st10.old hbW q0, st10.old hbW q1⟩
        clear hK K
        try simp only [ap]
        refine wpAnyH_done (by kernel_rfl) ?_ _
        rw [← EL.out] at own10
        go_wp2_with fail
        go_roundw
        case rel => exact ⟨e + 1, A10, c10, fp', by go_num, by omega, st10, own10, Lib.hid hfp9⟩
        case measure => simp [intOf]; omega
      have hen1 : ¬ (e : Int) < (phis.length : Int) := by omega
      obtain rfl : e = phis.length := by omega
      rw [List.take_length] at own
      obtain ⟨st2, own2, hfp2, tz, t4', hnd⟩ := st.next own hfp.out R8 h8 t4 hn4
      go_wp2_with fail
      clear x0 hen1 st own
      obtain ⟨wy, hwy⟩ : ∃ x, x = wr := ⟨_, rfl⟩
      subst hwy
      replace hnd := Lib.hid hnd
      clear hfp
      go_loopw [5] (fun u wr => ∃ (e : Nat) (A8 : Option Addr) (c8 : Nat) (fi : List Nat), u = .int .i64 (e : Int) ∧ e ≤ ins.length ∧ S2 65 w wy wr #[.slice A0 phis.length p0, .slice A1 ins.length p1, .int .i64 jp, .int .i64 on, .slice A4 next.length p4] #[.slice none 0 0, .slice none 0 0, .int .i64 0, .int .i64 0, .slice none 0 0] gb #[.slice A7 phis.length c7, .slice A8 e c8, .int .i64 jp, .int .i64 on, .slice A16 next.length c16] (fp ++ f4) [] ∧ OwF isF 72 wr (w.heap.size + 2) fi (ins.take e) (.slice A8 e c8) ∧ Hid (FP w gb (fp ++ f4) fi)) (fun u _ => ins.length - (intOf u).toNat)
      case atStart => exact ⟨0, some ⟨b8, 0, none⟩, 0, [b8], rfl, by omega, st2, own2, Lib.hid hfp2⟩
      case round =>
        clear st2 own2 hfp2
        obtain ⟨e, A8, c8, fi, rfl, he, st, own, hfi⟩ := hrel
        have x1 : wr.cell? ⟨w.heap.size, 1, none⟩ = some (.slice A1 ins.length p1) := st.Rb.cell 1
        by_cases hen : e < ins.length
        case neg =>
          have hen1 : ¬ (e : Int) < (ins.length : Int) := by omega
          obtain rfl : e = ins.length := by omega
          rw [List.take_length] at own
          have F := Lib.hid (st.fin own hfi.out tz t4' hnd.out hj ho)
          have k0 : wr.cell? ⟨gb, 0, none⟩ = some (.slice A7 phis.length c7) := st.Rg.cell 0
          have k1 : wr.cell? ⟨gb, 1, none⟩ = some (.slice A8 ins.length c8) := st.Rg.cell 1
          have k2 : wr.cell? ⟨gb, 2, none⟩ = some (.int .i64 jp) := st.Rg.cell 2
          have k3 : wr.cell? ⟨gb, 3, none⟩ = some (.int .i64 on) := st.Rg.cell 3
          have k4 : wr.cell? ⟨gb, 4, none⟩ = some (.slice A16 next.length c16) := st.Rg.cell 4
          have s0 : wr.cell? ⟨w.heap.size + 1, 0, none⟩ = some (.slice none 0 0) := st.RR.cell 0
          have s1 : wr.cell? ⟨w.heap.size + 1, 1, none⟩ = some (.slice none 0 0) := st.RR.cell 1
          have s2 : wr.cell? ⟨w.heap.size + 1, 2, none⟩ = some (.int .i64 0) := st.RR.cell 2
          have s3 : wr.cell? ⟨w.heap.size + 1, 3, none⟩ = some (.int .i64 0) := st.RR.cell 3
          have s4 : wr.cell? ⟨w.heap.size + 1, 4, none⟩ = some (.slice none 0 0) := st.RR.cell 4
          have sf0 : wr.frozen? ⟨w.heap.size + 1, 0, none⟩ = false := st.RR.frozen 0
          have sf1 : wr.frozen? ⟨w.heap.size + 1, 1, none⟩ = false := st.RR.frozen 1
          have sf2 : wr.frozen? ⟨w.heap.size + 1, 2, none⟩ = false := st.RR.frozen 2
          have sf3 : wr.frozen? ⟨w.heap.size + 1, 3, none⟩ = false := st.RR.frozen 3
          have sf4 : wr.frozen? ⟨w.heap.size + 1, 4, none⟩ = false := st.RR.frozen 4
          clear st own tz t4'
          go_wp2_with fail
          refine bodyPost_ret (v := .agg #[.slice A7 phis.length c7, .slice A8 ins.length c8, .int .i64 jp, .int .i64 on, .slice A16 next.length c16]) (by simp [results, Try.results97, go_sem, s0, s1, s2, s3, s4]) rfl F.out
        obtain ⟨bP, oP, op, tg, args, va, n, rfl, hlP, hbP, HL, hop, ht, ha, hn, q0, q1, q2, q3⟩ := ins_get h1 hen
        have hbW : bP < w.heap.size := by omega
        obtain ⟨Aa, ca, hf, _, _⟩ := ha.form
        change _ = Value.slice Aa args.length ca at hf
        subst hf
        have hla : args.length ≤ 1048576 := hli.out ⟨op, tg, args, n⟩ (HL.out ▸ List.getElem_mem hen)
        have EL : Hid (ins.take (e + 1) = ins.take e ++ [⟨op, tg, args, n⟩]) := by
          show _ = _
          rw [List.take_succ_eq_append_getElem hen, HL.out]
        have htk : Hid ((ins.take e).length = e) := by
          show _ = _
          simp
          omega
        have hen1 : (e : Int) < (ins.length : Int) := by omega
        have y0 : wr.cell? ⟨bP, oP + e * 4, none⟩ = some (.int .i64 op) := st.old hbW q0
        have y1 : wr.cell? ⟨bP, oP + e * 4 + 1, none⟩ = some (.int .i64 tg) := st.old hbW q1
        have y2 : wr.cell? ⟨bP, oP + e * 4 + 2, none⟩ = some (.slice Aa args.length ca) := st.old hbW q2
        have y3 : wr.cell? ⟨bP, oP + e * 4 + 3, none⟩ = some (.int .i64 n) := st.old hbW q3
        have s := (S3.begin st own hfi.out).row 72 #[.int .i64 op, .int .i64 tg, .slice Aa args.length ca, .int .i64 n]
        clear st own
        go_upto_region 10 with fail
        clear x1 y0 y1 y2 y3
        generalize wr.alloc (.cells #[.int .i64 op, .int .i64 tg, .slice Aa args.length ca, .int .i64 n] 72) = wq at s ⊢
        generalize wr.heap.size = gx at s ⊢
        clear wr
        obtain ⟨wr, hwr⟩ : ∃ x, x = wq := ⟨_, rfl⟩
        subst hwr
        refine wp_region_held_drew (S := fun w' => (w'.cell? ⟨gx, 0, none⟩ = some (.int .i64 op) ∧ w'.cell? ⟨gx, 1, none⟩ = some (.int .i64 tg) ∧ w'.cell? ⟨gx, 2, none⟩ = some (.slice Aa args.length ca) ∧ w'.cell? ⟨gx, 3, none⟩ = some (.int .i64 n))) (by kernel_rfl) ?_ (fun hHeld => ?_)
        · exact ⟨s.st.x1.cell 0, s.st.x1.cell 1, s.st.x1.cell 2, s.st.x1.cell 3⟩
        replace s := s.drew
        generalize wr.drew = wd at hHeld s ⊢
        refine tk (i := 0) ?_
        try simp only [ap]
        refine tk (i := 2) ?_
        try simp only [ap]
        refine tk (i := 3) ?_
        try simp only [ap]
        refine tk (i := 4) ?_
        try simp only [ap]
        refine tk (i := 5) ?_
        try simp only [ap]
        refine tk (i := 7) ?_
        try simp only [ap]
        refine tk (i := 8) ?_
        try simp only [ap]
        refine tk (i := 10) ?_
        try simp only [ap]
        refine tk (i := 11) ?_
        try simp only [ap]
        refine reg_call2 (i := 1) (j := 6) (by kernel_rfl) rfl rfl (fun K hK => ?_) (fun K hK => ?_)
        · have k1 : wd.cell? ⟨gb, 1, none⟩ = some (.slice A8 e c8) := s.st.Rg.cell 1
          go_simp
          refine hK.out _ _ ?_ (fun hHeld => ?_)
          · exact ⟨s.st.x1.cell 0, s.st.x1.cell 1, s.st.x1.cell 2, s.st.x1.cell 3⟩
          clear hK K
          try simp only [ap]
          refine reg_call (i := 6) (by kernel_rfl) rfl (fun K hK => ?_)
          go_simp
          replace s := s.al (.cells #[] 3)
          generalize wd.heap.size = a6
          generalize wd.alloc (.cells #[] 3) = wd at s ⊢
          refine hK.out _ _ ?_ (fun hHeld => ?_)
          · exact ⟨s.st.x1.cell 0, s.st.x1.cell 1, s.st.x1.cell 2, s.st.x1.cell 3⟩
          clear hK K
          try simp only [ap]
          refine reg_call (i := 9) (by kernel_rfl) rfl (fun K hK => ?_)
          obtain ⟨Aq, cq, fq, wq, r9, s⟩ := s.ap ⟨a6, 0, none⟩ (ha.below s.st.hbl hB) hla
          rw [if_pos (show Region.wanted _ _ = true by kernel_rfl)]
          refine Lib.wp_append_run_sl _ _ _ 63 rfl _ _ rfl rfl r9 ?_
          clear r9
          obtain ⟨wd, hwd⟩ : ∃ x, x = wq := ⟨_, rfl⟩
          subst hwd
          refine hK.out _ _ ?_ (fun hHeld => ?_)
          · exact ⟨s.s.st.x1.cell 0, s.s.st.x1.cell 1, s.s.st.x1.cell 2, s.s.st.x1.cell 3⟩
          clear hK K
          try simp only [ap]
          refine tk (i := 12) ?_
          try simp only [ap]
          refine reg_call (i := 13) (by kernel_rfl) rfl (fun K hK => ?_)
          go_simp
          have sR := (s.al (.cells #[.int .i64 op, .int .i64 tg, .slice Aq args.length cq, .int .i64 n] 72)).s.st
          refine hK.out _ _ ?_ (fun hHeld => ?_)
          · exact ⟨sR.x1.cell 0, sR.x1.cell 1, sR.x1.cell 2, sR.x1.cell 3⟩
          clear hK K
          try simp only [ap]
          refine reg_call (i := 14) (by kernel_rfl) rfl (fun K hK => ?_)
          obtain ⟨A10, c10, w9, fp', r9, st9, own9, hfp9⟩ := s.app_ins htk.out hop ht hn (by omega)
          rw [if_pos (show Region.wanted _ _ = true by kernel_rfl)]
          refine Lib.wp_append_run_sl _ _ _ 62 rfl _ _ rfl rfl r9 ?_
          clear r9
          have k9 : w9.cell? ⟨gb, 1, none⟩ = some (.slice A8 e c8) := st9.Rg.cell 1
          have f9 : w9.frozen? ⟨gb, 1, none⟩ = false := st9.Rg.frozen 1
          refine hK.out _ _ ?_ (fun hHeld => ?_)
          · exact ⟨st9.x1.cell 0, st9.x1.cell 1, st9.x1.cell 2, st9.x1.cell 3⟩
          clear hK K
          try simp only [ap]
          refine tk (i := 15) ?_
          try simp only [ap]
          refine reg_call (i := 16) (by kernel_rfl) rfl (fun K hK => ?_)
          obtain ⟨st10, own10⟩ := st9.store own9 hfp9 1 (.slice A10 (e + 1) c10)
          go_simp
          refine hK.out _ _ ?_ (fun hHeld => ?_)
          · exact ⟨st10.x1.cell 0, st10.x1.cell 1, st10.x1.cell 2, st10.x1.cell 3⟩
          clear hK K
          try simp only [ap]
          refine wpAnyH_done (by kernel_rfl) ?_ _
          rw [← EL.out] at own10
          go_wp2_with fail
          go_roundw
          case rel => exact ⟨e + 1, A10, c10, fp', by go_num, by omega, st10.cut, own10, Lib.hid hfp9⟩
          case measure => simp [intOf]; omega
        go_simp
        replace s := s.al (.cells #[] 3)
        generalize wd.heap.size = a6
        generalize wd.alloc (.cells #[] 3) = wd at s ⊢
        refine hK.out _ _ ?_ (fun hHeld => ?_)
        · exact ⟨s.st.x1.cell 0, s.st.x1.cell 1, s.st.x1.cell 2, s.st.x1.cell 3⟩
        clear hK K
        try simp only [ap]
        refine reg_call2 (i := 1) (j := 9) (by kernel_rfl) rfl rfl (fun K hK => ?_) (fun K hK => ?_)
        · have k1 : wd.cell? ⟨gb, 1, none⟩ = some (.slice A8 e c8) := s.st.Rg.cell 1
          go_simp
          refine hK.out _ _ ?_ (fun hHeld => ?_)
          · exact ⟨s.st.x1.cell 0, s.st.x1.cell 1, s.st.x1.cell 2, s.st.x1.cell 3⟩
          clear hK K
          try simp only [ap]
          refine reg_call (i := 9) (by kernel_rfl) rfl (fun K hK => ?_)
          obtain ⟨Aq, cq, fq, wq, r9, s⟩ := s.ap ⟨a6, 0, none⟩ (ha.below s.st.hbl hB) hla
          rw [if_pos (show Region.wanted _ _ = true by kernel_rfl)]
          refine Lib.wp_append_run_sl _ _ _ 63 rfl _ _ rfl rfl r9 ?_
          clear r9
          obtain ⟨wd, hwd⟩ : ∃ x, x = wq := ⟨_, rfl⟩
          subst hwd
          refine hK.out _ _ ?_ (fun hHeld => ?_)
          · exact ⟨s.s.st.x1.cell 0, s.s.st.x1.cell 1, s.s.st.x1.cell 2, s.s.st.x1.cell 3⟩
          clear hK K
          try simp only [ap]
          refine tk (i := 12) ?_
          try simp only [ap]
          refine reg_call (i := 13) (by kernel_rfl) rfl (fun K hK => ?_)
          go_simp
          have sR := (s.al (.cells #[.int .i64 op, .int .i64 tg, .slice Aq args.length cq, .int .i64 n] 72)).s.st
          refine hK.out _ _ ?_ (fun hHeld => ?_)
          · exact ⟨sR.x1.cell 0, sR.x1.cell 1, sR.x1.cell 2, sR.x1.cell 3⟩
          clear hK K
          try simp only [ap]
          refine reg_call (i := 14) (by kernel_rfl) rfl (fun K hK => ?_)
          obtain ⟨A10, c10, w9, fp', r9, st9, own9, hfp9⟩ := s.app_ins htk.out hop ht hn (by omega)
          rw [if_pos (show Region.wanted _ _ = true by kernel_rfl)]
          refine Lib.wp_append_run_sl _ _ _ 62 rfl _ _ rfl rfl r9 ?_
          clear r9
          have k9 : w9.cell? ⟨gb, 1, none⟩ = some (.slice A8 e c8) := st9.Rg.cell 1
          have f9 : w9.frozen? ⟨gb, 1, none⟩ = false := st9.Rg.frozen 1
          refine hK.out _ _ ?_ (fun hHeld => ?_)
          · exact ⟨st9.x1.cell 0, st9.x1.cell 1, st9.x1.cell 2, st9.x1.cell 3⟩
          clear hK K
          try simp only [ap]
          refine tk (i := 15) ?_
          try simp only [ap]
          refine reg_call (i := 16) (by kernel_rfl) rfl (fun K hK => ?_)
          obtain ⟨st10, own10⟩ := st9.store own9 hfp9 1 (.slice A10 (e + 1) c10)
          go_simp
          refine hK.out _ _ ?_ (fun hHeld => ?_)
          · exact ⟨st10.x1.cell 0, st10.x1.cell 1, st10.x1.cell 2, st10.x1.cell 3⟩
          clear hK K
          try simp only [ap]
          refine wpAnyH_done (by kernel_rfl) ?_ _
          rw [← EL.out] at own10
          go_wp2_with fail
          go_roundw
          case rel => exact ⟨e + 1, A10, c10, fp', by go_num, by omega, st10.cut, own10, Lib.hid hfp9⟩
          case measure => simp [intOf]; omega
        obtain ⟨Aq, cq, fq, wq, r9, s⟩ := s.ap ⟨a6, 0, none⟩ (ha.below s.st.hbl hB) hla
        rw [if_pos (show Region.wanted _ _ = true by kernel_rfl)]
        refine Lib.wp_append_run_sl _ _ _ 63 rfl _ _ rfl rfl r9 ?_
        clear r9
        obtain ⟨wd, hwd⟩ : ∃ x, x = wq := ⟨_, rfl⟩
        subst hwd
        refine hK.out _ _ ?_ (fun hHeld => ?_)
        · exact ⟨s.s.st.x1.cell 0, s.s.st.x1.cell 1, s.s.st.x1.cell 2, s.s.st.x1.cell 3⟩
        clear hK K
        try simp only [ap]
        refine tk (i := 12) ?_
        try simp only [ap]
        refine reg_call2 (i := 1) (j := 13) (by kernel_rfl) rfl rfl (fun K hK => ?_) (fun K hK => ?_)
        · have k1 : wd.cell? ⟨gb, 1, none⟩ = some (.slice A8 e c8) := s.s.st.Rg.cell 1
          go_simp
          refine hK.out _ _ ?_ (fun hHeld => ?_)
          · exact ⟨s.s.st.x1.cell 0, s.s.st.x1.cell 1, s.s.st.x1.cell 2, s.s.st.x1.cell 3⟩
          clear hK K
          try simp only [ap]
          refine reg_call (i := 13) (by kernel_rfl) rfl (fun K hK => ?_)
          go_simp
          have sR := (s.al (.cells #[.int .i64 op, .int .i64 tg, .slice Aq args.length cq, .int .i64 n] 72)).s.st
          refine hK.out _ _ ?_ (fun hHeld => ?_)
          · exact ⟨sR.x1.cell 0, sR.x1.cell 1, sR.x1.cell 2, sR.x1.cell 3⟩
          clear hK K
          try simp only [ap]
          refine reg_call (i := 14) (by kernel_rfl) rfl (fun K hK => ?_)
          obtain ⟨A10, c10, w9, fp', r9, st9, own9, hfp9⟩ := s.app_ins htk.out hop ht hn (by omega)
          rw [if_pos (show Region.wanted _ _ = true by kernel_rfl)]
          refine Lib.wp_append_run_sl _ _ _ 62 rfl _ _ rfl rfl r9 ?_
          clear r9
          have k9 : w9.cell? ⟨gb, 1, none⟩ = some (.slice A8 e c8) := st9.Rg.cell 1
          have f9 : w9.frozen? ⟨gb, 1, none⟩ = false := st9.Rg.frozen 1
          refine hK.out _ _ ?_ (fun hHeld => ?_)
          · exact ⟨st9.x1.cell 0, st9.x1.cell 1, st9.x1.cell 2, st9.x1.cell 3⟩
          clear hK K
          try simp only [ap]
          refine tk (i := 15) ?_
          try simp only [ap]
          refine reg_call (i := 16) (by kernel_rfl) rfl (fun K hK => ?_)
          obtain ⟨st10, own10⟩ := st9.store own9 hfp9 1 (.slice A10 (e + 1) c10)
          go_simp
          refine hK.out _ _ ?_ (fun hHeld => ?_)
          · exact ⟨st10.x1.cell 0, st10.x1.cell 1, st10.x1.cell 2, st10.x1.cell 3⟩
          clear hK K
          try simp only [ap]
          refine wpAnyH_done (by kernel_rfl) ?_ _
          rw [← EL.out] at own10
          go_wp2_with fail
          go_roundw
          case rel => exact ⟨e + 1, A10, c10, fp', by go_num, by omega, st10.cut, own10, Lib.hid hfp9⟩
          case measure => simp [intOf]; omega
        go_simp
        have sR := (s.al (.cells #[.int .i64 op, .int .i64 tg, .slice Aq args.length cq, .int .i64 n] 72)).s.st
        refine hK.out _ _ ?_ (fun hHeld => ?_)
        · exact ⟨sR.x1.cell 0, sR.x1.cell 1, sR.x1.cell 2, sR.x1.cell 3⟩
        clear hK K
        try simp only [ap]
        refine reg_call (i := 1) (by kernel_rfl) rfl (fun K hK => ?_)
        have k1 : (wd.alloc (.cells #[.int .i64 op, .int .i64 tg, .slice Aq args.length cq, .int .i64 n] 72)).cell? ⟨gb, 1, none⟩ = some (.slice A8 e c8) := sR.Rg.cell 1
        go_simp
        refine hK.out _ _ ?_ (fun hHeld => ?_)
        · exact ⟨sR.x1.cell 0, sR.x1.cell 1, sR.x1.cell 2, sR.x1.cell 3⟩
        clear hK K
        try simp only [ap]
        refine reg_call (i := 14) (by kernel_rfl) rfl (fun K hK => ?_)
        obtain ⟨A10, c10, w9, fp', r9, st9, own9, hfp9⟩ := s.app_ins htk.out hop ht hn (by omega)
        rw [if_pos (show Region.wanted _ _ = true by kernel_rfl)]
        refine Lib.wp_append_run_sl _ _ _ 62 rfl _ _ rfl rfl r9 ?_
        clear r9
        have k9 : w9.cell? ⟨gb, 1, none⟩ = some (.slice A8 e c8) := st9.Rg.cell 1
        have f9 : w9.frozen? ⟨gb, 1, none⟩ = false := st9.Rg.frozen 1
        refine hK.out _ _ ?_ (fun hHeld => ?_)
        · exact ⟨st9.x1.cell 0, st9.x1.cell 1, st9.x1.cell 2, st9.x1.cell 3⟩
        clear hK K
        try simp only [ap]
        refine tk (i := 15) ?_
        try simp only [ap]
        refine reg_call (i := 16) (by kernel_rfl) rfl (fun K hK => ?_)
        obtain ⟨st10, own10⟩ := st9.store own9 hfp9 1 (.slice A10 (e + 1) c10)
        go_simp
        refine hK.out _ _ ?_ (fun hHeld => ?_)
        · exact ⟨st10.x1.cell 0, st10.x1.cell 1, st10.x1.cell 2, st10.x1.cell 3⟩
        clear hK K
        try simp only [ap]
        refine wpAnyH_done (by kernel_rfl) ?_ _
        rw [← EL.out] at own10
        go_wp2_with fail
        go_roundw
        case rel => exact ⟨e + 1, A10, c10, fp', by go_num, by omega, st10.cut, own10, Lib.hid hfp9⟩
        case measure => simp [intOf]; omega
end Go.Proofs.Ytgcjccoglcgcoaa
