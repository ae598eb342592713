/-
  The copy of a code, exact: l7Copy. Condition: the argument reads as data of small size.
-/
import Derived.Test.YtgcjccoglcgcoaaRegT
import Derived.Test.YtgcjccoglcgcoaaCpb
import Derived.Test.YtgcjccoglcgcoaaCln2
namespace Go.Proofs.Ytgcjccoglcgcoaa
open Go.RowKit Go.ChangeShapes Go.WideShapes Go.Deep
set_option linter.unusedVariables false
set_option linter.unusedSimpArgs false
set_option maxRecDepth 100000 in
set_option maxHeartbeats 8000000 in
theorem spec_l7Copy (params regs : Int) (blocks : List BlkD) (v2 : Value) (w : World) (lo B : Nat) (hB : B ≤ w.heap.size) (hl : codeN ⟨params, regs, blocks⟩ ≤ 1048576) (hi0 : I64 params) (hi1 : I64 regs) (h2 : Sl false (blkS false) w lo B blocks v2) :
    Calls Try.prog 68 #[.agg #[.int .i64 params, .int .i64 regs, v2]] w (ToF cdF ⟨params, regs, blocks⟩ w) := by
  have hl0 : blocks.length + sumBy blkN blocks ≤ 1048576 := hl
  have hlb : Hid (∀ a ∈ blocks, blkN a ≤ 1048576) := Lib.hid (fun a ha => by
    have := sumBy_mem blkN ha
    omega)
  have hl1 : blocks.length ≤ 1048576 := by omega
  clear hl hl0
  obtain ⟨A, p, hf, _, _⟩ := h2.form
  change _ = Value.slice A blocks.length p at hf
  subst hf
  go_enter Try.func68, Try.ntmps68
  go_upto_region 2 with fail
  have st : S2 39 w (((w.alloc (.cells #[.int .i64 params, .int .i64 regs, .slice A blocks.length p] 39)).alloc (.cells #[.int .i64 0, .int .i64 0, .slice none 0 0] 39)).alloc (.cells #[.int .i64 params, .int .i64 regs, .slice none 0 0] 39)) (((w.alloc (.cells #[.int .i64 params, .int .i64 regs, .slice A blocks.length p] 39)).alloc (.cells #[.int .i64 0, .int .i64 0, .slice none 0 0] 39)).alloc (.cells #[.int .i64 params, .int .i64 regs, .slice none 0 0] 39)) #[.int .i64 params, .int .i64 regs, .slice A blocks.length p] #[.int .i64 0, .int .i64 0, .slice none 0 0] (w.heap.size + 1 + 1) #[.int .i64 params, .int .i64 regs, .slice none 0 0] [] [] := ⟨(((Below.refl _ w).alloc (Nat.le_refl _) _).alloc (by simp) _).alloc (by simp; omega) _, ((Row.new w _ _).alloc _).alloc _, (by simpa using (Row.new (w.alloc (.cells #[.int .i64 params, .int .i64 regs, .slice A blocks.length p] 39)) 39 #[.int .i64 0, .int .i64 0, .slice none 0 0]).alloc (.cells #[.int .i64 params, .int .i64 regs, .slice none 0 0] 39)), (by simpa using Row.new ((w.alloc (.cells #[.int .i64 params, .int .i64 regs, .slice A blocks.length p] 39)).alloc (.cells #[.int .i64 0, .int .i64 0, .slice none 0 0] 39)) 39 #[.int .i64 params, .int .i64 regs, .slice none 0 0]), (by omega), (by simp), fun x hx => (by cases hx), fun x hx => (by cases hx)⟩
  generalize (((w.alloc (.cells #[.int .i64 params, .int .i64 regs, .slice A blocks.length p] 39)).alloc (.cells #[.int .i64 0, .int .i64 0, .slice none 0 0] 39)).alloc (.cells #[.int .i64 params, .int .i64 regs, .slice none 0 0] 39)) = wx at st ⊢
  go_wp2_with fail
  go_loopw [4] (fun u wr => ∃ (e : Nat) (A7 : Option Addr) (c7 : Nat) (fp : List Nat), u = .int .i64 (e : Int) ∧ e ≤ blocks.length ∧ S2 39 w wx wr #[.int .i64 params, .int .i64 regs, .slice A blocks.length p] #[.int .i64 0, .int .i64 0, .slice none 0 0] (w.heap.size + 1 + 1) #[.int .i64 params, .int .i64 regs, .slice A7 e c7] [] [] ∧ OwF bkF 65 wr (w.heap.size + 2) fp (blocks.take e) (.slice A7 e c7) ∧ Hid (FP w (w.heap.size + 1 + 1) [] fp)) (fun u _ => blocks.length - (intOf u).toNat)
  case atStart => exact ⟨0, none, 0, [], rfl, by omega, st, OwF.nil_ _ _ _ _, Lib.hid ⟨by simp, fun x hx => (by cases hx)⟩⟩
  case round =>
    clear st
    obtain ⟨e, A7, c7, fp, rfl, he, st, own, hfp⟩ := hrel
    have x0 : wr.cell? ⟨w.heap.size, 2, none⟩ = some (.slice A blocks.length p) := st.Rb.cell 2
    by_cases hen : e < blocks.length
    case neg =>
      have hen1 : ¬ (e : Int) < (blocks.length : Int) := by omega
      obtain rfl : e = blocks.length := by omega
      rw [List.take_length] at own
      have F := Lib.hid (fun (w8 : World) (n8 : Near w.heap.size 2 wr w8) => ToF.fin (k := 2) (show cdF.rep wr fp (⟨params, regs, blocks⟩ : CodeD) [.int .i64 params, .int .i64 regs, .slice A7 blocks.length c7] from ⟨_, rfl, hi0, hi1, own.sl⟩) hfp.out.1 (fun x hx => (hfp.out.2 x hx).1) st.hbl n8)
      have k0 : wr.cell? ⟨w.heap.size + 1 + 1, 0, none⟩ = some (.int .i64 params) := st.Rg.cell 0
      have k1 : wr.cell? ⟨w.heap.size + 1 + 1, 1, none⟩ = some (.int .i64 regs) := st.Rg.cell 1
      have k2 : wr.cell? ⟨w.heap.size + 1 + 1, 2, none⟩ = some (.slice A7 blocks.length c7) := st.Rg.cell 2
      have s0 : wr.cell? ⟨w.heap.size + 1, 0, none⟩ = some (.int .i64 0) := st.RR.cell 0
      have s1 : wr.cell? ⟨w.heap.size + 1, 1, none⟩ = some (.int .i64 0) := st.RR.cell 1
      have s2 : wr.cell? ⟨w.heap.size + 1, 2, none⟩ = some (.slice none 0 0) := st.RR.cell 2
      have sf0 : wr.frozen? ⟨w.heap.size + 1, 0, none⟩ = false := st.RR.frozen 0
      have sf1 : wr.frozen? ⟨w.heap.size + 1, 1, none⟩ = false := st.RR.frozen 1
      have sf2 : wr.frozen? ⟨w.heap.size + 1, 2, none⟩ = false := st.RR.frozen 2
      clear own st
      go_wp2_with fail
      refine bodyPost_ret (v := .agg #[.int .i64 params, .int .i64 regs, .slice A7 blocks.length c7]) (by simp [results, Try.results68, go_sem, s0, s1, s2]) rfl (F.out _ (by repeat' (first | exact Near.refl _ _ _ | refine Near.set ?_ (by show w.heap.size ≤ _; simp) (by show _ < w.heap.size + 2; simp) _)))
    obtain ⟨bS, oS, phis, v0, ins, v1, jp, on, next, v4, rfl, hlS, hbS, HL, g0, g1, g2, g3, g4, q0, q1, q2, q3, q4⟩ := blk_get h2 hen
    have hbW : bS < w.heap.size := by omega
    obtain ⟨A0, p0, hf, _, _⟩ := g0.form
    change _ = Value.slice A0 phis.length p0 at hf
    subst hf
    obtain ⟨A1, p1, hf, _, _⟩ := g1.form
    change _ = Value.slice A1 ins.length p1 at hf
    subst hf
    obtain ⟨A4, p4, hf, _, _⟩ := g4.form
    change _ = Value.slice A4 next.length p4 at hf
    subst hf
    have hmem : (⟨phis, ins, jp, on, next⟩ : BlkD) ∈ blocks := HL.out ▸ List.getElem_mem hen
    have EL : Hid (blocks.take (e + 1) = blocks.take e ++ [⟨phis, ins, jp, on, next⟩]) := by
      show _ = _
      rw [List.take_succ_eq_append_getElem hen, HL.out]
    have htk : Hid ((blocks.take e).length = e) := by
      show _ = _
      simp
      omega
    have hen1 : (e : Int) < (blocks.length : Int) := by omega
    have s := S3.begin st own hfp.out
    obtain ⟨nr, hnr⟩ : ∃ x, x = wr.heap.size := ⟨_, rfl⟩
    rw [← hnr] at s
    clear st own hnr
    go_wp2_with fail
    clear x0
    refine wp_region_held_drew (S := fun w' => (w'.cell? ⟨w.heap.size, 2, none⟩ = some (.slice (some ⟨bS, oS, none⟩) blocks.length p) ∧ w'.cell? ⟨bS, oS + e * 5, none⟩ = some (.slice A0 phis.length p0) ∧ w'.cell? ⟨bS, oS + e * 5 + 1, none⟩ = some (.slice A1 ins.length p1) ∧ w'.cell? ⟨bS, oS + e * 5 + 2, none⟩ = some (.int .i64 jp) ∧ w'.cell? ⟨bS, oS + e * 5 + 3, none⟩ = some (.int .i64 on) ∧ w'.cell? ⟨bS, oS + e * 5 + 4, none⟩ = some (.slice A4 next.length p4))) (by kernel_rfl) ?_ (fun hHeld => ?_)
    · exact ⟨s.st.Rb.cell 2, s.st.old hbW q0, s.st.old hbW q1, s.st.old hbW q2, s.st.old hbW q3, s.st.old hbW q4⟩
    replace s := s.drew
    generalize wr.drew = wd at hHeld s ⊢
    refine tk (i := 0) ?_
    try simp only [ap]
    refine tk (i := 2) ?_
    try simp only [ap]
    refine tk (i := 3) ?_
    try simp only [ap]
    refine tk (i := 4) ?_
    try simp only [ap]
    refine tk (i := 5) ?_
    try simp only [ap]
    refine tk (i := 6) ?_
    try simp only [ap]
    refine reg_call2 (i := 1) (j := 7) (by kernel_rfl) rfl rfl (fun K hK => ?_) (fun K hK => ?_)
    · have k1 : wd.cell? ⟨w.heap.size + 1 + 1, 2, none⟩ = some (.slice A7 e c7) := s.st.Rg.cell 2
      go_simp
      refine hK.out _ _ ?_ (fun hHeld => ?_)
      · exact ⟨s.st.Rb.cell 2, s.st.old hbW q0, s.st.old hbW q1, s.st.old hbW q2, s.st.old hbW q3, s.st.old hbW q4⟩
      clear hK K
      try simp only [ap]
      refine reg_call (i := 7) (by kernel_rfl) rfl (fun K hK => ?_)
      go_simp
      have hl' := hlb.out _ hmem
      refine (spec_l7CopyBlock phis _ ins _ jp on next _ wd lo B (by have := s.st.big; omega) hl' (g0.below s.st.hbl hB) (g1.below s.st.hbl hB) g2 g3 (g4.below s.st.hbl hB)).mono ?_
      rintro e_ w8 ⟨es, f, rfl, hr, hfn, hf, nb8⟩
      have hr' := hr
      obtain ⟨f0, f1, f2, x0, x1, x2, _, hcs, _, _, j0, j1, j2⟩ := hr'
      obtain ⟨B0, d0, hx0, _, _⟩ := (show SlF phF 69 w8 f0 phis x0 from j0).form
      obtain ⟨B1, d1, hx1, _, _⟩ := (show SlF isF 72 w8 f1 ins x1 from j1).form
      obtain ⟨B4, d4, hx4, _, _⟩ := (show SlF intF 3 w8 f2 next x2 from j2).form
      subst hx0
      subst hx1
      subst hx4
      change es = [.slice B0 phis.length d0, .slice B1 ins.length d1, .int .i64 jp, .int .i64 on, .slice B4 next.length d4] at hcs
      subst hcs
      replace s := s.made hr hfn hf nb8
      obtain ⟨wd, hwd⟩ : ∃ x, x = w8 := ⟨_, rfl⟩
      subst hwd
      clear hr hfn hf nb8 j0 j1 j2
      refine hK.out _ _ ?_ (fun hHeld => ?_)
      · exact ⟨s.s.st.Rb.cell 2, s.s.st.old hbW q0, s.s.st.old hbW q1, s.s.st.old hbW q2, s.s.st.old hbW q3, s.s.st.old hbW q4⟩
      clear hK K
      try simp only [ap]
      refine reg_call (i := 8) (by kernel_rfl) rfl (fun K hK => ?_)
      go_simp
      have sR := s.s.st.al (.cells #[.slice B0 phis.length d0, .slice B1 ins.length d1, .int .i64 jp, .int .i64 on, .slice B4 next.length d4] 65)
      refine hK.out _ _ ?_ (fun hHeld => ?_)
      · exact ⟨sR.Rb.cell 2, sR.old hbW q0, sR.old hbW q1, sR.old hbW q2, sR.old hbW q3, sR.old hbW q4⟩
      clear hK K
      try simp only [ap]
      refine reg_call (i := 9) (by kernel_rfl) rfl (fun K hK => ?_)
      obtain ⟨A10, c10, w9, fp', r9, st9, own9, hfp9⟩ := s.app_blk htk.out (by omega) (by intro u hu; simp at hu; rcases hu with rfl | rfl | rfl | rfl | rfl <;> rfl)
      rw [if_pos (show Region.wanted _ _ = true by kernel_rfl)]
      refine Lib.wp_append_run_sl _ _ _ 37 rfl _ _ rfl rfl r9 ?_
      clear r9
      have k9 : w9.cell? ⟨w.heap.size + 1 + 1, 2, none⟩ = some (.slice A7 e c7) := st9.Rg.cell 2
      have f9 : w9.frozen? ⟨w.heap.size + 1 + 1, 2, none⟩ = false := st9.Rg.frozen 2
      refine hK.out _ _ ?_ (fun hHeld => ?_)
      · exact ⟨st9.Rb.cell 2, st9.old hbW q0, st9.old hbW q1, st9.old hbW q2, st9.old hbW q3, st9.old hbW q4⟩
      clear hK K
      try simp only [ap]
      refine tk (i := 10) ?_
      try simp only [ap]
      refine reg_call (i := 11) (by kernel_rfl) rfl (fun K hK => ?_)
      obtain ⟨st10, own10⟩ := st9.store own9 hfp9 2 (.slice A10 (e + 1) c10)
      go_simp
      refine hK.out _ _ ?_ (fun hHeld => ?_)
      · exact ⟨st10.Rb.cell 2, st10.old hbW q0, st10.old hbW q1, st10.old hbW q2, st10.old hbW q3, st10.old hbW q4⟩
      clear hK K
      try simp only [ap]
      refine wpAnyH_done (by kernel_rfl) ?_ _
      rw [← EL.out] at own10
      go_wp2_with fail
      go_roundw
      case rel => exact ⟨e + 1, A10, c10, fp', by go_num, by omega, st10, own10, Lib.hid hfp9⟩
      case measure => simp [intOf]; omega
    go_simp
    have hl' := hlb.out _ hmem
    refine (spec_l7CopyBlock phis _ ins _ jp on next _ wd lo B (by have := s.st.big; omega) hl' (g0.below s.st.hbl hB) (g1.below s.st.hbl hB) g2 g3 (g4.below s.st.hbl hB)).mono ?_
    rintro e_ w8 ⟨es, f, rfl, hr, hfn, hf, nb8⟩
    have hr' := hr
    obtain ⟨f0, f1, f2, x0, x1, x2, _, hcs, _, _, j0, j1, j2⟩ := hr'
    obtain ⟨B0, d0, hx0, _, _⟩ := (show SlF phF 69 w8 f0 phis x0 from j0).form
    obtain ⟨B1, d1, hx1, _, _⟩ := (show SlF isF 72 w8 f1 ins x1 from j1).form
    obtain ⟨B4, d4, hx4, _, _⟩ := (show SlF intF 3 w8 f2 next x2 from j2).form
    subst hx0
    subst hx1
    subst hx4
    change es = [.slice B0 phis.length d0, .slice B1 ins.length d1, .int .i64 jp, .int .i64 on, .slice B4 next.length d4] at hcs
    subst hcs
    replace s := s.made hr hfn hf nb8
    obtain ⟨wd, hwd⟩ : ∃ x, x = w8 := ⟨_, rfl⟩
    subst hwd
    clear hr hfn hf nb8 j0 j1 j2
    refine hK.out _ _ ?_ (fun hHeld => ?_)
    · exact ⟨s.s.st.Rb.cell 2, s.s.st.old hbW q0, s.s.st.old hbW q1, s.s.st.old hbW q2, s.s.st.old hbW q3, s.s.st.old hbW q4⟩
    clear hK K
    try simp only [ap]
    refine reg_call2 (i := 1) (j := 8) (by kernel_rfl) rfl rfl (fun K hK => ?_) (fun K hK => ?_)
    · have k1 : wd.cell? ⟨w.heap.size + 1 + 1, 2, none⟩ = some (.slice A7 e c7) := s.s.st.Rg.cell 2
      go_simp
      refine hK.out _ _ ?_ (fun hHeld => ?_)
      · exact ⟨s.s.st.Rb.cell 2, s.s.st.old hbW q0, s.s.st.old hbW q1, s.s.st.old hbW q2, s.s.st.old hbW q3, s.s.st.old hbW q4⟩
      clear hK K
      try simp only [ap]
      refine reg_call (i := 8) (by kernel_rfl) rfl (fun K hK => ?_)
      go_simp
      have sR := s.s.st.al (.cells #[.slice B0 phis.length d0, .slice B1 ins.length d1, .int .i64 jp, .int .i64 on, .slice B4 next.length d4] 65)
      refine hK.out _ _ ?_ (fun hHeld => ?_)
      · exact ⟨sR.Rb.cell 2, sR.old hbW q0, sR.old hbW q1, sR.old hbW q2, sR.old hbW q3, sR.old hbW q4⟩
      clear hK K
      try simp only [ap]
      refine reg_call (i := 9) (by kernel_rfl) rfl (fun K hK => ?_)
      obtain ⟨A10, c10, w9, fp', r9, st9, own9, hfp9⟩ := s.app_blk htk.out (by omega) (by intro u hu; simp at hu; rcases hu with rfl | rfl | rfl | rfl | rfl <;> rfl)
      rw [if_pos (show Region.wanted _ _ = true by kernel_rfl)]
      refine Lib.wp_append_run_sl _ _ _ 37 rfl _ _ rfl rfl r9 ?_
      clear r9
      have k9 : w9.cell? ⟨w.heap.size + 1 + 1, 2, none⟩ = some (.slice A7 e c7) := st9.Rg.cell 2
      have f9 : w9.frozen? ⟨w.heap.size + 1 + 1, 2, none⟩ = false := st9.Rg.frozen 2
      refine hK.out _ _ ?_ (fun hHeld => ?_)
      · exact ⟨st9.Rb.cell 2, st9.old hbW q0, st9.old hbW q1, st9.old hbW q2, st9.old hbW q3, st9.old hbW q4⟩
      clear hK K
      try simp only [ap]
      refine tk (i := 10) ?_
      try simp only [ap]
      refine reg_call (i := 11) (by kernel_rfl) rfl (fun K hK => ?_)
      obtain ⟨st10, own10⟩ := st9.store own9 hfp9 2 (.slice A10 (e + 1) c10)
      go_simp
      refine hK.out _ _ ?_ (fun hHeld => ?_)
      · exact ⟨st10.Rb.cell 2, st10.old hbW q0, st10.old hbW q1, st10.old hbW q2, st10.old hbW q3, st10.old hbW q4⟩
      clear hK K
      try simp only [ap]
      refine wpAnyH_done (by kernel_rfl) ?_ _
      rw [← EL.out] at own10
      go_wp2_with fail
      go_roundw
      case rel => exact ⟨e + 1, A10, c10, fp', by go_num, by omega, st10, own10, Lib.hid hfp9⟩
      case measure => simp [intOf]; omega
    go_simp
    have sR := s.s.st.al (.cells #[.slice B0 phis.length d0, .slice B1 ins.length d1, .int .i64 jp, .int .i64 on, .slice B4 next.length d4] 65)
    refine hK.out _ _ ?_ (fun hHeld => ?_)
    · exact ⟨sR.Rb.cell 2, sR.old hbW q0, sR.old hbW q1, sR.old hbW q2, sR.old hbW q3, sR.old hbW q4⟩
    clear hK K
    try simp only [ap]
    refine reg_call (i := 1) (by kernel_rfl) rfl (fun K hK => ?_)
    have k1 : (wd.alloc (.cells #[.slice B0 phis.length d0, .slice B1 ins.length d1, .int .i64 jp, .int .i64 on, .slice B4 next.length d4] 65)).cell? ⟨w.heap.size + 1 + 1, 2, none⟩ = some (.slice A7 e c7) := sR.Rg.cell 2
    go_simp
    refine hK.out _ _ ?_ (fun hHeld => ?_)
    · exact ⟨sR.Rb.cell 2, sR.old hbW q0, sR.old hbW q1, sR.old hbW q2, sR.old hbW q3, sR.old hbW q4⟩
    clear hK K
    try simp only [ap]
    refine reg_call (i := 9) (by kernel_rfl) rfl (fun K hK => ?_)
    obtain ⟨A10, c10, w9, fp', r9, st9, own9, hfp9⟩ := s.app_blk htk.out (by omega) (by intro u hu; simp at hu; rcases hu with rfl | rfl | rfl | rfl | rfl <;> rfl)
    rw [if_pos (show Region.wanted _ _ = true by kernel_rfl)]
    refine Lib.wp_append_run_sl _ _ _ 37 rfl _ _ rfl rfl r9 ?_
    clear r9
    have k9 : w9.cell? ⟨w.heap.size + 1 + 1, 2, none⟩ = some (.slice A7 e c7) := st9.Rg.cell 2
    have f9 : w9.frozen? ⟨w.heap.size + 1 + 1, 2, none⟩ = false := st9.Rg.frozen 2
    refine hK.out _ _ ?_ (fun hHeld => ?_)
    · exact ⟨st9.Rb.cell 2, st9.old hbW q0, st9.old hbW q1, st9.old hbW q2, st9.old hbW q3, st9.old hbW q4⟩
    clear hK K
    try simp only [ap]
    refine tk (i := 10) ?_
    try simp only [ap]
    refine reg_call (i := 11) (by kernel_rfl) rfl (fun K hK => ?_)
    obtain ⟨st10, own10⟩ := st9.store own9 hfp9 2 (.slice A10 (e + 1) c10)
    go_simp
    refine hK.out _ _ ?_ (fun hHeld => ?_)
    · exact ⟨st10.Rb.cell 2, st10.old hbW q0, st10.old hbW q1, st10.old hbW q2, st10.old hbW q3, st10.old hbW q4⟩
    clear hK K
    try simp only [ap]
    refine wpAnyH_done (by kernel_rfl) ?_ _
    rw [← EL.out] at own10
    go_wp2_with fail
    go_roundw
    case rel => exact ⟨e + 1, A10, c10, fp', by go_num, by omega, st10, own10, Lib.hid hfp9⟩
    case measure => simp [intOf]; omega
end Go.Proofs.Ytgcjccoglcgcoaa
