/-
  TightUnit by the reference. Condition: the argument reads as data of small size.
-/
import Derived.Test.YtgcjccoglcgcoaaRegT
import Derived.Test.YtgcjccoglcgcoaaSti
import Derived.Test.YtgcjccoglcgcoaaTgu
namespace Go.Proofs.Ytgcjccoglcgcoaa
open Go.RowKit Go.ChangeShapes Go.WideShapes Go.Deep
set_option linter.unusedVariables false
set_option linter.unusedSimpArgs false
set_option maxRecDepth 100000 in
set_option maxHeartbeats 8000000 in
theorem spec_TightUnit (codes : List CodeD) (v : Value) (w : World) (lo B : Nat) (hB : B ≤ w.heap.size) (hN : codes.length + sumBy codeN codes ≤ 1048576) (h0 : Sl false (codeS false) w lo B codes v) :
    Calls Try.prog 6 #[.agg #[v]] w (TightP codes w) := by
  have hcn : Hid (∀ c ∈ codes, codeN c ≤ 1048576) := Lib.hid (fun c hc => by have := sumBy_mem codeN hc; omega)
  have hcl : codes.length ≤ 1048576 := by omega
  obtain ⟨A, p, hf, hl1, hl2⟩ := h0.form
  subst hf
  have hb2 : Below w.heap.size w ((w.alloc (.cells #[.slice A codes.length p] 28)).alloc (.cells #[.slice none 0 0] 28)) := ((Below.refl _ _).alloc (Nat.le_refl _) _).alloc (by simp) _
  have R2 : Row ((w.alloc (.cells #[.slice A codes.length p] 28)).alloc (.cells #[.slice none 0 0] 28)) w.heap.size 28 #[.slice A codes.length p] := (Row.new w _ _).alloc _
  have S2' : Row ((w.alloc (.cells #[.slice A codes.length p] 28)).alloc (.cells #[.slice none 0 0] 28)) (w.heap.size + 1) 28 #[.slice none 0 0] := by simpa using Row.new (w.alloc (.cells #[.slice A codes.length p] 28)) 28 #[.slice none 0 0]
  have z2 : w.heap.size + 2 = ((w.alloc (.cells #[.slice A codes.length p] 28)).alloc (.cells #[.slice none 0 0] 28)).heap.size := by simp
  have k0 := h0.below hb2 hB
  go_enter Try.func6, Try.ntmps6
  go_wp2_with fail
  refine (spec_UnitValid codes (.slice A codes.length p) _ lo B (Nat.le_trans hB hb2.size) hN k0).mono ?_
  rintro e w3 ⟨rfl, b3⟩
  have hb3 : Below w.heap.size w w3 := hb2.trans (b3.mono hb2.size)
  have R3 := R2.below b3 R2.lt
  have S3' := S2'.below b3 S2'.lt
  have k3 := k0.below b3 (Nat.le_trans hB hb2.size)
  have z3 : w.heap.size + 2 ≤ w3.heap.size := by have := b3.size; omega
  have r0 : w3.cell? ⟨w.heap.size, 0, none⟩ = some (.slice A codes.length p) := R3.cell 0
  have s0 : w3.cell? ⟨w.heap.size + 1, 0, none⟩ = some (.slice none 0 0) := S3'.cell 0
  have sf0 : w3.frozen? ⟨w.heap.size + 1, 0, none⟩ = false := S3'.frozen 0
  clear R2 S2' b3 k0
  by_cases hu : unitB codes = true
  case neg =>
    have hu' : unitB codes = false := by simpa using hu
    rw [hu']
    have F := Lib.hid (show TightP codes w (.returned (.tuple #[.agg #[.slice none 0 0], .bool false])) (w3.setCell ⟨w.heap.size + 1, 0, none⟩ (.slice none 0 0)) from ⟨_, [], by rw [hu'], by rw [if_neg hu]; exact SlF.nil_ _ _ _, by simp, by simp, hb3.setCell (p := ⟨w.heap.size + 1, 0, none⟩) (by show w.heap.size ≤ w.heap.size + 1; omega) _⟩)
    clear hu hu'
    go_wp2_with fail
    refine bodyPost_ret (v := .tuple #[.agg #[.slice none 0 0], .bool false]) (by simp [results, Try.results6, go_sem, s0]) rfl F.out
  case pos =>
    rw [hu]
    have hall := Lib.hid (unit_codes hu)
    have hu1 := Lib.hid hu
    clear hu
    go_upto_region 4 with fail
    have st : S2 28 w (w3.alloc (.cells #[.slice none 0 0] 28)) (w3.alloc (.cells #[.slice none 0 0] 28)) #[.slice A codes.length p] #[.slice none 0 0] w3.heap.size #[.slice none 0 0] [] [] := ⟨hb3.alloc hb3.size _, R3.alloc _, S3'.alloc _, Row.new w3 _ _, z3, (by simp), fun x hx => (by cases hx), fun x hx => (by cases hx)⟩
    generalize w3.alloc (.cells #[.slice none 0 0] 28) = wx at st ⊢
    obtain ⟨gb, hgb⟩ : ∃ x, x = w3.heap.size := ⟨_, rfl⟩
    rw [← hgb] at st ⊢
    clear hgb r0 s0 sf0 R3 S3' k3 z3 hb3 hb2
    go_wp2_with fail
    go_loopw [5] (fun u wr => ∃ (e : Nat) (A7 : Option Addr) (c7 : Nat) (fp : List Nat), u = .int .i64 (e : Int) ∧ e ≤ codes.length ∧ S2 28 w wx wr #[.slice A codes.length p] #[.slice none 0 0] gb #[.slice A7 e c7] [] [] ∧ OwF cdF 39 wr (w.heap.size + 2) fp ((codes.take e).map tightC) (.slice A7 e c7) ∧ Hid (FP w gb [] fp)) (fun u _ => codes.length - (intOf u).toNat)
    case atStart => exact ⟨0, none, 0, [], rfl, by omega, st, OwF.nil_ _ _ _ _, Lib.hid ⟨by simp, fun x hx => (by cases hx)⟩⟩
    case round =>
      clear st
      obtain ⟨e, A7, c7, fp, rfl, he, st, own, hfp⟩ := hrel
      have x0 : wr.cell? ⟨w.heap.size, 0, none⟩ = some (.slice A codes.length p) := st.Rb.cell 0
      by_cases hen : e < codes.length
      case neg =>
        have hen1 : ¬ (e : Int) < (codes.length : Int) := by omega
        obtain rfl : e = codes.length := by omega
        rw [List.take_length] at own
        have k0 : wr.cell? ⟨gb, 0, none⟩ = some (.slice A7 codes.length c7) := st.Rg.cell 0
        have s0 : wr.cell? ⟨w.heap.size + 1, 0, none⟩ = some (.slice none 0 0) := st.RR.cell 0
        have sf0 : wr.frozen? ⟨w.heap.size + 1, 0, none⟩ = false := st.RR.frozen 0
        have F := Lib.hid (show TightP codes w (.returned (.tuple #[.agg #[.slice A7 codes.length c7], .bool true])) (wr.setCell ⟨w.heap.size + 1, 0, none⟩ (.slice A7 codes.length c7)) from ⟨_, fp, by rw [hu1.out], by
          rw [if_pos hu1.out]
          exact own.sl.keep (fun x hx => Below.heap_setCell wr _ _ x (by show x ≠ w.heap.size + 1; have := (hfp.out.2 x hx).1; omega)), hfp.out.1, fun x hx => (by have := (hfp.out.2 x hx).1; omega), st.hbl.setCell (p := ⟨w.heap.size + 1, 0, none⟩) (by show w.heap.size ≤ w.heap.size + 1; omega) _⟩)
        clear own st hu1 hall
        go_wp2_with fail
        refine bodyPost_ret (v := .tuple #[.agg #[.slice A7 codes.length c7], .bool true]) (by simp [results, Try.results6, go_sem, s0]) rfl F.out
      obtain ⟨bS, oS, params, regs, blocks, v2, rfl, hlS, hbS, HL, g0, g1, g2, q0, q1, q2⟩ := code_get h0 hen
      have hbW : bS < w.heap.size := by omega
      obtain ⟨A2, p2, hf, _, _⟩ := g2.form
      change _ = Value.slice A2 blocks.length p2 at hf
      subst hf
      have hmem : (⟨params, regs, blocks⟩ : CodeD) ∈ codes := HL.out ▸ List.getElem_mem hen
      obtain ⟨y, hy⟩ : ∃ y, tightC ⟨params, regs, blocks⟩ = y := ⟨_, rfl⟩
      have H1 : Hid (∀ wd : World, B ≤ wd.heap.size → Sl false (blkS false) wd lo B blocks (.slice A2 blocks.length p2) → Calls Try.prog 19 #[.agg #[.int .i64 params, .int .i64 regs, .slice A2 blocks.length p2]] wd (ToF cdF y wd)) := Lib.hid (fun wd hB' hs' => by
        obtain ⟨k, hk⟩ := hall.out _ hmem
        rw [← hy]
        exact spec_l7Tight codes k params regs blocks _ wd lo B hB' (hcn.out _ hmem) g0 g1 hs' hk)
      have EL : Hid ((codes.take (e + 1)).map tightC = (codes.take e).map tightC ++ [y]) := by
        show _ = _
        rw [List.take_succ_eq_append_getElem hen, HL.out, List.map_append, List.map_cons, List.map_nil, hy]
      have htk : Hid (((codes.take e).map tightC).length = e) := by
        show _ = _
        simp
        omega
      have hen1 : (e : Int) < (codes.length : Int) := by omega
      have s := S3.begin st own hfp.out
      obtain ⟨nr, hnr⟩ : ∃ x, x = wr.heap.size := ⟨_, rfl⟩
      rw [← hnr] at s
      clear st own hnr hy
      go_wp2_with fail
      clear x0
      refine wp_region_held_drew (S := fun w' => (w'.cell? ⟨w.heap.size, 0, none⟩ = some (.slice (some ⟨bS, oS, none⟩) codes.length p) ∧ w'.cell? ⟨bS, oS + e * 3, none⟩ = some (.int .i64 params) ∧ w'.cell? ⟨bS, oS + e * 3 + 1, none⟩ = some (.int .i64 regs) ∧ w'.cell? ⟨bS, oS + e * 3 + 2, none⟩ = some (.slice A2 blocks.length p2))) (by kernel_rfl) ?_ (fun hHeld => ?_)
      · exact ⟨s.st.Rb.cell 0, s.st.old hbW q0, s.st.old hbW q1, s.st.old hbW q2⟩
      replace s := s.drew
      generalize wr.drew = wd at hHeld s ⊢
      refine tk (i := 0) ?_
      try simp only [ap]
      refine tk (i := 2) ?_
      try simp only [ap]
      refine tk (i := 3) ?_
      try simp only [ap]
      refine tk (i := 4) ?_
      try simp only [ap]
      refine tk (i := 5) ?_
      try simp only [ap]
      refine tk (i := 6) ?_
      try simp only [ap]
      refine reg_call2 (i := 1) (j := 7) (by kernel_rfl) rfl rfl (fun K hK => ?_) (fun K hK => ?_)
      · have k1 : wd.cell? ⟨gb, 0, none⟩ = some (.slice A7 e c7) := s.st.Rg.cell 0
        go_simp
        refine hK.out _ _ ?_ (fun hHeld => ?_)
        · exact ⟨s.st.Rb.cell 0, s.st.old hbW q0, s.st.old hbW q1, s.st.old hbW q2⟩
        clear hK K
        try simp only [ap]
        refine reg_call (i := 7) (by kernel_rfl) rfl (fun K hK => ?_)
        go_simp
        refine (H1.out wd (by have := s.st.big; omega) (g2.below s.st.hbl hB)).mono ?_
        rintro e_ w8 ⟨es, f, rfl, hr, hfn, hf, nb8⟩
        have hr' := hr
        obtain ⟨x2, hcs, _, _, j2⟩ := hr'
        obtain ⟨B2, d2, hx2, _, _⟩ := j2.form
        subst hx2
        subst hcs
        replace s := s.made hr hfn hf nb8
        obtain ⟨wd, hwd⟩ : ∃ x, x = w8 := ⟨_, rfl⟩
        subst hwd
        clear hr hfn hf nb8 j2
        refine hK.out _ _ ?_ (fun hHeld => ?_)
        · exact ⟨s.s.st.Rb.cell 0, s.s.st.old hbW q0, s.s.st.old hbW q1, s.s.st.old hbW q2⟩
        clear hK K
        try simp only [ap]
        refine reg_call (i := 8) (by kernel_rfl) rfl (fun K hK => ?_)
        go_simp
        have sR := s.s.st.al (.cells #[.int .i64 y.params, .int .i64 y.regs, .slice B2 y.blocks.length d2] 39)
        refine hK.out _ _ ?_ (fun hHeld => ?_)
        · exact ⟨sR.Rb.cell 0, sR.old hbW q0, sR.old hbW q1, sR.old hbW q2⟩
        clear hK K
        try simp only [ap]
        refine reg_call (i := 9) (by kernel_rfl) rfl (fun K hK => ?_)
        obtain ⟨A10, c10, w9, fp', r9, st9, own9, hfp9⟩ := s.app_cod htk.out (by omega) (by intro u hu; simp at hu; rcases hu with rfl | rfl | rfl <;> rfl)
        rw [if_pos (show Region.wanted _ _ = true by kernel_rfl)]
        refine Lib.wp_append_run_sl _ _ _ 26 rfl _ _ rfl rfl r9 ?_
        clear r9
        have k9 : w9.cell? ⟨gb, 0, none⟩ = some (.slice A7 e c7) := st9.Rg.cell 0
        have f9 : w9.frozen? ⟨gb, 0, none⟩ = false := st9.Rg.frozen 0
        refine hK.out _ _ ?_ (fun hHeld => ?_)
        · exact ⟨st9.Rb.cell 0, st9.old hbW q0, st9.old hbW q1, st9.old hbW q2⟩
        clear hK K
        try simp only [ap]
        refine tk (i := 10) ?_
        try simp only [ap]
        refine reg_call (i := 11) (by kernel_rfl) rfl (fun K hK => ?_)
        obtain ⟨st10, own10⟩ := st9.store own9 hfp9 0 (.slice A10 (e + 1) c10)
        go_simp
        refine hK.out _ _ ?_ (fun hHeld => ?_)
        · exact ⟨st10.Rb.cell 0, st10.old hbW q0, st10.old hbW q1, st10.old hbW q2⟩
        clear hK K
        try simp only [ap]
        refine wpAnyH_done (by kernel_rfl) ?_ _
        rw [← EL.out] at own10
        go_wp2_with fail
        go_roundw
        case rel => exact ⟨e + 1, A10, c10, fp', by go_num, by omega, st10, own10, Lib.hid hfp9⟩
        case measure => simp [intOf]; omega
      go_simp
      refine (H1.out wd (by have := s.st.big; omega) (g2.below s.st.hbl hB)).mono ?_
      rintro e_ w8 ⟨es, f, rfl, hr, hfn, hf, nb8⟩
      have hr' := hr
      obtain ⟨x2, hcs, _, _, j2⟩ := hr'
      obtain ⟨B2, d2, hx2, _, _⟩ := j2.form
      subst hx2
      subst hcs
      replace s := s.made hr hfn hf nb8
      obtain ⟨wd, hwd⟩ : ∃ x, x = w8 := ⟨_, rfl⟩
      subst hwd
      clear hr hfn hf nb8 j2
      refine hK.out _ _ ?_ (fun hHeld => ?_)
      · exact ⟨s.s.st.Rb.cell 0, s.s.st.old hbW q0, s.s.st.old hbW q1, s.s.st.old hbW q2⟩
      clear hK K
      try simp only [ap]
      refine reg_call2 (i := 1) (j := 8) (by kernel_rfl) rfl rfl (fun K hK => ?_) (fun K hK => ?_)
      · have k1 : wd.cell? ⟨gb, 0, none⟩ = some (.slice A7 e c7) := s.s.st.Rg.cell 0
        go_simp
        refine hK.out _ _ ?_ (fun hHeld => ?_)
        · exact ⟨s.s.st.Rb.cell 0, s.s.st.old hbW q0, s.s.st.old hbW q1, s.s.st.old hbW q2⟩
        clear hK K
        try simp only [ap]
        refine reg_call (i := 8) (by kernel_rfl) rfl (fun K hK => ?_)
        go_simp
        have sR := s.s.st.al (.cells #[.int .i64 y.params, .int .i64 y.regs, .slice B2 y.blocks.length d2] 39)
        refine hK.out _ _ ?_ (fun hHeld => ?_)
        · exact ⟨sR.Rb.cell 0, sR.old hbW q0, sR.old hbW q1, sR.old hbW q2⟩
        clear hK K
        try simp only [ap]
        refine reg_call (i := 9) (by kernel_rfl) rfl (fun K hK => ?_)
        obtain ⟨A10, c10, w9, fp', r9, st9, own9, hfp9⟩ := s.app_cod htk.out (by omega) (by intro u hu; simp at hu; rcases hu with rfl | rfl | rfl <;> rfl)
        rw [if_pos (show Region.wanted _ _ = true by kernel_rfl)]
        refine Lib.wp_append_run_sl _ _ _ 26 rfl _ _ rfl rfl r9 ?_
        clear r9
        have k9 : w9.cell? ⟨gb, 0, none⟩ = some (.slice A7 e c7) := st9.Rg.cell 0
        have f9 : w9.frozen? ⟨gb, 0, none⟩ = false := st9.Rg.frozen 0
        refine hK.out _ _ ?_ (fun hHeld => ?_)
        · exact ⟨st9.Rb.cell 0, st9.old hbW q0, st9.old hbW q1, st9.old hbW q2⟩
        clear hK K
        try simp only [ap]
        refine tk (i := 10) ?_
        try simp only [ap]
        refine reg_call (i := 11) (by kernel_rfl) rfl (fun K hK => ?_)
        obtain ⟨st10, own10⟩ := st9.store own9 hfp9 0 (.slice A10 (e + 1) c10)
        go_simp
        refine hK.out _ _ ?_ (fun hHeld => ?_)
        · exact ⟨st10.Rb.cell 0, st10.old hbW q0, st10.old hbW q1, st10.old hbW q2⟩
        clear hK K
        try simp only [ap]
        refine wpAnyH_done (by kernel_rfl) ?_ _
        rw [← EL.out] at own10
        go_wp2_with fail
        go_roundw
        case rel => exact ⟨e + 1, A10, c10, fp', by go_num, by omega, st10, own10, Lib.hid hfp9⟩
        case measure => simp [intOf]; omega
      go_simp
      have sR := s.s.st.al (.cells #[.int .i64 y.params, .int .i64 y.regs, .slice B2 y.blocks.length d2] 39)
      refine hK.out _ _ ?_ (fun hHeld => ?_)
      · exact ⟨sR.Rb.cell 0, sR.old hbW q0, sR.old hbW q1, sR.old hbW q2⟩
      clear hK K
      try simp only [ap]
      refine reg_call (i := 1) (by kernel_rfl) rfl (fun K hK => ?_)
      have k1 : (wd.alloc (.cells #[.int .i64 y.params, .int .i64 y.regs, .slice B2 y.blocks.length d2] 39)).cell? ⟨gb, 0, none⟩ = some (.slice A7 e c7) := sR.Rg.cell 0
      go_simp
      refine hK.out _ _ ?_ (fun hHeld => ?_)
      · exact ⟨sR.Rb.cell 0, sR.old hbW q0, sR.old hbW q1, sR.old hbW q2⟩
      clear hK K
      try simp only [ap]
      refine reg_call (i := 9) (by kernel_rfl) rfl (fun K hK => ?_)
      obtain ⟨A10, c10, w9, fp', r9, st9, own9, hfp9⟩ := s.app_cod htk.out (by omega) (by intro u hu; simp at hu; rcases hu with rfl | rfl | rfl <;> rfl)
      rw [if_pos (show Region.wanted _ _ = true by kernel_rfl)]
      refine Lib.wp_append_run_sl _ _ _ 26 rfl _ _ rfl rfl r9 ?_
      clear r9
      have k9 : w9.cell? ⟨gb, 0, none⟩ = some (.slice A7 e c7) := st9.Rg.cell 0
      have f9 : w9.frozen? ⟨gb, 0, none⟩ = false := st9.Rg.frozen 0
      refine hK.out _ _ ?_ (fun hHeld => ?_)
      · exact ⟨st9.Rb.cell 0, st9.old hbW q0, st9.old hbW q1, st9.old hbW q2⟩
      clear hK K
      try simp only [ap]
      refine tk (i := 10) ?_
      try simp only [ap]
      refine reg_call (i := 11) (by kernel_rfl) rfl (fun K hK => ?_)
      obtain ⟨st10, own10⟩ := st9.store own9 hfp9 0 (.slice A10 (e + 1) c10)
      go_simp
      refine hK.out _ _ ?_ (fun hHeld => ?_)
      · exact ⟨st10.Rb.cell 0, st10.old hbW q0, st10.old hbW q1, st10.old hbW q2⟩
      clear hK K
      try simp only [ap]
      refine wpAnyH_done (by kernel_rfl) ?_ _
      rw [← EL.out] at own10
      go_wp2_with fail
      go_roundw
      case rel => exact ⟨e + 1, A10, c10, fp', by go_num, by omega, st10, own10, Lib.hid hfp9⟩
      case measure => simp [intOf]; omega
end Go.Proofs.Ytgcjccoglcgcoaa
