/-
  A code turned by a list: l7Each, exact. Conditions: the code reads as data of small size; each register is told in the list.
-/
import Derived.Test.YtgcjccoglcgcoaaRegT
import Derived.Test.YtgcjccoglcgcoaaCpc
import Derived.Test.YtgcjccoglcgcoaaTgtT
namespace Go.Proofs.Ytgcjccoglcgcoaa
open Go.RowKit Go.ChangeShapes Go.WideShapes Go.Deep
set_option linter.unusedVariables false
set_option linter.unusedSimpArgs false
theorem far_cell {w : World} {b c o p : Nat} {u : Value} (h : c ≠ b) : (w.setCell ⟨b, o, none⟩ u).cell? ⟨c, p, none⟩ = w.cell? ⟨c, p, none⟩ := cell_of_heap (Below.heap_setCell w ⟨b, o, none⟩ u c h) p
theorem Upd.drawn {w wd : World} {b o M : Nat} {n : Int} (hb : Below 0 w wd) (hh : ∀ x : Nat, wd.heap[x]? = w.heap[x]?) (hbM : b ≠ M) : Upd w b o n M (wd.setCell ⟨b, o, none⟩ (.int .i64 n)) := Upd.set hb (fun x _ => hh x) hbM
/-- a register and what it turns to: its cell -/
theorem to_cell {w : World} {lo B c : Nat} {A : Option Addr} {T : List Int} {σ : Int → Int} {r : Int} (hT : Sl false (intS false) w lo B T (.slice A T.length c)) (h : ∃ n : Nat, r = (n : Int) ∧ T[n]? = some (σ r)) :
    ∃ (bT oT n : Nat), A = some ⟨bT, oT, none⟩ ∧ r = (n : Int) ∧ n < T.length ∧ lo ≤ bT ∧ bT < B ∧ w.cell? ⟨bT, oT + n, none⟩ = some (.int .i64 (σ r)) ∧ I64 (σ r) := by
  obtain ⟨n, hr, hn⟩ := h
  have hl := (List.getElem?_eq_some_iff.1 hn).1
  obtain ⟨b, o, a, rfl, h1, h2, HL, hi, hc⟩ := int_get hT hl
  have e : a = σ r := by
    have := HL.out
    rw [List.getElem?_eq_getElem hl, this] at hn
    exact Option.some.inj hn
  subst e
  exact ⟨b, o, n, rfl, hr, hl, h1, h2, hc, hi⟩

set_option maxRecDepth 100000 in
set_option maxHeartbeats 16000000 in
theorem spec_l7Each (params regs : Int) (blocks : List BlkD) (v2 : Value) (T : List Int) (vT : Value) (σ : Int → Int) (w : World) (lo B : Nat) (hB : B ≤ w.heap.size) (hl : codeN ⟨params, regs, blocks⟩ ≤ 1048576) (hi0 : I64 params) (hi1 : I64 regs) (h2 : Sl false (blkS false) w lo B blocks v2) (hT : Sl false (intS false) w 0 w.heap.size T vT)
    (hto : ∀ x ∈ blocks, ∀ r ∈ regsBlk x, ∃ n : Nat, r = (n : Int) ∧ T[n]? = some (σ r)) (hju : ∀ x ∈ blocks, (x.jump = 1 ↔ usesOnB x.jump = false)) :
    Calls Try.prog 39 #[.agg #[.int .i64 params, .int .i64 regs, v2], vT] w (ToF cdF ⟨params, regs, blocks.map (renBlk σ)⟩ w) := by
  have hbl : blocks.length ≤ 1048576 := by
    have : blocks.length + sumBy blkN blocks ≤ 1048576 := hl
    omega
  replace hl := Lib.hid hl
  replace hto := Lib.hid hto
  replace hju := Lib.hid hju
  obtain ⟨A0, cap0, hf, _, _⟩ := h2.form
  change _ = Value.slice A0 blocks.length cap0 at hf
  subst hf
  obtain ⟨AT, cT, hf, hlT, hlT'⟩ := hT.form
  change _ = Value.slice AT T.length cT at hf
  subst hf
  have hb1 : Below w.heap.size w ((w.alloc (.cells #[.int .i64 params, .int .i64 regs, .slice A0 blocks.length cap0] 39)).alloc (.cells #[.int .i64 0, .int .i64 0, .slice none 0 0] 39)) := ((Below.refl _ w).alloc (Nat.le_refl _) _).alloc (by simp) _
  have RR1 : Row ((w.alloc (.cells #[.int .i64 params, .int .i64 regs, .slice A0 blocks.length cap0] 39)).alloc (.cells #[.int .i64 0, .int .i64 0, .slice none 0 0] 39)) (w.heap.size + 1) 39 #[.int .i64 0, .int .i64 0, .slice none 0 0] := by simpa using Row.new (w.alloc (.cells #[.int .i64 params, .int .i64 regs, .slice A0 blocks.length cap0] 39)) 39 #[.int .i64 0, .int .i64 0, .slice none 0 0]
  have k2 := h2.below hb1 hB
  have z1 : ((w.alloc (.cells #[.int .i64 params, .int .i64 regs, .slice A0 blocks.length cap0] 39)).alloc (.cells #[.int .i64 0, .int .i64 0, .slice none 0 0] 39)).heap.size = w.heap.size + 1 + 1 := by simp
  have R0 : Row ((w.alloc (.cells #[.int .i64 params, .int .i64 regs, .slice A0 blocks.length cap0] 39)).alloc (.cells #[.int .i64 0, .int .i64 0, .slice none 0 0] 39)) w.heap.size 39 #[.int .i64 params, .int .i64 regs, .slice A0 blocks.length cap0] := (Row.new w _ _).alloc _
  go_enter Try.func39, Try.ntmps39
  go_wp2_with fail
  have hB1 : B ≤ ((w.alloc (.cells #[.int .i64 params, .int .i64 regs, .slice A0 blocks.length cap0] 39)).alloc (.cells #[.int .i64 0, .int .i64 0, .slice none 0 0] 39)).heap.size := by omega
  refine (spec_l7Copy params regs blocks (.slice A0 blocks.length cap0) _ lo B hB1 hl.out hi0 hi1 k2).mono ?_
  rintro e w2 ⟨cs, fp, rfl, hr, hnd, hfr, nb2⟩
  obtain ⟨v', hcs, _, _, sl2⟩ := hr
  obtain ⟨A, cap, hv', _, _⟩ := sl2.form
  subst hv'
  change cs = [.int .i64 params, .int .i64 regs, .slice A blocks.length cap] at hcs
  subst hcs
  replace sl2 : SlF bkF 65 w2 fp blocks (.slice A blocks.length cap) := sl2
  have hbw2 : Below w.heap.size w w2 := hb1.trans (nb2.mono (by omega))
  have RR2 := RR1.below nb2 RR1.lt
  rw [z1] at hfr
  go_wp2_with fail
  have hlt2 := sl2.lt
  have hG : Row (w2.alloc (.cells #[.int .i64 params, .int .i64 regs, .slice A blocks.length cap] 39)) w2.heap.size 39 #[.int .i64 params, .int .i64 regs, .slice A blocks.length cap] := Row.new w2 _ _
  have h0 := sl2.keep (fun b hb => Below.heap_alloc w2 (.cells #[.int .i64 params, .int .i64 regs, .slice A blocks.length cap] 39) b (hlt2 b hb))
  have RR0 := RR2.alloc (.cells #[.int .i64 params, .int .i64 regs, .slice A blocks.length cap] 39)
  have hb0 : Below w.heap.size w (w2.alloc (.cells #[.int .i64 params, .int .i64 regs, .slice A blocks.length cap] 39)) := hbw2.alloc (by have := hbw2.size; omega) _
  have z2 : w.heap.size + 1 + 1 ≤ w2.heap.size := by have := nb2.size; omega
  have z3 : (w2.alloc (.cells #[.int .i64 params, .int .i64 regs, .slice A blocks.length cap] 39)).heap.size = w2.heap.size + 1 := by simp
  generalize w2.alloc (.cells #[.int .i64 params, .int .i64 regs, .slice A blocks.length cap] 39) = w0 at hG h0 RR0 hb0 z3 ⊢
  obtain ⟨G, hGe⟩ : ∃ G, w2.heap.size = G := ⟨_, rfl⟩
  rw [hGe] at hG hlt2 z2 z3
  simp only [hGe]
  replace hT := hT.keep (w' := w0) (Nat.le_refl _) (Nat.le_refl _) (fun b _ hb => hb0.block b hb)
  obtain ⟨M, hMe⟩ : ∃ M, G + 1 = M := ⟨_, rfl⟩
  have hnd := Lib.hid hnd
  have hGf : G ∉ fp := fun hx => Nat.lt_irrefl _ (hlt2 _ hx)
  have hGM : G ≠ M := by omega
  have hMf : M ∉ fp := fun hx => by have := hlt2 _ hx; omega
  have hRf : w.heap.size + 1 ∉ fp := fun hx => by have := hfr _ hx; omega
  have hRM : w.heap.size + 1 ≠ M := by omega
  have hBf : Hid (∀ x, x < w.heap.size → x ∉ fp) := Lib.hid (fun x hx h => by have := hfr x h; omega)
  have hMT : Hid (∀ x, x < w.heap.size → x ≠ M) := Lib.hid (fun x hx => by omega)
  have hfr2 : Hid (∀ x ∈ fp, w.heap.size + 2 ≤ x) := Lib.hid (fun x hx => by have := hfr x hx; omega)
  have hM2 : w.heap.size ≤ M := by omega
  clear sl2 RR1 RR2 hb1 hbw2 nb2 hlt2 hfr R0 hGe k2 h2 z1
  have hG2 : w0.cell? ⟨G, 2, none⟩ = some (.slice A blocks.length cap) := hG.cell 2
  go_loopw [6] (fun i wb => ∃ k : Nat, k ≤ blocks.length ∧ i = .int .i64 k ∧ SlF bkF 65 wb fp (halfL (renBlk σ) blocks k) (.slice A blocks.length cap) ∧ Fr fp M w0 wb) (fun i _ => blocks.length - (intOf i).toNat)
  case atStart => exact ⟨0, by omega, rfl, by rw [half_zero]; exact h0, Fr.refl _ _ _⟩
  case round =>
    clear hG2
    obtain ⟨k, hk, rfl, hd, fr⟩ := hrel
    obtain ⟨wb, hwb⟩ : ∃ x, x = wr := ⟨_, rfl⟩
    subst hwb
    have RG : Row wb G 39 #[.int .i64 params, .int .i64 regs, .slice A blocks.length cap] := fr.row hG hGf hGM
    have y2 : wb.cell? ⟨G, 2, none⟩ = some (.slice A blocks.length cap) := RG.cell 2
    by_cases hkl : k < blocks.length
    case neg =>
      have hkn : ¬ (k : Int) < (blocks.length : Int) := by omega
      obtain rfl : k = blocks.length := by omega
      rw [half_end] at hd
      have RZ : Row wb (w.heap.size + 1) 39 #[.int .i64 0, .int .i64 0, .slice none 0 0] := fr.row RR0 hRf hRM
      have F := Lib.hid (fun (w8 : World) (n8 : Near w.heap.size 2 wb w8) => ToF.fin (k := 2) (show cdF.rep wb fp (⟨params, regs, blocks.map (renBlk σ)⟩ : CodeD) [.int .i64 params, .int .i64 regs, .slice A blocks.length cap] from ⟨_, rfl, hi0, hi1, hd⟩) hnd.out hfr2.out (hb0.trans (fr.below (fun x hx => by have := hfr2.out x hx; omega) hM2)) n8)
      have y0 : wb.cell? ⟨G, 0, none⟩ = some (.int .i64 params) := RG.cell 0
      have y1 : wb.cell? ⟨G, 1, none⟩ = some (.int .i64 regs) := RG.cell 1
      have s0 : wb.cell? ⟨w.heap.size + 1, 0, none⟩ = some (.int .i64 0) := RZ.cell 0
      have s1 : wb.cell? ⟨w.heap.size + 1, 1, none⟩ = some (.int .i64 0) := RZ.cell 1
      have s2 : wb.cell? ⟨w.heap.size + 1, 2, none⟩ = some (.slice none 0 0) := RZ.cell 2
      have sf0 : wb.frozen? ⟨w.heap.size + 1, 0, none⟩ = false := RZ.frozen 0
      have sf1 : wb.frozen? ⟨w.heap.size + 1, 1, none⟩ = false := RZ.frozen 1
      have sf2 : wb.frozen? ⟨w.heap.size + 1, 2, none⟩ = false := RZ.frozen 2
      clear hd fr
      go_wp2_with fail
      refine bodyPost_ret (v := .agg #[.int .i64 params, .int .i64 regs, .slice A blocks.length cap]) (by simp [results, Try.results39, go_sem, s0, s1, s2]) rfl (F.out _ (by repeat' (first | exact Near.refl _ _ _ | refine Near.set ?_ (by show w.heap.size ≤ _; simp) (by show _ < w.heap.size + 2; simp) _)))
    obtain ⟨⟨phis, ins, jump, on, next⟩, hx⟩ : ∃ x, blocks[k] = x := ⟨_, rfl⟩
    have hmem : (⟨phis, ins, jump, on, next⟩ : BlkD) ∈ blocks := hx ▸ List.getElem_mem hkl
    have htob := Lib.hid (hto.out _ hmem)
    have hjb : Hid (jump = 1 ↔ usesOnB jump = false) := hju.out _ hmem
    obtain ⟨b, f0, f1, f2, v0, v1, v2, rfl, hbf, hs0, hs1, hbx0, hbx1, n0, n1, d10, ⟨cur, Rb⟩, c0, c1, c2, c3, hj64, ho64, sl0, sl1, keepb, close⟩ := look_blk hd hnd.out (half_get _ _ hkl hx)
    obtain ⟨A9, p9, hf, hl9, hl9'⟩ := sl1.form
    change _ = Value.slice A9 ins.length p9 at hf
    subst hf
    obtain ⟨A0', p0, hf, hl0, hl0'⟩ := sl0.form
    change _ = Value.slice A0' phis.length p0 at hf
    subst hf
    have htp : Hid (∀ f ∈ phis, ∀ r ∈ regsPhi f, ∃ n : Nat, r = (n : Int) ∧ T[n]? = some (σ r)) := Lib.hid (fun f hf r hr => htob.out r (by unfold regsBlk; exact List.mem_append_left _ (List.mem_append_left _ (List.mem_flatMap.2 ⟨f, hf, hr⟩))))
    have hti : Hid (∀ y ∈ ins, ∀ r ∈ regsIns y, ∃ n : Nat, r = (n : Int) ∧ T[n]? = some (σ r)) := Lib.hid (fun f hf r hr => htob.out r (by unfold regsBlk; exact List.mem_append_left _ (List.mem_append_right _ (List.mem_flatMap.2 ⟨f, hf, hr⟩))))
    have EX : Hid ((halfL (renBlk σ) blocks k).set k ⟨phis.map (renPhi σ), ins.map (renIns σ), jump, if usesOnB jump = true then σ on else on, next⟩ = halfL (renBlk σ) blocks (k + 1)) := half_set (renBlk σ) _ hkl hx
    have hM0f : M ∉ f0 := fun h => hMf (hs0 M h)
    have hM1f : M ∉ f1 := fun h => hMf (hs1 M h)
    have hbM : b ≠ M := fun e => hMf (e ▸ hbf)
    have hbx01 : b ∉ f0 ++ f1 := fun h => by rcases List.mem_append.1 h with h | h; exact hbx0 h; exact hbx1 h
    have m0 : ∀ x ∈ f0, x ∈ f0 ++ f1 := fun x hx => List.mem_append_left _ hx
    have m1 : ∀ x ∈ f1, x ∈ f0 ++ f1 := fun x hx => List.mem_append_right _ hx
    have hs01 : ∀ x ∈ f0 ++ f1, x ∈ fp := fun x hx => by rcases List.mem_append.1 hx with h | h; exact hs0 x h; exact hs1 x h
    clear hx hd hmem
    have hkn : (k : Int) < (blocks.length : Int) := by omega
    have hki : (0 : Int) ≤ (k : Int) := by omega
    go_wp2_with fail
    go_loopw [8] (fun i wp => ∃ q : Nat, q ≤ phis.length ∧ i = .int .i64 q ∧ SlF phF 69 wp f0 (halfL (renPhi σ) phis q) (.slice A0' phis.length p0) ∧ Fr f0 M wb wp) (fun i _ => phis.length - (intOf i).toNat)
    case atStart => exact ⟨0, by omega, rfl, by rw [half_zero]; exact sl0, Fr.refl _ _ _⟩
    case round =>
      obtain ⟨q, hq, rfl, sl, fr2⟩ := hrel
      obtain ⟨wp, hwp⟩ : ∃ x, x = wr := ⟨_, rfl⟩
      subst hwp
      have kb := keepb M f0 wp hMf hbx0 fr2
      have r0 : wp.cell? ⟨b, k * 5, none⟩ = some (.slice A0' phis.length p0) := (kb.2 _).trans c0
      by_cases hql : q < phis.length
      case pos =>
        obtain ⟨⟨tg, args⟩, hy⟩ : ∃ y, phis[q] = y := ⟨_, rfl⟩
        have hyt := htp.out ⟨tg, args⟩ (hy ▸ List.getElem_mem hql)
        have hta : Hid (∀ r ∈ args, ∃ n : Nat, r = (n : Int) ∧ T[n]? = some (σ r)) := Lib.hid (fun r hr => hyt r (by simp [regsPhi, hr]))
        obtain ⟨bT, oT, mt, eA, rfl, hmT, _, hbT, hqT, hs64⟩ := to_cell hT (hyt tg (by simp [regsPhi]))
        clear hyt
        first | subst eA | (injection eA with eA; injection eA with eA eB _; replace eA := eA.symm; replace eB := eB.symm; subst eA; subst eB)
        obtain ⟨b1, g, va, rfl, hb1f, hgf, hbg, gn, e0, ef0, e1, ht64, sla, far1, close1⟩ := look_phi sl n0 (half_get _ _ hql hy)
        replace e0 : wp.cell? ⟨b1, q * 2, none⟩ = some (.int .i64 (mt : Int)) := e0
        obtain ⟨A1, p1, hf, hl1, hl1'⟩ := sla.form
        change _ = Value.slice A1 args.length p1 at hf
        subst hf
        replace hy := Lib.hid hy
        have hb1M : b1 ≠ M := fun e => hM0f (e ▸ hb1f)
        have hMg : M ∉ g := fun h => hM0f (hgf M h)
        clear kb
        have hqn : (q : Int) < (phis.length : Int) := by omega
        have hqi : (0 : Int) ≤ (q : Int) := by omega
        have hTf : bT ∉ fp := hBf.out bT hbT
        have q2 : wp.cell? ⟨bT, oT + mt, none⟩ = some (.int .i64 (σ (mt : Int))) := (cell_of_heap ((fr.trans (fr2.more hs0)).2 bT hTf (fun e => hMT.out bT hbT e)) _).trans hqT
        have hbb1 : b ≠ b1 := fun e => hbx0 (e ▸ hb1f)
        have hTb1 : bT ≠ b1 := fun e => hTf (e ▸ hs0 _ hb1f)
        have UD : Hid (∀ n : Int, Upd wp b1 (q * 2) n M (wp.drew.setCell ⟨b1, q * 2, none⟩ (.int .i64 n))) := Lib.hid (fun n => Upd.drawn (Below.refl _ _).drew (fun _ => rfl) hb1M)
        have hmn : (mt : Int) < (T.length : Int) := by omega
        have hmi : (0 : Int) ≤ (mt : Int) := by omega
        go_wp2_with fail
        refine wp_region_held_drew (S := fun w' => (w'.cell? ⟨b, k * 5, none⟩ = some (.slice (some ⟨b1, 0, none⟩) phis.length p0) ∧ w'.cell? ⟨bT, oT + mt, none⟩ = some (.int .i64 (σ (mt : Int))))) (by kernel_rfl) ?_ (fun hHeld => ?_)
        · exact ⟨r0, q2⟩
        replace r0 : wp.drew.cell? ⟨b, k * 5, none⟩ = some (.slice (some ⟨b1, 0, none⟩) phis.length p0) := r0
        replace q2 : wp.drew.cell? ⟨bT, oT + mt, none⟩ = some (.int .i64 (σ (mt : Int))) := q2
        replace e0 : wp.drew.cell? ⟨b1, q * 2, none⟩ = some (.int .i64 (mt : Int)) := e0
        replace ef0 : wp.drew.frozen? ⟨b1, q * 2, none⟩ = false := ef0
        replace UD : Hid (∀ n : Int, Upd wp b1 (q * 2) n M (wp.drew.setCell ⟨b1, q * 2, none⟩ (.int .i64 n))) := UD
        generalize wp.drew = wd at hHeld r0 q2 e0 ef0 UD ⊢
        refine tk (i := 0) ?_
        try simp only [ap]
        refine tk (i := 1) ?_
        try simp only [ap]
        refine tk (i := 2) ?_
        try simp only [ap]
        refine tk (i := 3) ?_
        try simp only [ap]
        refine tk (i := 4) ?_
        try simp only [ap]
        refine tk (i := 5) ?_
        try simp only [ap]
        refine tk (i := 6) ?_
        try simp only [ap]
        refine tk (i := 7) ?_
        try simp only [ap]
        refine tk (i := 8) ?_
        try simp only [ap]
        refine tk (i := 9) ?_
        try simp only [ap]
        refine tk (i := 10) ?_
        try simp only [ap]
        refine tk (i := 11) ?_
        try simp only [ap]
        refine tk (i := 12) ?_
        try simp only [ap]
        refine reg_call (i := 13) (by kernel_rfl) rfl (fun K hK => ?_)
        go_simp
        refine hK.out _ _ ?_ (fun hHeld => ?_)
        · exact ⟨r0, q2⟩
        clear hK K
        try simp only [ap]
        refine tk (i := 14) ?_
        try simp only [ap]
        refine tk (i := 15) ?_
        try simp only [ap]
        refine tk (i := 16) ?_
        try simp only [ap]
        refine tk (i := 17) ?_
        try simp only [ap]
        refine reg_call (i := 18) (by kernel_rfl) rfl (fun K hK => ?_)
        go_simp
        refine hK.out _ _ ?_ (fun hHeld => ?_)
        · exact ⟨(far_cell hbb1).trans r0, (far_cell hTb1).trans q2⟩
        clear hK K
        try simp only [ap]
        refine wpAnyH_done (by kernel_rfl) ?_ _
        have up1 := UD.out (σ (mt : Int))
        clear UD r0 q2 e0 ef0
        generalize wd.setCell ⟨b1, q * 2, none⟩ (.int .i64 (σ (mt : Int))) = w1 at up1 ⊢
        have hn3 : I64 (σ (mt : Int)) := hs64

        obtain ⟨e1', sla1, fr1⟩ := far1 M _ w1 hM0f up1
        have frb := fr2.trans fr1
        have kb1 := keepb M f0 w1 hMf hbx0 frb
        have r1 : w1.cell? ⟨b, k * 5, none⟩ = some (.slice (some ⟨b1, 0, none⟩) phis.length p0) := (kb1.2 _).trans c0
        clear kb1 hqT hTf hmT hbT hmn hmi
        go_wp2_with fail
        go_loopw [9] (fun i wa => ∃ p : Nat, p ≤ args.length ∧ i = .int .i64 p ∧ SlF intF 3 wa g (halfL σ args p) (.slice A1 args.length p1) ∧ Fr g M w1 wa) (fun i _ => args.length - (intOf i).toNat)
        case atStart => exact ⟨0, by omega, rfl, by rw [half_zero]; exact sla1, Fr.refl _ _ _⟩
        case round =>
          obtain ⟨p, hp, rfl, sl4, fr4⟩ := hrel
          have fr04 := frb.trans (fr4.more hgf)
          have kb4 := keepb M f0 wr hMf hbx0 fr04
          have q0 : wr.cell? ⟨b, k * 5, none⟩ = some (.slice (some ⟨b1, 0, none⟩) phis.length p0) := (kb4.2 _).trans c0
          have q1 : wr.cell? ⟨b1, q * 2 + 1, none⟩ = some (.slice A1 args.length p1) := (cell_of_heap (fr4.2 b1 hbg hb1M) _).trans e1'
          by_cases hpl : p < args.length
          case pos =>
            obtain ⟨a, hx⟩ : ∃ a, args[p] = a := ⟨_, rfl⟩
            obtain ⟨bT, oT, ma, eA, rfl, hmT, _, hbT, hqT, hs64⟩ := to_cell hT (hta.out a (hx ▸ List.getElem_mem hpl))
            first | subst eA | (injection eA with eA; injection eA with eA eB _; replace eA := eA.symm; replace eB := eB.symm; subst eA; subst eB)
            obtain ⟨b2, rfl, hb2, d0, df0, ha64, close2⟩ := look_int sl4 gn (half_get _ _ hpl hx)
            have E5 : Hid ((halfL σ args p).set p (σ (ma : Int)) = halfL σ args (p + 1)) := half_set _ _ hpl hx
            clear hx
            have hb2M : b2 ≠ M := fun e => hMg (e ▸ hb2)
            have hTf : bT ∉ fp := hBf.out bT hbT
            have q2 : wr.cell? ⟨bT, oT + ma, none⟩ = some (.int .i64 (σ (ma : Int))) := (cell_of_heap ((fr.trans (fr04.more hs0)).2 bT hTf (fun e => hMT.out bT hbT e)) _).trans hqT
            have hbb2 : b ≠ b2 := fun e => hbx0 (hgf _ (e ▸ hb2))
            have hb1b2 : b1 ≠ b2 := fun e => hbg (e ▸ hb2)
            have hTb2 : bT ≠ b2 := fun e => hTf (e ▸ hs0 _ (hgf _ hb2))
            have UD : Hid (∀ n : Int, Upd wr b2 p n M (wr.drew.setCell ⟨b2, p, none⟩ (.int .i64 n))) := Lib.hid (fun n => Upd.drawn (Below.refl _ _).drew (fun _ => rfl) hb2M)
            have hpn : (p : Int) < (args.length : Int) := by omega
            have hpi : (0 : Int) ≤ (p : Int) := by omega
            have hmn : (ma : Int) < (T.length : Int) := by omega
            have hmi : (0 : Int) ≤ (ma : Int) := by omega
            go_wp2_with fail
            refine wp_region_held_drew (S := fun w' => (w'.cell? ⟨b, k * 5, none⟩ = some (.slice (some ⟨b1, 0, none⟩) phis.length p0) ∧ w'.cell? ⟨b1, q * 2 + 1, none⟩ = some (.slice (some ⟨b2, 0, none⟩) args.length p1) ∧ w'.cell? ⟨bT, oT + ma, none⟩ = some (.int .i64 (σ (ma : Int))))) (by kernel_rfl) ?_ (fun hHeld => ?_)
            · exact ⟨q0, q1, q2⟩
            replace q0 : wr.drew.cell? ⟨b, k * 5, none⟩ = some (.slice (some ⟨b1, 0, none⟩) phis.length p0) := q0
            replace q1 : wr.drew.cell? ⟨b1, q * 2 + 1, none⟩ = some (.slice (some ⟨b2, 0, none⟩) args.length p1) := q1
            replace q2 : wr.drew.cell? ⟨bT, oT + ma, none⟩ = some (.int .i64 (σ (ma : Int))) := q2
            replace d0 : wr.drew.cell? ⟨b2, p, none⟩ = some (.int .i64 (ma : Int)) := d0
            replace df0 : wr.drew.frozen? ⟨b2, p, none⟩ = false := df0
            replace UD : Hid (∀ n : Int, Upd wr b2 p n M (wr.drew.setCell ⟨b2, p, none⟩ (.int .i64 n))) := UD
            generalize wr.drew = wd at hHeld q0 q1 q2 d0 df0 UD ⊢
            refine tk (i := 0) ?_
            try simp only [ap]
            refine tk (i := 1) ?_
            try simp only [ap]
            refine tk (i := 2) ?_
            try simp only [ap]
            refine tk (i := 3) ?_
            try simp only [ap]
            refine tk (i := 4) ?_
            try simp only [ap]
            refine tk (i := 5) ?_
            try simp only [ap]
            refine tk (i := 6) ?_
            try simp only [ap]
            refine tk (i := 7) ?_
            try simp only [ap]
            refine tk (i := 8) ?_
            try simp only [ap]
            refine tk (i := 9) ?_
            try simp only [ap]
            refine tk (i := 10) ?_
            try simp only [ap]
            refine tk (i := 11) ?_
            try simp only [ap]
            refine tk (i := 12) ?_
            try simp only [ap]
            refine tk (i := 13) ?_
            try simp only [ap]
            refine tk (i := 14) ?_
            try simp only [ap]
            refine tk (i := 15) ?_
            try simp only [ap]
            refine tk (i := 16) ?_
            try simp only [ap]
            refine tk (i := 17) ?_
            try simp only [ap]
            refine tk (i := 18) ?_
            try simp only [ap]
            refine tk (i := 19) ?_
            try simp only [ap]
            refine reg_call (i := 20) (by kernel_rfl) rfl (fun K hK => ?_)
            go_simp
            refine hK.out _ _ ?_ (fun hHeld => ?_)
            · exact ⟨q0, q1, q2⟩
            clear hK K
            try simp only [ap]
            refine tk (i := 21) ?_
            try simp only [ap]
            refine tk (i := 22) ?_
            try simp only [ap]
            refine tk (i := 23) ?_
            try simp only [ap]
            refine reg_call (i := 24) (by kernel_rfl) rfl (fun K hK => ?_)
            go_simp
            refine hK.out _ _ ?_ (fun hHeld => ?_)
            · exact ⟨(far_cell hbb2).trans q0, (far_cell hb1b2).trans q1, (far_cell hTb2).trans q2⟩
            clear hK K
            try simp only [ap]
            refine wpAnyH_done (by kernel_rfl) ?_ _
            obtain ⟨sl6, fr6⟩ := close2 M _ _ hMg hs64 (UD.out (σ (ma : Int)))
            rw [E5.out] at sl6
            clear E5 d0 df0 UD q0 q1 q2
            go_wp2_with fail
            go_roundw
            case rel => exact ⟨p + 1, by omega, by go_num, sl6, fr4.trans fr6⟩
            case measure => simp [intOf]; omega
          case neg =>
            have hpn : ¬ (p : Int) < (args.length : Int) := by omega
            obtain rfl : p = args.length := by omega
            rw [half_end] at sl4
            obtain ⟨sl7, fr7⟩ := close1 M _ w1 wr _ hM0f hn3 up1 fr4 sl4
            have E7 : (halfL (renPhi σ) phis q).set q ⟨σ (mt : Int), args.map σ⟩ = halfL (renPhi σ) phis (q + 1) := half_set _ _ hql hy.out
            rw [E7] at sl7
            clear E7
            go_wp2_with fail
            go_roundw
            case rel => exact ⟨q + 1, by omega, by go_num, sl7, fr2.trans fr7⟩
            case measure => simp [intOf]; omega

      case neg =>
        have hqn : ¬ (q : Int) < (phis.length : Int) := by omega
        obtain rfl : q = phis.length := by omega
        rw [half_end] at sl
        have sl1p := fr2.sl sl1 d10 hM1f
        have r9 : wp.cell? ⟨b, k * 5 + 1, none⟩ = some (.slice A9 ins.length p9) := (kb.2 _).trans c1
        obtain ⟨slP, frP⟩ : SlF phF 69 wp f0 (phis.map (renPhi σ)) (.slice A0' phis.length p0) ∧ Fr f0 M wb wp := ⟨sl, fr2⟩
        clear kb sl fr2 sl0 sl1
        go_wp2_with fail
        go_loopw [10] (fun i wi => ∃ q : Nat, q ≤ ins.length ∧ i = .int .i64 q ∧ SlF isF 72 wi f1 (halfL (renIns σ) ins q) (.slice A9 ins.length p9) ∧ Fr f1 M wp wi) (fun i _ => ins.length - (intOf i).toNat)
        case atStart => exact ⟨0, by omega, rfl, by rw [half_zero]; exact sl1p, Fr.refl _ _ _⟩
        case round =>
          clear sl1p r0 r9
          obtain ⟨q, hq, rfl, sl, fr2⟩ := hrel
          obtain ⟨wi, hwi⟩ : ∃ x, x = wr := ⟨_, rfl⟩
          subst hwi
          have frI : Fr (f0 ++ f1) M wb wi := (frP.more m0).trans (fr2.more m1)
          have kb := keepb M (f0 ++ f1) wi hMf hbx01 frI
          have r0 : wi.cell? ⟨b, k * 5 + 1, none⟩ = some (.slice A9 ins.length p9) := (kb.2 _).trans c1
          by_cases hql : q < ins.length
          case pos =>
            obtain ⟨⟨op, tg, args, n⟩, hy⟩ : ∃ y, ins[q] = y := ⟨_, rfl⟩
            have hyt := hti.out ⟨op, tg, args, n⟩ (hy ▸ List.getElem_mem hql)
            have hta : Hid (∀ r ∈ args, ∃ n : Nat, r = (n : Int) ∧ T[n]? = some (σ r)) := Lib.hid (fun r hr => hyt r (by simp [regsIns, hr]))
            have hyt' : Hid (setsB op = true → ∃ n : Nat, tg = (n : Int) ∧ T[n]? = some (σ tg)) := Lib.hid (fun h => hyt tg (by simp [regsIns, h]))
            clear hyt
            obtain ⟨b1, g, va, rfl, hb1f, hgf, hbg, gn, e0, e1, ef1, e2, ho, ht64, sla, far1, close1⟩ := look_ins sl n1 (half_get _ _ hql hy)
            replace e0 : wi.cell? ⟨b1, q * 4, none⟩ = some (.int .i64 op) := e0
            replace e1 : wi.cell? ⟨b1, q * 4 + 1, none⟩ = some (.int .i64 tg) := e1
            obtain ⟨A1, p1, hf, hl1, hl1'⟩ := sla.form
            change _ = Value.slice A1 args.length p1 at hf
            subst hf
            replace hy := Lib.hid hy
            have hb1M : b1 ≠ M := fun e => hM1f (e ▸ hb1f)
            have hMg : M ∉ g := fun h => hM1f (hgf M h)
            clear kb
            have hqn : (q : Int) < (ins.length : Int) := by omega
            have hqi : (0 : Int) ≤ (q : Int) := by omega
            go_wp2_with fail
            refine (spec_l7Makes op _).mono ?_
            rintro e w' ⟨rfl, rfl⟩
            by_cases hset : setsB op = true
            case pos =>
              obtain ⟨bT, oT, mt, eA, rfl, hmT, _, hbT, hqT, hs64⟩ := to_cell hT (hyt'.out hset)
              first | subst eA | (injection eA with eA; injection eA with eA eB _; replace eA := eA.symm; replace eB := eB.symm; subst eA; subst eB)
              rw [hset]
              replace hset := Lib.hid hset
              have hTf : bT ∉ fp := hBf.out bT hbT
              have q2 : wi.cell? ⟨bT, oT + mt, none⟩ = some (.int .i64 (σ (mt : Int))) := (cell_of_heap ((fr.trans (frI.more hs01)).2 bT hTf (fun e => hMT.out bT hbT e)) _).trans hqT
              have hbb1 : b ≠ b1 := fun e => hbx1 (e ▸ hb1f)
              have hTb1 : bT ≠ b1 := fun e => hTf (e ▸ hs1 _ hb1f)
              have UD : Hid (∀ n : Int, Upd wi b1 (q * 4 + 1) n M (wi.drew.setCell ⟨b1, q * 4 + 1, none⟩ (.int .i64 n))) := Lib.hid (fun n => Upd.drawn (Below.refl _ _).drew (fun _ => rfl) hb1M)
              have hmn : (mt : Int) < (T.length : Int) := by omega
              have hmi : (0 : Int) ≤ (mt : Int) := by omega
              go_wp2_with fail
              refine wp_region_held_drew (S := fun w' => (w'.cell? ⟨b, k * 5 + 1, none⟩ = some (.slice (some ⟨b1, 0, none⟩) ins.length p9) ∧ w'.cell? ⟨bT, oT + mt, none⟩ = some (.int .i64 (σ (mt : Int))))) (by kernel_rfl) ?_ (fun hHeld => ?_)
              · exact ⟨r0, q2⟩
              replace r0 : wi.drew.cell? ⟨b, k * 5 + 1, none⟩ = some (.slice (some ⟨b1, 0, none⟩) ins.length p9) := r0
              replace q2 : wi.drew.cell? ⟨bT, oT + mt, none⟩ = some (.int .i64 (σ (mt : Int))) := q2
              replace e1 : wi.drew.cell? ⟨b1, q * 4 + 1, none⟩ = some (.int .i64 (mt : Int)) := e1
              replace ef1 : wi.drew.frozen? ⟨b1, q * 4 + 1, none⟩ = false := ef1
              replace UD : Hid (∀ n : Int, Upd wi b1 (q * 4 + 1) n M (wi.drew.setCell ⟨b1, q * 4 + 1, none⟩ (.int .i64 n))) := UD
              generalize wi.drew = wd at hHeld r0 q2 e1 ef1 UD ⊢
              refine tk (i := 0) ?_
              try simp only [ap]
              refine tk (i := 1) ?_
              try simp only [ap]
              refine tk (i := 2) ?_
              try simp only [ap]
              refine tk (i := 3) ?_
              try simp only [ap]
              refine tk (i := 4) ?_
              try simp only [ap]
              refine tk (i := 5) ?_
              try simp only [ap]
              refine tk (i := 6) ?_
              try simp only [ap]
              refine tk (i := 7) ?_
              try simp only [ap]
              refine tk (i := 8) ?_
              try simp only [ap]
              refine tk (i := 9) ?_
              try simp only [ap]
              refine tk (i := 10) ?_
              try simp only [ap]
              refine tk (i := 11) ?_
              try simp only [ap]
              refine tk (i := 12) ?_
              try simp only [ap]
              refine reg_call (i := 13) (by kernel_rfl) rfl (fun K hK => ?_)
              go_simp
              refine hK.out _ _ ?_ (fun hHeld => ?_)
              · exact ⟨r0, q2⟩
              clear hK K
              try simp only [ap]
              refine tk (i := 14) ?_
              try simp only [ap]
              refine tk (i := 15) ?_
              try simp only [ap]
              refine tk (i := 16) ?_
              try simp only [ap]
              refine tk (i := 17) ?_
              try simp only [ap]
              refine reg_call (i := 18) (by kernel_rfl) rfl (fun K hK => ?_)
              go_simp
              refine hK.out _ _ ?_ (fun hHeld => ?_)
              · exact ⟨(far_cell hbb1).trans r0, (far_cell hTb1).trans q2⟩
              clear hK K
              try simp only [ap]
              refine wpAnyH_done (by kernel_rfl) ?_ _
              have up1 := UD.out (σ (mt : Int))
              clear UD r0 q2 e1 ef1
              generalize wd.setCell ⟨b1, q * 4 + 1, none⟩ (.int .i64 (σ (mt : Int))) = w1 at up1 ⊢
              have hn3 : I64 (σ (mt : Int)) := hs64

              obtain ⟨e2', sla1, fr1⟩ := far1 M _ w1 hM1f up1
              replace up1 : Hid (Upd wi b1 (q * 4 + 1) (σ (mt : Int)) M w1 ∨ w1 = wi ∧ σ (mt : Int) = (mt : Int)) := Or.inl up1
              have frb := frI.trans (fr1.more m1)
              have kb1 := keepb M (f0 ++ f1) w1 hMf hbx01 frb
              have r1 : w1.cell? ⟨b, k * 5 + 1, none⟩ = some (.slice (some ⟨b1, 0, none⟩) ins.length p9) := (kb1.2 _).trans c1
              clear kb1 hqT hTf hmT hbT hmn hmi
              go_wp2_with fail
              go_loopw [11] (fun i wa => ∃ p : Nat, p ≤ args.length ∧ i = .int .i64 p ∧ SlF intF 3 wa g (halfL σ args p) (.slice A1 args.length p1) ∧ Fr g M w1 wa) (fun i _ => args.length - (intOf i).toNat)
              case atStart => exact ⟨0, by omega, rfl, by rw [half_zero]; exact sla1, Fr.refl _ _ _⟩
              case round =>
                obtain ⟨p, hp, rfl, sl4, fr4⟩ := hrel
                have fr04 := frb.trans (fr4.more (fun x hx => m1 x (hgf x hx)))
                have kb4 := keepb M (f0 ++ f1) wr hMf hbx01 fr04
                have q0 : wr.cell? ⟨b, k * 5 + 1, none⟩ = some (.slice (some ⟨b1, 0, none⟩) ins.length p9) := (kb4.2 _).trans c1
                have q1 : wr.cell? ⟨b1, q * 4 + 2, none⟩ = some (.slice A1 args.length p1) := (cell_of_heap (fr4.2 b1 hbg hb1M) _).trans e2'
                by_cases hpl : p < args.length
                case pos =>
                  obtain ⟨a, hx⟩ : ∃ a, args[p] = a := ⟨_, rfl⟩
                  obtain ⟨bT, oT, ma, eA, rfl, hmT, _, hbT, hqT, hs64⟩ := to_cell hT (hta.out a (hx ▸ List.getElem_mem hpl))
                  first | subst eA | (injection eA with eA; injection eA with eA eB _; replace eA := eA.symm; replace eB := eB.symm; subst eA; subst eB)
                  obtain ⟨b2, rfl, hb2, d0, df0, ha64, close2⟩ := look_int sl4 gn (half_get _ _ hpl hx)
                  have E5 : Hid ((halfL σ args p).set p (σ (ma : Int)) = halfL σ args (p + 1)) := half_set _ _ hpl hx
                  clear hx
                  have hb2M : b2 ≠ M := fun e => hMg (e ▸ hb2)
                  have hTf : bT ∉ fp := hBf.out bT hbT
                  have q2 : wr.cell? ⟨bT, oT + ma, none⟩ = some (.int .i64 (σ (ma : Int))) := (cell_of_heap ((fr.trans (fr04.more hs01)).2 bT hTf (fun e => hMT.out bT hbT e)) _).trans hqT
                  have hbb2 : b ≠ b2 := fun e => hbx1 (hgf _ (e ▸ hb2))
                  have hb1b2 : b1 ≠ b2 := fun e => hbg (e ▸ hb2)
                  have hTb2 : bT ≠ b2 := fun e => hTf (e ▸ hs1 _ (hgf _ hb2))
                  have UD : Hid (∀ n : Int, Upd wr b2 p n M (wr.drew.setCell ⟨b2, p, none⟩ (.int .i64 n))) := Lib.hid (fun n => Upd.drawn (Below.refl _ _).drew (fun _ => rfl) hb2M)
                  have hpn : (p : Int) < (args.length : Int) := by omega
                  have hpi : (0 : Int) ≤ (p : Int) := by omega
                  have hmn : (ma : Int) < (T.length : Int) := by omega
                  have hmi : (0 : Int) ≤ (ma : Int) := by omega
                  go_wp2_with fail
                  refine wp_region_held_drew (S := fun w' => (w'.cell? ⟨b, k * 5 + 1, none⟩ = some (.slice (some ⟨b1, 0, none⟩) ins.length p9) ∧ w'.cell? ⟨b1, q * 4 + 2, none⟩ = some (.slice (some ⟨b2, 0, none⟩) args.length p1) ∧ w'.cell? ⟨bT, oT + ma, none⟩ = some (.int .i64 (σ (ma : Int))))) (by kernel_rfl) ?_ (fun hHeld => ?_)
                  · exact ⟨q0, q1, q2⟩
                  replace q0 : wr.drew.cell? ⟨b, k * 5 + 1, none⟩ = some (.slice (some ⟨b1, 0, none⟩) ins.length p9) := q0
                  replace q1 : wr.drew.cell? ⟨b1, q * 4 + 2, none⟩ = some (.slice (some ⟨b2, 0, none⟩) args.length p1) := q1
                  replace q2 : wr.drew.cell? ⟨bT, oT + ma, none⟩ = some (.int .i64 (σ (ma : Int))) := q2
                  replace d0 : wr.drew.cell? ⟨b2, p, none⟩ = some (.int .i64 (ma : Int)) := d0
                  replace df0 : wr.drew.frozen? ⟨b2, p, none⟩ = false := df0
                  replace UD : Hid (∀ n : Int, Upd wr b2 p n M (wr.drew.setCell ⟨b2, p, none⟩ (.int .i64 n))) := UD
                  generalize wr.drew = wd at hHeld q0 q1 q2 d0 df0 UD ⊢
                  refine tk (i := 0) ?_
                  try simp only [ap]
                  refine tk (i := 1) ?_
                  try simp only [ap]
                  refine tk (i := 2) ?_
                  try simp only [ap]
                  refine tk (i := 3) ?_
                  try simp only [ap]
                  refine tk (i := 4) ?_
                  try simp only [ap]
                  refine tk (i := 5) ?_
                  try simp only [ap]
                  refine tk (i := 6) ?_
                  try simp only [ap]
                  refine tk (i := 7) ?_
                  try simp only [ap]
                  refine tk (i := 8) ?_
                  try simp only [ap]
                  refine tk (i := 9) ?_
                  try simp only [ap]
                  refine tk (i := 10) ?_
                  try simp only [ap]
                  refine tk (i := 11) ?_
                  try simp only [ap]
                  refine tk (i := 12) ?_
                  try simp only [ap]
                  refine tk (i := 13) ?_
                  try simp only [ap]
                  refine tk (i := 14) ?_
                  try simp only [ap]
                  refine tk (i := 15) ?_
                  try simp only [ap]
                  refine tk (i := 16) ?_
                  try simp only [ap]
                  refine tk (i := 17) ?_
                  try simp only [ap]
                  refine tk (i := 18) ?_
                  try simp only [ap]
                  refine tk (i := 19) ?_
                  try simp only [ap]
                  refine reg_call (i := 20) (by kernel_rfl) rfl (fun K hK => ?_)
                  go_simp
                  refine hK.out _ _ ?_ (fun hHeld => ?_)
                  · exact ⟨q0, q1, q2⟩
                  clear hK K
                  try simp only [ap]
                  refine tk (i := 21) ?_
                  try simp only [ap]
                  refine tk (i := 22) ?_
                  try simp only [ap]
                  refine tk (i := 23) ?_
                  try simp only [ap]
                  refine reg_call (i := 24) (by kernel_rfl) rfl (fun K hK => ?_)
                  go_simp
                  refine hK.out _ _ ?_ (fun hHeld => ?_)
                  · exact ⟨(far_cell hbb2).trans q0, (far_cell hb1b2).trans q1, (far_cell hTb2).trans q2⟩
                  clear hK K
                  try simp only [ap]
                  refine wpAnyH_done (by kernel_rfl) ?_ _
                  obtain ⟨sl6, fr6⟩ := close2 M _ _ hMg hs64 (UD.out (σ (ma : Int)))
                  rw [E5.out] at sl6
                  clear E5 d0 df0 UD q0 q1 q2
                  go_wp2_with fail
                  go_roundw
                  case rel => exact ⟨p + 1, by omega, by go_num, sl6, fr4.trans fr6⟩
                  case measure => simp [intOf]; omega
                case neg =>
                  have hpn : ¬ (p : Int) < (args.length : Int) := by omega
                  obtain rfl : p = args.length := by omega
                  rw [half_end] at sl4
                  obtain ⟨sl7, fr7⟩ := close1 M (σ (mt : Int)) w1 wr _ hM1f hn3 up1.out fr4 sl4
                  have E7 : (halfL (renIns σ) ins q).set q ⟨op, σ (mt : Int), args.map σ, n⟩ = halfL (renIns σ) ins (q + 1) := by
                    have := half_set (renIns σ) _ hql hy.out
                    unfold renIns at this ⊢
                    simp only [hset.out] at this
                    exact this
                  rw [E7] at sl7
                  clear E7
                  go_wp2_with fail
                  go_roundw
                  case rel => exact ⟨q + 1, by omega, by go_num, sl7, fr2.trans fr7⟩
                  case measure => simp [intOf]; omega

            case neg =>
              replace hset : setsB op = false := by simpa using hset
              rw [hset]
              obtain ⟨w1, hw1⟩ : ∃ x, x = wi := ⟨_, rfl⟩
              subst hw1
              replace hset := Lib.hid hset
              have e2' := e2
              have sla1 := sla
              have hn3 : I64 tg := ht64
              have frb := frI
              go_wp2_with fail
              go_loopw [11] (fun i wa => ∃ p : Nat, p ≤ args.length ∧ i = .int .i64 p ∧ SlF intF 3 wa g (halfL σ args p) (.slice A1 args.length p1) ∧ Fr g M w1 wa) (fun i _ => args.length - (intOf i).toNat)
              case atStart => exact ⟨0, by omega, rfl, by rw [half_zero]; exact sla1, Fr.refl _ _ _⟩
              case round =>
                obtain ⟨p, hp, rfl, sl4, fr4⟩ := hrel
                have fr04 := frb.trans (fr4.more (fun x hx => m1 x (hgf x hx)))
                have kb4 := keepb M (f0 ++ f1) wr hMf hbx01 fr04
                have q0 : wr.cell? ⟨b, k * 5 + 1, none⟩ = some (.slice (some ⟨b1, 0, none⟩) ins.length p9) := (kb4.2 _).trans c1
                have q1 : wr.cell? ⟨b1, q * 4 + 2, none⟩ = some (.slice A1 args.length p1) := (cell_of_heap (fr4.2 b1 hbg hb1M) _).trans e2'
                by_cases hpl : p < args.length
                case pos =>
                  obtain ⟨a, hx⟩ : ∃ a, args[p] = a := ⟨_, rfl⟩
                  obtain ⟨bT, oT, ma, eA, rfl, hmT, _, hbT, hqT, hs64⟩ := to_cell hT (hta.out a (hx ▸ List.getElem_mem hpl))
                  first | subst eA | (injection eA with eA; injection eA with eA eB _; replace eA := eA.symm; replace eB := eB.symm; subst eA; subst eB)
                  obtain ⟨b2, rfl, hb2, d0, df0, ha64, close2⟩ := look_int sl4 gn (half_get _ _ hpl hx)
                  have E5 : Hid ((halfL σ args p).set p (σ (ma : Int)) = halfL σ args (p + 1)) := half_set _ _ hpl hx
                  clear hx
                  have hb2M : b2 ≠ M := fun e => hMg (e ▸ hb2)
                  have hTf : bT ∉ fp := hBf.out bT hbT
                  have q2 : wr.cell? ⟨bT, oT + ma, none⟩ = some (.int .i64 (σ (ma : Int))) := (cell_of_heap ((fr.trans (fr04.more hs01)).2 bT hTf (fun e => hMT.out bT hbT e)) _).trans hqT
                  have hbb2 : b ≠ b2 := fun e => hbx1 (hgf _ (e ▸ hb2))
                  have hb1b2 : b1 ≠ b2 := fun e => hbg (e ▸ hb2)
                  have hTb2 : bT ≠ b2 := fun e => hTf (e ▸ hs1 _ (hgf _ hb2))
                  have UD : Hid (∀ n : Int, Upd wr b2 p n M (wr.drew.setCell ⟨b2, p, none⟩ (.int .i64 n))) := Lib.hid (fun n => Upd.drawn (Below.refl _ _).drew (fun _ => rfl) hb2M)
                  have hpn : (p : Int) < (args.length : Int) := by omega
                  have hpi : (0 : Int) ≤ (p : Int) := by omega
                  have hmn : (ma : Int) < (T.length : Int) := by omega
                  have hmi : (0 : Int) ≤ (ma : Int) := by omega
                  go_wp2_with fail
                  refine wp_region_held_drew (S := fun w' => (w'.cell? ⟨b, k * 5 + 1, none⟩ = some (.slice (some ⟨b1, 0, none⟩) ins.length p9) ∧ w'.cell? ⟨b1, q * 4 + 2, none⟩ = some (.slice (some ⟨b2, 0, none⟩) args.length p1) ∧ w'.cell? ⟨bT, oT + ma, none⟩ = some (.int .i64 (σ (ma : Int))))) (by kernel_rfl) ?_ (fun hHeld => ?_)
                  · exact ⟨q0, q1, q2⟩
                  replace q0 : wr.drew.cell? ⟨b, k * 5 + 1, none⟩ = some (.slice (some ⟨b1, 0, none⟩) ins.length p9) := q0
                  replace q1 : wr.drew.cell? ⟨b1, q * 4 + 2, none⟩ = some (.slice (some ⟨b2, 0, none⟩) args.length p1) := q1
                  replace q2 : wr.drew.cell? ⟨bT, oT + ma, none⟩ = some (.int .i64 (σ (ma : Int))) := q2
                  replace d0 : wr.drew.cell? ⟨b2, p, none⟩ = some (.int .i64 (ma : Int)) := d0
                  replace df0 : wr.drew.frozen? ⟨b2, p, none⟩ = false := df0
                  replace UD : Hid (∀ n : Int, Upd wr b2 p n M (wr.drew.setCell ⟨b2, p, none⟩ (.int .i64 n))) := UD
                  generalize wr.drew = wd at hHeld q0 q1 q2 d0 df0 UD ⊢
                  refine tk (i := 0) ?_
                  try simp only [ap]
                  refine tk (i := 1) ?_
                  try simp only [ap]
                  refine tk (i := 2) ?_
                  try simp only [ap]
                  refine tk (i := 3) ?_
                  try simp only [ap]
                  refine tk (i := 4) ?_
                  try simp only [ap]
                  refine tk (i := 5) ?_
                  try simp only [ap]
                  refine tk (i := 6) ?_
                  try simp only [ap]
                  refine tk (i := 7) ?_
                  try simp only [ap]
                  refine tk (i := 8) ?_
                  try simp only [ap]
                  refine tk (i := 9) ?_
                  try simp only [ap]
                  refine tk (i := 10) ?_
                  try simp only [ap]
                  refine tk (i := 11) ?_
                  try simp only [ap]
                  refine tk (i := 12) ?_
                  try simp only [ap]
                  refine tk (i := 13) ?_
                  try simp only [ap]
                  refine tk (i := 14) ?_
                  try simp only [ap]
                  refine tk (i := 15) ?_
                  try simp only [ap]
                  refine tk (i := 16) ?_
                  try simp only [ap]
                  refine tk (i := 17) ?_
                  try simp only [ap]
                  refine tk (i := 18) ?_
                  try simp only [ap]
                  refine tk (i := 19) ?_
                  try simp only [ap]
                  refine reg_call (i := 20) (by kernel_rfl) rfl (fun K hK => ?_)
                  go_simp
                  refine hK.out _ _ ?_ (fun hHeld => ?_)
                  · exact ⟨q0, q1, q2⟩
                  clear hK K
                  try simp only [ap]
                  refine tk (i := 21) ?_
                  try simp only [ap]
                  refine tk (i := 22) ?_
                  try simp only [ap]
                  refine tk (i := 23) ?_
                  try simp only [ap]
                  refine reg_call (i := 24) (by kernel_rfl) rfl (fun K hK => ?_)
                  go_simp
                  refine hK.out _ _ ?_ (fun hHeld => ?_)
                  · exact ⟨(far_cell hbb2).trans q0, (far_cell hb1b2).trans q1, (far_cell hTb2).trans q2⟩
                  clear hK K
                  try simp only [ap]
                  refine wpAnyH_done (by kernel_rfl) ?_ _
                  obtain ⟨sl6, fr6⟩ := close2 M _ _ hMg hs64 (UD.out (σ (ma : Int)))
                  rw [E5.out] at sl6
                  clear E5 d0 df0 UD q0 q1 q2
                  go_wp2_with fail
                  go_roundw
                  case rel => exact ⟨p + 1, by omega, by go_num, sl6, fr4.trans fr6⟩
                  case measure => simp [intOf]; omega
                case neg =>
                  have hpn : ¬ (p : Int) < (args.length : Int) := by omega
                  obtain rfl : p = args.length := by omega
                  rw [half_end] at sl4
                  obtain ⟨sl7, fr7⟩ := close1 M (tg) w1 wr _ hM1f hn3 (Or.inr ⟨rfl, rfl⟩) fr4 sl4
                  have E7 : (halfL (renIns σ) ins q).set q ⟨op, tg, args.map σ, n⟩ = halfL (renIns σ) ins (q + 1) := by
                    have := half_set (renIns σ) _ hql hy.out
                    unfold renIns at this ⊢
                    simp only [hset.out] at this
                    exact this
                  rw [E7] at sl7
                  clear E7
                  go_wp2_with fail
                  go_roundw
                  case rel => exact ⟨q + 1, by omega, by go_num, sl7, fr2.trans fr7⟩
                  case measure => simp [intOf]; omega

          case neg =>
            have hqn : ¬ (q : Int) < (ins.length : Int) := by omega
            obtain rfl : q = ins.length := by omega
            rw [half_end] at sl
            have r2 : wi.cell? ⟨b, k * 5 + 2, none⟩ = some (.int .i64 jump) := (kb.2 _).trans c2
            have r3 : wi.cell? ⟨b, k * 5 + 3, none⟩ = some (.int .i64 on) := (kb.2 _).trans c3
            have rf3 := kb.1
            by_cases hj1 : jump = 1
            case neg =>
              have hu : usesOnB jump = true := by
                cases h : usesOnB jump
                · exact absurd (hjb.out.2 h) hj1
                · rfl
              obtain ⟨bT, oT, mt, eA, rfl, hmT, _, hbT, hqT, hs64⟩ := to_cell hT (htob.out on (by simp [regsBlk, hu]))
              first | subst eA | (injection eA with eA; injection eA with eA eB _; replace eA := eA.symm; replace eB := eB.symm; subst eA; subst eB)
              have hTf : bT ∉ fp := hBf.out bT hbT
              have q2 : wi.cell? ⟨bT, oT + mt, none⟩ = some (.int .i64 (σ (mt : Int))) := (cell_of_heap ((fr.trans (frI.more hs01)).2 bT hTf (fun e => hMT.out bT hbT e)) _).trans hqT
              have EX2 : Hid ((halfL (renBlk σ) blocks k).set k ⟨phis.map (renPhi σ), ins.map (renIns σ), jump, σ (mt : Int), next⟩ = halfL (renBlk σ) blocks (k + 1)) := by
                have := EX.out
                simp only [if_pos hu] at this
                exact this
              have hmn : (mt : Int) < (T.length : Int) := by omega
              have hmi : (0 : Int) ≤ (mt : Int) := by omega
              clear hu EX hjb
              go_wp2_with fail
              have up8 : Upd wi b (k * 5 + 3) (σ (mt : Int)) M (wi.setCell ⟨b, k * 5 + 3, none⟩ (.int .i64 (σ (mt : Int)))) := Upd.drawn (Below.refl _ _) (fun _ => rfl) hbM
              obtain ⟨sl9, fr9⟩ := close M _ wp wi _ _ _ hMf hs64 frP slP fr2 sl (Or.inl up8)
              rw [EX2.out] at sl9
              clear EX2
              go_roundw
              case rel => exact ⟨k + 1, by omega, by go_num, sl9, fr.trans fr9⟩
              case measure => simp [intOf]; omega
            case pos =>
              have hu : usesOnB jump = false := hjb.out.1 hj1
              have EX2 : Hid ((halfL (renBlk σ) blocks k).set k ⟨phis.map (renPhi σ), ins.map (renIns σ), jump, on, next⟩ = halfL (renBlk σ) blocks (k + 1)) := by
                have := EX.out
                simp only [hu] at this
                exact this
              obtain ⟨sl9, fr9⟩ := close M on wp wi wi _ _ hMf ho64 frP slP fr2 sl (Or.inr ⟨rfl, rfl⟩)
              rw [EX2.out] at sl9
              clear hu EX EX2
              go_wp2_with fail
              go_roundw
              case rel => exact ⟨k + 1, by omega, by go_num, sl9, fr.trans fr9⟩
              case measure => simp [intOf]; omega
end Go.Proofs.Ytgcjccoglcgcoaa
