/-
  A code turned by a list: l7Each, exact. Conditions: the code reads as data of small size; each register is told in the list.
-/
import Derived.Test.YtgcjccoglcgcoaaCpc
import Derived.Test.YtgcjccoglcgcoaaTgt
namespace Go.Proofs.Ytgcjccoglcgcoaa
open Go.RowKit Go.ChangeShapes Go.WideShapes Go.Deep
set_option linter.unusedVariables false
set_option linter.unusedSimpArgs false
theorem far_cell {w : World} {b c o p : Nat} {u : Value} (h : c ≠ b) : (w.setCell ⟨b, o, none⟩ u).cell? ⟨c, p, none⟩ = w.cell? ⟨c, p, none⟩ := cell_of_heap (Below.heap_setCell w ⟨b, o, none⟩ u c h) p
theorem Upd.drawn {w wd : World} {b o M : Nat} {n : Int} (hb : Below 0 w wd) (hh : ∀ x : Nat, wd.heap[x]? = w.heap[x]?) (hbM : b ≠ M) : Upd w b o n M (wd.setCell ⟨b, o, none⟩ (.int .i64 n)) := Upd.set hb (fun x _ => hh x) hbM
/-- a register and what it turns to: its cell -/
theorem to_cell {w : World} {lo B c : Nat} {A : Option Addr} {T : List Int} {σ : Int → Int} {r : Int} (hT : Sl false (intS false) w lo B T (.slice A T.length c)) (h : ∃ n : Nat, r = (n : Int) ∧ T[n]? = some (σ r)) :
    ∃ (bT oT n : Nat), A = some ⟨bT, oT, none⟩ ∧ r = (n : Int) ∧ n < T.length ∧ lo ≤ bT ∧ bT < B ∧ w.cell? ⟨bT, oT + n, none⟩ = some (.int .i64 (σ r)) ∧ I64 (σ r) := by
  obtain ⟨n, hr, hn⟩ := h
  have hl := (List.getElem?_eq_some_iff.1 hn).1
  obtain ⟨b, o, a, rfl, h1, h2, HL, hi, hc⟩ := int_get hT hl
  have e : a = σ r := by
    have := HL.out
    rw [List.getElem?_eq_getElem hl, this] at hn
    exact Option.some.inj hn
  subst e
  exact ⟨b, o, n, rfl, hr, hl, h1, h2, hc, hi⟩

set_option maxRecDepth 100000 in
set_option maxHeartbeats 16000000 in
theorem spec_l7Each (params regs : Int) (blocks : List BlkD) (v2 : Value) (T : List Int) (vT : Value) (σ : Int → Int) (w : World) (lo B : Nat) (hB : B ≤ w.heap.size) (hl : codeN ⟨params, regs, blocks⟩ ≤ 1048576) (hi0 : I64 params) (hi1 : I64 regs) (h2 : Sl false (blkS false) w lo B blocks v2) (hT : Sl false (intS false) w 0 w.heap.size T vT)
    (hto : ∀ x ∈ blocks, ∀ r ∈ regsBlk x, ∃ n : Nat, r = (n : Int) ∧ T[n]? = some (σ r)) (hju : ∀ x ∈ blocks, (x.jump = 1 ↔ usesOnB x.jump = false)) :
    Calls Try.prog 39 #[.agg #[.int .i64 params, .int .i64 regs, v2], vT] w (ToF cdF ⟨params, regs, blocks.map (renBlk σ)⟩ w) := by
  have hbl : blocks.length ≤ 1048576 := by
    have : blocks.length + sumBy blkN blocks ≤ 1048576 := hl
    omega
  replace hl := Lib.hid hl
  replace hto := Lib.hid hto
  replace hju := Lib.hid hju
  obtain ⟨A0, cap0, hf, _, _⟩ := h2.form
  change _ = Value.slice A0 blocks.length cap0 at hf
  subst hf
  obtain ⟨AT, cT, hf, hlT, hlT'⟩ := hT.form
  change _ = Value.slice AT T.length cT at hf
  subst hf
  have hb1 : Below w.heap.size w ((w.alloc (.cells #[.int .i64 params, .int .i64 regs, .slice A0 blocks.length cap0] 39)).alloc (.cells #[.int .i64 0, .int .i64 0, .slice none 0 0] 39)) := ((Below.refl _ w).alloc (Nat.le_refl _) _).alloc (by simp) _
  have RR1 : Row ((w.alloc (.cells #[.int .i64 params, .int .i64 regs, .slice A0 blocks.length cap0] 39)).alloc (.cells #[.int .i64 0, .int .i64 0, .slice none 0 0] 39)) (w.heap.size + 1) 39 #[.int .i64 0, .int .i64 0, .slice none 0 0] := by simpa using Row.new (w.alloc (.cells #[.int .i64 params, .int .i64 regs, .slice A0 blocks.length cap0] 39)) 39 #[.int .i64 0, .int .i64 0, .slice none 0 0]
  have k2 := h2.below hb1 hB
  have z1 : ((w.alloc (.cells #[.int .i64 params, .int .i64 regs, .slice A0 blocks.length cap0] 39)).alloc (.cells #[.int .i64 0, .int .i64 0, .slice none 0 0] 39)).heap.size = w.heap.size + 1 + 1 := by simp
  have R0 : Row ((w.alloc (.cells #[.int .i64 params, .int .i64 regs, .slice A0 blocks.length cap0] 39)).alloc (.cells #[.int .i64 0, .int .i64 0, .slice none 0 0] 39)) w.heap.size 39 #[.int .i64 params, .int .i64 regs, .slice A0 blocks.length cap0] := (Row.new w _ _).alloc _
  go_enter Try.func39, Try.ntmps39
  go_wp2_with fail
  have hB1 : B ≤ ((w.alloc (.cells #[.int .i64 params, .int .i64 regs, .slice A0 blocks.length cap0] 39)).alloc (.cells #[.int .i64 0, .int .i64 0, .slice none 0 0] 39)).heap.size := by omega
  refine (spec_l7Copy params regs blocks (.slice A0 blocks.length cap0) _ lo B hB1 hl.out hi0 hi1 k2).mono ?_
  rintro e w2 ⟨cs, fp, rfl, hr, hnd, hfr, nb2⟩
  obtain ⟨v', hcs, _, _, sl2⟩ := hr
  obtain ⟨A, cap, hv', _, _⟩ := sl2.form
  subst hv'
  change cs = [.int .i64 params, .int .i64 regs, .slice A blocks.length cap] at hcs
  subst hcs
  replace sl2 : SlF bkF 65 w2 fp blocks (.slice A blocks.length cap) := sl2
  have hbw2 : Below w.heap.size w w2 := hb1.trans (nb2.mono (by omega))
  have RR2 := RR1.below nb2 RR1.lt
  rw [z1] at hfr
  go_wp2_with fail
  have hlt2 := sl2.lt
  have hG : Row (w2.alloc (.cells #[.int .i64 params, .int .i64 regs, .slice A blocks.length cap] 39)) w2.heap.size 39 #[.int .i64 params, .int .i64 regs, .slice A blocks.length cap] := Row.new w2 _ _
  have h0 := sl2.keep (fun b hb => Below.heap_alloc w2 (.cells #[.int .i64 params, .int .i64 regs, .slice A blocks.length cap] 39) b (hlt2 b hb))
  have RR0 := RR2.alloc (.cells #[.int .i64 params, .int .i64 regs, .slice A blocks.length cap] 39)
  have hb0 : Below w.heap.size w (w2.alloc (.cells #[.int .i64 params, .int .i64 regs, .slice A blocks.length cap] 39)) := hbw2.alloc (by have := hbw2.size; omega) _
  have z2 : w.heap.size + 1 + 1 ≤ w2.heap.size := by have := nb2.size; omega
  have z3 : (w2.alloc (.cells #[.int .i64 params, .int .i64 regs, .slice A blocks.length cap] 39)).heap.size = w2.heap.size + 1 := by simp
  generalize w2.alloc (.cells #[.int .i64 params, .int .i64 regs, .slice A blocks.length cap] 39) = w0 at hG h0 RR0 hb0 z3 ⊢
  obtain ⟨G, hGe⟩ : ∃ G, w2.heap.size = G := ⟨_, rfl⟩
  rw [hGe] at hG hlt2 z2 z3
  simp only [hGe]
  replace hT := hT.keep (w' := w0) (Nat.le_refl _) (Nat.le_refl _) (fun b _ hb => hb0.block b hb)
  obtain ⟨M, hMe⟩ : ∃ M, G + 1 = M := ⟨_, rfl⟩
  have hnd := Lib.hid hnd
  have hGf : G ∉ fp := fun hx => Nat.lt_irrefl _ (hlt2 _ hx)
  have hGM : G ≠ M := by omega
  have hMf : M ∉ fp := fun hx => by have := hlt2 _ hx; omega
  have hRf : w.heap.size + 1 ∉ fp := fun hx => by have := hfr _ hx; omega
  have hRM : w.heap.size + 1 ≠ M := by omega
  have hBf : Hid (∀ x, x < w.heap.size → x ∉ fp) := Lib.hid (fun x hx h => by have := hfr x h; omega)
  have hMT : Hid (∀ x, x < w.heap.size → x ≠ M) := Lib.hid (fun x hx => by omega)
  have hfr2 : Hid (∀ x ∈ fp, w.heap.size + 2 ≤ x) := Lib.hid (fun x hx => by have := hfr x hx; omega)
  have hM2 : w.heap.size ≤ M := by omega
  clear sl2 RR1 RR2 hb1 hbw2 nb2 hlt2 hfr R0 hGe k2 h2 z1
  have hG2 : w0.cell? ⟨G, 2, none⟩ = some (.slice A blocks.length cap) := hG.cell 2
  go_loopw [6] (fun i wb => ∃ k : Nat, k ≤ blocks.length ∧ i = .int .i64 k ∧ SlF bkF 65 wb fp (halfL (renBlk σ) blocks k) (.slice A blocks.length cap) ∧ Fr fp M w0 wb) (fun i _ => blocks.length - (intOf i).toNat)
  case atStart => exact ⟨0, by omega, rfl, by rw [half_zero]; exact h0, Fr.refl _ _ _⟩
  case round =>
    clear hG2
    obtain ⟨k, hk, rfl, hd, fr⟩ := hrel
    obtain ⟨wb, hwb⟩ : ∃ x, x = wr := ⟨_, rfl⟩
    subst hwb
    have RG : Row wb G 39 #[.int .i64 params, .int .i64 regs, .slice A blocks.length cap] := fr.row hG hGf hGM
    have y2 : wb.cell? ⟨G, 2, none⟩ = some (.slice A blocks.length cap) := RG.cell 2
    by_cases hkl : k < blocks.length
    case neg =>
      have hkn : ¬ (k : Int) < (blocks.length : Int) := by omega
      obtain rfl : k = blocks.length := by omega
      rw [half_end] at hd
      have RZ : Row wb (w.heap.size + 1) 39 #[.int .i64 0, .int .i64 0, .slice none 0 0] := fr.row RR0 hRf hRM
      have F := Lib.hid (fun (w8 : World) (n8 : Near w.heap.size 2 wb w8) => ToF.fin (k := 2) (show cdF.rep wb fp (⟨params, regs, blocks.map (renBlk σ)⟩ : CodeD) [.int .i64 params, .int .i64 regs, .slice A blocks.length cap] from ⟨_, rfl, hi0, hi1, hd⟩) hnd.out hfr2.out (hb0.trans (fr.below (fun x hx => by have := hfr2.out x hx; omega) hM2)) n8)
      have y0 : wb.cell? ⟨G, 0, none⟩ = some (.int .i64 params) := RG.cell 0
      have y1 : wb.cell? ⟨G, 1, none⟩ = some (.int .i64 regs) := RG.cell 1
      have s0 : wb.cell? ⟨w.heap.size + 1, 0, none⟩ = some (.int .i64 0) := RZ.cell 0
      have s1 : wb.cell? ⟨w.heap.size + 1, 1, none⟩ = some (.int .i64 0) := RZ.cell 1
      have s2 : wb.cell? ⟨w.heap.size + 1, 2, none⟩ = some (.slice none 0 0) := RZ.cell 2
      have sf0 : wb.frozen? ⟨w.heap.size + 1, 0, none⟩ = false := RZ.frozen 0
      have sf1 : wb.frozen? ⟨w.heap.size + 1, 1, none⟩ = false := RZ.frozen 1
      have sf2 : wb.frozen? ⟨w.heap.size + 1, 2, none⟩ = false := RZ.frozen 2
      clear hd fr
      go_wp2_with fail
      refine bodyPost_ret (v := .agg #[.int .i64 params, .int .i64 regs, .slice A blocks.length cap]) (by simp [results, Try.results39, go_sem, s0, s1, s2]) rfl (F.out _ (by repeat' (first | exact Near.refl _ _ _ | refine Near.set ?_ (by show w.heap.size ≤ _; simp) (by show _ < w.heap.size + 2; simp) _)))
    obtain ⟨⟨phis, ins, jump, on, next⟩, hx⟩ : ∃ x, blocks[k] = x := ⟨_, rfl⟩
    have hmem : (⟨phis, ins, jump, on, next⟩ : BlkD) ∈ blocks := hx ▸ List.getElem_mem hkl
    have htob := Lib.hid (hto.out _ hmem)
    have hjb : Hid (jump = 1 ↔ usesOnB jump = false) := hju.out _ hmem
    obtain ⟨b, f0, f1, f2, v0, v1, v2, rfl, hbf, hs0, hs1, hbx0, hbx1, n0, n1, d10, ⟨cur, Rb⟩, c0, c1, c2, c3, hj64, ho64, sl0, sl1, keepb, close⟩ := look_blk hd hnd.out (half_get _ _ hkl hx)
    obtain ⟨A9, p9, hf, hl9, hl9'⟩ := sl1.form
    change _ = Value.slice A9 ins.length p9 at hf
    subst hf
    obtain ⟨A0', p0, hf, hl0, hl0'⟩ := sl0.form
    change _ = Value.slice A0' phis.length p0 at hf
    subst hf
    have htp : Hid (∀ f ∈ phis, ∀ r ∈ regsPhi f, ∃ n : Nat, r = (n : Int) ∧ T[n]? = some (σ r)) := Lib.hid (fun f hf r hr => htob.out r (by unfold regsBlk; exact List.mem_append_left _ (List.mem_append_left _ (List.mem_flatMap.2 ⟨f, hf, hr⟩))))
    have hti : Hid (∀ y ∈ ins, ∀ r ∈ regsIns y, ∃ n : Nat, r = (n : Int) ∧ T[n]? = some (σ r)) := Lib.hid (fun f hf r hr => htob.out r (by unfold regsBlk; exact List.mem_append_left _ (List.mem_append_right _ (List.mem_flatMap.2 ⟨f, hf, hr⟩))))
    have EX : Hid ((halfL (renBlk σ) blocks k).set k ⟨phis.map (renPhi σ), ins.map (renIns σ), jump, if usesOnB jump = true then σ on else on, next⟩ = halfL (renBlk σ) blocks (k + 1)) := half_set (renBlk σ) _ hkl hx
    have hM0f : M ∉ f0 := fun h => hMf (hs0 M h)
    have hM1f : M ∉ f1 := fun h => hMf (hs1 M h)
    have hbM : b ≠ M := fun e => hMf (e ▸ hbf)
    have hbx01 : b ∉ f0 ++ f1 := fun h => by rcases List.mem_append.1 h with h | h; exact hbx0 h; exact hbx1 h
    have m0 : ∀ x ∈ f0, x ∈ f0 ++ f1 := fun x hx => List.mem_append_left _ hx
    have m1 : ∀ x ∈ f1, x ∈ f0 ++ f1 := fun x hx => List.mem_append_right _ hx
    have hs01 : ∀ x ∈ f0 ++ f1, x ∈ fp := fun x hx => by rcases List.mem_append.1 hx with h | h; exact hs0 x h; exact hs1 x h
    clear hx hd hmem
    have hkn : (k : Int) < (blocks.length : Int) := by omega
    have hki : (0 : Int) ≤ (k : Int) := by omega
    go_wp2_with fail
    go_loopw [8] (fun i wp => ∃ q : Nat, q ≤ phis.length ∧ i = .int .i64 q ∧ SlF phF 69 wp f0 (halfL (renPhi σ) phis q) (.slice A0' phis.length p0) ∧ Fr f0 M wb wp) (fun i _ => phis.length - (intOf i).toNat)
    case atStart => exact ⟨0, by omega, rfl, by rw [half_zero]; exact sl0, Fr.refl _ _ _⟩
    case round =>
      obtain ⟨q, hq, rfl, sl, fr2⟩ := hrel
      obtain ⟨wp, hwp⟩ : ∃ x, x = wr := ⟨_, rfl⟩
      subst hwp
      have kb := keepb M f0 wp hMf hbx0 fr2
      have r0 : wp.cell? ⟨b, k * 5, none⟩ = some (.slice A0' phis.length p0) := (kb.2 _).trans c0
      by_cases hql : q < phis.length
      case pos =>
        obtain ⟨⟨tg, args⟩, hy⟩ : ∃ y, phis[q] = y := ⟨_, rfl⟩
        have hyt := htp.out ⟨tg, args⟩ (hy ▸ List.getElem_mem hql)
        have hta : Hid (∀ r ∈ args, ∃ n : Nat, r = (n : Int) ∧ T[n]? = some (σ r)) := Lib.hid (fun r hr => hyt r (by simp [regsPhi, hr]))
        obtain ⟨bT, oT, mt, eA, rfl, hmT, _, hbT, hqT, hs64⟩ := to_cell hT (hyt tg (by simp [regsPhi]))
        clear hyt
        first | subst eA | (injection eA with eA; injection eA with eA eB _; replace eA := eA.symm; replace eB := eB.symm; subst eA; subst eB)
        obtain ⟨b1, g, va, rfl, hb1f, hgf, hbg, gn, e0, ef0, e1, ht64, sla, far1, close1⟩ := look_phi sl n0 (half_get _ _ hql hy)
        replace e0 : wp.cell? ⟨b1, q * 2, none⟩ = some (.int .i64 (mt : Int)) := e0
        obtain ⟨A1, p1, hf, hl1, hl1'⟩ := sla.form
        change _ = Value.slice A1 args.length p1 at hf
        subst hf
        replace hy := Lib.hid hy
        have hb1M : b1 ≠ M := fun e => hM0f (e ▸ hb1f)
        have hMg : M ∉ g := fun h => hM0f (hgf M h)
        clear kb
        have hqn : (q : Int) < (phis.length : Int) := by omega
        have hqi : (0 : Int) ≤ (q : Int) := by omega
        have hTf : bT ∉ fp := hBf.out bT hbT
        have q2 : wp.cell? ⟨bT, oT + mt, none⟩ = some (.int .i64 (σ (mt : Int))) := (cell_of_heap ((fr.trans (fr2.more hs0)).2 bT hTf (fun e => hMT.out bT hbT e)) _).trans hqT
        have hbb1 : b ≠ b1 := fun e => hbx0 (e ▸ hb1f)
        have hTb1 : bT ≠ b1 := fun e => hTf (e ▸ hs0 _ hb1f)
        have UD : Hid (∀ n : Int, Upd wp b1 (q * 2) n M (wp.drew.setCell ⟨b1, q * 2, none⟩ (.int .i64 n))) := Lib.hid (fun n => Upd.drawn (Below.refl _ _).drew (fun _ => rfl) hb1M)
        have hmn : (mt : Int) < (T.length : Int) := by omega
        have hmi : (0 : Int) ≤ (mt : Int) := by omega
        go_wp2_with fail
        refine wp_region_held_drew (S := fun w' => (w'.cell? ⟨b, k * 5, none⟩ = some (.slice (some ⟨b1, 0, none⟩) phis.length p0) ∧ w'.cell? ⟨bT, oT + mt, none⟩ = some (.int .i64 (σ (mt : Int))))) (by kernel_rfl) ?_ (fun hHeld => ?_)
        · exact ⟨r0, q2⟩
        replace r0 : wp.drew.cell? ⟨b, k * 5, none⟩ = some (.slice (some ⟨b1, 0, none⟩) phis.length p0) := r0
        replace q2 : wp.drew.cell? ⟨bT, oT + mt, none⟩ = some (.int .i64 (σ (mt : Int))) := q2
        replace e0 : wp.drew.cell? ⟨b1, q * 2, none⟩ = some (.int .i64 (mt : Int)) := e0
        replace ef0 : wp.drew.frozen? ⟨b1, q * 2, none⟩ = false := ef0
        replace UD : Hid (∀ n : Int, Upd wp b1 (q * 2) n M (wp.drew.setCell ⟨b1, q * 2, none⟩ (.int .i64 n))) := UD
        generalize wp.drew = wd at hHeld r0 q2 e0 ef0 UD ⊢
        refine reg_take (i := 0) (v := ?v1) rfl (by kernel_rfl) (by kernel_rfl) (by kernel_rfl) (fun _ _ _ h => h) (Or.inl ⟨by kernel_rfl, ?h1⟩) (by assumption) ?r1
        case h1 => (intro w hSw; (try dsimp only at hSw); go_simp; try with_reducible rfl)
        try simp only [Act.put, List.setIfInBounds_toArray, List.set_cons_zero, List.set_cons_succ]
        refine reg_take (i := 1) (v := ?v2) rfl (by kernel_rfl) (by kernel_rfl) (by kernel_rfl) (fun _ _ _ h => h) (Or.inl ⟨by kernel_rfl, ?h2⟩) (by assumption) ?r2
        case h2 => (intro w hSw; (try dsimp only at hSw); go_simp; try with_reducible rfl)
        try simp only [Act.put, List.setIfInBounds_toArray, List.set_cons_zero, List.set_cons_succ]
        refine reg_take (i := 2) (v := ?v3) rfl (by kernel_rfl) (by kernel_rfl) (by kernel_rfl) (fun _ _ _ h => h) (Or.inl ⟨by kernel_rfl, ?h3⟩) (by assumption) ?r3
        case h3 => (intro w hSw; (try dsimp only at hSw); go_simp; try with_reducible rfl)
        try simp only [Act.put, List.setIfInBounds_toArray, List.set_cons_zero, List.set_cons_succ]
        refine reg_take (i := 3) (v := ?v4) rfl (by kernel_rfl) (by kernel_rfl) (by kernel_rfl) (fun _ _ _ h => h) (Or.inl ⟨by kernel_rfl, ?h4⟩) (by assumption) ?r4
        case h4 => (intro w hSw; (try dsimp only at hSw); go_simp; try with_reducible rfl)
        try simp only [Act.put, List.setIfInBounds_toArray, List.set_cons_zero, List.set_cons_succ]
        refine reg_take (i := 4) (v := ?v5) rfl (by kernel_rfl) (by kernel_rfl) (by kernel_rfl) (fun _ _ _ h => h) (Or.inl ⟨by kernel_rfl, ?h5⟩) (by assumption) ?r5
        case h5 => (intro w hSw; (try dsimp only at hSw); go_simp; try with_reducible rfl)
        try simp only [Act.put, List.setIfInBounds_toArray, List.set_cons_zero, List.set_cons_succ]
        refine reg_take (i := 5) (v := ?v6) rfl (by kernel_rfl) (by kernel_rfl) (by kernel_rfl) (fun _ _ _ h => h) (Or.inl ⟨by kernel_rfl, ?h6⟩) (by assumption) ?r6
        case h6 => (intro w hSw; (try dsimp only at hSw); go_simp; try with_reducible rfl)
        try simp only [Act.put, List.setIfInBounds_toArray, List.set_cons_zero, List.set_cons_succ]
        refine reg_take (i := 6) (v := ?v7) rfl (by kernel_rfl) (by kernel_rfl) (by kernel_rfl) (fun _ _ _ h => h) (Or.inl ⟨by kernel_rfl, ?h7⟩) (by assumption) ?r7
        case h7 => (intro w hSw; (try dsimp only at hSw); go_simp; try with_reducible rfl)
        try simp only [Act.put, List.setIfInBounds_toArray, List.set_cons_zero, List.set_cons_succ]
        refine reg_take (i := 7) (v := ?v8) rfl (by kernel_rfl) (by kernel_rfl) (by kernel_rfl) (fun _ _ _ h => h) (Or.inl ⟨by kernel_rfl, ?h8⟩) (by assumption) ?r8
        case h8 => (intro w hSw; (try dsimp only at hSw); go_simp; try with_reducible rfl)
        try simp only [Act.put, List.setIfInBounds_toArray, List.set_cons_zero, List.set_cons_succ]
        refine reg_take (i := 8) (v := ?v9) rfl (by kernel_rfl) (by kernel_rfl) (by kernel_rfl) (fun _ _ _ h => h) (Or.inl ⟨by kernel_rfl, ?h9⟩) (by assumption) ?r9
        case h9 => (intro w hSw; (try dsimp only at hSw); go_simp; try with_reducible rfl)
        try simp only [Act.put, List.setIfInBounds_toArray, List.set_cons_zero, List.set_cons_succ]
        refine reg_take (i := 9) (v := ?v10) rfl (by kernel_rfl) (by kernel_rfl) (by kernel_rfl) (fun _ _ _ h => h) (Or.inl ⟨by kernel_rfl, ?h10⟩) (by assumption) ?r10
        case h10 => (intro w hSw; (try dsimp only at hSw); go_simp; try with_reducible rfl)
        try simp only [Act.put, List.setIfInBounds_toArray, List.set_cons_zero, List.set_cons_succ]
        refine reg_take (i := 10) (v := ?v11) rfl (by kernel_rfl) (by kernel_rfl) (by kernel_rfl) (fun _ _ _ h => h) (Or.inl ⟨by kernel_rfl, ?h11⟩) (by assumption) ?r11
        case h11 => (intro w hSw; (try dsimp only at hSw); go_simp; try with_reducible rfl)
        try simp only [Act.put, List.setIfInBounds_toArray, List.set_cons_zero, List.set_cons_succ]
        refine reg_take (i := 11) (v := ?v12) rfl (by kernel_rfl) (by kernel_rfl) (by kernel_rfl) (fun _ _ _ h => h) (Or.inl ⟨by kernel_rfl, ?h12⟩) (by assumption) ?r12
        case h12 => (intro w hSw; (try dsimp only at hSw); go_simp; try with_reducible rfl)
        try simp only [Act.put, List.setIfInBounds_toArray, List.set_cons_zero, List.set_cons_succ]
        refine reg_take (i := 12) (v := ?v13) rfl (by kernel_rfl) (by kernel_rfl) (by kernel_rfl) (fun _ _ _ h => h) (Or.inl ⟨by kernel_rfl, ?h13⟩) (by assumption) ?r13
        case h13 => (intro w hSw; (try dsimp only at hSw); go_simp; try with_reducible rfl)
        try simp only [Act.put, List.setIfInBounds_toArray, List.set_cons_zero, List.set_cons_succ]
        refine reg_call (i := 13) (by kernel_rfl) rfl (fun K hK => ?_)
        go_simp
        refine hK.out _ _ ?_ (fun hHeld => ?_)
        · exact ⟨r0, q2⟩
        clear hK K
        try simp only [Act.put, List.setIfInBounds_toArray, List.set_cons_zero, List.set_cons_succ]
        refine reg_take (i := 14) (v := ?v14) rfl (by kernel_rfl) (by kernel_rfl) (by kernel_rfl) (fun _ _ _ h => h) (Or.inl ⟨by kernel_rfl, ?h14⟩) (by assumption) ?r14
        case h14 => (intro w hSw; (try dsimp only at hSw); go_simp; try with_reducible rfl)
        try simp only [Act.put, List.setIfInBounds_toArray, List.set_cons_zero, List.set_cons_succ]
        refine reg_take (i := 15) (v := ?v15) rfl (by kernel_rfl) (by kernel_rfl) (by kernel_rfl) (fun _ _ _ h => h) (Or.inl ⟨by kernel_rfl, ?h15⟩) (by assumption) ?r15
        case h15 => (intro w hSw; (try dsimp only at hSw); go_simp; try with_reducible rfl)
        try simp only [Act.put, List.setIfInBounds_toArray, List.set_cons_zero, List.set_cons_succ]
        refine reg_take (i := 16) (v := ?v16) rfl (by kernel_rfl) (by kernel_rfl) (by kernel_rfl) (fun _ _ _ h => h) (Or.inl ⟨by kernel_rfl, ?h16⟩) (by assumption) ?r16
        case h16 => (intro w hSw; (try dsimp only at hSw); go_simp; try with_reducible rfl)
        try simp only [Act.put, List.setIfInBounds_toArray, List.set_cons_zero, List.set_cons_succ]
        refine reg_take (i := 17) (v := ?v17) rfl (by kernel_rfl) (by kernel_rfl) (by kernel_rfl) (fun _ _ _ h => h) (Or.inl ⟨by kernel_rfl, ?h17⟩) (by assumption) ?r17
        case h17 => (intro w hSw; (try dsimp only at hSw); go_simp; try with_reducible rfl)
        try simp only [Act.put, List.setIfInBounds_toArray, List.set_cons_zero, List.set_cons_succ]
        refine reg_call (i := 18) (by kernel_rfl) rfl (fun K hK => ?_)
        go_simp
        refine hK.out _ _ ?_ (fun hHeld => ?_)
        · exact ⟨(far_cell hbb1).trans r0, (far_cell hTb1).trans q2⟩
        clear hK K
        try simp only [Act.put, List.setIfInBounds_toArray, List.set_cons_zero, List.set_cons_succ]
        refine wpAnyH_done (by kernel_rfl) ?_ _
        have up1 := UD.out (σ (mt : Int))
        clear UD r0 q2 e0 ef0
        generalize wd.setCell ⟨b1, q * 2, none⟩ (.int .i64 (σ (mt : Int))) = w1 at up1 ⊢
        have hn3 : I64 (σ (mt : Int)) := hs64

        obtain ⟨e1', sla1, fr1⟩ := far1 M _ w1 hM0f up1
        have frb := fr2.trans fr1
        have kb1 := keepb M f0 w1 hMf hbx0 frb
        have r1 : w1.cell? ⟨b, k * 5, none⟩ = some (.slice (some ⟨b1, 0, none⟩) phis.length p0) := (kb1.2 _).trans c0
        clear kb1 hqT hTf hmT hbT hmn hmi
        go_wp2_with fail
        go_loopw [9] (fun i wa => ∃ p : Nat, p ≤ args.length ∧ i = .int .i64 p ∧ SlF intF 3 wa g (halfL σ args p) (.slice A1 args.length p1) ∧ Fr g M w1 wa) (fun i _ => args.length - (intOf i).toNat)
        case atStart => exact ⟨0, by omega, rfl, by rw [half_zero]; exact sla1, Fr.refl _ _ _⟩
        case round =>
          obtain ⟨p, hp, rfl, sl4, fr4⟩ := hrel
          have fr04 := frb.trans (fr4.more hgf)
          have kb4 := keepb M f0 wr hMf hbx0 fr04
          have q0 : wr.cell? ⟨b, k * 5, none⟩ = some (.slice (some ⟨b1, 0, none⟩) phis.length p0) := (kb4.2 _).trans c0
          have q1 : wr.cell? ⟨b1, q * 2 + 1, none⟩ = some (.slice A1 args.length p1) := (cell_of_heap (fr4.2 b1 hbg hb1M) _).trans e1'
          by_cases hpl : p < args.length
          case pos =>
            obtain ⟨a, hx⟩ : ∃ a, args[p] = a := ⟨_, rfl⟩
            obtain ⟨bT, oT, ma, eA, rfl, hmT, _, hbT, hqT, hs64⟩ := to_cell hT (hta.out a (hx ▸ List.getElem_mem hpl))
            first | subst eA | (injection eA with eA; injection eA with eA eB _; replace eA := eA.symm; replace eB := eB.symm; subst eA; subst eB)
            obtain ⟨b2, rfl, hb2, d0, df0, ha64, close2⟩ := look_int sl4 gn (half_get _ _ hpl hx)
            have E5 : Hid ((halfL σ args p).set p (σ (ma : Int)) = halfL σ args (p + 1)) := half_set _ _ hpl hx
            clear hx
            have hb2M : b2 ≠ M := fun e => hMg (e ▸ hb2)
            have hTf : bT ∉ fp := hBf.out bT hbT
            have q2 : wr.cell? ⟨bT, oT + ma, none⟩ = some (.int .i64 (σ (ma : Int))) := (cell_of_heap ((fr.trans (fr04.more hs0)).2 bT hTf (fun e => hMT.out bT hbT e)) _).trans hqT
            have hbb2 : b ≠ b2 := fun e => hbx0 (hgf _ (e ▸ hb2))
            have hb1b2 : b1 ≠ b2 := fun e => hbg (e ▸ hb2)
            have hTb2 : bT ≠ b2 := fun e => hTf (e ▸ hs0 _ (hgf _ hb2))
            have UD : Hid (∀ n : Int, Upd wr b2 p n M (wr.drew.setCell ⟨b2, p, none⟩ (.int .i64 n))) := Lib.hid (fun n => Upd.drawn (Below.refl _ _).drew (fun _ => rfl) hb2M)
            have hpn : (p : Int) < (args.length : Int) := by omega
            have hpi : (0 : Int) ≤ (p : Int) := by omega
            have hmn : (ma : Int) < (T.length : Int) := by omega
            have hmi : (0 : Int) ≤ (ma : Int) := by omega
            go_wp2_with fail
            refine wp_region_held_drew (S := fun w' => (w'.cell? ⟨b, k * 5, none⟩ = some (.slice (some ⟨b1, 0, none⟩) phis.length p0) ∧ w'.cell? ⟨b1, q * 2 + 1, none⟩ = some (.slice (some ⟨b2, 0, none⟩) args.length p1) ∧ w'.cell? ⟨bT, oT + ma, none⟩ = some (.int .i64 (σ (ma : Int))))) (by kernel_rfl) ?_ (fun hHeld => ?_)
            · exact ⟨q0, q1, q2⟩
            replace q0 : wr.drew.cell? ⟨b, k * 5, none⟩ = some (.slice (some ⟨b1, 0, none⟩) phis.length p0) := q0
            replace q1 : wr.drew.cell? ⟨b1, q * 2 + 1, none⟩ = some (.slice (some ⟨b2, 0, none⟩) args.length p1) := q1
            replace q2 : wr.drew.cell? ⟨bT, oT + ma, none⟩ = some (.int .i64 (σ (ma : Int))) := q2
            replace d0 : wr.drew.cell? ⟨b2, p, none⟩ = some (.int .i64 (ma : Int)) := d0
            replace df0 : wr.drew.frozen? ⟨b2, p, none⟩ = false := df0
            replace UD : Hid (∀ n : Int, Upd wr b2 p n M (wr.drew.setCell ⟨b2, p, none⟩ (.int .i64 n))) := UD
            generalize wr.drew = wd at hHeld q0 q1 q2 d0 df0 UD ⊢
            refine reg_take (i := 0) (v := ?v18) rfl (by kernel_rfl) (by kernel_rfl) (by kernel_rfl) (fun _ _ _ h => h) (Or.inl ⟨by kernel_rfl, ?h18⟩) (by assumption) ?r18
            case h18 => (intro w hSw; (try dsimp only at hSw); go_simp; try with_reducible rfl)
            try simp only [Act.put, List.setIfInBounds_toArray, List.set_cons_zero, List.set_cons_succ]
            refine reg_take (i := 1) (v := ?v19) rfl (by kernel_rfl) (by kernel_rfl) (by kernel_rfl) (fun _ _ _ h => h) (Or.inl ⟨by kernel_rfl, ?h19⟩) (by assumption) ?r19
            case h19 => (intro w hSw; (try dsimp only at hSw); go_simp; try with_reducible rfl)
            try simp only [Act.put, List.setIfInBounds_toArray, List.set_cons_zero, List.set_cons_succ]
            refine reg_take (i := 2) (v := ?v20) rfl (by kernel_rfl) (by kernel_rfl) (by kernel_rfl) (fun _ _ _ h => h) (Or.inl ⟨by kernel_rfl, ?h20⟩) (by assumption) ?r20
            case h20 => (intro w hSw; (try dsimp only at hSw); go_simp; try with_reducible rfl)
            try simp only [Act.put, List.setIfInBounds_toArray, List.set_cons_zero, List.set_cons_succ]
            refine reg_take (i := 3) (v := ?v21) rfl (by kernel_rfl) (by kernel_rfl) (by kernel_rfl) (fun _ _ _ h => h) (Or.inl ⟨by kernel_rfl, ?h21⟩) (by assumption) ?r21
            case h21 => (intro w hSw; (try dsimp only at hSw); go_simp; try with_reducible rfl)
            try simp only [Act.put, List.setIfInBounds_toArray, List.set_cons_zero, List.set_cons_succ]
            refine reg_take (i := 4) (v := ?v22) rfl (by kernel_rfl) (by kernel_rfl) (by kernel_rfl) (fun _ _ _ h => h) (Or.inl ⟨by kernel_rfl, ?h22⟩) (by assumption) ?r22
            case h22 => (intro w hSw; (try dsimp only at hSw); go_simp; try with_reducible rfl)
            try simp only [Act.put, List.setIfInBounds_toArray, List.set_cons_zero, List.set_cons_succ]
            refine reg_take (i := 5) (v := ?v23) rfl (by kernel_rfl) (by kernel_rfl) (by kernel_rfl) (fun _ _ _ h => h) (Or.inl ⟨by kernel_rfl, ?h23⟩) (by assumption) ?r23
            case h23 => (intro w hSw; (try dsimp only at hSw); go_simp; try with_reducible rfl)
            try simp only [Act.put, List.setIfInBounds_toArray, List.set_cons_zero, List.set_cons_succ]
            refine reg_take (i := 6) (v := ?v24) rfl (by kernel_rfl) (by kernel_rfl) (by kernel_rfl) (fun _ _ _ h => h) (Or.inl ⟨by kernel_rfl, ?h24⟩) (by assumption) ?r24
            case h24 => (intro w hSw; (try dsimp only at hSw); go_simp; try with_reducible rfl)
            try simp only [Act.put, List.setIfInBounds_toArray, List.set_cons_zero, List.set_cons_succ]
            refine reg_take (i := 7) (v := ?v25) rfl (by kernel_rfl) (by kernel_rfl) (by kernel_rfl) (fun _ _ _ h => h) (Or.inl ⟨by kernel_rfl, ?h25⟩) (by assumption) ?r25
            case h25 => (intro w hSw; (try dsimp only at hSw); go_simp; try with_reducible rfl)
            try simp only [Act.put, List.setIfInBounds_toArray, List.set_cons_zero, List.set_cons_succ]
            refine reg_take (i := 8) (v := ?v26) rfl (by kernel_rfl) (by kernel_rfl) (by kernel_rfl) (fun _ _ _ h => h) (Or.inl ⟨by kernel_rfl, ?h26⟩) (by assumption) ?r26
            case h26 => (intro w hSw; (try dsimp only at hSw); go_simp; try with_reducible rfl)
            try simp only [Act.put, List.setIfInBounds_toArray, List.set_cons_zero, List.set_cons_succ]
            refine reg_take (i := 9) (v := ?v27) rfl (by kernel_rfl) (by kernel_rfl) (by kernel_rfl) (fun _ _ _ h => h) (Or.inl ⟨by kernel_rfl, ?h27⟩) (by assumption) ?r27
            case h27 => (intro w hSw; (try dsimp only at hSw); go_simp; try with_reducible rfl)
            try simp only [Act.put, List.setIfInBounds_toArray, List.set_cons_zero, List.set_cons_succ]
            refine reg_take (i := 10) (v := ?v28) rfl (by kernel_rfl) (by kernel_rfl) (by kernel_rfl) (fun _ _ _ h => h) (Or.inl ⟨by kernel_rfl, ?h28⟩) (by assumption) ?r28
            case h28 => (intro w hSw; (try dsimp only at hSw); go_simp; try with_reducible rfl)
            try simp only [Act.put, List.setIfInBounds_toArray, List.set_cons_zero, List.set_cons_succ]
            refine reg_take (i := 11) (v := ?v29) rfl (by kernel_rfl) (by kernel_rfl) (by kernel_rfl) (fun _ _ _ h => h) (Or.inl ⟨by kernel_rfl, ?h29⟩) (by assumption) ?r29
            case h29 => (intro w hSw; (try dsimp only at hSw); go_simp; try with_reducible rfl)
            try simp only [Act.put, List.setIfInBounds_toArray, List.set_cons_zero, List.set_cons_succ]
            refine reg_take (i := 12) (v := ?v30) rfl (by kernel_rfl) (by kernel_rfl) (by kernel_rfl) (fun _ _ _ h => h) (Or.inl ⟨by kernel_rfl, ?h30⟩) (by assumption) ?r30
            case h30 => (intro w hSw; (try dsimp only at hSw); go_simp; try with_reducible rfl)
            try simp only [Act.put, List.setIfInBounds_toArray, List.set_cons_zero, List.set_cons_succ]
            refine reg_take (i := 13) (v := ?v31) rfl (by kernel_rfl) (by kernel_rfl) (by kernel_rfl) (fun _ _ _ h => h) (Or.inl ⟨by kernel_rfl, ?h31⟩) (by assumption) ?r31
            case h31 => (intro w hSw; (try dsimp only at hSw); go_simp; try with_reducible rfl)
            try simp only [Act.put, List.setIfInBounds_toArray, List.set_cons_zero, List.set_cons_succ]
            refine reg_take (i := 14) (v := ?v32) rfl (by kernel_rfl) (by kernel_rfl) (by kernel_rfl) (fun _ _ _ h => h) (Or.inl ⟨by kernel_rfl, ?h32⟩) (by assumption) ?r32
            case h32 => (intro w hSw; (try dsimp only at hSw); go_simp; try with_reducible rfl)
            try simp only [Act.put, List.setIfInBounds_toArray, List.set_cons_zero, List.set_cons_succ]
            refine reg_take (i := 15) (v := ?v33) rfl (by kernel_rfl) (by kernel_rfl) (by kernel_rfl) (fun _ _ _ h => h) (Or.inl ⟨by kernel_rfl, ?h33⟩) (by assumption) ?r33
            case h33 => (intro w hSw; (try dsimp only at hSw); go_simp; try with_reducible rfl)
            try simp only [Act.put, List.setIfInBounds_toArray, List.set_cons_zero, List.set_cons_succ]
            refine reg_take (i := 16) (v := ?v34) rfl (by kernel_rfl) (by kernel_rfl) (by kernel_rfl) (fun _ _ _ h => h) (Or.inl ⟨by kernel_rfl, ?h34⟩) (by assumption) ?r34
            case h34 => (intro w hSw; (try dsimp only at hSw); go_simp; try with_reducible rfl)
            try simp only [Act.put, List.setIfInBounds_toArray, List.set_cons_zero, List.set_cons_succ]
            refine reg_take (i := 17) (v := ?v35) rfl (by kernel_rfl) (by kernel_rfl) (by kernel_rfl) (fun _ _ _ h => h) (Or.inl ⟨by kernel_rfl, ?h35⟩) (by assumption) ?r35
            case h35 => (intro w hSw; (try dsimp only at hSw); go_simp; try with_reducible rfl)
            try simp only [Act.put, List.setIfInBounds_toArray, List.set_cons_zero, List.set_cons_succ]
            refine reg_take (i := 18) (v := ?v36) rfl (by kernel_rfl) (by kernel_rfl) (by kernel_rfl) (fun _ _ _ h => h) (Or.inl ⟨by kernel_rfl, ?h36⟩) (by assumption) ?r36
            case h36 => (intro w hSw; (try dsimp only at hSw); go_simp; try with_reducible rfl)
            try simp only [Act.put, List.setIfInBounds_toArray, List.set_cons_zero, List.set_cons_succ]
            refine reg_take (i := 19) (v := ?v37) rfl (by kernel_rfl) (by kernel_rfl) (by kernel_rfl) (fun _ _ _ h => h) (Or.inl ⟨by kernel_rfl, ?h37⟩) (by assumption) ?r37
            case h37 => (intro w hSw; (try dsimp only at hSw); go_simp; try with_reducible rfl)
            try simp only [Act.put, List.setIfInBounds_toArray, List.set_cons_zero, List.set_cons_succ]
            refine reg_call (i := 20) (by kernel_rfl) rfl (fun K hK => ?_)
            go_simp
            refine hK.out _ _ ?_ (fun hHeld => ?_)
            · exact ⟨q0, q1, q2⟩
            clear hK K
            try simp only [Act.put, List.setIfInBounds_toArray, List.set_cons_zero, List.set_cons_succ]
            refine reg_take (i := 21) (v := ?v38) rfl (by kernel_rfl) (by kernel_rfl) (by kernel_rfl) (fun _ _ _ h => h) (Or.inl ⟨by kernel_rfl, ?h38⟩) (by assumption) ?r38
            case h38 => (intro w hSw; (try dsimp only at hSw); go_simp; try with_reducible rfl)
            try simp only [Act.put, List.setIfInBounds_toArray, List.set_cons_zero, List.set_cons_succ]
            refine reg_take (i := 22) (v := ?v39) rfl (by kernel_rfl) (by kernel_rfl) (by kernel_rfl) (fun _ _ _ h => h) (Or.inl ⟨by kernel_rfl, ?h39⟩) (by assumption) ?r39
            case h39 => (intro w hSw; (try dsimp only at hSw); go_simp; try with_reducible rfl)
            try simp only [Act.put, List.setIfInBounds_toArray, List.set_cons_zero, List.set_cons_succ]
            refine reg_take (i := 23) (v := ?v40) rfl (by kernel_rfl) (by kernel_rfl) (by kernel_rfl) (fun _ _ _ h => h) (Or.inl ⟨by kernel_rfl, ?h40⟩) (by assumption) ?r40
            case h40 => (intro w hSw; (try dsimp only at hSw); go_simp; try with_reducible rfl)
            try simp only [Act.put, List.setIfInBounds_toArray, List.set_cons_zero, List.set_cons_succ]
            refine reg_call (i := 24) (by kernel_rfl) rfl (fun K hK => ?_)
            go_simp
            refine hK.out _ _ ?_ (fun hHeld => ?_)
            · exact ⟨(far_cell hbb2).trans q0, (far_cell hb1b2).trans q1, (far_cell hTb2).trans q2⟩
            clear hK K
            try simp only [Act.put, List.setIfInBounds_toArray, List.set_cons_zero, List.set_cons_succ]
            refine wpAnyH_done (by kernel_rfl) ?_ _
            obtain ⟨sl6, fr6⟩ := close2 M _ _ hMg hs64 (UD.out (σ (ma : Int)))
            rw [E5.out] at sl6
            clear E5 d0 df0 UD q0 q1 q2
            go_wp2_with fail
            go_roundw
            case rel => exact ⟨p + 1, by omega, by go_num, sl6, fr4.trans fr6⟩
            case measure => simp [intOf]; omega
          case neg =>
            have hpn : ¬ (p : Int) < (args.length : Int) := by omega
            obtain rfl : p = args.length := by omega
            rw [half_end] at sl4
            obtain ⟨sl7, fr7⟩ := close1 M _ w1 wr _ hM0f hn3 up1 fr4 sl4
            have E7 : (halfL (renPhi σ) phis q).set q ⟨σ (mt : Int), args.map σ⟩ = halfL (renPhi σ) phis (q + 1) := half_set _ _ hql hy.out
            rw [E7] at sl7
            clear E7
            go_wp2_with fail
            go_roundw
            case rel => exact ⟨q + 1, by omega, by go_num, sl7, fr2.trans fr7⟩
            case measure => simp [intOf]; omega

      case neg =>
        have hqn : ¬ (q : Int) < (phis.length : Int) := by omega
        obtain rfl : q = phis.length := by omega
        rw [half_end] at sl
        have sl1p := fr2.sl sl1 d10 hM1f
        have r9 : wp.cell? ⟨b, k * 5 + 1, none⟩ = some (.slice A9 ins.length p9) := (kb.2 _).trans c1
        obtain ⟨slP, frP⟩ : SlF phF 69 wp f0 (phis.map (renPhi σ)) (.slice A0' phis.length p0) ∧ Fr f0 M wb wp := ⟨sl, fr2⟩
        clear kb sl fr2 sl0 sl1
        go_wp2_with fail
        go_loopw [10] (fun i wi => ∃ q : Nat, q ≤ ins.length ∧ i = .int .i64 q ∧ SlF isF 72 wi f1 (halfL (renIns σ) ins q) (.slice A9 ins.length p9) ∧ Fr f1 M wp wi) (fun i _ => ins.length - (intOf i).toNat)
        case atStart => exact ⟨0, by omega, rfl, by rw [half_zero]; exact sl1p, Fr.refl _ _ _⟩
        case round =>
          clear sl1p r0 r9
          obtain ⟨q, hq, rfl, sl, fr2⟩ := hrel
          obtain ⟨wi, hwi⟩ : ∃ x, x = wr := ⟨_, rfl⟩
          subst hwi
          have frI : Fr (f0 ++ f1) M wb wi := (frP.more m0).trans (fr2.more m1)
          have kb := keepb M (f0 ++ f1) wi hMf hbx01 frI
          have r0 : wi.cell? ⟨b, k * 5 + 1, none⟩ = some (.slice A9 ins.length p9) := (kb.2 _).trans c1
          by_cases hql : q < ins.length
          case pos =>
            obtain ⟨⟨op, tg, args, n⟩, hy⟩ : ∃ y, ins[q] = y := ⟨_, rfl⟩
            have hyt := hti.out ⟨op, tg, args, n⟩ (hy ▸ List.getElem_mem hql)
            have hta : Hid (∀ r ∈ args, ∃ n : Nat, r = (n : Int) ∧ T[n]? = some (σ r)) := Lib.hid (fun r hr => hyt r (by simp [regsIns, hr]))
            have hyt' : Hid (setsB op = true → ∃ n : Nat, tg = (n : Int) ∧ T[n]? = some (σ tg)) := Lib.hid (fun h => hyt tg (by simp [regsIns, h]))
            clear hyt
            obtain ⟨b1, g, va, rfl, hb1f, hgf, hbg, gn, e0, e1, ef1, e2, ho, ht64, sla, far1, close1⟩ := look_ins sl n1 (half_get _ _ hql hy)
            replace e0 : wi.cell? ⟨b1, q * 4, none⟩ = some (.int .i64 op) := e0
            replace e1 : wi.cell? ⟨b1, q * 4 + 1, none⟩ = some (.int .i64 tg) := e1
            obtain ⟨A1, p1, hf, hl1, hl1'⟩ := sla.form
            change _ = Value.slice A1 args.length p1 at hf
            subst hf
            replace hy := Lib.hid hy
            have hb1M : b1 ≠ M := fun e => hM1f (e ▸ hb1f)
            have hMg : M ∉ g := fun h => hM1f (hgf M h)
            clear kb
            have hqn : (q : Int) < (ins.length : Int) := by omega
            have hqi : (0 : Int) ≤ (q : Int) := by omega
            go_wp2_with fail
            refine (spec_l7Makes op _).mono ?_
            rintro e w' ⟨rfl, rfl⟩
            by_cases hset : setsB op = true
            case pos =>
              obtain ⟨bT, oT, mt, eA, rfl, hmT, _, hbT, hqT, hs64⟩ := to_cell hT (hyt'.out hset)
              first | subst eA | (injection eA with eA; injection eA with eA eB _; replace eA := eA.symm; replace eB := eB.symm; subst eA; subst eB)
              rw [hset]
              replace hset := Lib.hid hset
              have hTf : bT ∉ fp := hBf.out bT hbT
              have q2 : wi.cell? ⟨bT, oT + mt, none⟩ = some (.int .i64 (σ (mt : Int))) := (cell_of_heap ((fr.trans (frI.more hs01)).2 bT hTf (fun e => hMT.out bT hbT e)) _).trans hqT
              have hbb1 : b ≠ b1 := fun e => hbx1 (e ▸ hb1f)
              have hTb1 : bT ≠ b1 := fun e => hTf (e ▸ hs1 _ hb1f)
              have UD : Hid (∀ n : Int, Upd wi b1 (q * 4 + 1) n M (wi.drew.setCell ⟨b1, q * 4 + 1, none⟩ (.int .i64 n))) := Lib.hid (fun n => Upd.drawn (Below.refl _ _).drew (fun _ => rfl) hb1M)
              have hmn : (mt : Int) < (T.length : Int) := by omega
              have hmi : (0 : Int) ≤ (mt : Int) := by omega
              go_wp2_with fail
              refine wp_region_held_drew (S := fun w' => (w'.cell? ⟨b, k * 5 + 1, none⟩ = some (.slice (some ⟨b1, 0, none⟩) ins.length p9) ∧ w'.cell? ⟨bT, oT + mt, none⟩ = some (.int .i64 (σ (mt : Int))))) (by kernel_rfl) ?_ (fun hHeld => ?_)
              · exact ⟨r0, q2⟩
              replace r0 : wi.drew.cell? ⟨b, k * 5 + 1, none⟩ = some (.slice (some ⟨b1, 0, none⟩) ins.length p9) := r0
              replace q2 : wi.drew.cell? ⟨bT, oT + mt, none⟩ = some (.int .i64 (σ (mt : Int))) := q2
              replace e1 : wi.drew.cell? ⟨b1, q * 4 + 1, none⟩ = some (.int .i64 (mt : Int)) := e1
              replace ef1 : wi.drew.frozen? ⟨b1, q * 4 + 1, none⟩ = false := ef1
              replace UD : Hid (∀ n : Int, Upd wi b1 (q * 4 + 1) n M (wi.drew.setCell ⟨b1, q * 4 + 1, none⟩ (.int .i64 n))) := UD
              generalize wi.drew = wd at hHeld r0 q2 e1 ef1 UD ⊢
              refine reg_take (i := 0) (v := ?v41) rfl (by kernel_rfl) (by kernel_rfl) (by kernel_rfl) (fun _ _ _ h => h) (Or.inl ⟨by kernel_rfl, ?h41⟩) (by assumption) ?r41
              case h41 => (intro w hSw; (try dsimp only at hSw); go_simp; try with_reducible rfl)
              try simp only [Act.put, List.setIfInBounds_toArray, List.set_cons_zero, List.set_cons_succ]
              refine reg_take (i := 1) (v := ?v42) rfl (by kernel_rfl) (by kernel_rfl) (by kernel_rfl) (fun _ _ _ h => h) (Or.inl ⟨by kernel_rfl, ?h42⟩) (by assumption) ?r42
              case h42 => (intro w hSw; (try dsimp only at hSw); go_simp; try with_reducible rfl)
              try simp only [Act.put, List.setIfInBounds_toArray, List.set_cons_zero, List.set_cons_succ]
              refine reg_take (i := 2) (v := ?v43) rfl (by kernel_rfl) (by kernel_rfl) (by kernel_rfl) (fun _ _ _ h => h) (Or.inl ⟨by kernel_rfl, ?h43⟩) (by assumption) ?r43
              case h43 => (intro w hSw; (try dsimp only at hSw); go_simp; try with_reducible rfl)
              try simp only [Act.put, List.setIfInBounds_toArray, List.set_cons_zero, List.set_cons_succ]
              refine reg_take (i := 3) (v := ?v44) rfl (by kernel_rfl) (by kernel_rfl) (by kernel_rfl) (fun _ _ _ h => h) (Or.inl ⟨by kernel_rfl, ?h44⟩) (by assumption) ?r44
              case h44 => (intro w hSw; (try dsimp only at hSw); go_simp; try with_reducible rfl)
              try simp only [Act.put, List.setIfInBounds_toArray, List.set_cons_zero, List.set_cons_succ]
              refine reg_take (i := 4) (v := ?v45) rfl (by kernel_rfl) (by kernel_rfl) (by kernel_rfl) (fun _ _ _ h => h) (Or.inl ⟨by kernel_rfl, ?h45⟩) (by assumption) ?r45
              case h45 => (intro w hSw; (try dsimp only at hSw); go_simp; try with_reducible rfl)
              try simp only [Act.put, List.setIfInBounds_toArray, List.set_cons_zero, List.set_cons_succ]
              refine reg_take (i := 5) (v := ?v46) rfl (by kernel_rfl) (by kernel_rfl) (by kernel_rfl) (fun _ _ _ h => h) (Or.inl ⟨by kernel_rfl, ?h46⟩) (by assumption) ?r46
              case h46 => (intro w hSw; (try dsimp only at hSw); go_simp; try with_reducible rfl)
              try simp only [Act.put, List.setIfInBounds_toArray, List.set_cons_zero, List.set_cons_succ]
              refine reg_take (i := 6) (v := ?v47) rfl (by kernel_rfl) (by kernel_rfl) (by kernel_rfl) (fun _ _ _ h => h) (Or.inl ⟨by kernel_rfl, ?h47⟩) (by assumption) ?r47
              case h47 => (intro w hSw; (try dsimp only at hSw); go_simp; try with_reducible rfl)
              try simp only [Act.put, List.setIfInBounds_toArray, List.set_cons_zero, List.set_cons_succ]
              refine reg_take (i := 7) (v := ?v48) rfl (by kernel_rfl) (by kernel_rfl) (by kernel_rfl) (fun _ _ _ h => h) (Or.inl ⟨by kernel_rfl, ?h48⟩) (by assumption) ?r48
              case h48 => (intro w hSw; (try dsimp only at hSw); go_simp; try with_reducible rfl)
              try simp only [Act.put, List.setIfInBounds_toArray, List.set_cons_zero, List.set_cons_succ]
              refine reg_take (i := 8) (v := ?v49) rfl (by kernel_rfl) (by kernel_rfl) (by kernel_rfl) (fun _ _ _ h => h) (Or.inl ⟨by kernel_rfl, ?h49⟩) (by assumption) ?r49
              case h49 => (intro w hSw; (try dsimp only at hSw); go_simp; try with_reducible rfl)
              try simp only [Act.put, List.setIfInBounds_toArray, List.set_cons_zero, List.set_cons_succ]
              refine reg_take (i := 9) (v := ?v50) rfl (by kernel_rfl) (by kernel_rfl) (by kernel_rfl) (fun _ _ _ h => h) (Or.inl ⟨by kernel_rfl, ?h50⟩) (by assumption) ?r50
              case h50 => (intro w hSw; (try dsimp only at hSw); go_simp; try with_reducible rfl)
              try simp only [Act.put, List.setIfInBounds_toArray, List.set_cons_zero, List.set_cons_succ]
              refine reg_take (i := 10) (v := ?v51) rfl (by kernel_rfl) (by kernel_rfl) (by kernel_rfl) (fun _ _ _ h => h) (Or.inl ⟨by kernel_rfl, ?h51⟩) (by assumption) ?r51
              case h51 => (intro w hSw; (try dsimp only at hSw); go_simp; try with_reducible rfl)
              try simp only [Act.put, List.setIfInBounds_toArray, List.set_cons_zero, List.set_cons_succ]
              refine reg_take (i := 11) (v := ?v52) rfl (by kernel_rfl) (by kernel_rfl) (by kernel_rfl) (fun _ _ _ h => h) (Or.inl ⟨by kernel_rfl, ?h52⟩) (by assumption) ?r52
              case h52 => (intro w hSw; (try dsimp only at hSw); go_simp; try with_reducible rfl)
              try simp only [Act.put, List.setIfInBounds_toArray, List.set_cons_zero, List.set_cons_succ]
              refine reg_take (i := 12) (v := ?v53) rfl (by kernel_rfl) (by kernel_rfl) (by kernel_rfl) (fun _ _ _ h => h) (Or.inl ⟨by kernel_rfl, ?h53⟩) (by assumption) ?r53
              case h53 => (intro w hSw; (try dsimp only at hSw); go_simp; try with_reducible rfl)
              try simp only [Act.put, List.setIfInBounds_toArray, List.set_cons_zero, List.set_cons_succ]
              refine reg_call (i := 13) (by kernel_rfl) rfl (fun K hK => ?_)
              go_simp
              refine hK.out _ _ ?_ (fun hHeld => ?_)
              · exact ⟨r0, q2⟩
              clear hK K
              try simp only [Act.put, List.setIfInBounds_toArray, List.set_cons_zero, List.set_cons_succ]
              refine reg_take (i := 14) (v := ?v54) rfl (by kernel_rfl) (by kernel_rfl) (by kernel_rfl) (fun _ _ _ h => h) (Or.inl ⟨by kernel_rfl, ?h54⟩) (by assumption) ?r54
              case h54 => (intro w hSw; (try dsimp only at hSw); go_simp; try with_reducible rfl)
              try simp only [Act.put, List.setIfInBounds_toArray, List.set_cons_zero, List.set_cons_succ]
              refine reg_take (i := 15) (v := ?v55) rfl (by kernel_rfl) (by kernel_rfl) (by kernel_rfl) (fun _ _ _ h => h) (Or.inl ⟨by kernel_rfl, ?h55⟩) (by assumption) ?r55
              case h55 => (intro w hSw; (try dsimp only at hSw); go_simp; try with_reducible rfl)
              try simp only [Act.put, List.setIfInBounds_toArray, List.set_cons_zero, List.set_cons_succ]
              refine reg_take (i := 16) (v := ?v56) rfl (by kernel_rfl) (by kernel_rfl) (by kernel_rfl) (fun _ _ _ h => h) (Or.inl ⟨by kernel_rfl, ?h56⟩) (by assumption) ?r56
              case h56 => (intro w hSw; (try dsimp only at hSw); go_simp; try with_reducible rfl)
              try simp only [Act.put, List.setIfInBounds_toArray, List.set_cons_zero, List.set_cons_succ]
              refine reg_take (i := 17) (v := ?v57) rfl (by kernel_rfl) (by kernel_rfl) (by kernel_rfl) (fun _ _ _ h => h) (Or.inl ⟨by kernel_rfl, ?h57⟩) (by assumption) ?r57
              case h57 => (intro w hSw; (try dsimp only at hSw); go_simp; try with_reducible rfl)
              try simp only [Act.put, List.setIfInBounds_toArray, List.set_cons_zero, List.set_cons_succ]
              refine reg_call (i := 18) (by kernel_rfl) rfl (fun K hK => ?_)
              go_simp
              refine hK.out _ _ ?_ (fun hHeld => ?_)
              · exact ⟨(far_cell hbb1).trans r0, (far_cell hTb1).trans q2⟩
              clear hK K
              try simp only [Act.put, List.setIfInBounds_toArray, List.set_cons_zero, List.set_cons_succ]
              refine wpAnyH_done (by kernel_rfl) ?_ _
              have up1 := UD.out (σ (mt : Int))
              clear UD r0 q2 e1 ef1
              generalize wd.setCell ⟨b1, q * 4 + 1, none⟩ (.int .i64 (σ (mt : Int))) = w1 at up1 ⊢
              have hn3 : I64 (σ (mt : Int)) := hs64

              obtain ⟨e2', sla1, fr1⟩ := far1 M _ w1 hM1f up1
              replace up1 : Hid (Upd wi b1 (q * 4 + 1) (σ (mt : Int)) M w1 ∨ w1 = wi ∧ σ (mt : Int) = (mt : Int)) := Or.inl up1
              have frb := frI.trans (fr1.more m1)
              have kb1 := keepb M (f0 ++ f1) w1 hMf hbx01 frb
              have r1 : w1.cell? ⟨b, k * 5 + 1, none⟩ = some (.slice (some ⟨b1, 0, none⟩) ins.length p9) := (kb1.2 _).trans c1
              clear kb1 hqT hTf hmT hbT hmn hmi
              go_wp2_with fail
              go_loopw [11] (fun i wa => ∃ p : Nat, p ≤ args.length ∧ i = .int .i64 p ∧ SlF intF 3 wa g (halfL σ args p) (.slice A1 args.length p1) ∧ Fr g M w1 wa) (fun i _ => args.length - (intOf i).toNat)
              case atStart => exact ⟨0, by omega, rfl, by rw [half_zero]; exact sla1, Fr.refl _ _ _⟩
              case round =>
                obtain ⟨p, hp, rfl, sl4, fr4⟩ := hrel
                have fr04 := frb.trans (fr4.more (fun x hx => m1 x (hgf x hx)))
                have kb4 := keepb M (f0 ++ f1) wr hMf hbx01 fr04
                have q0 : wr.cell? ⟨b, k * 5 + 1, none⟩ = some (.slice (some ⟨b1, 0, none⟩) ins.length p9) := (kb4.2 _).trans c1
                have q1 : wr.cell? ⟨b1, q * 4 + 2, none⟩ = some (.slice A1 args.length p1) := (cell_of_heap (fr4.2 b1 hbg hb1M) _).trans e2'
                by_cases hpl : p < args.length
                case pos =>
                  obtain ⟨a, hx⟩ : ∃ a, args[p] = a := ⟨_, rfl⟩
                  obtain ⟨bT, oT, ma, eA, rfl, hmT, _, hbT, hqT, hs64⟩ := to_cell hT (hta.out a (hx ▸ List.getElem_mem hpl))
                  first | subst eA | (injection eA with eA; injection eA with eA eB _; replace eA := eA.symm; replace eB := eB.symm; subst eA; subst eB)
                  obtain ⟨b2, rfl, hb2, d0, df0, ha64, close2⟩ := look_int sl4 gn (half_get _ _ hpl hx)
                  have E5 : Hid ((halfL σ args p).set p (σ (ma : Int)) = halfL σ args (p + 1)) := half_set _ _ hpl hx
                  clear hx
                  have hb2M : b2 ≠ M := fun e => hMg (e ▸ hb2)
                  have hTf : bT ∉ fp := hBf.out bT hbT
                  have q2 : wr.cell? ⟨bT, oT + ma, none⟩ = some (.int .i64 (σ (ma : Int))) := (cell_of_heap ((fr.trans (fr04.more hs01)).2 bT hTf (fun e => hMT.out bT hbT e)) _).trans hqT
                  have hbb2 : b ≠ b2 := fun e => hbx1 (hgf _ (e ▸ hb2))
                  have hb1b2 : b1 ≠ b2 := fun e => hbg (e ▸ hb2)
                  have hTb2 : bT ≠ b2 := fun e => hTf (e ▸ hs1 _ (hgf _ hb2))
                  have UD : Hid (∀ n : Int, Upd wr b2 p n M (wr.drew.setCell ⟨b2, p, none⟩ (.int .i64 n))) := Lib.hid (fun n => Upd.drawn (Below.refl _ _).drew (fun _ => rfl) hb2M)
                  have hpn : (p : Int) < (args.length : Int) := by omega
                  have hpi : (0 : Int) ≤ (p : Int) := by omega
                  have hmn : (ma : Int) < (T.length : Int) := by omega
                  have hmi : (0 : Int) ≤ (ma : Int) := by omega
                  go_wp2_with fail
                  refine wp_region_held_drew (S := fun w' => (w'.cell? ⟨b, k * 5 + 1, none⟩ = some (.slice (some ⟨b1, 0, none⟩) ins.length p9) ∧ w'.cell? ⟨b1, q * 4 + 2, none⟩ = some (.slice (some ⟨b2, 0, none⟩) args.length p1) ∧ w'.cell? ⟨bT, oT + ma, none⟩ = some (.int .i64 (σ (ma : Int))))) (by kernel_rfl) ?_ (fun hHeld => ?_)
                  · exact ⟨q0, q1, q2⟩
                  replace q0 : wr.drew.cell? ⟨b, k * 5 + 1, none⟩ = some (.slice (some ⟨b1, 0, none⟩) ins.length p9) := q0
                  replace q1 : wr.drew.cell? ⟨b1, q * 4 + 2, none⟩ = some (.slice (some ⟨b2, 0, none⟩) args.length p1) := q1
                  replace q2 : wr.drew.cell? ⟨bT, oT + ma, none⟩ = some (.int .i64 (σ (ma : Int))) := q2
                  replace d0 : wr.drew.cell? ⟨b2, p, none⟩ = some (.int .i64 (ma : Int)) := d0
                  replace df0 : wr.drew.frozen? ⟨b2, p, none⟩ = false := df0
                  replace UD : Hid (∀ n : Int, Upd wr b2 p n M (wr.drew.setCell ⟨b2, p, none⟩ (.int .i64 n))) := UD
                  generalize wr.drew = wd at hHeld q0 q1 q2 d0 df0 UD ⊢
                  refine reg_take (i := 0) (v := ?v58) rfl (by kernel_rfl) (by kernel_rfl) (by kernel_rfl) (fun _ _ _ h => h) (Or.inl ⟨by kernel_rfl, ?h58⟩) (by assumption) ?r58
                  case h58 => (intro w hSw; (try dsimp only at hSw); go_simp; try with_reducible rfl)
                  try simp only [Act.put, List.setIfInBounds_toArray, List.set_cons_zero, List.set_cons_succ]
                  refine reg_take (i := 1) (v := ?v59) rfl (by kernel_rfl) (by kernel_rfl) (by kernel_rfl) (fun _ _ _ h => h) (Or.inl ⟨by kernel_rfl, ?h59⟩) (by assumption) ?r59
                  case h59 => (intro w hSw; (try dsimp only at hSw); go_simp; try with_reducible rfl)
                  try simp only [Act.put, List.setIfInBounds_toArray, List.set_cons_zero, List.set_cons_succ]
                  refine reg_take (i := 2) (v := ?v60) rfl (by kernel_rfl) (by kernel_rfl) (by kernel_rfl) (fun _ _ _ h => h) (Or.inl ⟨by kernel_rfl, ?h60⟩) (by assumption) ?r60
                  case h60 => (intro w hSw; (try dsimp only at hSw); go_simp; try with_reducible rfl)
                  try simp only [Act.put, List.setIfInBounds_toArray, List.set_cons_zero, List.set_cons_succ]
                  refine reg_take (i := 3) (v := ?v61) rfl (by kernel_rfl) (by kernel_rfl) (by kernel_rfl) (fun _ _ _ h => h) (Or.inl ⟨by kernel_rfl, ?h61⟩) (by assumption) ?r61
                  case h61 => (intro w hSw; (try dsimp only at hSw); go_simp; try with_reducible rfl)
                  try simp only [Act.put, List.setIfInBounds_toArray, List.set_cons_zero, List.set_cons_succ]
                  refine reg_take (i := 4) (v := ?v62) rfl (by kernel_rfl) (by kernel_rfl) (by kernel_rfl) (fun _ _ _ h => h) (Or.inl ⟨by kernel_rfl, ?h62⟩) (by assumption) ?r62
                  case h62 => (intro w hSw; (try dsimp only at hSw); go_simp; try with_reducible rfl)
                  try simp only [Act.put, List.setIfInBounds_toArray, List.set_cons_zero, List.set_cons_succ]
                  refine reg_take (i := 5) (v := ?v63) rfl (by kernel_rfl) (by kernel_rfl) (by kernel_rfl) (fun _ _ _ h => h) (Or.inl ⟨by kernel_rfl, ?h63⟩) (by assumption) ?r63
                  case h63 => (intro w hSw; (try dsimp only at hSw); go_simp; try with_reducible rfl)
                  try simp only [Act.put, List.setIfInBounds_toArray, List.set_cons_zero, List.set_cons_succ]
                  refine reg_take (i := 6) (v := ?v64) rfl (by kernel_rfl) (by kernel_rfl) (by kernel_rfl) (fun _ _ _ h => h) (Or.inl ⟨by kernel_rfl, ?h64⟩) (by assumption) ?r64
                  case h64 => (intro w hSw; (try dsimp only at hSw); go_simp; try with_reducible rfl)
                  try simp only [Act.put, List.setIfInBounds_toArray, List.set_cons_zero, List.set_cons_succ]
                  refine reg_take (i := 7) (v := ?v65) rfl (by kernel_rfl) (by kernel_rfl) (by kernel_rfl) (fun _ _ _ h => h) (Or.inl ⟨by kernel_rfl, ?h65⟩) (by assumption) ?r65
                  case h65 => (intro w hSw; (try dsimp only at hSw); go_simp; try with_reducible rfl)
                  try simp only [Act.put, List.setIfInBounds_toArray, List.set_cons_zero, List.set_cons_succ]
                  refine reg_take (i := 8) (v := ?v66) rfl (by kernel_rfl) (by kernel_rfl) (by kernel_rfl) (fun _ _ _ h => h) (Or.inl ⟨by kernel_rfl, ?h66⟩) (by assumption) ?r66
                  case h66 => (intro w hSw; (try dsimp only at hSw); go_simp; try with_reducible rfl)
                  try simp only [Act.put, List.setIfInBounds_toArray, List.set_cons_zero, List.set_cons_succ]
                  refine reg_take (i := 9) (v := ?v67) rfl (by kernel_rfl) (by kernel_rfl) (by kernel_rfl) (fun _ _ _ h => h) (Or.inl ⟨by kernel_rfl, ?h67⟩) (by assumption) ?r67
                  case h67 => (intro w hSw; (try dsimp only at hSw); go_simp; try with_reducible rfl)
                  try simp only [Act.put, List.setIfInBounds_toArray, List.set_cons_zero, List.set_cons_succ]
                  refine reg_take (i := 10) (v := ?v68) rfl (by kernel_rfl) (by kernel_rfl) (by kernel_rfl) (fun _ _ _ h => h) (Or.inl ⟨by kernel_rfl, ?h68⟩) (by assumption) ?r68
                  case h68 => (intro w hSw; (try dsimp only at hSw); go_simp; try with_reducible rfl)
                  try simp only [Act.put, List.setIfInBounds_toArray, List.set_cons_zero, List.set_cons_succ]
                  refine reg_take (i := 11) (v := ?v69) rfl (by kernel_rfl) (by kernel_rfl) (by kernel_rfl) (fun _ _ _ h => h) (Or.inl ⟨by kernel_rfl, ?h69⟩) (by assumption) ?r69
                  case h69 => (intro w hSw; (try dsimp only at hSw); go_simp; try with_reducible rfl)
                  try simp only [Act.put, List.setIfInBounds_toArray, List.set_cons_zero, List.set_cons_succ]
                  refine reg_take (i := 12) (v := ?v70) rfl (by kernel_rfl) (by kernel_rfl) (by kernel_rfl) (fun _ _ _ h => h) (Or.inl ⟨by kernel_rfl, ?h70⟩) (by assumption) ?r70
                  case h70 => (intro w hSw; (try dsimp only at hSw); go_simp; try with_reducible rfl)
                  try simp only [Act.put, List.setIfInBounds_toArray, List.set_cons_zero, List.set_cons_succ]
                  refine reg_take (i := 13) (v := ?v71) rfl (by kernel_rfl) (by kernel_rfl) (by kernel_rfl) (fun _ _ _ h => h) (Or.inl ⟨by kernel_rfl, ?h71⟩) (by assumption) ?r71
                  case h71 => (intro w hSw; (try dsimp only at hSw); go_simp; try with_reducible rfl)
                  try simp only [Act.put, List.setIfInBounds_toArray, List.set_cons_zero, List.set_cons_succ]
                  refine reg_take (i := 14) (v := ?v72) rfl (by kernel_rfl) (by kernel_rfl) (by kernel_rfl) (fun _ _ _ h => h) (Or.inl ⟨by kernel_rfl, ?h72⟩) (by assumption) ?r72
                  case h72 => (intro w hSw; (try dsimp only at hSw); go_simp; try with_reducible rfl)
                  try simp only [Act.put, List.setIfInBounds_toArray, List.set_cons_zero, List.set_cons_succ]
                  refine reg_take (i := 15) (v := ?v73) rfl (by kernel_rfl) (by kernel_rfl) (by kernel_rfl) (fun _ _ _ h => h) (Or.inl ⟨by kernel_rfl, ?h73⟩) (by assumption) ?r73
                  case h73 => (intro w hSw; (try dsimp only at hSw); go_simp; try with_reducible rfl)
                  try simp only [Act.put, List.setIfInBounds_toArray, List.set_cons_zero, List.set_cons_succ]
                  refine reg_take (i := 16) (v := ?v74) rfl (by kernel_rfl) (by kernel_rfl) (by kernel_rfl) (fun _ _ _ h => h) (Or.inl ⟨by kernel_rfl, ?h74⟩) (by assumption) ?r74
                  case h74 => (intro w hSw; (try dsimp only at hSw); go_simp; try with_reducible rfl)
                  try simp only [Act.put, List.setIfInBounds_toArray, List.set_cons_zero, List.set_cons_succ]
                  refine reg_take (i := 17) (v := ?v75) rfl (by kernel_rfl) (by kernel_rfl) (by kernel_rfl) (fun _ _ _ h => h) (Or.inl ⟨by kernel_rfl, ?h75⟩) (by assumption) ?r75
                  case h75 => (intro w hSw; (try dsimp only at hSw); go_simp; try with_reducible rfl)
                  try simp only [Act.put, List.setIfInBounds_toArray, List.set_cons_zero, List.set_cons_succ]
                  refine reg_take (i := 18) (v := ?v76) rfl (by kernel_rfl) (by kernel_rfl) (by kernel_rfl) (fun _ _ _ h => h) (Or.inl ⟨by kernel_rfl, ?h76⟩) (by assumption) ?r76
                  case h76 => (intro w hSw; (try dsimp only at hSw); go_simp; try with_reducible rfl)
                  try simp only [Act.put, List.setIfInBounds_toArray, List.set_cons_zero, List.set_cons_succ]
                  refine reg_take (i := 19) (v := ?v77) rfl (by kernel_rfl) (by kernel_rfl) (by kernel_rfl) (fun _ _ _ h => h) (Or.inl ⟨by kernel_rfl, ?h77⟩) (by assumption) ?r77
                  case h77 => (intro w hSw; (try dsimp only at hSw); go_simp; try with_reducible rfl)
                  try simp only [Act.put, List.setIfInBounds_toArray, List.set_cons_zero, List.set_cons_succ]
                  refine reg_call (i := 20) (by kernel_rfl) rfl (fun K hK => ?_)
                  go_simp
                  refine hK.out _ _ ?_ (fun hHeld => ?_)
                  · exact ⟨q0, q1, q2⟩
                  clear hK K
                  try simp only [Act.put, List.setIfInBounds_toArray, List.set_cons_zero, List.set_cons_succ]
                  refine reg_take (i := 21) (v := ?v78) rfl (by kernel_rfl) (by kernel_rfl) (by kernel_rfl) (fun _ _ _ h => h) (Or.inl ⟨by kernel_rfl, ?h78⟩) (by assumption) ?r78
                  case h78 => (intro w hSw; (try dsimp only at hSw); go_simp; try with_reducible rfl)
                  try simp only [Act.put, List.setIfInBounds_toArray, List.set_cons_zero, List.set_cons_succ]
                  refine reg_take (i := 22) (v := ?v79) rfl (by kernel_rfl) (by kernel_rfl) (by kernel_rfl) (fun _ _ _ h => h) (Or.inl ⟨by kernel_rfl, ?h79⟩) (by assumption) ?r79
                  case h79 => (intro w hSw; (try dsimp only at hSw); go_simp; try with_reducible rfl)
                  try simp only [Act.put, List.setIfInBounds_toArray, List.set_cons_zero, List.set_cons_succ]
                  refine reg_take (i := 23) (v := ?v80) rfl (by kernel_rfl) (by kernel_rfl) (by kernel_rfl) (fun _ _ _ h => h) (Or.inl ⟨by kernel_rfl, ?h80⟩) (by assumption) ?r80
                  case h80 => (intro w hSw; (try dsimp only at hSw); go_simp; try with_reducible rfl)
                  try simp only [Act.put, List.setIfInBounds_toArray, List.set_cons_zero, List.set_cons_succ]
                  refine reg_call (i := 24) (by kernel_rfl) rfl (fun K hK => ?_)
                  go_simp
                  refine hK.out _ _ ?_ (fun hHeld => ?_)
                  · exact ⟨(far_cell hbb2).trans q0, (far_cell hb1b2).trans q1, (far_cell hTb2).trans q2⟩
                  clear hK K
                  try simp only [Act.put, List.setIfInBounds_toArray, List.set_cons_zero, List.set_cons_succ]
                  refine wpAnyH_done (by kernel_rfl) ?_ _
                  obtain ⟨sl6, fr6⟩ := close2 M _ _ hMg hs64 (UD.out (σ (ma : Int)))
                  rw [E5.out] at sl6
                  clear E5 d0 df0 UD q0 q1 q2
                  go_wp2_with fail
                  go_roundw
                  case rel => exact ⟨p + 1, by omega, by go_num, sl6, fr4.trans fr6⟩
                  case measure => simp [intOf]; omega
                case neg =>
                  have hpn : ¬ (p : Int) < (args.length : Int) := by omega
                  obtain rfl : p = args.length := by omega
                  rw [half_end] at sl4
                  obtain ⟨sl7, fr7⟩ := close1 M (σ (mt : Int)) w1 wr _ hM1f hn3 up1.out fr4 sl4
                  have E7 : (halfL (renIns σ) ins q).set q ⟨op, σ (mt : Int), args.map σ, n⟩ = halfL (renIns σ) ins (q + 1) := by
                    have := half_set (renIns σ) _ hql hy.out
                    unfold renIns at this ⊢
                    simp only [hset.out] at this
                    exact this
                  rw [E7] at sl7
                  clear E7
                  go_wp2_with fail
                  go_roundw
                  case rel => exact ⟨q + 1, by omega, by go_num, sl7, fr2.trans fr7⟩
                  case measure => simp [intOf]; omega

            case neg =>
              replace hset : setsB op = false := by simpa using hset
              rw [hset]
              obtain ⟨w1, hw1⟩ : ∃ x, x = wi := ⟨_, rfl⟩
              subst hw1
              replace hset := Lib.hid hset
              have e2' := e2
              have sla1 := sla
              have hn3 : I64 tg := ht64
              have frb := frI
              go_wp2_with fail
              go_loopw [11] (fun i wa => ∃ p : Nat, p ≤ args.length ∧ i = .int .i64 p ∧ SlF intF 3 wa g (halfL σ args p) (.slice A1 args.length p1) ∧ Fr g M w1 wa) (fun i _ => args.length - (intOf i).toNat)
              case atStart => exact ⟨0, by omega, rfl, by rw [half_zero]; exact sla1, Fr.refl _ _ _⟩
              case round =>
                obtain ⟨p, hp, rfl, sl4, fr4⟩ := hrel
                have fr04 := frb.trans (fr4.more (fun x hx => m1 x (hgf x hx)))
                have kb4 := keepb M (f0 ++ f1) wr hMf hbx01 fr04
                have q0 : wr.cell? ⟨b, k * 5 + 1, none⟩ = some (.slice (some ⟨b1, 0, none⟩) ins.length p9) := (kb4.2 _).trans c1
                have q1 : wr.cell? ⟨b1, q * 4 + 2, none⟩ = some (.slice A1 args.length p1) := (cell_of_heap (fr4.2 b1 hbg hb1M) _).trans e2'
                by_cases hpl : p < args.length
                case pos =>
                  obtain ⟨a, hx⟩ : ∃ a, args[p] = a := ⟨_, rfl⟩
                  obtain ⟨bT, oT, ma, eA, rfl, hmT, _, hbT, hqT, hs64⟩ := to_cell hT (hta.out a (hx ▸ List.getElem_mem hpl))
                  first | subst eA | (injection eA with eA; injection eA with eA eB _; replace eA := eA.symm; replace eB := eB.symm; subst eA; subst eB)
                  obtain ⟨b2, rfl, hb2, d0, df0, ha64, close2⟩ := look_int sl4 gn (half_get _ _ hpl hx)
                  have E5 : Hid ((halfL σ args p).set p (σ (ma : Int)) = halfL σ args (p + 1)) := half_set _ _ hpl hx
                  clear hx
                  have hb2M : b2 ≠ M := fun e => hMg (e ▸ hb2)
                  have hTf : bT ∉ fp := hBf.out bT hbT
                  have q2 : wr.cell? ⟨bT, oT + ma, none⟩ = some (.int .i64 (σ (ma : Int))) := (cell_of_heap ((fr.trans (fr04.more hs01)).2 bT hTf (fun e => hMT.out bT hbT e)) _).trans hqT
                  have hbb2 : b ≠ b2 := fun e => hbx1 (hgf _ (e ▸ hb2))
                  have hb1b2 : b1 ≠ b2 := fun e => hbg (e ▸ hb2)
                  have hTb2 : bT ≠ b2 := fun e => hTf (e ▸ hs1 _ (hgf _ hb2))
                  have UD : Hid (∀ n : Int, Upd wr b2 p n M (wr.drew.setCell ⟨b2, p, none⟩ (.int .i64 n))) := Lib.hid (fun n => Upd.drawn (Below.refl _ _).drew (fun _ => rfl) hb2M)
                  have hpn : (p : Int) < (args.length : Int) := by omega
                  have hpi : (0 : Int) ≤ (p : Int) := by omega
                  have hmn : (ma : Int) < (T.length : Int) := by omega
                  have hmi : (0 : Int) ≤ (ma : Int) := by omega
                  go_wp2_with fail
                  refine wp_region_held_drew (S := fun w' => (w'.cell? ⟨b, k * 5 + 1, none⟩ = some (.slice (some ⟨b1, 0, none⟩) ins.length p9) ∧ w'.cell? ⟨b1, q * 4 + 2, none⟩ = some (.slice (some ⟨b2, 0, none⟩) args.length p1) ∧ w'.cell? ⟨bT, oT + ma, none⟩ = some (.int .i64 (σ (ma : Int))))) (by kernel_rfl) ?_ (fun hHeld => ?_)
                  · exact ⟨q0, q1, q2⟩
                  replace q0 : wr.drew.cell? ⟨b, k * 5 + 1, none⟩ = some (.slice (some ⟨b1, 0, none⟩) ins.length p9) := q0
                  replace q1 : wr.drew.cell? ⟨b1, q * 4 + 2, none⟩ = some (.slice (some ⟨b2, 0, none⟩) args.length p1) := q1
                  replace q2 : wr.drew.cell? ⟨bT, oT + ma, none⟩ = some (.int .i64 (σ (ma : Int))) := q2
                  replace d0 : wr.drew.cell? ⟨b2, p, none⟩ = some (.int .i64 (ma : Int)) := d0
                  replace df0 : wr.drew.frozen? ⟨b2, p, none⟩ = false := df0
                  replace UD : Hid (∀ n : Int, Upd wr b2 p n M (wr.drew.setCell ⟨b2, p, none⟩ (.int .i64 n))) := UD
                  generalize wr.drew = wd at hHeld q0 q1 q2 d0 df0 UD ⊢
                  refine reg_take (i := 0) (v := ?v81) rfl (by kernel_rfl) (by kernel_rfl) (by kernel_rfl) (fun _ _ _ h => h) (Or.inl ⟨by kernel_rfl, ?h81⟩) (by assumption) ?r81
                  case h81 => (intro w hSw; (try dsimp only at hSw); go_simp; try with_reducible rfl)
                  try simp only [Act.put, List.setIfInBounds_toArray, List.set_cons_zero, List.set_cons_succ]
                  refine reg_take (i := 1) (v := ?v82) rfl (by kernel_rfl) (by kernel_rfl) (by kernel_rfl) (fun _ _ _ h => h) (Or.inl ⟨by kernel_rfl, ?h82⟩) (by assumption) ?r82
                  case h82 => (intro w hSw; (try dsimp only at hSw); go_simp; try with_reducible rfl)
                  try simp only [Act.put, List.setIfInBounds_toArray, List.set_cons_zero, List.set_cons_succ]
                  refine reg_take (i := 2) (v := ?v83) rfl (by kernel_rfl) (by kernel_rfl) (by kernel_rfl) (fun _ _ _ h => h) (Or.inl ⟨by kernel_rfl, ?h83⟩) (by assumption) ?r83
                  case h83 => (intro w hSw; (try dsimp only at hSw); go_simp; try with_reducible rfl)
                  try simp only [Act.put, List.setIfInBounds_toArray, List.set_cons_zero, List.set_cons_succ]
                  refine reg_take (i := 3) (v := ?v84) rfl (by kernel_rfl) (by kernel_rfl) (by kernel_rfl) (fun _ _ _ h => h) (Or.inl ⟨by kernel_rfl, ?h84⟩) (by assumption) ?r84
                  case h84 => (intro w hSw; (try dsimp only at hSw); go_simp; try with_reducible rfl)
                  try simp only [Act.put, List.setIfInBounds_toArray, List.set_cons_zero, List.set_cons_succ]
                  refine reg_take (i := 4) (v := ?v85) rfl (by kernel_rfl) (by kernel_rfl) (by kernel_rfl) (fun _ _ _ h => h) (Or.inl ⟨by kernel_rfl, ?h85⟩) (by assumption) ?r85
                  case h85 => (intro w hSw; (try dsimp only at hSw); go_simp; try with_reducible rfl)
                  try simp only [Act.put, List.setIfInBounds_toArray, List.set_cons_zero, List.set_cons_succ]
                  refine reg_take (i := 5) (v := ?v86) rfl (by kernel_rfl) (by kernel_rfl) (by kernel_rfl) (fun _ _ _ h => h) (Or.inl ⟨by kernel_rfl, ?h86⟩) (by assumption) ?r86
                  case h86 => (intro w hSw; (try dsimp only at hSw); go_simp; try with_reducible rfl)
                  try simp only [Act.put, List.setIfInBounds_toArray, List.set_cons_zero, List.set_cons_succ]
                  refine reg_take (i := 6) (v := ?v87) rfl (by kernel_rfl) (by kernel_rfl) (by kernel_rfl) (fun _ _ _ h => h) (Or.inl ⟨by kernel_rfl, ?h87⟩) (by assumption) ?r87
                  case h87 => (intro w hSw; (try dsimp only at hSw); go_simp; try with_reducible rfl)
                  try simp only [Act.put, List.setIfInBounds_toArray, List.set_cons_zero, List.set_cons_succ]
                  refine reg_take (i := 7) (v := ?v88) rfl (by kernel_rfl) (by kernel_rfl) (by kernel_rfl) (fun _ _ _ h => h) (Or.inl ⟨by kernel_rfl, ?h88⟩) (by assumption) ?r88
                  case h88 => (intro w hSw; (try dsimp only at hSw); go_simp; try with_reducible rfl)
                  try simp only [Act.put, List.setIfInBounds_toArray, List.set_cons_zero, List.set_cons_succ]
                  refine reg_take (i := 8) (v := ?v89) rfl (by kernel_rfl) (by kernel_rfl) (by kernel_rfl) (fun _ _ _ h => h) (Or.inl ⟨by kernel_rfl, ?h89⟩) (by assumption) ?r89
                  case h89 => (intro w hSw; (try dsimp only at hSw); go_simp; try with_reducible rfl)
                  try simp only [Act.put, List.setIfInBounds_toArray, List.set_cons_zero, List.set_cons_succ]
                  refine reg_take (i := 9) (v := ?v90) rfl (by kernel_rfl) (by kernel_rfl) (by kernel_rfl) (fun _ _ _ h => h) (Or.inl ⟨by kernel_rfl, ?h90⟩) (by assumption) ?r90
                  case h90 => (intro w hSw; (try dsimp only at hSw); go_simp; try with_reducible rfl)
                  try simp only [Act.put, List.setIfInBounds_toArray, List.set_cons_zero, List.set_cons_succ]
                  refine reg_take (i := 10) (v := ?v91) rfl (by kernel_rfl) (by kernel_rfl) (by kernel_rfl) (fun _ _ _ h => h) (Or.inl ⟨by kernel_rfl, ?h91⟩) (by assumption) ?r91
                  case h91 => (intro w hSw; (try dsimp only at hSw); go_simp; try with_reducible rfl)
                  try simp only [Act.put, List.setIfInBounds_toArray, List.set_cons_zero, List.set_cons_succ]
                  refine reg_take (i := 11) (v := ?v92) rfl (by kernel_rfl) (by kernel_rfl) (by kernel_rfl) (fun _ _ _ h => h) (Or.inl ⟨by kernel_rfl, ?h92⟩) (by assumption) ?r92
                  case h92 => (intro w hSw; (try dsimp only at hSw); go_simp; try with_reducible rfl)
                  try simp only [Act.put, List.setIfInBounds_toArray, List.set_cons_zero, List.set_cons_succ]
                  refine reg_take (i := 12) (v := ?v93) rfl (by kernel_rfl) (by kernel_rfl) (by kernel_rfl) (fun _ _ _ h => h) (Or.inl ⟨by kernel_rfl, ?h93⟩) (by assumption) ?r93
                  case h93 => (intro w hSw; (try dsimp only at hSw); go_simp; try with_reducible rfl)
                  try simp only [Act.put, List.setIfInBounds_toArray, List.set_cons_zero, List.set_cons_succ]
                  refine reg_take (i := 13) (v := ?v94) rfl (by kernel_rfl) (by kernel_rfl) (by kernel_rfl) (fun _ _ _ h => h) (Or.inl ⟨by kernel_rfl, ?h94⟩) (by assumption) ?r94
                  case h94 => (intro w hSw; (try dsimp only at hSw); go_simp; try with_reducible rfl)
                  try simp only [Act.put, List.setIfInBounds_toArray, List.set_cons_zero, List.set_cons_succ]
                  refine reg_take (i := 14) (v := ?v95) rfl (by kernel_rfl) (by kernel_rfl) (by kernel_rfl) (fun _ _ _ h => h) (Or.inl ⟨by kernel_rfl, ?h95⟩) (by assumption) ?r95
                  case h95 => (intro w hSw; (try dsimp only at hSw); go_simp; try with_reducible rfl)
                  try simp only [Act.put, List.setIfInBounds_toArray, List.set_cons_zero, List.set_cons_succ]
                  refine reg_take (i := 15) (v := ?v96) rfl (by kernel_rfl) (by kernel_rfl) (by kernel_rfl) (fun _ _ _ h => h) (Or.inl ⟨by kernel_rfl, ?h96⟩) (by assumption) ?r96
                  case h96 => (intro w hSw; (try dsimp only at hSw); go_simp; try with_reducible rfl)
                  try simp only [Act.put, List.setIfInBounds_toArray, List.set_cons_zero, List.set_cons_succ]
                  refine reg_take (i := 16) (v := ?v97) rfl (by kernel_rfl) (by kernel_rfl) (by kernel_rfl) (fun _ _ _ h => h) (Or.inl ⟨by kernel_rfl, ?h97⟩) (by assumption) ?r97
                  case h97 => (intro w hSw; (try dsimp only at hSw); go_simp; try with_reducible rfl)
                  try simp only [Act.put, List.setIfInBounds_toArray, List.set_cons_zero, List.set_cons_succ]
                  refine reg_take (i := 17) (v := ?v98) rfl (by kernel_rfl) (by kernel_rfl) (by kernel_rfl) (fun _ _ _ h => h) (Or.inl ⟨by kernel_rfl, ?h98⟩) (by assumption) ?r98
                  case h98 => (intro w hSw; (try dsimp only at hSw); go_simp; try with_reducible rfl)
                  try simp only [Act.put, List.setIfInBounds_toArray, List.set_cons_zero, List.set_cons_succ]
                  refine reg_take (i := 18) (v := ?v99) rfl (by kernel_rfl) (by kernel_rfl) (by kernel_rfl) (fun _ _ _ h => h) (Or.inl ⟨by kernel_rfl, ?h99⟩) (by assumption) ?r99
                  case h99 => (intro w hSw; (try dsimp only at hSw); go_simp; try with_reducible rfl)
                  try simp only [Act.put, List.setIfInBounds_toArray, List.set_cons_zero, List.set_cons_succ]
                  refine reg_take (i := 19) (v := ?v100) rfl (by kernel_rfl) (by kernel_rfl) (by kernel_rfl) (fun _ _ _ h => h) (Or.inl ⟨by kernel_rfl, ?h100⟩) (by assumption) ?r100
                  case h100 => (intro w hSw; (try dsimp only at hSw); go_simp; try with_reducible rfl)
                  try simp only [Act.put, List.setIfInBounds_toArray, List.set_cons_zero, List.set_cons_succ]
                  refine reg_call (i := 20) (by kernel_rfl) rfl (fun K hK => ?_)
                  go_simp
                  refine hK.out _ _ ?_ (fun hHeld => ?_)
                  · exact ⟨q0, q1, q2⟩
                  clear hK K
                  try simp only [Act.put, List.setIfInBounds_toArray, List.set_cons_zero, List.set_cons_succ]
                  refine reg_take (i := 21) (v := ?v101) rfl (by kernel_rfl) (by kernel_rfl) (by kernel_rfl) (fun _ _ _ h => h) (Or.inl ⟨by kernel_rfl, ?h101⟩) (by assumption) ?r101
                  case h101 => (intro w hSw; (try dsimp only at hSw); go_simp; try with_reducible rfl)
                  try simp only [Act.put, List.setIfInBounds_toArray, List.set_cons_zero, List.set_cons_succ]
                  refine reg_take (i := 22) (v := ?v102) rfl (by kernel_rfl) (by kernel_rfl) (by kernel_rfl) (fun _ _ _ h => h) (Or.inl ⟨by kernel_rfl, ?h102⟩) (by assumption) ?r102
                  case h102 => (intro w hSw; (try dsimp only at hSw); go_simp; try with_reducible rfl)
                  try simp only [Act.put, List.setIfInBounds_toArray, List.set_cons_zero, List.set_cons_succ]
                  refine reg_take (i := 23) (v := ?v103) rfl (by kernel_rfl) (by kernel_rfl) (by kernel_rfl) (fun _ _ _ h => h) (Or.inl ⟨by kernel_rfl, ?h103⟩) (by assumption) ?r103
                  case h103 => (intro w hSw; (try dsimp only at hSw); go_simp; try with_reducible rfl)
                  try simp only [Act.put, List.setIfInBounds_toArray, List.set_cons_zero, List.set_cons_succ]
                  refine reg_call (i := 24) (by kernel_rfl) rfl (fun K hK => ?_)
                  go_simp
                  refine hK.out _ _ ?_ (fun hHeld => ?_)
                  · exact ⟨(far_cell hbb2).trans q0, (far_cell hb1b2).trans q1, (far_cell hTb2).trans q2⟩
                  clear hK K
                  try simp only [Act.put, List.setIfInBounds_toArray, List.set_cons_zero, List.set_cons_succ]
                  refine wpAnyH_done (by kernel_rfl) ?_ _
                  obtain ⟨sl6, fr6⟩ := close2 M _ _ hMg hs64 (UD.out (σ (ma : Int)))
                  rw [E5.out] at sl6
                  clear E5 d0 df0 UD q0 q1 q2
                  go_wp2_with fail
                  go_roundw
                  case rel => exact ⟨p + 1, by omega, by go_num, sl6, fr4.trans fr6⟩
                  case measure => simp [intOf]; omega
                case neg =>
                  have hpn : ¬ (p : Int) < (args.length : Int) := by omega
                  obtain rfl : p = args.length := by omega
                  rw [half_end] at sl4
                  obtain ⟨sl7, fr7⟩ := close1 M (tg) w1 wr _ hM1f hn3 (Or.inr ⟨rfl, rfl⟩) fr4 sl4
                  have E7 : (halfL (renIns σ) ins q).set q ⟨op, tg, args.map σ, n⟩ = halfL (renIns σ) ins (q + 1) := by
                    have := half_set (renIns σ) _ hql hy.out
                    unfold renIns at this ⊢
                    simp only [hset.out] at this
                    exact this
                  rw [E7] at sl7
                  clear E7
                  go_wp2_with fail
                  go_roundw
                  case rel => exact ⟨q + 1, by omega, by go_num, sl7, fr2.trans fr7⟩
                  case measure => simp [intOf]; omega

          case neg =>
            have hqn : ¬ (q : Int) < (ins.length : Int) := by omega
            obtain rfl : q = ins.length := by omega
            rw [half_end] at sl
            have r2 : wi.cell? ⟨b, k * 5 + 2, none⟩ = some (.int .i64 jump) := (kb.2 _).trans c2
            have r3 : wi.cell? ⟨b, k * 5 + 3, none⟩ = some (.int .i64 on) := (kb.2 _).trans c3
            have rf3 := kb.1
            by_cases hj1 : jump = 1
            case neg =>
              have hu : usesOnB jump = true := by
                cases h : usesOnB jump
                · exact absurd (hjb.out.2 h) hj1
                · rfl
              obtain ⟨bT, oT, mt, eA, rfl, hmT, _, hbT, hqT, hs64⟩ := to_cell hT (htob.out on (by simp [regsBlk, hu]))
              first | subst eA | (injection eA with eA; injection eA with eA eB _; replace eA := eA.symm; replace eB := eB.symm; subst eA; subst eB)
              have hTf : bT ∉ fp := hBf.out bT hbT
              have q2 : wi.cell? ⟨bT, oT + mt, none⟩ = some (.int .i64 (σ (mt : Int))) := (cell_of_heap ((fr.trans (frI.more hs01)).2 bT hTf (fun e => hMT.out bT hbT e)) _).trans hqT
              have EX2 : Hid ((halfL (renBlk σ) blocks k).set k ⟨phis.map (renPhi σ), ins.map (renIns σ), jump, σ (mt : Int), next⟩ = halfL (renBlk σ) blocks (k + 1)) := by
                have := EX.out
                simp only [if_pos hu] at this
                exact this
              have hmn : (mt : Int) < (T.length : Int) := by omega
              have hmi : (0 : Int) ≤ (mt : Int) := by omega
              clear hu EX hjb
              go_wp2_with fail
              have up8 : Upd wi b (k * 5 + 3) (σ (mt : Int)) M (wi.setCell ⟨b, k * 5 + 3, none⟩ (.int .i64 (σ (mt : Int)))) := Upd.drawn (Below.refl _ _) (fun _ => rfl) hbM
              obtain ⟨sl9, fr9⟩ := close M _ wp wi _ _ _ hMf hs64 frP slP fr2 sl (Or.inl up8)
              rw [EX2.out] at sl9
              clear EX2
              go_roundw
              case rel => exact ⟨k + 1, by omega, by go_num, sl9, fr.trans fr9⟩
              case measure => simp [intOf]; omega
            case pos =>
              have hu : usesOnB jump = false := hjb.out.1 hj1
              have EX2 : Hid ((halfL (renBlk σ) blocks k).set k ⟨phis.map (renPhi σ), ins.map (renIns σ), jump, on, next⟩ = halfL (renBlk σ) blocks (k + 1)) := by
                have := EX.out
                simp only [hu] at this
                exact this
              obtain ⟨sl9, fr9⟩ := close M on wp wi wi _ _ hMf ho64 frP slP fr2 sl (Or.inr ⟨rfl, rfl⟩)
              rw [EX2.out] at sl9
              clear hu EX EX2
              go_wp2_with fail
              go_roundw
              case rel => exact ⟨k + 1, by omega, by go_num, sl9, fr.trans fr9⟩
              case measure => simp [intOf]; omega
end Go.Proofs.Ytgcjccoglcgcoaa
