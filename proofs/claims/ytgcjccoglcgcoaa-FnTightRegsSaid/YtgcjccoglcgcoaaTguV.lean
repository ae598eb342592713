/-
  Several texts in one: Tgu, TightV.
-/
import Derived.Test.YtgcjccoglcgcoaaTgtT
import Derived.Test.YtgcjccoglcgcoaaUnit9
import Derived.Test.YtgcjccoglcgcoaaTight
namespace Go.Proofs.Ytgcjccoglcgcoaa
open Go.RowKit Go.ChangeShapes Go.WideShapes Go.Deep
set_option linter.unusedVariables false
set_option linter.unusedSimpArgs false
theorem codesB_all {us : List CodeD} : ∀ {l : List CodeD} {k : Nat}, codesB us k l = true → ∀ (i : Nat) (c : CodeD), l[i]? = some c → codeB us (k + i) c = true
  | [], k, _, i, c, hc => by simp at hc
  | a :: r, k, h, i, c, hc => by
    simp only [codesB, Bool.and_eq_true] at h
    cases i with
    | zero =>
      simp at hc
      subst hc
      exact h.1
    | succ i =>
      have := codesB_all (l := r) (k := k + 1) h.2 i c (by simpa using hc)
      rw [show k + 1 + i = k + (i + 1) by omega] at this
      exact this
theorem unit_codes {us : List CodeD} (h : unitB us = true) : ∀ c ∈ us, ∃ k, codeB us k c = true := by
  intro c hc
  unfold unitB at h
  simp only [Bool.and_eq_true] at h
  obtain ⟨i, hi⟩ := List.mem_iff_getElem?.1 hc
  exact ⟨_, codesB_all h.2.1 i c hi⟩
/-- what TightUnit answers -/
def TightP (us : List CodeD) (w : World) (e : Ending) (w' : World) : Prop :=
  ∃ (v : Value) (f : List Nat), e = .returned (.tuple #[.agg #[v], .bool (unitB us)]) ∧ SlF cdF 39 w' f (if unitB us = true then tightU us else []) v ∧ f.Nodup ∧ (∀ x ∈ f, w.heap.size ≤ x) ∧ Below w.heap.size w w'
set_option maxRecDepth 100000 in
set_option maxHeartbeats 4000000 in
theorem impl_TightUnit (codes : List CodeD) (v : Value) (w : World) (lo B : Nat) (hB : B ≤ w.heap.size) (hN : codes.length + sumBy codeN codes ≤ 1048576) (h0 : Sl false (codeS false) w lo B codes v) :
    Calls Try.prog 8 #[.agg #[v]] w (TightP codes w) := by
  have hcn : Hid (∀ c ∈ codes, codeN c ≤ 1048576) := Lib.hid (fun c hc => by have := sumBy_mem codeN hc; omega)
  obtain ⟨A, p, hf, hl1, hl2⟩ := h0.form
  subst hf
  have hb2 : Below w.heap.size w ((w.alloc (.cells #[.slice A codes.length p] 28)).alloc (.cells #[.slice none 0 0] 28)) := ((Below.refl _ _).alloc (Nat.le_refl _) _).alloc (by simp) _
  have R2 : Row ((w.alloc (.cells #[.slice A codes.length p] 28)).alloc (.cells #[.slice none 0 0] 28)) w.heap.size 28 #[.slice A codes.length p] := (Row.new w _ _).alloc _
  have S2 : Row ((w.alloc (.cells #[.slice A codes.length p] 28)).alloc (.cells #[.slice none 0 0] 28)) (w.heap.size + 1) 28 #[.slice none 0 0] := by simpa using Row.new (w.alloc (.cells #[.slice A codes.length p] 28)) 28 #[.slice none 0 0]
  have z2 : w.heap.size + 2 = ((w.alloc (.cells #[.slice A codes.length p] 28)).alloc (.cells #[.slice none 0 0] 28)).heap.size := by simp
  have k0 := h0.below hb2 hB
  go_enter Try.func8, Try.ntmps8
  go_wp2_with fail
  refine (impl_UnitValid codes (.slice A codes.length p) _ lo B (Nat.le_trans hB hb2.size) hN k0).mono ?_
  rintro e w3 ⟨rfl, b3⟩
  have hb3 : Below w.heap.size w w3 := hb2.trans (b3.mono hb2.size)
  have R3 := R2.below b3 R2.lt
  have S3 := S2.below b3 S2.lt
  have k3 := k0.below b3 (Nat.le_trans hB hb2.size)
  have z3 : w.heap.size + 2 ≤ w3.heap.size := by have := b3.size; omega
  have r0 : w3.cell? ⟨w.heap.size, 0, none⟩ = some (.slice A codes.length p) := R3.cell 0
  have s0 : w3.cell? ⟨w.heap.size + 1, 0, none⟩ = some (.slice none 0 0) := S3.cell 0
  have sf0 : w3.frozen? ⟨w.heap.size + 1, 0, none⟩ = false := S3.frozen 0
  clear R2 S2 b3 k0
  by_cases hu : unitB codes = true
  case neg =>
    have hu' : unitB codes = false := by simpa using hu
    rw [hu']
    have F := Lib.hid (show TightP codes w (.returned (.tuple #[.agg #[.slice none 0 0], .bool false])) (w3.setCell ⟨w.heap.size + 1, 0, none⟩ (.slice none 0 0)) from ⟨_, [], by rw [hu'], by rw [if_neg hu]; exact SlF.nil_ _ _ _, by simp, by simp, hb3.setCell (p := ⟨w.heap.size + 1, 0, none⟩) (by show w.heap.size ≤ w.heap.size + 1; omega) _⟩)
    clear hu hu'
    go_wp2_with fail
    refine bodyPost_ret (v := .tuple #[.agg #[.slice none 0 0], .bool false]) (by simp [results, Try.results8, go_sem, s0]) rfl F.out
  case pos =>
    rw [hu]
    have hall := Lib.hid (unit_codes hu)
    have hu1 := Lib.hid hu
    clear hu
    go_wp2_with fail
    refine (impl_mapped_Code 22 #[] tightC codes (.slice A codes.length p) w3 lo B (Nat.le_trans hB hb3.size) (by omega) k3 (fun args w => by kernel_rfl) (fun params regs blocks v2 w' hb' g0 g1 g2 hmem => by
      obtain ⟨k, hk⟩ := hall.out _ hmem
      have hv := seen_valid hk
      have hlt := hv.2.2.2
      simpa using impl_tight params regs blocks v2 w' lo B (Nat.le_trans hB (hb3.trans (hb'.mono hb3.size)).size) (hcn.out _ hmem) g0 g1 g2 (by omega))).mono ?_
    rintro e w4 ⟨v', f, rfl, hs, hnd, hfr, b4⟩
    obtain ⟨A', p', hf, _, _⟩ := hs.form
    rw [List.length_map] at hf
    subst hf
    have hb4 : Below w.heap.size w w4 := hb3.trans (b4.mono hb3.size)
    have S4 := S3.below b4 S3.lt
    have s1 : w4.cell? ⟨w.heap.size + 1, 0, none⟩ = some (.slice none 0 0) := S4.cell 0
    have sf1 : w4.frozen? ⟨w.heap.size + 1, 0, none⟩ = false := S4.frozen 0
    have F := Lib.hid (show TightP codes w (.returned (.tuple #[.agg #[.slice A' codes.length p'], .bool true])) (w4.setCell ⟨w.heap.size + 1, 0, none⟩ (.slice A' codes.length p')) from ⟨_, f, by rw [hu1.out], by
      rw [if_pos hu1.out]
      exact hs.keep (fun x hx => Below.heap_setCell w4 _ _ x (by show x ≠ w.heap.size + 1; have := hfr x hx; omega)), hnd, fun x hx => by have := hfr x hx; omega, hb4.setCell (p := ⟨w.heap.size + 1, 0, none⟩) (by show w.heap.size ≤ w.heap.size + 1; omega) _⟩)
    clear hs hnd hfr hu1 hall r0 s0 sf0
    go_wp2_with fail
    refine bodyPost_ret (v := .tuple #[.agg #[.slice A' codes.length p'], .bool true]) (by simp [results, Try.results8, go_sem, s1]) rfl F.out
end Go.Proofs.Ytgcjccoglcgcoaa

namespace Go.Proofs.Ytgcjccoglcgcoaa
open Go.RowKit Go.ChangeShapes Go.WideShapes Go.Deep
set_option linter.unusedVariables false
set_option linter.unusedSimpArgs false
theorem reg_new {S : List Int} {r : Int} (h : r ∈ S) : regB (S.length : Int) (numS S r) = true := by
  have := num_lt h
  exact regB_in this.1 this.2
theorem regs_new {S : List Int} : ∀ {l : List Int}, (∀ r ∈ l, r ∈ S) → (l.map (numS S)).all (regB (S.length : Int)) = true
  | [], _ => rfl
  | a :: r, h => by
    rw [List.map_cons, List.all_cons, reg_new (h a (by simp)), regs_new (fun x hx => h x (by simp [hx]))]
    rfl
theorem insB_new {us : List CodeD} {regs : Int} {k : Nat} {x : InsD} {S : List Int} (h : insB us regs k x = true) (hr : ∀ r ∈ regsIns x, r ∈ S) : insB (tightU us) (S.length : Int) k (renIns (numS S) x) = true := by
  unfold insB at h ⊢
  simp only [Bool.and_eq_true] at h ⊢
  obtain ⟨h1, _, h3, h4⟩ := h
  refine ⟨h1, regs_new (fun r hx => hr r (by unfold regsIns; exact List.mem_append_right _ hx)), ?_, ?_⟩
  · show (if setsB x.op = true then regB (S.length : Int) (if setsB x.op = true then numS S x.to else x.to) else decide ((if setsB x.op = true then numS S x.to else x.to) = -1)) = true
    by_cases hs : setsB x.op = true
    · rw [if_pos hs, if_pos hs]
      exact reg_new (hr _ (by unfold regsIns; rw [if_pos hs]; simp))
    · rw [if_neg hs] at h3
      rw [if_neg hs, if_neg hs]
      exact h3
  · have e1 : (renIns (numS S) x).op = x.op := rfl
    have e2 : (renIns (numS S) x).args.length = x.args.length := by simp [renIns]
    have e3 : (renIns (numS S) x).n = x.n := rfl
    rw [e1, e2, e3, parOf_tight]
    exact h4
theorem phiB_new {regs : Int} {p b : Nat} {f : PhiD} {S : List Int} (h : phiB regs p b f = true) (hr : ∀ r ∈ regsPhi f, r ∈ S) : phiB (S.length : Int) p b (renPhi (numS S) f) = true := by
  unfold phiB at h ⊢
  simp only [Bool.and_eq_true] at h ⊢
  obtain ⟨h1, _, h3, _⟩ := h
  refine ⟨h1, reg_new (hr _ (by simp [regsPhi])), ?_, regs_new (fun r hx => hr r (by simp [regsPhi, hx]))⟩
  have e : (renPhi (numS S) f).args.length = f.args.length := by simp [renPhi]
  rw [e]
  exact h3
theorem blkB_new {us : List CodeD} {c : CodeD} {k b : Nat} {x : BlkD} (h : blkB us c k b x = true) (hr : ∀ r ∈ regsBlk x, r ∈ seenC c) : blkB (tightU us) (tightC c) k b (renBlk (numS (seenC c)) x) = true := by
  unfold blkB at h ⊢
  simp only [Bool.and_eq_true] at h ⊢
  obtain ⟨h1, h2, h3, h4, h5⟩ := h
  have eb : (tightC c).blocks = c.blocks.map (renBlk (numS (seenC c))) := rfl
  have el : (tightC c).blocks.length = c.blocks.length := by rw [eb, List.length_map]
  have er : (tightC c).regs = ((seenC c).length : Int) := rfl
  refine ⟨h1, ?_, ?_, ?_, ?_⟩
  · unfold onB at h2 ⊢
    show (if usesOnB x.jump = true then regB (tightC c).regs (if usesOnB x.jump = true then numS (seenC c) x.on else x.on) else decide ((if usesOnB x.jump = true then numS (seenC c) x.on else x.on) = 0)) = true
    by_cases hu : usesOnB x.jump = true
    · rw [if_pos hu, if_pos hu, er]
      exact reg_new (hr _ (by simp [regsBlk, hu]))
    · rw [if_neg hu] at h2
      rw [if_neg hu, if_neg hu]
      exact h2
  · rw [el]
    exact h3
  · rw [er]
    show (x.ins.map (renIns (numS (seenC c)))).all _ = true
    rw [List.all_eq_true]
    intro y hy
    obtain ⟨z, hz, rfl⟩ := List.mem_map.1 hy
    exact insB_new (List.all_eq_true.1 h4 z hz) (fun r hx => hr r (by unfold regsBlk; exact List.mem_append_left _ (List.mem_append_right _ (List.mem_flatMap.2 ⟨z, hz, hx⟩))))
  · rw [er, eb, predsFrom_ren]
    show (x.phis.map (renPhi (numS (seenC c)))).all _ = true
    rw [List.all_eq_true]
    intro y hy
    obtain ⟨z, hz, rfl⟩ := List.mem_map.1 hy
    exact phiB_new (List.all_eq_true.1 h5 z hz) (fun r hx => hr r (by unfold regsBlk; exact List.mem_append_left _ (List.mem_append_left _ (List.mem_flatMap.2 ⟨z, hz, hx⟩))))
theorem blksB_new {us : List CodeD} {c : CodeD} {k : Nat} : ∀ {l : List BlkD} {b : Nat}, blksB us c k b l = true → (∀ x ∈ l, ∀ r ∈ regsBlk x, r ∈ seenC c) → blksB (tightU us) (tightC c) k b (l.map (renBlk (numS (seenC c)))) = true
  | [], _, _, _ => rfl
  | a :: r, b, h, hr => by
    simp only [blksB, Bool.and_eq_true] at h
    rw [List.map_cons]
    simp only [blksB, Bool.and_eq_true]
    exact ⟨blkB_new h.1 (hr a (by simp)), blksB_new h.2 (fun x hx => hr x (by simp [hx]))⟩
theorem codeB_new {us : List CodeD} {c : CodeD} {k : Nat} (h : codeB us k c = true) : codeB (tightU us) k (tightC c) = true := by
  obtain ⟨_, s1, s2, s3, s4⟩ := seen_valid h
  unfold codeB at h ⊢
  rw [Bool.and_eq_true] at h ⊢
  obtain ⟨h1, h2⟩ := h
  unfold headB at h1 ⊢
  simp only [Bool.and_eq_true] at h1 ⊢
  have g2 := inB_out h1.2.1
  have g3 : c.params ≤ 3 := Int.le_trans g2.2 (Int.min_le_left _ _)
  have el : (tightC c).blocks.length = c.blocks.length := by show (c.blocks.map _).length = _; rw [List.length_map]
  refine ⟨⟨inB_yes (by show (0 : Int) ≤ ((seenC c).length : Nat); omega) (by show ((seenC c).length : Int) ≤ 300; omega), inB_yes s1 (by
    show c.params ≤ min 3 ((seenC c).length : Int)
    omega), by rw [el]; exact h1.2.2⟩, blksB_new h2 (fun x hx r hr => (seenC_mem c r).2 (Or.inr (List.mem_flatMap.2 ⟨x, hx, hr⟩)))⟩
theorem codesB_new {us : List CodeD} : ∀ {l : List CodeD} {k : Nat}, codesB us k l = true → codesB (tightU us) k (l.map tightC) = true
  | [], _, _ => rfl
  | a :: r, k, h => by
    simp only [codesB, Bool.and_eq_true] at h
    rw [List.map_cons]
    simp only [codesB, Bool.and_eq_true]
    exact ⟨codeB_new h.1, codesB_new h.2⟩
theorem unitB_tight {us : List CodeD} (h : unitB us = true) : unitB (tightU us) = true := by
  unfold unitB at h ⊢
  simp only [Bool.and_eq_true] at h ⊢
  refine ⟨by unfold tightU; rw [List.length_map]; exact h.1, codesB_new h.2.1, ?_⟩
  rw [unitC_tight]
  exact h.2.2
theorem cntU_tight {us : List CodeD} (h : unitB us = true) : cntU (tightU us) = cntU us := by
  unfold cntU
  rw [if_pos h, if_pos (unitB_tight h), unitC_tight]
end Go.Proofs.Ytgcjccoglcgcoaa
