/-
  TightUnit by the program. Conditions: the argument reads as data of small size.
-/
import Derived.Test.YtgcjccoglcgcoaaTgtT
import Derived.Test.YtgcjccoglcgcoaaUnit9
namespace Go.Proofs.Ytgcjccoglcgcoaa
open Go.RowKit Go.ChangeShapes Go.WideShapes Go.Deep
set_option linter.unusedVariables false
set_option linter.unusedSimpArgs false
theorem codesB_all {us : List CodeD} : ∀ {l : List CodeD} {k : Nat}, codesB us k l = true → ∀ (i : Nat) (c : CodeD), l[i]? = some c → codeB us (k + i) c = true
  | [], k, _, i, c, hc => by simp at hc
  | a :: r, k, h, i, c, hc => by
    simp only [codesB, Bool.and_eq_true] at h
    cases i with
    | zero =>
      simp at hc
      subst hc
      exact h.1
    | succ i =>
      have := codesB_all (l := r) (k := k + 1) h.2 i c (by simpa using hc)
      rw [show k + 1 + i = k + (i + 1) by omega] at this
      exact this
theorem unit_codes {us : List CodeD} (h : unitB us = true) : ∀ c ∈ us, ∃ k, codeB us k c = true := by
  intro c hc
  unfold unitB at h
  simp only [Bool.and_eq_true] at h
  obtain ⟨i, hi⟩ := List.mem_iff_getElem?.1 hc
  exact ⟨_, codesB_all h.2.1 i c hi⟩
/-- what TightUnit answers -/
def TightP (us : List CodeD) (w : World) (e : Ending) (w' : World) : Prop :=
  ∃ (v : Value) (f : List Nat), e = .returned (.tuple #[.agg #[v], .bool (unitB us)]) ∧ SlF cdF 39 w' f (if unitB us = true then tightU us else []) v ∧ f.Nodup ∧ (∀ x ∈ f, w.heap.size ≤ x) ∧ Below w.heap.size w w'
set_option maxRecDepth 100000 in
set_option maxHeartbeats 4000000 in
theorem impl_TightUnit (codes : List CodeD) (v : Value) (w : World) (lo B : Nat) (hB : B ≤ w.heap.size) (hN : codes.length + sumBy codeN codes ≤ 1048576) (h0 : Sl false (codeS false) w lo B codes v) :
    Calls Try.prog 8 #[.agg #[v]] w (TightP codes w) := by
  have hcn : Hid (∀ c ∈ codes, codeN c ≤ 1048576) := Lib.hid (fun c hc => by have := sumBy_mem codeN hc; omega)
  obtain ⟨A, p, hf, hl1, hl2⟩ := h0.form
  subst hf
  have hb2 : Below w.heap.size w ((w.alloc (.cells #[.slice A codes.length p] 28)).alloc (.cells #[.slice none 0 0] 28)) := ((Below.refl _ _).alloc (Nat.le_refl _) _).alloc (by simp) _
  have R2 : Row ((w.alloc (.cells #[.slice A codes.length p] 28)).alloc (.cells #[.slice none 0 0] 28)) w.heap.size 28 #[.slice A codes.length p] := (Row.new w _ _).alloc _
  have S2 : Row ((w.alloc (.cells #[.slice A codes.length p] 28)).alloc (.cells #[.slice none 0 0] 28)) (w.heap.size + 1) 28 #[.slice none 0 0] := by simpa using Row.new (w.alloc (.cells #[.slice A codes.length p] 28)) 28 #[.slice none 0 0]
  have z2 : w.heap.size + 2 = ((w.alloc (.cells #[.slice A codes.length p] 28)).alloc (.cells #[.slice none 0 0] 28)).heap.size := by simp
  have k0 := h0.below hb2 hB
  go_enter Try.func8, Try.ntmps8
  go_wp2_with fail
  refine (impl_UnitValid codes (.slice A codes.length p) _ lo B (Nat.le_trans hB hb2.size) hN k0).mono ?_
  rintro e w3 ⟨rfl, b3⟩
  have hb3 : Below w.heap.size w w3 := hb2.trans (b3.mono hb2.size)
  have R3 := R2.below b3 R2.lt
  have S3 := S2.below b3 S2.lt
  have k3 := k0.below b3 (Nat.le_trans hB hb2.size)
  have z3 : w.heap.size + 2 ≤ w3.heap.size := by have := b3.size; omega
  have r0 : w3.cell? ⟨w.heap.size, 0, none⟩ = some (.slice A codes.length p) := R3.cell 0
  have s0 : w3.cell? ⟨w.heap.size + 1, 0, none⟩ = some (.slice none 0 0) := S3.cell 0
  have sf0 : w3.frozen? ⟨w.heap.size + 1, 0, none⟩ = false := S3.frozen 0
  clear R2 S2 b3 k0
  by_cases hu : unitB codes = true
  case neg =>
    have hu' : unitB codes = false := by simpa using hu
    rw [hu']
    have F := Lib.hid (show TightP codes w (.returned (.tuple #[.agg #[.slice none 0 0], .bool false])) (w3.setCell ⟨w.heap.size + 1, 0, none⟩ (.slice none 0 0)) from ⟨_, [], by rw [hu'], by rw [if_neg hu]; exact SlF.nil_ _ _ _, by simp, by simp, hb3.setCell (p := ⟨w.heap.size + 1, 0, none⟩) (by show w.heap.size ≤ w.heap.size + 1; omega) _⟩)
    clear hu hu'
    go_wp2_with fail
    refine bodyPost_ret (v := .tuple #[.agg #[.slice none 0 0], .bool false]) (by simp [results, Try.results8, go_sem, s0]) rfl F.out
  case pos =>
    rw [hu]
    have hall := Lib.hid (unit_codes hu)
    have hu1 := Lib.hid hu
    clear hu
    go_wp2_with fail
    refine (impl_mapped_Code 22 #[] tightC codes (.slice A codes.length p) w3 lo B (Nat.le_trans hB hb3.size) (by omega) k3 (fun args w => by kernel_rfl) (fun params regs blocks v2 w' hb' g0 g1 g2 hmem => by
      obtain ⟨k, hk⟩ := hall.out _ hmem
      have hv := seen_valid hk
      have hlt := hv.2.2.2
      simpa using impl_tight params regs blocks v2 w' lo B (Nat.le_trans hB (hb3.trans (hb'.mono hb3.size)).size) (hcn.out _ hmem) g0 g1 g2 (by omega))).mono ?_
    rintro e w4 ⟨v', f, rfl, hs, hnd, hfr, b4⟩
    obtain ⟨A', p', hf, _, _⟩ := hs.form
    rw [List.length_map] at hf
    subst hf
    have hb4 : Below w.heap.size w w4 := hb3.trans (b4.mono hb3.size)
    have S4 := S3.below b4 S3.lt
    have s1 : w4.cell? ⟨w.heap.size + 1, 0, none⟩ = some (.slice none 0 0) := S4.cell 0
    have sf1 : w4.frozen? ⟨w.heap.size + 1, 0, none⟩ = false := S4.frozen 0
    have F := Lib.hid (show TightP codes w (.returned (.tuple #[.agg #[.slice A' codes.length p'], .bool true])) (w4.setCell ⟨w.heap.size + 1, 0, none⟩ (.slice A' codes.length p')) from ⟨_, f, by rw [hu1.out], by
      rw [if_pos hu1.out]
      exact hs.keep (fun x hx => Below.heap_setCell w4 _ _ x (by show x ≠ w.heap.size + 1; have := hfr x hx; omega)), hnd, fun x hx => by have := hfr x hx; omega, hb4.setCell (p := ⟨w.heap.size + 1, 0, none⟩) (by show w.heap.size ≤ w.heap.size + 1; omega) _⟩)
    clear hs hnd hfr hu1 hall r0 s0 sf0
    go_wp2_with fail
    refine bodyPost_ret (v := .tuple #[.agg #[.slice A' codes.length p'], .bool true]) (by simp [results, Try.results8, go_sem, s1]) rfl F.out
end Go.Proofs.Ytgcjccoglcgcoaa
