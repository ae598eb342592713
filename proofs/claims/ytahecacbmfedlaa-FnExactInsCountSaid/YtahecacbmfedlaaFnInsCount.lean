/-
  The law FnExactInsCount: it returns true for all arguments. No condition.
-/
import Derived.Test.YtahecacbmfedlaaUnit9
import Derived.Test.YtahecacbmfedlaaEq
import Derived.Test.YtahecacbmfedlaaDec
import Derived.Test.YtahecacbmfedlaaFacts
namespace Go.Proofs.Ytahecacbmfedlaa
open Go.RowKit Go.ChangeShapes Go.WideShapes Go.Deep

set_option linter.unusedVariables false
set_option linter.unusedSimpArgs false
set_option maxRecDepth 100000 in
set_option maxHeartbeats 4000000 in
theorem law_FnExactInsCount (codes : List CodeD) (v0 : Value)  (w : World) (h0 : Sl false (codeS false) w 0 w.heap.size codes v0)  :
    Calls Try.prog 4 #[.agg #[v0]] w (Yes w) := by
  have hb0 : Below w.heap.size w (w.alloc (.cells #[v0] 24)) := (Below.refl _ _).alloc (Nat.le_refl _) _
  have R0_0 : Row (w.alloc (.cells #[v0] 24)) (w.heap.size) 24 #[v0] := by simpa using Row.new (w) _ _
  go_enter Try.func4, Try.ntmps4
  go_wp2_with fail
  refine (sz_Unit codes v0 1048576 _ 0 w.heap.size (by omega) (by omega) hb0.size (h0.below hb0 (Nat.le_refl _))).mono ?_
  rintro e w1 ⟨r0, rfl, a0, b0, c0, e0⟩
  have hb1 : Below w.heap.size w w1 := hb0.trans (e0.mono hb0.size)
  have sz1 := e0.size
  have R1_0 := R0_0.below e0 R0_0.lt
  clear R0_0
  have C0 := Lib.hid c0
  clear c0
  by_cases hr0 : r0 < 0
  · go_wp2_with fail
    go_ret
    exact ⟨rfl, hb1⟩
  · have hN0 : (codes.length + sumBy codeN codes) ≤ 1048576 := by
      have := C0.out (by omega)
      omega
    have hr0' : 0 ≤ r0 := by omega
    clear C0
    have y0_1 : (w1).cell? ⟨w.heap.size, 0, none⟩ = some (v0) := R1_0.cell 0
    clear a0 b0
    go_wp2_with fail
    refine (to_Unit codes v0 _ 0 w.heap.size hb1.size hN0 (h0.below hb1 (Nat.le_refl _))).mono ?_
    rintro e w2 ⟨cs, rfl, hx, e10⟩
    obtain ⟨xs_0, rfl, qs_0⟩ := unit_open (hx false)
    clear hx
    obtain ⟨As_0, ps_0, hfs_0, _, _⟩ := qs_0.form
    change _ = Value.slice As_0 codes.length ps_0 at hfs_0
    subst hfs_0
    have hb2 : Below w.heap.size w w2 := hb1.trans (e10.mono hb1.size)
    have sz2 := e10.size
    have R2_0 := R1_0.below e10 R1_0.lt
    clear y0_1
    clear R1_0
    go_wp2_with fail
    refine (spec_InsCount codes (.slice As_0 codes.length ps_0)  _ w1.heap.size w2.heap.size (Nat.le_refl _) hN0 qs_0 ).mono ?_
    rintro e w3 ⟨rfl, e11⟩
    have hb3 : Below w.heap.size w w3 := hb2.trans (e11.mono hb2.size)
    have sz3 := e11.size
    have R3_0 := R2_0.below e11 R2_0.lt
    clear R2_0
    have y0_3 : (w3).cell? ⟨w.heap.size, 0, none⟩ = some (v0) := R3_0.cell 0
    have rl0_0 := R3_0.lt
    go_wp2_with fail
    refine (to_Unit codes v0 _ 0 w.heap.size hb3.size hN0 (h0.below hb3 (Nat.le_refl _))).mono ?_
    rintro e u0 ⟨cs, rfl, hx, f0⟩
    obtain ⟨xx0_0, rfl, qx0_0⟩ := unit_open (hx false)
    clear hx
    obtain ⟨Ax0_0, px0_0, hfx0_0, _, _⟩ := qx0_0.form
    change _ = Value.slice Ax0_0 codes.length px0_0 at hfx0_0
    subst hfx0_0
    have hb4 : Below w.heap.size w u0 := hb3.trans (f0.mono hb3.size)
    have sz4 := f0.size
    have R4_0 := R3_0.below f0 R3_0.lt
    clear y0_3
    clear R3_0
    have hk0 : Below w.heap.size w (u0.alloc (.cells #[.slice Ax0_0 codes.length px0_0] 29)) := hb4.alloc hb4.size _
    have K0_0 : Row (u0.alloc (.cells #[.slice Ax0_0 codes.length px0_0] 29)) (w.heap.size) 24 #[v0] := R4_0.alloc _
    have K0_1 : Row (u0.alloc (.cells #[.slice Ax0_0 codes.length px0_0] 29)) u0.heap.size 29 #[.slice Ax0_0 codes.length px0_0] := Row.new _ _ _
    have qx0_0_k0 : Sl false (codeS false) (u0.alloc (.cells #[.slice Ax0_0 codes.length px0_0] 29)) (w3).heap.size u0.heap.size codes (.slice Ax0_0 codes.length px0_0) := qx0_0.keep (Nat.le_refl _) (Nat.le_refl _) (fun b _ hb => Below.heap_alloc _ _ b (by omega))
    have zz0 : u0.heap.size < (u0.alloc (.cells #[.slice Ax0_0 codes.length px0_0] 29)).heap.size := by simp
    have y0_4 : (u0.alloc (.cells #[.slice Ax0_0 codes.length px0_0] 29)).cell? ⟨w.heap.size, 0, none⟩ = some (v0) := K0_0.cell 0
    have y1_4 : (u0.alloc (.cells #[.slice Ax0_0 codes.length px0_0] 29)).cell? ⟨u0.heap.size, 0, none⟩ = some (.slice Ax0_0 codes.length px0_0) := K0_1.cell 0
    go_wp2_with fail
    refine (impl_InsCount codes (.slice Ax0_0 codes.length px0_0)  _ (w3).heap.size u0.heap.size (by simp) hN0 qx0_0_k0 ).mono ?_
    rintro e g0 ⟨rfl, eg⟩
    have tt : (u0.alloc (.cells #[.slice Ax0_0 codes.length px0_0] 29)).heap.size ≤ g0.heap.size := eg.size
    have hb5 : Below w.heap.size w g0 := hk0.trans (eg.mono hk0.size)
    have sz5 := eg.size
    have R5_0 := K0_0.below eg K0_0.lt
    have R5_1 := K0_1.below eg K0_1.lt
    have qx0_0_5 := qx0_0_k0.below eg (by first | omega | (simp; omega) | (simp at *; omega))
    clear y0_4 y1_4
    clear K0_0 K0_1 qx0_0_k0
    have y0_5 : (g0).cell? ⟨w.heap.size, 0, none⟩ = some (v0) := R5_0.cell 0
    have y1_5 : (g0).cell? ⟨u0.heap.size, 0, none⟩ = some (.slice Ax0_0 codes.length px0_0) := R5_1.cell 0
    go_wp2_with fail
    have hbd0 : Below w.heap.size w g0.drew := hb5.drew
    have D0_0 : Row g0.drew (w.heap.size) 24 #[v0] := R5_0
    have D0_1 : Row g0.drew (u0.heap.size) 29 #[.slice Ax0_0 codes.length px0_0] := R5_1
    have dqx0_0 : Sl false (codeS false) g0.drew (w3).heap.size u0.heap.size codes (.slice Ax0_0 codes.length px0_0) := qx0_0_5.keep (Nat.le_refl _) (Nat.le_refl _) (fun _ _ _ => rfl)
    have ts0 : g0.heap.size ≤ g0.drew.heap.size := Nat.le_refl _
    go_region_held3 (fun w' => w'.cell? ⟨w.heap.size, 0, none⟩ = some (v0) ∧ w'.cell? ⟨u0.heap.size, 0, none⟩ = some (.slice Ax0_0 codes.length px0_0)) (refine ⟨?_, ?_⟩ <;> assumption) (first | (go_at_call 7; refine (to_Unit codes v0 g0.drew 0 w.heap.size hbd0.size hN0 (h0.below hbd0 (Nat.le_refl _))).mono ?_; rintro e va0 ⟨cs, rfl, hx, ea0⟩; obtain ⟨xz0_0, rfl, qz0_0⟩ := unit_open (hx false); clear hx; obtain ⟨Az0_0, pz0_0, hfz0_0, _, _⟩ := qz0_0.form; change _ = Value.slice Az0_0 codes.length pz0_0 at hfz0_0; subst hfz0_0; have hba0 : Below w.heap.size w va0 := hbd0.trans (ea0.mono hbd0.size); have sea0 := ea0.size; have P0_0 := D0_0.below ea0 D0_0.lt; have P0_1 := D0_1.below ea0 D0_1.lt; have m0_0_0 : va0.cell? ⟨w.heap.size, 0, none⟩ = some (v0) := P0_0.cell 0; have m0_1_0 : va0.cell? ⟨u0.heap.size, 0, none⟩ = some (.slice Ax0_0 codes.length px0_0) := P0_1.cell 0) | (go_at_call 9; refine (eq_Unit codes (.slice Ax0_0 codes.length px0_0) (.slice Az0_0 codes.length pz0_0) va0 (w3).heap.size u0.heap.size g0.drew.heap.size va0.heap.size (by omega) (Nat.le_refl _) (dqx0_0.below ea0 (by omega)) qz0_0).mono ?_; rintro e vb0 ⟨rfl, eb0⟩; have hbb0 : Below w.heap.size w vb0 := hba0.trans (eb0.mono hba0.size); have seb0 := eb0.size; have Q0_0 := P0_0.below eb0 P0_0.lt; have Q0_1 := P0_1.below eb0 P0_1.lt; have n0_0_0 : vb0.cell? ⟨w.heap.size, 0, none⟩ = some (v0) := Q0_0.cell 0; have n0_1_0 : vb0.cell? ⟨u0.heap.size, 0, none⟩ = some (.slice Ax0_0 codes.length px0_0) := Q0_1.cell 0))
    clear y0_5 y1_5
    have qx0_0_f0 := (dqx0_0.below ea0 (by omega)).below eb0 (by omega)
    clear m0_0_0 m0_1_0 n0_0_0 n0_1_0
    go_wp2_with fail
    go_ret
    exact ⟨rfl, hbb0⟩

set_option maxRecDepth 100000 in
theorem fnExactInsCount_lifted (os : Os) (started : os.Started) (H : Type) (enc : TypeId × Value → H) :
    ReturnsInHanded {} Try.checked os 4 .any (Rows.fnExactInsCountSpec.pre6 enc Try.prog Try.f4 Rows.fnExactInsCountRow.domain false) (Rows.fnExactInsCountSpec.post enc Try.prog Try.f4 false true false false) := by
  refine returnsInHanded_of_change (C := Try.checked) own started (by kernel_rfl) Try.func4
    (ChangeSpec.witness6 (enc := enc) (C := Try.checked) false ⟨#[], #[.agg #[.slice none 0 0]], []⟩ 8 (by kernel_rfl) (by kernel_rfl) (by kernel_rfl) (by kernel_rfl)) ?_
  intro W base args ds gs before hval0 hW hcnd _
  have hval : ∀ (j : Nat) t v, Try.f4.params[j]? = some t → args[j]? = some v → Value.okWide Try.prog W .any base t v := hval0
  obtain ⟨p, q, hA0, hV, hrest⟩ := id hW
  have hA : DataW.TrodAll enc Try.prog W 0 (fun _ => true) true Try.f4.params.toList args.toList ds p := hA0
  rw [Try.params4] at hA hval
  obtain ⟨v0, d0, rfl, rfl, h0⟩ := trodAll_one hA
  obtain ⟨rfl, rfl⟩ := trodVars_none hV
  obtain ⟨cs0, rfl, -⟩ := okWide_struct Try.underlying24 (hval 0 _ v0 rfl rfl)
  obtain ⟨fuel0, hf0⟩ := h0
  obtain ⟨da0, ha0⟩ := dec_Unit hf0
  obtain ⟨s0_0, e0, g0_0⟩ := unit_open ha0
  obtain ⟨t0_0⟩ := da0
  obtain ⟨cs0⟩ := cs0
  simp only [Value.cells] at e0
  subst e0
  have hcall := law_FnExactInsCount t0_0 s0_0  W g0_0 
  refine hcall.mono fun e W' ⟨he, hb⟩ => ?_
  subst he
  exact ⟨_, rfl, post_true laidO hW rfl (by kernel_rfl) Try.underlying4 (by rw [Try.params4]; intro t ht; simp only [List.mem_cons, List.not_mem_nil, or_false] at ht; subst ht; exact ⟨by kernel_rfl, of_decide_eq_true (by kernel_rfl)⟩) rfl rfl rfl hb⟩

set_option maxRecDepth 100000 in
set_option maxHeartbeats 1000000 in
theorem fnExactInsCount_facts : joinedFacts Try.prog 4 Try.f4 Rows.fnExactInsCountSpec Rows.fnExactInsCountRow = true := by
  unfold joinedFacts
  exact and_mk (and_mk (and_mk (and_mk (and_mk (and_mk (and_mk (and_mk (and_mk (and_mk (and_mk (and_mk (and_mk (and_mk (and_mk (and_mk (and_mk (and_mk (and_mk (and_mk (and_mk (and_mk (and_mk (and_mk (and_mk (and_mk (and_mk (and_mk (and_mk (and_mk (and_mk (by as_aux_lemma => kernel_rfl) laidO) mapsRowedO) (by as_aux_lemma => kernel_rfl)) (by as_aux_lemma => kernel_rfl)) (by as_aux_lemma => kernel_rfl)) (by as_aux_lemma => kernel_rfl)) (by as_aux_lemma => kernel_rfl)) (by as_aux_lemma => kernel_rfl)) (by as_aux_lemma => kernel_rfl)) (by as_aux_lemma => kernel_rfl)) (by as_aux_lemma => kernel_rfl)) (by as_aux_lemma => kernel_rfl)) (by as_aux_lemma => kernel_rfl)) (by as_aux_lemma => kernel_rfl)) (by as_aux_lemma => kernel_rfl)) (by as_aux_lemma => kernel_rfl)) (by as_aux_lemma => kernel_rfl)) (by as_aux_lemma => kernel_rfl)) (by as_aux_lemma => kernel_rfl)) (by as_aux_lemma => kernel_rfl)) (by as_aux_lemma => kernel_rfl)) (by rw [plainKeysO]; rfl)) (by as_aux_lemma => kernel_rfl)) stopsHeardO) mayEnter) (by rw [liftsFinal]; rfl)) (by rw [makeCut]; rfl)) (by as_aux_lemma => kernel_rfl)) (by as_aux_lemma => kernel_rfl)) (by as_aux_lemma => kernel_rfl)) (by as_aux_lemma => kernel_rfl)

theorem fnExactInsCount_holds : Rows.FnExactInsCountSaid :=
  OpenClaim.holds_of_wide 4 Try.f4 rfl rfl rfl rfl rfl rfl rfl ⟨rfl, rfl, rfl, rfl, rfl⟩ rfl rfl rfl rfl rfl (by kernel_rfl) Try.func4 fnExactInsCount_facts
    (of_decide_eq_true (by kernel_rfl)) (by unfold Func.isWrapper; first | (rw [if_pos (by decide +kernel)]; kernel_rfl) | (rw [if_neg (by decide +kernel)]; exact ⟨rfl, rfl⟩))
    (fun os started H enc _ => fnExactInsCount_lifted os started H enc)

end Go.Proofs.Ytahecacbmfedlaa

