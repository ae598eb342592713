/-
  The law FnExactKeyWords: it returns true. Condition: the table of key words lies as the program's text lays it.
-/
import Derived.Test.YtcmcpipcafjiaaaDoorLaws
import Derived.Test.YtcmcpipcafjiaaaDoorKeys
namespace Go.Proofs.YtcmcpipcafjiaaaDoor
open Go.RowKit Go.ChangeShapes Go.WideShapes Go.Deep
set_option linter.unusedVariables false
set_option linter.unusedSimpArgs false
set_option maxRecDepth 100000 in
set_option maxHeartbeats 4000000 in
theorem law_KeyWords (w : World) (ht : KeysAt w) : Calls Tryd.prog 3 #[] w (Yes w) := by
  have K9 : keysL.length ≤ 9 := by decide
  go_enter Tryd.func3, Tryd.ntmps3
  go_wp2_with fail
  refine (spec_KeyWords _).mono ?_
  rintro e w1 ⟨gw, rfl, hw1, b1⟩
  go_wp2_with fail
  refine (impl_KeyWords _ (ht.below b1 (Nat.le_refl _))).mono ?_
  rintro e w2 ⟨v, rfl, hv2, b2⟩
  have hq2 := hv2 false
  have ht2 := hv2 true
  clear hv2
  obtain ⟨Ag, pg, hf, _, _⟩ := hq2.form
  subst hf
  have B2 := b1.trans (b2.mono b1.size)
  have hw2 := hw1.below b2 (Nat.le_refl _)
  have z1 := b1.size
  have z2 := b2.size
  go_wp2_with fail
  refine (eq_StringS keysL _ _ _ w1.heap.size w2.heap.size w.heap.size w1.heap.size (Nat.le_refl _) z2 hq2 hw2).mono ?_
  rintro e w3 ⟨rfl, b3⟩
  have B3 := B2.trans (b3.mono B2.size)
  have hw3 := hw2.below b3 z2
  have ht3 := ht2.below b3 (Nat.le_refl _)
  have z3 := b3.size
  go_wp2_with fail
  refine (markx_StringS keysL _ 1 _ w1.heap.size w2.heap.size (by omega) ht3 z3).mono ?_
  rintro e w4 ⟨rfl, hm4, S4⟩
  have B4 := B3.trans (S4.below z1 B3.size)
  have hw4 := hw3.keep (Nat.le_refl _) (Nat.le_refl _) (S4.same (by omega) (by omega))
  have z4 := S4.size
  go_wp2_with fail
  refine (held_StringS 1 keysL.length _ _ w1.heap.size w2.heap.size (by omega) (by omega) hm4).mono ?_
  rintro e w5 ⟨rfl, b5⟩
  have B5 := B4.trans (b5.mono B4.size)
  have hw5 := hw4.below b5 (by omega)
  have hm5 := hm4.below b5 (by omega)
  have z5 := b5.size
  go_wp2_with fail
  refine (impl_KeyWords _ (ht.below B5 (Nat.le_refl _))).mono ?_
  rintro e w6 ⟨v6, rfl, hv6, b6⟩
  have hq6 := hv6 false
  clear hv6
  obtain ⟨Ah, ph, hf, _, _⟩ := hq6.form
  subst hf
  have B6 := B5.trans (b6.mono B5.size)
  have hw6 := hw5.below b6 (by omega)
  have hm6 := hm5.below b6 (by omega)
  have z6 := b6.size
  go_wp2_with fail
  refine (eq_StringS keysL _ _ _ w5.heap.size w6.heap.size w.heap.size w1.heap.size (Nat.le_refl _) (by omega) hq6 hw6).mono ?_
  rintro e w7 ⟨rfl, b7⟩
  have B7 := B6.trans (b7.mono B6.size)
  have hm7 := hm6.below b7 (by omega)
  have z7 := b7.size
  go_wp2_with fail
  refine (held_StringS 1 keysL.length _ _ w1.heap.size w2.heap.size (by omega) (by omega) hm7).mono ?_
  rintro e w8 ⟨rfl, b8⟩
  go_wp2_with fail
  go_ret
  exact ⟨rfl, B7.trans (b8.mono B7.size)⟩

set_option maxRecDepth 100000 in
theorem fnExactKeyWords_lifted (os : Os) (started : os.Started) (H : Type) (enc : TypeId × Value → H) :
    ReturnsInHanded {} Tryd.checked os 3 .any (fun w args => (Rows.fnExactKeyWordsSpec.pre enc Tryd.prog Tryd.f3 [] false w args ∧ laidMetH Tryd.prog [("loop.example/wholeway/impl.keys", Rows.laid_loop_example_wholeway_impl_keys)] w) ∧ sizedMet enc Tryd.prog Tryd.f3 (OpenSpec.ofChange Rows.fnExactKeyWordsSpec) false w args) (Rows.fnExactKeyWordsSpec.post enc Tryd.prog Tryd.f3 false true false false) := by
  refine returnsInHanded_of_change_and (C := Tryd.checked) (X := fun w _ => laidMetH Tryd.prog [("loop.example/wholeway/impl.keys", Rows.laid_loop_example_wholeway_impl_keys)] w) (fun _ _ _ hh h => h.of_heap hh) own started (by kernel_rfl) Tryd.func3
    (ChangeSpec.witness_shaped (enc := enc) (C := Tryd.checked) (os := os) (X := fun w _ => laidMetH Tryd.prog [("loop.example/wholeway/impl.keys", Rows.laid_loop_example_wholeway_impl_keys)] w) false (World.doorLaid Tryd.prog 400 os) #[] 8 rfl (World.shaped_of_RefB (by kernel_rfl) (by kernel_rfl)) (by kernel_rfl) (by kernel_rfl) (by kernel_rfl) (door_met os _)) ?_
  intro W base args ds gs before hval0 hW _ _ hL _
  have hval : ∀ (j : Nat) t v, Tryd.f3.params[j]? = some t → args[j]? = some v → Value.okWide Tryd.prog W .any base t v := hval0
  obtain ⟨p, q, hA0, hV, hrest⟩ := id hW
  have hA : DataW.TrodAll enc Tryd.prog W 0 (fun _ => true) true Tryd.f3.params.toList args.toList ds p := hA0
  rw [Tryd.params3] at hA hval
  obtain ⟨rfl, rfl, rfl⟩ := trodAll_none hA
  obtain ⟨gv0, rfl⟩ := one_vars hV
  have hcall := law_KeyWords W (tabs_of hL)
  refine hcall.mono fun e W' ⟨he, hb⟩ => ?_
  subst he
  exact ⟨_, rfl, post_true_vars laidO hW (by kernel_rfl) Tryd.underlying4 (by rw [Tryd.params3]; simp) vars_ok rfl rfl rfl hb⟩

set_option maxRecDepth 100000 in
set_option maxHeartbeats 1000000 in
theorem fnExactKeyWords_facts : joinedFacts Tryd.prog 3 Tryd.f3 Rows.fnExactKeyWordsSpec Rows.fnExactKeyWordsRow = true := by
  unfold joinedFacts
  exact and_mk (and_mk (and_mk (and_mk (and_mk (and_mk (and_mk (and_mk (and_mk (and_mk (and_mk (and_mk (and_mk (and_mk (and_mk (and_mk (and_mk (and_mk (and_mk (and_mk (and_mk (and_mk (and_mk (and_mk (and_mk (and_mk (and_mk (and_mk (and_mk (and_mk (and_mk (by as_aux_lemma => kernel_rfl) laidO) mapsRowedO) (by as_aux_lemma => kernel_rfl)) (by as_aux_lemma => kernel_rfl)) (by as_aux_lemma => kernel_rfl)) (by as_aux_lemma => kernel_rfl)) (by as_aux_lemma => kernel_rfl)) (by as_aux_lemma => kernel_rfl)) (by as_aux_lemma => kernel_rfl)) (by as_aux_lemma => kernel_rfl)) (by as_aux_lemma => kernel_rfl)) (by as_aux_lemma => kernel_rfl)) (by as_aux_lemma => kernel_rfl)) (by as_aux_lemma => kernel_rfl)) (by as_aux_lemma => kernel_rfl)) (by as_aux_lemma => kernel_rfl)) (by as_aux_lemma => kernel_rfl)) (by as_aux_lemma => kernel_rfl)) (by as_aux_lemma => kernel_rfl)) (by as_aux_lemma => kernel_rfl)) (by as_aux_lemma => kernel_rfl)) (by rw [plainKeysO]; rfl)) (by as_aux_lemma => kernel_rfl)) stopsHeardO) mayEnter) (by rw [liftsFinal]; rfl)) (by rw [makeCut]; rfl)) (by as_aux_lemma => kernel_rfl)) (by as_aux_lemma => kernel_rfl)) (by as_aux_lemma => kernel_rfl)) (by as_aux_lemma => kernel_rfl)

theorem fnExactKeyWords_said : Rows.FnExactKeyWordsSaid :=
  OpenClaim.holds_of_wide 3 Tryd.f3 rfl rfl rfl rfl rfl rfl rfl ⟨rfl, rfl, rfl, rfl, rfl⟩ rfl rfl rfl rfl rfl (by kernel_rfl) Tryd.func3 fnExactKeyWords_facts
    (of_decide_eq_true (by kernel_rfl)) (by unfold Func.isWrapper; first | (rw [if_pos (by decide +kernel)]; kernel_rfl) | (rw [if_neg (by decide +kernel)]; exact ⟨rfl, rfl⟩))
    (fun os started H enc _ => fnExactKeyWords_lifted os started H enc)

/-- no parameter wants a stand-in -/
theorem fnExactKeyWords_plain (f : FuncId) (fn : Func) (hf : Tryd.pinned.checked.prog.funcNamed "loop.example/wholeway/laws.FnExactKeyWords" = some f) (hfn : Tryd.pinned.checked.prog.funcs[f]? = some fn) :
    true = Tryd.pinned.checked.prog.looks [] ∧ ∀ (j : Nat) t, fn.params[j]? = some t → Tryd.pinned.checked.prog.wantsStandIn t = false := by
  obtain rfl : f = 3 := Option.some.inj ((show Tryd.prog.funcNamed "loop.example/wholeway/laws.FnExactKeyWords" = some 3 by kernel_rfl).symm.trans hf) |>.symm
  obtain rfl : fn = Tryd.f3 := (Option.some.inj (Tryd.func3.symm.trans hfn)).symm
  refine ⟨by kernel_rfl, fun j t ht => ?_⟩
  rw [Tryd.params3] at ht
  have hm : t ∈ [] := by simpa using Array.mem_of_getElem? ht
  have hall : ([].all fun u => !Tryd.prog.wantsStandIn u) = true := by kernel_rfl
  exact (show Tryd.prog.wantsStandIn t = false by simpa using List.all_eq_true.1 hall t hm)
theorem fnExactKeyWords_holds : Rows.FnExactKeyWordsCardSaid :=
  Claim7.holds_tied_plain_at .later [] _ _ _ _ fnExactKeyWords_said (fun _ h => by cases h) (by kernel_rfl) (fun _ h => by cases h) fnExactKeyWords_row_tie rfl ⟨rfl, rfl⟩ (by kernel_rfl) rfl fnExactKeyWords_plain (by kernel_rfl)
end Go.Proofs.YtcmcpipcafjiaaaDoor
