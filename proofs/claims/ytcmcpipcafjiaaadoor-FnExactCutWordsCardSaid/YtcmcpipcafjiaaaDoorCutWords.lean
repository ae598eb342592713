/-
  The law FnExactCutWords: it returns true for all arguments. Condition: the variables that its row lists read as the table lays them.
-/
import Derived.Test.YtcmcpipcafjiaaaDoorLaws2
import Derived.Test.YtcmcpipcafjiaaaDoorCut5
import Derived.Test.YtcmcpipcafjiaaaDoorMarkW
import Derived.Test.YtcmcpipcafjiaaaDoorEq
namespace Go.Proofs.YtcmcpipcafjiaaaDoor
open Go.RowKit Go.ChangeShapes Go.WideShapes Go.Deep
set_option linter.unusedVariables false
set_option linter.unusedSimpArgs false
theorem cutLst_len (s : ByteArray) : (cutLst s).length ≤ 600 := by
  unfold cutLst
  cases hc : cutOk s with
  | false => simp
  | true =>
    unfold cutOk at hc
    cases hr : cutR s with
    | none => rw [hr] at hc; simp at hc
    | some l =>
      rw [hr] at hc
      simp at hc
      exact hc.2
theorem law_CutWords_big (s : ByteArray) (w : World) (hbig : 1048576 < s.size) (hlen : s.size ≤ 9223372036854775807) : Calls Tryd.prog 7 #[.string s] w (Yes w) := by
  go_enter Tryd.func7, Tryd.ntmps7
  go_wp2_with fail
  go_ret
  exact ⟨rfl, Below.refl _ _⟩
set_option maxRecDepth 100000 in
set_option maxHeartbeats 4000000 in
theorem law_CutWords (s : ByteArray) (w : World) (hs : s.size ≤ maxLen) (hbig : ¬ 1048576 < s.size) (ht : KeysAt w) : Calls Tryd.prog 7 #[.string s] w (Yes w) := by
  have hlen : s.size ≤ 9223372036854775807 := by unfold maxLen at hs; omega
  have hL := cutLst_len s
  go_enter Tryd.func7, Tryd.ntmps7
  go_wp2_with fail
  refine (spec_CutWords s _ hs).mono ?_
  rintro e w1 ⟨v1, rfl, hv1, b1⟩
  have p1 := hv1 false
  clear hv1
  go_wp2_with fail
  refine (impl_CutWords s _ hs (ht.below b1 (Nat.le_refl _))).mono ?_
  rintro e w2 ⟨v2, rfl, hv2, b2⟩
  have hb2 := b1.trans (b2.mono b1.size)
  have p2 := hv2 false
  have t2 := hv2 true
  have p1_2 := p1.below b2 (Nat.le_refl _)
  clear hv2 p1
  obtain ⟨A2, c2, hf2, _, _⟩ := p2.form
  subst hf2
  go_wp2_with fail
  refine (eq_WordS (cutLst s) _ _ w2 _ _ _ _ (Nat.le_refl _) b2.size p2 p1_2).mono ?_
  rintro e w3 ⟨rfl, b3⟩
  have hb3 := hb2.trans (b3.mono hb2.size)
  have p1_3 := p1_2.below b3 b2.size
  have t3 := t2.below b3 (Nat.le_refl _)
  clear p1_2 p2 t2
  go_wp2_with fail
  refine (markx_WordS (cutLst s) _ 1 w3 _ _ (by omega) t3 b3.size).mono ?_
  rintro e w4 ⟨rfl, p4, s4⟩
  have hb4 := hb3.trans (s4.below b1.size hb3.size)
  have p1_4 := p1_3.keep (Nat.le_refl _) (Nat.le_refl _) (s4.same (Or.inl (Nat.le_refl _)) (Nat.le_trans b2.size b3.size))
  have sz4 := s4.size
  have sz3 := b3.size
  have sz2 := b2.size
  have sz1 := b1.size
  clear t3 p1_3
  go_wp2_with fail
  refine (held_WordS 1 (cutLst s).length _ w4 _ _ (by omega) (by omega) p4).mono ?_
  rintro e w5 ⟨rfl, b5⟩
  have hb5 := hb4.trans (b5.mono hb4.size)
  have p1_5 := p1_4.below b5 (by omega)
  have p5 := p4.below b5 (by omega)
  have q0 : decide ((1 : Int) + ((cutLst s).length : Int) * 2 < 0) = false := by simp; omega
  have sz5 := b5.size
  clear p4 p1_4
  go_wp2_with fail
  refine (impl_CutWords s _ hs (ht.below hb5 (Nat.le_refl _))).mono ?_
  rintro e w6 ⟨v6, rfl, hv6, b6⟩
  have hb6 := hb5.trans (b6.mono hb5.size)
  have p6 := hv6 false
  have p1_6 := p1_5.below b6 (by omega)
  have p5_6 := p5.below b6 (by omega)
  have sz6 := b6.size
  clear hv6 p1_5 p5
  go_wp2_with fail
  refine (eq_WordS (cutLst s) _ _ w6 _ _ _ _ (Nat.le_refl _) (by omega) p6 p1_6).mono ?_
  rintro e w7 ⟨rfl, b7⟩
  have hb7 := hb6.trans (b7.mono hb6.size)
  have p5_7 := p5_6.below b7 (by omega)
  have sz7 := b7.size
  clear p5_6 p1_6 p6
  go_wp2_with fail
  refine (held_WordS 1 (cutLst s).length _ w7 _ _ (by omega) (by omega) p5_7).mono ?_
  rintro e w8 ⟨rfl, b8⟩
  have hb8 := hb7.trans (b8.mono hb7.size)
  go_wp2_with fail
  go_ret
  exact ⟨rfl, hb8⟩

set_option maxRecDepth 100000 in
theorem fnExactCutWords_lifted (os : Os) (started : os.Started) (H : Type) (enc : TypeId × Value → H) :
    ReturnsInHanded {} Tryd.checked os 7 .any (fun w args => (Rows.fnExactCutWordsSpec.pre enc Tryd.prog Tryd.f7 [] false w args ∧ laidMetH Tryd.prog [("math/bits.deBruijn32tab", Rows.laid_math_bits_deBruijn32tab), ("math/bits.deBruijn64tab", Rows.laid_math_bits_deBruijn64tab), ("internal/strconv.uint64pow10", Rows.laid_internal_strconv_uint64pow10), ("strconv.ErrRange", Rows.laid_strconv_ErrRange), ("strconv.ErrSyntax", Rows.laid_strconv_ErrSyntax), ("loop.example/wholeway/impl.keys", Rows.laid_loop_example_wholeway_impl_keys)] w) ∧ sizedMet enc Tryd.prog Tryd.f7 (OpenSpec.ofChange Rows.fnExactCutWordsSpec) false w args) (Rows.fnExactCutWordsSpec.post enc Tryd.prog Tryd.f7 false true false false) := by
  refine returnsInHanded_of_change_and (C := Tryd.checked) (X := fun w _ => laidMetH Tryd.prog [("math/bits.deBruijn32tab", Rows.laid_math_bits_deBruijn32tab), ("math/bits.deBruijn64tab", Rows.laid_math_bits_deBruijn64tab), ("internal/strconv.uint64pow10", Rows.laid_internal_strconv_uint64pow10), ("strconv.ErrRange", Rows.laid_strconv_ErrRange), ("strconv.ErrSyntax", Rows.laid_strconv_ErrSyntax), ("loop.example/wholeway/impl.keys", Rows.laid_loop_example_wholeway_impl_keys)] w) (fun _ _ _ hh h => h.of_heap hh) own started (by kernel_rfl) Tryd.func7
    (ChangeSpec.witness_shaped (enc := enc) (C := Tryd.checked) (os := os) (X := fun w _ => laidMetH Tryd.prog [("math/bits.deBruijn32tab", Rows.laid_math_bits_deBruijn32tab), ("math/bits.deBruijn64tab", Rows.laid_math_bits_deBruijn64tab), ("internal/strconv.uint64pow10", Rows.laid_internal_strconv_uint64pow10), ("strconv.ErrRange", Rows.laid_strconv_ErrRange), ("strconv.ErrSyntax", Rows.laid_strconv_ErrSyntax), ("loop.example/wholeway/impl.keys", Rows.laid_loop_example_wholeway_impl_keys)] w) false (World.doorLaid Tryd.prog 400 os) #[.string ⟨#[]⟩] 8 rfl (World.shaped_of_RefB (by kernel_rfl) (by kernel_rfl)) (by kernel_rfl) (by kernel_rfl) (by kernel_rfl) (door_metW os _)) ?_
  intro W base args ds gs before hval0 hW _ _ hL _
  have hval : ∀ (j : Nat) t v, Tryd.f7.params[j]? = some t → args[j]? = some v → Value.okWide Tryd.prog W .any base t v := hval0
  obtain ⟨p, q, hA0, hV, hrest⟩ := id hW
  have hA : DataW.TrodAll enc Tryd.prog W 0 (fun _ => true) true Tryd.f7.params.toList args.toList ds p := hA0
  rw [Tryd.params7] at hA hval
  obtain ⟨v0, d0, rfl, rfl, h0⟩ := trodAll_one hA
  obtain ⟨gv0, rfl⟩ := one_vars hV
  obtain ⟨n0, rfl, rfl, rfl, wn0⟩ := ChangeMaps.open_string Tryd.underlying9 (hval 0 _ v0 rfl rfl) h0
  have hcall : Calls Tryd.prog 7 #[.string n0] W (Yes W) := by
    by_cases hbig : 1048576 < n0.size
    · exact law_CutWords_big n0 W hbig (by unfold maxLen at wn0; omega)
    · exact law_CutWords n0 W wn0 hbig (tabs_ofW hL)
  refine hcall.mono fun e W' ⟨he, hb⟩ => ?_
  subst he
  exact ⟨_, rfl, post_true_vars laidO hW (by kernel_rfl) Tryd.underlying4 (by rw [Tryd.params7]; intro t ht; simp only [List.mem_cons, List.not_mem_nil, or_false] at ht; subst ht; exact ⟨by kernel_rfl, of_decide_eq_true (by kernel_rfl)⟩) vars_ok rfl rfl rfl hb⟩

set_option maxRecDepth 100000 in
set_option maxHeartbeats 1000000 in
theorem fnExactCutWords_facts : joinedFacts Tryd.prog 7 Tryd.f7 Rows.fnExactCutWordsSpec Rows.fnExactCutWordsRow = true := by
  unfold joinedFacts
  exact and_mk (and_mk (and_mk (and_mk (and_mk (and_mk (and_mk (and_mk (and_mk (and_mk (and_mk (and_mk (and_mk (and_mk (and_mk (and_mk (and_mk (and_mk (and_mk (and_mk (and_mk (and_mk (and_mk (and_mk (and_mk (and_mk (and_mk (and_mk (and_mk (and_mk (and_mk (by as_aux_lemma => kernel_rfl) laidO) mapsRowedO) (by as_aux_lemma => kernel_rfl)) (by as_aux_lemma => kernel_rfl)) (by as_aux_lemma => kernel_rfl)) (by as_aux_lemma => kernel_rfl)) (by as_aux_lemma => kernel_rfl)) (by as_aux_lemma => kernel_rfl)) (by as_aux_lemma => kernel_rfl)) (by as_aux_lemma => kernel_rfl)) (by as_aux_lemma => kernel_rfl)) (by as_aux_lemma => kernel_rfl)) (by as_aux_lemma => kernel_rfl)) (by as_aux_lemma => kernel_rfl)) (by as_aux_lemma => kernel_rfl)) (by as_aux_lemma => kernel_rfl)) (by as_aux_lemma => kernel_rfl)) (by as_aux_lemma => kernel_rfl)) (by as_aux_lemma => kernel_rfl)) (by as_aux_lemma => kernel_rfl)) (by as_aux_lemma => kernel_rfl)) (by rw [plainKeysO]; rfl)) (by as_aux_lemma => kernel_rfl)) stopsHeardO) mayEnter) (by rw [liftsFinal]; rfl)) (by rw [makeCut]; rfl)) (by as_aux_lemma => kernel_rfl)) (by as_aux_lemma => kernel_rfl)) (by as_aux_lemma => kernel_rfl)) (by as_aux_lemma => kernel_rfl)

theorem fnExactCutWords_said : Rows.FnExactCutWordsSaid :=
  OpenClaim.holds_of_wide 7 Tryd.f7 rfl rfl rfl rfl rfl rfl rfl ⟨rfl, rfl, rfl, rfl, rfl⟩ rfl rfl rfl rfl rfl (by kernel_rfl) Tryd.func7 fnExactCutWords_facts
    (of_decide_eq_true (by kernel_rfl)) (by unfold Func.isWrapper; first | (rw [if_pos (by decide +kernel)]; kernel_rfl) | (rw [if_neg (by decide +kernel)]; exact ⟨rfl, rfl⟩))
    (fun os started H enc _ => fnExactCutWords_lifted os started H enc)

/-- no parameter wants a stand-in -/
theorem fnExactCutWords_plain (f : FuncId) (fn : Func) (hf : Tryd.pinned.checked.prog.funcNamed "loop.example/wholeway/laws.FnExactCutWords" = some f) (hfn : Tryd.pinned.checked.prog.funcs[f]? = some fn) :
    true = Tryd.pinned.checked.prog.looks [] ∧ ∀ (j : Nat) t, fn.params[j]? = some t → Tryd.pinned.checked.prog.wantsStandIn t = false := by
  obtain rfl : f = 7 := Option.some.inj ((show Tryd.prog.funcNamed "loop.example/wholeway/laws.FnExactCutWords" = some 7 by kernel_rfl).symm.trans hf) |>.symm
  obtain rfl : fn = Tryd.f7 := (Option.some.inj (Tryd.func7.symm.trans hfn)).symm
  refine ⟨by kernel_rfl, fun j t ht => ?_⟩
  rw [Tryd.params7] at ht
  have hm : t ∈ [9] := by simpa using Array.mem_of_getElem? ht
  have hall : ([9].all fun u => !Tryd.prog.wantsStandIn u) = true := by kernel_rfl
  exact (show Tryd.prog.wantsStandIn t = false by simpa using List.all_eq_true.1 hall t hm)
theorem fnExactCutWords_holds : Rows.FnExactCutWordsCardSaid :=
  Claim7.holds_tied_plain_at .later [] _ _ _ _ fnExactCutWords_said (fun _ h => by cases h) (by kernel_rfl) (fun _ h => by cases h) fnExactCutWords_row_tie rfl ⟨rfl, rfl⟩ (by kernel_rfl) rfl fnExactCutWords_plain (by kernel_rfl)
end Go.Proofs.YtcmcpipcafjiaaaDoor
