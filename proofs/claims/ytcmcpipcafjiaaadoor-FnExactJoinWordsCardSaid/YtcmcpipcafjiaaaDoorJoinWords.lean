/-
  The law FnExactJoinWords: it returns true for all arguments. Condition: the variables that its row lists read as the table lays them.
-/
import Derived.Test.YtcmcpipcafjiaaaDoorLaws2
import Derived.Test.YtcmcpipcafjiaaaDoorJoin1
import Derived.Test.YtcmcpipcafjiaaaDoorEq
import Derived.Test.YtcmcpipcafjiaaaDoorDec
namespace Go.Proofs.YtcmcpipcafjiaaaDoor
open Go.RowKit Go.ChangeShapes Go.WideShapes Go.Deep
set_option linter.unusedVariables false
set_option linter.unusedSimpArgs false
theorem jV_form (l : List WordD) : ∃ T b, jV l = .tuple #[.string T, .bool b] := by
  cases h : jOk l with
  | false => exact ⟨_, _, jV_no h⟩
  | true => exact ⟨_, _, jV_yes h⟩
set_option maxRecDepth 100000 in
set_option maxHeartbeats 4000000 in
theorem law_JoinWords (l : List WordD) (v : Value) (w : World) (h : Sl false (wordS false) w 0 w.heap.size l v) (ht : KeysAt w) : Calls Tryd.prog 8 #[v] w (Yes w) := by
  obtain ⟨A, cap, rfl, hlc, hcm⟩ := h.form
  obtain ⟨T, bb, hJ⟩ := jV_form l
  have HJ := Lib.hid hJ
  clear hJ
  go_enter Tryd.func8, Tryd.ntmps8
  go_wp2_with fail
  refine (sz_WordS l _ 1048576 _ 0 w.heap.size (by omega) (by omega) (Nat.le_refl _) h).mono ?_
  rintro e w1 ⟨r0, rfl, a0, b0, c0, hb1⟩
  have C0 := Lib.hid c0
  clear c0
  by_cases hr0 : r0 < 0
  · go_wp2_with fail
    go_ret
    exact ⟨rfl, hb1⟩
  have hN0 : l.length + sumBy wordN l ≤ 1048576 := by
    have := C0.out (by omega)
    omega
  have hr0' : 0 ≤ r0 := by omega
  clear C0
  clear a0 b0
  go_wp2_with fail
  refine (to_WordS l _ _ 0 w.heap.size hb1.size hN0 (h.below hb1 (Nat.le_refl _))).mono ?_
  rintro e w2 ⟨x, rfl, hx, e1⟩
  replace hx := hx false
  obtain ⟨Ax, px, rfl, _, _⟩ := hx.form
  have hb2 : Below w.heap.size w w2 := hb1.trans (e1.mono hb1.size)
  go_wp2_with fail
  refine (spec_JoinWords l _ _ w1.heap.size w2.heap.size (Nat.le_refl _) hN0 hx).mono ?_
  rintro e w3 ⟨rfl, e2⟩
  rw [HJ.out]
  have hb3 : Below w.heap.size w w3 := hb2.trans (e2.mono hb2.size)
  clear hx
  go_wp2_with fail
  refine (to_WordS l _ _ 0 w.heap.size hb3.size hN0 (h.below hb3 (Nat.le_refl _))).mono ?_
  rintro e w4 ⟨y, rfl, hy, e3⟩
  replace hy := hy false
  obtain ⟨Ay, py, rfl, _, _⟩ := hy.form
  have hb4 : Below w.heap.size w w4 := hb3.trans (e3.mono hb3.size)
  go_wp2_with fail
  refine (impl_JoinWords l _ _ w3.heap.size w4.heap.size (Nat.le_refl _) hN0 hy (ht.below hb4 (Nat.le_refl _))).mono ?_
  rintro e w5 ⟨rfl, e4⟩
  rw [HJ.out]
  have hb5 : Below w.heap.size w w5 := hb4.trans (e4.mono hb4.size)
  have hy5 := hy.below e4 (Nat.le_refl _)
  have sz5 := e4.size
  clear hy
  go_wp2_with fail
  refine (to_WordS l _ _ 0 w.heap.size hb5.size hN0 (h.below hb5 (Nat.le_refl _))).mono ?_
  rintro e w6 ⟨z, rfl, hz, e5⟩
  replace hz := hz false
  obtain ⟨Az, pz, rfl, _, _⟩ := hz.form
  have hb6 : Below w.heap.size w w6 := hb5.trans (e5.mono hb5.size)
  have hy6 := hy5.below e5 sz5
  have sz6 := e5.size
  clear hy5
  go_wp2_with fail
  refine (eq_WordS l _ _ _ w3.heap.size w4.heap.size w5.heap.size w6.heap.size (by omega) (Nat.le_refl _) hy6 hz).mono ?_
  rintro e w7 ⟨rfl, e6⟩
  have hb7 : Below w.heap.size w w7 := hb6.trans (e6.mono hb6.size)
  go_wp2_with fail
  go_ret
  exact ⟨rfl, hb7⟩

set_option maxRecDepth 100000 in
theorem fnExactJoinWords_lifted (os : Os) (started : os.Started) (H : Type) (enc : TypeId × Value → H) :
    ReturnsInHanded {} Tryd.checked os 8 .any (fun w args => (Rows.fnExactJoinWordsSpec.pre enc Tryd.prog Tryd.f8 [] false w args ∧ laidMetH Tryd.prog [("math/bits.deBruijn32tab", Rows.laid_math_bits_deBruijn32tab), ("math/bits.deBruijn64tab", Rows.laid_math_bits_deBruijn64tab), ("internal/strconv.uint64pow10", Rows.laid_internal_strconv_uint64pow10), ("strconv.ErrRange", Rows.laid_strconv_ErrRange), ("strconv.ErrSyntax", Rows.laid_strconv_ErrSyntax), ("loop.example/wholeway/impl.keys", Rows.laid_loop_example_wholeway_impl_keys)] w) ∧ sizedMet enc Tryd.prog Tryd.f8 (OpenSpec.ofChange Rows.fnExactJoinWordsSpec) false w args) (Rows.fnExactJoinWordsSpec.post enc Tryd.prog Tryd.f8 false true false false) := by
  refine returnsInHanded_of_change_and (C := Tryd.checked) (X := fun w _ => laidMetH Tryd.prog [("math/bits.deBruijn32tab", Rows.laid_math_bits_deBruijn32tab), ("math/bits.deBruijn64tab", Rows.laid_math_bits_deBruijn64tab), ("internal/strconv.uint64pow10", Rows.laid_internal_strconv_uint64pow10), ("strconv.ErrRange", Rows.laid_strconv_ErrRange), ("strconv.ErrSyntax", Rows.laid_strconv_ErrSyntax), ("loop.example/wholeway/impl.keys", Rows.laid_loop_example_wholeway_impl_keys)] w) (fun _ _ _ hh h => h.of_heap hh) own started (by kernel_rfl) Tryd.func8
    (ChangeSpec.witness_shaped (enc := enc) (C := Tryd.checked) (os := os) (X := fun w _ => laidMetH Tryd.prog [("math/bits.deBruijn32tab", Rows.laid_math_bits_deBruijn32tab), ("math/bits.deBruijn64tab", Rows.laid_math_bits_deBruijn64tab), ("internal/strconv.uint64pow10", Rows.laid_internal_strconv_uint64pow10), ("strconv.ErrRange", Rows.laid_strconv_ErrRange), ("strconv.ErrSyntax", Rows.laid_strconv_ErrSyntax), ("loop.example/wholeway/impl.keys", Rows.laid_loop_example_wholeway_impl_keys)] w) false (World.doorLaid Tryd.prog 400 os) #[.slice none 0 0] 8 rfl (World.shaped_of_RefB (by kernel_rfl) (by kernel_rfl)) (by kernel_rfl) (by kernel_rfl) (by kernel_rfl) (door_metW os _)) ?_
  intro W base args ds gs before hval0 hW _ _ hL _
  have hval : ∀ (j : Nat) t v, Tryd.f8.params[j]? = some t → args[j]? = some v → Value.okWide Tryd.prog W .any base t v := hval0
  obtain ⟨p, q, hA0, hV, hrest⟩ := id hW
  have hA : DataW.TrodAll enc Tryd.prog W 0 (fun _ => true) true Tryd.f8.params.toList args.toList ds p := hA0
  rw [Tryd.params8] at hA hval
  obtain ⟨v0, d0, rfl, rfl, h0⟩ := trodAll_one hA
  obtain ⟨gv0, rfl⟩ := one_vars hV
  obtain ⟨a, len, cap, rfl⟩ := okWide_slice Tryd.underlying41 (hval 0 _ v0 rfl rfl)
  obtain ⟨fuel0, hf0⟩ := h0
  obtain ⟨da0, vv, hv0, ha0⟩ := dec_slice Tryd.underlying41 (by kernel_rfl) (by decide) dec_Word hf0
  simp only [Value.cells, List.cons.injEq, and_true] at hv0
  subst hv0
  have hcall := law_JoinWords da0 _ W ha0 (tabs_ofW hL)
  refine hcall.mono fun e W' ⟨he, hb⟩ => ?_
  subst he
  exact ⟨_, rfl, post_true_vars laidO hW (by kernel_rfl) Tryd.underlying4 (by rw [Tryd.params8]; intro t ht; simp only [List.mem_cons, List.not_mem_nil, or_false] at ht; subst ht; exact ⟨by kernel_rfl, of_decide_eq_true (by kernel_rfl)⟩) vars_ok rfl rfl rfl hb⟩

set_option maxRecDepth 100000 in
set_option maxHeartbeats 1000000 in
theorem fnExactJoinWords_facts : joinedFacts Tryd.prog 8 Tryd.f8 Rows.fnExactJoinWordsSpec Rows.fnExactJoinWordsRow = true := by
  unfold joinedFacts
  exact and_mk (and_mk (and_mk (and_mk (and_mk (and_mk (and_mk (and_mk (and_mk (and_mk (and_mk (and_mk (and_mk (and_mk (and_mk (and_mk (and_mk (and_mk (and_mk (and_mk (and_mk (and_mk (and_mk (and_mk (and_mk (and_mk (and_mk (and_mk (and_mk (and_mk (and_mk (by as_aux_lemma => kernel_rfl) laidO) mapsRowedO) (by as_aux_lemma => kernel_rfl)) (by as_aux_lemma => kernel_rfl)) (by as_aux_lemma => kernel_rfl)) (by as_aux_lemma => kernel_rfl)) (by as_aux_lemma => kernel_rfl)) (by as_aux_lemma => kernel_rfl)) (by as_aux_lemma => kernel_rfl)) (by as_aux_lemma => kernel_rfl)) (by as_aux_lemma => kernel_rfl)) (by as_aux_lemma => kernel_rfl)) (by as_aux_lemma => kernel_rfl)) (by as_aux_lemma => kernel_rfl)) (by as_aux_lemma => kernel_rfl)) (by as_aux_lemma => kernel_rfl)) (by as_aux_lemma => kernel_rfl)) (by as_aux_lemma => kernel_rfl)) (by as_aux_lemma => kernel_rfl)) (by as_aux_lemma => kernel_rfl)) (by as_aux_lemma => kernel_rfl)) (by rw [plainKeysO]; rfl)) (by as_aux_lemma => kernel_rfl)) stopsHeardO) mayEnter) (by rw [liftsFinal]; rfl)) (by rw [makeCut]; rfl)) (by as_aux_lemma => kernel_rfl)) (by as_aux_lemma => kernel_rfl)) (by as_aux_lemma => kernel_rfl)) (by as_aux_lemma => kernel_rfl)

theorem fnExactJoinWords_said : Rows.FnExactJoinWordsSaid :=
  OpenClaim.holds_of_wide 8 Tryd.f8 rfl rfl rfl rfl rfl rfl rfl ⟨rfl, rfl, rfl, rfl, rfl⟩ rfl rfl rfl rfl rfl (by kernel_rfl) Tryd.func8 fnExactJoinWords_facts
    (of_decide_eq_true (by kernel_rfl)) (by unfold Func.isWrapper; first | (rw [if_pos (by decide +kernel)]; kernel_rfl) | (rw [if_neg (by decide +kernel)]; exact ⟨rfl, rfl⟩))
    (fun os started H enc _ => fnExactJoinWords_lifted os started H enc)

/-- no parameter wants a stand-in -/
theorem fnExactJoinWords_plain (f : FuncId) (fn : Func) (hf : Tryd.pinned.checked.prog.funcNamed "loop.example/wholeway/laws.FnExactJoinWords" = some f) (hfn : Tryd.pinned.checked.prog.funcs[f]? = some fn) :
    true = Tryd.pinned.checked.prog.looks [] ∧ ∀ (j : Nat) t, fn.params[j]? = some t → Tryd.pinned.checked.prog.wantsStandIn t = false := by
  obtain rfl : f = 8 := Option.some.inj ((show Tryd.prog.funcNamed "loop.example/wholeway/laws.FnExactJoinWords" = some 8 by kernel_rfl).symm.trans hf) |>.symm
  obtain rfl : fn = Tryd.f8 := (Option.some.inj (Tryd.func8.symm.trans hfn)).symm
  refine ⟨by kernel_rfl, fun j t ht => ?_⟩
  rw [Tryd.params8] at ht
  have hm : t ∈ [41] := by simpa using Array.mem_of_getElem? ht
  have hall : ([41].all fun u => !Tryd.prog.wantsStandIn u) = true := by kernel_rfl
  exact (show Tryd.prog.wantsStandIn t = false by simpa using List.all_eq_true.1 hall t hm)
theorem fnExactJoinWords_holds : Rows.FnExactJoinWordsCardSaid :=
  Claim7.holds_tied_plain_at .later [] _ _ _ _ fnExactJoinWords_said (fun _ h => by cases h) (by kernel_rfl) (fun _ h => by cases h) fnExactJoinWords_row_tie rfl ⟨rfl, rfl⟩ (by kernel_rfl) rfl fnExactJoinWords_plain (by kernel_rfl)
end Go.Proofs.YtcmcpipcafjiaaaDoor
