/-
  The law FnExactNumberOf: it returns true for all arguments. Condition: the variables that its row lists read as the table lays them.
-/
import Derived.Test.YtcmcpipcafjiaaaDoorLaws2
import Derived.Test.YtcmcpipcafjiaaaDoorNumberOf0
import Derived.Test.YtcmcpipcafjiaaaDoorTo
import Derived.Test.YtcmcpipcafjiaaaDoorSz
import Derived.Test.YtcmcpipcafjiaaaDoorDec
namespace Go.Proofs.YtcmcpipcafjiaaaDoor
open Go.RowKit Go.ChangeShapes Go.WideShapes Go.Deep
set_option linter.unusedVariables false
set_option linter.unusedSimpArgs false
set_option maxRecDepth 100000 in
set_option maxHeartbeats 4000000 in
theorem law_NumberOf (t : Int) (s : ByteArray) (w : World) (h0 : I64 t) (h1 : s.size ≤ maxLen) : Calls Tryd.prog 5 #[.agg #[.int .i64 t, .string s]] w (Yes w) := by
  have hb0 : Below w.heap.size w (w.alloc (.cells #[.int .i64 t, .string s] 29)) := (Below.refl _ _).alloc (Nat.le_refl _) _
  have R0 : Row (w.alloc (.cells #[.int .i64 t, .string s] 29)) w.heap.size 29 #[.int .i64 t, .string s] := Row.new w _ _
  go_enter Tryd.func5, Tryd.ntmps5
  go_wp2_with fail
  refine (sz_Word t s 1048576 _ 0 w.heap.size (by omega) (by omega) hb0.size h0 h1).mono ?_
  rintro e w1 ⟨r0, rfl, a0, b0, c0, e0⟩
  have hb1 : Below w.heap.size w w1 := hb0.trans (e0.mono hb0.size)
  have R1 := R0.below e0 R0.lt
  clear R0
  have C0 := Lib.hid c0
  clear c0
  by_cases hr0 : r0 < 0
  · go_wp2_with fail
    go_ret
    exact ⟨rfl, hb1⟩
  have hN0 : s.size ≤ 1048576 := by
    have := C0.out (by omega)
    omega
  have hr0' : 0 ≤ r0 := by omega
  clear C0
  have y0_1 : w1.cell? ⟨w.heap.size, 0, none⟩ = some (.int .i64 t) := R1.cell 0
  have y1_1 : w1.cell? ⟨w.heap.size, 1, none⟩ = some (.string s) := R1.cell 1
  clear a0 b0
  go_wp2_with fail
  refine (to_Word t s _ 0 w.heap.size hb1.size hN0 h0 h1).mono ?_
  rintro e w2 ⟨cs, rfl, hx, e1⟩
  obtain ⟨hcs, -, -⟩ := word_open (hx false)
  change cs = [.int .i64 t, .string s] at hcs
  subst hcs
  clear hx
  have hb2 : Below w.heap.size w w2 := hb1.trans (e1.mono hb1.size)
  have R2 := R1.below e1 R1.lt
  clear y0_1 y1_1 R1
  go_wp2_with fail
  refine (spec_NumberOf t s _ h1).mono ?_
  rintro e w3 ⟨rfl, e2⟩
  have hb3 : Below w.heap.size w w3 := hb2.trans (e2.mono hb2.size)
  have R3 := R2.below e2 R2.lt
  clear R2
  have y0_3 : w3.cell? ⟨w.heap.size, 0, none⟩ = some (.int .i64 t) := R3.cell 0
  have y1_3 : w3.cell? ⟨w.heap.size, 1, none⟩ = some (.string s) := R3.cell 1
  go_wp2_with fail
  refine (to_Word t s _ 0 w.heap.size hb3.size hN0 h0 h1).mono ?_
  rintro e w4 ⟨cs, rfl, hx, e3⟩
  obtain ⟨hcs, -, -⟩ := word_open (hx false)
  change cs = [.int .i64 t, .string s] at hcs
  subst hcs
  clear hx
  have hb4 : Below w.heap.size w w4 := hb3.trans (e3.mono hb3.size)
  have R4 := R3.below e3 R3.lt
  clear y0_3 y1_3 R3
  go_wp2_with fail
  refine (impl_NumberOf t s _ h1).mono ?_
  rintro e w5 ⟨rfl, e4⟩
  have hb5 : Below w.heap.size w w5 := hb4.trans (e4.mono hb4.size)
  go_wp2_with fail
  go_ret
  exact ⟨rfl, hb5⟩

set_option maxRecDepth 100000 in
theorem fnExactNumberOf_lifted (os : Os) (started : os.Started) (H : Type) (enc : TypeId × Value → H) :
    ReturnsInHanded {} Tryd.checked os 5 .any (fun w args => (Rows.fnExactNumberOfSpec.pre enc Tryd.prog Tryd.f5 [] false w args ∧ laidMetH Tryd.prog [("math/bits.deBruijn32tab", Rows.laid_math_bits_deBruijn32tab), ("math/bits.deBruijn64tab", Rows.laid_math_bits_deBruijn64tab), ("internal/strconv.uint64pow10", Rows.laid_internal_strconv_uint64pow10), ("strconv.ErrRange", Rows.laid_strconv_ErrRange), ("strconv.ErrSyntax", Rows.laid_strconv_ErrSyntax)] w) ∧ sizedMet enc Tryd.prog Tryd.f5 (OpenSpec.ofChange Rows.fnExactNumberOfSpec) false w args) (Rows.fnExactNumberOfSpec.post enc Tryd.prog Tryd.f5 false true false false) := by
  refine returnsInHanded_of_change_and (C := Tryd.checked) (X := fun w _ => laidMetH Tryd.prog [("math/bits.deBruijn32tab", Rows.laid_math_bits_deBruijn32tab), ("math/bits.deBruijn64tab", Rows.laid_math_bits_deBruijn64tab), ("internal/strconv.uint64pow10", Rows.laid_internal_strconv_uint64pow10), ("strconv.ErrRange", Rows.laid_strconv_ErrRange), ("strconv.ErrSyntax", Rows.laid_strconv_ErrSyntax)] w) (fun _ _ _ hh h => h.of_heap hh) own started (by kernel_rfl) Tryd.func5
    (ChangeSpec.witness_shaped (enc := enc) (C := Tryd.checked) (os := os) (X := fun w _ => laidMetH Tryd.prog [("math/bits.deBruijn32tab", Rows.laid_math_bits_deBruijn32tab), ("math/bits.deBruijn64tab", Rows.laid_math_bits_deBruijn64tab), ("internal/strconv.uint64pow10", Rows.laid_internal_strconv_uint64pow10), ("strconv.ErrRange", Rows.laid_strconv_ErrRange), ("strconv.ErrSyntax", Rows.laid_strconv_ErrSyntax)] w) false (World.doorLaid Tryd.prog 400 os) #[.agg #[.int .i64 0, .string ⟨#[]⟩]] 8 rfl (World.shaped_of_RefB (by kernel_rfl) (by kernel_rfl)) (by kernel_rfl) (by kernel_rfl) (by kernel_rfl) (door_metN os _)) ?_
  intro W base args ds gs before hval0 hW _ _ hL _
  have hval : ∀ (j : Nat) t v, Tryd.f5.params[j]? = some t → args[j]? = some v → Value.okWide Tryd.prog W .any base t v := hval0
  obtain ⟨p, q, hA0, hV, hrest⟩ := id hW
  have hA : DataW.TrodAll enc Tryd.prog W 0 (fun _ => true) true Tryd.f5.params.toList args.toList ds p := hA0
  rw [Tryd.params5] at hA hval
  obtain ⟨v0, d0, rfl, rfl, h0⟩ := trodAll_one hA
  obtain ⟨rfl, rfl⟩ := trodVars_none hV
  obtain ⟨cs0, rfl, -⟩ := okWide_struct Tryd.underlying29 (hval 0 _ v0 rfl rfl)
  obtain ⟨fuel0, hf0⟩ := h0
  obtain ⟨da0, ha0⟩ := dec_Word hf0
  obtain ⟨e0, g0, g1⟩ := word_open ha0
  obtain ⟨t0, t1⟩ := da0
  obtain ⟨cs0⟩ := cs0
  simp only [Value.cells] at e0
  subst e0
  have hcall := law_NumberOf t0 t1 W g0 g1
  refine hcall.mono fun e W' ⟨he, hb⟩ => ?_
  subst he
  exact ⟨_, rfl, post_true laidO hW rfl (by kernel_rfl) Tryd.underlying4 (by rw [Tryd.params5]; intro t ht; simp only [List.mem_cons, List.not_mem_nil, or_false] at ht; subst ht; exact ⟨by kernel_rfl, of_decide_eq_true (by kernel_rfl)⟩) rfl rfl rfl hb⟩

set_option maxRecDepth 100000 in
set_option maxHeartbeats 1000000 in
theorem fnExactNumberOf_facts : joinedFacts Tryd.prog 5 Tryd.f5 Rows.fnExactNumberOfSpec Rows.fnExactNumberOfRow = true := by
  unfold joinedFacts
  exact and_mk (and_mk (and_mk (and_mk (and_mk (and_mk (and_mk (and_mk (and_mk (and_mk (and_mk (and_mk (and_mk (and_mk (and_mk (and_mk (and_mk (and_mk (and_mk (and_mk (and_mk (and_mk (and_mk (and_mk (and_mk (and_mk (and_mk (and_mk (and_mk (and_mk (and_mk (by as_aux_lemma => kernel_rfl) laidO) mapsRowedO) (by as_aux_lemma => kernel_rfl)) (by as_aux_lemma => kernel_rfl)) (by as_aux_lemma => kernel_rfl)) (by as_aux_lemma => kernel_rfl)) (by as_aux_lemma => kernel_rfl)) (by as_aux_lemma => kernel_rfl)) (by as_aux_lemma => kernel_rfl)) (by as_aux_lemma => kernel_rfl)) (by as_aux_lemma => kernel_rfl)) (by as_aux_lemma => kernel_rfl)) (by as_aux_lemma => kernel_rfl)) (by as_aux_lemma => kernel_rfl)) (by as_aux_lemma => kernel_rfl)) (by as_aux_lemma => kernel_rfl)) (by as_aux_lemma => kernel_rfl)) (by as_aux_lemma => kernel_rfl)) (by as_aux_lemma => kernel_rfl)) (by as_aux_lemma => kernel_rfl)) (by as_aux_lemma => kernel_rfl)) (by rw [plainKeysO]; rfl)) (by as_aux_lemma => kernel_rfl)) stopsHeardO) mayEnter) (by rw [liftsFinal]; rfl)) (by rw [makeCut]; rfl)) (by as_aux_lemma => kernel_rfl)) (by as_aux_lemma => kernel_rfl)) (by as_aux_lemma => kernel_rfl)) (by as_aux_lemma => kernel_rfl)

theorem fnExactNumberOf_said : Rows.FnExactNumberOfSaid :=
  OpenClaim.holds_of_wide 5 Tryd.f5 rfl rfl rfl rfl rfl rfl rfl ⟨rfl, rfl, rfl, rfl, rfl⟩ rfl rfl rfl rfl rfl (by kernel_rfl) Tryd.func5 fnExactNumberOf_facts
    (of_decide_eq_true (by kernel_rfl)) (by unfold Func.isWrapper; first | (rw [if_pos (by decide +kernel)]; kernel_rfl) | (rw [if_neg (by decide +kernel)]; exact ⟨rfl, rfl⟩))
    (fun os started H enc _ => fnExactNumberOf_lifted os started H enc)

/-- no parameter wants a stand-in -/
theorem fnExactNumberOf_plain (f : FuncId) (fn : Func) (hf : Tryd.pinned.checked.prog.funcNamed "loop.example/wholeway/laws.FnExactNumberOf" = some f) (hfn : Tryd.pinned.checked.prog.funcs[f]? = some fn) :
    true = Tryd.pinned.checked.prog.looks [] ∧ ∀ (j : Nat) t, fn.params[j]? = some t → Tryd.pinned.checked.prog.wantsStandIn t = false := by
  obtain rfl : f = 5 := Option.some.inj ((show Tryd.prog.funcNamed "loop.example/wholeway/laws.FnExactNumberOf" = some 5 by kernel_rfl).symm.trans hf) |>.symm
  obtain rfl : fn = Tryd.f5 := (Option.some.inj (Tryd.func5.symm.trans hfn)).symm
  refine ⟨by kernel_rfl, fun j t ht => ?_⟩
  rw [Tryd.params5] at ht
  have hm : t ∈ [29] := by simpa using Array.mem_of_getElem? ht
  have hall : ([29].all fun u => !Tryd.prog.wantsStandIn u) = true := by kernel_rfl
  exact (show Tryd.prog.wantsStandIn t = false by simpa using List.all_eq_true.1 hall t hm)
theorem fnExactNumberOf_holds : Rows.FnExactNumberOfCardSaid :=
  Claim7.holds_tied_plain_at .later [] _ _ _ _ fnExactNumberOf_said (fun _ h => by cases h) (by kernel_rfl) (fun _ h => by cases h) fnExactNumberOf_row_tie rfl ⟨rfl, rfl⟩ (by kernel_rfl) rfl fnExactNumberOf_plain (by kernel_rfl)
end Go.Proofs.YtcmcpipcafjiaaaDoor
