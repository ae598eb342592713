/-
  The law FnPlain: it returns true for all arguments. Condition: the variables that its row lists read as the table lays them.
-/
import Derived.Test.YtiaioiijdlmilaaDoorLaws2
import Derived.Test.YtiaioiijdlmilaaDoorDraw3
import Derived.Test.YtiaioiijdlmilaaDoorLawL
namespace Go.Proofs.YtiaioiijdlmilaaDoor
open Go.RowKit Go.ChangeShapes Go.WideShapes Go.Deep
set_option linter.unusedVariables false
set_option linter.unusedSimpArgs false
set_option maxRecDepth 100000 in
set_option maxHeartbeats 4000000 in
theorem law_Plain (l : List UInt8) (v : Value) (w : World) (hv : Sl false byS w 0 w.heap.size l v) (ht : KeysAt w) : Calls Tryd.prog 12 #[v] w (Yes w) := by
  obtain ⟨A, cap, rfl, hlc, hcm⟩ := hv.form
  by_cases hbig : 1048576 < l.length
  · have q0 : decide ((1048576 : Int) < (l.length : Int)) = true := by simp; omega
    go_enter Tryd.func12, Tryd.ntmps12
    go_wp2_with fail
    go_ret
    exact ⟨rfl, Below.refl _ _⟩
  have q0 : decide ((1048576 : Int) < (l.length : Int)) = false := by simp; omega
  go_enter Tryd.func12, Tryd.ntmps12
  go_wp2_with fail
  refine (draw_plain l _ _ hv).mono ?_
  rintro e w1 ⟨s, hs, rfl, b1⟩
  have hsM : s.size ≤ maxLen := Nat.le_trans hs (by decide)
  have t1 := ht.below b1 (Nat.le_refl _)
  cases hok : pOk s
  case false =>
    have E := Lib.hid (pV_false hok)
    clear hok
    go_wp2_with fail
    refine (impl_PlainText s _ hsM t1).mono ?_
    rw [E.out]
    rintro e w2 ⟨rfl, b2⟩
    have hb2 := b1.trans (b2.mono b1.size)
    go_wp2_with fail
    refine (spec_PlainText s _ hsM).mono ?_
    rw [E.out]
    rintro e w3 ⟨rfl, b3⟩
    have hb3 := hb2.trans (b3.mono hb2.size)
    go_wp2_with fail
    go_ret
    exact ⟨rfl, hb3⟩
  obtain ⟨x, E1, E2, c1, c2, c3, x1, x2⟩ := plain_yes hok
  have hxM : x.size ≤ maxLen := Nat.le_trans x1 (by decide)
  replace E1 := Lib.hid E1
  replace E2 := Lib.hid E2
  replace c1 := Lib.hid c1
  replace c2 := Lib.hid c2
  replace c3 := Lib.hid c3
  have q5 : (x.size : Int) ≤ max (2 * (s.size : Int)) 1 := by omega
  clear hok
  go_wp2_with fail
  refine (impl_PlainText s _ hsM t1).mono ?_
  rw [E1.out]
  rintro e w2 ⟨rfl, b2⟩
  have hb2 := b1.trans (b2.mono b1.size)
  go_wp2_with fail
  refine (spec_PlainText s _ hsM).mono ?_
  rw [E1.out]
  rintro e w3 ⟨rfl, b3⟩
  have hb3 := hb2.trans (b3.mono hb2.size)
  go_wp2_with fail
  refine (impl_PlainText x _ hxM (ht.below hb3 (Nat.le_refl _))).mono ?_
  rw [E2.out]
  rintro e w4 ⟨rfl, b4⟩
  have hb4 := hb3.trans (b4.mono hb3.size)
  go_wp2_with fail
  refine (impl_CutWords s _ hsM (ht.below hb4 (Nat.le_refl _))).mono ?_
  rintro e w5 ⟨v5, rfl, hv5, b5⟩
  have hb5 := hb4.trans (b5.mono hb4.size)
  have p5 := hv5 false
  clear hv5
  rw [c1.out]
  go_wp2_with fail
  refine (impl_CutWords x _ hxM (ht.below hb5 (Nat.le_refl _))).mono ?_
  rintro e w6 ⟨v6, rfl, hv6, b6⟩
  have hb6 := hb5.trans (b6.mono hb5.size)
  have p6 := hv6 false
  rw [c3.out] at p6
  clear hv6
  rw [c2.out]
  go_wp2_with fail
  refine (ww_ok (cutLst s) _ _ w6 _ _ _ _ b6.size (Nat.le_refl _) (p5.below b6 (Nat.le_refl _)) p6).mono ?_
  rintro e w7 ⟨rfl, b7⟩
  have hb7 := hb6.trans (b7.mono hb6.size)
  go_wp2_with fail
  go_ret
  exact ⟨rfl, hb7⟩

set_option maxRecDepth 100000 in
theorem fnPlain_lifted (os : Os) (started : os.Started) (H : Type) (enc : TypeId × Value → H) :
    ReturnsInHanded {} Tryd.checked os 12 .any (fun w args => (Rows.fnPlainSpec.pre enc Tryd.prog Tryd.f12 [] false w args ∧ laidMetH Tryd.prog [("math/bits.deBruijn32tab", Rows.laid_math_bits_deBruijn32tab), ("math/bits.deBruijn64tab", Rows.laid_math_bits_deBruijn64tab), ("internal/strconv.uint64pow10", Rows.laid_internal_strconv_uint64pow10), ("strconv.ErrRange", Rows.laid_strconv_ErrRange), ("strconv.ErrSyntax", Rows.laid_strconv_ErrSyntax), ("loop.example/wholeway/impl.keys", Rows.laid_loop_example_wholeway_impl_keys)] w) ∧ sizedMet enc Tryd.prog Tryd.f12 (OpenSpec.ofChange Rows.fnPlainSpec) false w args) (Rows.fnPlainSpec.post enc Tryd.prog Tryd.f12 false true false false) := by
  refine returnsInHanded_of_change_and (C := Tryd.checked) (X := fun w _ => laidMetH Tryd.prog [("math/bits.deBruijn32tab", Rows.laid_math_bits_deBruijn32tab), ("math/bits.deBruijn64tab", Rows.laid_math_bits_deBruijn64tab), ("internal/strconv.uint64pow10", Rows.laid_internal_strconv_uint64pow10), ("strconv.ErrRange", Rows.laid_strconv_ErrRange), ("strconv.ErrSyntax", Rows.laid_strconv_ErrSyntax), ("loop.example/wholeway/impl.keys", Rows.laid_loop_example_wholeway_impl_keys)] w) (fun _ _ _ hh h => h.of_heap hh) own started (by kernel_rfl) Tryd.func12
    (ChangeSpec.witness_shaped (enc := enc) (C := Tryd.checked) (os := os) (X := fun w _ => laidMetH Tryd.prog [("math/bits.deBruijn32tab", Rows.laid_math_bits_deBruijn32tab), ("math/bits.deBruijn64tab", Rows.laid_math_bits_deBruijn64tab), ("internal/strconv.uint64pow10", Rows.laid_internal_strconv_uint64pow10), ("strconv.ErrRange", Rows.laid_strconv_ErrRange), ("strconv.ErrSyntax", Rows.laid_strconv_ErrSyntax), ("loop.example/wholeway/impl.keys", Rows.laid_loop_example_wholeway_impl_keys)] w) false (World.doorLaid Tryd.prog 400 os) #[.slice none 0 0] 8 rfl (World.shaped_of_RefB (by kernel_rfl) (by kernel_rfl)) (by kernel_rfl) (by kernel_rfl) (by kernel_rfl) (door_metW os _)) ?_
  intro W base args ds gs before hval0 hW _ _ hL _
  have hval : ∀ (j : Nat) t v, Tryd.f12.params[j]? = some t → args[j]? = some v → Value.okWide Tryd.prog W .any base t v := hval0
  obtain ⟨p, q, hA0, hV, hrest⟩ := id hW
  have hA : DataW.TrodAll enc Tryd.prog W 0 (fun _ => true) true Tryd.f12.params.toList args.toList ds p := hA0
  rw [Tryd.params12] at hA hval
  obtain ⟨v0, d0, rfl, rfl, h0⟩ := trodAll_one hA
  obtain ⟨gv0, rfl⟩ := one_vars hV
  obtain ⟨a, len, cap, rfl⟩ := okWide_slice Tryd.underlying22 (hval 0 _ v0 rfl rfl)
  obtain ⟨fuel0, hf0⟩ := h0
  obtain ⟨da0, vv, hv0, ha0⟩ := dec_slice Tryd.underlying22 (by kernel_rfl) (by decide) dec_u8 hf0
  simp only [Value.cells, List.cons.injEq, and_true] at hv0
  subst hv0
  have hcall := law_Plain da0 _ W ha0 (tabs_ofW hL)
  refine hcall.mono fun e W' ⟨he, hb⟩ => ?_
  subst he
  exact ⟨_, rfl, post_true_vars laidO hW (by kernel_rfl) Tryd.underlying4 (by rw [Tryd.params12]; intro t ht; simp only [List.mem_cons, List.not_mem_nil, or_false] at ht; subst ht; exact ⟨by kernel_rfl, of_decide_eq_true (by kernel_rfl)⟩) vars_ok rfl rfl rfl hb⟩

set_option maxRecDepth 100000 in
set_option maxHeartbeats 1000000 in
theorem fnPlain_facts : joinedFacts Tryd.prog 12 Tryd.f12 Rows.fnPlainSpec Rows.fnPlainRow = true := by
  unfold joinedFacts
  exact and_mk (and_mk (and_mk (and_mk (and_mk (and_mk (and_mk (and_mk (and_mk (and_mk (and_mk (and_mk (and_mk (and_mk (and_mk (and_mk (and_mk (and_mk (and_mk (and_mk (and_mk (and_mk (and_mk (and_mk (and_mk (and_mk (and_mk (and_mk (and_mk (and_mk (and_mk (by as_aux_lemma => kernel_rfl) laidO) mapsRowedO) (by as_aux_lemma => kernel_rfl)) (by as_aux_lemma => kernel_rfl)) (by as_aux_lemma => kernel_rfl)) (by as_aux_lemma => kernel_rfl)) (by as_aux_lemma => kernel_rfl)) (by as_aux_lemma => kernel_rfl)) (by as_aux_lemma => kernel_rfl)) (by as_aux_lemma => kernel_rfl)) (by as_aux_lemma => kernel_rfl)) (by as_aux_lemma => kernel_rfl)) (by as_aux_lemma => kernel_rfl)) (by as_aux_lemma => kernel_rfl)) (by as_aux_lemma => kernel_rfl)) (by as_aux_lemma => kernel_rfl)) (by as_aux_lemma => kernel_rfl)) (by as_aux_lemma => kernel_rfl)) (by as_aux_lemma => kernel_rfl)) (by as_aux_lemma => kernel_rfl)) (by as_aux_lemma => kernel_rfl)) (by rw [plainKeysO]; rfl)) (by as_aux_lemma => kernel_rfl)) stopsHeardO) mayEnter) (by rw [liftsFinal]; rfl)) (by rw [makeCut]; rfl)) (by as_aux_lemma => kernel_rfl)) (by as_aux_lemma => kernel_rfl)) (by as_aux_lemma => kernel_rfl)) (by as_aux_lemma => kernel_rfl)

theorem fnPlain_said : Rows.FnPlainSaid :=
  OpenClaim.holds_of_wide 12 Tryd.f12 rfl rfl rfl rfl rfl rfl rfl ⟨rfl, rfl, rfl, rfl, rfl⟩ rfl rfl rfl rfl rfl (by kernel_rfl) Tryd.func12 fnPlain_facts
    (of_decide_eq_true (by kernel_rfl)) (by unfold Func.isWrapper; first | (rw [if_pos (by decide +kernel)]; kernel_rfl) | (rw [if_neg (by decide +kernel)]; exact ⟨rfl, rfl⟩))
    (fun os started H enc _ => fnPlain_lifted os started H enc)

/-- no parameter wants a stand-in -/
theorem fnPlain_plain (f : FuncId) (fn : Func) (hf : Tryd.pinned.checked.prog.funcNamed "loop.example/wholeway/laws.FnPlain" = some f) (hfn : Tryd.pinned.checked.prog.funcs[f]? = some fn) :
    true = Tryd.pinned.checked.prog.looks [] ∧ ∀ (j : Nat) t, fn.params[j]? = some t → Tryd.pinned.checked.prog.wantsStandIn t = false := by
  obtain rfl : f = 12 := Option.some.inj ((show Tryd.prog.funcNamed "loop.example/wholeway/laws.FnPlain" = some 12 by kernel_rfl).symm.trans hf) |>.symm
  obtain rfl : fn = Tryd.f12 := (Option.some.inj (Tryd.func12.symm.trans hfn)).symm
  refine ⟨by kernel_rfl, fun j t ht => ?_⟩
  rw [Tryd.params12] at ht
  have hm : t ∈ [22] := by simpa using Array.mem_of_getElem? ht
  have hall : ([22].all fun u => !Tryd.prog.wantsStandIn u) = true := by kernel_rfl
  exact (show Tryd.prog.wantsStandIn t = false by simpa using List.all_eq_true.1 hall t hm)
theorem fnPlain_holds : Rows.FnPlainCardSaid :=
  Claim7.holds_tied_plain_at .later [] _ _ _ _ fnPlain_said (fun _ h => by cases h) (by kernel_rfl) (fun _ h => by cases h) fnPlain_row_tie rfl ⟨rfl, rfl⟩ (by kernel_rfl) rfl fnPlain_plain (by kernel_rfl)
end Go.Proofs.YtiaioiijdlmilaaDoor
