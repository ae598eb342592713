/-
  The law FnCut: it returns true for all arguments. Condition: the variables that its row lists read as the table lays them.
-/
import Derived.Test.YtiaioiijdlmilaaDoorLaws2
import Derived.Test.YtiaioiijdlmilaaDoorDraw3
import Derived.Test.YtiaioiijdlmilaaDoorLawL
namespace Go.Proofs.YtiaioiijdlmilaaDoor
open Go.RowKit Go.ChangeShapes Go.WideShapes Go.Deep
set_option linter.unusedVariables false
set_option linter.unusedSimpArgs false
set_option maxRecDepth 100000 in
set_option maxHeartbeats 4000000 in
theorem law_Cut (l : List UInt8) (v : Value) (w : World) (hv : Sl false byS w 0 w.heap.size l v) (ht : KeysAt w) : Calls Tryd.prog 11 #[v] w (Yes w) := by
  obtain ⟨A, cap, rfl, hlc, hcm⟩ := hv.form
  by_cases hbig : 1048576 < l.length
  · have q0 : decide ((1048576 : Int) < (l.length : Int)) = true := by simp; omega
    go_enter Tryd.func11, Tryd.ntmps11
    go_wp2_with fail
    go_ret
    exact ⟨rfl, Below.refl _ _⟩
  have q0 : decide ((1048576 : Int) < (l.length : Int)) = false := by simp; omega
  go_enter Tryd.func11, Tryd.ntmps11
  go_wp2_with fail
  refine (draw_text l _ _ hv).mono ?_
  rintro e w1 ⟨s, hs, rfl, b1⟩
  have hsM : s.size ≤ maxLen := Nat.le_trans hs (by decide)
  have HKA := Lib.hid (fun (w9 : World) (h9 : Below w.heap.size w w9) => ht.below h9 (Nat.le_refl _))
  clear ht
  have hlen : (cutLst s).length ≤ 600 := by
    cases hc : cutOk s with
    | false => rw [cutOk_no hc]; simp
    | true => exact (cut_inv hc).2.2.1
  have HBU := Lib.hid (cutLst_bulk s)
  go_wp2_with fail
  refine (impl_CutWords s _ hsM (HKA.out _ b1)).mono ?_
  rintro e w2 ⟨v2, rfl, hv2, b2⟩
  have hb2 := b1.trans (b2.mono b1.size)
  have p2 := hv2 false
  clear hv2
  obtain ⟨A2, c2, hf, _, _⟩ := p2.form
  subst hf
  go_wp2_with fail
  refine (spec_CutWords s _ hsM).mono ?_
  rintro e w3 ⟨v3, rfl, hv3, b3⟩
  have hb3 := hb2.trans (b3.mono hb2.size)
  have p3 := hv3 false
  clear hv3
  have p2_3 := p2.below b3 (Nat.le_refl _)
  have sz3 := b3.size
  go_wp2_with fail
  refine (ww_ok (cutLst s) _ _ w3 _ _ _ _ sz3 (Nat.le_refl _) p2_3 p3).mono ?_
  rintro e w4 ⟨rfl, b4⟩
  have hb4 := hb3.trans (b4.mono hb3.size)
  have p2_4 := p2_3.below b4 sz3
  have p3_4 := p3.below b4 (Nat.le_refl _)
  have sz4 := b4.size
  clear p2 p2_3 p3
  cases hok : cutOk s
  case false =>
    have E : (cutLst s).length = 0 := by rw [cutOk_no hok]; rfl
    have q1 : (((cutLst s).length : Int) == 0) = true := by rw [E]; rfl
    clear hok E
    go_wp2_with fail
    refine (ww_ok (cutLst s) _ _ w4 _ _ _ _ (Nat.le_trans sz3 sz4) sz4 p2_4 p3_4).mono ?_
    rintro e w5 ⟨rfl, b5⟩
    have hb5 := hb4.trans (b5.mono hb4.size)
    go_wp2_with fail
    go_ret
    exact ⟨rfl, hb5⟩
  obtain ⟨k1, k2, k3, k4⟩ := cut_inv hok
  have HAL := Lib.hid k4
  clear hok k2 k4 p3_4
  go_wp2_with fail
  go_loopw [57] (fun i wr => ∃ k : Nat, k ≤ (cutLst s).length ∧ i = .int .i64 k ∧ Below w4.heap.size w4 wr) (fun i _ => (cutLst s).length - (intOf i).toNat)
  case atStart => exact ⟨0, by omega, rfl, Below.refl _ _⟩
  case round =>
    obtain ⟨k, hk, rfl, hb⟩ := hrel
    have hbw := hb4.trans (hb.mono hb4.size)
    have hsz := hb.size
    by_cases hkl : k < (cutLst s).length
    · obtain ⟨b, o, kind, text, hA, hlb, hbB, HL, g0, g1, c0, c1⟩ := word_get (p2_4.below hb (Nat.le_trans sz3 sz4)) hkl
      subst hA
      have hkn : (k : Int) < ((cutLst s).length : Int) := by omega
      have HV : Hid (wvB kind text = true) := by
        have := List.all_eq_true.1 HAL.out _ (List.getElem_mem hkl)
        rw [HL.out] at this
        exact this
      clear HL
      have hbA := hbw.alloc hbw.size (.cells #[.int .i64 kind, .string text] 29)
      have hbB2 := hb.alloc hb.size (.cells #[.int .i64 kind, .string text] 29)
      go_wp2_with fail
      refine (impl_WordValid kind text _ g1 (HKA.out _ hbA)).mono ?_
      rw [HV.out]
      rintro e w5 ⟨rfl, b5⟩
      have hb5 := hbB2.trans (b5.mono hbB2.size)
      clear c0 c1
      go_wp2_with fail
      go_roundw
      case rel => exact ⟨k + 1, by omega, by go_num, hb5⟩
      case measure => simp [intOf]; omega
    · go_wp2_with fail
      refine (impl_JoinWords (cutLst s) _ _ _ _ (by omega) (Nat.le_trans HBU.out (by decide)) (p2_4.below hb (Nat.le_trans sz3 sz4)) (HKA.out _ hbw)).mono ?_
      cases hj : jOk (cutLst s)
      case false =>
        rw [jV_false hj]
        rintro e w5 ⟨rfl, b5⟩
        have hb5 := hbw.trans (b5.mono hbw.size)
        clear hj
        go_wp2_with fail
        refine (impl_CutWords ⟨#[]⟩ _ (by decide) (HKA.out _ hb5)).mono ?_
        rintro e w6 ⟨v6, rfl, hv6, b6⟩
        have hb6 := hb5.trans (b6.mono hb5.size)
        go_wp2_with fail
        go_ret
        exact ⟨rfl, hb6⟩
      obtain ⟨d1, d2⟩ := join_cut hj
      have hjM : (jT (cutLst s)).size ≤ maxLen := Nat.le_trans (jOk_inv hj).2.2 (by decide)
      rw [jV_yes hj]
      rintro e w5 ⟨rfl, b5⟩
      have hb5 := hbw.trans (b5.mono hbw.size)
      have p2_5 := (p2_4.below hb (Nat.le_trans sz3 sz4)).below b5 (by omega)
      replace d1 := Lib.hid d1
      replace d2 := Lib.hid d2
      clear hj
      obtain ⟨T, hT⟩ : ∃ T, jT (cutLst s) = T := ⟨_, rfl⟩
      rw [hT] at d1 d2 hjM ⊢
      clear hT
      go_wp2_with fail
      refine (impl_CutWords T _ hjM (HKA.out _ hb5)).mono ?_
      rw [show CutP T w5 = fun e w' => ∃ v : Value, e = .returned (.tuple #[v, .bool true]) ∧ (∀ m, Sl m (wordS m) w' w5.heap.size w'.heap.size (cutLst s) v) ∧ Below w5.heap.size w5 w' by unfold CutP; rw [d1.out, d2.out]]
      rintro e w6 ⟨v6, rfl, hv6, b6⟩
      have hb6 := hb5.trans (b6.mono hb5.size)
      have sz5 := b5.size
      go_wp2_with fail
      refine (ww_ok (cutLst s) _ _ w6 _ _ _ _ (Nat.le_refl _) (by have := b6.size; omega) (hv6 false) (p2_5.below b6 (by omega))).mono ?_
      rintro e w7 ⟨rfl, b7⟩
      have hb7 := hb6.trans (b7.mono hb6.size)
      go_wp2_with fail
      go_ret
      exact ⟨rfl, hb7⟩

set_option maxRecDepth 100000 in
theorem fnCut_lifted (os : Os) (started : os.Started) (H : Type) (enc : TypeId × Value → H) :
    ReturnsInHanded {} Tryd.checked os 11 .any (fun w args => (Rows.fnCutSpec.pre enc Tryd.prog Tryd.f11 [] false w args ∧ laidMetH Tryd.prog [("math/bits.deBruijn32tab", Rows.laid_math_bits_deBruijn32tab), ("math/bits.deBruijn64tab", Rows.laid_math_bits_deBruijn64tab), ("internal/strconv.uint64pow10", Rows.laid_internal_strconv_uint64pow10), ("strconv.ErrRange", Rows.laid_strconv_ErrRange), ("strconv.ErrSyntax", Rows.laid_strconv_ErrSyntax), ("loop.example/wholeway/impl.keys", Rows.laid_loop_example_wholeway_impl_keys)] w) ∧ sizedMet enc Tryd.prog Tryd.f11 (OpenSpec.ofChange Rows.fnCutSpec) false w args) (Rows.fnCutSpec.post enc Tryd.prog Tryd.f11 false true false false) := by
  refine returnsInHanded_of_change_and (C := Tryd.checked) (X := fun w _ => laidMetH Tryd.prog [("math/bits.deBruijn32tab", Rows.laid_math_bits_deBruijn32tab), ("math/bits.deBruijn64tab", Rows.laid_math_bits_deBruijn64tab), ("internal/strconv.uint64pow10", Rows.laid_internal_strconv_uint64pow10), ("strconv.ErrRange", Rows.laid_strconv_ErrRange), ("strconv.ErrSyntax", Rows.laid_strconv_ErrSyntax), ("loop.example/wholeway/impl.keys", Rows.laid_loop_example_wholeway_impl_keys)] w) (fun _ _ _ hh h => h.of_heap hh) own started (by kernel_rfl) Tryd.func11
    (ChangeSpec.witness_shaped (enc := enc) (C := Tryd.checked) (os := os) (X := fun w _ => laidMetH Tryd.prog [("math/bits.deBruijn32tab", Rows.laid_math_bits_deBruijn32tab), ("math/bits.deBruijn64tab", Rows.laid_math_bits_deBruijn64tab), ("internal/strconv.uint64pow10", Rows.laid_internal_strconv_uint64pow10), ("strconv.ErrRange", Rows.laid_strconv_ErrRange), ("strconv.ErrSyntax", Rows.laid_strconv_ErrSyntax), ("loop.example/wholeway/impl.keys", Rows.laid_loop_example_wholeway_impl_keys)] w) false (World.doorLaid Tryd.prog 400 os) #[.slice none 0 0] 8 rfl (World.shaped_of_RefB (by kernel_rfl) (by kernel_rfl)) (by kernel_rfl) (by kernel_rfl) (by kernel_rfl) (door_metW os _)) ?_
  intro W base args ds gs before hval0 hW _ _ hL _
  have hval : ∀ (j : Nat) t v, Tryd.f11.params[j]? = some t → args[j]? = some v → Value.okWide Tryd.prog W .any base t v := hval0
  obtain ⟨p, q, hA0, hV, hrest⟩ := id hW
  have hA : DataW.TrodAll enc Tryd.prog W 0 (fun _ => true) true Tryd.f11.params.toList args.toList ds p := hA0
  rw [Tryd.params11] at hA hval
  obtain ⟨v0, d0, rfl, rfl, h0⟩ := trodAll_one hA
  obtain ⟨gv0, rfl⟩ := one_vars hV
  obtain ⟨a, len, cap, rfl⟩ := okWide_slice Tryd.underlying22 (hval 0 _ v0 rfl rfl)
  obtain ⟨fuel0, hf0⟩ := h0
  obtain ⟨da0, vv, hv0, ha0⟩ := dec_slice Tryd.underlying22 (by kernel_rfl) (by decide) dec_u8 hf0
  simp only [Value.cells, List.cons.injEq, and_true] at hv0
  subst hv0
  have hcall := law_Cut da0 _ W ha0 (tabs_ofW hL)
  refine hcall.mono fun e W' ⟨he, hb⟩ => ?_
  subst he
  exact ⟨_, rfl, post_true_vars laidO hW (by kernel_rfl) Tryd.underlying4 (by rw [Tryd.params11]; intro t ht; simp only [List.mem_cons, List.not_mem_nil, or_false] at ht; subst ht; exact ⟨by kernel_rfl, of_decide_eq_true (by kernel_rfl)⟩) vars_ok rfl rfl rfl hb⟩

set_option maxRecDepth 100000 in
set_option maxHeartbeats 1000000 in
theorem fnCut_facts : joinedFacts Tryd.prog 11 Tryd.f11 Rows.fnCutSpec Rows.fnCutRow = true := by
  unfold joinedFacts
  exact and_mk (and_mk (and_mk (and_mk (and_mk (and_mk (and_mk (and_mk (and_mk (and_mk (and_mk (and_mk (and_mk (and_mk (and_mk (and_mk (and_mk (and_mk (and_mk (and_mk (and_mk (and_mk (and_mk (and_mk (and_mk (and_mk (and_mk (and_mk (and_mk (and_mk (and_mk (by as_aux_lemma => kernel_rfl) laidO) mapsRowedO) (by as_aux_lemma => kernel_rfl)) (by as_aux_lemma => kernel_rfl)) (by as_aux_lemma => kernel_rfl)) (by as_aux_lemma => kernel_rfl)) (by as_aux_lemma => kernel_rfl)) (by as_aux_lemma => kernel_rfl)) (by as_aux_lemma => kernel_rfl)) (by as_aux_lemma => kernel_rfl)) (by as_aux_lemma => kernel_rfl)) (by as_aux_lemma => kernel_rfl)) (by as_aux_lemma => kernel_rfl)) (by as_aux_lemma => kernel_rfl)) (by as_aux_lemma => kernel_rfl)) (by as_aux_lemma => kernel_rfl)) (by as_aux_lemma => kernel_rfl)) (by as_aux_lemma => kernel_rfl)) (by as_aux_lemma => kernel_rfl)) (by as_aux_lemma => kernel_rfl)) (by as_aux_lemma => kernel_rfl)) (by rw [plainKeysO]; rfl)) (by as_aux_lemma => kernel_rfl)) stopsHeardO) mayEnter) (by rw [liftsFinal]; rfl)) (by rw [makeCut]; rfl)) (by as_aux_lemma => kernel_rfl)) (by as_aux_lemma => kernel_rfl)) (by as_aux_lemma => kernel_rfl)) (by as_aux_lemma => kernel_rfl)

theorem fnCut_said : Rows.FnCutSaid :=
  OpenClaim.holds_of_wide 11 Tryd.f11 rfl rfl rfl rfl rfl rfl rfl ⟨rfl, rfl, rfl, rfl, rfl⟩ rfl rfl rfl rfl rfl (by kernel_rfl) Tryd.func11 fnCut_facts
    (of_decide_eq_true (by kernel_rfl)) (by unfold Func.isWrapper; first | (rw [if_pos (by decide +kernel)]; kernel_rfl) | (rw [if_neg (by decide +kernel)]; exact ⟨rfl, rfl⟩))
    (fun os started H enc _ => fnCut_lifted os started H enc)

/-- no parameter wants a stand-in -/
theorem fnCut_plain (f : FuncId) (fn : Func) (hf : Tryd.pinned.checked.prog.funcNamed "loop.example/wholeway/laws.FnCut" = some f) (hfn : Tryd.pinned.checked.prog.funcs[f]? = some fn) :
    true = Tryd.pinned.checked.prog.looks [] ∧ ∀ (j : Nat) t, fn.params[j]? = some t → Tryd.pinned.checked.prog.wantsStandIn t = false := by
  obtain rfl : f = 11 := Option.some.inj ((show Tryd.prog.funcNamed "loop.example/wholeway/laws.FnCut" = some 11 by kernel_rfl).symm.trans hf) |>.symm
  obtain rfl : fn = Tryd.f11 := (Option.some.inj (Tryd.func11.symm.trans hfn)).symm
  refine ⟨by kernel_rfl, fun j t ht => ?_⟩
  rw [Tryd.params11] at ht
  have hm : t ∈ [22] := by simpa using Array.mem_of_getElem? ht
  have hall : ([22].all fun u => !Tryd.prog.wantsStandIn u) = true := by kernel_rfl
  exact (show Tryd.prog.wantsStandIn t = false by simpa using List.all_eq_true.1 hall t hm)
theorem fnCut_holds : Rows.FnCutCardSaid :=
  Claim7.holds_tied_plain_at .later [] _ _ _ _ fnCut_said (fun _ h => by cases h) (by kernel_rfl) (fun _ h => by cases h) fnCut_row_tie rfl ⟨rfl, rfl⟩ (by kernel_rfl) rfl fnCut_plain (by kernel_rfl)
end Go.Proofs.YtiaioiijdlmilaaDoor
