/-
  The law FnCutTwo: it returns true for all arguments. Condition: the variables that its row lists read as the table lays them.
-/
import Derived.Test.YtiaioiijdlmilaaDoorLaws2
import Derived.Test.YtiaioiijdlmilaaDoorDraw3
import Derived.Test.YtiaioiijdlmilaaDoorLawL
import Derived.Test.YtiaioiijdlmilaaDoorAppW
import Derived.BigFrame
namespace Go.Proofs.YtiaioiijdlmilaaDoor
open Go.RowKit Go.ChangeShapes Go.WideShapes Go.Deep
set_option linter.unusedVariables false
set_option linter.unusedSimpArgs false
theorem cutB_ab (a b : ByteArray) : cutB (a ++ ⟨#[32]⟩ ++ b).data.toList = (cutB a.data.toList).bind fun p => (cutB b.data.toList).map (p ++ ·) := by
  have e : (a ++ ⟨#[32]⟩ ++ b).data.toList = a.data.toList ++ 32 :: b.data.toList := by simp
  rw [e, cutB_two (by decide) _ _ _ (Nat.le_refl _)]
theorem cut_len (s : ByteArray) : (cutLst s).length ≤ 600 ∧ (cutOk s = false → (cutLst s).length = 0) := by
  cases hc : cutOk s with
  | false => rw [cutOk_no hc]; exact ⟨by simp, fun _ => rfl⟩
  | true => exact ⟨(cut_inv hc).2.2.1, fun h => by cases h⟩
theorem cut_all (s : ByteArray) : ∀ c ∈ cutLst s, I64 c.kind ∧ c.text.size ≤ maxLen := by
  intro c hc
  cases ho : cutOk s with
  | false => rw [cutOk_no ho] at hc; cases hc
  | true =>
    have hw := List.all_eq_true.1 (cut_inv ho).2.2.2 c hc
    obtain ⟨b, t, _, _, _, _, hk, _⟩ := valid_form hw
    exact ⟨by rw [hk]; exact kindS_I64 _ _, Nat.le_trans (wv_size hw) (by decide)⟩
theorem two_size (a b : ByteArray) : (a ++ ⟨#[32]⟩ ++ b).size = a.size + b.size + 1 := by
  rw [ByteArray.size_append, ByteArray.size_append]
  have h1 : (⟨#[32]⟩ : ByteArray).size = 1 := rfl
  omega
theorem two_no {a b : ByteArray} (h : 3000 < a.size + b.size + 1 ∨ 600 < (cutLst a).length + (cutLst b).length) : cutOk (a ++ ⟨#[32]⟩ ++ b) = false := by
  rcases h with h | h
  · exact cutOk_long (by rw [two_size]; omega)
  · obtain ⟨a1, a2⟩ := cut_len a
    obtain ⟨b1, b2⟩ := cut_len b
    have ha : cutOk a = true := by
      cases hc : cutOk a with
      | true => rfl
      | false => have := a2 hc; omega
    have hb : cutOk b = true := by
      cases hc : cutOk b with
      | true => rfl
      | false => have := b2 hc; omega
    refine cutOk_many (l := cutLst a ++ cutLst b) ?_ (by rw [List.length_append]; exact h)
    rw [cutR_cutB, cutB_ab, (cut_inv ha).2.1, (cut_inv hb).2.1]
    rfl
theorem two_yes {a b : ByteArray} (h1 : a.size + b.size + 1 ≤ 3000) (h2 : (cutLst a).length + (cutLst b).length ≤ 600) : cutOk (a ++ ⟨#[32]⟩ ++ b) = (cutOk a && cutOk b) ∧ (cutOk a = true → cutOk b = true → cutLst (a ++ ⟨#[32]⟩ ++ b) = cutLst a ++ cutLst b) := by
  have both : cutOk a = true → cutOk b = true → cutOk (a ++ ⟨#[32]⟩ ++ b) = true ∧ cutLst (a ++ ⟨#[32]⟩ ++ b) = cutLst a ++ cutLst b := fun ha hb =>
    cut_some (by rw [cutB_ab, (cut_inv ha).2.1, (cut_inv hb).2.1]; rfl) (by rw [two_size]; exact h1) (by rw [List.length_append]; exact h2)
  refine ⟨?_, fun ha hb => (both ha hb).2⟩
  cases ha : cutOk a with
  | true =>
    cases hb : cutOk b with
    | true => exact (both ha hb).1
    | false =>
      rw [cutOk_cutB] at hb ⊢
      rw [cutB_ab, (cut_inv ha).2.1]
      cases hq : cutB b.data.toList with
      | none => simp
      | some q =>
        rw [hq] at hb
        have h3 : b.size ≤ 3000 := by omega
        simp [h3] at hb
        simp
        omega
  | false =>
    rw [cutOk_cutB] at ha ⊢
    rw [cutB_ab]
    cases hp : cutB a.data.toList with
    | none => simp
    | some p =>
      rw [hp] at ha
      have h3 : a.size ≤ 3000 := by omega
      simp [h3] at ha
      cases hq : cutB b.data.toList with
      | none => simp
      | some q =>
        simp
        omega
set_option maxRecDepth 100000 in
set_option maxHeartbeats 8000000 in
theorem law_CutTwo (l l' : List UInt8) (v u : Value) (w : World) (hv : Sl false byS w 0 w.heap.size l v) (hu : Sl false byS w 0 w.heap.size l' u) (ht : KeysAt w) : Calls Tryd.prog 8 #[v, u] w (Yes w) := by
  obtain ⟨A, cap, rfl, hlc, hcm⟩ := hv.form
  obtain ⟨A', cap', rfl, hlc', hcm'⟩ := hu.form
  by_cases hbig : 1048576 < l.length
  · have q0 : decide ((1048576 : Int) < (l.length : Int)) = true := by simp; omega
    go_enter Tryd.func8, Tryd.ntmps8
    go_wp2_with fail
    go_ret
    exact ⟨rfl, Below.refl _ _⟩
  have q0 : decide ((1048576 : Int) < (l.length : Int)) = false := by simp; omega
  by_cases hbig' : 1048576 < l'.length
  · have q0' : decide ((1048576 : Int) < (l'.length : Int)) = true := by simp; omega
    go_enter Tryd.func8, Tryd.ntmps8
    go_wp2_with fail
    go_ret
    exact ⟨rfl, Below.refl _ _⟩
  have q0' : decide ((1048576 : Int) < (l'.length : Int)) = false := by simp; omega
  have HKA := Lib.hid (fun (w9 : World) (h9 : Below w.heap.size w w9) => ht.below h9 (Nat.le_refl _))
  go_enter Tryd.func8, Tryd.ntmps8
  go_wp2_with fail
  refine (draw_text l _ _ hv).mono ?_
  rintro e w1 ⟨a, ha, rfl, b1⟩
  go_wp2_with fail
  refine (draw_plain l' _ _ ((hu.below b1 (Nat.le_refl _)).more (Nat.le_refl _) b1.size)).mono ?_
  rintro e w2 ⟨b, hb, rfl, b2⟩
  have hb2 := b1.trans (b2.mono b1.size)
  have haM : a.size ≤ maxLen := Nat.le_trans ha (by decide)
  have hbM : b.size ≤ maxLen := Nat.le_trans hb (by decide)
  clear ht b1 b2
  obtain ⟨la, -⟩ := cut_len a
  obtain ⟨lb, -⟩ := cut_len b
  have H1 := Lib.hid (@two_no a b)
  have H2 := Lib.hid (@two_yes a b)
  obtain ⟨T, hT⟩ : ∃ T, a ++ ⟨#[32]⟩ ++ b = T := ⟨_, rfl⟩
  have hTM : T.size ≤ maxLen := by
    rw [← hT, two_size]
    unfold maxLen
    omega
  rw [hT] at H1 H2
  go_wp2_with fail
  refine (impl_CutWords a _ haM (HKA.out _ hb2)).mono ?_
  rintro e w3 ⟨v3, rfl, hv3, b3⟩
  have hb3 := hb2.trans (b3.mono hb2.size)
  have p3 := hv3 false
  clear hv3
  obtain ⟨A3, c3, hf3, _, _⟩ := p3.form
  subst hf3
  go_wp2_with fail
  refine (impl_CutWords b _ hbM (HKA.out _ hb3)).mono ?_
  rintro e w4 ⟨v4, rfl, hv4, b4⟩
  have hb4 := hb3.trans (b4.mono hb3.size)
  have p4 := hv4 false
  clear hv4
  obtain ⟨A4, c4, hf4, _, _⟩ := p4.form
  subst hf4
  go_wp2_with fail
  refine (spec_CutWords a _ haM).mono ?_
  rintro e w5 ⟨v5, rfl, hv5, b5⟩
  have hb5 := hb4.trans (b5.mono hb4.size)
  have p5 := hv5 false
  clear hv5
  go_wp2_with fail
  refine (spec_CutWords b _ hbM).mono ?_
  rintro e w6 ⟨v6, rfl, hv6, b6⟩
  have hb6 := hb5.trans (b6.mono hb5.size)
  have p6 := hv6 false
  clear hv6
  have sz3 := b3.size
  have sz4 := b4.size
  have sz5 := b5.size
  have sz6 := b6.size
  have p3_6 := ((p3.below b4 (by omega)).below b5 (by omega)).below b6 (by omega)
  have p4_6 := (p4.below b5 (by omega)).below b6 (by omega)
  have p5_6 := p5.below b6 (by omega)
  clear p3 p4 p5
  go_wp2_with fail
  refine (ww_ok (cutLst a) _ _ w6 _ _ _ _ (by omega) (by omega) p3_6 p5_6).mono ?_
  rintro e w7 ⟨rfl, b7⟩
  have hb7 := hb6.trans (b7.mono hb6.size)
  have sz7 := b7.size
  have p3_7 := p3_6.below b7 (by omega)
  have p4_7 := p4_6.below b7 (by omega)
  have p6_7 := p6.below b7 (by omega)
  clear p3_6 p4_6 p6 p5_6
  go_wp2_with fail
  refine (ww_ok (cutLst b) _ _ w7 _ _ _ _ (by omega) (by omega) p4_7 p6_7).mono ?_
  rintro e w8 ⟨rfl, b8⟩
  have hb8 := hb7.trans (b8.mono hb7.size)
  have sz8 := b8.size
  have p3_8 := p3_7.below b8 (by omega)
  have p4_8 := p4_7.below b8 (by omega)
  clear p3_7 p4_7 p6_7
  go_wp2_with fail
  refine (impl_CutWords T _ hTM (HKA.out _ hb8)).mono ?_
  rintro e w9 ⟨v9, rfl, hv9, b9⟩
  have hb9 := hb8.trans (b9.mono hb8.size)
  have sz9 := b9.size
  have p9 := hv9 false
  clear hv9 hT
  have p3_9 := p3_8.below b9 (by omega)
  have p4_9 := p4_8.below b9 (by omega)
  clear p3_8 p4_8
  by_cases n1 : 3000 < a.size + b.size + 1
  · have q1 : decide ((3000 : Int) < (a.size : Int) + (b.size : Int) + 1) = true := by simp; omega
    rw [H1.out (Or.inl n1)]
    go_wp2_with fail
    go_ret
    exact ⟨rfl, hb9⟩
  have q1 : decide ((3000 : Int) < (a.size : Int) + (b.size : Int) + 1) = false := by simp; omega
  by_cases n2 : 600 < (cutLst a).length + (cutLst b).length
  · have q2 : decide ((600 : Int) < ((cutLst a).length : Int) + ((cutLst b).length : Int)) = true := by simp; omega
    rw [H1.out (Or.inr n2)]
    go_wp2_with fail
    go_ret
    exact ⟨rfl, hb9⟩
  have q2 : decide ((600 : Int) < ((cutLst a).length : Int) + ((cutLst b).length : Int)) = false := by simp; omega
  obtain ⟨e1, e2⟩ := H2.out (by omega) (by omega)
  rw [e1]
  cases hoa : cutOk a
  case false =>
    rw [Bool.false_and]
    clear e1 e2 hoa
    go_wp2_with fail
    go_ret
    exact ⟨rfl, hb9⟩
  cases hob : cutOk b
  case false =>
    rw [Bool.and_false]
    clear e1 e2 hoa hob
    go_wp2_with fail
    go_ret
    exact ⟨rfl, hb9⟩
  rw [e2 hoa hob] at p9
  rw [Bool.and_true]
  clear e1 e2 hoa hob H1 H2
  have own0 := own_emptyW w9 w9.heap.size 29 (Nat.le_refl _)
  have bb : Below w9.heap.size w9 (w9.alloc (.cells #[] 29)) := (Below.refl _ _).alloc (Nat.le_refl _) _
  obtain ⟨x1, y1, r1, own1, g1⟩ := append_words (w9.alloc (.cells #[] 29)) w9.heap.size 25 _ [] own0 (cutLst a) _ _ _ (p3_9.below bb (by omega)) (by simp; omega) (by simp)
  have b10 : Below w9.heap.size w9 y1 := bb.grown g1 (by simp) (fun r hr => own_geW own0 hr)
  have sz10 := b10.size
  obtain ⟨x2, y2, r2, own2, g2⟩ := append_words y1 w9.heap.size 25 _ ([] ++ cutLst a) own1 (cutLst b) _ _ _ (p4_9.below b10 (by omega)) (by simp; omega) sz10
  have b11 : Below w9.heap.size w9 y2 := b10.grown g2 sz10 (fun r hr => own_geW own1 hr)
  have fin : Sl false (wordS false) y2 w9.heap.size y2.heap.size (cutLst a ++ cutLst b) x2 := by
    have := Sl.of_ownW (lo := w9.heap.size) own2 (fun c hc => by
      rw [List.nil_append] at hc
      rcases List.mem_append.1 hc with h | h
      · exact cut_all a c h
      · exact cut_all b c h) (Nat.le_refl _) false
    simpa using this
  have r1' := Lib.hid r1
  have r2' := Lib.hid r2
  clear r1 r2
  have hb11 := hb9.trans (b11.mono hb9.size)
  have sz11 := b11.size
  go_wp2_with (at_builtin; refine BigFrame.wpList_want (by kernel_rfl) fun K hK => Lib.wp_append_run_sl _ _ _ _ rfl _ _ rfl rfl (by first | exact r1'.out | exact r2'.out) (hK _ _ ?_))
  go_wp2_with (at_builtin; refine BigFrame.wpList_want (by kernel_rfl) fun K hK => Lib.wp_append_run_sl _ _ _ _ rfl _ _ rfl rfl (by first | exact r1'.out | exact r2'.out) (hK _ _ ?_))
  refine (ww_ok (cutLst a ++ cutLst b) _ _ y2 _ _ _ _ sz11 (Nat.le_refl _) (p9.below b11 (Nat.le_refl _)) fin).mono ?_
  rintro e w12 ⟨rfl, b12⟩
  have hb12 := hb11.trans (b12.mono hb11.size)
  go_wp2_with fail
  go_ret
  exact ⟨rfl, hb12⟩

set_option maxRecDepth 100000 in
theorem fnCutTwo_lifted (os : Os) (started : os.Started) (H : Type) (enc : TypeId × Value → H) :
    ReturnsInHanded {} Tryd.checked os 8 .any (fun w args => (Rows.fnCutTwoSpec.pre enc Tryd.prog Tryd.f8 [] false w args ∧ laidMetH Tryd.prog [("math/bits.deBruijn32tab", Rows.laid_math_bits_deBruijn32tab), ("math/bits.deBruijn64tab", Rows.laid_math_bits_deBruijn64tab), ("internal/strconv.uint64pow10", Rows.laid_internal_strconv_uint64pow10), ("strconv.ErrRange", Rows.laid_strconv_ErrRange), ("strconv.ErrSyntax", Rows.laid_strconv_ErrSyntax), ("loop.example/wholeway/impl.keys", Rows.laid_loop_example_wholeway_impl_keys)] w) ∧ sizedMet enc Tryd.prog Tryd.f8 (OpenSpec.ofChange Rows.fnCutTwoSpec) false w args) (Rows.fnCutTwoSpec.post enc Tryd.prog Tryd.f8 false true false false) := by
  refine returnsInHanded_of_change_and (C := Tryd.checked) (X := fun w _ => laidMetH Tryd.prog [("math/bits.deBruijn32tab", Rows.laid_math_bits_deBruijn32tab), ("math/bits.deBruijn64tab", Rows.laid_math_bits_deBruijn64tab), ("internal/strconv.uint64pow10", Rows.laid_internal_strconv_uint64pow10), ("strconv.ErrRange", Rows.laid_strconv_ErrRange), ("strconv.ErrSyntax", Rows.laid_strconv_ErrSyntax), ("loop.example/wholeway/impl.keys", Rows.laid_loop_example_wholeway_impl_keys)] w) (fun _ _ _ hh h => h.of_heap hh) own started (by kernel_rfl) Tryd.func8
    (ChangeSpec.witness_shaped (enc := enc) (C := Tryd.checked) (os := os) (X := fun w _ => laidMetH Tryd.prog [("math/bits.deBruijn32tab", Rows.laid_math_bits_deBruijn32tab), ("math/bits.deBruijn64tab", Rows.laid_math_bits_deBruijn64tab), ("internal/strconv.uint64pow10", Rows.laid_internal_strconv_uint64pow10), ("strconv.ErrRange", Rows.laid_strconv_ErrRange), ("strconv.ErrSyntax", Rows.laid_strconv_ErrSyntax), ("loop.example/wholeway/impl.keys", Rows.laid_loop_example_wholeway_impl_keys)] w) false (World.doorLaid Tryd.prog 400 os) #[.slice none 0 0, .slice none 0 0] 8 rfl (World.shaped_of_RefB (by kernel_rfl) (by kernel_rfl)) (by kernel_rfl) (by kernel_rfl) (by kernel_rfl) (door_metW os _)) ?_
  intro W base args ds gs before hval0 hW _ _ hL _
  have hval : ∀ (j : Nat) t v, Tryd.f8.params[j]? = some t → args[j]? = some v → Value.okWide Tryd.prog W .any base t v := hval0
  obtain ⟨p, q, hA0, hV, hrest⟩ := id hW
  have hA : DataW.TrodAll enc Tryd.prog W 0 (fun _ => true) true Tryd.f8.params.toList args.toList ds p := hA0
  rw [Tryd.params8] at hA hval
  obtain ⟨v0, v1, d0, d1, p0, p1, rfl, rfl, rfl, h0, h1⟩ := trodAll_two hA
  obtain ⟨gv0, rfl⟩ := one_vars hV
  obtain ⟨a, len, cap, rfl⟩ := okWide_slice Tryd.underlying22 (hval 0 _ v0 rfl rfl)
  obtain ⟨a', len', cap', rfl⟩ := okWide_slice Tryd.underlying22 (hval 1 _ v1 rfl rfl)
  obtain ⟨fuel0, hf0⟩ := h0
  obtain ⟨fuel1, hf1⟩ := h1
  obtain ⟨da0, vv, hv0, ha0⟩ := dec_slice Tryd.underlying22 (by kernel_rfl) (by decide) dec_u8 hf0
  simp only [Value.cells, List.cons.injEq, and_true] at hv0
  subst hv0
  obtain ⟨da1, vv1, hv1, ha1⟩ := dec_slice Tryd.underlying22 (by kernel_rfl) (by decide) dec_u8 hf1
  simp only [Value.cells, List.cons.injEq, and_true] at hv1
  subst hv1
  have hcall := law_CutTwo da0 da1 _ _ W ha0 ha1 (tabs_ofW hL)
  refine hcall.mono fun e W' ⟨he, hb⟩ => ?_
  subst he
  exact ⟨_, rfl, post_true_vars laidO hW (by kernel_rfl) Tryd.underlying4 (by rw [Tryd.params8]; intro t ht; simp only [List.mem_cons, List.not_mem_nil, or_false] at ht; rcases ht with rfl | rfl <;> exact ⟨by kernel_rfl, of_decide_eq_true (by kernel_rfl)⟩) vars_ok rfl rfl rfl hb⟩

set_option maxRecDepth 100000 in
set_option maxHeartbeats 1000000 in
theorem fnCutTwo_facts : joinedFacts Tryd.prog 8 Tryd.f8 Rows.fnCutTwoSpec Rows.fnCutTwoRow = true := by
  unfold joinedFacts
  exact and_mk (and_mk (and_mk (and_mk (and_mk (and_mk (and_mk (and_mk (and_mk (and_mk (and_mk (and_mk (and_mk (and_mk (and_mk (and_mk (and_mk (and_mk (and_mk (and_mk (and_mk (and_mk (and_mk (and_mk (and_mk (and_mk (and_mk (and_mk (and_mk (and_mk (and_mk (by as_aux_lemma => kernel_rfl) laidO) mapsRowedO) (by as_aux_lemma => kernel_rfl)) (by as_aux_lemma => kernel_rfl)) (by as_aux_lemma => kernel_rfl)) (by as_aux_lemma => kernel_rfl)) (by as_aux_lemma => kernel_rfl)) (by as_aux_lemma => kernel_rfl)) (by as_aux_lemma => kernel_rfl)) (by as_aux_lemma => kernel_rfl)) (by as_aux_lemma => kernel_rfl)) (by as_aux_lemma => kernel_rfl)) (by as_aux_lemma => kernel_rfl)) (by as_aux_lemma => kernel_rfl)) (by as_aux_lemma => kernel_rfl)) (by as_aux_lemma => kernel_rfl)) (by as_aux_lemma => kernel_rfl)) (by as_aux_lemma => kernel_rfl)) (by as_aux_lemma => kernel_rfl)) (by as_aux_lemma => kernel_rfl)) (by as_aux_lemma => kernel_rfl)) (by rw [plainKeysO]; rfl)) (by as_aux_lemma => kernel_rfl)) stopsHeardO) mayEnter) (by rw [liftsFinal]; rfl)) (by rw [makeCut]; rfl)) (by as_aux_lemma => kernel_rfl)) (by as_aux_lemma => kernel_rfl)) (by as_aux_lemma => kernel_rfl)) (by as_aux_lemma => kernel_rfl)

theorem fnCutTwo_said : Rows.FnCutTwoSaid :=
  OpenClaim.holds_of_wide 8 Tryd.f8 rfl rfl rfl rfl rfl rfl rfl ⟨rfl, rfl, rfl, rfl, rfl⟩ rfl rfl rfl rfl rfl (by kernel_rfl) Tryd.func8 fnCutTwo_facts
    (of_decide_eq_true (by kernel_rfl)) (by unfold Func.isWrapper; first | (rw [if_pos (by decide +kernel)]; kernel_rfl) | (rw [if_neg (by decide +kernel)]; exact ⟨rfl, rfl⟩))
    (fun os started H enc _ => fnCutTwo_lifted os started H enc)

/-- no parameter wants a stand-in -/
theorem fnCutTwo_plain (f : FuncId) (fn : Func) (hf : Tryd.pinned.checked.prog.funcNamed "loop.example/wholeway/laws.FnCutTwo" = some f) (hfn : Tryd.pinned.checked.prog.funcs[f]? = some fn) :
    true = Tryd.pinned.checked.prog.looks [] ∧ ∀ (j : Nat) t, fn.params[j]? = some t → Tryd.pinned.checked.prog.wantsStandIn t = false := by
  obtain rfl : f = 8 := Option.some.inj ((show Tryd.prog.funcNamed "loop.example/wholeway/laws.FnCutTwo" = some 8 by kernel_rfl).symm.trans hf) |>.symm
  obtain rfl : fn = Tryd.f8 := (Option.some.inj (Tryd.func8.symm.trans hfn)).symm
  refine ⟨by kernel_rfl, fun j t ht => ?_⟩
  rw [Tryd.params8] at ht
  have hm : t ∈ [22, 22] := by simpa using Array.mem_of_getElem? ht
  have hall : ([22, 22].all fun u => !Tryd.prog.wantsStandIn u) = true := by kernel_rfl
  exact (show Tryd.prog.wantsStandIn t = false by simpa using List.all_eq_true.1 hall t hm)
theorem fnCutTwo_holds : Rows.FnCutTwoCardSaid :=
  Claim7.holds_tied_plain_at .later [] _ _ _ _ fnCutTwo_said (fun _ h => by cases h) (by kernel_rfl) (fun _ h => by cases h) fnCutTwo_row_tie rfl ⟨rfl, rfl⟩ (by kernel_rfl) rfl fnCutTwo_plain (by kernel_rfl)
end Go.Proofs.YtiaioiijdlmilaaDoor
