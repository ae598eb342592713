/-
  The law FnBlanks: it returns true for all arguments. Condition: the variables that its row lists read as the table lays them.
-/
import Derived.Test.YtiaioiijdlmilaaDoorLaws2
import Derived.Test.YtiaioiijdlmilaaDoorDraw3
import Derived.Test.YtiaioiijdlmilaaDoorLawL
import Derived.Lib.ConvBytes
import Derived.Laws.IdiomStrings
namespace Go.Proofs.YtiaioiijdlmilaaDoor
open Go.RowKit Go.ChangeShapes Go.WideShapes Go.Deep
set_option linter.unusedVariables false
set_option linter.unusedSimpArgs false
theorem same_cut {s t : ByteArray} (h : cutB t.data.toList = cutB s.data.toList) (hs : s.size ≤ 3000) (ht : t.size ≤ 3000) : cutOk t = cutOk s ∧ cutLst t = cutLst s := by
  have e : cutOk t = cutOk s := by
    rw [cutOk_cutB, cutOk_cutB, h]
    simp [hs, ht]
  refine ⟨e, ?_⟩
  unfold cutLst
  rw [e, cutR_cutB, cutR_cutB, h]
theorem around_cut (s : ByteArray) : cutB ((⟨#[32, 10]⟩ ++ s) ++ ⟨#[10, 32]⟩ : ByteArray).data.toList = cutB s.data.toList := by
  have e : ((⟨#[32, 10]⟩ ++ s) ++ ⟨#[10, 32]⟩ : ByteArray).data.toList = 32 :: 10 :: ((s.data.toList ++ [10]) ++ [32]) := by simp
  rw [e, cutB_blank _ (by decide), cutB_blank _ (by decide), cutB_tail (by decide), cutB_tail (by decide)]
theorem bytes_frozen (w : World) (e : TypeId) (s : ByteArray) (j : Nat) (hj : j < s.size) : (Lib.bytesWorld w e s).frozen? ⟨w.heap.size, j, none⟩ = false := by
  simp [World.frozen?, Lib.bytesWorld_at_new, Lib.bytesCells]
  omega
theorem bytes_below (w : World) (e : TypeId) (s : ByteArray) : Below w.heap.size w (Lib.bytesWorld w e s) :=
  ⟨rfl, rfl, rfl, by rw [Lib.bytesWorld_size]; omega, fun b hb => Lib.bytesWorld_at_old w e s b hb⟩
set_option maxRecDepth 100000 in
set_option maxHeartbeats 8000000 in
theorem law_Blanks (l : List UInt8) (v : Value) (w : World) (hv : Sl false byS w 0 w.heap.size l v) (ht : KeysAt w) : Calls Tryd.prog 7 #[v] w (Yes w) := by
  obtain ⟨A, cap, rfl, hlc, hcm⟩ := hv.form
  by_cases hbig : 1048576 < l.length
  · have q0 : decide ((1048576 : Int) < (l.length : Int)) = true := by simp; omega
    go_enter Tryd.func7, Tryd.ntmps7
    go_wp2_with fail
    go_ret
    exact ⟨rfl, Below.refl _ _⟩
  have q0 : decide ((1048576 : Int) < (l.length : Int)) = false := by simp; omega
  have HKA := Lib.hid (fun (w9 : World) (h9 : Below w.heap.size w w9) => ht.below h9 (Nat.le_refl _))
  go_enter Tryd.func7, Tryd.ntmps7
  go_wp2_with fail
  refine (draw_text l _ _ hv).mono ?_
  rintro e w1 ⟨s, hs, rfl, b1⟩
  clear ht
  have hsM : s.size ≤ maxLen := Nat.le_trans hs (by decide)
  go_wp2_with fail
  refine (impl_CutWords s _ hsM (HKA.out _ b1)).mono ?_
  rintro e w2 ⟨v2, rfl, hv2, b2⟩
  have hb2 := b1.trans (b2.mono b1.size)
  have p2 := hv2 false
  clear hv2
  go_wp2_with fail
  refine (spec_CutWords s _ hsM).mono ?_
  rintro e w3 ⟨v3, rfl, hv3, b3⟩
  have hb3 := hb2.trans (b3.mono hb2.size)
  have p3 := hv3 false
  clear hv3
  have p2_3 := p2.below b3 (Nat.le_refl _)
  have sz3 := b3.size
  go_wp2_with fail
  refine (ww_ok (cutLst s) _ _ w3 _ _ _ _ sz3 (Nat.le_refl _) p2_3 p3).mono ?_
  rintro e w4 ⟨rfl, b4⟩
  have hb4 := hb3.trans (b4.mono hb3.size)
  have sz4 := b4.size
  have p2_4 := p2_3.below b4 sz3
  have p3_4 := p3.below b4 (Nat.le_refl _)
  clear p2 p2_3 p3
  by_cases hbig2 : 3000 < s.size + 4
  · have q1 : decide ((3000 : Int) < (s.size : Int) + 4) = true := by simp; omega
    go_wp2_with fail
    refine (ww_ok (cutLst s) _ _ w4 _ _ _ _ (by omega) (by omega) p2_4 p3_4).mono ?_
    rintro e w5 ⟨rfl, b5⟩
    have hb5 := hb4.trans (b5.mono hb4.size)
    go_wp2_with fail
    go_ret
    exact ⟨rfl, hb5⟩
  have q1 : decide ((3000 : Int) < (s.size : Int) + 4) = false := by simp; omega
  clear p3_4
  obtain ⟨T, hT⟩ : ∃ T, (⟨#[32, 10]⟩ ++ s) ++ ⟨#[10, 32]⟩ = T := ⟨_, rfl⟩
  have hTs : T.size = s.size + 4 := by
    rw [← hT, ByteArray.size_append, ByteArray.size_append]
    have h1 : (⟨#[32, 10]⟩ : ByteArray).size = 2 := rfl
    have h2 : (⟨#[10, 32]⟩ : ByteArray).size = 2 := rfl
    omega
  have hTM : T.size ≤ maxLen := by unfold maxLen; omega
  have hTB := around_cut s
  rw [hT] at hTB
  obtain ⟨t1, t2⟩ := same_cut hTB (by omega) (by omega)
  have T1 := Lib.hid t1
  have T2 := Lib.hid t2
  clear t1 t2 hTB hTs
  go_wp2_with fail
  refine (impl_CutWords T _ hTM (HKA.out _ hb4)).mono ?_
  rw [show CutP T w4 = fun e w' => ∃ v : Value, e = .returned (.tuple #[v, .bool (cutOk s)]) ∧ (∀ m, Sl m (wordS m) w' w4.heap.size w'.heap.size (cutLst s) v) ∧ Below w4.heap.size w4 w' by unfold CutP; rw [T1.out, T2.out]]
  rintro e w5 ⟨v5, rfl, hv5, b5⟩
  have hb5 := hb4.trans (b5.mono hb4.size)
  have p5 := hv5 false
  have sz5 := b5.size
  have p2_5 := p2_4.below b5 (by omega)
  clear hv5 p2_4 hT
  -- the bytes
  have hcv := Lib.run_convert_string_bytes (P := Tryd.prog) w5 9 22 5 s Tryd.underlying9 Tryd.underlying22 Tryd.underlying5
  have hC1 := grownCap_ge w5 s.size 0 5
  have hC2 := grownCap_le_maxLen w5 s.size 0 5 hsM
  obtain ⟨C, hC⟩ : ∃ C, grownCap w5 s.size 0 5 = C := ⟨_, rfl⟩
  rw [hC] at hcv hC1 hC2
  have hcell0 := fun j hj => Lib.bytesWorld_cell w5 5 s j hj
  have hfro0 := fun j hj => bytes_frozen w5 5 s j hj
  have bb := bytes_below w5 5 s
  obtain ⟨g, hg⟩ : ∃ g, w5.heap.size = g := ⟨_, rfl⟩
  rw [hg] at hcell0 hfro0 bb hcv
  have HG := Lib.hid hg
  obtain ⟨W0, hW0⟩ : ∃ W0, Lib.bytesWorld w5 5 s = W0 := ⟨_, rfl⟩
  rw [hW0] at hcell0 hfro0 bb hcv
  have HC0 := Lib.hid hcell0
  have HF0 := Lib.hid hfro0
  clear hcell0 hfro0 hC hg hW0
  have hC3 : C ≤ 9223372036854775807 := by unfold maxLen at hC2; omega
  go_wp2_with fail
  go_loopw [64] (fun i wr => ∃ k : Nat, k ≤ s.size ∧ i = .int .i64 k ∧ Below g w5 wr ∧ Hid (∀ j, j < s.size → wr.cell? ⟨g, j, none⟩ = some (.int .u8 ((if j < k then nl (s.data.toList.getD j 0) else s.data.toList.getD j 0).toNat : Int))) ∧ Hid (∀ j, j < s.size → wr.frozen? ⟨g, j, none⟩ = false)) (fun i _ => s.size - (intOf i).toNat)
  case atStart => exact ⟨0, by omega, rfl, bb, (fun j hj => by rw [HC0.out j hj, if_neg (by omega)]), HF0.out⟩
  case round =>
    obtain ⟨k, hk, rfl, hb, HC, HF⟩ := hrel
    by_cases hks : k < s.size
    · obtain ⟨x, hx⟩ : ∃ x, s.data.toList.getD k 0 = x := ⟨_, rfl⟩
      have c0 : wr.cell? ⟨g, k, none⟩ = some (.int .u8 (x.toNat : Int)) := by
        have := HC.out k hks
        rw [if_neg (by omega), hx] at this
        exact this
      have f0 := HF.out k hks
      have HX := Lib.hid hx
      clear hx
      by_cases h32 : x = 32
      · subst h32
        go_wp2_with fail
        go_roundw
        case rel =>
          refine ⟨k + 1, by omega, by go_num, hb.setCell (p := ⟨g, k, none⟩) (Nat.le_refl _) _, fun j hj => ?_, fun j hj => by simpa using HF.out j hj⟩
          by_cases hjk : j = k
          · subst hjk
            rw [World.cell?_setCell_same _ _ _ c0, if_pos (by omega), HX.out]
            rfl
          · rw [World.cell?_setCell_other _ _ _ _ (fun e => hjk (by injection e with _ e2; exact e2.symm)), HC.out j hj]
            by_cases h1 : j < k
            · rw [if_pos h1, if_pos (by omega)]
            · rw [if_neg h1, if_neg (by omega)]
        case measure => simp [intOf]; omega
      · have qx : ((x.toNat : Int) == 32) = false := u8_ne (c := 32) h32
        have hnl : nl x = x := by unfold nl; rw [if_neg h32]
        clear h32
        go_wp2_with fail
        go_roundw
        case rel =>
          refine ⟨k + 1, by omega, by go_num, hb, fun j hj => ?_, HF.out⟩
          by_cases hjk : j = k
          · subst hjk
            rw [HC.out j hj, if_neg (by omega), if_pos (by omega), HX.out, hnl]
          · rw [HC.out j hj]
            by_cases h1 : j < k
            · rw [if_pos h1, if_pos (by omega)]
            · rw [if_neg h1, if_neg (by omega)]
        case measure => simp [intOf]; omega
    · obtain rfl : k = s.size := by omega
      have hyl : (s.data.toList.map nl).length = s.size := by simp
      have hcb := run_convert_bytes_back (P := Tryd.prog) wr 22 9 5 ⟨g, 0, none⟩ C (s.data.toList.map nl) Tryd.underlying22 Tryd.underlying5 Tryd.underlying9 (fun j hj => by
        have hj' : j < s.size := by simpa using hj
        have h1 := HC.out j hj'
        rw [if_pos hj'] at h1
        have e : (⟨g, 0, none⟩ : Addr).add j = ⟨g, j, none⟩ := by
          simp only [Addr.add]
          split <;> simp_all
        rw [e, h1]
        have hj2 : j < s.data.toList.length := by simpa using hj'
        simp [List.getD, List.getElem?_eq_getElem hj2])
      rw [hyl] at hcb
      have hYB : cutB (⟨(s.data.toList.map nl).toArray⟩ : ByteArray).data.toList = cutB s.data.toList := by
        show cutB (s.data.toList.map nl) = _
        exact cutB_nl _ _ (Nat.le_refl _)
      have hYs : (⟨(s.data.toList.map nl).toArray⟩ : ByteArray).size = s.size := by
        show (s.data.toList.map nl).toArray.size = s.size
        simp
      obtain ⟨Y, hY⟩ : ∃ Y, (⟨(s.data.toList.map nl).toArray⟩ : ByteArray) = Y := ⟨_, rfl⟩
      rw [hY] at hcb hYB hYs
      obtain ⟨t1, t2⟩ := same_cut hYB (by omega) (by omega)
      have Y1 := Lib.hid t1
      have Y2 := Lib.hid t2
      have hYM : Y.size ≤ maxLen := by omega
      have hgg : w5.heap.size ≤ g := Nat.le_of_eq HG.out
      have hwg : w.heap.size ≤ g := Nat.le_trans hb5.size hgg
      have hbw := hb5.trans (hb.mono hwg)
      have szr := hb.size
      have p5_r := p5.below hb hgg
      have p2_r := p2_5.below hb (by omega)
      clear t1 t2 hYB hYs hY hyl HC HF p5 p2_5
      go_wp2_with fail
      refine (impl_CutWords Y _ hYM (HKA.out _ hbw)).mono ?_
      rw [show CutP Y wr = fun e w' => ∃ v : Value, e = .returned (.tuple #[v, .bool (cutOk s)]) ∧ (∀ m, Sl m (wordS m) w' wr.heap.size w'.heap.size (cutLst s) v) ∧ Below wr.heap.size wr w' by unfold CutP; rw [Y1.out, Y2.out]]
      rintro e w6 ⟨v6, rfl, hv6, b6⟩
      have hb6 := hbw.trans (b6.mono hbw.size)
      have p6 := hv6 false
      have sz6 := b6.size
      have p5_6 := p5_r.below b6 szr
      have p2_6 := p2_r.below b6 (by omega)
      clear hv6 p5_r p2_r hcb
      go_wp2_with fail
      refine (ww_ok (cutLst s) _ _ w6 _ _ _ _ (by omega) (by omega) p5_6 p2_6).mono ?_
      rintro e w7 ⟨rfl, b7⟩
      have hb7 := hb6.trans (b7.mono hb6.size)
      have sz7 := b7.size
      have p6_7 := p6.below b7 (Nat.le_refl _)
      have p2_7 := p2_6.below b7 (by omega)
      go_wp2_with fail
      refine (ww_ok (cutLst s) _ _ w7 _ _ _ _ (by omega) (by omega) p6_7 p2_7).mono ?_
      rintro e w8 ⟨rfl, b8⟩
      have hb8 := hb7.trans (b8.mono hb7.size)
      go_wp2_with fail
      go_ret
      exact ⟨rfl, hb8⟩

set_option maxRecDepth 100000 in
theorem fnBlanks_lifted (os : Os) (started : os.Started) (H : Type) (enc : TypeId × Value → H) :
    ReturnsInHanded {} Tryd.checked os 7 .any (fun w args => (Rows.fnBlanksSpec.pre enc Tryd.prog Tryd.f7 [] false w args ∧ laidMetH Tryd.prog [("math/bits.deBruijn32tab", Rows.laid_math_bits_deBruijn32tab), ("math/bits.deBruijn64tab", Rows.laid_math_bits_deBruijn64tab), ("internal/strconv.uint64pow10", Rows.laid_internal_strconv_uint64pow10), ("strconv.ErrRange", Rows.laid_strconv_ErrRange), ("strconv.ErrSyntax", Rows.laid_strconv_ErrSyntax), ("loop.example/wholeway/impl.keys", Rows.laid_loop_example_wholeway_impl_keys)] w) ∧ sizedMet enc Tryd.prog Tryd.f7 (OpenSpec.ofChange Rows.fnBlanksSpec) false w args) (Rows.fnBlanksSpec.post enc Tryd.prog Tryd.f7 false true false false) := by
  refine returnsInHanded_of_change_and (C := Tryd.checked) (X := fun w _ => laidMetH Tryd.prog [("math/bits.deBruijn32tab", Rows.laid_math_bits_deBruijn32tab), ("math/bits.deBruijn64tab", Rows.laid_math_bits_deBruijn64tab), ("internal/strconv.uint64pow10", Rows.laid_internal_strconv_uint64pow10), ("strconv.ErrRange", Rows.laid_strconv_ErrRange), ("strconv.ErrSyntax", Rows.laid_strconv_ErrSyntax), ("loop.example/wholeway/impl.keys", Rows.laid_loop_example_wholeway_impl_keys)] w) (fun _ _ _ hh h => h.of_heap hh) own started (by kernel_rfl) Tryd.func7
    (ChangeSpec.witness_shaped (enc := enc) (C := Tryd.checked) (os := os) (X := fun w _ => laidMetH Tryd.prog [("math/bits.deBruijn32tab", Rows.laid_math_bits_deBruijn32tab), ("math/bits.deBruijn64tab", Rows.laid_math_bits_deBruijn64tab), ("internal/strconv.uint64pow10", Rows.laid_internal_strconv_uint64pow10), ("strconv.ErrRange", Rows.laid_strconv_ErrRange), ("strconv.ErrSyntax", Rows.laid_strconv_ErrSyntax), ("loop.example/wholeway/impl.keys", Rows.laid_loop_example_wholeway_impl_keys)] w) false (World.doorLaid Tryd.prog 400 os) #[.slice none 0 0] 8 rfl (World.shaped_of_RefB (by kernel_rfl) (by kernel_rfl)) (by kernel_rfl) (by kernel_rfl) (by kernel_rfl) (door_metW os _)) ?_
  intro W base args ds gs before hval0 hW _ _ hL _
  have hval : ∀ (j : Nat) t v, Tryd.f7.params[j]? = some t → args[j]? = some v → Value.okWide Tryd.prog W .any base t v := hval0
  obtain ⟨p, q, hA0, hV, hrest⟩ := id hW
  have hA : DataW.TrodAll enc Tryd.prog W 0 (fun _ => true) true Tryd.f7.params.toList args.toList ds p := hA0
  rw [Tryd.params7] at hA hval
  obtain ⟨v0, d0, rfl, rfl, h0⟩ := trodAll_one hA
  obtain ⟨gv0, rfl⟩ := one_vars hV
  obtain ⟨a, len, cap, rfl⟩ := okWide_slice Tryd.underlying22 (hval 0 _ v0 rfl rfl)
  obtain ⟨fuel0, hf0⟩ := h0
  obtain ⟨da0, vv, hv0, ha0⟩ := dec_slice Tryd.underlying22 (by kernel_rfl) (by decide) dec_u8 hf0
  simp only [Value.cells, List.cons.injEq, and_true] at hv0
  subst hv0
  have hcall := law_Blanks da0 _ W ha0 (tabs_ofW hL)
  refine hcall.mono fun e W' ⟨he, hb⟩ => ?_
  subst he
  exact ⟨_, rfl, post_true_vars laidO hW (by kernel_rfl) Tryd.underlying4 (by rw [Tryd.params7]; intro t ht; simp only [List.mem_cons, List.not_mem_nil, or_false] at ht; subst ht; exact ⟨by kernel_rfl, of_decide_eq_true (by kernel_rfl)⟩) vars_ok rfl rfl rfl hb⟩

set_option maxRecDepth 100000 in
set_option maxHeartbeats 1000000 in
theorem fnBlanks_facts : joinedFacts Tryd.prog 7 Tryd.f7 Rows.fnBlanksSpec Rows.fnBlanksRow = true := by
  unfold joinedFacts
  exact and_mk (and_mk (and_mk (and_mk (and_mk (and_mk (and_mk (and_mk (and_mk (and_mk (and_mk (and_mk (and_mk (and_mk (and_mk (and_mk (and_mk (and_mk (and_mk (and_mk (and_mk (and_mk (and_mk (and_mk (and_mk (and_mk (and_mk (and_mk (and_mk (and_mk (and_mk (by as_aux_lemma => kernel_rfl) laidO) mapsRowedO) (by as_aux_lemma => kernel_rfl)) (by as_aux_lemma => kernel_rfl)) (by as_aux_lemma => kernel_rfl)) (by as_aux_lemma => kernel_rfl)) (by as_aux_lemma => kernel_rfl)) (by as_aux_lemma => kernel_rfl)) (by as_aux_lemma => kernel_rfl)) (by as_aux_lemma => kernel_rfl)) (by as_aux_lemma => kernel_rfl)) (by as_aux_lemma => kernel_rfl)) (by as_aux_lemma => kernel_rfl)) (by as_aux_lemma => kernel_rfl)) (by as_aux_lemma => kernel_rfl)) (by as_aux_lemma => kernel_rfl)) (by as_aux_lemma => kernel_rfl)) (by as_aux_lemma => kernel_rfl)) (by as_aux_lemma => kernel_rfl)) (by as_aux_lemma => kernel_rfl)) (by as_aux_lemma => kernel_rfl)) (by rw [plainKeysO]; rfl)) (by as_aux_lemma => kernel_rfl)) stopsHeardO) mayEnter) (by rw [liftsFinal]; rfl)) (by rw [makeCut]; rfl)) (by as_aux_lemma => kernel_rfl)) (by as_aux_lemma => kernel_rfl)) (by as_aux_lemma => kernel_rfl)) (by as_aux_lemma => kernel_rfl)

theorem fnBlanks_said : Rows.FnBlanksSaid :=
  OpenClaim.holds_of_wide 7 Tryd.f7 rfl rfl rfl rfl rfl rfl rfl ⟨rfl, rfl, rfl, rfl, rfl⟩ rfl rfl rfl rfl rfl (by kernel_rfl) Tryd.func7 fnBlanks_facts
    (of_decide_eq_true (by kernel_rfl)) (by unfold Func.isWrapper; first | (rw [if_pos (by decide +kernel)]; kernel_rfl) | (rw [if_neg (by decide +kernel)]; exact ⟨rfl, rfl⟩))
    (fun os started H enc _ => fnBlanks_lifted os started H enc)

/-- no parameter wants a stand-in -/
theorem fnBlanks_plain (f : FuncId) (fn : Func) (hf : Tryd.pinned.checked.prog.funcNamed "loop.example/wholeway/laws.FnBlanks" = some f) (hfn : Tryd.pinned.checked.prog.funcs[f]? = some fn) :
    true = Tryd.pinned.checked.prog.looks [] ∧ ∀ (j : Nat) t, fn.params[j]? = some t → Tryd.pinned.checked.prog.wantsStandIn t = false := by
  obtain rfl : f = 7 := Option.some.inj ((show Tryd.prog.funcNamed "loop.example/wholeway/laws.FnBlanks" = some 7 by kernel_rfl).symm.trans hf) |>.symm
  obtain rfl : fn = Tryd.f7 := (Option.some.inj (Tryd.func7.symm.trans hfn)).symm
  refine ⟨by kernel_rfl, fun j t ht => ?_⟩
  rw [Tryd.params7] at ht
  have hm : t ∈ [22] := by simpa using Array.mem_of_getElem? ht
  have hall : ([22].all fun u => !Tryd.prog.wantsStandIn u) = true := by kernel_rfl
  exact (show Tryd.prog.wantsStandIn t = false by simpa using List.all_eq_true.1 hall t hm)
theorem fnBlanks_holds : Rows.FnBlanksCardSaid :=
  Claim7.holds_tied_plain_at .later [] _ _ _ _ fnBlanks_said (fun _ h => by cases h) (by kernel_rfl) (fun _ h => by cases h) fnBlanks_row_tie rfl ⟨rfl, rfl⟩ (by kernel_rfl) rfl fnBlanks_plain (by kernel_rfl)
end Go.Proofs.YtiaioiijdlmilaaDoor
