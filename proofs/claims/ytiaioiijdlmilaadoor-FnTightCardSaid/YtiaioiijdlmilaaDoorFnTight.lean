/-
  The law FnTight: it returns true for all arguments. Condition: the variables that its row lists read as the table lays them.
-/
import Derived.Test.YtiaioiijdlmilaaDoorLaws2
import Derived.Test.YtiaioiijdlmilaaDoorDraw3
import Derived.Test.YtiaioiijdlmilaaDoorLawL
namespace Go.Proofs.YtiaioiijdlmilaaDoor
open Go.RowKit Go.ChangeShapes Go.WideShapes Go.Deep
set_option linter.unusedVariables false
set_option linter.unusedSimpArgs false
/-- the space ahead of a word -/
def tgS (p : Option Int) (k : Int) : List UInt8 := match p with
  | some pk => if k = 3 then [] else if pk = 3 then [] else [32]
  | none => []
/-- words joined without spaces around signs -/
def tgB : Option Int → List WordD → List UInt8
  | _, [] => []
  | p, a :: r => tgS p a.kind ++ (a.text.data.toList ++ tgB (some a.kind) r)
theorem tgB_cons (p : Option Int) (a : WordD) (r : List WordD) : tgB p (a :: r) = tgS p a.kind ++ (a.text.data.toList ++ tgB (some a.kind) r) := rfl
def prevK (l : List WordD) : Nat → Option Int
  | 0 => none
  | j + 1 => (l[j]?).map (·.kind)
theorem prevK_succ {l : List WordD} {k : Nat} (h : k < l.length) : prevK l (k + 1) = some l[k].kind := by
  show (l[k]?).map _ = _
  rw [List.getElem?_eq_getElem h]
  rfl
theorem cutB_tgS (p : Option Int) (k : Int) (l : List UInt8) : cutB (tgS p k ++ l) = cutB l := by
  unfold tgS
  split
  · split
    · rfl
    · split
      · rfl
      · exact cutB_blank _ (by decide)
  · rfl
theorem tgB_cut : ∀ (l : List WordD) (p : Option Int), l.all wv = true → cutB (tgB p l) = some l
  | [], p, _ => cutB_nil
  | a :: r, p, h => by
    rw [List.all_cons, Bool.and_eq_true] at h
    rw [tgB_cons, cutB_tgS, cutB_first h.1, tgB_cut r (some a.kind) h.2]
    · rfl
    · intro b x hb hx
      obtain ⟨b', t, hs, h0, h4, _, _, h3⟩ := valid_form h.1
      rw [hs] at hb
      obtain rfl := Option.some.inj hb
      cases r with
      | nil => simp [tgB] at hx
      | cons c r =>
        rw [List.all_cons, Bool.and_eq_true] at h
        obtain ⟨c', t', hs', _, _, _, _, h3'⟩ := valid_form h.2.1
        by_cases ha3 : a.kind = 3
        · exact goes_not (Or.inr (by rw [h3.1 ha3]; decide))
        · by_cases hc3 : c.kind = 3
          · rw [tgB_cons, hs'] at hx
            simp only [tgS, if_pos hc3, List.nil_append, List.cons_append, List.head?_cons, Option.some.injEq] at hx
            subst hx
            refine goes_not ?_
            by_cases hb3 : cls b' = 3
            · exact Or.inr (by rw [hb3]; decide)
            · exact Or.inl (by rw [h3'.1 hc3]; exact fun e => hb3 e.symm)
          · rw [tgB_cons] at hx
            simp only [tgS, if_neg hc3, if_neg ha3, List.cons_append, List.nil_append, List.head?_cons, Option.some.injEq] at hx
            subst hx
            exact goes_not (Or.inl (by rw [show cls 32 = 4 by decide]; exact fun e => h4 e.symm))
set_option maxRecDepth 100000 in
set_option maxHeartbeats 8000000 in
theorem law_Tight (l : List UInt8) (v : Value) (w : World) (hv : Sl false byS w 0 w.heap.size l v) (ht : KeysAt w) : Calls Tryd.prog 10 #[v] w (Yes w) := by
  obtain ⟨A, cap, rfl, hlc, hcm⟩ := hv.form
  by_cases hbig : 1048576 < l.length
  · have q0 : decide ((1048576 : Int) < (l.length : Int)) = true := by simp; omega
    go_enter Tryd.func10, Tryd.ntmps10
    go_wp2_with fail
    go_ret
    exact ⟨rfl, Below.refl _ _⟩
  have q0 : decide ((1048576 : Int) < (l.length : Int)) = false := by simp; omega
  have HKA := Lib.hid (fun (w9 : World) (h9 : Below w.heap.size w w9) => ht.below h9 (Nat.le_refl _))
  go_enter Tryd.func10, Tryd.ntmps10
  go_wp2_with fail
  refine (draw_list l _ _ hv).mono ?_
  rintro e w1 ⟨u, lst, rfl, hu, hl20, hsm, b1⟩
  clear ht
  have p1 := hu false
  clear hu
  obtain ⟨A1, c1, hf1, _, _⟩ := p1.form
  subst hf1
  have hbulk : lst.length + sumBy wordN lst ≤ 1048576 := by
    have := bulk_le (l := lst) (c := 1001) fun a ha => (hsm a ha).2
    omega
  have HB := Lib.hid hbulk
  have HSM := Lib.hid hsm
  clear hbulk hsm
  go_wp2_with fail
  refine (impl_JoinWords lst _ _ _ _ (Nat.le_refl _) HB.out p1 (HKA.out _ b1)).mono ?_
  rw [jV_eq]
  rintro e w2 ⟨rfl, b2⟩
  have hb2 := b1.trans (b2.mono b1.size)
  have p1_2 := p1.below b2 (Nat.le_refl _)
  have sz2 := b2.size
  go_wp2_with fail
  refine (spec_JoinWords lst _ _ _ _ sz2 HB.out p1_2).mono ?_
  rw [jV_eq]
  rintro e w3 ⟨rfl, b3⟩
  have hb3 := hb2.trans (b3.mono hb2.size)
  have sz3 := b3.size
  have p1_3 := p1_2.below b3 sz2
  clear p1 p1_2
  obtain ⟨X, hX⟩ : ∃ X, jS lst = X := ⟨_, rfl⟩
  rw [hX]
  have HX := Lib.hid hX
  clear hX
  cases hok : jOk lst
  case false =>
    clear hok
    go_wp2_with fail
    go_ret
    exact ⟨rfl, hb3⟩
  have HO := Lib.hid hok
  have EX : Hid (jT lst = X) := by
    show _ = _
    rw [← HX.out]
    unfold jS
    rw [HO.out]
    rfl
  clear hok
  go_wp2_with fail
  go_loopw [8, 52] (fun c i wr => ∃ (k : Nat) (x : ByteArray), k ≤ lst.length ∧ i = .int .i64 k ∧ c = .string x ∧ Hid (x.data.toList ++ tgB (prevK lst k) (lst.drop k) = tgB none lst) ∧ x.size ≤ k * 1003 ∧ Below w3.heap.size w3 wr) (fun _ i _ => lst.length - (intOf i).toNat)
  case atStart => exact ⟨0, ⟨#[]⟩, by omega, rfl, rfl, (show _ = _ from rfl), by simp [ByteArray.size], Below.refl _ _⟩
  case round =>
    obtain ⟨k, x, hk, rfl, rfl, HE, hx, hb⟩ := hrel
    have hbw := hb3.trans (hb.mono hb3.size)
    have hsz := hb.size
    by_cases hkl : k < lst.length
    · obtain ⟨b, o, kind, text, hA, _, _, HL, g0, g1, c0, c1'⟩ := word_get (p1_3.below hb (by omega)) hkl
      have hkn : (k : Int) < (lst.length : Int) := by omega
      have htx : text.size ≤ 1001 := by
        have := (HSM.out _ (List.getElem_mem hkl)).2
        rw [HL.out] at this
        exact this
      rcases k with _ | j
      · have HP : Hid (tgS (prevK lst 0) kind = []) := rfl
        subst hA
        have e0 : wr.cell? ⟨b, o, none⟩ = some (.int .i64 kind) := by simpa using c0
        have e1 : wr.cell? ⟨b, o + 1, none⟩ = some (.string text) := by simpa using c1'
        clear c0 c1'
        have HE' : Hid ((x ++ text).data.toList ++ tgB (prevK lst (0 + 1)) (lst.drop (0 + 1)) = tgB none lst) := by
          have h1 := HE.out
          rw [drop_cons hkl HL.out, tgB_cons, HP.out] at h1
          show _ = _
          rw [← h1, prevK_succ hkl, HL.out]
          simp
        have sx : (x ++ text).size ≤ (0 + 1) * 1003 := by
          have h1 : (⟨#[32]⟩ : ByteArray).size = 1 := rfl
          simp only [ByteArray.size_append, h1]
          omega
        clear HE HP
        go_wp2_with fail
        go_roundw
        case rel => exact ⟨0 + 1, _, by omega, by go_num, rfl, HE', sx, hb.alloc hb.size _⟩
        case measure => simp [intOf]; omega
      · obtain ⟨b', o', kd', tx', hA', _, _, HL', _, _, d0, d1'⟩ := word_get (p1_3.below hb (by omega)) (show j < lst.length by omega)
        subst hA
        injection hA' with hA'
        injection hA' with e1 e2
        subst e1 e2
        have hbl := World.block_lt_of_cell? wr _ d0
        have d2 : (wr.alloc (.cells #[.int .i64 kind, .string text] 29)).cell? ⟨b, o + j * 2, none⟩ = some (.int .i64 kd') := (World.cell?_of_block (a := ⟨b, o + j * 2, none⟩) (Below.heap_alloc _ _ b hbl)).trans d0
        clear d0 d1'
        have hpk : prevK lst (j + 1) = some kd' := by rw [prevK_succ (show j < lst.length by omega), HL'.out]
        by_cases k3 : kind = 3
        · have HP : Hid (tgS (prevK lst (j + 1)) kind = []) := by
            show _ = _
            rw [hpk]
            simp [tgS, k3]
          have q3 : (kind != 3) = false := by simpa using k3
          clear hpk HL' k3
          have HE' : Hid ((x ++ text).data.toList ++ tgB (prevK lst (j + 1 + 1)) (lst.drop (j + 1 + 1)) = tgB none lst) := by
            have h1 := HE.out
            rw [drop_cons hkl HL.out, tgB_cons, HP.out] at h1
            show _ = _
            rw [← h1, prevK_succ hkl, HL.out]
            simp
          have sx : (x ++ text).size ≤ (j + 1 + 1) * 1003 := by
            have h1 : (⟨#[32]⟩ : ByteArray).size = 1 := rfl
            simp only [ByteArray.size_append, h1]
            omega
          clear HE HP
          go_wp2_with fail
          go_roundw
          case rel => exact ⟨j + 1 + 1, _, by omega, by go_num, rfl, HE', sx, hb.alloc hb.size _⟩
          case measure => simp [intOf]; omega
        · have q3 : (kind != 3) = true := by simpa using k3
          by_cases k4 : kd' = 3
          · have HP : Hid (tgS (prevK lst (j + 1)) kind = []) := by
              show _ = _
              rw [hpk]
              simp [tgS, k4]
            have q4 : (kd' != 3) = false := by simpa using k4
            clear hpk HL' k3 k4
            have HE' : Hid ((x ++ text).data.toList ++ tgB (prevK lst (j + 1 + 1)) (lst.drop (j + 1 + 1)) = tgB none lst) := by
              have h1 := HE.out
              rw [drop_cons hkl HL.out, tgB_cons, HP.out] at h1
              show _ = _
              rw [← h1, prevK_succ hkl, HL.out]
              simp
            have sx : (x ++ text).size ≤ (j + 1 + 1) * 1003 := by
              have h1 : (⟨#[32]⟩ : ByteArray).size = 1 := rfl
              simp only [ByteArray.size_append, h1]
              omega
            clear HE HP
            go_wp2_with fail
            go_roundw
            case rel => exact ⟨j + 1 + 1, _, by omega, by go_num, rfl, HE', sx, hb.alloc hb.size _⟩
            case measure => simp [intOf]; omega
          · have HP : Hid (tgS (prevK lst (j + 1)) kind = [32]) := by
              show _ = _
              rw [hpk]
              simp [tgS, k3, k4]
            have q4 : (kd' != 3) = true := by simpa using k4
            clear hpk HL' k3 k4
            have HE' : Hid ((x ++ ⟨#[32]⟩ ++ text).data.toList ++ tgB (prevK lst (j + 1 + 1)) (lst.drop (j + 1 + 1)) = tgB none lst) := by
              have h1 := HE.out
              rw [drop_cons hkl HL.out, tgB_cons, HP.out] at h1
              show _ = _
              rw [← h1, prevK_succ hkl, HL.out]
              simp
            have sx : (x ++ ⟨#[32]⟩ ++ text).size ≤ (j + 1 + 1) * 1003 := by
              have h1 : (⟨#[32]⟩ : ByteArray).size = 1 := rfl
              simp only [ByteArray.size_append, h1]
              omega
            clear HE HP
            go_wp2_with fail
            go_roundw
            case rel => exact ⟨j + 1 + 1, _, by omega, by go_num, rfl, HE', sx, hb.alloc hb.size _⟩
            case measure => simp [intOf]; omega
    · obtain rfl : k = lst.length := by omega
      have p1_4 := p1_3.below hb (by omega)
      have EB : x.data.toList = tgB none lst := by
        have h1 := HE.out
        rw [List.drop_length] at h1
        simpa [tgB] using h1
      have hall := (jOk_inv HO.out).2.1
      have hx3 : x.size ≤ 3000 := by
        have h1 : ∀ (l : List WordD) (p : Option Int), l.all wv = true → (tgB p l).length ≤ l.length * 5 := by
          intro l
          induction l with
          | nil => intro p _; simp [tgB]
          | cons a r ih =>
            intro p h
            rw [List.all_cons, Bool.and_eq_true] at h
            have i1 := ih (some a.kind) h.2
            have i2 := wv_size h.1
            have i3 : (tgS p a.kind).length ≤ 1 := by
              unfold tgS
              split
              · split
                · simp
                · split <;> simp
              · simp
            have i4 : a.text.data.toList.length = a.text.size := by simp
            rw [tgB_cons, List.length_append, List.length_append, List.length_cons]
            omega
        have h2 := h1 lst none hall
        rw [← EB] at h2
        have h3 : x.data.toList.length = x.size := by simp
        omega
      obtain ⟨d1, d2⟩ := cut_some (s := x) (l := lst) (by rw [EB]; exact tgB_cut lst none hall) hx3 (by omega)
      have hxM : x.size ≤ maxLen := Nat.le_trans hx3 (by decide)
      have EP : Hid (pV x = .tuple #[.string X, .bool true]) := by
        have := pV_of d1 d2 HO.out
        rw [EX.out] at this
        exact this
      have D1 := Lib.hid d1
      have D2 := Lib.hid d2
      clear d1 d2 EB hall HE
      go_wp2_with fail
      refine (impl_CutWords x _ hxM (HKA.out _ hbw)).mono ?_
      rw [show CutP x wr = fun e w' => ∃ v : Value, e = .returned (.tuple #[v, .bool true]) ∧ (∀ m, Sl m (wordS m) w' wr.heap.size w'.heap.size lst v) ∧ Below wr.heap.size wr w' by unfold CutP; rw [D1.out, D2.out]]
      rintro e w6 ⟨v6, rfl, hv6, b6⟩
      have hb6 := hbw.trans (b6.mono hbw.size)
      have p6 := hv6 false
      have sz6 := b6.size
      have p1_6 := p1_4.below b6 (by omega)
      clear hv6 p1_4
      go_wp2_with fail
      refine (impl_PlainText x _ hxM (HKA.out _ hb6)).mono ?_
      rw [EP.out]
      rintro e w7 ⟨rfl, b7⟩
      have hb7 := hb6.trans (b7.mono hb6.size)
      have sz7 := b7.size
      go_wp2_with fail
      refine (ww_ok lst _ _ w7 _ _ _ _ (by omega) (by omega) (p6.below b7 (Nat.le_refl _)) (p1_6.below b7 (by omega))).mono ?_
      rintro e w8 ⟨rfl, b8⟩
      have hb8 := hb7.trans (b8.mono hb7.size)
      go_wp2_with fail
      go_ret
      exact ⟨rfl, hb8⟩

set_option maxRecDepth 100000 in
theorem fnTight_lifted (os : Os) (started : os.Started) (H : Type) (enc : TypeId × Value → H) :
    ReturnsInHanded {} Tryd.checked os 10 .any (fun w args => (Rows.fnTightSpec.pre enc Tryd.prog Tryd.f10 [] false w args ∧ laidMetH Tryd.prog [("math/bits.deBruijn32tab", Rows.laid_math_bits_deBruijn32tab), ("math/bits.deBruijn64tab", Rows.laid_math_bits_deBruijn64tab), ("internal/strconv.uint64pow10", Rows.laid_internal_strconv_uint64pow10), ("strconv.ErrRange", Rows.laid_strconv_ErrRange), ("strconv.ErrSyntax", Rows.laid_strconv_ErrSyntax), ("loop.example/wholeway/impl.keys", Rows.laid_loop_example_wholeway_impl_keys)] w) ∧ sizedMet enc Tryd.prog Tryd.f10 (OpenSpec.ofChange Rows.fnTightSpec) false w args) (Rows.fnTightSpec.post enc Tryd.prog Tryd.f10 false true false false) := by
  refine returnsInHanded_of_change_and (C := Tryd.checked) (X := fun w _ => laidMetH Tryd.prog [("math/bits.deBruijn32tab", Rows.laid_math_bits_deBruijn32tab), ("math/bits.deBruijn64tab", Rows.laid_math_bits_deBruijn64tab), ("internal/strconv.uint64pow10", Rows.laid_internal_strconv_uint64pow10), ("strconv.ErrRange", Rows.laid_strconv_ErrRange), ("strconv.ErrSyntax", Rows.laid_strconv_ErrSyntax), ("loop.example/wholeway/impl.keys", Rows.laid_loop_example_wholeway_impl_keys)] w) (fun _ _ _ hh h => h.of_heap hh) own started (by kernel_rfl) Tryd.func10
    (ChangeSpec.witness_shaped (enc := enc) (C := Tryd.checked) (os := os) (X := fun w _ => laidMetH Tryd.prog [("math/bits.deBruijn32tab", Rows.laid_math_bits_deBruijn32tab), ("math/bits.deBruijn64tab", Rows.laid_math_bits_deBruijn64tab), ("internal/strconv.uint64pow10", Rows.laid_internal_strconv_uint64pow10), ("strconv.ErrRange", Rows.laid_strconv_ErrRange), ("strconv.ErrSyntax", Rows.laid_strconv_ErrSyntax), ("loop.example/wholeway/impl.keys", Rows.laid_loop_example_wholeway_impl_keys)] w) false (World.doorLaid Tryd.prog 400 os) #[.slice none 0 0] 8 rfl (World.shaped_of_RefB (by kernel_rfl) (by kernel_rfl)) (by kernel_rfl) (by kernel_rfl) (by kernel_rfl) (door_metW os _)) ?_
  intro W base args ds gs before hval0 hW _ _ hL _
  have hval : ∀ (j : Nat) t v, Tryd.f10.params[j]? = some t → args[j]? = some v → Value.okWide Tryd.prog W .any base t v := hval0
  obtain ⟨p, q, hA0, hV, hrest⟩ := id hW
  have hA : DataW.TrodAll enc Tryd.prog W 0 (fun _ => true) true Tryd.f10.params.toList args.toList ds p := hA0
  rw [Tryd.params10] at hA hval
  obtain ⟨v0, d0, rfl, rfl, h0⟩ := trodAll_one hA
  obtain ⟨gv0, rfl⟩ := one_vars hV
  obtain ⟨a, len, cap, rfl⟩ := okWide_slice Tryd.underlying22 (hval 0 _ v0 rfl rfl)
  obtain ⟨fuel0, hf0⟩ := h0
  obtain ⟨da0, vv, hv0, ha0⟩ := dec_slice Tryd.underlying22 (by kernel_rfl) (by decide) dec_u8 hf0
  simp only [Value.cells, List.cons.injEq, and_true] at hv0
  subst hv0
  have hcall := law_Tight da0 _ W ha0 (tabs_ofW hL)
  refine hcall.mono fun e W' ⟨he, hb⟩ => ?_
  subst he
  exact ⟨_, rfl, post_true_vars laidO hW (by kernel_rfl) Tryd.underlying4 (by rw [Tryd.params10]; intro t ht; simp only [List.mem_cons, List.not_mem_nil, or_false] at ht; subst ht; exact ⟨by kernel_rfl, of_decide_eq_true (by kernel_rfl)⟩) vars_ok rfl rfl rfl hb⟩

set_option maxRecDepth 100000 in
set_option maxHeartbeats 1000000 in
theorem fnTight_facts : joinedFacts Tryd.prog 10 Tryd.f10 Rows.fnTightSpec Rows.fnTightRow = true := by
  unfold joinedFacts
  exact and_mk (and_mk (and_mk (and_mk (and_mk (and_mk (and_mk (and_mk (and_mk (and_mk (and_mk (and_mk (and_mk (and_mk (and_mk (and_mk (and_mk (and_mk (and_mk (and_mk (and_mk (and_mk (and_mk (and_mk (and_mk (and_mk (and_mk (and_mk (and_mk (and_mk (and_mk (by as_aux_lemma => kernel_rfl) laidO) mapsRowedO) (by as_aux_lemma => kernel_rfl)) (by as_aux_lemma => kernel_rfl)) (by as_aux_lemma => kernel_rfl)) (by as_aux_lemma => kernel_rfl)) (by as_aux_lemma => kernel_rfl)) (by as_aux_lemma => kernel_rfl)) (by as_aux_lemma => kernel_rfl)) (by as_aux_lemma => kernel_rfl)) (by as_aux_lemma => kernel_rfl)) (by as_aux_lemma => kernel_rfl)) (by as_aux_lemma => kernel_rfl)) (by as_aux_lemma => kernel_rfl)) (by as_aux_lemma => kernel_rfl)) (by as_aux_lemma => kernel_rfl)) (by as_aux_lemma => kernel_rfl)) (by as_aux_lemma => kernel_rfl)) (by as_aux_lemma => kernel_rfl)) (by as_aux_lemma => kernel_rfl)) (by as_aux_lemma => kernel_rfl)) (by rw [plainKeysO]; rfl)) (by as_aux_lemma => kernel_rfl)) stopsHeardO) mayEnter) (by rw [liftsFinal]; rfl)) (by rw [makeCut]; rfl)) (by as_aux_lemma => kernel_rfl)) (by as_aux_lemma => kernel_rfl)) (by as_aux_lemma => kernel_rfl)) (by as_aux_lemma => kernel_rfl)

theorem fnTight_said : Rows.FnTightSaid :=
  OpenClaim.holds_of_wide 10 Tryd.f10 rfl rfl rfl rfl rfl rfl rfl ⟨rfl, rfl, rfl, rfl, rfl⟩ rfl rfl rfl rfl rfl (by kernel_rfl) Tryd.func10 fnTight_facts
    (of_decide_eq_true (by kernel_rfl)) (by unfold Func.isWrapper; first | (rw [if_pos (by decide +kernel)]; kernel_rfl) | (rw [if_neg (by decide +kernel)]; exact ⟨rfl, rfl⟩))
    (fun os started H enc _ => fnTight_lifted os started H enc)

/-- no parameter wants a stand-in -/
theorem fnTight_plain (f : FuncId) (fn : Func) (hf : Tryd.pinned.checked.prog.funcNamed "loop.example/wholeway/laws.FnTight" = some f) (hfn : Tryd.pinned.checked.prog.funcs[f]? = some fn) :
    true = Tryd.pinned.checked.prog.looks [] ∧ ∀ (j : Nat) t, fn.params[j]? = some t → Tryd.pinned.checked.prog.wantsStandIn t = false := by
  obtain rfl : f = 10 := Option.some.inj ((show Tryd.prog.funcNamed "loop.example/wholeway/laws.FnTight" = some 10 by kernel_rfl).symm.trans hf) |>.symm
  obtain rfl : fn = Tryd.f10 := (Option.some.inj (Tryd.func10.symm.trans hfn)).symm
  refine ⟨by kernel_rfl, fun j t ht => ?_⟩
  rw [Tryd.params10] at ht
  have hm : t ∈ [22] := by simpa using Array.mem_of_getElem? ht
  have hall : ([22].all fun u => !Tryd.prog.wantsStandIn u) = true := by kernel_rfl
  exact (show Tryd.prog.wantsStandIn t = false by simpa using List.all_eq_true.1 hall t hm)
theorem fnTight_holds : Rows.FnTightCardSaid :=
  Claim7.holds_tied_plain_at .later [] _ _ _ _ fnTight_said (fun _ h => by cases h) (by kernel_rfl) (fun _ h => by cases h) fnTight_row_tie rfl ⟨rfl, rfl⟩ (by kernel_rfl) rfl fnTight_plain (by kernel_rfl)
end Go.Proofs.YtiaioiijdlmilaaDoor
