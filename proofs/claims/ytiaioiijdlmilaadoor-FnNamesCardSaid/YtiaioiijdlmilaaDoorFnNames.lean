/-
  The law FnNames: it returns true for all arguments. Condition: the variables that its row lists read as the table lays them.
-/
import Derived.Test.YtiaioiijdlmilaaDoorLaws2
import Derived.Test.YtiaioiijdlmilaaDoorDraw3
import Derived.Test.YtiaioiijdlmilaaDoorLawL
import Derived.Test.YtiaioiijdlmilaaDoorKeys
namespace Go.Proofs.YtiaioiijdlmilaaDoor
open Go.RowKit Go.ChangeShapes Go.WideShapes Go.Deep
set_option linter.unusedVariables false
set_option linter.unusedSimpArgs false
theorem keys_no : ∀ a ∈ keysL, isName a = false ∧ wvB 4 a = true ∧ a.size ≤ 4 := by decide +kernel
theorem str_neN {a b : ByteArray} (h : ¬ a = b) : (a.toList == b.toList) = false := by
  rw [ba_toList, ba_toList]
  exact beq_eq_false_iff_ne.2 fun e => h (ba_ext e)
theorem one_word {k : Int} {t : ByteArray} {v : Value} {w : World} {lo B : Nat} (h : Sl false (wordS false) w lo B [⟨k, t⟩] v) : ∃ b o c, v = .slice (some ⟨b, o, none⟩) 1 c ∧ w.cell? ⟨b, o, none⟩ = some (.int .i64 k) ∧ w.cell? ⟨b, o + 1, none⟩ = some (.string t) ∧ c ≤ 9223372036854775807 := by
  obtain ⟨A, c, hf, _, hc⟩ := h.form
  subst hf
  obtain ⟨b, o, kd, tx, hA, _, _, HL, _, _, c0, c1⟩ := word_get h (show 0 < 1 by omega)
  subst hA
  have HL2 := HL.out
  injection HL2 with e1 e2
  subst e1 e2
  exact ⟨b, o, c, rfl, by simpa using c0, by simpa using c1, hc⟩
set_option maxRecDepth 100000 in
set_option maxHeartbeats 8000000 in
theorem law_Names (l : List UInt8) (v : Value) (w : World) (hv : Sl false byS w 0 w.heap.size l v) (ht : KeysAt w) : Calls Tryd.prog 3 #[v] w (Yes w) := by
  obtain ⟨A, cap, rfl, hlc, hcm⟩ := hv.form
  by_cases hbig : 1048576 < l.length
  · have q0 : decide ((1048576 : Int) < (l.length : Int)) = true := by simp; omega
    go_enter Tryd.func3, Tryd.ntmps3
    go_wp2_with fail
    go_ret
    exact ⟨rfl, Below.refl _ _⟩
  have q0 : decide ((1048576 : Int) < (l.length : Int)) = false := by simp; omega
  go_enter Tryd.func3, Tryd.ntmps3
  go_wp2_with fail
  refine (draw_name l _ _ hv).mono ?_
  rintro e w1 ⟨s, hs, rfl, b1⟩
  have hsM : s.size ≤ maxLen := Nat.le_trans hs (by decide)
  have HKA := Lib.hid (fun (w9 : World) (h9 : Below w.heap.size w w9) => ht.below h9 (Nat.le_refl _))
  clear ht
  obtain ⟨nm, hnm⟩ : ∃ nm, isName s = nm := ⟨_, rfl⟩
  have HN := Lib.hid hnm
  go_wp2_with fail
  refine (impl_IsName s _ hsM (HKA.out _ b1)).mono ?_
  rw [HN.out]
  rintro e w2 ⟨rfl, b2⟩
  have hb2 := b1.trans (b2.mono b1.size)
  clear hnm
  go_wp2_with fail
  refine (spec_IsName s _ hsM).mono ?_
  rw [HN.out]
  rintro e w3 ⟨rfl, b3⟩
  have hb3 := hb2.trans (b3.mono hb2.size)
  go_wp2_with fail
  refine (impl_CutWords s _ hsM (HKA.out _ hb3)).mono ?_
  rintro e w4 ⟨v4, rfl, hv4, b4⟩
  have hb4 := hb3.trans (b4.mono hb3.size)
  have p4 := hv4 false
  clear hv4
  cases nm
  case true =>
    obtain ⟨k1, k2⟩ := names_yes HN.out
    rw [k2] at p4
    rw [k1]
    obtain ⟨b, o, c, rfl, d0, d1, hc⟩ := one_word p4
    clear p4 k1 k2
    go_wp2_with fail
    refine (impl_KeyWords _ (HKA.out _ hb4)).mono ?_
    rintro e w5 ⟨v5, rfl, hv5, b5⟩
    have hb5 := hb4.trans (b5.mono hb4.size)
    have p5 := hv5 false
    clear hv5
    obtain ⟨A5, c5, hf5, _, _⟩ := p5.form
    subst hf5
    go_wp2_with fail
    refine (spec_KeyWords _).mono ?_
    rintro e w6 ⟨gk, rfl, p6, b6⟩
    have hb6 := hb5.trans (b6.mono hb5.size)
    have p5_6 := p5.below b6 (Nat.le_refl _)
    have sz6 := b6.size
    clear p5
    have e9 : keysL.length = 9 := rfl
    go_wp2_with fail
    go_loopw [46] (fun i wr => ∃ k : Nat, k ≤ 9 ∧ i = .int .i64 k ∧ Below w6.heap.size w6 wr) (fun i _ => 9 - (intOf i).toNat)
    case atStart => exact ⟨0, by omega, rfl, Below.refl _ _⟩
    case round =>
      obtain ⟨k, hk, rfl, hb⟩ := hrel
      have hbw := hb6.trans (hb.mono hb6.size)
      have hsz := hb.size
      by_cases hkl : k < 9
      · obtain ⟨b5, o5, a, hA, _, _, HL, ha, c0⟩ := str_get (p5_6.below hb sz6) (show k < keysL.length from hkl)
        obtain ⟨b6, o6, a', hA', _, _, HL', _, d0⟩ := str_get (p6.below hb (Nat.le_refl _)) (show k < keysL.length from hkl)
        injection hA' with hA'
        injection hA' with e1 e2
        subst e1 e2 hA
        obtain rfl : a' = a := HL'.out.symm.trans HL.out
        have d1 : wr.cell? ⟨gk, k, none⟩ = some (.string a') := by simpa using d0
        obtain ⟨n1, n2, n3⟩ := keys_no a' (by rw [← HL.out]; exact List.getElem_mem _)
        have N1 := Lib.hid n1
        have N2 := Lib.hid n2
        have haM : a'.size ≤ maxLen := Nat.le_trans n3 (by decide)
        have hkn : (k : Int) < 9 := by omega
        have hk0 : (0 : Int) ≤ (k : Int) := by omega
        clear n1 n2 HL HL' d0
        go_wp2_with fail
        refine (impl_IsName a' _ haM (HKA.out _ hbw)).mono ?_
        rw [N1.out]
        rintro e w7 ⟨rfl, b7⟩
        have hb7 := hb.trans (b7.mono hb.size)
        have hbw7 := hbw.trans (b7.mono hbw.size)
        go_wp2_with fail
        refine (impl_WordValid 4 a' _ haM (HKA.out _ hbw7)).mono ?_
        rw [N2.out]
        rintro e w8 ⟨rfl, b8⟩
        have hb8 := hb7.trans (b8.mono hb7.size)
        clear c0 d1
        go_wp2_with fail
        go_roundw
        case rel => exact ⟨k + 1, by omega, by go_num, hb8⟩
        case measure => simp [intOf]; omega
      · go_wp2_with fail
        go_ret
        exact ⟨rfl, hbw⟩
  case false =>
    cases hok : cutOk s
    case false =>
      obtain ⟨A4, c4, hf4, _, _⟩ := p4.form
      subst hf4
      clear hok
      go_wp2_with fail
      refine (impl_KeyWords _ (HKA.out _ hb4)).mono ?_
      rintro e w5 ⟨v5, rfl, hv5, b5⟩
      have hb5 := hb4.trans (b5.mono hb4.size)
      have p5 := hv5 false
      clear hv5
      obtain ⟨A5, c5, hf5, _, _⟩ := p5.form
      subst hf5
      go_wp2_with fail
      refine (spec_KeyWords _).mono ?_
      rintro e w6 ⟨gk, rfl, p6, b6⟩
      have hb6 := hb5.trans (b6.mono hb5.size)
      have p5_6 := p5.below b6 (Nat.le_refl _)
      have sz6 := b6.size
      clear p5
      have e9 : keysL.length = 9 := rfl
      go_wp2_with fail
      go_loopw [46] (fun i wr => ∃ k : Nat, k ≤ 9 ∧ i = .int .i64 k ∧ Below w6.heap.size w6 wr) (fun i _ => 9 - (intOf i).toNat)
      case atStart => exact ⟨0, by omega, rfl, Below.refl _ _⟩
      case round =>
        obtain ⟨k, hk, rfl, hb⟩ := hrel
        have hbw := hb6.trans (hb.mono hb6.size)
        have hsz := hb.size
        by_cases hkl : k < 9
        · obtain ⟨b5, o5, a, hA, _, _, HL, ha, c0⟩ := str_get (p5_6.below hb sz6) (show k < keysL.length from hkl)
          obtain ⟨b6, o6, a', hA', _, _, HL', _, d0⟩ := str_get (p6.below hb (Nat.le_refl _)) (show k < keysL.length from hkl)
          injection hA' with hA'
          injection hA' with e1 e2
          subst e1 e2 hA
          obtain rfl : a' = a := HL'.out.symm.trans HL.out
          have d1 : wr.cell? ⟨gk, k, none⟩ = some (.string a') := by simpa using d0
          obtain ⟨n1, n2, n3⟩ := keys_no a' (by rw [← HL.out]; exact List.getElem_mem _)
          have N1 := Lib.hid n1
          have N2 := Lib.hid n2
          have haM : a'.size ≤ maxLen := Nat.le_trans n3 (by decide)
          have hkn : (k : Int) < 9 := by omega
          have hk0 : (0 : Int) ≤ (k : Int) := by omega
          clear n1 n2 HL HL' d0
          go_wp2_with fail
          refine (impl_IsName a' _ haM (HKA.out _ hbw)).mono ?_
          rw [N1.out]
          rintro e w7 ⟨rfl, b7⟩
          have hb7 := hb.trans (b7.mono hb.size)
          have hbw7 := hbw.trans (b7.mono hbw.size)
          go_wp2_with fail
          refine (impl_WordValid 4 a' _ haM (HKA.out _ hbw7)).mono ?_
          rw [N2.out]
          rintro e w8 ⟨rfl, b8⟩
          have hb8 := hb7.trans (b8.mono hb7.size)
          clear c0 d1
          go_wp2_with fail
          go_roundw
          case rel => exact ⟨k + 1, by omega, by go_num, hb8⟩
          case measure => simp [intOf]; omega
        · go_wp2_with fail
          go_ret
          exact ⟨rfl, hbw⟩
    by_cases hl1 : (cutLst s).length = 1
    case neg =>
      have q1 : (((cutLst s).length : Int) == 1) = false := beq_eq_false_iff_ne.2 (by omega)
      obtain ⟨A4, c4, hf4, _, _⟩ := p4.form
      subst hf4
      clear hl1 hok
      go_wp2_with fail
      refine (impl_KeyWords _ (HKA.out _ hb4)).mono ?_
      rintro e w5 ⟨v5, rfl, hv5, b5⟩
      have hb5 := hb4.trans (b5.mono hb4.size)
      have p5 := hv5 false
      clear hv5
      obtain ⟨A5, c5, hf5, _, _⟩ := p5.form
      subst hf5
      go_wp2_with fail
      refine (spec_KeyWords _).mono ?_
      rintro e w6 ⟨gk, rfl, p6, b6⟩
      have hb6 := hb5.trans (b6.mono hb5.size)
      have p5_6 := p5.below b6 (Nat.le_refl _)
      have sz6 := b6.size
      clear p5
      have e9 : keysL.length = 9 := rfl
      go_wp2_with fail
      go_loopw [46] (fun i wr => ∃ k : Nat, k ≤ 9 ∧ i = .int .i64 k ∧ Below w6.heap.size w6 wr) (fun i _ => 9 - (intOf i).toNat)
      case atStart => exact ⟨0, by omega, rfl, Below.refl _ _⟩
      case round =>
        obtain ⟨k, hk, rfl, hb⟩ := hrel
        have hbw := hb6.trans (hb.mono hb6.size)
        have hsz := hb.size
        by_cases hkl : k < 9
        · obtain ⟨b5, o5, a, hA, _, _, HL, ha, c0⟩ := str_get (p5_6.below hb sz6) (show k < keysL.length from hkl)
          obtain ⟨b6, o6, a', hA', _, _, HL', _, d0⟩ := str_get (p6.below hb (Nat.le_refl _)) (show k < keysL.length from hkl)
          injection hA' with hA'
          injection hA' with e1 e2
          subst e1 e2 hA
          obtain rfl : a' = a := HL'.out.symm.trans HL.out
          have d1 : wr.cell? ⟨gk, k, none⟩ = some (.string a') := by simpa using d0
          obtain ⟨n1, n2, n3⟩ := keys_no a' (by rw [← HL.out]; exact List.getElem_mem _)
          have N1 := Lib.hid n1
          have N2 := Lib.hid n2
          have haM : a'.size ≤ maxLen := Nat.le_trans n3 (by decide)
          have hkn : (k : Int) < 9 := by omega
          have hk0 : (0 : Int) ≤ (k : Int) := by omega
          clear n1 n2 HL HL' d0
          go_wp2_with fail
          refine (impl_IsName a' _ haM (HKA.out _ hbw)).mono ?_
          rw [N1.out]
          rintro e w7 ⟨rfl, b7⟩
          have hb7 := hb.trans (b7.mono hb.size)
          have hbw7 := hbw.trans (b7.mono hbw.size)
          go_wp2_with fail
          refine (impl_WordValid 4 a' _ haM (HKA.out _ hbw7)).mono ?_
          rw [N2.out]
          rintro e w8 ⟨rfl, b8⟩
          have hb8 := hb7.trans (b8.mono hb7.size)
          clear c0 d1
          go_wp2_with fail
          go_roundw
          case rel => exact ⟨k + 1, by omega, by go_num, hb8⟩
          case measure => simp [intOf]; omega
        · go_wp2_with fail
          go_ret
          exact ⟨rfl, hbw⟩
    obtain ⟨⟨k, t⟩, hkt⟩ : ∃ a, cutLst s = [a] := by
      match hm : cutLst s, hl1 with
      | [a], _ => exact ⟨a, rfl⟩
    rw [hkt] at p4
    obtain ⟨b, o, c, rfl, d0, d1, hc⟩ := one_word p4
    have hne : ¬ (k = 1 ∧ t = s) := by
      rintro ⟨rfl, rfl⟩
      rcases names_no HN.out with h | h
      · rw [h] at hok
        cases hok
      · exact h hkt
    clear p4 hkt hl1 hok
    by_cases hk1 : k = 1
    · subst hk1
      have hts : (t.toList == s.toList) = false := str_neN fun e => hne ⟨rfl, e⟩
      clear hne
      go_wp2_with fail
      refine (impl_KeyWords _ (HKA.out _ hb4)).mono ?_
      rintro e w5 ⟨v5, rfl, hv5, b5⟩
      have hb5 := hb4.trans (b5.mono hb4.size)
      have p5 := hv5 false
      clear hv5
      obtain ⟨A5, c5, hf5, _, _⟩ := p5.form
      subst hf5
      go_wp2_with fail
      refine (spec_KeyWords _).mono ?_
      rintro e w6 ⟨gk, rfl, p6, b6⟩
      have hb6 := hb5.trans (b6.mono hb5.size)
      have p5_6 := p5.below b6 (Nat.le_refl _)
      have sz6 := b6.size
      clear p5
      have e9 : keysL.length = 9 := rfl
      go_wp2_with fail
      go_loopw [46] (fun i wr => ∃ k : Nat, k ≤ 9 ∧ i = .int .i64 k ∧ Below w6.heap.size w6 wr) (fun i _ => 9 - (intOf i).toNat)
      case atStart => exact ⟨0, by omega, rfl, Below.refl _ _⟩
      case round =>
        obtain ⟨k, hk, rfl, hb⟩ := hrel
        have hbw := hb6.trans (hb.mono hb6.size)
        have hsz := hb.size
        by_cases hkl : k < 9
        · obtain ⟨b5, o5, a, hA, _, _, HL, ha, c0⟩ := str_get (p5_6.below hb sz6) (show k < keysL.length from hkl)
          obtain ⟨b6, o6, a', hA', _, _, HL', _, d0⟩ := str_get (p6.below hb (Nat.le_refl _)) (show k < keysL.length from hkl)
          injection hA' with hA'
          injection hA' with e1 e2
          subst e1 e2 hA
          obtain rfl : a' = a := HL'.out.symm.trans HL.out
          have d1 : wr.cell? ⟨gk, k, none⟩ = some (.string a') := by simpa using d0
          obtain ⟨n1, n2, n3⟩ := keys_no a' (by rw [← HL.out]; exact List.getElem_mem _)
          have N1 := Lib.hid n1
          have N2 := Lib.hid n2
          have haM : a'.size ≤ maxLen := Nat.le_trans n3 (by decide)
          have hkn : (k : Int) < 9 := by omega
          have hk0 : (0 : Int) ≤ (k : Int) := by omega
          clear n1 n2 HL HL' d0
          go_wp2_with fail
          refine (impl_IsName a' _ haM (HKA.out _ hbw)).mono ?_
          rw [N1.out]
          rintro e w7 ⟨rfl, b7⟩
          have hb7 := hb.trans (b7.mono hb.size)
          have hbw7 := hbw.trans (b7.mono hbw.size)
          go_wp2_with fail
          refine (impl_WordValid 4 a' _ haM (HKA.out _ hbw7)).mono ?_
          rw [N2.out]
          rintro e w8 ⟨rfl, b8⟩
          have hb8 := hb7.trans (b8.mono hb7.size)
          clear c0 d1
          go_wp2_with fail
          go_roundw
          case rel => exact ⟨k + 1, by omega, by go_num, hb8⟩
          case measure => simp [intOf]; omega
        · go_wp2_with fail
          go_ret
          exact ⟨rfl, hbw⟩
    · have hks : (k == 1) = false := by simpa using hk1
      clear hne hk1
      go_wp2_with fail
      refine (impl_KeyWords _ (HKA.out _ hb4)).mono ?_
      rintro e w5 ⟨v5, rfl, hv5, b5⟩
      have hb5 := hb4.trans (b5.mono hb4.size)
      have p5 := hv5 false
      clear hv5
      obtain ⟨A5, c5, hf5, _, _⟩ := p5.form
      subst hf5
      go_wp2_with fail
      refine (spec_KeyWords _).mono ?_
      rintro e w6 ⟨gk, rfl, p6, b6⟩
      have hb6 := hb5.trans (b6.mono hb5.size)
      have p5_6 := p5.below b6 (Nat.le_refl _)
      have sz6 := b6.size
      clear p5
      have e9 : keysL.length = 9 := rfl
      go_wp2_with fail
      go_loopw [46] (fun i wr => ∃ k : Nat, k ≤ 9 ∧ i = .int .i64 k ∧ Below w6.heap.size w6 wr) (fun i _ => 9 - (intOf i).toNat)
      case atStart => exact ⟨0, by omega, rfl, Below.refl _ _⟩
      case round =>
        obtain ⟨k, hk, rfl, hb⟩ := hrel
        have hbw := hb6.trans (hb.mono hb6.size)
        have hsz := hb.size
        by_cases hkl : k < 9
        · obtain ⟨b5, o5, a, hA, _, _, HL, ha, c0⟩ := str_get (p5_6.below hb sz6) (show k < keysL.length from hkl)
          obtain ⟨b6, o6, a', hA', _, _, HL', _, d0⟩ := str_get (p6.below hb (Nat.le_refl _)) (show k < keysL.length from hkl)
          injection hA' with hA'
          injection hA' with e1 e2
          subst e1 e2 hA
          obtain rfl : a' = a := HL'.out.symm.trans HL.out
          have d1 : wr.cell? ⟨gk, k, none⟩ = some (.string a') := by simpa using d0
          obtain ⟨n1, n2, n3⟩ := keys_no a' (by rw [← HL.out]; exact List.getElem_mem _)
          have N1 := Lib.hid n1
          have N2 := Lib.hid n2
          have haM : a'.size ≤ maxLen := Nat.le_trans n3 (by decide)
          have hkn : (k : Int) < 9 := by omega
          have hk0 : (0 : Int) ≤ (k : Int) := by omega
          clear n1 n2 HL HL' d0
          go_wp2_with fail
          refine (impl_IsName a' _ haM (HKA.out _ hbw)).mono ?_
          rw [N1.out]
          rintro e w7 ⟨rfl, b7⟩
          have hb7 := hb.trans (b7.mono hb.size)
          have hbw7 := hbw.trans (b7.mono hbw.size)
          go_wp2_with fail
          refine (impl_WordValid 4 a' _ haM (HKA.out _ hbw7)).mono ?_
          rw [N2.out]
          rintro e w8 ⟨rfl, b8⟩
          have hb8 := hb7.trans (b8.mono hb7.size)
          clear c0 d1
          go_wp2_with fail
          go_roundw
          case rel => exact ⟨k + 1, by omega, by go_num, hb8⟩
          case measure => simp [intOf]; omega
        · go_wp2_with fail
          go_ret
          exact ⟨rfl, hbw⟩

set_option maxRecDepth 100000 in
theorem fnNames_lifted (os : Os) (started : os.Started) (H : Type) (enc : TypeId × Value → H) :
    ReturnsInHanded {} Tryd.checked os 3 .any (fun w args => (Rows.fnNamesSpec.pre enc Tryd.prog Tryd.f3 [] false w args ∧ laidMetH Tryd.prog [("math/bits.deBruijn32tab", Rows.laid_math_bits_deBruijn32tab), ("math/bits.deBruijn64tab", Rows.laid_math_bits_deBruijn64tab), ("internal/strconv.uint64pow10", Rows.laid_internal_strconv_uint64pow10), ("strconv.ErrRange", Rows.laid_strconv_ErrRange), ("strconv.ErrSyntax", Rows.laid_strconv_ErrSyntax), ("loop.example/wholeway/impl.keys", Rows.laid_loop_example_wholeway_impl_keys)] w) ∧ sizedMet enc Tryd.prog Tryd.f3 (OpenSpec.ofChange Rows.fnNamesSpec) false w args) (Rows.fnNamesSpec.post enc Tryd.prog Tryd.f3 false true false false) := by
  refine returnsInHanded_of_change_and (C := Tryd.checked) (X := fun w _ => laidMetH Tryd.prog [("math/bits.deBruijn32tab", Rows.laid_math_bits_deBruijn32tab), ("math/bits.deBruijn64tab", Rows.laid_math_bits_deBruijn64tab), ("internal/strconv.uint64pow10", Rows.laid_internal_strconv_uint64pow10), ("strconv.ErrRange", Rows.laid_strconv_ErrRange), ("strconv.ErrSyntax", Rows.laid_strconv_ErrSyntax), ("loop.example/wholeway/impl.keys", Rows.laid_loop_example_wholeway_impl_keys)] w) (fun _ _ _ hh h => h.of_heap hh) own started (by kernel_rfl) Tryd.func3
    (ChangeSpec.witness_shaped (enc := enc) (C := Tryd.checked) (os := os) (X := fun w _ => laidMetH Tryd.prog [("math/bits.deBruijn32tab", Rows.laid_math_bits_deBruijn32tab), ("math/bits.deBruijn64tab", Rows.laid_math_bits_deBruijn64tab), ("internal/strconv.uint64pow10", Rows.laid_internal_strconv_uint64pow10), ("strconv.ErrRange", Rows.laid_strconv_ErrRange), ("strconv.ErrSyntax", Rows.laid_strconv_ErrSyntax), ("loop.example/wholeway/impl.keys", Rows.laid_loop_example_wholeway_impl_keys)] w) false (World.doorLaid Tryd.prog 400 os) #[.slice none 0 0] 8 rfl (World.shaped_of_RefB (by kernel_rfl) (by kernel_rfl)) (by kernel_rfl) (by kernel_rfl) (by kernel_rfl) (door_metW os _)) ?_
  intro W base args ds gs before hval0 hW _ _ hL _
  have hval : ∀ (j : Nat) t v, Tryd.f3.params[j]? = some t → args[j]? = some v → Value.okWide Tryd.prog W .any base t v := hval0
  obtain ⟨p, q, hA0, hV, hrest⟩ := id hW
  have hA : DataW.TrodAll enc Tryd.prog W 0 (fun _ => true) true Tryd.f3.params.toList args.toList ds p := hA0
  rw [Tryd.params3] at hA hval
  obtain ⟨v0, d0, rfl, rfl, h0⟩ := trodAll_one hA
  obtain ⟨gv0, rfl⟩ := one_vars hV
  obtain ⟨a, len, cap, rfl⟩ := okWide_slice Tryd.underlying22 (hval 0 _ v0 rfl rfl)
  obtain ⟨fuel0, hf0⟩ := h0
  obtain ⟨da0, vv, hv0, ha0⟩ := dec_slice Tryd.underlying22 (by kernel_rfl) (by decide) dec_u8 hf0
  simp only [Value.cells, List.cons.injEq, and_true] at hv0
  subst hv0
  have hcall := law_Names da0 _ W ha0 (tabs_ofW hL)
  refine hcall.mono fun e W' ⟨he, hb⟩ => ?_
  subst he
  exact ⟨_, rfl, post_true_vars laidO hW (by kernel_rfl) Tryd.underlying4 (by rw [Tryd.params3]; intro t ht; simp only [List.mem_cons, List.not_mem_nil, or_false] at ht; subst ht; exact ⟨by kernel_rfl, of_decide_eq_true (by kernel_rfl)⟩) vars_ok rfl rfl rfl hb⟩

set_option maxRecDepth 100000 in
set_option maxHeartbeats 1000000 in
theorem fnNames_facts : joinedFacts Tryd.prog 3 Tryd.f3 Rows.fnNamesSpec Rows.fnNamesRow = true := by
  unfold joinedFacts
  exact and_mk (and_mk (and_mk (and_mk (and_mk (and_mk (and_mk (and_mk (and_mk (and_mk (and_mk (and_mk (and_mk (and_mk (and_mk (and_mk (and_mk (and_mk (and_mk (and_mk (and_mk (and_mk (and_mk (and_mk (and_mk (and_mk (and_mk (and_mk (and_mk (and_mk (and_mk (by as_aux_lemma => kernel_rfl) laidO) mapsRowedO) (by as_aux_lemma => kernel_rfl)) (by as_aux_lemma => kernel_rfl)) (by as_aux_lemma => kernel_rfl)) (by as_aux_lemma => kernel_rfl)) (by as_aux_lemma => kernel_rfl)) (by as_aux_lemma => kernel_rfl)) (by as_aux_lemma => kernel_rfl)) (by as_aux_lemma => kernel_rfl)) (by as_aux_lemma => kernel_rfl)) (by as_aux_lemma => kernel_rfl)) (by as_aux_lemma => kernel_rfl)) (by as_aux_lemma => kernel_rfl)) (by as_aux_lemma => kernel_rfl)) (by as_aux_lemma => kernel_rfl)) (by as_aux_lemma => kernel_rfl)) (by as_aux_lemma => kernel_rfl)) (by as_aux_lemma => kernel_rfl)) (by as_aux_lemma => kernel_rfl)) (by as_aux_lemma => kernel_rfl)) (by rw [plainKeysO]; rfl)) (by as_aux_lemma => kernel_rfl)) stopsHeardO) mayEnter) (by rw [liftsFinal]; rfl)) (by rw [makeCut]; rfl)) (by as_aux_lemma => kernel_rfl)) (by as_aux_lemma => kernel_rfl)) (by as_aux_lemma => kernel_rfl)) (by as_aux_lemma => kernel_rfl)

theorem fnNames_said : Rows.FnNamesSaid :=
  OpenClaim.holds_of_wide 3 Tryd.f3 rfl rfl rfl rfl rfl rfl rfl ⟨rfl, rfl, rfl, rfl, rfl⟩ rfl rfl rfl rfl rfl (by kernel_rfl) Tryd.func3 fnNames_facts
    (of_decide_eq_true (by kernel_rfl)) (by unfold Func.isWrapper; first | (rw [if_pos (by decide +kernel)]; kernel_rfl) | (rw [if_neg (by decide +kernel)]; exact ⟨rfl, rfl⟩))
    (fun os started H enc _ => fnNames_lifted os started H enc)

/-- no parameter wants a stand-in -/
theorem fnNames_plain (f : FuncId) (fn : Func) (hf : Tryd.pinned.checked.prog.funcNamed "loop.example/wholeway/laws.FnNames" = some f) (hfn : Tryd.pinned.checked.prog.funcs[f]? = some fn) :
    true = Tryd.pinned.checked.prog.looks [] ∧ ∀ (j : Nat) t, fn.params[j]? = some t → Tryd.pinned.checked.prog.wantsStandIn t = false := by
  obtain rfl : f = 3 := Option.some.inj ((show Tryd.prog.funcNamed "loop.example/wholeway/laws.FnNames" = some 3 by kernel_rfl).symm.trans hf) |>.symm
  obtain rfl : fn = Tryd.f3 := (Option.some.inj (Tryd.func3.symm.trans hfn)).symm
  refine ⟨by kernel_rfl, fun j t ht => ?_⟩
  rw [Tryd.params3] at ht
  have hm : t ∈ [22] := by simpa using Array.mem_of_getElem? ht
  have hall : ([22].all fun u => !Tryd.prog.wantsStandIn u) = true := by kernel_rfl
  exact (show Tryd.prog.wantsStandIn t = false by simpa using List.all_eq_true.1 hall t hm)
theorem fnNames_holds : Rows.FnNamesCardSaid :=
  Claim7.holds_tied_plain_at .later [] _ _ _ _ fnNames_said (fun _ h => by cases h) (by kernel_rfl) (fun _ h => by cases h) fnNames_row_tie rfl ⟨rfl, rfl⟩ (by kernel_rfl) rfl fnNames_plain (by kernel_rfl)
end Go.Proofs.YtiaioiijdlmilaaDoor
