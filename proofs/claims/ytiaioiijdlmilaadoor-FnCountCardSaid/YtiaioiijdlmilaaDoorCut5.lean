/-
  Words cut from a text, by the program. Conditions: the text's length is a Go length; the table of keys lies.
-/
import Derived.Test.YtiaioiijdlmilaaDoorCut4
import Derived.Test.YtiaioiijdlmilaaDoorCut3
namespace Go.Proofs.YtiaioiijdlmilaaDoor
open Go.RowKit Go.ChangeShapes Go.WideShapes Go.Deep
set_option linter.unusedSimpArgs false
set_option linter.unusedVariables false
theorem impl_never (b : UInt8) (w : World) : Calls Tryd.prog 46 #[.int .u8 (b.toNat : Int)] w (RetW (.bool false) w) := by
  go_enter Tryd.func46, Tryd.ntmps46
  go_wp2_with fail
  go_ret
  exact RetW.mk rfl rfl
theorem impl_wordOf_at (s : ByteArray) (b : UInt8) (k n : Nat) (w : World) (hs : s.size ≤ maxLen) (hk : k < n) (hn : n ≤ s.size) (hb : s[k] = b) (ht : KeysAt w) : Calls Tryd.prog 49 #[.string (s.extract k n)] w (RetV (.agg #[.int .i64 (kindI b (s.extract k n)), .string (s.extract k n)]) w) := by
  have hp : 0 < (s.extract k n).size := by simp; omega
  have h := impl_wordOf (s.extract k n) w (by simp; omega) hp ht
  have e : (s.extract k n)[0] = b := by
    have hks : k < s.data.size := Nat.lt_of_lt_of_le hk hn
    rw [← hb]
    show (s.extract k n).data[0]'hp = s.data[k]'hks
    simp [ByteArray.data_extract]
  rw [e] at h
  exact h
theorem extract_one {s : ByteArray} {k : Nat} (hk : k < s.size) : (s.extract k (k + 1)).data.toList = [s[k]] := by
  have h : k < s.data.toList.length := by simpa using hk
  have e : s.data.toList.drop k = s[k] :: s.data.toList.drop (k + 1) := List.drop_eq_getElem_cons h
  rw [ByteArray.data_extract, Array.toList_extract, List.extract_eq_take_drop, e]
  simp
theorem extract_head {s : ByteArray} {k n : Nat} (hk : k < s.size) (hn : k < n) : (s.extract k n).data.toList.head? = some s[k] := by
  have h : k < s.data.toList.length := by simpa using hk
  have e : s.data.toList.drop k = s[k] :: s.data.toList.drop (k + 1) := List.drop_eq_getElem_cons h
  rw [ByteArray.data_extract, Array.toList_extract, List.extract_eq_take_drop, e]
  obtain ⟨m, hm⟩ : ∃ m, n - k = m + 1 := ⟨n - k - 1, by omega⟩
  rw [hm]
  rfl
/-- a byte that is of no class stands alone, for the program -/
theorem zero_run {s : ByteArray} {b : UInt8} {i : Nat} (h0 : cls b = 0) : runF (pI b) s i = i := by
  refine runF_stop fun x => ?_
  have hl : low b = false := by
    cases h : low b with
    | false => rfl
    | true => rw [cls_low h] at h0; cases h0
  have hd : isDig b = false := by
    cases h : isDig b with
    | false => rfl
    | true => rw [cls_dig h] at h0; cases h0
  unfold pI
  rw [hl, hd]
  rfl
theorem runF_congr {p q : UInt8 → Bool} (h : ∀ x, p x = q x) (s : ByteArray) (i : Nat) : runF p s i = runF q s i := by
  rw [show p = q from funext h]
theorem cut_bad {s : ByteArray} {b : UInt8} {k n f : Nat} (hk : k < s.size) (hb : s[k] = b) (h4 : cls b ≠ 4) (hE : runF (pI b) s (k + 1) = n) (hv : wvB (kindI b (s.extract k n)) (s.extract k n) = false) : cutF s (f + 1) k = none := by
  subst hb
  by_cases h0 : cls s[k] = 0
  · exact cutF_zero hk h0
  · rw [runF_congr (pI_goes h0 h4)] at hE
    subst hE
    rw [kind_same (extract_head hk (Nat.lt_of_lt_of_le (Nat.lt_succ_self k) (runF_ge _ _ _))) h0 h4] at hv
    exact cutF_bad hk h4 hv
theorem cut_word {s : ByteArray} {b : UInt8} {k n f : Nat} (hk : k < s.size) (hb : s[k] = b) (h4 : cls b ≠ 4) (hE : runF (pI b) s (k + 1) = n) (hv : wvB (kindI b (s.extract k n)) (s.extract k n) = true) : cutF s (f + 1) k = (cutF s f n).map (⟨kindI b (s.extract k n), s.extract k n⟩ :: ·) ∧ I64 (kindI b (s.extract k n)) := by
  subst hb
  have h0 : cls s[k] ≠ 0 := by
    intro h0
    rw [zero_run h0] at hE
    subst hE
    rw [zero_bad h0 (extract_one hk)] at hv
    cases hv
  rw [runF_congr (pI_goes h0 h4)] at hE
  subst hE
  have e := kind_same (extract_head (n := runF (goes s[k]) s (k + 1)) hk (Nat.lt_of_lt_of_le (Nat.lt_succ_self k) (runF_ge _ _ _))) h0 h4
  rw [e] at hv
  rw [e]
  exact ⟨cutF_word hk h4 h0 hv, kindS_I64 _ _⟩
theorem cutF_append_many {s : ByteArray} {l : List WordD} {a : WordD} {f n : Nat} (h : cutR s = (cutF s f n).map ((l ++ [a]) ++ ·)) (hl : l.length = 600) : cutOk s = false := by
  cases hc : cutF s f n with
  | none => exact cutOk_none (by rw [h, hc]; rfl)
  | some r => exact cutOk_many (l := (l ++ [a]) ++ r) (by rw [h, hc]; rfl) (by simp; omega)
set_option maxRecDepth 100000 in
set_option maxHeartbeats 4000000 in
theorem impl_CutWords (s : ByteArray) (w : World) (hs : s.size ≤ maxLen) (ht : KeysAt w) : Calls Tryd.prog 16 #[.string s] w (CutP s w) := by
  have hs' : s.size ≤ 9223372036854775807 := by unfold maxLen at hs; omega
  by_cases h3 : s.size ≤ 3000
  case neg =>
    have E : Hid (cutOk s = false) := cutOk_long (by omega)
    have q4 : decide ((3000 : Int) < (s.size : Int)) = true := by simp; omega
    clear h3
    go_enter Tryd.func16, Tryd.ntmps16
    go_wp2_with fail
    go_ret2
    exact CutP.no E.out rfl (Or.inl rfl) (Below.refl _ _)
  have q4 : decide ((3000 : Int) < (s.size : Int)) = false := by simp; omega
  obtain ⟨i0, hi, hz0, hz1, hz2⟩ := info_parts Tryd.info_Word
  go_enter Tryd.func16, Tryd.ntmps16
  go_wp2_with fail
  go_loopw [4, 5] (fun v i wr => ∃ (k f : Nat) (l : List WordD), k ≤ s.size ∧ i = .int .i64 k ∧ s.size - k < f ∧ wr.ownsRow w.heap.size 29 2 v l.length (wcells l) ∧ Hid (∀ a ∈ l, I64 a.kind ∧ a.text.size ≤ maxLen) ∧ Hid (cutR s = (cutF s f k).map (l ++ ·)) ∧ l.length ≤ 600 ∧ Below w.heap.size w wr) (fun _ i _ => s.size - (intOf i).toNat)
  case atStart => exact ⟨0, s.size + 1, [], by omega, rfl, by omega, own_nilW w _ _, (fun a h => by cases h), (show _ = _ by simp [cutR]), by simp, Below.refl _ _⟩
  case round =>
    obtain ⟨k, f, l, hk, rfl, hf, own, HI, HF, hl6, hb⟩ := hrel
    have hsz := hb.size
    obtain ⟨A', p', hv', _, _⟩ := (Sl.of_ownW own HI.out (Nat.le_refl _) false).form
    subst hv'
    by_cases hks : k < s.size
    · obtain ⟨f, rfl⟩ : ∃ f', f = f' + 1 := ⟨f - 1, by omega⟩
      have hcl := cls_blank s[k]
      by_cases hbl : s[k].toNat = 32 ∨ s[k].toNat = 10
      case pos =>
        have hc4 : cls s[k] = 4 := by simpa [hbl] using hcl.symm
        have HF' : Hid (cutR s = (cutF s f (k + 1)).map (l ++ ·)) := by
          have h1 := HF.out
          rw [cutF_blank hks hc4] at h1
          exact h1
        clear hcl hc4
        rcases hbl with h32 | h10
        · have q32 : ((s[k].toNat : Int) == 32) = true := by simp; omega
          clear h32
          go_wp2_with fail
          go_roundw
          case rel => exact ⟨k + 1, f, l, by omega, by go_num, by omega, own, HI, HF', by omega, hb⟩
          case measure => simp [intOf]; omega
        · have q32 : ((s[k].toNat : Int) == 32) = false := by simp; omega
          have q10 : ((s[k].toNat : Int) == 10) = true := by simp; omega
          clear h10
          go_wp2_with fail
          go_roundw
          case rel => exact ⟨k + 1, f, l, by omega, by go_num, by omega, own, HI, HF', by omega, hb⟩
          case measure => simp [intOf]; omega
      have HK4 : Hid (cls s[k] ≠ 4) := by
        intro h
        rw [h] at hcl
        simp [hbl] at hcl
      have q32 : ((s[k].toNat : Int) == 32) = false := by simp; omega
      have q10 : ((s[k].toNat : Int) == 10) = false := by simp; omega
      clear hcl hbl
      go_wp2_with fail
      refine (impl_isLetter s[k] _).mono ?_
      rintro e w' ⟨rfl, rfl⟩
      cases hl : low s[k]
      case true =>
        have HP : Hid (∀ x, pI s[k] x = low x) := fun x => by unfold pI; rw [if_pos hl]
        clear hl q32 q10
        obtain ⟨b, hbk⟩ : ∃ b, s[k] = b := ⟨_, rfl⟩
        have HS : Hid (s[k] = b) := hbk
        rw [hbk] at HP HK4
        clear hbk
        go_wp2_with fail
        go_loopw [7] (fun j w' => ∃ n : Nat, k + 1 ≤ n ∧ n ≤ s.size ∧ j = .int .i64 n ∧ w' = wr ∧ Hid (runF (pI b) s (k + 1) = runF (pI b) s n)) (fun j _ => s.size - (intOf j).toNat)
        case atStart => exact ⟨k + 1, Nat.le_refl _, by omega, by go_num, rfl, (show _ = _ from rfl)⟩
        case round =>
          obtain ⟨n, hn0, hn1, rfl, rfl, HQ⟩ := hrel
          by_cases hns : n < s.size
          · go_wp2_with fail
            refine (impl_isLetter s[n] _).mono ?_
            rintro e w' ⟨rfl, rfl⟩
            cases hx : low s[n]
            case true =>
              have HX : Hid (runF (pI b) s n = runF (pI b) s (n + 1)) := runF_yes hns (by rw [HP.out]; exact hx)
              have HQ' : Hid (runF (pI b) s (k + 1) = runF (pI b) s (n + 1)) := HQ.out.trans HX.out
              clear hx
              go_wp2_with fail
              go_roundw
              case rel => exact ⟨n + 1, by omega, by omega, by go_num, (by first | rfl | trivial), HQ'⟩
              case measure => simp [intOf]; omega
            have HX : Hid (runF (pI b) s n = n) := runF_no hns (by rw [HP.out]; exact hx)
            clear hx
            have HE : Hid (runF (pI b) s (k + 1) = n) := by
              have h1 := HQ.out
              rw [HX.out] at h1
              exact h1
            clear HX HQ HP
            have hkn : k < n := by omega
            have hkn' : (k : Int) ≤ (n : Int) := by omega
            have HW := Lib.hid (fun w1 (h1 : KeysAt w1) => impl_wordOf_at s b k n w1 hs hkn hn1 HS.out h1)
            have HT : Hid ((s.extract k n).size ≤ maxLen) := (show _ ≤ _ by simp; omega)
            have HTa := Lib.hid (fun (w1 : World) (h1 : Below w.heap.size w w1) => ht.below h1 (Nat.le_refl _))
            go_wp2_with fail
            refine (HW.out _ (HTa.out _ hb)).mono ?_
            rintro e w1 ⟨rfl, b1⟩
            have hb1 := hb.trans (b1.mono hsz)
            have hbA : Below w.heap.size w (w1.alloc (.cells #[.int .i64 (kindI b (s.extract k n)), .string (s.extract k n)] 29)) := hb1.alloc hb1.size _
            have R0 : Row (w1.alloc (.cells #[.int .i64 (kindI b (s.extract k n)), .string (s.extract k n)] 29)) w1.heap.size 29 #[.int .i64 (kindI b (s.extract k n)), .string (s.extract k n)] := Row.new _ _ _
            have ownA := (own_belowW own b1 (Nat.le_refl _)).alloc (.cells #[.int .i64 (kindI b (s.extract k n)), .string (s.extract k n)] 29)
            clear own
            go_wp2_with fail
            refine (impl_WordValid _ _ _ HT.out (HTa.out _ hbA)).mono ?_
            rintro e w2 ⟨rfl, b2⟩
            have hb2 := hbA.trans (b2.mono hbA.size)
            have R2 := R0.below b2 R0.lt
            have y0 : w2.cell? ⟨w1.heap.size, 0, none⟩ = some (.int .i64 (kindI b (s.extract k n))) := R2.cell 0
            have y1 : w2.cell? ⟨w1.heap.size, 1, none⟩ = some (.string (s.extract k n)) := R2.cell 1
            have own3 := own_belowW ownA b2 (Nat.le_refl _)
            clear R0 R2 ownA
            cases hv : wvB (kindI b (s.extract k n)) (s.extract k n)
            case false =>
              have E : Hid (cutOk s = false) := cutOk_none (by
                rw [HF.out, cut_bad hks HS.out HK4.out HE.out hv]
                rfl)
              clear hv
              go_wp2_with fail
              go_ret2
              exact CutP.no E.out rfl (Or.inl rfl) hb2
            have hcw := cut_word (f := f) hks HS.out HK4.out HE.out hv
            have HF' : Hid (cutR s = (cutF s f n).map ((l ++ [⟨kindI b (s.extract k n), s.extract k n⟩]) ++ ·)) := by
              have h1 := HF.out
              rw [hcw.1] at h1
              show _ = _
              rw [h1, Option.map_map]
              congr 1
              funext r
              simp
            have HI' : Hid (∀ a ∈ l ++ [⟨kindI b (s.extract k n), s.extract k n⟩], I64 a.kind ∧ a.text.size ≤ maxLen) := by
              intro a ha
              rcases List.mem_append.1 ha with h | h
              · exact HI.out a h
              · obtain rfl := List.mem_singleton.1 h
                exact ⟨hcw.2, HT.out⟩
            clear hv hcw
            by_cases h600 : l.length = 600
            case pos =>
              have E : Hid (cutOk s = false) := cutF_append_many HF'.out h600
              have q6 : ((l.length : Int) == 600) = true := by simp; omega
              clear h600
              go_wp2_with fail
              go_ret2
              exact CutP.no E.out rfl (Or.inl rfl) hb2
            have q6 : ((l.length : Int) == 600) = false := by simp; omega
            have sz3 := hb2.size
            go_wp2_with (at_builtin; refine wpList_append_own_at _ rfl _ _ 25 rfl w.heap.size 29 i0 (.agg #[.int .i64 0, .string ⟨#[]⟩]) 2 24 Tryd.underlying25 hi hz0 hz1 hz2 rfl (by decide) _ _ _ rfl (own3.alloc _) ⟨w2.heap.size, 0, none⟩ 1 1 [.int .i64 (kindI b (s.extract k n)), .string (s.extract k n)] rfl rfl ?c1 ?c2 ?c3 ?c4 ?c5 ?_)
            case c1 => exact cells_row_new w2 [.int .i64 (kindI b (s.extract k n)), .string (s.extract k n)] _
            case c2 => first | rfl | (intro u hu; simp at hu; rcases hu with rfl | rfl <;> rfl)
            case c3 => unfold maxLen; omega
            case c4 => omega
            case c5 => simp; omega
            intro v4 w4 own4 hgrow _ hat
            have hb4 : Below w.heap.size w w4 := (hb2.alloc (by omega) _).grown hgrow (by simp; omega) (fun r hr => own_geW own3 hr)
            have own4' : w4.ownsRow w.heap.size 29 2 v4 (l ++ [(⟨kindI b (s.extract k n), s.extract k n⟩ : WordD)]).length (wcells (l ++ [⟨kindI b (s.extract k n), s.extract k n⟩])) := by
              rw [List.length_append, wcells_snoc]
              exact own4
            clear own4 hgrow hat own3
            go_wp2_with fail
            go_roundw
            case rel => exact ⟨n, f, l ++ [⟨kindI b (s.extract k n), s.extract k n⟩], by omega, rfl, by omega, own4', HI', HF', by simp; omega, hb4⟩
            case measure => simp [intOf]; omega
          · have HX : Hid (runF (pI b) s n = n) := runF_end (by omega)
            have HE : Hid (runF (pI b) s (k + 1) = n) := by
              have h1 := HQ.out
              rw [HX.out] at h1
              exact h1
            clear HX HQ HP
            have hkn : k < n := by omega
            have hkn' : (k : Int) ≤ (n : Int) := by omega
            have HW := Lib.hid (fun w1 (h1 : KeysAt w1) => impl_wordOf_at s b k n w1 hs hkn hn1 HS.out h1)
            have HT : Hid ((s.extract k n).size ≤ maxLen) := (show _ ≤ _ by simp; omega)
            have HTa := Lib.hid (fun (w1 : World) (h1 : Below w.heap.size w w1) => ht.below h1 (Nat.le_refl _))
            go_wp2_with fail
            refine (HW.out _ (HTa.out _ hb)).mono ?_
            rintro e w1 ⟨rfl, b1⟩
            have hb1 := hb.trans (b1.mono hsz)
            have hbA : Below w.heap.size w (w1.alloc (.cells #[.int .i64 (kindI b (s.extract k n)), .string (s.extract k n)] 29)) := hb1.alloc hb1.size _
            have R0 : Row (w1.alloc (.cells #[.int .i64 (kindI b (s.extract k n)), .string (s.extract k n)] 29)) w1.heap.size 29 #[.int .i64 (kindI b (s.extract k n)), .string (s.extract k n)] := Row.new _ _ _
            have ownA := (own_belowW own b1 (Nat.le_refl _)).alloc (.cells #[.int .i64 (kindI b (s.extract k n)), .string (s.extract k n)] 29)
            clear own
            go_wp2_with fail
            refine (impl_WordValid _ _ _ HT.out (HTa.out _ hbA)).mono ?_
            rintro e w2 ⟨rfl, b2⟩
            have hb2 := hbA.trans (b2.mono hbA.size)
            have R2 := R0.below b2 R0.lt
            have y0 : w2.cell? ⟨w1.heap.size, 0, none⟩ = some (.int .i64 (kindI b (s.extract k n))) := R2.cell 0
            have y1 : w2.cell? ⟨w1.heap.size, 1, none⟩ = some (.string (s.extract k n)) := R2.cell 1
            have own3 := own_belowW ownA b2 (Nat.le_refl _)
            clear R0 R2 ownA
            cases hv : wvB (kindI b (s.extract k n)) (s.extract k n)
            case false =>
              have E : Hid (cutOk s = false) := cutOk_none (by
                rw [HF.out, cut_bad hks HS.out HK4.out HE.out hv]
                rfl)
              clear hv
              go_wp2_with fail
              go_ret2
              exact CutP.no E.out rfl (Or.inl rfl) hb2
            have hcw := cut_word (f := f) hks HS.out HK4.out HE.out hv
            have HF' : Hid (cutR s = (cutF s f n).map ((l ++ [⟨kindI b (s.extract k n), s.extract k n⟩]) ++ ·)) := by
              have h1 := HF.out
              rw [hcw.1] at h1
              show _ = _
              rw [h1, Option.map_map]
              congr 1
              funext r
              simp
            have HI' : Hid (∀ a ∈ l ++ [⟨kindI b (s.extract k n), s.extract k n⟩], I64 a.kind ∧ a.text.size ≤ maxLen) := by
              intro a ha
              rcases List.mem_append.1 ha with h | h
              · exact HI.out a h
              · obtain rfl := List.mem_singleton.1 h
                exact ⟨hcw.2, HT.out⟩
            clear hv hcw
            by_cases h600 : l.length = 600
            case pos =>
              have E : Hid (cutOk s = false) := cutF_append_many HF'.out h600
              have q6 : ((l.length : Int) == 600) = true := by simp; omega
              clear h600
              go_wp2_with fail
              go_ret2
              exact CutP.no E.out rfl (Or.inl rfl) hb2
            have q6 : ((l.length : Int) == 600) = false := by simp; omega
            have sz3 := hb2.size
            go_wp2_with (at_builtin; refine wpList_append_own_at _ rfl _ _ 25 rfl w.heap.size 29 i0 (.agg #[.int .i64 0, .string ⟨#[]⟩]) 2 24 Tryd.underlying25 hi hz0 hz1 hz2 rfl (by decide) _ _ _ rfl (own3.alloc _) ⟨w2.heap.size, 0, none⟩ 1 1 [.int .i64 (kindI b (s.extract k n)), .string (s.extract k n)] rfl rfl ?c1 ?c2 ?c3 ?c4 ?c5 ?_)
            case c1 => exact cells_row_new w2 [.int .i64 (kindI b (s.extract k n)), .string (s.extract k n)] _
            case c2 => first | rfl | (intro u hu; simp at hu; rcases hu with rfl | rfl <;> rfl)
            case c3 => unfold maxLen; omega
            case c4 => omega
            case c5 => simp; omega
            intro v4 w4 own4 hgrow _ hat
            have hb4 : Below w.heap.size w w4 := (hb2.alloc (by omega) _).grown hgrow (by simp; omega) (fun r hr => own_geW own3 hr)
            have own4' : w4.ownsRow w.heap.size 29 2 v4 (l ++ [(⟨kindI b (s.extract k n), s.extract k n⟩ : WordD)]).length (wcells (l ++ [⟨kindI b (s.extract k n), s.extract k n⟩])) := by
              rw [List.length_append, wcells_snoc]
              exact own4
            clear own4 hgrow hat own3
            go_wp2_with fail
            go_roundw
            case rel => exact ⟨n, f, l ++ [⟨kindI b (s.extract k n), s.extract k n⟩], by omega, rfl, by omega, own4', HI', HF', by simp; omega, hb4⟩
            case measure => simp [intOf]; omega
      go_wp2_with fail
      refine (impl_isDigit s[k] _).mono ?_
      rintro e w' ⟨rfl, rfl⟩
      cases hd : isDig s[k]
      case true =>
        have HP : Hid (∀ x, pI s[k] x = isDig x) := fun x => by unfold pI; rw [if_neg (by rw [hl]; decide), if_pos hd]
        clear hl hd q32 q10
        obtain ⟨b, hbk⟩ : ∃ b, s[k] = b := ⟨_, rfl⟩
        have HS : Hid (s[k] = b) := hbk
        rw [hbk] at HP HK4
        clear hbk
        go_wp2_with fail
        go_loopw [7] (fun j w' => ∃ n : Nat, k + 1 ≤ n ∧ n ≤ s.size ∧ j = .int .i64 n ∧ w' = wr ∧ Hid (runF (pI b) s (k + 1) = runF (pI b) s n)) (fun j _ => s.size - (intOf j).toNat)
        case atStart => exact ⟨k + 1, Nat.le_refl _, by omega, by go_num, rfl, (show _ = _ from rfl)⟩
        case round =>
          obtain ⟨n, hn0, hn1, rfl, rfl, HQ⟩ := hrel
          by_cases hns : n < s.size
          · go_wp2_with fail
            refine (impl_isDigit s[n] _).mono ?_
            rintro e w' ⟨rfl, rfl⟩
            cases hx : isDig s[n]
            case true =>
              have HX : Hid (runF (pI b) s n = runF (pI b) s (n + 1)) := runF_yes hns (by rw [HP.out]; exact hx)
              have HQ' : Hid (runF (pI b) s (k + 1) = runF (pI b) s (n + 1)) := HQ.out.trans HX.out
              clear hx
              go_wp2_with fail
              go_roundw
              case rel => exact ⟨n + 1, by omega, by omega, by go_num, (by first | rfl | trivial), HQ'⟩
              case measure => simp [intOf]; omega
            have HX : Hid (runF (pI b) s n = n) := runF_no hns (by rw [HP.out]; exact hx)
            clear hx
            have HE : Hid (runF (pI b) s (k + 1) = n) := by
              have h1 := HQ.out
              rw [HX.out] at h1
              exact h1
            clear HX HQ HP
            have hkn : k < n := by omega
            have hkn' : (k : Int) ≤ (n : Int) := by omega
            have HW := Lib.hid (fun w1 (h1 : KeysAt w1) => impl_wordOf_at s b k n w1 hs hkn hn1 HS.out h1)
            have HT : Hid ((s.extract k n).size ≤ maxLen) := (show _ ≤ _ by simp; omega)
            have HTa := Lib.hid (fun (w1 : World) (h1 : Below w.heap.size w w1) => ht.below h1 (Nat.le_refl _))
            go_wp2_with fail
            refine (HW.out _ (HTa.out _ hb)).mono ?_
            rintro e w1 ⟨rfl, b1⟩
            have hb1 := hb.trans (b1.mono hsz)
            have hbA : Below w.heap.size w (w1.alloc (.cells #[.int .i64 (kindI b (s.extract k n)), .string (s.extract k n)] 29)) := hb1.alloc hb1.size _
            have R0 : Row (w1.alloc (.cells #[.int .i64 (kindI b (s.extract k n)), .string (s.extract k n)] 29)) w1.heap.size 29 #[.int .i64 (kindI b (s.extract k n)), .string (s.extract k n)] := Row.new _ _ _
            have ownA := (own_belowW own b1 (Nat.le_refl _)).alloc (.cells #[.int .i64 (kindI b (s.extract k n)), .string (s.extract k n)] 29)
            clear own
            go_wp2_with fail
            refine (impl_WordValid _ _ _ HT.out (HTa.out _ hbA)).mono ?_
            rintro e w2 ⟨rfl, b2⟩
            have hb2 := hbA.trans (b2.mono hbA.size)
            have R2 := R0.below b2 R0.lt
            have y0 : w2.cell? ⟨w1.heap.size, 0, none⟩ = some (.int .i64 (kindI b (s.extract k n))) := R2.cell 0
            have y1 : w2.cell? ⟨w1.heap.size, 1, none⟩ = some (.string (s.extract k n)) := R2.cell 1
            have own3 := own_belowW ownA b2 (Nat.le_refl _)
            clear R0 R2 ownA
            cases hv : wvB (kindI b (s.extract k n)) (s.extract k n)
            case false =>
              have E : Hid (cutOk s = false) := cutOk_none (by
                rw [HF.out, cut_bad hks HS.out HK4.out HE.out hv]
                rfl)
              clear hv
              go_wp2_with fail
              go_ret2
              exact CutP.no E.out rfl (Or.inl rfl) hb2
            have hcw := cut_word (f := f) hks HS.out HK4.out HE.out hv
            have HF' : Hid (cutR s = (cutF s f n).map ((l ++ [⟨kindI b (s.extract k n), s.extract k n⟩]) ++ ·)) := by
              have h1 := HF.out
              rw [hcw.1] at h1
              show _ = _
              rw [h1, Option.map_map]
              congr 1
              funext r
              simp
            have HI' : Hid (∀ a ∈ l ++ [⟨kindI b (s.extract k n), s.extract k n⟩], I64 a.kind ∧ a.text.size ≤ maxLen) := by
              intro a ha
              rcases List.mem_append.1 ha with h | h
              · exact HI.out a h
              · obtain rfl := List.mem_singleton.1 h
                exact ⟨hcw.2, HT.out⟩
            clear hv hcw
            by_cases h600 : l.length = 600
            case pos =>
              have E : Hid (cutOk s = false) := cutF_append_many HF'.out h600
              have q6 : ((l.length : Int) == 600) = true := by simp; omega
              clear h600
              go_wp2_with fail
              go_ret2
              exact CutP.no E.out rfl (Or.inl rfl) hb2
            have q6 : ((l.length : Int) == 600) = false := by simp; omega
            have sz3 := hb2.size
            go_wp2_with (at_builtin; refine wpList_append_own_at _ rfl _ _ 25 rfl w.heap.size 29 i0 (.agg #[.int .i64 0, .string ⟨#[]⟩]) 2 24 Tryd.underlying25 hi hz0 hz1 hz2 rfl (by decide) _ _ _ rfl (own3.alloc _) ⟨w2.heap.size, 0, none⟩ 1 1 [.int .i64 (kindI b (s.extract k n)), .string (s.extract k n)] rfl rfl ?c1 ?c2 ?c3 ?c4 ?c5 ?_)
            case c1 => exact cells_row_new w2 [.int .i64 (kindI b (s.extract k n)), .string (s.extract k n)] _
            case c2 => first | rfl | (intro u hu; simp at hu; rcases hu with rfl | rfl <;> rfl)
            case c3 => unfold maxLen; omega
            case c4 => omega
            case c5 => simp; omega
            intro v4 w4 own4 hgrow _ hat
            have hb4 : Below w.heap.size w w4 := (hb2.alloc (by omega) _).grown hgrow (by simp; omega) (fun r hr => own_geW own3 hr)
            have own4' : w4.ownsRow w.heap.size 29 2 v4 (l ++ [(⟨kindI b (s.extract k n), s.extract k n⟩ : WordD)]).length (wcells (l ++ [⟨kindI b (s.extract k n), s.extract k n⟩])) := by
              rw [List.length_append, wcells_snoc]
              exact own4
            clear own4 hgrow hat own3
            go_wp2_with fail
            go_roundw
            case rel => exact ⟨n, f, l ++ [⟨kindI b (s.extract k n), s.extract k n⟩], by omega, rfl, by omega, own4', HI', HF', by simp; omega, hb4⟩
            case measure => simp [intOf]; omega
          · have HX : Hid (runF (pI b) s n = n) := runF_end (by omega)
            have HE : Hid (runF (pI b) s (k + 1) = n) := by
              have h1 := HQ.out
              rw [HX.out] at h1
              exact h1
            clear HX HQ HP
            have hkn : k < n := by omega
            have hkn' : (k : Int) ≤ (n : Int) := by omega
            have HW := Lib.hid (fun w1 (h1 : KeysAt w1) => impl_wordOf_at s b k n w1 hs hkn hn1 HS.out h1)
            have HT : Hid ((s.extract k n).size ≤ maxLen) := (show _ ≤ _ by simp; omega)
            have HTa := Lib.hid (fun (w1 : World) (h1 : Below w.heap.size w w1) => ht.below h1 (Nat.le_refl _))
            go_wp2_with fail
            refine (HW.out _ (HTa.out _ hb)).mono ?_
            rintro e w1 ⟨rfl, b1⟩
            have hb1 := hb.trans (b1.mono hsz)
            have hbA : Below w.heap.size w (w1.alloc (.cells #[.int .i64 (kindI b (s.extract k n)), .string (s.extract k n)] 29)) := hb1.alloc hb1.size _
            have R0 : Row (w1.alloc (.cells #[.int .i64 (kindI b (s.extract k n)), .string (s.extract k n)] 29)) w1.heap.size 29 #[.int .i64 (kindI b (s.extract k n)), .string (s.extract k n)] := Row.new _ _ _
            have ownA := (own_belowW own b1 (Nat.le_refl _)).alloc (.cells #[.int .i64 (kindI b (s.extract k n)), .string (s.extract k n)] 29)
            clear own
            go_wp2_with fail
            refine (impl_WordValid _ _ _ HT.out (HTa.out _ hbA)).mono ?_
            rintro e w2 ⟨rfl, b2⟩
            have hb2 := hbA.trans (b2.mono hbA.size)
            have R2 := R0.below b2 R0.lt
            have y0 : w2.cell? ⟨w1.heap.size, 0, none⟩ = some (.int .i64 (kindI b (s.extract k n))) := R2.cell 0
            have y1 : w2.cell? ⟨w1.heap.size, 1, none⟩ = some (.string (s.extract k n)) := R2.cell 1
            have own3 := own_belowW ownA b2 (Nat.le_refl _)
            clear R0 R2 ownA
            cases hv : wvB (kindI b (s.extract k n)) (s.extract k n)
            case false =>
              have E : Hid (cutOk s = false) := cutOk_none (by
                rw [HF.out, cut_bad hks HS.out HK4.out HE.out hv]
                rfl)
              clear hv
              go_wp2_with fail
              go_ret2
              exact CutP.no E.out rfl (Or.inl rfl) hb2
            have hcw := cut_word (f := f) hks HS.out HK4.out HE.out hv
            have HF' : Hid (cutR s = (cutF s f n).map ((l ++ [⟨kindI b (s.extract k n), s.extract k n⟩]) ++ ·)) := by
              have h1 := HF.out
              rw [hcw.1] at h1
              show _ = _
              rw [h1, Option.map_map]
              congr 1
              funext r
              simp
            have HI' : Hid (∀ a ∈ l ++ [⟨kindI b (s.extract k n), s.extract k n⟩], I64 a.kind ∧ a.text.size ≤ maxLen) := by
              intro a ha
              rcases List.mem_append.1 ha with h | h
              · exact HI.out a h
              · obtain rfl := List.mem_singleton.1 h
                exact ⟨hcw.2, HT.out⟩
            clear hv hcw
            by_cases h600 : l.length = 600
            case pos =>
              have E : Hid (cutOk s = false) := cutF_append_many HF'.out h600
              have q6 : ((l.length : Int) == 600) = true := by simp; omega
              clear h600
              go_wp2_with fail
              go_ret2
              exact CutP.no E.out rfl (Or.inl rfl) hb2
            have q6 : ((l.length : Int) == 600) = false := by simp; omega
            have sz3 := hb2.size
            go_wp2_with (at_builtin; refine wpList_append_own_at _ rfl _ _ 25 rfl w.heap.size 29 i0 (.agg #[.int .i64 0, .string ⟨#[]⟩]) 2 24 Tryd.underlying25 hi hz0 hz1 hz2 rfl (by decide) _ _ _ rfl (own3.alloc _) ⟨w2.heap.size, 0, none⟩ 1 1 [.int .i64 (kindI b (s.extract k n)), .string (s.extract k n)] rfl rfl ?c1 ?c2 ?c3 ?c4 ?c5 ?_)
            case c1 => exact cells_row_new w2 [.int .i64 (kindI b (s.extract k n)), .string (s.extract k n)] _
            case c2 => first | rfl | (intro u hu; simp at hu; rcases hu with rfl | rfl <;> rfl)
            case c3 => unfold maxLen; omega
            case c4 => omega
            case c5 => simp; omega
            intro v4 w4 own4 hgrow _ hat
            have hb4 : Below w.heap.size w w4 := (hb2.alloc (by omega) _).grown hgrow (by simp; omega) (fun r hr => own_geW own3 hr)
            have own4' : w4.ownsRow w.heap.size 29 2 v4 (l ++ [(⟨kindI b (s.extract k n), s.extract k n⟩ : WordD)]).length (wcells (l ++ [⟨kindI b (s.extract k n), s.extract k n⟩])) := by
              rw [List.length_append, wcells_snoc]
              exact own4
            clear own4 hgrow hat own3
            go_wp2_with fail
            go_roundw
            case rel => exact ⟨n, f, l ++ [⟨kindI b (s.extract k n), s.extract k n⟩], by omega, rfl, by omega, own4', HI', HF', by simp; omega, hb4⟩
            case measure => simp [intOf]; omega
      have HP : Hid (∀ x, pI s[k] x = false) := fun x => by unfold pI; rw [if_neg (by rw [hl]; decide), if_neg (by rw [hd]; decide)]
      clear hl hd q32 q10
      obtain ⟨b, hbk⟩ : ∃ b, s[k] = b := ⟨_, rfl⟩
      have HS : Hid (s[k] = b) := hbk
      rw [hbk] at HP HK4
      clear hbk
      go_wp2_with fail
      go_loopw [7] (fun j w' => ∃ n : Nat, k + 1 ≤ n ∧ n ≤ s.size ∧ j = .int .i64 n ∧ w' = wr ∧ Hid (runF (pI b) s (k + 1) = runF (pI b) s n)) (fun j _ => s.size - (intOf j).toNat)
      case atStart => exact ⟨k + 1, Nat.le_refl _, by omega, by go_num, rfl, (show _ = _ from rfl)⟩
      case round =>
        obtain ⟨n, hn0, hn1, rfl, rfl, HQ⟩ := hrel
        by_cases hns : n < s.size
        · go_wp2_with fail
          refine (impl_never s[n] _).mono ?_
          rintro e w' ⟨rfl, rfl⟩
          have HX : Hid (runF (pI b) s n = n) := runF_no hns (by rw [HP.out])

          have HE : Hid (runF (pI b) s (k + 1) = n) := by
            have h1 := HQ.out
            rw [HX.out] at h1
            exact h1
          clear HX HQ HP
          have hkn : k < n := by omega
          have hkn' : (k : Int) ≤ (n : Int) := by omega
          have HW := Lib.hid (fun w1 (h1 : KeysAt w1) => impl_wordOf_at s b k n w1 hs hkn hn1 HS.out h1)
          have HT : Hid ((s.extract k n).size ≤ maxLen) := (show _ ≤ _ by simp; omega)
          have HTa := Lib.hid (fun (w1 : World) (h1 : Below w.heap.size w w1) => ht.below h1 (Nat.le_refl _))
          go_wp2_with fail
          refine (HW.out _ (HTa.out _ hb)).mono ?_
          rintro e w1 ⟨rfl, b1⟩
          have hb1 := hb.trans (b1.mono hsz)
          have hbA : Below w.heap.size w (w1.alloc (.cells #[.int .i64 (kindI b (s.extract k n)), .string (s.extract k n)] 29)) := hb1.alloc hb1.size _
          have R0 : Row (w1.alloc (.cells #[.int .i64 (kindI b (s.extract k n)), .string (s.extract k n)] 29)) w1.heap.size 29 #[.int .i64 (kindI b (s.extract k n)), .string (s.extract k n)] := Row.new _ _ _
          have ownA := (own_belowW own b1 (Nat.le_refl _)).alloc (.cells #[.int .i64 (kindI b (s.extract k n)), .string (s.extract k n)] 29)
          clear own
          go_wp2_with fail
          refine (impl_WordValid _ _ _ HT.out (HTa.out _ hbA)).mono ?_
          rintro e w2 ⟨rfl, b2⟩
          have hb2 := hbA.trans (b2.mono hbA.size)
          have R2 := R0.below b2 R0.lt
          have y0 : w2.cell? ⟨w1.heap.size, 0, none⟩ = some (.int .i64 (kindI b (s.extract k n))) := R2.cell 0
          have y1 : w2.cell? ⟨w1.heap.size, 1, none⟩ = some (.string (s.extract k n)) := R2.cell 1
          have own3 := own_belowW ownA b2 (Nat.le_refl _)
          clear R0 R2 ownA
          cases hv : wvB (kindI b (s.extract k n)) (s.extract k n)
          case false =>
            have E : Hid (cutOk s = false) := cutOk_none (by
              rw [HF.out, cut_bad hks HS.out HK4.out HE.out hv]
              rfl)
            clear hv
            go_wp2_with fail
            go_ret2
            exact CutP.no E.out rfl (Or.inl rfl) hb2
          have hcw := cut_word (f := f) hks HS.out HK4.out HE.out hv
          have HF' : Hid (cutR s = (cutF s f n).map ((l ++ [⟨kindI b (s.extract k n), s.extract k n⟩]) ++ ·)) := by
            have h1 := HF.out
            rw [hcw.1] at h1
            show _ = _
            rw [h1, Option.map_map]
            congr 1
            funext r
            simp
          have HI' : Hid (∀ a ∈ l ++ [⟨kindI b (s.extract k n), s.extract k n⟩], I64 a.kind ∧ a.text.size ≤ maxLen) := by
            intro a ha
            rcases List.mem_append.1 ha with h | h
            · exact HI.out a h
            · obtain rfl := List.mem_singleton.1 h
              exact ⟨hcw.2, HT.out⟩
          clear hv hcw
          by_cases h600 : l.length = 600
          case pos =>
            have E : Hid (cutOk s = false) := cutF_append_many HF'.out h600
            have q6 : ((l.length : Int) == 600) = true := by simp; omega
            clear h600
            go_wp2_with fail
            go_ret2
            exact CutP.no E.out rfl (Or.inl rfl) hb2
          have q6 : ((l.length : Int) == 600) = false := by simp; omega
          have sz3 := hb2.size
          go_wp2_with (at_builtin; refine wpList_append_own_at _ rfl _ _ 25 rfl w.heap.size 29 i0 (.agg #[.int .i64 0, .string ⟨#[]⟩]) 2 24 Tryd.underlying25 hi hz0 hz1 hz2 rfl (by decide) _ _ _ rfl (own3.alloc _) ⟨w2.heap.size, 0, none⟩ 1 1 [.int .i64 (kindI b (s.extract k n)), .string (s.extract k n)] rfl rfl ?c1 ?c2 ?c3 ?c4 ?c5 ?_)
          case c1 => exact cells_row_new w2 [.int .i64 (kindI b (s.extract k n)), .string (s.extract k n)] _
          case c2 => first | rfl | (intro u hu; simp at hu; rcases hu with rfl | rfl <;> rfl)
          case c3 => unfold maxLen; omega
          case c4 => omega
          case c5 => simp; omega
          intro v4 w4 own4 hgrow _ hat
          have hb4 : Below w.heap.size w w4 := (hb2.alloc (by omega) _).grown hgrow (by simp; omega) (fun r hr => own_geW own3 hr)
          have own4' : w4.ownsRow w.heap.size 29 2 v4 (l ++ [(⟨kindI b (s.extract k n), s.extract k n⟩ : WordD)]).length (wcells (l ++ [⟨kindI b (s.extract k n), s.extract k n⟩])) := by
            rw [List.length_append, wcells_snoc]
            exact own4
          clear own4 hgrow hat own3
          go_wp2_with fail
          go_roundw
          case rel => exact ⟨n, f, l ++ [⟨kindI b (s.extract k n), s.extract k n⟩], by omega, rfl, by omega, own4', HI', HF', by simp; omega, hb4⟩
          case measure => simp [intOf]; omega
        · have HX : Hid (runF (pI b) s n = n) := runF_end (by omega)
          have HE : Hid (runF (pI b) s (k + 1) = n) := by
            have h1 := HQ.out
            rw [HX.out] at h1
            exact h1
          clear HX HQ HP
          have hkn : k < n := by omega
          have hkn' : (k : Int) ≤ (n : Int) := by omega
          have HW := Lib.hid (fun w1 (h1 : KeysAt w1) => impl_wordOf_at s b k n w1 hs hkn hn1 HS.out h1)
          have HT : Hid ((s.extract k n).size ≤ maxLen) := (show _ ≤ _ by simp; omega)
          have HTa := Lib.hid (fun (w1 : World) (h1 : Below w.heap.size w w1) => ht.below h1 (Nat.le_refl _))
          go_wp2_with fail
          refine (HW.out _ (HTa.out _ hb)).mono ?_
          rintro e w1 ⟨rfl, b1⟩
          have hb1 := hb.trans (b1.mono hsz)
          have hbA : Below w.heap.size w (w1.alloc (.cells #[.int .i64 (kindI b (s.extract k n)), .string (s.extract k n)] 29)) := hb1.alloc hb1.size _
          have R0 : Row (w1.alloc (.cells #[.int .i64 (kindI b (s.extract k n)), .string (s.extract k n)] 29)) w1.heap.size 29 #[.int .i64 (kindI b (s.extract k n)), .string (s.extract k n)] := Row.new _ _ _
          have ownA := (own_belowW own b1 (Nat.le_refl _)).alloc (.cells #[.int .i64 (kindI b (s.extract k n)), .string (s.extract k n)] 29)
          clear own
          go_wp2_with fail
          refine (impl_WordValid _ _ _ HT.out (HTa.out _ hbA)).mono ?_
          rintro e w2 ⟨rfl, b2⟩
          have hb2 := hbA.trans (b2.mono hbA.size)
          have R2 := R0.below b2 R0.lt
          have y0 : w2.cell? ⟨w1.heap.size, 0, none⟩ = some (.int .i64 (kindI b (s.extract k n))) := R2.cell 0
          have y1 : w2.cell? ⟨w1.heap.size, 1, none⟩ = some (.string (s.extract k n)) := R2.cell 1
          have own3 := own_belowW ownA b2 (Nat.le_refl _)
          clear R0 R2 ownA
          cases hv : wvB (kindI b (s.extract k n)) (s.extract k n)
          case false =>
            have E : Hid (cutOk s = false) := cutOk_none (by
              rw [HF.out, cut_bad hks HS.out HK4.out HE.out hv]
              rfl)
            clear hv
            go_wp2_with fail
            go_ret2
            exact CutP.no E.out rfl (Or.inl rfl) hb2
          have hcw := cut_word (f := f) hks HS.out HK4.out HE.out hv
          have HF' : Hid (cutR s = (cutF s f n).map ((l ++ [⟨kindI b (s.extract k n), s.extract k n⟩]) ++ ·)) := by
            have h1 := HF.out
            rw [hcw.1] at h1
            show _ = _
            rw [h1, Option.map_map]
            congr 1
            funext r
            simp
          have HI' : Hid (∀ a ∈ l ++ [⟨kindI b (s.extract k n), s.extract k n⟩], I64 a.kind ∧ a.text.size ≤ maxLen) := by
            intro a ha
            rcases List.mem_append.1 ha with h | h
            · exact HI.out a h
            · obtain rfl := List.mem_singleton.1 h
              exact ⟨hcw.2, HT.out⟩
          clear hv hcw
          by_cases h600 : l.length = 600
          case pos =>
            have E : Hid (cutOk s = false) := cutF_append_many HF'.out h600
            have q6 : ((l.length : Int) == 600) = true := by simp; omega
            clear h600
            go_wp2_with fail
            go_ret2
            exact CutP.no E.out rfl (Or.inl rfl) hb2
          have q6 : ((l.length : Int) == 600) = false := by simp; omega
          have sz3 := hb2.size
          go_wp2_with (at_builtin; refine wpList_append_own_at _ rfl _ _ 25 rfl w.heap.size 29 i0 (.agg #[.int .i64 0, .string ⟨#[]⟩]) 2 24 Tryd.underlying25 hi hz0 hz1 hz2 rfl (by decide) _ _ _ rfl (own3.alloc _) ⟨w2.heap.size, 0, none⟩ 1 1 [.int .i64 (kindI b (s.extract k n)), .string (s.extract k n)] rfl rfl ?c1 ?c2 ?c3 ?c4 ?c5 ?_)
          case c1 => exact cells_row_new w2 [.int .i64 (kindI b (s.extract k n)), .string (s.extract k n)] _
          case c2 => first | rfl | (intro u hu; simp at hu; rcases hu with rfl | rfl <;> rfl)
          case c3 => unfold maxLen; omega
          case c4 => omega
          case c5 => simp; omega
          intro v4 w4 own4 hgrow _ hat
          have hb4 : Below w.heap.size w w4 := (hb2.alloc (by omega) _).grown hgrow (by simp; omega) (fun r hr => own_geW own3 hr)
          have own4' : w4.ownsRow w.heap.size 29 2 v4 (l ++ [(⟨kindI b (s.extract k n), s.extract k n⟩ : WordD)]).length (wcells (l ++ [⟨kindI b (s.extract k n), s.extract k n⟩])) := by
            rw [List.length_append, wcells_snoc]
            exact own4
          clear own4 hgrow hat own3
          go_wp2_with fail
          go_roundw
          case rel => exact ⟨n, f, l ++ [⟨kindI b (s.extract k n), s.extract k n⟩], by omega, rfl, by omega, own4', HI', HF', by simp; omega, hb4⟩
          case measure => simp [intOf]; omega
    · obtain rfl : k = s.size := by omega
      have EL : Hid (cutR s = some l) := by
        have h := HF.out
        rw [cutF_end (by omega)] at h
        show _ = _
        rw [h]
        simp
      have fin := fun m => Sl.of_ownW own HI.out (Nat.le_refl _) m
      have E1 : Hid (cutOk s = true) := (cutOk_some EL.out h3 hl6).1
      have E2 : Hid (cutLst s = l) := (cutOk_some EL.out h3 hl6).2
      go_wp2_with fail
      go_ret2
      exact ⟨_, by rw [E1.out] <;> rfl, fun m => by rw [E2.out]; exact fin m, hb⟩
end Go.Proofs.YtiaioiijdlmilaaDoor
