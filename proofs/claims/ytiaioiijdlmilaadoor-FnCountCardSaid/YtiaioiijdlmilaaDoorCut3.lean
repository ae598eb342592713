/-
  Words cut from a text, by the reference. Condition: the text's length is a Go length.
-/
import Derived.Test.YtiaioiijdlmilaaDoorCut2
namespace Go.Proofs.YtiaioiijdlmilaaDoor
open Go.RowKit Go.ChangeShapes Go.WideShapes Go.Deep
set_option linter.unusedSimpArgs false
set_option linter.unusedVariables false
theorem cells_row_new (w : World) (cs : List Value) (t : TypeId) : ∀ j u, cs[j]? = some u → (w.alloc (.cells cs.toArray t)).cell? ((⟨w.heap.size, 0, none⟩ : Addr).add j) = some u := by
  intro j u hj
  have h := (Row.new w t cs.toArray).cell j
  simp only [List.getElem?_toArray, hj] at h
  have e : (⟨w.heap.size, 0, none⟩ : Addr).add j = ⟨w.heap.size, j, none⟩ := by
    simp [Addr.add]
    intro h0
    exact h0.symm
  rw [e]
  exact h
theorem runF_stop {p : UInt8 → Bool} {s : ByteArray} {i : Nat} (h : ∀ x, p x = false) : runF p s i = i := by
  unfold runF
  cases hl : s.data.toList.drop i with
  | nil => rfl
  | cons a r => simp [List.takeWhile_cons, h a]
theorem spec_l1Word_at (s : ByteArray) (b : UInt8) (k n : Nat) (w : World) (hs : s.size ≤ maxLen) (hk : k < n) (hn : n ≤ s.size) (hb : s[k] = b) : Calls Tryd.prog 56 #[.string (s.extract k n)] w (RetV (.agg #[.int .i64 (kindS b (s.extract k n)), .string (s.extract k n)]) w) := by
  have hp : 0 < (s.extract k n).size := by simp; omega
  have h := spec_l1Word (s.extract k n) w (by simp; omega) hp
  have e : (s.extract k n)[0] = b := by
    have hks : k < s.data.size := Nat.lt_of_lt_of_le hk hn
    rw [← hb]
    show (s.extract k n).data[0]'hp = s.data[k]'hks
    simp [ByteArray.data_extract]
  rw [e] at h
  exact h
set_option maxRecDepth 100000 in
set_option maxHeartbeats 4000000 in
theorem spec_CutWords (s : ByteArray) (w : World) (hs : s.size ≤ maxLen) : Calls Tryd.prog 29 #[.string s] w (CutP s w) := by
  have hs' : s.size ≤ 9223372036854775807 := by unfold maxLen at hs; omega
  by_cases h3 : s.size ≤ 3000
  case neg =>
    have E : Hid (cutOk s = false) := cutOk_long (by omega)
    have q3 : decide ((s.size : Int) ≤ 3000) = false := by simp; omega
    have q4 : decide ((3000 : Int) < (s.size : Int)) = true := by simp; omega
    have q5 : (0 : Int) < (s.size : Int) := by omega
    clear h3
    go_enter Tryd.func29, Tryd.ntmps29
    go_wp2_with fail
    go_loopw [4, 5] (fun v i wr => i = .int .i64 0 ∧ v = .slice (some ⟨w.heap.size, 0, none⟩) 0 0 ∧ Below w.heap.size w wr) (fun _ _ _ => 0)
    case atStart => exact ⟨rfl, rfl, (Below.refl _ _).alloc (Nat.le_refl _) _⟩
    case round =>
      obtain ⟨rfl, rfl, hb⟩ := hrel
      go_wp2_with fail
      go_ret2
      exact CutP.no E.out rfl (Or.inr ⟨_, rfl⟩) (hb.alloc hb.size _)
  have q3 : decide ((s.size : Int) ≤ 3000) = true := by simp; omega
  have q4 : decide ((3000 : Int) < (s.size : Int)) = false := by simp; omega
  obtain ⟨i0, hi, hz0, hz1, hz2⟩ := info_parts Tryd.info_Word
  go_enter Tryd.func29, Tryd.ntmps29
  go_wp2_with fail
  go_loopw [4, 5] (fun v i wr => ∃ (k f : Nat) (l : List WordD), k ≤ s.size ∧ i = .int .i64 k ∧ s.size - k < f ∧ wr.ownsRow w.heap.size 29 2 v l.length (wcells l) ∧ Hid (∀ a ∈ l, I64 a.kind ∧ a.text.size ≤ maxLen) ∧ Hid (cutR s = (cutF s f k).map (l ++ ·)) ∧ l.length ≤ k ∧ Below w.heap.size w wr) (fun _ i _ => s.size - (intOf i).toNat)
  case atStart => exact ⟨0, s.size + 1, [], by omega, rfl, by omega, own_emptyW w _ _ (Nat.le_refl _), (fun a h => by cases h), (show _ = _ by simp [cutR]), Nat.le_refl _, (Below.refl _ _).alloc (Nat.le_refl _) _⟩
  case round =>
    obtain ⟨k, f, l, hk, rfl, hf, own, HI, HF, hlk, hb⟩ := hrel
    have hsz := hb.size
    by_cases hks : k < s.size
    · obtain ⟨f, rfl⟩ : ∃ f', f = f' + 1 := ⟨f - 1, by omega⟩
      go_wp2_with fail
      refine (spec_l1Class s[k] _).mono ?_
      rintro e w' ⟨rfl, rfl⟩
      obtain ⟨b, hbk⟩ : ∃ b, s[k] = b := ⟨_, rfl⟩
      have HS : Hid (s[k] = b) := hbk
      rw [hbk]
      clear hbk
      obtain ⟨c, hc⟩ : ∃ c, cls b = c := ⟨_, rfl⟩
      have HB : Hid (cls b = c) := hc
      rw [hc]
      clear hc
      go_wp2_with fail
      go_loopw [7] (fun j w' => ∃ n : Nat, k + 1 ≤ n ∧ n ≤ s.size ∧ j = .int .i64 n ∧ w' = wr ∧ Hid (runF (goes b) s (k + 1) = runF (goes b) s n)) (fun j _ => s.size - (intOf j).toNat)
      case atStart => exact ⟨k + 1, Nat.le_refl _, by omega, by go_num, rfl, (show _ = _ from rfl)⟩
      case round =>
        obtain ⟨n, hn0, hn1, rfl, rfl, HQ⟩ := hrel
        by_cases hns : n < s.size
        · go_wp2_with fail
          refine (spec_l1Class s[n] _).mono ?_
          rintro e w' ⟨rfl, rfl⟩
          obtain ⟨x, hx⟩ : ∃ x, s[n] = x := ⟨_, rfl⟩
          have HY : Hid (s[n] = x) := hx
          rw [hx]
          clear hx
          obtain ⟨d, hd⟩ : ∃ d, cls x = d := ⟨_, rfl⟩
          have HD : Hid (cls x = d) := hd
          rw [hd]
          clear hd
          by_cases e1 : d = c
          · have q1 : (d == c) = true := by simpa using e1
            by_cases e2 : c < 3
            · have HX : Hid (runF (goes b) s n = runF (goes b) s (n + 1)) := runF_yes hns (by unfold goes; rw [HY.out, HD.out, HB.out, q1]; simp [e2])
              have HQ' : Hid (runF (goes b) s (k + 1) = runF (goes b) s (n + 1)) := HQ.out.trans HX.out
              clear e1
              go_wp2_with fail
              go_roundw
              case rel => exact ⟨n + 1, by omega, by omega, by go_num, (by first | rfl | trivial), HQ'⟩
              case measure => simp [intOf]; omega
            · have q2 : decide (c < 3) = false := by simpa using e2
              have HX : Hid (runF (goes b) s n = n) := runF_no hns (by unfold goes; rw [HY.out, HD.out, HB.out]; simp [e2])
              have HE : Hid (runF (goes b) s (k + 1) = n) := by
                have h1 := HQ.out
                rw [HX.out] at h1
                exact h1
              clear HX HQ
              by_cases k4 : c = 4
              case pos =>
                subst k4
                have HN : Hid (n = k + 1) := by
                  have h1 := HE.out
                  rw [runF_stop (fun x => by unfold goes; rw [HB.out]; simp)] at h1
                  exact h1.symm
                have HF' : Hid (cutR s = (cutF s f (k + 1)).map (l ++ ·)) := by
                  have h1 := HF.out
                  rw [cutF_blank hks (by rw [← HS.out] at HB; rw [HB.out])] at h1
                  exact h1
                go_wp2_with fail
                go_roundw
                case rel => exact ⟨k + 1, f, l, by omega, by rw [HN.out] <;> go_num, by omega, own, HI, HF', by omega, hb⟩
                case measure => have := HN.out; simp [intOf]; omega
              have n4 : (c == 4) = false := by simpa using k4
              have n5 : (c != 4) = true := by simpa using k4
              have k0 : c ≠ 0 := by omega
              have n0 : (c == 0) = false := by simpa using k0
              have HK4 := Lib.hid k4
              have HK0 := Lib.hid k0
              clear k4 k0
              have hkn : k < n := by omega
              have hkn' : (k : Int) ≤ (n : Int) := by omega
              have HW := Lib.hid (fun w => spec_l1Word_at s b k n w hs hkn hn1 HS.out)
              have HT : Hid ((s.extract k n).size ≤ maxLen) := (show _ ≤ _ by simp; omega)
              go_wp2_with fail
              refine (HW.out _).mono ?_
              rintro e w1 ⟨rfl, b1⟩
              have hb1 := hb.trans (b1.mono hsz)
              go_wp2_with fail
              refine (spec_WordValid _ _ _ HT.out).mono ?_
              rintro e w2 ⟨rfl, b2⟩
              have hb2 := hb1.trans (b2.mono hb1.size)
              cases hv : wvB (kindS b (s.extract k n)) (s.extract k n)
              case false =>
                have E : Hid (cutOk s = false) := cutOk_none (by
                  rw [HF.out, cutF_bad hks (by rw [HS.out, HB.out]; exact HK4.out) (by rw [HS.out, HE.out]; exact hv)]
                  rfl)
                clear hv
                go_wp2_with fail
                go_ret2
                exact CutP.no E.out rfl (Or.inr ⟨_, rfl⟩) (hb2.alloc hb2.size _)
              have HF' : Hid (cutR s = (cutF s f n).map ((l ++ [wordAt s b k n]) ++ ·)) := by
                have h1 := HF.out
                rw [cutF_word hks (by rw [HS.out, HB.out]; exact HK4.out) (by rw [HS.out, HB.out]; exact HK0.out) (by rw [HS.out, HE.out]; exact hv), HS.out, HE.out] at h1
                show _ = _
                rw [h1, Option.map_map]
                congr 1
                funext r
                simp
              have HI' : Hid (∀ a ∈ l ++ [wordAt s b k n], I64 a.kind ∧ a.text.size ≤ maxLen) := by
                intro a ha
                rcases List.mem_append.1 ha with h | h
                · exact HI.out a h
                · obtain rfl := List.mem_singleton.1 h
                  exact ⟨kindS_I64 _ _, HT.out⟩
              clear hv
              go_wp2_with fail
              refine (HW.out _).mono ?_
              rintro e w3 ⟨rfl, b3⟩
              have hb3 := hb2.trans (b3.mono hb2.size)
              have b13 := (b1.trans (b2.mono b1.size)).trans (b3.mono (Nat.le_trans b1.size b2.size))
              have own3 := own_belowW own b13 (Nat.le_refl _)
              have sz3 := hb3.size
              go_wp2_with (at_builtin; refine wpList_append_own_at _ rfl _ _ 25 rfl w.heap.size 29 i0 (.agg #[.int .i64 0, .string ⟨#[]⟩]) 2 24 Tryd.underlying25 hi hz0 hz1 hz2 rfl (by decide) _ _ _ rfl (own3.alloc _) ⟨w3.heap.size, 0, none⟩ 1 1 [.int .i64 (kindS b (s.extract k n)), .string (s.extract k n)] rfl rfl ?c1 ?c2 ?c3 ?c4 ?c5 ?_)
              case c1 => exact cells_row_new w3 [.int .i64 (kindS b (s.extract k n)), .string (s.extract k n)] _
              case c2 => first | rfl | (intro u hu; simp at hu; rcases hu with rfl | rfl <;> rfl)
              case c3 => unfold maxLen; omega
              case c4 => omega
              case c5 => simp; omega
              intro v4 w4 own4 hgrow _ hat
              have hb4 : Below w.heap.size w w4 := (hb3.alloc (by omega) _).grown hgrow (by simp; omega) (fun r hr => own_geW own3 hr)
              have own4' : w4.ownsRow w.heap.size 29 2 v4 (l ++ [wordAt s b k n]).length (wcells (l ++ [wordAt s b k n])) := by
                rw [List.length_append, wcells_snoc]
                exact own4
              clear own4 hgrow hat own3 own
              go_wp2_with fail
              go_roundw
              case rel => exact ⟨n, f, l ++ [wordAt s b k n], by omega, rfl, by omega, own4', HI', HF', by simp; omega, hb4⟩
              case measure => simp [intOf]; omega
          · have q1 : (d == c) = false := by simpa using e1
            have HX : Hid (runF (goes b) s n = n) := runF_no hns (by unfold goes; rw [HY.out, HD.out, HB.out, q1]; rfl)
            clear e1
            have HE : Hid (runF (goes b) s (k + 1) = n) := by
              have h1 := HQ.out
              rw [HX.out] at h1
              exact h1
            clear HX HQ
            by_cases k4 : c = 4
            case pos =>
              subst k4
              have HN : Hid (n = k + 1) := by
                have h1 := HE.out
                rw [runF_stop (fun x => by unfold goes; rw [HB.out]; simp)] at h1
                exact h1.symm
              have HF' : Hid (cutR s = (cutF s f (k + 1)).map (l ++ ·)) := by
                have h1 := HF.out
                rw [cutF_blank hks (by rw [← HS.out] at HB; rw [HB.out])] at h1
                exact h1
              go_wp2_with fail
              go_roundw
              case rel => exact ⟨k + 1, f, l, by omega, by rw [HN.out] <;> go_num, by omega, own, HI, HF', by omega, hb⟩
              case measure => have := HN.out; simp [intOf]; omega
            have n4 : (c == 4) = false := by simpa using k4
            have n5 : (c != 4) = true := by simpa using k4
            by_cases k0 : c = 0
            case pos =>
              subst k0
              have E : Hid (cutOk s = false) := cutOk_none (by
                rw [HF.out, cutF_zero hks (by rw [← HS.out] at HB; rw [HB.out])]
                rfl)
              clear k4 n4 n5
              go_wp2_with fail
              go_ret2
              exact CutP.no E.out rfl (Or.inr ⟨_, rfl⟩) (hb.alloc hb.size _)
            have n0 : (c == 0) = false := by simpa using k0
            have HK4 := Lib.hid k4
            have HK0 := Lib.hid k0
            clear k4 k0
            have hkn : k < n := by omega
            have hkn' : (k : Int) ≤ (n : Int) := by omega
            have HW := Lib.hid (fun w => spec_l1Word_at s b k n w hs hkn hn1 HS.out)
            have HT : Hid ((s.extract k n).size ≤ maxLen) := (show _ ≤ _ by simp; omega)
            go_wp2_with fail
            refine (HW.out _).mono ?_
            rintro e w1 ⟨rfl, b1⟩
            have hb1 := hb.trans (b1.mono hsz)
            go_wp2_with fail
            refine (spec_WordValid _ _ _ HT.out).mono ?_
            rintro e w2 ⟨rfl, b2⟩
            have hb2 := hb1.trans (b2.mono hb1.size)
            cases hv : wvB (kindS b (s.extract k n)) (s.extract k n)
            case false =>
              have E : Hid (cutOk s = false) := cutOk_none (by
                rw [HF.out, cutF_bad hks (by rw [HS.out, HB.out]; exact HK4.out) (by rw [HS.out, HE.out]; exact hv)]
                rfl)
              clear hv
              go_wp2_with fail
              go_ret2
              exact CutP.no E.out rfl (Or.inr ⟨_, rfl⟩) (hb2.alloc hb2.size _)
            have HF' : Hid (cutR s = (cutF s f n).map ((l ++ [wordAt s b k n]) ++ ·)) := by
              have h1 := HF.out
              rw [cutF_word hks (by rw [HS.out, HB.out]; exact HK4.out) (by rw [HS.out, HB.out]; exact HK0.out) (by rw [HS.out, HE.out]; exact hv), HS.out, HE.out] at h1
              show _ = _
              rw [h1, Option.map_map]
              congr 1
              funext r
              simp
            have HI' : Hid (∀ a ∈ l ++ [wordAt s b k n], I64 a.kind ∧ a.text.size ≤ maxLen) := by
              intro a ha
              rcases List.mem_append.1 ha with h | h
              · exact HI.out a h
              · obtain rfl := List.mem_singleton.1 h
                exact ⟨kindS_I64 _ _, HT.out⟩
            clear hv
            go_wp2_with fail
            refine (HW.out _).mono ?_
            rintro e w3 ⟨rfl, b3⟩
            have hb3 := hb2.trans (b3.mono hb2.size)
            have b13 := (b1.trans (b2.mono b1.size)).trans (b3.mono (Nat.le_trans b1.size b2.size))
            have own3 := own_belowW own b13 (Nat.le_refl _)
            have sz3 := hb3.size
            go_wp2_with (at_builtin; refine wpList_append_own_at _ rfl _ _ 25 rfl w.heap.size 29 i0 (.agg #[.int .i64 0, .string ⟨#[]⟩]) 2 24 Tryd.underlying25 hi hz0 hz1 hz2 rfl (by decide) _ _ _ rfl (own3.alloc _) ⟨w3.heap.size, 0, none⟩ 1 1 [.int .i64 (kindS b (s.extract k n)), .string (s.extract k n)] rfl rfl ?c1 ?c2 ?c3 ?c4 ?c5 ?_)
            case c1 => exact cells_row_new w3 [.int .i64 (kindS b (s.extract k n)), .string (s.extract k n)] _
            case c2 => first | rfl | (intro u hu; simp at hu; rcases hu with rfl | rfl <;> rfl)
            case c3 => unfold maxLen; omega
            case c4 => omega
            case c5 => simp; omega
            intro v4 w4 own4 hgrow _ hat
            have hb4 : Below w.heap.size w w4 := (hb3.alloc (by omega) _).grown hgrow (by simp; omega) (fun r hr => own_geW own3 hr)
            have own4' : w4.ownsRow w.heap.size 29 2 v4 (l ++ [wordAt s b k n]).length (wcells (l ++ [wordAt s b k n])) := by
              rw [List.length_append, wcells_snoc]
              exact own4
            clear own4 hgrow hat own3 own
            go_wp2_with fail
            go_roundw
            case rel => exact ⟨n, f, l ++ [wordAt s b k n], by omega, rfl, by omega, own4', HI', HF', by simp; omega, hb4⟩
            case measure => simp [intOf]; omega
        · have HX : Hid (runF (goes b) s n = n) := runF_end (by omega)
          have HE : Hid (runF (goes b) s (k + 1) = n) := by
            have h1 := HQ.out
            rw [HX.out] at h1
            exact h1
          clear HX HQ
          by_cases k4 : c = 4
          case pos =>
            subst k4
            have HN : Hid (n = k + 1) := by
              have h1 := HE.out
              rw [runF_stop (fun x => by unfold goes; rw [HB.out]; simp)] at h1
              exact h1.symm
            have HF' : Hid (cutR s = (cutF s f (k + 1)).map (l ++ ·)) := by
              have h1 := HF.out
              rw [cutF_blank hks (by rw [← HS.out] at HB; rw [HB.out])] at h1
              exact h1
            go_wp2_with fail
            go_roundw
            case rel => exact ⟨k + 1, f, l, by omega, by rw [HN.out] <;> go_num, by omega, own, HI, HF', by omega, hb⟩
            case measure => have := HN.out; simp [intOf]; omega
          have n4 : (c == 4) = false := by simpa using k4
          have n5 : (c != 4) = true := by simpa using k4
          by_cases k0 : c = 0
          case pos =>
            subst k0
            have E : Hid (cutOk s = false) := cutOk_none (by
              rw [HF.out, cutF_zero hks (by rw [← HS.out] at HB; rw [HB.out])]
              rfl)
            clear k4 n4 n5
            go_wp2_with fail
            go_ret2
            exact CutP.no E.out rfl (Or.inr ⟨_, rfl⟩) (hb.alloc hb.size _)
          have n0 : (c == 0) = false := by simpa using k0
          have HK4 := Lib.hid k4
          have HK0 := Lib.hid k0
          clear k4 k0
          have hkn : k < n := by omega
          have hkn' : (k : Int) ≤ (n : Int) := by omega
          have HW := Lib.hid (fun w => spec_l1Word_at s b k n w hs hkn hn1 HS.out)
          have HT : Hid ((s.extract k n).size ≤ maxLen) := (show _ ≤ _ by simp; omega)
          go_wp2_with fail
          refine (HW.out _).mono ?_
          rintro e w1 ⟨rfl, b1⟩
          have hb1 := hb.trans (b1.mono hsz)
          go_wp2_with fail
          refine (spec_WordValid _ _ _ HT.out).mono ?_
          rintro e w2 ⟨rfl, b2⟩
          have hb2 := hb1.trans (b2.mono hb1.size)
          cases hv : wvB (kindS b (s.extract k n)) (s.extract k n)
          case false =>
            have E : Hid (cutOk s = false) := cutOk_none (by
              rw [HF.out, cutF_bad hks (by rw [HS.out, HB.out]; exact HK4.out) (by rw [HS.out, HE.out]; exact hv)]
              rfl)
            clear hv
            go_wp2_with fail
            go_ret2
            exact CutP.no E.out rfl (Or.inr ⟨_, rfl⟩) (hb2.alloc hb2.size _)
          have HF' : Hid (cutR s = (cutF s f n).map ((l ++ [wordAt s b k n]) ++ ·)) := by
            have h1 := HF.out
            rw [cutF_word hks (by rw [HS.out, HB.out]; exact HK4.out) (by rw [HS.out, HB.out]; exact HK0.out) (by rw [HS.out, HE.out]; exact hv), HS.out, HE.out] at h1
            show _ = _
            rw [h1, Option.map_map]
            congr 1
            funext r
            simp
          have HI' : Hid (∀ a ∈ l ++ [wordAt s b k n], I64 a.kind ∧ a.text.size ≤ maxLen) := by
            intro a ha
            rcases List.mem_append.1 ha with h | h
            · exact HI.out a h
            · obtain rfl := List.mem_singleton.1 h
              exact ⟨kindS_I64 _ _, HT.out⟩
          clear hv
          go_wp2_with fail
          refine (HW.out _).mono ?_
          rintro e w3 ⟨rfl, b3⟩
          have hb3 := hb2.trans (b3.mono hb2.size)
          have b13 := (b1.trans (b2.mono b1.size)).trans (b3.mono (Nat.le_trans b1.size b2.size))
          have own3 := own_belowW own b13 (Nat.le_refl _)
          have sz3 := hb3.size
          go_wp2_with (at_builtin; refine wpList_append_own_at _ rfl _ _ 25 rfl w.heap.size 29 i0 (.agg #[.int .i64 0, .string ⟨#[]⟩]) 2 24 Tryd.underlying25 hi hz0 hz1 hz2 rfl (by decide) _ _ _ rfl (own3.alloc _) ⟨w3.heap.size, 0, none⟩ 1 1 [.int .i64 (kindS b (s.extract k n)), .string (s.extract k n)] rfl rfl ?c1 ?c2 ?c3 ?c4 ?c5 ?_)
          case c1 => exact cells_row_new w3 [.int .i64 (kindS b (s.extract k n)), .string (s.extract k n)] _
          case c2 => first | rfl | (intro u hu; simp at hu; rcases hu with rfl | rfl <;> rfl)
          case c3 => unfold maxLen; omega
          case c4 => omega
          case c5 => simp; omega
          intro v4 w4 own4 hgrow _ hat
          have hb4 : Below w.heap.size w w4 := (hb3.alloc (by omega) _).grown hgrow (by simp; omega) (fun r hr => own_geW own3 hr)
          have own4' : w4.ownsRow w.heap.size 29 2 v4 (l ++ [wordAt s b k n]).length (wcells (l ++ [wordAt s b k n])) := by
            rw [List.length_append, wcells_snoc]
            exact own4
          clear own4 hgrow hat own3 own
          go_wp2_with fail
          go_roundw
          case rel => exact ⟨n, f, l ++ [wordAt s b k n], by omega, rfl, by omega, own4', HI', HF', by simp; omega, hb4⟩
          case measure => simp [intOf]; omega
    · obtain rfl : k = s.size := by omega
      have EL : Hid (cutR s = some l) := by
        have h := HF.out
        rw [cutF_end (by omega)] at h
        show _ = _
        rw [h]
        simp
      have fin := fun m => Sl.of_ownW own HI.out (Nat.le_refl _) m
      obtain ⟨A', p', hv', _, _⟩ := (fin false).form
      subst hv'
      by_cases h6 : l.length ≤ 600
      · have E1 : Hid (cutOk s = true) := (cutOk_some EL.out h3 h6).1
        have E2 : Hid (cutLst s = l) := (cutOk_some EL.out h3 h6).2
        have q6 : decide ((600 : Int) < (l.length : Int)) = false := by simp; omega
        go_wp2_with fail
        go_ret2
        exact ⟨_, by rw [E1.out] <;> rfl, fun m => by rw [E2.out]; exact fin m, hb⟩
      · have E : Hid (cutOk s = false) := cutOk_many EL.out (by omega)
        have q6 : decide ((600 : Int) < (l.length : Int)) = true := by simp; omega
        go_wp2_with fail
        go_ret2
        exact CutP.no E.out rfl (Or.inr ⟨_, rfl⟩) (hb.alloc hb.size _)
end Go.Proofs.YtiaioiijdlmilaaDoor
