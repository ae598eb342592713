/-
  Numbers of words, by the reference. Condition: the text reads as data.
-/
import Derived.Test.YtiaioiijdlmilaaDoorNum
import Derived.Lib.IndexBytes
namespace Go.Proofs.YtiaioiijdlmilaaDoor
open Go.RowKit Go.ChangeShapes Go.WideShapes Go.Deep

set_option linter.unusedSimpArgs false
set_option linter.unusedVariables false
/-- the reference's reading of a number -/
def l3 (s : ByteArray) : Int × Bool :=
  if s.data.toList.head? = some 45 then
    (if 17 < s.data.toList.tail.length ∨ s.data.toList.tail.head? = some 48 then (0, false) else match numL s.data.toList.tail with
      | some n => (-(n : Int), true)
      | none => (0, false))
  else if 17 < s.size then (0, false)
  else match numL s.data.toList with
    | some n => ((n : Int), true)
    | none => (0, false)
theorem head_ba {s : ByteArray} (h : 0 < s.size) : s.data.toList.head? = some s[0] := by
  have hl : 0 < s.data.toList.length := by simpa using h
  have hg : s.data.toList[0] = s[0] := by simp; rfl
  rw [List.head?_eq_getElem?, List.getElem?_eq_getElem hl, hg]
theorem ba_nil {s : ByteArray} (h0 : s.size = 0) : s = ⟨#[]⟩ := by
  obtain ⟨⟨l⟩⟩ := s
  have : l = [] := List.eq_nil_of_length_eq_zero (by simpa [ByteArray.size] using h0)
  rw [this]
theorem u8_ne {b c : UInt8} (h : b ≠ c) : ((b.toNat : Int) == (c.toNat : Int)) = false := by
  simp only [beq_eq_false_iff_ne]
  intro e
  exact h (UInt8.toNat_inj.1 (by omega))
theorem tail_ba {s t : ByteArray} (ht : s.extract 1 s.size = t) : t.data.toList = s.data.toList.tail := by
  rw [← ht, Lib.extract_to_end, List.drop_one]
theorem extract_size {s t : ByteArray} (ht : s.extract 1 s.size = t) : t.size = s.size - 1 := by
  have h := congrArg List.length (tail_ba ht)
  simpa using h

set_option maxRecDepth 100000 in
set_option maxHeartbeats 4000000 in
theorem spec_l30Num (s : ByteArray) (w : World) (hs : s.size ≤ maxLen) : Calls Tryd.prog 58 #[.string s] w (RetW (.tuple #[.int .i64 (l3 s).1, .bool (l3 s).2]) w) := by
  have hs' : s.size ≤ 9223372036854775807 := by unfold maxLen at hs; omega
  by_cases h0 : s.size = 0
  · obtain rfl := ba_nil h0
    have E : Hid (l3 ⟨#[]⟩ = (0, false)) := by show _ = _; simp [l3, numL]
    clear h0
    go_enter Tryd.func58, Tryd.ntmps58
    go_wp2_with fail
    go_ret2
    exact RetW.mk (by rw [E.out] <;> rfl) rfl
  have hpos : 0 < s.size := by omega
  have hpos' : (0 : Int) < (s.size : Int) := by omega
  have hh := head_ba hpos
  have hz0 : ((s.size : Int) == 0) = false := by simp; exact fun e => h0 (by rw [e]; rfl)
  have hne0 : ¬ s = ByteArray.empty := fun e => h0 (by rw [e]; rfl)
  by_cases h45 : s[0] = 45
  case neg =>
    have g45 : ((s[0].toNat : Int) == 45) = false := u8_ne (c := 45) h45
    have hh45 : ¬ s.data.toList.head? = some 45 := by
      rw [hh]
      intro e
      exact h45 (Option.some.inj e)
    by_cases h17 : 17 < s.size
    case pos =>
      have E : Hid (l3 s = (0, false)) := by show _ = _; unfold l3; rw [if_neg hh45, if_pos h17]
      have q17 : (17 : Int) < (s.size : Int) := by omega
      clear hh45 hh h0 h45
      go_enter Tryd.func58, Tryd.ntmps58
      go_wp2_with fail
      go_ret2
      exact RetW.mk (by rw [E.out] <;> rfl) rfl
    have q17 : decide ((17 : Int) < (s.size : Int)) = false := by simp; omega
    by_cases h48 : 1 < s.size ∧ s[0] = 48
    case pos =>
      obtain ⟨h1, hz⟩ := h48
      have E : Hid (l3 s = (0, false)) := by show _ = _; unfold l3; rw [if_neg hh45, if_neg h17, numL_zero h1 hz]
      have g1 : (1 : Int) < (s.size : Int) := by omega
      have gz : ((s[0].toNat : Int) == 48) = true := by rw [hz]; rfl
      clear hh45 hh h0 h45 hz
      go_enter Tryd.func58, Tryd.ntmps58
      go_wp2_with fail
      go_ret2
      exact RetW.mk (by rw [E.out] <;> rfl) rfl
    have hD := Lib.hid (numL_dec hpos h48)
    have hcond : ¬ 17 < s.size := h17
    have hz : ((s[0].toNat : Int) == 48) = false ∨ (((s[0].toNat : Int) == 48) = true ∧ decide ((1 : Int) < (s.size : Int)) = false) := by
      by_cases h2 : s[0] = 48
      · right
        refine ⟨by rw [h2]; rfl, ?_⟩
        have : ¬ 1 < s.size := fun h => h48 ⟨h, h2⟩
        simp
        omega
      · left
        exact u8_ne (c := 48) h2
    replace hh45 := Lib.hid hh45
    clear hh h0 h45 h48 h17
    rcases hz with gz | ⟨gz, g1⟩
    all_goals
      go_enter Tryd.func58, Tryd.ntmps58
      go_wp2_with fail
      go_loop [5, 6] (fun v i => ∃ k a : Nat, k ≤ s.size ∧ i = .int .i64 k ∧ v = .int .i64 (a : Int) ∧ Hid (Lib.decFrom 0 (s.data.toList.take k) = some a) ∧ a < 100000000000000000) (fun _ i => s.size - (intOf i).toNat)
      case atStart => exact ⟨0, 0, by omega, rfl, rfl, (show _ = _ by simp [Lib.decFrom]), by omega⟩
      case round =>
        obtain ⟨k, a, hk, rfl, rfl, HT, ha⟩ := hrel
        by_cases hkl : k < s.size
        · have hkl' : k < s.data.toList.length := by simpa using hkl
          have hg : s.data.toList[k] = s[k] := by simp; rfl
          have hgs : s.data.toList[k]? = some s[k] := by rw [List.getElem?_eq_getElem hkl', hg]
          replace hgs := Lib.hid hgs
          clear hg
          by_cases hd : 48 ≤ s[k].toNat ∧ s[k].toNat ≤ 57
          · obtain ⟨d1, d2⟩ := hd
            have hv : Lib.digitVal s[k] = some (s[k].toNat - 48) := by unfold Lib.digitVal; rw [if_pos ⟨d1, d2⟩]
            have E : Hid (Lib.decFrom 0 (s.data.toList.take (k + 1)) = some (a * 10 + (s[k].toNat - 48))) := Lib.decFrom_take _ k 0 a s[k] _ HT.out hgs.out hv
            have hlt := Lib.decFrom_take_lt E.out (by omega)
            have q1 : (48 : Int) ≤ (s[k].toNat : Int) := by omega
            have q2 : (s[k].toNat : Int) ≤ 57 := by omega
            clear HT hv
            go_wp2_with fail
            go_round
            case rel => exact ⟨k + 1, a * 10 + (s[k].toNat - 48), by omega, by go_num, (by congr 1; omega), E, hlt⟩
            case measure => simp [intOf]; omega
          · have hb : isDig s[k] = false := by simp [isDig]; omega
            have E : Hid (l3 s = (0, false)) := by
              show _ = _
              unfold l3
              rw [if_neg hh45.out, if_neg hcond, hD.out, decFrom_not hgs.out hb]
            clear HT
            have hor : (s[k].toNat : Int) < 48 ∨ (decide ((s[k].toNat : Int) < 48) = false ∧ (57 : Int) < (s[k].toNat : Int)) := by
              by_cases h : s[k].toNat < 48
              · left; omega
              · right
                refine ⟨by simp; omega, by omega⟩
            clear hb hd
            rcases hor with q1 | ⟨q1, q2⟩
            all_goals
              go_wp2_with fail
              go_ret2
              exact RetW.mk (by rw [E.out] <;> rfl) rfl
        · have hT : Lib.decFrom 0 s.data.toList = some a := by
            have h := HT.out
            rw [List.take_of_length_le (by simp; omega)] at h
            exact h
          have E : Hid (l3 s = ((a : Int), true)) := by
            show _ = _
            unfold l3
            rw [if_neg hh45.out, if_neg hcond, hD.out, hT]
          clear HT hT
          go_wp2_with fail
          go_ret2
          exact RetW.mk (by rw [E.out] <;> rfl) rfl
  have g45 : ((s[0].toNat : Int) == 45) = true := by rw [h45]; rfl
  have hh45 : s.data.toList.head? = some 45 := by rw [hh, h45]
  obtain ⟨t, ht⟩ : ∃ t, s.extract 1 s.size = t := ⟨_, rfl⟩
  have htl := tail_ba ht
  have hts := extract_size ht
  replace hh45 := Lib.hid hh45
  replace htl := Lib.hid htl
  by_cases ht0 : t.size = 0
  case pos =>
    have E : Hid (l3 s = (0, false)) := by
      show _ = _
      have e := ba_nil ht0
      unfold l3
      rw [if_pos hh45.out, ← htl.out, e]
      simp [numL]
    have hs0 : s.size - 1 = 0 := by omega
    obtain rfl := ba_nil ht0
    clear hh h0 h45 ht0 hts htl
    go_enter Tryd.func58, Tryd.ntmps58
    go_wp2_with fail
    go_ret2
    exact RetW.mk (by rw [E.out] <;> rfl) rfl
  have htp : 0 < t.size := by omega
  have qt0 : ((t.size : Int) == 0) = false := by simp; exact fun e => ht0 (by rw [e]; rfl)
  have qt1 : ¬ t = ByteArray.empty := fun e => ht0 (by rw [e]; rfl)
  have hs1 : s.size - 1 = t.size := hts.symm
  have hth := head_ba htp
  have htlen : t.data.toList.length = t.size := by simp
  clear hts
  by_cases h17 : 17 < t.size
  case pos =>
    have E : Hid (l3 s = (0, false)) := by show _ = _; unfold l3; rw [if_pos hh45.out, ← htl.out, if_pos (Or.inl (by omega))]
    have q17 : (17 : Int) < (t.size : Int) := by omega
    clear hh h0 h45 ht0 hth htlen
    go_enter Tryd.func58, Tryd.ntmps58
    go_wp2_with fail
    go_ret2
    exact RetW.mk (by rw [E.out] <;> rfl) rfl
  have q17 : decide ((17 : Int) < (t.size : Int)) = false := by simp; omega
  by_cases h48 : t[0] = 48
  case pos =>
    have E : Hid (l3 s = (0, false)) := by show _ = _; unfold l3; rw [if_pos hh45.out, ← htl.out, if_pos (Or.inr (by rw [hth, h48]))]
    have gz : ((t[0].toNat : Int) == 48) = true := by rw [h48]; rfl
    clear hh h0 h45 ht0 hth htlen h48
    have q1 : (1 : Int) < (t.size : Int) ∨ decide ((1 : Int) < (t.size : Int)) = false := by
      by_cases h : (1 : Int) < (t.size : Int)
      · exact Or.inl h
      · exact Or.inr (by simpa using h)
    rcases q1 with q1 | q1
    all_goals
      go_enter Tryd.func58, Tryd.ntmps58
      go_wp2_with fail
      go_ret2
      exact RetW.mk (by rw [E.out] <;> rfl) rfl
  have gz : ((t[0].toNat : Int) == 48) = false := u8_ne (c := 48) h48
  have hcond : ¬ (17 < t.data.toList.length ∨ t.data.toList.head? = some 48) := by
    rw [hth]
    intro h
    rcases h with h | h
    · omega
    · exact h48 (Option.some.inj h)
  have htn := Lib.hid (numL_dec htp (fun h => h48 h.2))
  replace hcond := Lib.hid hcond
  have hq17 : t.size ≤ 17 := by omega
  clear hh h0 h45 ht0 hth htlen h48 h17
  go_enter Tryd.func58, Tryd.ntmps58

  go_wp2_with fail
  go_loop [5, 6] (fun v i => ∃ k a : Nat, k ≤ t.size ∧ i = .int .i64 k ∧ v = .int .i64 (a : Int) ∧ Hid (Lib.decFrom 0 (t.data.toList.take k) = some a) ∧ a < 100000000000000000) (fun _ i => t.size - (intOf i).toNat)
  case atStart => exact ⟨0, 0, by omega, rfl, rfl, (show _ = _ by simp [Lib.decFrom]), by omega⟩
  case round =>
    obtain ⟨k, a, hk, rfl, rfl, HT, ha⟩ := hrel
    by_cases hkl : k < t.size
    · have hkl' : k < t.data.toList.length := by simpa using hkl
      have hg : t.data.toList[k] = t[k] := by simp; rfl
      have hgs : t.data.toList[k]? = some t[k] := by rw [List.getElem?_eq_getElem hkl', hg]
      replace hgs := Lib.hid hgs
      clear hg
      by_cases hd : 48 ≤ t[k].toNat ∧ t[k].toNat ≤ 57
      · obtain ⟨d1, d2⟩ := hd
        have hv : Lib.digitVal t[k] = some (t[k].toNat - 48) := by unfold Lib.digitVal; rw [if_pos ⟨d1, d2⟩]
        have E : Hid (Lib.decFrom 0 (t.data.toList.take (k + 1)) = some (a * 10 + (t[k].toNat - 48))) := Lib.decFrom_take _ k 0 a t[k] _ HT.out hgs.out hv
        have hlt := Lib.decFrom_take_lt E.out (by omega)
        have q1 : (48 : Int) ≤ (t[k].toNat : Int) := by omega
        have q2 : (t[k].toNat : Int) ≤ 57 := by omega
        clear HT hv
        go_wp2_with fail
        go_round
        case rel => exact ⟨k + 1, a * 10 + (t[k].toNat - 48), by omega, by go_num, (by congr 1; omega), E, hlt⟩
        case measure => simp [intOf]; omega
      · have hb : isDig t[k] = false := by simp [isDig]; omega
        have E : Hid (l3 s = (0, false)) := by
          show _ = _
          unfold l3
          rw [if_pos hh45.out, ← htl.out, if_neg hcond.out]
          rw [htn.out, decFrom_not hgs.out hb]
        clear HT
        have hor : (t[k].toNat : Int) < 48 ∨ (decide ((t[k].toNat : Int) < 48) = false ∧ (57 : Int) < (t[k].toNat : Int)) := by
          by_cases h : t[k].toNat < 48
          · left; omega
          · right
            refine ⟨by simp; omega, by omega⟩
        clear hb hd
        rcases hor with q1 | ⟨q1, q2⟩
        all_goals
          go_wp2_with fail
          go_ret2
          exact RetW.mk (by rw [E.out] <;> rfl) rfl
    · have hT : Lib.decFrom 0 t.data.toList = some a := by
        have h := HT.out
        rw [List.take_of_length_le (by simp; omega)] at h
        exact h
      have E : Hid (l3 s = (-(a : Int), true)) := by
        show _ = _
        unfold l3
        rw [if_pos hh45.out, ← htl.out, if_neg hcond.out]
        rw [htn.out, hT]
      clear HT hT
      go_wp2_with fail
      go_ret2
      exact RetW.mk (by rw [E.out] <;> rfl) rfl
end Go.Proofs.YtiaioiijdlmilaaDoor
