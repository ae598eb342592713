/-
  Names by the program. Conditions: the table of keys lies as the program's text lays it.
-/
import Derived.Test.YthfinoapfbhgcaaDoorName2
import Derived.Test.YthfinoapfbhgcaaDoorShelf
import Derived.Laws.RangeAny
namespace Go.Proofs.YthfinoapfbhgcaaDoor
open Go.RowKit Go.ChangeShapes Go.WideShapes Go.Deep
set_option linter.unusedSimpArgs false
set_option linter.unusedVariables false
theorem isOut (w : World) : PredAt Tryd.prog 72 #[] encR outR w := fun W r _ => by
  unfold FnGives
  by_cases h1 : r < 97
  · have E : Hid (outR r = true) := by show _ = _; simp [outR, h1]
    have z1 : (r : Int) < 97 := by omega
    go_enter Tryd.func72, Tryd.ntmps72
    go_wp2
    go_ret
    exact ⟨by rw [E.out] <;> rfl, 0, rfl⟩
  · have z1 : (97 : Int) ≤ (r : Int) := by omega
    have z1' : decide ((r : Int) < 97) = false := by simp; omega
    by_cases h2 : 122 < r
    · have E : Hid (outR r = true) := by show _ = _; simp [outR, h2]
      have z2 : (122 : Int) < (r : Int) := by omega
      go_enter Tryd.func72, Tryd.ntmps72
      go_wp2
      go_ret
      exact ⟨by rw [E.out] <;> rfl, 0, rfl⟩
    · have E : Hid (outR r = false) := by show _ = _; simp [outR]; omega
      have z2 : (r : Int) ≤ 122 := by omega
      have z2' : decide ((122 : Int) < (r : Int)) = false := by simp; omega
      go_enter Tryd.func72, Tryd.ntmps72
      go_wp2
      go_ret
      exact ⟨by rw [E.out] <;> rfl, 0, rfl⟩
theorem idx_low (s : ByteArray) : ∀ (f pos : Nat), s.size ≤ pos + f → decide (Lib.idxFuncFrom outR true s f pos < 0) = (s.data.toList.drop pos).all low := by
  intro f
  induction f with
  | zero =>
    intro pos h
    rw [List.drop_eq_nil_of_le (by simp; omega)]
    rfl
  | succ f ih =>
    intro pos h
    unfold Lib.idxFuncFrom
    by_cases hp : pos < s.size
    · rw [if_pos hp]
      have hp' : pos < s.data.toList.length := by simpa using hp
      have hg : s.data.toList[pos] = s[pos] := by simp; rfl
      rw [drop_all hp' hg]
      by_cases hc : s[pos].toNat < 128
      · rw [decode_ascii s pos hp hc]
        by_cases hl : low s[pos] = true
        · have g : 97 ≤ s[pos].toNat ∧ s[pos].toNat ≤ 122 := by simpa [low] using hl
          rw [if_neg (by simp [outR]; omega), hl, Bool.true_and]
          exact ih (pos + 1) (by omega)
        · have hl : low s[pos] = false := by simpa using hl
          have g : s[pos].toNat < 97 ∨ 122 < s[pos].toNat := by simp [low] at hl; omega
          rw [if_pos (by simp [outR]; omega), hl]
          simp <;> omega
      · have hh := decode_high s pos hp (by omega)
        have hl : low s[pos] = false := by simp [low]; omega
        rw [if_pos (by simp [outR]; omega), hl]
        simp <;> omega
    · rw [if_neg hp, List.drop_eq_nil_of_le (by simp; omega)]
      rfl
theorem idx_low0 (s : ByteArray) : decide (Lib.idxFunc outR true s < 0) = s.data.toList.all low := by
  have := idx_low s s.size 0 (by omega)
  unfold Lib.idxFunc
  rw [List.drop_zero] at this
  exact this

theorem impl_IsName (s : ByteArray) (w : World) (hs : s.size ≤ maxLen) (hk : KeysAt w) : Calls Tryd.prog 50 #[.string s] w (RetV (.bool (isName s)) w) := by
  have hs' : s.size ≤ 9223372036854775807 := by unfold maxLen at hs; omega
  by_cases h1 : 1 ≤ s.size ∧ s.size ≤ 4
  · have H1 := Lib.hid (inB_yes (n := (s.size : Int)) (lo := 1) (hi := 4) (by omega) (by omega))
    have hi := idx_low0 s
    obtain ⟨r, hr⟩ : ∃ r, Lib.idxFunc outR true s = r := ⟨_, rfl⟩
    have hC := Tryd.strings_IndexFunc 72 #[] (enters_of Tryd.func72 (by kernel_rfl) rfl) outR s w (isOut w)
    rw [hr] at hi hC
    replace hC := Lib.hid hC
    clear hr
    by_cases h2 : r < 0
    · have E : Hid (isName s = !isKey s) := by
        have ha : s.data.toList.all low = true := by rw [← hi]; simpa using h2
        show _ = _
        unfold isName
        rw [ha, show decide (1 ≤ s.size) = true by simpa using h1.1, show decide (s.size ≤ 4) = true by simpa using h1.2]
        simp
      clear hi h1
      go_enter Tryd.func50, Tryd.ntmps50
      go_wp2_with fail
      refine (impl_within _ 1 4 _).mono ?_
      rintro e w' ⟨rfl, rfl⟩
      rw [H1.out]
      go_wp2_with fail
      refine hC.out.mono ?_
      rintro e w1 ⟨rfl, b1⟩
      have hk1 := hk.below b1 (Nat.le_refl _)
      go_wp2_with fail
      refine (strs_Contains keysL s (.slice (some ⟨1, 0, none⟩) keysL.length 9) _ 0 w1.heap.size (Nat.le_refl _) hk1.sl).mono ?_
      rintro e w2 ⟨rfl, b2⟩
      go_wp2_with fail
      go_ret
      exact RetV.mk (by rw [E.out] <;> rfl) rfl (b1.trans (b2.mono b1.size))
    · have E : Hid (isName s = false) := by
        have ha : s.data.toList.all low = false := by rw [← hi]; simpa using h2
        show _ = _
        unfold isName
        rw [ha]
        simp
      have h2' : 0 ≤ r := by omega
      clear hi h1 h2
      go_enter Tryd.func50, Tryd.ntmps50
      go_wp2_with fail
      refine (impl_within _ 1 4 _).mono ?_
      rintro e w' ⟨rfl, rfl⟩
      rw [H1.out]
      go_wp2_with fail
      refine hC.out.mono ?_
      rintro e w1 ⟨rfl, b1⟩
      go_wp2_with fail
      go_ret
      exact RetV.mk (by rw [E.out] <;> rfl) rfl b1
  · have H1 := Lib.hid (inB_no (n := (s.size : Int)) (lo := 1) (hi := 4) (by omega))
    have E : Hid (isName s = false) := by
      show _ = _
      unfold isName
      by_cases h : 1 ≤ s.size
      · rw [show decide (s.size ≤ 4) = false by simp; omega]
        simp
      · rw [show decide (1 ≤ s.size) = false by simpa using h]
        rfl
    clear h1
    go_enter Tryd.func50, Tryd.ntmps50
    go_wp2_with fail
    refine (impl_within _ 1 4 _).mono ?_
    rintro e w' ⟨rfl, rfl⟩
    rw [H1.out]
    go_wp2_with fail
    go_ret
    exact RetV.mk (by rw [E.out] <;> rfl) rfl (Below.refl _ _)
end Go.Proofs.YthfinoapfbhgcaaDoor
