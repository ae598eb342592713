/-
  Plain texts: by the program and by the reference. Conditions: the text's length is a Go length; the table of keys lies.
-/
import Derived.Test.YtbikgakoeheahaaGreatDoorCutA
import Derived.Test.YtbikgakoeheahaaGreatDoorJoin1
namespace Go.Proofs.YtbikgakoeheahaaGreatDoor
open Go.RowKit Go.ChangeShapes Go.WideShapes Go.Deep
set_option linter.unusedSimpArgs false
set_option linter.unusedVariables false
def jS (l : List WordD) : ByteArray := if jOk l then jT l else ⟨#[]⟩
theorem jV_eq (l : List WordD) : jV l = .tuple #[.string (jS l), .bool (jOk l)] := by
  unfold jV jS
  cases jOk l <;> rfl
theorem cutF_bulk (s : ByteArray) : ∀ (f i : Nat) (l : List WordD), i ≤ s.size → cutF s f i = some l → l.length + sumBy wordN l ≤ 2 * (s.size - i) := by
  intro f
  induction f with
  | zero =>
    intro i l hi h
    obtain rfl := Option.some.inj h
    simp [sumBy]
  | succ f ih =>
    intro i l hi h
    by_cases hk : i < s.size
    · by_cases h4 : cls s[i] = 4
      · rw [cutF_blank hk h4] at h
        have := ih (i + 1) l (by omega) h
        omega
      · by_cases h0 : cls s[i] = 0
        · rw [cutF_zero hk h0] at h
          cases h
        · cases hw : wv (wordAt s s[i] i (runF (goes s[i]) s (i + 1))) with
          | false =>
            rw [cutF_bad hk h4 hw] at h
            cases h
          | true =>
            rw [cutF_word hk h4 h0 hw] at h
            have g1 := runF_ge (goes s[i]) s (i + 1)
            have g2 := runF_le (p := goes s[i]) (s := s) (i := i + 1) (by omega)
            cases hc : cutF s f (runF (goes s[i]) s (i + 1)) with
            | none => rw [hc] at h; cases h
            | some r =>
              rw [hc] at h
              obtain rfl := Option.some.inj h
              have h1 := ih _ r g2 hc
              have h2 : wordN (wordAt s s[i] i (runF (goes s[i]) s (i + 1))) = runF (goes s[i]) s (i + 1) - i := by
                show (s.extract i (runF (goes s[i]) s (i + 1))).size = _
                simp
                omega
              simp only [List.length_cons, sumBy, List.map_cons, List.sum_cons] at h1 ⊢
              rw [h2]
              omega
    · rw [cutF_end hk] at h
      obtain rfl := Option.some.inj h
      simp [sumBy]
theorem cutLst_bulk (s : ByteArray) : (cutLst s).length + sumBy wordN (cutLst s) ≤ 6000 := by
  unfold cutLst
  cases hc : cutOk s with
  | false => simp [sumBy]
  | true =>
    have h3 : s.size ≤ 3000 := by
      unfold cutOk at hc
      simp at hc
      exact hc.1
    cases hr : cutR s with
    | none => simp [sumBy]
    | some l =>
      have := cutF_bulk s _ 0 l (Nat.zero_le _) hr
      show l.length + sumBy wordN l ≤ 6000
      omega
def pS (s : ByteArray) : ByteArray := if cutOk s then jS (cutLst s) else ⟨#[]⟩
def pOk (s : ByteArray) : Bool := cutOk s && jOk (cutLst s)
def pV (s : ByteArray) : Value := .tuple #[.string (pS s), .bool (pOk s)]
theorem spec_PlainText (s : ByteArray) (w : World) (hs : s.size ≤ maxLen) : Calls Tryz.prog 11 #[.string s] w (RetV (pV s) w) := by
  have HB := Lib.hid (cutLst_bulk s)
  go_enter Tryz.func11, Tryz.ntmps11
  go_wp2_with fail
  refine (spec_CutWords s _ hs).mono ?_
  rintro e w1 ⟨v, rfl, hv, b1⟩
  have hv' := hv false
  clear hv
  cases hc : cutOk s
  · have E : Hid (pV s = .tuple #[.string ⟨#[]⟩, .bool false]) := by show _ = _; unfold pV pS pOk; rw [hc]; rfl
    clear hc hv'
    go_wp2_with fail
    go_ret2
    exact RetV.mk (by rw [E.out] <;> rfl) rfl b1
  · have E : Hid (pV s = .tuple #[.string (jS (cutLst s)), .bool (jOk (cutLst s))]) := by show _ = _; unfold pV pS pOk; rw [hc]; rfl
    clear hc
    go_wp2_with fail
    refine (spec_JoinWords (cutLst s) v _ _ _ (Nat.le_refl _) (Nat.le_trans HB.out (by decide)) hv').mono ?_
    rw [jV_eq]
    rintro e w2 ⟨rfl, b2⟩
    go_wp2_with fail
    go_ret2
    exact RetV.mk (by rw [E.out] <;> rfl) rfl (b1.trans (b2.mono b1.size))
end Go.Proofs.YtbikgakoeheahaaGreatDoor
