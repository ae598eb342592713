/-
  Words cut from a text: the program's own choice of kinds and runs agrees with the reference's. No condition.
-/
import Derived.Test.YtiaioiijdlmilaaDoorCut2
namespace Go.Proofs.YtiaioiijdlmilaaDoor
open Go.RowKit Go.ChangeShapes Go.WideShapes Go.Deep
set_option linter.unusedSimpArgs false
set_option linter.unusedVariables false
/-- does the program take x into a word that begins with b? -/
def pI (b x : UInt8) : Bool := if low b = true then low x else if isDig b = true then isDig x else false
theorem pI_goes {b : UInt8} (h0 : cls b ≠ 0) (h4 : cls b ≠ 4) (x : UInt8) : pI b x = goes b x := by
  unfold pI
  cases h1 : low b with
  | true => rw [if_pos rfl, goes_low h1]
  | false =>
    rw [if_neg (by decide)]
    cases h2 : isDig b with
    | true => rw [if_pos rfl, goes_dig h2]
    | false =>
      rw [if_neg (by decide)]
      rcases cls_cases h1 h2 with h | h | h
      · rw [goes_three h]
      · exact absurd h h4
      · exact absurd h h0
theorem ba_loop (bs : ByteArray) : ∀ (n i : Nat) (r : List UInt8), bs.size - i = n → ByteArray.toList.loop bs i r = r.reverse ++ bs.data.toList.drop i := by
  intro n
  induction n with
  | zero =>
    intro i r h
    unfold ByteArray.toList.loop
    rw [if_neg (by omega), List.drop_eq_nil_of_le (by show bs.data.toList.length ≤ i; simp; omega), List.append_nil]
  | succ n ih =>
    intro i r h
    have hi : i < bs.data.toList.length := by show i < _; simp; omega
    unfold ByteArray.toList.loop
    rw [if_pos (by omega), ih (i + 1) _ (by omega), List.drop_eq_getElem_cons hi]
    have e : bs.get! i = bs.data.toList[i] := by
      have hi2 : i < bs.data.size := by simpa using hi
      show bs.data[i]! = _
      rw [getElem!_pos bs.data i hi2]
      simp
    rw [e]
    simp
theorem ba_toList (bs : ByteArray) : bs.toList = bs.data.toList := (ba_loop bs _ 0 [] rfl).trans (by simp)
theorem key_low {b : UInt8} {t : ByteArray} (hb : t.data.toList.head? = some b) (hk : isKey t = true) : low b = true := by
  unfold isKey at hk
  obtain ⟨k, hm, he⟩ := List.any_eq_true.1 hk
  have h1 : t.toList = k.toList := by simpa using he
  have h4 : ∀ k ∈ keysL, (k.toList.head?.map low) = some true := by decide +kernel
  have h5 := h4 k hm
  rw [← h1] at h5
  have h6 : t.toList = t.data.toList := ba_toList t
  rw [h6, hb] at h5
  exact Option.some.inj h5
theorem key_no {b : UInt8} {t : ByteArray} (hb : t.data.toList.head? = some b) (h : low b = false) : isKey t = false := by
  cases hk : isKey t with
  | false => rfl
  | true =>
    have := key_low hb hk
    rw [h] at this
    cases this
theorem kind_same {b : UInt8} {t : ByteArray} (hb : t.data.toList.head? = some b) (h0 : cls b ≠ 0) (h4 : cls b ≠ 4) : kindI b t = kindS b t := by
  unfold kindI kindS
  cases hd : isDig b with
  | true =>
    have hl : low b = false := by
      cases h : low b with
      | false => rfl
      | true =>
        have := low_dig h
        rw [hd] at this
        cases this
    rw [if_pos rfl, key_no hb hl, if_neg (by decide), cls_dig hd]
  | false =>
    rw [if_neg (by decide)]
    cases hk : isKey t with
    | true => rfl
    | false =>
      simp only [Bool.false_eq_true, if_false]
      cases hl : low b with
      | true => rw [if_pos rfl, cls_low hl]
      | false =>
        simp only [Bool.false_eq_true, if_false]
        rcases cls_cases hl hd with h | h | h
        · exact h.symm
        · exact absurd h h4
        · exact absurd h h0
theorem zero_bad {b : UInt8} {t : ByteArray} (h0 : cls b = 0) (ht : t.data.toList = [b]) : wvB (kindI b t) t = false := by
  have hl : low b = false := by
    cases h : low b with
    | false => rfl
    | true => rw [cls_low h] at h0; cases h0
  have hd : isDig b = false := by
    cases h : isDig b with
    | false => rfl
    | true => rw [cls_dig h] at h0; cases h0
  have hk : isKey t = false := key_no (by rw [ht]; rfl) hl
  have e : kindI b t = 3 := by unfold kindI; rw [hd, hk, hl]; rfl
  rw [e]
  show sigW t = false
  have hs : isSign b = false := by
    rw [← cls_three, h0]
    rfl
  unfold sigW
  rw [ht]
  simp [hs]
end Go.Proofs.YtiaioiijdlmilaaDoor
