/-
  Numbers of words, by the program and by the reference. Condition: the text reads as data.
-/
import Derived.Test.YthfinoapfbhgcaaDoorName3
import Derived.Lib.Atoi
import Derived.Lib.SmallJoins
namespace Go.Proofs.YthfinoapfbhgcaaDoor
open Go.RowKit Go.ChangeShapes Go.WideShapes Go.Deep
set_option linter.unusedSimpArgs false
set_option linter.unusedVariables false
/-- a text in decimal without needless zeros -/
def numL (l : List UInt8) : Option Nat := if l = [] ∨ (1 < l.length ∧ l.head? = some 48) then none else Lib.decFrom 0 l
/-- the number of a text, at most 255; or -1 -/
def numW (s : ByteArray) : Int := match numL s.data.toList with
  | some n => if n ≤ 255 then (n : Int) else -1
  | none => -1
theorem decFrom_ge : ∀ (l : List UInt8) (acc n : Nat), Lib.decFrom acc l = some n → acc * (HPow.hPow (10 : Nat) l.length : Nat) ≤ n
  | [], acc, n, h => by simp only [Lib.decFrom, Option.some.injEq] at h; subst h; simp
  | b :: r, acc, n, h => by
    simp only [Lib.decFrom] at h
    cases hd : Lib.digitVal b with
    | none => rw [hd] at h; cases h
    | some d =>
      rw [hd] at h
      have h1 := decFrom_ge r _ n h
      have h2 : acc * 10 * (HPow.hPow (10 : Nat) r.length : Nat) ≤ (acc * 10 + d) * (HPow.hPow (10 : Nat) r.length : Nat) := Nat.mul_le_mul_right _ (by omega)
      rw [List.length_cons, Nat.pow_succ, Nat.mul_comm ((HPow.hPow (10 : Nat) r.length : Nat)) 10, ← Nat.mul_assoc]
      omega
theorem decFrom_all : ∀ (l : List UInt8) (acc : Nat), l.all isDig = true → ∃ n, Lib.decFrom acc l = some n
  | [], acc, _ => ⟨acc, rfl⟩
  | b :: r, acc, h => by
    rw [List.all_cons, Bool.and_eq_true] at h
    have hb : 48 ≤ b.toNat ∧ b.toNat ≤ 57 := by simpa [isDig] using h.1
    have hd : Lib.digitVal b = some (b.toNat - 48) := by unfold Lib.digitVal; rw [if_pos hb]
    obtain ⟨n, hn⟩ := decFrom_all r (acc * 10 + (b.toNat - 48)) h.2
    exact ⟨n, by simp only [Lib.decFrom, hd]; exact hn⟩
theorem isDig_val {b : UInt8} {d : Nat} (h : Lib.digitVal b = some d) : isDig b = true := by
  have := Lib.digitVal_eq h
  simp [isDig, this.1, this.2.1]
theorem decFrom_not {l : List UInt8} {acc k : Nat} {b : UInt8} (hk : l[k]? = some b) (hb : isDig b = false) : Lib.decFrom acc l = none := by
  cases h : Lib.decFrom acc l with
  | none => rfl
  | some n =>
    obtain ⟨d, hd⟩ := Lib.digit_of_decFrom l acc n h k b hk
    rw [isDig_val hd] at hb
    cases hb
/-- a text with more than three digits is no small number -/
theorem numL_long {l : List UInt8} {n : Nat} (h : numL l = some n) (hl : 3 < l.length) : 255 < n := by
  unfold numL at h
  split at h
  · cases h
  · rename_i hc
    match l, hl, hc, h with
    | b :: r, hl, hc, h =>
      simp only [List.length_cons] at hl
      simp only [Lib.decFrom] at h
      cases hd : Lib.digitVal b with
      | none => rw [hd] at h; cases h
      | some d =>
        rw [hd] at h
        have hv := Lib.digitVal_eq hd
        have h48 : b ≠ 48 := fun e => hc (Or.inr ⟨by simp only [List.length_cons]; omega, by rw [e]; rfl⟩)
        have hd1 : 1 ≤ d := by
          have : b.toNat ≠ 48 := fun e => h48 (UInt8.toNat_inj.1 (by rw [e]; rfl))
          omega
        have h1 := decFrom_ge r _ n h
        have h2 : (HPow.hPow (10 : Nat) (3 : Nat) : Nat) ≤ (HPow.hPow (10 : Nat) r.length : Nat) := Nat.pow_le_pow_right (by decide) (by omega)
        have h3 : 1 * (HPow.hPow (10 : Nat) r.length : Nat) ≤ (0 * 10 + d) * (HPow.hPow (10 : Nat) r.length : Nat) := Nat.mul_le_mul_right _ (by omega)
        omega
theorem numW_no {s : ByteArray} (h : numL s.data.toList = none) : numW s = -1 := by unfold numW; rw [h]
theorem numW_long {s : ByteArray} (h : 3 < s.size) : numW s = -1 := by
  unfold numW
  cases hn : numL s.data.toList with
  | none => rfl
  | some n =>
    have := numL_long hn (by simpa using h)
    simp only
    rw [if_neg (by omega)]
theorem numL_zero {s : ByteArray} (h : 1 < s.size) (h0 : s[0] = 48) : numL s.data.toList = none := by
  unfold numL
  have h1 : 1 < s.data.toList.length := by simpa using h
  have hg : s.data.toList[0] = s[0] := by simp; rfl
  have hh : s.data.toList.head? = some 48 := by rw [List.head?_eq_getElem?, List.getElem?_eq_getElem (by omega), hg, h0]
  rw [if_pos (Or.inr ⟨h1, hh⟩)]
theorem numL_dec {s : ByteArray} (h : 0 < s.size) (h0 : ¬ (1 < s.size ∧ s[0] = 48)) : numL s.data.toList = Lib.decFrom 0 s.data.toList := by
  unfold numL
  rw [if_neg]
  intro hc
  rcases hc with hc | ⟨hc, hc2⟩
  · have : s.data.toList.length = 0 := by rw [hc]; rfl
    have : s.size = 0 := by simpa using this
    omega
  · have h1 : 1 < s.size := by simpa using hc
    have hg : s.data.toList[0]'(by omega) = s[0] := by simp; rfl
    rw [List.head?_eq_getElem?, List.getElem?_eq_getElem (by omega), hg] at hc2
    exact h0 ⟨h1, Option.some.inj hc2⟩
theorem impl_isDigit (b : UInt8) (w : World) : Calls Tryd.prog 73 #[.int .u8 (b.toNat : Int)] w (RetW (.bool (isDig b)) w) := by
  by_cases h1 : 48 ≤ b.toNat
  · have g1 : (48 : Int) ≤ (b.toNat : Int) := by omega
    by_cases h2 : b.toNat ≤ 57
    · have g2 : (b.toNat : Int) ≤ 57 := by omega
      have E : Hid (isDig b = true) := by show _ = _; simp [isDig, h1, h2]
      clear h1 h2
      go_enter Tryd.func73, Tryd.ntmps73
      go_wp2_with fail
      go_ret
      exact RetW.mk (by rw [E.out] <;> rfl) rfl
    · have g2 : decide ((b.toNat : Int) ≤ 57) = false := by simp; omega
      have E : Hid (isDig b = false) := by show _ = _; simp [isDig, h2]
      clear h1 h2
      go_enter Tryd.func73, Tryd.ntmps73
      go_wp2_with fail
      go_ret
      exact RetW.mk (by rw [E.out] <;> rfl) rfl
  · have g1 : decide ((48 : Int) ≤ (b.toNat : Int)) = false := by simp; omega
    have E : Hid (isDig b = false) := by show _ = _; simp [isDig, h1]
    clear h1
    go_enter Tryd.func73, Tryd.ntmps73
    go_wp2_with fail
    go_ret
    exact RetW.mk (by rw [E.out] <;> rfl) rfl
theorem atoi_of {l : List UInt8} {n : Nat} (hd : l.all isDig = true) (hne : l ≠ []) (h : Lib.decFrom 0 l = some n) : Lib.atoi l = some (n : Int) := by
  match l, hne with
  | b :: r, _ =>
    have hb : 48 ≤ b.toNat ∧ b.toNat ≤ 57 := by
      rw [List.all_cons, Bool.and_eq_true] at hd
      simpa [isDig] using hd.1
    have h45 : (b == 45) = false := by
      simp only [beq_eq_false_iff_ne]
      intro e
      subst e
      exact absurd hb (by decide)
    have h43 : (b == 43) = false := by
      simp only [beq_eq_false_iff_ne]
      intro e
      subst e
      exact absurd hb (by decide)
    simp only [Lib.atoi, h45, h43, Lib.decNat, h]
    simp
set_option maxRecDepth 100000 in
set_option maxHeartbeats 2000000 in
theorem impl_decimal (s : ByteArray) (w : World) (hs : s.size ≤ maxLen) : Calls Tryd.prog 52 #[.string s, .int .i64 255] w (RetV (.int .i64 (numW s)) w) := by
  have hs' : s.size ≤ 9223372036854775807 := by unfold maxLen at hs; omega
  by_cases h0 : s.size = 0
  · obtain rfl : s = ⟨#[]⟩ := by
      obtain ⟨⟨l⟩⟩ := s
      have : l = [] := List.eq_nil_of_length_eq_zero (by simpa [ByteArray.size] using h0)
      rw [this]
    have E : Hid (numW ⟨#[]⟩ = -1) := by show _ = _; exact numW_no (by unfold numL; simp)
    clear h0
    go_enter Tryd.func52, Tryd.ntmps52
    go_wp2_with fail
    go_ret
    exact RetV.mk (by rw [E.out] <;> rfl) rfl (Below.refl _ _)
  have hpos : 0 < s.size := by omega
  have hem : s.toList.isEmpty = false := by
    rw [ByteArray.toList_eq]
    cases hl : s.data.toList with
    | nil =>
      have : s.data.toList.length = 0 := by rw [hl]; rfl
      have : s.size = 0 := by simpa using this
      omega
    | cons a r => rfl
  have hem2 : (!s.toList.isEmpty) = true := by rw [hem]; rfl
  by_cases h5 : 5 < s.size
  · have E : Hid (numW s = -1) := numW_long (by omega)
    have g5 : (5 : Int) < (s.size : Int) := by omega
    clear h0
    go_enter Tryd.func52, Tryd.ntmps52
    go_wp2_with fail
    go_ret
    exact RetV.mk (by rw [E.out] <;> rfl) rfl (Below.refl _ _)
  have g5 : decide ((5 : Int) < (s.size : Int)) = false := by simp; omega
  by_cases h1 : 1 < s.size ∧ s[0] = 48
  · obtain ⟨h1, hz⟩ := h1
    have E : Hid (numW s = -1) := numW_no (numL_zero h1 hz)
    have g1 : (1 : Int) < (s.size : Int) := by omega
    have gz : ((s[0].toNat : Int) == 48) = true := by rw [hz]; rfl
    clear h0 hz
    go_enter Tryd.func52, Tryd.ntmps52
    go_wp2_with fail
    go_ret
    exact RetV.mk (by rw [E.out] <;> rfl) rfl (Below.refl _ _)
  have hD := Lib.hid (numL_dec hpos h1)
  have hz : decide ((1 : Int) < (s.size : Int)) = false ∨ ((1 : Int) < (s.size : Int) ∧ ((s[0].toNat : Int) == 48) = false) := by
    by_cases h2 : 1 < s.size
    · right
      refine ⟨by omega, ?_⟩
      simp only [beq_eq_false_iff_ne]
      intro h
      exact h1 ⟨h2, UInt8.toNat_inj.1 (by have : s[0].toNat = 48 := by omega
                                          rw [this]; rfl)⟩
    · left
      simp
      omega
  clear h0 h1
  rcases hz with gz | ⟨g1, gz⟩
  all_goals
    go_enter Tryd.func52, Tryd.ntmps52
    go_wp2_with fail
    go_loop [27] (fun i => ∃ k : Nat, k ≤ s.size ∧ i = .int .i64 k ∧ Hid ((s.data.toList.take k).all isDig = true)) (fun i => s.size - (intOf i).toNat)
    case atStart => exact ⟨0, by omega, rfl, (show _ = _ by simp)⟩
    case round =>
      obtain ⟨k, hk, rfl, HT⟩ := hrel
      by_cases hkl : k < s.size
      · have hkl' : k < s.data.toList.length := by simpa using hkl
        have hg : s.data.toList[k] = s[k] := by simp; rfl
        have HG := Lib.hid hg
        clear hg
        cases hd : isDig s[k]
        case false =>
          have E : Hid (numW s = -1) := by
            show _ = _
            refine numW_no ?_
            rw [hD.out]
            exact decFrom_not (k := k) (b := s[k]) (by rw [List.getElem?_eq_getElem hkl', HG.out]) hd
          replace hd := Lib.hid hd
          clear HT
          go_wp2_with fail
          refine (impl_isDigit s[k] _).mono ?_
          rintro e w' ⟨rfl, rfl⟩
          rw [hd.out]
          go_wp2_with fail
          go_ret
          exact RetV.mk (by rw [E.out] <;> rfl) rfl (Below.refl _ _)
        have E : Hid ((s.data.toList.take (k + 1)).all isDig = true) := by
          show _ = _
          rw [List.take_succ_eq_append_getElem hkl', List.all_append, HT.out, HG.out, List.all_cons, hd]
          rfl
        replace hd := Lib.hid hd
        clear HT
        go_wp2_with fail
        refine (impl_isDigit s[k] _).mono ?_
        rintro e w' ⟨rfl, rfl⟩
        rw [hd.out]
        go_wp2_with fail
        go_round
        case rel => exact ⟨k + 1, by omega, by go_num, E⟩
        case measure => simp [intOf]; omega
      · have hall : s.data.toList.all isDig = true := by
          have h := HT.out
          rw [List.take_of_length_le (by simp; omega)] at h
          exact h
        obtain ⟨n, hn⟩ := decFrom_all _ 0 hall
        have hne : s.data.toList ≠ [] := fun e => by
          have : s.data.toList.length = 0 := by rw [e]; rfl
          have : s.size = 0 := by simpa using this
          omega
        have hat := Lib.hid (fun w' => Tryd.strconv_Atoi s (n : Int) (by omega) (atoi_of hall hne hn) w')
        have E : Hid (numW s = if n ≤ 255 then (n : Int) else -1) := by
          show _ = _
          unfold numW
          rw [hD.out, hn]
        clear HT hall hn hne
        go_wp2_with fail
        refine (hat.out _).mono ?_
        rintro e w' ⟨rfl, t, rfl⟩
        have hb := Go.Joins.below_bytesWorld w.heap.size w 5 t (Nat.le_refl _)
        generalize Lib.bytesWorld w 5 t = w2 at hb ⊢
        by_cases h255 : n ≤ 255
        · have q : (n : Int) ≤ 255 := by omega
          have E2 : Hid (numW s = n) := by have := E.out; rw [if_pos h255] at this; exact this
          clear E h255
          go_wp2_with fail
          go_ret
          exact RetV.mk (by rw [E2.out] <;> rfl) rfl hb
        · have q : (255 : Int) < (n : Int) := by omega
          have E2 : Hid (numW s = -1) := by have := E.out; rw [if_neg h255] at this; exact this
          clear E h255
          go_wp2_with fail
          go_ret
          exact RetV.mk (by rw [E2.out] <;> rfl) rfl hb
end Go.Proofs.YthfinoapfbhgcaaDoor
