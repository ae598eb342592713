/-
  Words: is one valid, its number; by the program and by the reference. Conditions: the word reads as data; the table of keys lies.
-/
import Derived.Test.YtbikgakoeheahaaGreatDoorNumA
import Derived.Deep.QuietTactic
import Derived.BigQuiet
import Derived.Deep.RegionHeld3
namespace Go.Proofs.YtbikgakoeheahaaGreatDoor
open Go.RowKit Go.ChangeShapes Go.WideShapes Go.Deep
set_option linter.unusedSimpArgs false
set_option linter.unusedVariables false
def numOk (s : ByteArray) : Bool := decide (0 ≤ numW s)
theorem numL_minus {l : List UInt8} (h : l.head? = some 45) : numL l = none := by
  match l, h with
  | b :: r, h =>
    simp only [List.head?_cons, Option.some.injEq] at h
    subst h
    unfold numL
    split
    · rfl
    · exact decFrom_not (k := 0) (b := 45) rfl (by decide)
theorem numL_pos {l : List UInt8} {n : Nat} (h : numL l = some n) (h0 : l.head? ≠ some 48) : 1 ≤ n := by
  unfold numL at h
  split at h
  · cases h
  · rename_i hc
    match l, h0, hc, h with
    | [], _, hc, _ => exact absurd (Or.inl rfl) hc
    | b :: r, h0, hc, h =>
      simp only [Lib.decFrom] at h
      cases hd : Lib.digitVal b with
      | none => rw [hd] at h; cases h
      | some d =>
        rw [hd] at h
        have hv := Lib.digitVal_eq hd
        have hb : b ≠ 48 := fun e => h0 (by rw [e]; rfl)
        have : b.toNat ≠ 48 := fun e => hb (UInt8.toNat_inj.1 (by rw [e]; rfl))
        have h1 := decFrom_ge r _ n h
        have h2 : 0 < (HPow.hPow (10 : Nat) r.length : Nat) := Nat.pow_pos (by decide)
        have h3 : 1 * (HPow.hPow (10 : Nat) r.length : Nat) ≤ (0 * 10 + d) * (HPow.hPow (10 : Nat) r.length : Nat) := Nat.mul_le_mul_right _ (by omega)
        omega
theorem l3_ok (s : ByteArray) : ((l3 s).2 && inB (l3 s).1 0 255) = numOk s := by
  unfold numOk
  by_cases h45 : s.data.toList.head? = some 45
  · have hw : numW s = -1 := numW_no (numL_minus h45)
    rw [hw]
    unfold l3
    rw [if_pos h45]
    split
    · rfl
    · rename_i hc
      cases hn : numL s.data.toList.tail with
      | none => rfl
      | some n =>
        have h1 : 1 ≤ n := numL_pos hn (fun e => hc (Or.inr e))
        simp only [Bool.true_and]
        rw [inB_no (by omega)]
        rfl
  · unfold l3
    rw [if_neg h45]
    by_cases h17 : 17 < s.size
    · rw [if_pos h17, numW_long (by omega)]
      rfl
    · rw [if_neg h17]
      cases hn : numL s.data.toList with
      | none =>
        rw [numW_no hn]
        rfl
      | some n =>
        simp only [Bool.true_and]
        by_cases hq : n ≤ 255
        · have hw : numW s = n := by unfold numW; rw [hn]; simp only; rw [if_pos hq]
          rw [hw, inB_yes (by omega) (by omega)]
          simp
        · have hw : numW s = -1 := by unfold numW; rw [hn]; simp only; rw [if_neg hq]
          rw [hw, inB_no (by omega)]
          rfl
/-- is the text a sign? -/
def sigW (s : ByteArray) : Bool := decide (s.size = 1) && s.data.toList.all isSign
/-- is a word valid? -/
def wvB (kind : Int) (s : ByteArray) : Bool :=
  if kind = 1 then isName s else if kind = 2 then numOk s else if kind = 3 then sigW s else if kind = 4 then isKey s else false
theorem ba_one {s : ByteArray} (h : s.size = 1) : s = ⟨#[s[0]]⟩ := by
  obtain ⟨⟨l⟩⟩ := s
  match l, h with
  | [a], _ => rfl
theorem isSign_out {b : UInt8} (h : isSign b = true) : low b = false ∧ isDig b = false := by
  simp only [isSign, signsL, List.any_cons, List.any_nil, Bool.or_false, Bool.or_eq_true, beq_iff_eq] at h
  rcases h with h | h | h | h | h | h | h | h | h | h | h | h | h | h | h | h <;> subst h <;> exact ⟨by decide, by decide⟩
theorem cls_three (b : UInt8) : (cls b == 3) = isSign b := by
  unfold cls
  cases hs : isSign b with
  | true =>
    obtain ⟨h1, h2⟩ := isSign_out hs
    rw [h1, h2]
    simp
  | false =>
    cases low b
    · cases isDig b
      · simp
        split <;> simp
      · simp
    · simp
theorem sig_one {s : ByteArray} (h : s.size = 1) : sigW s = isSign s[0] := by
  unfold sigW
  have hl : s.data.toList = [s[0]] := by
    have e := ba_one h
    exact congrArg (fun x : ByteArray => x.data.toList) e
  rw [hl]
  simp [h]
theorem sig_not {s : ByteArray} (h : s.size ≠ 1) : sigW s = false := by unfold sigW; simp [h]
set_option maxRecDepth 100000 in
set_option maxHeartbeats 4000000 in
theorem spec_WordValid (kind : Int) (s : ByteArray) (w : World) (hs : s.size ≤ maxLen) : Calls Tryz.prog 45 #[.agg #[.int .i64 kind, .string s]] w (RetV (.bool (wvB kind s)) w) := by
  have hs' : s.size ≤ 9223372036854775807 := by unfold maxLen at hs; omega
  have hb0 : Below w.heap.size w (w.alloc (.cells #[.int .i64 kind, .string s] 45)) := (Below.refl _ _).alloc (Nat.le_refl _) _
  by_cases k1 : kind = 1
  case pos =>
    subst k1
    have E : Hid (wvB 1 s = isName s) := rfl
    go_enter Tryz.func45, Tryz.ntmps45
    go_wp2_with fail
    refine (spec_IsName s _ hs).mono ?_
    rintro e w1 ⟨rfl, b1⟩
    go_wp2_with fail
    go_ret
    exact RetV.mk (by rw [E.out] <;> rfl) rfl (hb0.trans (b1.mono hb0.size))
  have n1 : (kind == 1) = false := by simpa using k1
  by_cases k2 : kind = 2
  case pos =>
    subst k2
    have E : Hid (wvB 2 s = numOk s) := rfl
    have HL := Lib.hid (l3_ok s)
    clear k1 n1
    go_enter Tryz.func45, Tryz.ntmps45
    go_wp2_with fail
    refine (spec_l30Num s _ hs).mono ?_
    rintro e w' ⟨rfl, rfl⟩
    cases hk : (l3 s).2
    · have E2 : Hid (numOk s = false) := by have h := HL.out; rw [hk] at h; exact h.symm
      clear hk
      go_wp2_with fail
      go_ret
      exact RetV.mk (by rw [E.out, E2.out] <;> rfl) rfl hb0
    · have E2 : Hid (inB (l3 s).1 0 255 = numOk s) := by have h := HL.out; rw [hk] at h; exact h
      clear hk
      go_wp2_with fail
      refine (spec_l1In _ 0 255 _).mono ?_
      rintro e w' ⟨rfl, rfl⟩
      rw [E2.out]
      go_wp2_with fail
      go_ret
      exact RetV.mk (by rw [E.out] <;> rfl) rfl hb0
  have n2 : (kind == 2) = false := by simpa using k2
  by_cases k3 : kind = 3
  case pos =>
    subst k3
    have E : Hid (wvB 3 s = sigW s) := rfl
    clear k1 n1 k2 n2
    by_cases h1 : s.size = 1
    · have q1 : ((s.size : Int) == 1) = true := by rw [h1]; rfl
      have hp : 0 < s.size := by omega
      have E2 : Hid ((cls s[0] == 3) = sigW s) := by show _ = _; rw [sig_one h1, cls_three]
      clear h1
      go_enter Tryz.func45, Tryz.ntmps45
      go_wp2_with fail
      refine (spec_l1Class s[0] _).mono ?_
      rintro e w' ⟨rfl, rfl⟩
      go_wp2_with fail
      go_ret
      exact RetV.mk (by rw [E.out, ← E2.out] <;> rfl) rfl hb0
    · have q1 : ((s.size : Int) == 1) = false := by simp only [beq_eq_false_iff_ne]; omega
      have E2 : Hid (sigW s = false) := sig_not h1
      clear h1
      go_enter Tryz.func45, Tryz.ntmps45
      go_wp2_with fail
      go_ret
      exact RetV.mk (by rw [E.out, E2.out] <;> rfl) rfl hb0
  have n3 : (kind == 3) = false := by simpa using k3
  by_cases k4 : kind = 4
  case pos =>
    subst k4
    have E : Hid (wvB 4 s = isKey s) := rfl
    clear k1 n1 k2 n2 k3 n3
    go_enter Tryz.func45, Tryz.ntmps45
    go_wp2_with fail
    refine (spec_l1Key s _).mono ?_
    rintro e w1 ⟨rfl, b1⟩
    go_wp2_with fail
    go_ret
    exact RetV.mk (by rw [E.out] <;> rfl) rfl (hb0.trans (b1.mono hb0.size))
  have n4 : (kind == 4) = false := by simpa using k4
  have E : Hid (wvB kind s = false) := by show _ = _; unfold wvB; rw [if_neg k1, if_neg k2, if_neg k3, if_neg k4]
  clear k1 k2 k3 k4
  go_enter Tryz.func45, Tryz.ntmps45
  go_wp2_with fail
  go_ret
  exact RetV.mk (by rw [E.out] <;> rfl) rfl hb0
theorem indexByte_iff (l : List UInt8) (c : UInt8) : (0 : Int) ≤ Lib.indexByte l c ↔ (l.any fun b => b == c) = true := by
  induction l with
  | nil => simp [Lib.indexByte]
  | cons b r ih =>
    rw [List.any_cons, Bool.or_eq_true, ← ih]
    have hge := Lib.indexByte_ge r c
    simp only [Lib.indexByte]
    by_cases hb : (b == c) = true
    · rw [if_pos hb]
      exact ⟨fun _ => Or.inl hb, fun _ => Int.le_refl _⟩
    · rw [if_neg hb]
      by_cases hm : (Lib.indexByte r c == -1) = true
      · rw [if_pos hm]
        have h1 : Lib.indexByte r c = -1 := by simpa using hm
        constructor
        · intro h; omega
        · intro h
          rcases h with h | h
          · exact absurd h hb
          · omega
      · rw [if_neg hm]
        have h1 : Lib.indexByte r c ≠ -1 := by simpa using hm
        constructor
        · intro h; right; omega
        · intro h; omega
theorem indexByte_any (l : List UInt8) (c : UInt8) : decide ((0 : Int) ≤ Lib.indexByte l c) = l.any fun b => b == c := by
  rw [Bool.eq_iff_iff, decide_eq_true_iff]
  exact indexByte_iff l c
theorem contains_one (c : UInt8) : decide ((0 : Int) ≤ Lib.indexByte signsL.data.toList c) = isSign c := indexByte_any _ c
set_option maxRecDepth 100000 in
set_option maxHeartbeats 4000000 in
theorem impl_WordValid (kind : Int) (s : ByteArray) (w : World) (hs : s.size ≤ maxLen) (ht : KeysAt w) : Calls Tryz.prog 36 #[.agg #[.int .i64 kind, .string s]] w (RetV (.bool (wvB kind s)) w) := by
  have hs' : s.size ≤ 9223372036854775807 := by unfold maxLen at hs; omega
  have hb0 : Below w.heap.size w (w.alloc (.cells #[.int .i64 kind, .string s] 45)) := (Below.refl _ _).alloc (Nat.le_refl _) _
  have ht0 := ht.below hb0 (Nat.le_refl _)
  by_cases k1 : kind = 1
  case pos =>
    subst k1
    have E : Hid (wvB 1 s = isName s) := rfl
    go_enter Tryz.func36, Tryz.ntmps36
    go_wp2_with fail
    refine (impl_IsName s _ hs ht0).mono ?_
    rintro e w1 ⟨rfl, b1⟩
    go_wp2_with fail
    go_ret
    exact RetV.mk (by rw [E.out] <;> rfl) rfl (hb0.trans (b1.mono hb0.size))
  have n1 : (kind == 1) = false := by simpa using k1
  by_cases k2 : kind = 2
  case pos =>
    subst k2
    have E : Hid (wvB 2 s = decide (0 ≤ numW s)) := rfl
    clear k1 n1
    go_enter Tryz.func36, Tryz.ntmps36
    go_wp2_with fail
    refine (impl_decimal s _ hs).mono ?_
    rintro e w1 ⟨rfl, b1⟩
    go_wp2_with fail
    go_ret
    exact RetV.mk (by rw [E.out] <;> rfl) rfl (hb0.trans (b1.mono hb0.size))
  have n2 : (kind == 2) = false := by simpa using k2
  by_cases k3 : kind = 3
  case pos =>
    subst k3
    have E : Hid (wvB 3 s = sigW s) := rfl
    clear k1 n1 k2 n2
    by_cases h1 : s.size = 1
    · have E2 : Hid (decide ((0 : Int) ≤ Lib.indexByte signsL.data.toList s[0]) = sigW s) := by show _ = _; rw [sig_one h1, contains_one]
      obtain ⟨c, hc⟩ : ∃ c, s[0] = c := ⟨_, rfl⟩
      have he := ba_one h1
      rw [hc] at he E2
      clear hc h1
      subst he
      go_enter Tryz.func36, Tryz.ntmps36
      go_wp2_with fail
      refine (Tryz.strings_Contains_one signsL c _).mono ?_
      rintro e w' ⟨rfl, rfl⟩
      rw [E2.out]
      go_wp2_with fail
      go_ret
      exact RetV.mk (by rw [E.out] <;> rfl) rfl hb0
    · have q1 : ((s.size : Int) == 1) = false := by simp only [beq_eq_false_iff_ne]; omega
      have E2 : Hid (sigW s = false) := sig_not h1
      clear h1
      go_enter Tryz.func36, Tryz.ntmps36
      go_wp2_with fail
      go_ret
      exact RetV.mk (by rw [E.out, E2.out] <;> rfl) rfl hb0
  have n3 : (kind == 3) = false := by simpa using k3
  by_cases k4 : kind = 4
  case pos =>
    subst k4
    have E : Hid (wvB 4 s = isKey s) := rfl
    have R0 : Row (w.alloc (.cells #[.int .i64 4, .string s] 45)) w.heap.size 45 #[.int .i64 4, .string s] := Row.new w _ _
    clear k1 n1 k2 n2 k3 n3
    go_enter Tryz.func36, Tryz.ntmps36
    go_wp2_with fail
    have y1 : (w.alloc (.cells #[.int .i64 4, .string s] 45)).cell? ⟨w.heap.size, 1, none⟩ = some (.string s) := R0.cell 1
    go_region_held3 (fun w' => w'.cell? ⟨w.heap.size, 1, none⟩ = some (.string s)) (assumption) ((go_at_call 52; refine (strs_Contains keysL s (.slice (some ⟨0, 0, none⟩) keysL.length 9) _ 0 _ (Nat.le_refl _) (show KeysAt (w.alloc (.cells #[.int .i64 4, .string s] 45)).drew from ht0).sl).mono ?_; rintro e w1 ⟨rfl, b1⟩; have hb1 : Below w.heap.size w w1 := hb0.drew.trans (b1.mono hb0.size); have y2 : w1.cell? ⟨w.heap.size, 1, none⟩ = some (.string s) := (b1.cell (p := ⟨w.heap.size, 1, none⟩) (by simp)).trans y1))
    go_wp2_with fail
    go_ret
    exact RetV.mk (by rw [E.out] <;> rfl) rfl hb1
  have n4 : (kind == 4) = false := by simpa using k4
  have E : Hid (wvB kind s = false) := by show _ = _; unfold wvB; rw [if_neg k1, if_neg k2, if_neg k3, if_neg k4]
  clear k1 k2 k3 k4
  go_enter Tryz.func36, Tryz.ntmps36
  go_wp2_with fail
  go_ret
  exact RetV.mk (by rw [E.out] <;> rfl) rfl hb0
end Go.Proofs.YtbikgakoeheahaaGreatDoor
