/-
  Names by the reference. Conditions: the argument reads as data.
-/
import Derived.Test.YthfinoapfbhgcaaDoorName
namespace Go.Proofs.YthfinoapfbhgcaaDoor
open Go.RowKit Go.ChangeShapes Go.WideShapes Go.Deep
set_option linter.unusedSimpArgs false
set_option linter.unusedVariables false
def isDig (b : UInt8) : Bool := decide (48 ≤ b.toNat ∧ b.toNat ≤ 57)
def signsL : ByteArray := ⟨#[40, 41, 123, 125, 59, 44, 43, 45, 42, 47, 37, 60, 61, 38, 33, 64]⟩
def isSign (b : UInt8) : Bool := signsL.data.toList.any fun c => c == b
/-- the class of a byte: 1 a letter, 2 a digit, 3 a sign, 4 a blank, 0 another -/
def cls (b : UInt8) : Int := if low b = true then 1 else if isDig b = true then 2 else if isSign b = true then 3 else if b.toNat = 32 ∨ b.toNat = 10 then 4 else 0
theorem cls_one (b : UInt8) : (cls b == 1) = low b := by
  unfold cls
  cases h : low b
  · simp only [Bool.false_eq_true, if_false]
    split
    · rfl
    · split
      · rfl
      · split <;> rfl
  · simp

theorem spec_l30Find (s : ByteArray) (c : UInt8) (w : World) (hs : s.size ≤ maxLen) :
    Calls Tryd.prog 112 #[.string s, .int .u8 (c.toNat : Int)] w (RetW (.int .i64 (firstIdx (fun b => b == c) s.data.toList)) w) := by
  unfold maxLen at hs
  go_enter Tryd.func112, Tryd.ntmps112
  go_wp2_with fail
  go_loop [5] (fun i => ∃ k : Nat, k ≤ s.size ∧ i = .int .i64 k ∧ Hid (firstIdx (fun b => b == c) s.data.toList = firstFrom (fun b => b == c) k (s.data.toList.drop k))) (fun i => s.size - (intOf i).toNat)
  case atStart => exact ⟨0, by omega, rfl, (show _ = _ from rfl)⟩
  case round =>
    obtain ⟨k, hk, rfl, HT⟩ := hrel
    by_cases hkl : k < s.size
    · have hkl' : k < s.data.toList.length := by simpa using hkl
      have hg : s.data.toList[k] = s[k] := by simp; rfl
      by_cases he : s[k] = c
      · have he1 : ((s[k].toNat : Int) == (c.toNat : Int)) = true := by rw [he]; simp
        have E : Hid (firstIdx (fun b => b == c) s.data.toList = k) := HT.out.trans (firstFrom_hit hkl' hg (by simpa using he))
        clear he HT hg
        go_wp2_with fail
        go_ret
        exact RetW.mk (by rw [E.out] <;> rfl) rfl
      · have he1 : ((s[k].toNat : Int) == (c.toNat : Int)) = false := by
          simp only [beq_eq_false_iff_ne]
          intro h
          exact he (UInt8.toNat_inj.1 (by omega))
        have E : Hid (firstIdx (fun b => b == c) s.data.toList = firstFrom (fun b => b == c) (k + 1) (s.data.toList.drop (k + 1))) := HT.out.trans (firstFrom_miss hkl' hg (by simpa using he))
        clear he HT hg
        go_wp2_with fail
        go_round
        case rel => exact ⟨k + 1, by omega, by go_num, E⟩
        case measure => simp [intOf]; omega
    · have E : Hid (firstIdx (fun b => b == c) s.data.toList = -1) := HT.out.trans (firstFrom_end (by simp; omega))
      clear HT
      go_wp2_with fail
      go_ret
      exact RetW.mk (by rw [E.out] <;> rfl) rfl

theorem spec_l1Class (b : UInt8) (w : World) : Calls Tryd.prog 96 #[.int .u8 (b.toNat : Int)] w (RetW (.int .i64 (cls b)) w) := by
  by_cases h1 : low b = true
  · have E : Hid (cls b = 1) := by show _ = _; unfold cls; rw [if_pos h1]
    have g : 97 ≤ b.toNat ∧ b.toNat ≤ 122 := by simpa [low] using h1
    obtain ⟨g0, g1⟩ := g
    have g0 : (97 : Int) ≤ (b.toNat : Int) := by omega
    have g1 : (b.toNat : Int) ≤ 122 := by omega
    clear h1
    go_enter Tryd.func96, Tryd.ntmps96
    go_wp2_with fail
    go_ret
    exact RetW.mk (by rw [E.out] <;> rfl) rfl
  · have h1' : low b = false := by simpa using h1
    have g : b.toNat < 97 ∨ 122 < b.toNat := by simp [low] at h1'; omega
    by_cases h2 : isDig b = true
    · have E : Hid (cls b = 2) := by show _ = _; unfold cls; rw [if_neg h1, if_pos h2]
      have g2 : 48 ≤ b.toNat ∧ b.toNat ≤ 57 := by simpa [isDig] using h2
      obtain ⟨g0, g1⟩ := g2
      have g0 : (48 : Int) ≤ (b.toNat : Int) := by omega
      have g1 : (b.toNat : Int) ≤ 57 := by omega
      have g3 : decide ((97 : Int) ≤ (b.toNat : Int)) = false := by simp; omega
      clear h1 h2 h1' g
      go_enter Tryd.func96, Tryd.ntmps96
      go_wp2_with fail
      go_ret
      exact RetW.mk (by rw [E.out] <;> rfl) rfl
    · have h2' : isDig b = false := by simpa using h2
      have g2 : b.toNat < 48 ∨ 57 < b.toNat := by simp [isDig] at h2'; omega
      have hf : ∃ r : Int, firstIdx (fun c => c == b) signsL.data.toList = r ∧ decide (0 ≤ r) = isSign b := ⟨_, rfl, firstIdx_any _ _⟩
      obtain ⟨r, hr, hr2⟩ := hf
      have hl : Calls Tryd.prog 112 #[.string signsL, .int .u8 (b.toNat : Int)] w (RetW (.int .i64 r) w) := by rw [← hr]; exact spec_l30Find signsL b w (by decide)
      replace hl := Lib.hid hl
      clear hr
      have gg : (b.toNat < 48) ∨ (57 < b.toNat ∧ b.toNat < 97) ∨ 122 < b.toNat := by omega
      clear g g2
      have hN : cls b = if 0 ≤ r then 3 else if b.toNat = 32 ∨ b.toNat = 10 then 4 else 0 := by
        unfold cls
        rw [if_neg h1, if_neg h2]
        by_cases h0 : 0 ≤ r
        · rw [if_pos h0, if_pos (by rw [← hr2]; simpa using h0)]
        · rw [if_neg h0, if_neg (by rw [← hr2]; simpa using h0)]
      clear h1 h2 h1' h2' hr2
      replace hN := Lib.hid hN
      by_cases h0 : 0 ≤ r
      · have E : Hid (cls b = 3) := by have := hN.out; rw [if_pos h0] at this; exact this
        clear hN
        rcases gg with g | ⟨g, g'⟩ | g
        all_goals
          first | (have q0 : decide ((48 : Int) ≤ (b.toNat : Int)) = false := by (simp; omega)) | (have q0 : decide ((b.toNat : Int) ≤ 57) = false := by (simp; omega))
          first | (have q1 : decide ((97 : Int) ≤ (b.toNat : Int)) = false := by (simp; omega)) | (have q1 : decide ((b.toNat : Int) ≤ 122) = false := by (simp; omega))
          go_enter Tryd.func96, Tryd.ntmps96
          go_wp2_with fail
          refine hl.out.mono ?_
          rintro e w' ⟨rfl, rfl⟩
          go_wp2_with fail
          go_ret
          exact RetW.mk (by rw [E.out] <;> rfl) rfl
      · have q2 : r < 0 := by omega
        by_cases h4 : b.toNat = 32 ∨ b.toNat = 10
        · have E : Hid (cls b = 4) := by have := hN.out; rw [if_neg h0, if_pos h4] at this; exact this
          clear hN h0 gg
          rcases h4 with h | h
          all_goals
            rw [h] at hl ⊢
            clear h
            go_enter Tryd.func96, Tryd.ntmps96
            go_wp2_with fail
            refine hl.out.mono ?_
            rintro e w' ⟨rfl, rfl⟩
            go_wp2_with fail
            go_ret
            exact RetW.mk (by rw [E.out] <;> rfl) rfl
        · have E : Hid (cls b = 0) := by have := hN.out; rw [if_neg h0, if_neg h4] at this; exact this
          have q3 : ((b.toNat : Int) == 32) = false := by simp; omega
          have q4 : ((b.toNat : Int) == 10) = false := by simp; omega
          clear hN h0 h4
          rcases gg with g | ⟨g, g'⟩ | g
          all_goals
            first | (have q0 : decide ((48 : Int) ≤ (b.toNat : Int)) = false := by (simp; omega)) | (have q0 : decide ((b.toNat : Int) ≤ 57) = false := by (simp; omega))
            first | (have q1 : decide ((97 : Int) ≤ (b.toNat : Int)) = false := by (simp; omega)) | (have q1 : decide ((b.toNat : Int) ≤ 122) = false := by (simp; omega))
            go_enter Tryd.func96, Tryd.ntmps96
            go_wp2_with fail
            refine hl.out.mono ?_
            rintro e w' ⟨rfl, rfl⟩
            go_wp2_with fail
            go_ret
            exact RetW.mk (by rw [E.out] <;> rfl) rfl

theorem drop_all {l : List UInt8} {p : UInt8 → Bool} {k : Nat} {a : UInt8} (h : k < l.length) (ha : l[k] = a) : (l.drop k).all p = (p a && (l.drop (k + 1)).all p) := by rw [drop_cons h ha, List.all_cons]

/-- not empty, and all of a class -/
def allC (c : Int) (s : ByteArray) : Bool := s.data.toList.all (fun b => cls b == c) && decide (0 < s.size)
theorem spec_l1All (s : ByteArray) (c : Int) (w : World) (hs : s.size ≤ maxLen) :
    Calls Tryd.prog 80 #[.string s, .int .i64 c] w (RetW (.bool (allC c s)) w) := by
  unfold maxLen at hs
  go_enter Tryd.func80, Tryd.ntmps80
  go_wp2_with fail
  go_loop [5] (fun i => ∃ k : Nat, k ≤ s.size ∧ i = .int .i64 k ∧ Hid (s.data.toList.all (fun b => cls b == c) = (s.data.toList.drop k).all (fun b => cls b == c))) (fun i => s.size - (intOf i).toNat)
  case atStart => exact ⟨0, by omega, rfl, (show _ = _ from rfl)⟩
  case round =>
    obtain ⟨k, hk, rfl, HT⟩ := hrel
    by_cases hkl : k < s.size
    · have hkl' : k < s.data.toList.length := by simpa using hkl
      have hg : s.data.toList[k] = s[k] := by simp; rfl
      have HG := Lib.hid hg
      clear hg
      by_cases he : cls s[k] = c
      · have E : Hid (s.data.toList.all (fun b => cls b == c) = (s.data.toList.drop (k + 1)).all (fun b => cls b == c)) := by
          have h1 := HT.out
          rw [drop_all hkl' HG.out] at h1
          show _ = _
          rw [h1]
          simp [he]
        have he1 : (cls s[k] != c) = false := by rw [he]; simp
        clear he HT
        go_wp2_with fail
        refine (spec_l1Class s[k] _).mono ?_
        rintro e w' ⟨rfl, rfl⟩
        go_wp2_with fail
        go_round
        case rel => exact ⟨k + 1, by omega, by go_num, E⟩
        case measure => simp [intOf]; omega
      · have E : Hid (s.data.toList.all (fun b => cls b == c) = false) := by
          have h1 := HT.out
          rw [drop_all hkl' HG.out] at h1
          show _ = _
          rw [h1]
          simp [he]
        replace E : Hid (allC c s = false) := by show _ = _; unfold allC; rw [E.out]; rfl
        have he1 : (cls s[k] != c) = true := by simpa using he
        clear he HT
        go_wp2_with fail
        refine (spec_l1Class s[k] _).mono ?_
        rintro e w' ⟨rfl, rfl⟩
        go_wp2_with fail
        go_ret
        exact RetW.mk (by rw [E.out] <;> rfl) rfl
    · have E : Hid (s.data.toList.all (fun b => cls b == c) = true) := by
        have h1 := HT.out
        rw [List.drop_eq_nil_of_le (by simp; omega)] at h1
        exact h1
      clear HT
      by_cases h0 : 0 < s.size
      · replace E : Hid (allC c s = true) := by show _ = _; unfold allC; rw [E.out]; simp [h0]
        go_wp2_with fail
        go_ret
        exact RetW.mk (by rw [E.out] <;> rfl) rfl
      · replace E : Hid (allC c s = false) := by show _ = _; unfold allC; rw [E.out]; simp [h0]
        go_wp2_with fail
        go_ret
        exact RetW.mk (by rw [E.out] <;> rfl) rfl

theorem allC_low (s : ByteArray) : allC 1 s = (s.data.toList.all low && decide (0 < s.size)) := by
  unfold allC
  congr 1
  induction s.data.toList with
  | nil => rfl
  | cons a r ih => rw [List.all_cons, List.all_cons, ih, cls_one]

/-- the keys, in new memory -/
def KeysP (w : World) (e : Ending) (w' : World) : Prop := ∃ g : Nat, e = .returned (.slice (some ⟨g, 0, none⟩) keysL.length 9) ∧ Sl false (strS false) w' w.heap.size w'.heap.size keysL (.slice (some ⟨g, 0, none⟩) keysL.length 9) ∧ Below w.heap.size w w'
theorem spec_KeyWords (w : World) : Calls Tryd.prog 97 #[] w (KeysP w) := by
  have R : Row (w.alloc (.cells (keysL.map Value.string).toArray 9)) w.heap.size 9 (keysL.map Value.string).toArray := Row.new _ _ _
  have hs : Sl false (strS false) (w.alloc (.cells (keysL.map Value.string).toArray 9)) w.heap.size (w.alloc (.cells (keysL.map Value.string).toArray 9)).heap.size keysL (.slice (some ⟨w.heap.size, 0, none⟩) keysL.length 9) := by
    refine Sl.of_row R (Nat.le_refl _) R.lt (by decide) (by simp [maxLen]) ?_
    intro i a hi ha
    refine ⟨[.string a], ?_, fun j u hu => ?_⟩
    · have h1 : ∀ k ∈ keysL, k.size ≤ maxLen := by decide
      exact str_mk false _ _ _ (h1 a (List.mem_of_getElem? ha))
    · match j, hu with
      | 0, hu =>
        have hu' := Option.some.inj hu
        subst hu'
        simp [strS, ha]
  have HS := Lib.hid hs
  clear hs R
  go_enter Tryd.func97, Tryd.ntmps97
  go_wp2_with fail
  go_ret
  exact ⟨_, rfl, HS.out, (Below.refl _ _).alloc (Nat.le_refl _) _⟩

set_option maxRecDepth 100000 in
theorem spec_l1Key (s : ByteArray) (w : World) : Calls Tryd.prog 81 #[.string s] w (RetV (.bool (isKey s)) w) := by
  have K9 : keysL.length = 9 := by decide
  go_enter Tryd.func81, Tryd.ntmps81
  go_wp2_with fail
  refine (spec_KeyWords _).mono ?_
  rintro e w1 ⟨g, rfl, hv, b1⟩
  replace K9 := Lib.hid K9
  go_wp2_with fail
  go_loop [4] (fun i => ∃ k : Nat, k ≤ keysL.length ∧ i = .int .i64 k ∧ Hid (isKey s = (keysL.drop k).any fun x => s.toList == x.toList)) (fun i => keysL.length - (intOf i).toNat)
  case atStart => exact ⟨0, by omega, rfl, (show _ = _ from rfl)⟩
  case round =>
    obtain ⟨k, hk, rfl, HT⟩ := hrel
    have h9 : keysL.length ≤ 9 := Nat.le_of_eq K9.out
    by_cases hkl : k < keysL.length
    · obtain ⟨b, o, a, hA, _, _, HL, _, c0⟩ := str_get hv hkl
      injection hA with hA
      injection hA with e1 e2
      subst e1 e2
      have hkn : (k : Int) < (keysL.length : Int) := by omega
      have hki : (0 : Int) ≤ (k : Int) := by omega
      have c1 : w1.cell? ⟨g, k, none⟩ = some (.string a) := by simpa using c0
      clear c0
      by_cases he : (a.toList == s.toList) = true
      · have E : Hid (isKey s = true) := by
          have h1 := HT.out
          rw [drop_cons hkl HL.out, List.any_cons, BEq.comm (a := s.toList), he] at h1
          exact h1
        clear HT
        go_wp2_with fail
        go_ret
        exact RetV.mk (by rw [E.out] <;> rfl) rfl b1
      · have he : (a.toList == s.toList) = false := by simpa using he
        have E : Hid (isKey s = (keysL.drop (k + 1)).any fun x => s.toList == x.toList) := by
          have h1 := HT.out
          rw [drop_cons hkl HL.out, List.any_cons, BEq.comm (a := s.toList), he, Bool.false_or] at h1
          exact h1
        clear HT
        go_wp2_with fail
        go_round
        case rel => exact ⟨k + 1, by omega, by go_num, E⟩
        case measure => simp [intOf]; omega
    · have E : Hid (isKey s = false) := by
        have h1 := HT.out
        rw [List.drop_eq_nil_of_le (by omega)] at h1
        exact h1
      clear HT
      go_wp2_with fail
      go_ret
      exact RetV.mk (by rw [E.out] <;> rfl) rfl b1

theorem spec_IsName (s : ByteArray) (w : World) (hs : s.size ≤ maxLen) : Calls Tryd.prog 61 #[.string s] w (RetV (.bool (isName s)) w) := by
  have hs' : s.size ≤ 9223372036854775807 := by unfold maxLen at hs; omega
  by_cases h1 : allC 1 s = true
  · have h1' := h1
    rw [allC_low] at h1'
    simp only [Bool.and_eq_true, decide_eq_true_eq] at h1'
    obtain ⟨g1, g2⟩ := h1'
    have H1 := Lib.hid h1
    clear h1
    by_cases h2 : s.size ≤ 4
    · have E : Hid (isName s = !isKey s) := by
        show _ = _
        unfold isName
        rw [g1, show decide (1 ≤ s.size) = true by simp; omega, show decide (s.size ≤ 4) = true by simpa using h2]
        simp
      clear g1
      have h2' : ((s.size : Nat) : Int) ≤ 4 := by omega
      go_enter Tryd.func61, Tryd.ntmps61
      go_wp2_with fail
      refine (spec_l1All s 1 _ hs).mono ?_
      rintro e w' ⟨rfl, rfl⟩
      rw [H1.out]
      go_wp2_with fail
      refine (spec_l1Key s _).mono ?_
      rintro e w1 ⟨rfl, b1⟩
      go_wp2_with fail
      go_ret
      exact RetV.mk (by rw [E.out] <;> rfl) rfl b1
    · have E : Hid (isName s = false) := by
        show _ = _
        unfold isName
        rw [show decide (s.size ≤ 4) = false by simpa using h2]
        simp
      clear g1
      have h2' : 4 < s.size := by omega
      go_enter Tryd.func61, Tryd.ntmps61
      go_wp2_with fail
      refine (spec_l1All s 1 _ hs).mono ?_
      rintro e w' ⟨rfl, rfl⟩
      rw [H1.out]
      go_wp2_with fail
      go_ret
      exact RetV.mk (by rw [E.out] <;> rfl) rfl (Below.refl _ _)
  · have h1 : allC 1 s = false := by simpa using h1
    have E : Hid (isName s = false) := by
      have h1' := h1
      rw [allC_low] at h1'
      show _ = _
      unfold isName
      cases ha : s.data.toList.all low
      · simp
      · rw [ha] at h1'
        simp at h1'
        rw [show decide (1 ≤ s.size) = false by simp; omega]
        rfl
    have H1 := Lib.hid h1
    clear h1
    go_enter Tryd.func61, Tryd.ntmps61
    go_wp2_with fail
    refine (spec_l1All s 1 _ hs).mono ?_
    rintro e w' ⟨rfl, rfl⟩
    rw [H1.out]
    go_wp2_with fail
    go_ret
    exact RetV.mk (by rw [E.out] <;> rfl) rfl (Below.refl _ _)
end Go.Proofs.YthfinoapfbhgcaaDoor
