/-
  Words: is one valid, its number; by the program and by the reference. Conditions: the word reads as data; the table of keys lies.
-/
import Derived.Test.YthfinoapfbhgcaaDoorNum2
import Derived.Deep.QuietTactic
import Derived.BigQuiet
import Derived.Deep.RegionHeld3
namespace Go.Proofs.YthfinoapfbhgcaaDoor
open Go.RowKit Go.ChangeShapes Go.WideShapes Go.Deep
set_option linter.unusedSimpArgs false
set_option linter.unusedVariables false
def numOk (s : ByteArray) : Bool := decide (0 ≤ numW s)
/-- is the text a sign? -/
def sigW (s : ByteArray) : Bool := decide (s.size = 1) && s.data.toList.all isSign
/-- is a word valid? -/
def wvB (kind : Int) (s : ByteArray) : Bool :=
  if kind = 1 then isName s else if kind = 2 then numOk s else if kind = 3 then sigW s else if kind = 4 then isKey s else false
theorem ba_one {s : ByteArray} (h : s.size = 1) : s = ⟨#[s[0]]⟩ := by
  obtain ⟨⟨l⟩⟩ := s
  match l, h with
  | [a], _ => rfl
theorem sig_one {s : ByteArray} (h : s.size = 1) : sigW s = isSign s[0] := by
  unfold sigW
  have hl : s.data.toList = [s[0]] := by
    have e := ba_one h
    exact congrArg (fun x : ByteArray => x.data.toList) e
  rw [hl]
  simp [h]
theorem sig_not {s : ByteArray} (h : s.size ≠ 1) : sigW s = false := by unfold sigW; simp [h]
theorem indexByte_iff (l : List UInt8) (c : UInt8) : (0 : Int) ≤ Lib.indexByte l c ↔ (l.any fun b => b == c) = true := by
  induction l with
  | nil => simp [Lib.indexByte]
  | cons b r ih =>
    rw [List.any_cons, Bool.or_eq_true, ← ih]
    have hge := Lib.indexByte_ge r c
    simp only [Lib.indexByte]
    by_cases hb : (b == c) = true
    · rw [if_pos hb]
      exact ⟨fun _ => Or.inl hb, fun _ => Int.le_refl _⟩
    · rw [if_neg hb]
      by_cases hm : (Lib.indexByte r c == -1) = true
      · rw [if_pos hm]
        have h1 : Lib.indexByte r c = -1 := by simpa using hm
        constructor
        · intro h; omega
        · intro h
          rcases h with h | h
          · exact absurd h hb
          · omega
      · rw [if_neg hm]
        have h1 : Lib.indexByte r c ≠ -1 := by simpa using hm
        constructor
        · intro h; right; omega
        · intro h; omega
theorem indexByte_any (l : List UInt8) (c : UInt8) : decide ((0 : Int) ≤ Lib.indexByte l c) = l.any fun b => b == c := by
  rw [Bool.eq_iff_iff, decide_eq_true_iff]
  exact indexByte_iff l c
theorem contains_one (c : UInt8) : decide ((0 : Int) ≤ Lib.indexByte signsL.data.toList c) = isSign c := indexByte_any _ c
set_option maxRecDepth 100000 in
set_option maxHeartbeats 4000000 in
theorem impl_WordValid (kind : Int) (s : ByteArray) (w : World) (hs : s.size ≤ maxLen) (ht : KeysAt w) : Calls Tryd.prog 34 #[.agg #[.int .i64 kind, .string s]] w (RetV (.bool (wvB kind s)) w) := by
  have hs' : s.size ≤ 9223372036854775807 := by unfold maxLen at hs; omega
  have hb0 : Below w.heap.size w (w.alloc (.cells #[.int .i64 kind, .string s] 59)) := (Below.refl _ _).alloc (Nat.le_refl _) _
  have ht0 := ht.below hb0 (Nat.le_refl _)
  by_cases k1 : kind = 1
  case pos =>
    subst k1
    have E : Hid (wvB 1 s = isName s) := rfl
    go_enter Tryd.func34, Tryd.ntmps34
    go_wp2_with fail
    refine (impl_IsName s _ hs ht0).mono ?_
    rintro e w1 ⟨rfl, b1⟩
    go_wp2_with fail
    go_ret
    exact RetV.mk (by rw [E.out] <;> rfl) rfl (hb0.trans (b1.mono hb0.size))
  have n1 : (kind == 1) = false := by simpa using k1
  by_cases k2 : kind = 2
  case pos =>
    subst k2
    have E : Hid (wvB 2 s = decide (0 ≤ numW s)) := rfl
    clear k1 n1
    go_enter Tryd.func34, Tryd.ntmps34
    go_wp2_with fail
    refine (impl_decimal s _ hs).mono ?_
    rintro e w1 ⟨rfl, b1⟩
    go_wp2_with fail
    go_ret
    exact RetV.mk (by rw [E.out] <;> rfl) rfl (hb0.trans (b1.mono hb0.size))
  have n2 : (kind == 2) = false := by simpa using k2
  by_cases k3 : kind = 3
  case pos =>
    subst k3
    have E : Hid (wvB 3 s = sigW s) := rfl
    clear k1 n1 k2 n2
    by_cases h1 : s.size = 1
    · have E2 : Hid (decide ((0 : Int) ≤ Lib.indexByte signsL.data.toList s[0]) = sigW s) := by show _ = _; rw [sig_one h1, contains_one]
      obtain ⟨c, hc⟩ : ∃ c, s[0] = c := ⟨_, rfl⟩
      have he := ba_one h1
      rw [hc] at he E2
      clear hc h1
      subst he
      go_enter Tryd.func34, Tryd.ntmps34
      go_wp2_with fail
      refine (Tryd.strings_Contains_one signsL c _).mono ?_
      rintro e w' ⟨rfl, rfl⟩
      rw [E2.out]
      go_wp2_with fail
      go_ret
      exact RetV.mk (by rw [E.out] <;> rfl) rfl hb0
    · have q1 : ((s.size : Int) == 1) = false := by simp only [beq_eq_false_iff_ne]; omega
      have E2 : Hid (sigW s = false) := sig_not h1
      clear h1
      go_enter Tryd.func34, Tryd.ntmps34
      go_wp2_with fail
      go_ret
      exact RetV.mk (by rw [E.out, E2.out] <;> rfl) rfl hb0
  have n3 : (kind == 3) = false := by simpa using k3
  by_cases k4 : kind = 4
  case pos =>
    subst k4
    have E : Hid (wvB 4 s = isKey s) := rfl
    have R0 : Row (w.alloc (.cells #[.int .i64 4, .string s] 59)) w.heap.size 59 #[.int .i64 4, .string s] := Row.new w _ _
    clear k1 n1 k2 n2 k3 n3
    go_enter Tryd.func34, Tryd.ntmps34
    go_wp2_with fail
    have y1 : (w.alloc (.cells #[.int .i64 4, .string s] 59)).cell? ⟨w.heap.size, 1, none⟩ = some (.string s) := R0.cell 1
    go_region_held3 (fun w' => w'.cell? ⟨w.heap.size, 1, none⟩ = some (.string s)) (assumption) ((go_at_call 54; refine (strs_Contains keysL s (.slice (some ⟨1, 0, none⟩) keysL.length 9) _ 0 _ (Nat.le_refl _) (show KeysAt (w.alloc (.cells #[.int .i64 4, .string s] 59)).drew from ht0).sl).mono ?_; rintro e w1 ⟨rfl, b1⟩; have hb1 : Below w.heap.size w w1 := hb0.drew.trans (b1.mono hb0.size); have y2 : w1.cell? ⟨w.heap.size, 1, none⟩ = some (.string s) := (b1.cell (p := ⟨w.heap.size, 1, none⟩) (by simp)).trans y1))
    go_wp2_with fail
    go_ret
    exact RetV.mk (by rw [E.out] <;> rfl) rfl hb1
  have n4 : (kind == 4) = false := by simpa using k4
  have E : Hid (wvB kind s = false) := by show _ = _; unfold wvB; rw [if_neg k1, if_neg k2, if_neg k3, if_neg k4]
  clear k1 k2 k3 k4
  go_enter Tryd.func34, Tryd.ntmps34
  go_wp2_with fail
  go_ret
  exact RetV.mk (by rw [E.out] <;> rfl) rfl hb0
end Go.Proofs.YthfinoapfbhgcaaDoor

