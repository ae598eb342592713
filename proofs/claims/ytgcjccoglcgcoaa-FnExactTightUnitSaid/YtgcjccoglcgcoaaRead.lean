/-
  Readers: loops that ask the elements of a list one by one. Conditions: the arguments read as data.
-/
import Derived.Test.YtgcjccoglcgcoaaHeld
import Derived.Test.YtgcjccoglcgcoaaRegT
namespace Go.Proofs.Ytgcjccoglcgcoaa
open Go.RowKit Go.ChangeShapes Go.WideShapes Go.Deep
set_option linter.unusedSimpArgs false
set_option linter.unusedVariables false

/-- the index of the first element that p takes, counted from k; or -1 -/
def firstFrom {α : Type} (p : α → Bool) : Nat → List α → Int
  | _, [] => -1
  | k, a :: r => if p a = true then (k : Int) else firstFrom p (k + 1) r
def firstIdx {α : Type} (p : α → Bool) (l : List α) : Int := firstFrom p 0 l
theorem firstFrom_hit {α : Type} {p : α → Bool} {l : List α} {k : Nat} {a : α} (h : k < l.length) (ha : l[k] = a) (hp : p a = true) : firstFrom p k (l.drop k) = (k : Int) := by
  rw [List.drop_eq_getElem_cons h, ha]
  simp [firstFrom, hp]
theorem firstFrom_miss {α : Type} {p : α → Bool} {l : List α} {k : Nat} {a : α} (h : k < l.length) (ha : l[k] = a) (hp : p a = false) : firstFrom p k (l.drop k) = firstFrom p (k + 1) (l.drop (k + 1)) := by
  rw [List.drop_eq_getElem_cons h, ha]
  simp [firstFrom, hp]
theorem firstFrom_end {α : Type} {p : α → Bool} {l : List α} {k : Nat} (h : l.length ≤ k) : firstFrom p k (l.drop k) = -1 := by
  rw [List.drop_eq_nil_of_le h]
  rfl
theorem firstFrom_any {α : Type} (p : α → Bool) (l : List α) (k : Nat) : decide (0 ≤ firstFrom p k l) = l.any p := by
  induction l generalizing k with
  | nil => simp [firstFrom]
  | cons a r ih =>
    by_cases h : p a = true
    · simp [firstFrom, h]
    · simp only [firstFrom, h, if_false, List.any_cons, Bool.false_or]
      simpa [h] using ih (k + 1)
theorem firstIdx_any {α : Type} (p : α → Bool) (l : List α) : decide (0 ≤ firstIdx p l) = l.any p := firstFrom_any p l 0
/-- a fold's rest -/
theorem drop_cons {α : Type} {l : List α} {k : Nat} {a : α} (h : k < l.length) (ha : l[k] = a) : l.drop k = a :: l.drop (k + 1) := by rw [List.drop_eq_getElem_cons h, ha]

set_option maxRecDepth 100000 in
theorem ints_Index (l : List Int) (x : Int) (v : Value) (w : World) (lo B : Nat) (hB : B ≤ w.heap.size) (hv : Sl false (intS false) w lo B l v) :
    Calls Try.prog 107 #[v, .int .i64 x] w (RetV (.int .i64 (firstIdx (fun n => x == n) l)) w) := by
  obtain ⟨A, cap, rfl, hlc, hcm⟩ := hv.form
  go_enter Try.func107, Try.ntmps107
  go_wp2_with fail
  go_loopw [8] (fun i wr => ∃ k : Nat, k ≤ l.length ∧ i = .int .i64 k ∧ Hid (firstIdx (fun n => x == n) l = firstFrom (fun n => x == n) k (l.drop k)) ∧ Below w.heap.size w wr) (fun i _ => l.length - (intOf i).toNat)
  case atStart => exact ⟨0, by omega, rfl, (show _ = _ from rfl), Below.refl _ _⟩
  case round =>
    obtain ⟨k, hk, rfl, HT, hb⟩ := hrel
    by_cases hkl : k < l.length
    · obtain ⟨b, o, a, rfl, _, _, HL, _, c0⟩ := int_get (hv.below hb hB) hkl
      have hkn : (k : Int) < (l.length : Int) := by omega
      have hki : (0 : Int) ≤ (k : Int) := by omega
      by_cases he : x = a
      · have he1 : (x == a) = true := by simpa using he
        have E : Hid (firstIdx (fun n => x == n) l = k) := HT.out.trans (firstFrom_hit hkl HL.out he1)
        clear he HT
        go_wp2_with fail
        go_ret
        exact RetV.mk (by rw [E.out] <;> rfl) rfl hb
      · have he1 : (x == a) = false := by simpa using he
        have E : Hid (firstIdx (fun n => x == n) l = firstFrom (fun n => x == n) (k + 1) (l.drop (k + 1))) := HT.out.trans (firstFrom_miss hkl HL.out he1)
        clear he HT
        go_wp2_with fail
        go_roundw
        case rel => exact ⟨k + 1, by omega, by go_num, E, hb⟩
        case measure => simp [intOf]; omega
    · have E : Hid (firstIdx (fun n => x == n) l = -1) := HT.out.trans (firstFrom_end (by omega))
      clear HT
      go_wp2_with fail
      go_ret
      exact RetV.mk (by rw [E.out] <;> rfl) rfl hb

theorem ints_Contains (l : List Int) (x : Int) (v : Value) (w : World) (lo B : Nat) (hB : B ≤ w.heap.size) (hv : Sl false (intS false) w lo B l v) :
    Calls Try.prog 94 #[v, .int .i64 x] w (RetV (.bool (l.any (fun n => x == n))) w) := by
  have E : Hid (decide (0 ≤ firstIdx (fun n => x == n) l) = l.any (fun n => x == n)) := firstIdx_any _ _
  go_enter Try.func94, Try.ntmps94
  go_wp2_with fail
  refine (ints_Index l x v _ lo B hB hv).mono ?_
  rintro e w1 ⟨rfl, b1⟩
  go_wp2_with fail
  go_ret
  exact RetV.mk (by rw [← E.out] <;> rfl) rfl b1
end Go.Proofs.Ytgcjccoglcgcoaa
