/-
  Names: small letters, at most four, no key; by the program and by the reference. Conditions: the table of keys lies as the program's text lays it.
-/
import Derived.Test.YthfinoapfbhgcaaDoorEq
import Derived.Test.YthfinoapfbhgcaaDoorReg
namespace Go.Proofs.YthfinoapfbhgcaaDoor
open Go.RowKit Go.ChangeShapes Go.WideShapes Go.Deep
set_option linter.unusedSimpArgs false
set_option linter.unusedVariables false

/-- it answers a value, and what was there is as it was -/
def RetV (v : Value) (w : World) (e : Ending) (w' : World) : Prop := e = .returned v ∧ Below w.heap.size w w'
theorem RetV.mk {v u : Value} {w : World} {e : Ending} {w' : World} (h : u = v) (he : e = .returned u) (hb : Below w.heap.size w w') : RetV v w e w' := ⟨by rw [← h]; exact he, hb⟩
/-- it answers a value and leaves the world -/
def RetW (v : Value) (w : World) (e : Ending) (w' : World) : Prop := e = .returned v ∧ w = w'
theorem RetW.mk {v u : Value} {w : World} {e : Ending} (h : u = v) (he : e = .returned u) : RetW v w e w := ⟨by rw [← h]; exact he, rfl⟩
/-- lo ≤ n ≤ hi -/
def inB (n lo hi : Int) : Bool := decide (lo ≤ n ∧ n ≤ hi)
theorem inB_yes {n lo hi : Int} (h0 : lo ≤ n) (h1 : n ≤ hi) : inB n lo hi = true := by simp [inB, h0, h1]
theorem inB_no {n lo hi : Int} (h : n < lo ∨ hi < n) : inB n lo hi = false := by simp [inB]; omega
theorem impl_within (n lo hi : Int) (w : World) : Calls Tryd.prog 51 #[.int .i64 n, .int .i64 lo, .int .i64 hi] w (RetW (.bool (inB n lo hi)) w) := by
  by_cases h0 : lo ≤ n
  · by_cases h1 : n ≤ hi
    · have E : Hid (inB n lo hi = true) := inB_yes h0 h1
      go_enter Tryd.func51, Tryd.ntmps51
      go_wp2_with fail
      go_ret
      exact RetW.mk (by rw [E.out] <;> rfl) rfl
    · have E : Hid (inB n lo hi = false) := inB_no (Or.inr (by omega))
      go_enter Tryd.func51, Tryd.ntmps51
      go_wp2_with fail
      go_ret
      exact RetW.mk (by rw [E.out] <;> rfl) rfl
  · have E : Hid (inB n lo hi = false) := inB_no (Or.inl (by omega))
    go_enter Tryd.func51, Tryd.ntmps51
    go_wp2_with fail
    go_ret
    exact RetW.mk (by rw [E.out] <;> rfl) rfl
theorem spec_l1In (n lo hi : Int) (w : World) : Calls Tryd.prog 60 #[.int .i64 n, .int .i64 lo, .int .i64 hi] w (RetW (.bool (inB n lo hi)) w) := by
  by_cases h0 : lo ≤ n
  · by_cases h1 : n ≤ hi
    · have E : Hid (inB n lo hi = true) := inB_yes h0 h1
      go_enter Tryd.func60, Tryd.ntmps60
      go_wp2_with fail
      go_ret
      exact RetW.mk (by rw [E.out] <;> rfl) rfl
    · have E : Hid (inB n lo hi = false) := inB_no (Or.inr (by omega))
      go_enter Tryd.func60, Tryd.ntmps60
      go_wp2_with fail
      go_ret
      exact RetW.mk (by rw [E.out] <;> rfl) rfl
  · have E : Hid (inB n lo hi = false) := inB_no (Or.inl (by omega))
    go_enter Tryd.func60, Tryd.ntmps60
    go_wp2_with fail
    go_ret
    exact RetW.mk (by rw [E.out] <;> rfl) rfl
/-- the index of the first element that p takes, counted from k; or -1 -/
def firstFrom {α : Type} (p : α → Bool) : Nat → List α → Int
  | _, [] => -1
  | k, a :: r => if p a = true then (k : Int) else firstFrom p (k + 1) r
def firstIdx {α : Type} (p : α → Bool) (l : List α) : Int := firstFrom p 0 l
theorem firstFrom_hit {α : Type} {p : α → Bool} {l : List α} {k : Nat} {a : α} (h : k < l.length) (ha : l[k] = a) (hp : p a = true) : firstFrom p k (l.drop k) = (k : Int) := by
  rw [List.drop_eq_getElem_cons h, ha]
  simp [firstFrom, hp]
theorem firstFrom_miss {α : Type} {p : α → Bool} {l : List α} {k : Nat} {a : α} (h : k < l.length) (ha : l[k] = a) (hp : p a = false) : firstFrom p k (l.drop k) = firstFrom p (k + 1) (l.drop (k + 1)) := by
  rw [List.drop_eq_getElem_cons h, ha]
  simp [firstFrom, hp]
theorem firstFrom_end {α : Type} {p : α → Bool} {l : List α} {k : Nat} (h : l.length ≤ k) : firstFrom p k (l.drop k) = -1 := by
  rw [List.drop_eq_nil_of_le h]
  rfl
theorem firstFrom_any {α : Type} (p : α → Bool) (l : List α) (k : Nat) : decide (0 ≤ firstFrom p k l) = l.any p := by
  induction l generalizing k with
  | nil => simp [firstFrom]
  | cons a r ih =>
    by_cases h : p a = true
    · simp [firstFrom, h]
    · simp only [firstFrom, h, if_false, List.any_cons, Bool.false_or]
      simpa [h] using ih (k + 1)
theorem firstIdx_any {α : Type} (p : α → Bool) (l : List α) : decide (0 ≤ firstIdx p l) = l.any p := firstFrom_any p l 0
/-- a fold's rest -/
theorem drop_cons {α : Type} {l : List α} {k : Nat} {a : α} (h : k < l.length) (ha : l[k] = a) : l.drop k = a :: l.drop (k + 1) := by rw [List.drop_eq_getElem_cons h, ha]

set_option maxRecDepth 100000 in
theorem strs_Index (l : List ByteArray) (x : ByteArray) (v : Value) (w : World) (lo B : Nat) (hB : B ≤ w.heap.size) (hv : Sl false (strS false) w lo B l v) :
    Calls Tryd.prog 76 #[v, .string x] w (RetV (.int .i64 (firstIdx (fun n => x.toList == n.toList) l)) w) := by
  obtain ⟨A, cap, rfl, hlc, hcm⟩ := hv.form
  go_enter Tryd.func76, Tryd.ntmps76
  go_wp2_with fail
  go_loopw [8] (fun i wr => ∃ k : Nat, k ≤ l.length ∧ i = .int .i64 k ∧ Hid (firstIdx (fun n => x.toList == n.toList) l = firstFrom (fun n => x.toList == n.toList) k (l.drop k)) ∧ Below w.heap.size w wr) (fun i _ => l.length - (intOf i).toNat)
  case atStart => exact ⟨0, by omega, rfl, (show _ = _ from rfl), Below.refl _ _⟩
  case round =>
    obtain ⟨k, hk, rfl, HT, hb⟩ := hrel
    by_cases hkl : k < l.length
    · obtain ⟨b, o, a, rfl, _, _, HL, _, c0⟩ := str_get (hv.below hb hB) hkl
      have hkn : (k : Int) < (l.length : Int) := by omega
      have hki : (0 : Int) ≤ (k : Int) := by omega
      by_cases he : (x.toList == a.toList) = true
      · have he1 := he
        have E : Hid (firstIdx (fun n => x.toList == n.toList) l = k) := HT.out.trans (firstFrom_hit hkl HL.out he1)
        clear he HT
        go_wp2_with fail
        go_ret
        exact RetV.mk (by rw [E.out] <;> rfl) rfl hb
      · have he1 : (x.toList == a.toList) = false := by simpa using he
        have E : Hid (firstIdx (fun n => x.toList == n.toList) l = firstFrom (fun n => x.toList == n.toList) (k + 1) (l.drop (k + 1))) := HT.out.trans (firstFrom_miss hkl HL.out he1)
        clear he HT
        go_wp2_with fail
        go_roundw
        case rel => exact ⟨k + 1, by omega, by go_num, E, hb⟩
        case measure => simp [intOf]; omega
    · have E : Hid (firstIdx (fun n => x.toList == n.toList) l = -1) := HT.out.trans (firstFrom_end (by omega))
      clear HT
      go_wp2_with fail
      go_ret
      exact RetV.mk (by rw [E.out] <;> rfl) rfl hb

theorem strs_Contains (l : List ByteArray) (x : ByteArray) (v : Value) (w : World) (lo B : Nat) (hB : B ≤ w.heap.size) (hv : Sl false (strS false) w lo B l v) :
    Calls Tryd.prog 54 #[v, .string x] w (RetV (.bool (l.any (fun n => x.toList == n.toList))) w) := by
  have E : Hid (decide (0 ≤ firstIdx (fun n => x.toList == n.toList) l) = l.any (fun n => x.toList == n.toList)) := firstIdx_any _ _
  go_enter Tryd.func54, Tryd.ntmps54
  go_wp2_with fail
  refine (strs_Index l x v _ lo B hB hv).mono ?_
  rintro e w1 ⟨rfl, b1⟩
  go_wp2_with fail
  go_ret
  exact RetV.mk (by rw [← E.out] <;> rfl) rfl b1

/-- the key words -/
def keysL : List ByteArray := [⟨#[102, 110]⟩, ⟨#[108, 101, 116]⟩, ⟨#[115, 97, 121]⟩, ⟨#[112, 117, 116]⟩, ⟨#[105, 102]⟩, ⟨#[101, 108, 115, 101]⟩, ⟨#[108, 111, 111, 112]⟩, ⟨#[98, 97, 99, 107]⟩, ⟨#[100, 111]⟩]
def isKey (s : ByteArray) : Bool := keysL.any fun k => s.toList == k.toList
/-- the table of keys lies in block 1 -/
def KeysAt (w : World) : Prop := 1 < w.heap.size ∧ ∀ (i : Nat) (k : ByteArray), keysL[i]? = some k → w.cell? ⟨1, i, none⟩ = some (.string k)
theorem KeysAt.below {w w' : World} {B : Nat} (h : KeysAt w) (hb : Below B w w') (hB : w.heap.size ≤ B) : KeysAt w' := ⟨Nat.lt_of_lt_of_le h.1 hb.size, fun i k hk => (hb.cell (p := ⟨1, i, none⟩) (Nat.lt_of_lt_of_le h.1 hB)).trans (h.2 i k hk)⟩
theorem KeysAt.sl {w : World} (h : KeysAt w) : Sl false (strS false) w 0 w.heap.size keysL (.slice (some ⟨1, 0, none⟩) keysL.length 9) := by
  refine ⟨_, 9, rfl, by decide, by simp [maxLen], fun _ => ⟨1, 0, rfl, by omega, h.1, (fun h => by cases h), fun i a ha => ⟨[.string a], ?_, fun j u hu => ?_⟩⟩⟩
  · refine str_mk false _ _ _ ?_
    have h1 : ∀ k ∈ keysL, k.size ≤ maxLen := by decide
    exact h1 a (List.mem_of_getElem? ha)
  · match j, hu with
    | 0, hu =>
      have hu' := Option.some.inj hu
      subst hu'
      have := h.2 i a ha
      simpa [strS] using this
/-- a small letter -/
def low (b : UInt8) : Bool := decide (97 ≤ b.toNat ∧ b.toNat ≤ 122)
/-- a rune that is none -/
def outR (r : Nat) : Bool := decide (r < 97 ∨ 122 < r)
def isName (s : ByteArray) : Bool := decide (1 ≤ s.size) && (decide (s.size ≤ 4) && (s.data.toList.all low && !isKey s))
end Go.Proofs.YthfinoapfbhgcaaDoor
