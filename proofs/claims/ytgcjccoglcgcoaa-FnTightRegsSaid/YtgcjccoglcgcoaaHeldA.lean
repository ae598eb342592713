/-
  Several texts in one: Soft, Mark, Eq, Held, Read, Own, In.
-/
import Derived.Test.YtgcjccoglcgcoaaTo
import Derived.StillTailTactics
import Derived.Deep.QuietTactic
import Derived.BigQuiet
import Derived.Test.YtgcjccoglcgcoaaRegT
namespace Go.Proofs.Ytgcjccoglcgcoaa
open Go.RowKit Go.ChangeShapes Go.WideShapes Go.Deep

/-- a number for a number, a text for a text, or the same -/
def SoftV (v v' : Value) : Prop := v' = v ∨ (∃ n n' : Int, v = .int .i64 n ∧ v' = .int .i64 n') ∨ (∃ s s' : ByteArray, v = .string s ∧ v' = .string s')
theorem SoftV.refl (v : Value) : SoftV v v := Or.inl rfl
theorem SoftV.trans {a b c : Value} (h : SoftV a b) (k : SoftV b c) : SoftV a c := by
  rcases h with rfl | ⟨n, n', rfl, rfl⟩ | ⟨s, s', rfl, rfl⟩
  · exact k
  · rcases k with rfl | ⟨m, m', _, rfl⟩ | ⟨t, t', e, _⟩
    · exact Or.inr (Or.inl ⟨_, _, rfl, rfl⟩)
    · exact Or.inr (Or.inl ⟨_, _, rfl, rfl⟩)
    · cases e
  · rcases k with rfl | ⟨m, m', e, _⟩ | ⟨t, t', _, rfl⟩
    · exact Or.inr (Or.inr ⟨_, _, rfl, rfl⟩)
    · cases e
    · exact Or.inr (Or.inr ⟨_, _, rfl, rfl⟩)

/-- only cells of the blocks from lo on, below B, have been written, softly -/
structure Soft (lo B : Nat) (w w' : World) : Prop where
  os : w'.os = w.os
  tape : w'.tape = w.tape
  output : w'.output = w.output
  size : w'.heap.size = w.heap.size
  out : ∀ b : Nat, (b < lo ∨ B ≤ b) → w'.heap[b]? = w.heap[b]?
  frozen : ∀ a : Addr, w'.frozen? a = w.frozen? a
  cell : ∀ (a : Addr) (v : Value), w.cell? a = some v → ∃ v', w'.cell? a = some v' ∧ SoftV v v'

theorem Soft.refl (lo B : Nat) (w : World) : Soft lo B w w := ⟨rfl, rfl, rfl, rfl, fun _ _ => rfl, fun _ => rfl, fun _ v h => ⟨v, h, SoftV.refl v⟩⟩
theorem Soft.drew {lo B : Nat} {w w' : World} (h : Soft lo B w w') : Soft lo B w w'.drew := ⟨h.os, h.tape, h.output, h.size, h.out, h.frozen, h.cell⟩
theorem Soft.trans {lo B : Nat} {a b c : World} (h : Soft lo B a b) (k : Soft lo B b c) : Soft lo B a c :=
  ⟨k.os.trans h.os, k.tape.trans h.tape, k.output.trans h.output, k.size.trans h.size, fun i hi => (k.out i hi).trans (h.out i hi), fun x => (k.frozen x).trans (h.frozen x), fun x v hv => by
    obtain ⟨v1, h1, s1⟩ := h.cell x v hv
    obtain ⟨v2, h2, s2⟩ := k.cell x v1 h1
    exact ⟨v2, h2, s1.trans s2⟩⟩
theorem Soft.more {lo B lo' B' : Nat} {w w' : World} (h : Soft lo B w w') (h1 : lo' ≤ lo) (h2 : B ≤ B') : Soft lo' B' w w' :=
  ⟨h.os, h.tape, h.output, h.size, fun b hb => h.out b (by omega), h.frozen, h.cell⟩
theorem Soft.setCell {lo B : Nat} {w : World} {p : Addr} {v u : Value} (hp : w.cell? p = some v) (h1 : lo ≤ p.block) (h2 : p.block < B) (hs : SoftV v u) : Soft lo B w (w.setCell p u) :=
  ⟨rfl, rfl, rfl, by simp, fun b hb => Below.heap_setCell w p u b (by omega), fun a => by simp, fun a x hx => by
    by_cases e : p = a
    · subst e
      rw [hp] at hx
      injection hx with hx
      subst hx
      exact ⟨u, World.cell?_setCell_same _ _ _ hp, hs⟩
    · exact ⟨x, (World.cell?_setCell_other _ _ _ u e).trans hx, SoftV.refl x⟩⟩
theorem Soft.below {lo B : Nat} {w w' : World} (h : Soft lo B w w') {b : Nat} (hb : b ≤ lo) : Below b w w' := ⟨h.os, h.tape, h.output, Nat.le_of_eq h.size.symm, fun k hk => h.out k (by omega)⟩
/-- what lies outside is as it was -/
theorem Soft.same {lo B lo' B' : Nat} {w w' : World} (h : Soft lo B w w') (hd : B' ≤ lo ∨ B ≤ lo') : ∀ b : Nat, lo' ≤ b → b < B' → w'.heap[b]? = w.heap[b]? := fun b h1 h2 => h.out b (by omega)

theorem Soft.st {lo B : Nat} {w w' : World} (h : Soft lo B w w') {p : Addr} {n : Int} (hp : w'.cell? p = some (.int .i64 n)) (h1 : lo ≤ p.block) (h2 : p.block < B) (u : Int) : Soft lo B w (w'.setCell p (.int .i64 u)) := h.trans (Soft.setCell hp h1 h2 (Or.inr (Or.inl ⟨_, _, rfl, rfl⟩)))
end Go.Proofs.Ytgcjccoglcgcoaa

namespace Go.Proofs.Ytgcjccoglcgcoaa
open Go.RowKit Go.ChangeShapes Go.WideShapes Go.Deep

set_option linter.unusedVariables false
end Go.Proofs.Ytgcjccoglcgcoaa


namespace Go.Proofs.Ytgcjccoglcgcoaa
open Go.RowKit Go.ChangeShapes Go.WideShapes Go.Deep

theorem below_drewN {B : Nat} {a w : World} (h : Below B a w) (n : Nat) : Below B a (w.drewN n) := ⟨h.os, h.tape, h.output, h.size, h.block⟩

/-- it answers true and leaves what was there -/
def Yes (w : World) (e : Ending) (w' : World) : Prop := e = .returned (.bool true) ∧ Below w.heap.size w w'

end Go.Proofs.Ytgcjccoglcgcoaa


namespace Go.Proofs.Ytgcjccoglcgcoaa
open Go.RowKit Go.ChangeShapes Go.WideShapes Go.Deep

/-- it answers a value, and what was there is as it was -/
def RetV (v : Value) (w : World) (e : Ending) (w' : World) : Prop := e = .returned v ∧ Below w.heap.size w w'
theorem RetV.mk {v u : Value} {w : World} {e : Ending} {w' : World} (h : u = v) (he : e = .returned u) (hb : Below w.heap.size w w') : RetV v w e w' := ⟨by rw [← h]; exact he, hb⟩

end Go.Proofs.Ytgcjccoglcgcoaa

namespace Go.Proofs.Ytgcjccoglcgcoaa
open Go.RowKit Go.ChangeShapes Go.WideShapes Go.Deep
set_option linter.unusedSimpArgs false
set_option linter.unusedVariables false

/-- the index of the first element that p takes, counted from k; or -1 -/
def firstFrom {α : Type} (p : α → Bool) : Nat → List α → Int
  | _, [] => -1
  | k, a :: r => if p a = true then (k : Int) else firstFrom p (k + 1) r
def firstIdx {α : Type} (p : α → Bool) (l : List α) : Int := firstFrom p 0 l
theorem firstFrom_hit {α : Type} {p : α → Bool} {l : List α} {k : Nat} {a : α} (h : k < l.length) (ha : l[k] = a) (hp : p a = true) : firstFrom p k (l.drop k) = (k : Int) := by
  rw [List.drop_eq_getElem_cons h, ha]
  simp [firstFrom, hp]
theorem firstFrom_miss {α : Type} {p : α → Bool} {l : List α} {k : Nat} {a : α} (h : k < l.length) (ha : l[k] = a) (hp : p a = false) : firstFrom p k (l.drop k) = firstFrom p (k + 1) (l.drop (k + 1)) := by
  rw [List.drop_eq_getElem_cons h, ha]
  simp [firstFrom, hp]
theorem firstFrom_end {α : Type} {p : α → Bool} {l : List α} {k : Nat} (h : l.length ≤ k) : firstFrom p k (l.drop k) = -1 := by
  rw [List.drop_eq_nil_of_le h]
  rfl
theorem firstFrom_any {α : Type} (p : α → Bool) (l : List α) (k : Nat) : decide (0 ≤ firstFrom p k l) = l.any p := by
  induction l generalizing k with
  | nil => simp [firstFrom]
  | cons a r ih =>
    by_cases h : p a = true
    · simp [firstFrom, h]
    · simp only [firstFrom, h, if_false, List.any_cons, Bool.false_or]
      simpa [h] using ih (k + 1)
theorem firstIdx_any {α : Type} (p : α → Bool) (l : List α) : decide (0 ≤ firstIdx p l) = l.any p := firstFrom_any p l 0
/-- a fold's rest -/
theorem drop_cons {α : Type} {l : List α} {k : Nat} {a : α} (h : k < l.length) (ha : l[k] = a) : l.drop k = a :: l.drop (k + 1) := by rw [List.drop_eq_getElem_cons h, ha]

set_option maxRecDepth 100000 in
theorem ints_Index (l : List Int) (x : Int) (v : Value) (w : World) (lo B : Nat) (hB : B ≤ w.heap.size) (hv : Sl false (intS false) w lo B l v) :
    Calls Try.prog 107 #[v, .int .i64 x] w (RetV (.int .i64 (firstIdx (fun n => x == n) l)) w) := by
  obtain ⟨A, cap, rfl, hlc, hcm⟩ := hv.form
  go_enter Try.func107, Try.ntmps107
  go_wp2_with fail
  go_loopw [8] (fun i wr => ∃ k : Nat, k ≤ l.length ∧ i = .int .i64 k ∧ Hid (firstIdx (fun n => x == n) l = firstFrom (fun n => x == n) k (l.drop k)) ∧ Below w.heap.size w wr) (fun i _ => l.length - (intOf i).toNat)
  case atStart => exact ⟨0, by omega, rfl, (show _ = _ from rfl), Below.refl _ _⟩
  case round =>
    obtain ⟨k, hk, rfl, HT, hb⟩ := hrel
    by_cases hkl : k < l.length
    · obtain ⟨b, o, a, rfl, _, _, HL, _, c0⟩ := int_get (hv.below hb hB) hkl
      have hkn : (k : Int) < (l.length : Int) := by omega
      have hki : (0 : Int) ≤ (k : Int) := by omega
      by_cases he : x = a
      · have he1 : (x == a) = true := by simpa using he
        have E : Hid (firstIdx (fun n => x == n) l = k) := HT.out.trans (firstFrom_hit hkl HL.out he1)
        clear he HT
        go_wp2_with fail
        go_ret
        exact RetV.mk (by rw [E.out] <;> rfl) rfl hb
      · have he1 : (x == a) = false := by simpa using he
        have E : Hid (firstIdx (fun n => x == n) l = firstFrom (fun n => x == n) (k + 1) (l.drop (k + 1))) := HT.out.trans (firstFrom_miss hkl HL.out he1)
        clear he HT
        go_wp2_with fail
        go_roundw
        case rel => exact ⟨k + 1, by omega, by go_num, E, hb⟩
        case measure => simp [intOf]; omega
    · have E : Hid (firstIdx (fun n => x == n) l = -1) := HT.out.trans (firstFrom_end (by omega))
      clear HT
      go_wp2_with fail
      go_ret
      exact RetV.mk (by rw [E.out] <;> rfl) rfl hb

theorem ints_Contains (l : List Int) (x : Int) (v : Value) (w : World) (lo B : Nat) (hB : B ≤ w.heap.size) (hv : Sl false (intS false) w lo B l v) :
    Calls Try.prog 94 #[v, .int .i64 x] w (RetV (.bool (l.any (fun n => x == n))) w) := by
  have E : Hid (decide (0 ≤ firstIdx (fun n => x == n) l) = l.any (fun n => x == n)) := firstIdx_any _ _
  go_enter Try.func94, Try.ntmps94
  go_wp2_with fail
  refine (ints_Index l x v _ lo B hB hv).mono ?_
  rintro e w1 ⟨rfl, b1⟩
  go_wp2_with fail
  go_ret
  exact RetV.mk (by rw [← E.out] <;> rfl) rfl b1
end Go.Proofs.Ytgcjccoglcgcoaa

namespace Go.Proofs.Ytgcjccoglcgcoaa
open Go.RowKit Go.ChangeShapes Go.WideShapes Go.Deep
set_option linter.unusedSimpArgs false
set_option linter.unusedVariables false

theorem Row.grown {w w' : World} {g : Nat} {t : TypeId} {cs : Array Value} {r : Option Nat} (h : Row w g t cs) (hg : w.grownBy w' r) (hne : some g ≠ r) : Row w' g t cs := (hg.block g h.lt hne).trans h
theorem own_ge {w : World} {base n size : Nat} {e : TypeId} {v : Value} {xs : List Value} (h : w.ownsRow base e size v n xs) {k : Nat} (hk : v.ownBlock = some k) : base ≤ k := by
  rcases h.2 with ⟨rfl, _⟩ | ⟨g, cap, cur, rfl, h2, _⟩
  · cases hk
  · have : g = k := by simpa [Value.ownBlock] using hk
    omega
theorem own_ne {w : World} {base n size : Nat} {e : TypeId} {v : Value} {xs : List Value} (h : w.ownsRow base e size v n xs) {g : Nat} (hg : g < base) : some g ≠ v.ownBlock := fun hk => by
  have := own_ge h hk.symm
  omega
theorem own_below {w w' : World} {base n size B : Nat} {e : TypeId} {v : Value} {xs : List Value} (h : w.ownsRow base e size v n xs) (hb : Below B w w') (hB : w.heap.size ≤ B) : w'.ownsRow base e size v n xs := by
  refine ⟨h.1, ?_⟩
  rcases h.2 with h1 | ⟨g, cap, cur, h1, h2, h3, h4⟩
  · exact Or.inl h1
  · have : g < w.heap.size := (Array.getElem?_eq_some_iff.1 h3).1
    exact Or.inr ⟨g, cap, cur, h1, h2, (hb.block g (by omega)).trans h3, h4⟩
/-- what was appended reads as the list -/
theorem Sl.of_own {w : World} {base lo : Nat} {t : TypeId} {v : Value} {l : List Int} (h : w.ownsRow base t 1 v l.length (l.map (Value.int .i64))) (hi : ∀ n ∈ l, I64 n) (hlo : lo ≤ base) (m : Bool) : Sl m (intS m) w lo w.heap.size l v := by
  rcases h.2 with ⟨rfl, h1⟩ | ⟨g, cap, cur, rfl, h2, h3, h4, h5, h6, h7⟩
  · obtain rfl : l = [] := List.eq_nil_of_length_eq_zero h1
    exact Sl.nil_ _ _ _ _ _
  · refine Sl.of_row (t := t) (cur := cur) h3 (by omega) (Array.getElem?_eq_some_iff.1 h3).1 h4 h5 ?_
    intro i a hil ha
    refine ⟨[.int .i64 a], int_mk m _ _ _ (hi a (List.mem_of_getElem? ha)), fun j u hu => ?_⟩
    match j, hu with
    | 0, hu =>
      have hu' := Option.some.inj hu
      subst hu'
      have e1 : (cur.toList.take (l.length * 1))[i]? = some (.int .i64 a) := by rw [h7, List.getElem?_map, ha]; rfl
      rw [List.getElem?_take_of_lt (by omega)] at e1
      simpa [intS] using e1
theorem own_nil (w : World) (base : Nat) (t : TypeId) : w.ownsRow base t 1 (.slice none 0 0) ([] : List Int).length (([] : List Int).map (Value.int .i64)) := ⟨rfl, Or.inl ⟨rfl, rfl⟩⟩

/-- the numbers, from k on, of the blocks that lead to b -/
def predsFrom (b : Int) : Nat → List BlkD → List Int
  | _, [] => []
  | k, x :: r => (if x.next.any (fun n => b == n) = true then [(k : Int)] else []) ++ predsFrom b (k + 1) r
theorem predsFrom_yes {b : Int} {l : List BlkD} {k : Nat} {a : BlkD} (h : k < l.length) (ha : l[k] = a) (hp : a.next.any (fun n => b == n) = true) : predsFrom b k (l.drop k) = (k : Int) :: predsFrom b (k + 1) (l.drop (k + 1)) := by
  rw [drop_cons h ha]
  simp only [predsFrom, hp, if_true, List.singleton_append]
theorem predsFrom_no {b : Int} {l : List BlkD} {k : Nat} {a : BlkD} (h : k < l.length) (ha : l[k] = a) (hp : a.next.any (fun n => b == n) = false) : predsFrom b k (l.drop k) = predsFrom b (k + 1) (l.drop (k + 1)) := by
  rw [drop_cons h ha]
  simp only [predsFrom, hp]
  simp
theorem predsFrom_end {b : Int} {l : List BlkD} {k : Nat} (h : l.length ≤ k) : predsFrom b k (l.drop k) = [] := by
  rw [List.drop_eq_nil_of_le h]
  rfl
theorem predsFrom_len (b : Int) (l : List BlkD) (k : Nat) : (predsFrom b k l).length ≤ l.length := by
  induction l generalizing k with
  | nil => simp [predsFrom]
  | cons x r ih =>
    have := ih (k + 1)
    simp only [predsFrom, List.length_append, List.length_cons]
    split <;> simp <;> omega
/-- the blocks that lead to a block -/
def predsOf (l : List BlkD) (b : Int) : List Int := if 0 ≤ b ∧ b ≤ (l.length : Int) - 1 then predsFrom b 0 l else []
end Go.Proofs.Ytgcjccoglcgcoaa

namespace Go.Proofs.Ytgcjccoglcgcoaa
open Go.RowKit Go.ChangeShapes Go.WideShapes Go.Deep
set_option linter.unusedSimpArgs false
set_option linter.unusedVariables false
/-- it answers a value and leaves the world -/
def RetW (v : Value) (w : World) (e : Ending) (w' : World) : Prop := e = .returned v ∧ w = w'
theorem RetW.mk {v u : Value} {w : World} {e : Ending} (h : u = v) (he : e = .returned u) : RetW v w e w := ⟨by rw [← h]; exact he, rfl⟩
/-- lo ≤ n ≤ hi -/
def inB (n lo hi : Int) : Bool := decide (lo ≤ n ∧ n ≤ hi)
theorem inB_yes {n lo hi : Int} (h0 : lo ≤ n) (h1 : n ≤ hi) : inB n lo hi = true := by simp [inB, h0, h1]
theorem inB_no {n lo hi : Int} (h : n < lo ∨ hi < n) : inB n lo hi = false := by simp [inB]; omega
theorem inB_out {n lo hi : Int} (h : inB n lo hi = true) : lo ≤ n ∧ n ≤ hi := by simpa [inB] using h
theorem impl_within (n lo hi : Int) (w : World) : Calls Try.prog 31 #[.int .i64 n, .int .i64 lo, .int .i64 hi] w (RetW (.bool (inB n lo hi)) w) := by
  by_cases h0 : lo ≤ n
  · by_cases h1 : n ≤ hi
    · have E : Hid (inB n lo hi = true) := inB_yes h0 h1
      go_enter Try.func31, Try.ntmps31
      go_wp2_with fail
      go_ret
      exact RetW.mk (by rw [E.out] <;> rfl) rfl
    · have E : Hid (inB n lo hi = false) := inB_no (Or.inr (by omega))
      go_enter Try.func31, Try.ntmps31
      go_wp2_with fail
      go_ret
      exact RetW.mk (by rw [E.out] <;> rfl) rfl
  · have E : Hid (inB n lo hi = false) := inB_no (Or.inl (by omega))
    go_enter Try.func31, Try.ntmps31
    go_wp2_with fail
    go_ret
    exact RetW.mk (by rw [E.out] <;> rfl) rfl
theorem spec_l1In (n lo hi : Int) (w : World) : Calls Try.prog 35 #[.int .i64 n, .int .i64 lo, .int .i64 hi] w (RetW (.bool (inB n lo hi)) w) := by
  by_cases h0 : lo ≤ n
  · by_cases h1 : n ≤ hi
    · have E : Hid (inB n lo hi = true) := inB_yes h0 h1
      go_enter Try.func35, Try.ntmps35
      go_wp2_with fail
      go_ret
      exact RetW.mk (by rw [E.out] <;> rfl) rfl
    · have E : Hid (inB n lo hi = false) := inB_no (Or.inr (by omega))
      go_enter Try.func35, Try.ntmps35
      go_wp2_with fail
      go_ret
      exact RetW.mk (by rw [E.out] <;> rfl) rfl
  · have E : Hid (inB n lo hi = false) := inB_no (Or.inl (by omega))
    go_enter Try.func35, Try.ntmps35
    go_wp2_with fail
    go_ret
    exact RetW.mk (by rw [E.out] <;> rfl) rfl
end Go.Proofs.Ytgcjccoglcgcoaa
