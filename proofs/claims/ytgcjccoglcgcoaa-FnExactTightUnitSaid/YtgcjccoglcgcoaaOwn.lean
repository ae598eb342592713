/-
  Lists of numbers that a call appends to: memory of its own. No condition.
-/
import Derived.Test.YtgcjccoglcgcoaaRead
namespace Go.Proofs.Ytgcjccoglcgcoaa
open Go.RowKit Go.ChangeShapes Go.WideShapes Go.Deep
set_option linter.unusedSimpArgs false
set_option linter.unusedVariables false

theorem Row.grown {w w' : World} {g : Nat} {t : TypeId} {cs : Array Value} {r : Option Nat} (h : Row w g t cs) (hg : w.grownBy w' r) (hne : some g ≠ r) : Row w' g t cs := (hg.block g h.lt hne).trans h
theorem own_ge {w : World} {base n size : Nat} {e : TypeId} {v : Value} {xs : List Value} (h : w.ownsRow base e size v n xs) {k : Nat} (hk : v.ownBlock = some k) : base ≤ k := by
  rcases h.2 with ⟨rfl, _⟩ | ⟨g, cap, cur, rfl, h2, _⟩
  · cases hk
  · have : g = k := by simpa [Value.ownBlock] using hk
    omega
theorem own_ne {w : World} {base n size : Nat} {e : TypeId} {v : Value} {xs : List Value} (h : w.ownsRow base e size v n xs) {g : Nat} (hg : g < base) : some g ≠ v.ownBlock := fun hk => by
  have := own_ge h hk.symm
  omega
theorem own_below {w w' : World} {base n size B : Nat} {e : TypeId} {v : Value} {xs : List Value} (h : w.ownsRow base e size v n xs) (hb : Below B w w') (hB : w.heap.size ≤ B) : w'.ownsRow base e size v n xs := by
  refine ⟨h.1, ?_⟩
  rcases h.2 with h1 | ⟨g, cap, cur, h1, h2, h3, h4⟩
  · exact Or.inl h1
  · have : g < w.heap.size := (Array.getElem?_eq_some_iff.1 h3).1
    exact Or.inr ⟨g, cap, cur, h1, h2, (hb.block g (by omega)).trans h3, h4⟩
/-- what was appended reads as the list -/
theorem Sl.of_own {w : World} {base lo : Nat} {t : TypeId} {v : Value} {l : List Int} (h : w.ownsRow base t 1 v l.length (l.map (Value.int .i64))) (hi : ∀ n ∈ l, I64 n) (hlo : lo ≤ base) (m : Bool) : Sl m (intS m) w lo w.heap.size l v := by
  rcases h.2 with ⟨rfl, h1⟩ | ⟨g, cap, cur, rfl, h2, h3, h4, h5, h6, h7⟩
  · obtain rfl : l = [] := List.eq_nil_of_length_eq_zero h1
    exact Sl.nil_ _ _ _ _ _
  · refine Sl.of_row (t := t) (cur := cur) h3 (by omega) (Array.getElem?_eq_some_iff.1 h3).1 h4 h5 ?_
    intro i a hil ha
    refine ⟨[.int .i64 a], int_mk m _ _ _ (hi a (List.mem_of_getElem? ha)), fun j u hu => ?_⟩
    match j, hu with
    | 0, hu =>
      have hu' := Option.some.inj hu
      subst hu'
      have e1 : (cur.toList.take (l.length * 1))[i]? = some (.int .i64 a) := by rw [h7, List.getElem?_map, ha]; rfl
      rw [List.getElem?_take_of_lt (by omega)] at e1
      simpa [intS] using e1
theorem own_nil (w : World) (base : Nat) (t : TypeId) : w.ownsRow base t 1 (.slice none 0 0) ([] : List Int).length (([] : List Int).map (Value.int .i64)) := ⟨rfl, Or.inl ⟨rfl, rfl⟩⟩

/-- the numbers, from k on, of the blocks that lead to b -/
def predsFrom (b : Int) : Nat → List BlkD → List Int
  | _, [] => []
  | k, x :: r => (if x.next.any (fun n => b == n) = true then [(k : Int)] else []) ++ predsFrom b (k + 1) r
theorem predsFrom_yes {b : Int} {l : List BlkD} {k : Nat} {a : BlkD} (h : k < l.length) (ha : l[k] = a) (hp : a.next.any (fun n => b == n) = true) : predsFrom b k (l.drop k) = (k : Int) :: predsFrom b (k + 1) (l.drop (k + 1)) := by
  rw [drop_cons h ha]
  simp only [predsFrom, hp, if_true, List.singleton_append]
theorem predsFrom_no {b : Int} {l : List BlkD} {k : Nat} {a : BlkD} (h : k < l.length) (ha : l[k] = a) (hp : a.next.any (fun n => b == n) = false) : predsFrom b k (l.drop k) = predsFrom b (k + 1) (l.drop (k + 1)) := by
  rw [drop_cons h ha]
  simp only [predsFrom, hp]
  simp
theorem predsFrom_end {b : Int} {l : List BlkD} {k : Nat} (h : l.length ≤ k) : predsFrom b k (l.drop k) = [] := by
  rw [List.drop_eq_nil_of_le h]
  rfl
/-- the blocks that lead to a block -/
def predsOf (l : List BlkD) (b : Int) : List Int := if 0 ≤ b ∧ b ≤ (l.length : Int) - 1 then predsFrom b 0 l else []
end Go.Proofs.Ytgcjccoglcgcoaa
