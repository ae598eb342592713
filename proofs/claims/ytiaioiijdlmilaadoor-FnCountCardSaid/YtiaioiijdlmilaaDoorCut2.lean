/-
  Words cut from a text, by the reference. Condition: the text's length is a Go length.
-/
import Derived.Test.YtiaioiijdlmilaaDoorCut1
import Derived.Test.YtiaioiijdlmilaaDoorTo
import Derived.Maps.AppendAt
import Derived.Maps.Range
namespace Go.Proofs.YtiaioiijdlmilaaDoor
open Go.RowKit Go.ChangeShapes Go.WideShapes Go.Deep
set_option linter.unusedSimpArgs false
set_option linter.unusedVariables false
def wcells (l : List WordD) : List Value := l.flatMap fun a => [.int .i64 a.kind, .string a.text]
theorem wcells_snoc (l : List WordD) (a : WordD) : wcells (l ++ [a]) = wcells l ++ [.int .i64 a.kind, .string a.text] := by simp [wcells]
theorem wcells_get : ∀ (l : List WordD) (i : Nat) (a : WordD), l[i]? = some a → (wcells l)[i * 2]? = some (.int .i64 a.kind) ∧ (wcells l)[i * 2 + 1]? = some (.string a.text)
  | [], i, a, h => by cases h
  | b :: r, 0, a, h => by
    obtain rfl := Option.some.inj h
    exact ⟨rfl, rfl⟩
  | b :: r, i + 1, a, h => by
    obtain ⟨h1, h2⟩ := wcells_get r i a h
    refine ⟨?_, ?_⟩
    · rw [show (i + 1) * 2 = i * 2 + 1 + 1 by omega]
      exact h1
    · rw [show (i + 1) * 2 + 1 = i * 2 + 1 + 1 + 1 by omega]
      exact h2
theorem Sl.of_ownW {w : World} {base lo : Nat} {t : TypeId} {v : Value} {l : List WordD} (h : w.ownsRow base t 2 v l.length (wcells l)) (hi : ∀ a ∈ l, I64 a.kind ∧ a.text.size ≤ maxLen) (hlo : lo ≤ base) (m : Bool) : Sl m (wordS m) w lo w.heap.size l v := by
  rcases h.2 with ⟨rfl, h1⟩ | ⟨g, cap, cur, rfl, h2, h3, h4, h5, h6, h7⟩
  · obtain rfl : l = [] := List.eq_nil_of_length_eq_zero h1
    exact Sl.nil_ _ _ _ _ _
  · refine Sl.of_row (t := t) (cur := cur) h3 (by omega) (Array.getElem?_eq_some_iff.1 h3).1 h4 h5 ?_
    intro i a hil ha
    obtain ⟨e1, e2⟩ := wcells_get l i a ha
    have ha' := hi a (List.mem_of_getElem? ha)
    rw [← h7] at e1 e2
    rw [List.getElem?_take_of_lt (by omega)] at e1 e2
    refine ⟨[.int .i64 a.kind, .string a.text], word_mk m a.kind a.text ha'.1 ha'.2, fun j u hu => ?_⟩
    match j, hu with
    | 0, hu =>
      have hu' := Option.some.inj hu
      subst hu'
      simpa [wordS] using e1
    | 1, hu =>
      have hu' := Option.some.inj hu
      subst hu'
      simpa [wordS] using e2
theorem own_nilW (w : World) (base : Nat) (t : TypeId) : w.ownsRow base t 2 (.slice none 0 0) ([] : List WordD).length (wcells []) := ⟨rfl, Or.inl ⟨rfl, rfl⟩⟩
theorem own_emptyW (w : World) (base : Nat) (t : TypeId) (hb : base ≤ w.heap.size) : (w.alloc (.cells #[] t)).ownsRow base t 2 (.slice (some ⟨w.heap.size, 0, none⟩) 0 0) ([] : List WordD).length (wcells []) :=
  ⟨rfl, Or.inr ⟨_, 0, #[], rfl, hb, Row.new w _ _, by simp, by simp [maxLen], rfl, rfl⟩⟩
theorem own_belowW {w w' : World} {base n size B : Nat} {e : TypeId} {v : Value} {xs : List Value} (h : w.ownsRow base e size v n xs) (hb : Below B w w') (hB : w.heap.size ≤ B) : w'.ownsRow base e size v n xs := by
  refine ⟨h.1, ?_⟩
  rcases h.2 with h1 | ⟨g, cap, cur, h1, h2, h3, h4⟩
  · exact Or.inl h1
  · have : g < w.heap.size := (Array.getElem?_eq_some_iff.1 h3).1
    exact Or.inr ⟨g, cap, cur, h1, h2, (hb.block g (by omega)).trans h3, h4⟩
theorem own_geW {w : World} {base n size : Nat} {e : TypeId} {v : Value} {xs : List Value} (h : w.ownsRow base e size v n xs) {k : Nat} (hk : v.ownBlock = some k) : base ≤ k := (h.lt k hk).1
theorem cls_range (b : UInt8) : 0 ≤ cls b ∧ cls b ≤ 4 := by
  unfold cls
  split
  · omega
  · split
    · omega
    · split
      · omega
      · split <;> omega
theorem kindS_I64 (b : UInt8) (s : ByteArray) : I64 (kindS b s) := by
  have := cls_range b
  unfold kindS I64
  split <;> omega
/-- what a cut answers -/
def CutP (s : ByteArray) (w : World) (e : Ending) (w' : World) : Prop :=
  ∃ v : Value, e = .returned (.tuple #[v, .bool (cutOk s)]) ∧ (∀ m, Sl m (wordS m) w' w.heap.size w'.heap.size (cutLst s) v) ∧ Below w.heap.size w w'
theorem CutP.no {s : ByteArray} {w w' : World} {e : Ending} {v : Value} (h : cutOk s = false) (he : e = .returned (.tuple #[v, .bool false])) (hv : v = .slice none 0 0 ∨ ∃ g, v = .slice (some ⟨g, 0, none⟩) 0 0) (hb : Below w.heap.size w w') : CutP s w e w' := by
  refine ⟨v, by rw [h]; exact he, fun m => ?_, hb⟩
  rw [cutOk_no h]
  rcases hv with rfl | ⟨g, rfl⟩
  · exact Sl.nil_ _ _ _ _ _
  · exact ⟨_, 0, rfl, Nat.le_refl _, by simp [maxLen], fun h => absurd rfl h⟩
end Go.Proofs.YtiaioiijdlmilaaDoor
