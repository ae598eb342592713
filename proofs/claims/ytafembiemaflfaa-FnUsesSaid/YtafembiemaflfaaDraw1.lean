/-
  What the draws answer: texts of words, and texts. Condition: few numbers have been picked.
-/
import Derived.Test.YtafembiemaflfaaRd
namespace Go.Proofs.Ytafembiemaflfaa
open Go.RowKit Go.ChangeShapes Go.WideShapes Go.Deep
set_option linter.unusedSimpArgs false
set_option linter.unusedVariables false
theorem lit_int (w : World) (ls : List Int) (hs : ∀ s ∈ ls, I64 s) (hl : ls.length ≤ 1000) : Sl false (intS false) (w.alloc (.cells (ls.map (Value.int .i64)).toArray 3)) w.heap.size (w.alloc (.cells (ls.map (Value.int .i64)).toArray 3)).heap.size ls (.slice (some ⟨w.heap.size, 0, none⟩) ls.length ls.length) := by
  refine Sl.of_row (Row.new w _ _) (Nat.le_refl _) (by simp) (Nat.le_refl _) (by unfold maxLen; omega) ?_
  intro i a hi ha
  refine ⟨[.int .i64 a], int_mk false _ _ _ (hs a (List.mem_of_getElem? ha)), fun j u hu => ?_⟩
  match j, hu with
  | 0, hu =>
    have hu' := Option.some.inj hu
    subst hu'
    simp [intS, List.getElem?_map, ha]
def i64s (ls : List Int) : Bool := ls.all fun s => decide (-1000000 ≤ s) && decide (s ≤ 1000000)
theorem i64_of {ls : List Int} (h : i64s ls = true) : ∀ s ∈ ls, I64 s := by
  intro s hs
  have := List.all_eq_true.1 h s hs
  simp at this
  exact ⟨by omega, by omega⟩
theorem ButR.refl {g : Nat} (w : World) : ButR g w w := ⟨Below.refl _ _, fun _ _ _ => rfl⟩
theorem ButR.alloc {g : Nat} {w w' : World} (h : ButR g w w') (hg : g < w.heap.size) (o : Obj) : ButR g w (w'.alloc o) := h.trans (ButR.of_below (Nat.lt_of_lt_of_le hg h.1.size) ((Below.refl _ _).alloc (Nat.le_refl _) _))
end Go.Proofs.Ytafembiemaflfaa

