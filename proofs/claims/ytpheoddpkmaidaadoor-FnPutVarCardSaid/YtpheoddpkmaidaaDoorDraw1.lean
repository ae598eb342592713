/-
  What the draws answer: texts of words, and texts. Condition: few numbers have been picked.
-/
import Derived.Test.YtpheoddpkmaidaaDoorRd
namespace Go.Proofs.YtpheoddpkmaidaaDoor
open Go.RowKit Go.ChangeShapes Go.WideShapes Go.Deep
set_option linter.unusedSimpArgs false
set_option linter.unusedVariables false
/-- a list of texts that has just been laid -/
theorem lit_str (w : World) (ls : List ByteArray) (hs : ∀ s ∈ ls, s.size ≤ maxLen) (hl : ls.length ≤ 1000) : Sl false (strS false) (w.alloc (.cells (ls.map Value.string).toArray 9)) w.heap.size (w.alloc (.cells (ls.map Value.string).toArray 9)).heap.size ls (.slice (some ⟨w.heap.size, 0, none⟩) ls.length ls.length) := by
  refine Sl.of_row (Row.new w _ _) (Nat.le_refl _) (by simp) (Nat.le_refl _) (by unfold maxLen; omega) ?_
  intro i a hi ha
  refine ⟨[.string a], str_mk false _ _ _ (hs a (List.mem_of_getElem? ha)), fun j u hu => ?_⟩
  match j, hu with
  | 0, hu =>
    have hu' := Option.some.inj hu
    subst hu'
    simp [strS, List.getElem?_map, ha]
theorem lit_int (w : World) (ls : List Int) (hs : ∀ s ∈ ls, I64 s) (hl : ls.length ≤ 1000) : Sl false (intS false) (w.alloc (.cells (ls.map (Value.int .i64)).toArray 3)) w.heap.size (w.alloc (.cells (ls.map (Value.int .i64)).toArray 3)).heap.size ls (.slice (some ⟨w.heap.size, 0, none⟩) ls.length ls.length) := by
  refine Sl.of_row (Row.new w _ _) (Nat.le_refl _) (by simp) (Nat.le_refl _) (by unfold maxLen; omega) ?_
  intro i a hi ha
  refine ⟨[.int .i64 a], int_mk false _ _ _ (hs a (List.mem_of_getElem? ha)), fun j u hu => ?_⟩
  match j, hu with
  | 0, hu =>
    have hu' := Option.some.inj hu
    subst hu'
    simp [intS, List.getElem?_map, ha]
def i64s (ls : List Int) : Bool := ls.all fun s => decide (-1000000 ≤ s) && decide (s ≤ 1000000)
theorem i64_of {ls : List Int} (h : i64s ls = true) : ∀ s ∈ ls, I64 s := by
  intro s hs
  have := List.all_eq_true.1 h s hs
  simp at this
  exact ⟨by omega, by omega⟩
theorem But.refl {g : Nat} (w : World) : But g w w := ⟨Below.refl _ _, fun _ _ _ => rfl⟩
theorem But.alloc {g : Nat} {w w' : World} (h : But g w w') (hg : g < w.heap.size) (o : Obj) : But g w (w'.alloc o) := h.trans (But.of_below (Nat.lt_of_lt_of_le hg h.1.size) ((Below.refl _ _).alloc (Nat.le_refl _) _))
/-- a text that is not empty, and not great -/
def Some1 (s : ByteArray) : Prop := 1 ≤ s.size ∧ s.size ≤ 1001
def namesD : List ByteArray := [⟨#[97]⟩, ⟨#[98]⟩, ⟨#[120]⟩, ⟨#[103, 111]⟩, ⟨#[97, 98, 99, 100]⟩, ⟨#[122, 122]⟩]
def signsD : List ByteArray := [⟨#[40]⟩, ⟨#[41]⟩, ⟨#[123]⟩, ⟨#[125]⟩, ⟨#[59]⟩, ⟨#[44]⟩, ⟨#[43]⟩, ⟨#[45]⟩, ⟨#[42]⟩, ⟨#[47]⟩, ⟨#[37]⟩, ⟨#[60]⟩, ⟨#[61]⟩, ⟨#[38]⟩, ⟨#[33]⟩, ⟨#[64]⟩]
def some_of (ls : List ByteArray) : Bool := ls.all fun s => decide (1 ≤ s.size) && decide (s.size ≤ 1001)
theorem some_all {ls : List ByteArray} (h : some_of ls = true) : ∀ s ∈ ls, Some1 s := by
  intro s hs
  have := List.all_eq_true.1 h s hs
  simpa [Some1] using this
theorem some_ml {ls : List ByteArray} (h : ∀ s ∈ ls, Some1 s) : ∀ s ∈ ls, s.size ≤ maxLen := fun s hs => Nat.le_trans (h s hs).2 (by decide)
def badsD : List ByteArray := [⟨#[97, 98, 99, 100, 101]⟩, ⟨#[50, 53, 54]⟩, ⟨#[48, 49]⟩, ⟨#[48, 48]⟩, ⟨#[63]⟩, ⟨#[65]⟩, ⟨#[9]⟩, ⟨#[36]⟩, ⟨#[120, 95, 121]⟩, ⟨#[]⟩]
/-- a text that is not great -/
def Small1 (s : ByteArray) : Prop := s.size ≤ 1001
theorem small_all {ls : List ByteArray} (h : (ls.all fun s => decide (s.size ≤ 1001)) = true) : ∀ s ∈ ls, Small1 s := by
  intro s hs
  have := List.all_eq_true.1 h s hs
  simpa [Small1] using this
theorem small_ml {ls : List ByteArray} (h : ∀ s ∈ ls, Small1 s) : ∀ s ∈ ls, s.size ≤ maxLen := fun s hs => Nat.le_trans (h s hs) (by decide)
def headsD : List ByteArray := [⟨#[]⟩, ⟨#[]⟩, ⟨#[32]⟩, ⟨#[10, 32]⟩]
def gapsD : List ByteArray := [⟨#[32]⟩, ⟨#[32]⟩, ⟨#[32]⟩, ⟨#[32, 32]⟩, ⟨#[10]⟩, ⟨#[]⟩]
theorem text_step {s a b : ByteArray} {j n : Nat} (ha : a.size ≤ 1001) (hb : b.size ≤ 1001) (hs : s.size + j * 2002 ≤ n) (hj : 0 < j) : ((s ++ a) ++ b).size + (j - 1) * 2002 ≤ n := by
  rw [ByteArray.size_append, ByteArray.size_append]
  omega
end Go.Proofs.YtpheoddpkmaidaaDoor

