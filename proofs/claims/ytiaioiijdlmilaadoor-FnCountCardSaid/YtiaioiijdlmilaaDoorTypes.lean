/-
  Shapes of the program's data: what each struct reads as. No condition.
-/
import Derived.Test.YtiaioiijdlmilaaDoorBase
namespace Go.Proofs.YtiaioiijdlmilaaDoor
open Go.RowKit Go.ChangeShapes Go.WideShapes Go.Deep
set_option linter.unusedVariables false

def sumBy {α : Type} (f : α → Nat) (l : List α) : Nat := (l.map f).sum

/-- Word -/
structure WordD where
  kind : Int
  text : ByteArray

def wordS (m : Bool) : Shp WordD where
  size := 2
  rep := fun w lo B a cs => ∃ c0 c1 : Value, cs = [c0, c1] ∧ (intS m).rep w lo B a.kind [c0] ∧ (strS m).rep w lo B a.text [c1]
  len := fun ⟨_, _, h, _⟩ => by rw [h]; rfl
  keep := fun ⟨c0, c1, h, h0, h1⟩ hlo hB hk => ⟨c0, c1, h, (intS m).keep h0 hlo hB hk, (strS m).keep h1 hlo hB hk⟩
def wordN (a : WordD) : Nat := a.text.size
theorem word_mk (m : Bool) {w : World} {lo B : Nat} (kind : Int) (text : ByteArray) (h0 : I64 kind) (h1 : text.size ≤ maxLen) : (wordS m).rep w lo B ⟨kind, text⟩ [.int .i64 kind, .string text] := ⟨_, _, rfl, int_mk m w lo B h0, str_mk m w lo B h1⟩
theorem word_open {w : World} {lo B : Nat} {a : WordD} {cs : List Value} (h : (wordS false).rep w lo B a cs) : cs = [.int .i64 a.kind, .string a.text] ∧ I64 a.kind ∧ a.text.size ≤ maxLen := by
  obtain ⟨c0, c1, rfl, h0, h1⟩ := h
  obtain ⟨e0, g0⟩ := int_rep h0
  injection e0 with e0
  subst e0
  obtain ⟨e1, g1⟩ := str_rep h1
  injection e1 with e1
  subst e1
  exact ⟨rfl, g0, g1⟩

end Go.Proofs.YtiaioiijdlmilaaDoor

