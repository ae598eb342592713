/-
  A list of one word, as it lies. Condition: the list reads as data.
-/
import Derived.Test.YtiaioiijdlmilaaDoorDraw3
namespace Go.Proofs.YtiaioiijdlmilaaDoor
open Go.RowKit Go.ChangeShapes Go.WideShapes Go.Deep
set_option linter.unusedVariables false
set_option linter.unusedSimpArgs false
theorem one_word {k : Int} {t : ByteArray} {v : Value} {w : World} {lo B : Nat} (h : Sl false (wordS false) w lo B [⟨k, t⟩] v) : ∃ b o c, v = .slice (some ⟨b, o, none⟩) 1 c ∧ w.cell? ⟨b, o, none⟩ = some (.int .i64 k) ∧ w.cell? ⟨b, o + 1, none⟩ = some (.string t) ∧ c ≤ 9223372036854775807 := by
  obtain ⟨A, c, hf, _, hc⟩ := h.form
  subst hf
  obtain ⟨b, o, kd, tx, hA, _, _, HL, _, _, c0, c1⟩ := word_get h (show 0 < 1 by omega)
  subst hA
  have HL2 := HL.out
  injection HL2 with e1 e2
  subst e1 e2
  exact ⟨b, o, c, rfl, by simpa using c0, by simpa using c1, hc⟩
end Go.Proofs.YtiaioiijdlmilaaDoor
