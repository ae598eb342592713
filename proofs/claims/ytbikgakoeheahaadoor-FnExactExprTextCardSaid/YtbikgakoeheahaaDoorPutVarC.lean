/-
  PutVar, by the reference and by the program. Conditions: the arguments read as data; the tables lie.
-/
import Derived.Test.YtbikgakoeheahaaDoorPut2
import Derived.Laws.EntriesVeiled
namespace Go.Proofs.YtbikgakoeheahaaDoor
open Go.RowKit Go.ChangeShapes Go.WideShapes Go.Deep

set_option linter.unusedVariables false
set_option linter.unusedSimpArgs false
def exZ : Ex := .mk 0 0 ⟨#[]⟩ []
/-- an expression in memory of its own, and a bool -/
def PairP (D : Nat) (x : Ex × Bool) (w : World) (en : Ending) (w' : World) : Prop :=
  ∃ v3 : Value, en = .returned (.tuple #[.agg #[.int .i64 x.1.op, .int .i64 x.1.n, .string x.1.name, v3], .bool x.2]) ∧ (∀ m, (exT m (D + 1)).rep w' w.heap.size w'.heap.size x.1 [.int .i64 x.1.op, .int .i64 x.1.n, .string x.1.name, v3]) ∧ Below w.heap.size w w'
theorem exZ_rep (m : Bool) (D : Nat) (w : World) (lo B : Nat) : (exT m (D + 1)).rep w lo B exZ [.int .i64 0, .int .i64 0, .string ⟨#[]⟩, .slice none 0 0] := exT_mk m D 0 0 ⟨#[]⟩ [] _ ⟨by omega, by omega⟩ ⟨by omega, by omega⟩ (by decide) (SlT.nil_ _ _ _ _ _)
theorem PairP.no {D : Nat} {x : Ex × Bool} {w : World} {en : Ending} {w' : World} (h : x = (exZ, false)) (he : en = .returned (.tuple #[.agg #[.int .i64 0, .int .i64 0, .string ⟨#[]⟩, .slice none 0 0], .bool false])) (hb : Below w.heap.size w w') : PairP D x w en w' := by
  subst h
  exact ⟨_, he, fun m => exZ_rep m D _ _ _, hb⟩
end Go.Proofs.YtbikgakoeheahaaDoor

