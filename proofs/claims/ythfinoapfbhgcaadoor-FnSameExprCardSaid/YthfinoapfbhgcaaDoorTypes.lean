/-
  Shapes of the program's data: what each struct reads as. No condition.
-/
import Derived.Test.YthfinoapfbhgcaaDoorBase
namespace Go.Proofs.YthfinoapfbhgcaaDoor
open Go.RowKit Go.ChangeShapes Go.WideShapes Go.Deep

def sumBy {α : Type} (f : α → Nat) (l : List α) : Nat := (l.map f).sum

/-- an expression -/
inductive Ex where
  | mk (op n : Int) (name : ByteArray) (kids : List Ex)
def Ex.op : Ex → Int | .mk x _ _ _ => x
def Ex.n : Ex → Int | .mk _ x _ _ => x
def Ex.name : Ex → ByteArray | .mk _ _ x _ => x
def Ex.kids : Ex → List Ex | .mk _ _ _ x => x
def exStep (m : Bool) (K : Shp Ex) : Shp Ex where
  size := 4
  rep := fun w lo B a cs => ∃ c0 c1 c2 c3 : Value, cs = [c0, c1, c2, c3] ∧ (intS m).rep w lo B a.op [c0] ∧ (intS m).rep w lo B a.n [c1] ∧ (strS m).rep w lo B a.name [c2] ∧ (slS m K).rep w lo B a.kids [c3]
  len := fun ⟨_, _, _, _, h, _⟩ => by rw [h]; rfl
  keep := fun ⟨c0, c1, c2, c3, h, h0, h1, h2, h3⟩ hlo hB hk => ⟨c0, c1, c2, c3, h, (intS m).keep h0 hlo hB hk, (intS m).keep h1 hlo hB hk, (strS m).keep h2 hlo hB hk, (slS m K).keep h3 hlo hB hk⟩
def exS (m : Bool) : Nat → Shp Ex
  | 0 => { size := 4, rep := fun _ _ _ _ _ => False, len := fun h => h.elim, keep := fun h _ _ _ => h }
  | d + 1 => exStep m (exS m d)
theorem exS_size (m : Bool) (d : Nat) : (exS m d).size = 4 := by cases d <;> rfl
theorem ex_open (d : Nat) {w : World} {lo B : Nat} {a : Ex} {cs : List Value} (h : (exS false (d + 1)).rep w lo B a cs) : ∃ v3 : Value, cs = [.int .i64 a.op, .int .i64 a.n, .string a.name, v3] ∧ I64 a.op ∧ I64 a.n ∧ a.name.size ≤ maxLen ∧ Sl false (exS false d) w lo B a.kids v3 := by
  obtain ⟨c0, c1, c2, c3, rfl, h0, h1, h2, h3⟩ := h
  obtain ⟨e0, g0⟩ := int_rep h0
  injection e0 with e0
  subst e0
  obtain ⟨e1, g1⟩ := int_rep h1
  injection e1 with e1
  subst e1
  obtain ⟨e2, g2⟩ := str_rep h2
  injection e2 with e2
  subst e2
  obtain ⟨u3, e3, g3⟩ := h3
  injection e3 with e3
  subst e3
  exact ⟨_, rfl, g0, g1, g2, g3⟩

end Go.Proofs.YthfinoapfbhgcaaDoor

