/-
  The to.. functions: they answer the same datum in new memory. Conditions: the arguments read as data, of size at most 1048576.
-/
import Derived.Test.YtpheoddpkmaidaaDoorSz
namespace Go.Proofs.YtpheoddpkmaidaaDoor
open Go.RowKit Go.ChangeShapes Go.WideShapes Go.Deep

/-- between lo and B the world w' is as w was -/
def Same (lo B : Nat) (w w' : World) : Prop := ∀ b : Nat, lo ≤ b → b < B → w'.heap[b]? = w.heap[b]?
theorem Same.refl (lo B : Nat) (w : World) : Same lo B w w := fun _ _ _ => rfl
theorem Same.setCell {lo B : Nat} {w w' : World} (h : Same lo B w w') {p : Addr} (hp : p.block < lo ∨ B ≤ p.block) (u : Value) : Same lo B w (w'.setCell p u) := fun b h1 h2 => (Below.heap_setCell w' p u b (by omega)).trans (h b h1 h2)
theorem Same.below {lo B B' : Nat} {w w' w'' : World} (h : Same lo B w w') (hb : Below B' w' w'') (hB : B ≤ B') : Same lo B w w'' := fun b h1 h2 => (hb.block b (by omega)).trans (h b h1 h2)
theorem Same.alloc {lo B : Nat} {w w' : World} (h : Same lo B w w') (hB : B ≤ w'.heap.size) (o : Obj) : Same lo B w (w'.alloc o) := fun b h1 h2 => (Below.heap_alloc w' o b (by omega)).trans (h b h1 h2)
/-- what a to.. function of a struct answers: the same datum in new memory that may be written -/
def ToP {α : Type} (S : Bool → Shp α) (a : α) (w : World) (e : Ending) (w' : World) : Prop :=
  ∃ cs : List Value, e = .returned (.agg cs.toArray) ∧ (∀ m, (S m).rep w' w.heap.size w'.heap.size a cs) ∧ Below w.heap.size w w'
/-- .. of a slice -/
def ToSP {α : Type} (S : Bool → Shp α) (l : List α) (w : World) (e : Ending) (w' : World) : Prop :=
  ∃ v : Value, e = .returned v ∧ (∀ m, Sl m (S m) w' w.heap.size w'.heap.size l v) ∧ Below w.heap.size w w'

theorem Tryd.info_Expr : (Tryd.prog.info? 25).map (fun i => (i.zero, i.size, i.bytes)) = some (some (.agg #[.int .i64 0, .int .i64 0, .string ⟨#[]⟩, .slice none 0 0]), 4, 56) := by kernel_rfl
end Go.Proofs.YtpheoddpkmaidaaDoor


