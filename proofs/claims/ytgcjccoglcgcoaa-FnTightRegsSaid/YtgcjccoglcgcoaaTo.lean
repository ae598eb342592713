/-
  The to.. functions: they answer the same datum in new memory. Conditions: the arguments read as data, of size at most 1048576.
-/
import Derived.Test.YtgcjccoglcgcoaaSz
namespace Go.Proofs.Ytgcjccoglcgcoaa
open Go.RowKit Go.ChangeShapes Go.WideShapes Go.Deep

/-- between lo and B the world w' is as w was -/
def Same (lo B : Nat) (w w' : World) : Prop := ∀ b : Nat, lo ≤ b → b < B → w'.heap[b]? = w.heap[b]?
theorem Same.refl (lo B : Nat) (w : World) : Same lo B w w := fun _ _ _ => rfl
theorem Same.setCell {lo B : Nat} {w w' : World} (h : Same lo B w w') {p : Addr} (hp : p.block < lo ∨ B ≤ p.block) (u : Value) : Same lo B w (w'.setCell p u) := fun b h1 h2 => (Below.heap_setCell w' p u b (by omega)).trans (h b h1 h2)
theorem Same.below {lo B B' : Nat} {w w' w'' : World} (h : Same lo B w w') (hb : Below B' w' w'') (hB : B ≤ B') : Same lo B w w'' := fun b h1 h2 => (hb.block b (by omega)).trans (h b h1 h2)
theorem Same.alloc {lo B : Nat} {w w' : World} (h : Same lo B w w') (hB : B ≤ w'.heap.size) (o : Obj) : Same lo B w (w'.alloc o) := fun b h1 h2 => (Below.heap_alloc w' o b (by omega)).trans (h b h1 h2)
/-- .. of a slice -/
def ToSP {α : Type} (S : Bool → Shp α) (l : List α) (w : World) (e : Ending) (w' : World) : Prop :=
  ∃ v : Value, e = .returned v ∧ (∀ m, Sl m (S m) w' w.heap.size w'.heap.size l v) ∧ Below w.heap.size w w'

theorem Try.info_int : (Try.prog.info? 3).map (fun i => (i.zero, i.size, i.bytes)) = some (some (.int .i64 0), 1, 8) := by kernel_rfl
theorem Try.info_Phi : (Try.prog.info? 69).map (fun i => (i.zero, i.size, i.bytes)) = some (some (.agg #[.int .i64 0, .slice none 0 0]), 2, 32) := by kernel_rfl
theorem Try.info_Ins : (Try.prog.info? 72).map (fun i => (i.zero, i.size, i.bytes)) = some (some (.agg #[.int .i64 0, .int .i64 0, .slice none 0 0, .int .i64 0]), 4, 48) := by kernel_rfl
theorem Try.info_Block : (Try.prog.info? 65).map (fun i => (i.zero, i.size, i.bytes)) = some (some (.agg #[.slice none 0 0, .slice none 0 0, .int .i64 0, .int .i64 0, .slice none 0 0]), 5, 88) := by kernel_rfl
theorem Try.info_Code : (Try.prog.info? 39).map (fun i => (i.zero, i.size, i.bytes)) = some (some (.agg #[.int .i64 0, .int .i64 0, .slice none 0 0]), 3, 40) := by kernel_rfl
end Go.Proofs.Ytgcjccoglcgcoaa

