/-
  Facts on rows of four and leaves of a folding, in short.
-/
import Derived.Test.YthfinoapfbhgcaaDoorFoldA
namespace Go.Proofs.YthfinoapfbhgcaaDoor
open Go.RowKit Go.ChangeShapes Go.WideShapes Go.Deep
set_option linter.unusedVariables false
set_option linter.unusedSimpArgs false
theorem cells4 {w : World} {a : Nat} {t : TypeId} {x0 x1 x2 x3 : Value} (h : Row w a t #[x0, x1, x2, x3]) : w.cell? ⟨a, 0, none⟩ = some x0 ∧ w.cell? ⟨a, 1, none⟩ = some x1 ∧ w.cell? ⟨a, 2, none⟩ = some x2 ∧ w.cell? ⟨a, 3, none⟩ = some x3 := ⟨h.cell 0, h.cell 1, h.cell 2, h.cell 3⟩
theorem cells8 {w : World} {a : Nat} {t : TypeId} {x0 x1 x2 x3 : Value} (h : Row w a t #[x0, x1, x2, x3]) : w.cell? ⟨a, 0, none⟩ = some x0 ∧ w.cell? ⟨a, 1, none⟩ = some x1 ∧ w.cell? ⟨a, 2, none⟩ = some x2 ∧ w.cell? ⟨a, 3, none⟩ = some x3 ∧ w.frozen? ⟨a, 0, none⟩ = false ∧ w.frozen? ⟨a, 1, none⟩ = false ∧ w.frozen? ⟨a, 2, none⟩ = false ∧ w.frozen? ⟨a, 3, none⟩ = false := ⟨h.cell 0, h.cell 1, h.cell 2, h.cell 3, h.frozen 0, h.frozen 1, h.frozen 2, h.frozen 3⟩
theorem cells12 {w : World} {a b c : Nat} {t : TypeId} {x0 x1 x2 x3 y0 y1 y2 y3 z0 z1 z2 z3 : Value} (h : Row w a t #[x0, x1, x2, x3]) (k : Row w b t #[y0, y1, y2, y3]) (l : Row w c t #[z0, z1, z2, z3]) :
    w.cell? ⟨a, 0, none⟩ = some x0 ∧ w.cell? ⟨a, 1, none⟩ = some x1 ∧ w.cell? ⟨a, 2, none⟩ = some x2 ∧ w.cell? ⟨a, 3, none⟩ = some x3 ∧ w.cell? ⟨b, 0, none⟩ = some y0 ∧ w.cell? ⟨b, 1, none⟩ = some y1 ∧ w.cell? ⟨b, 2, none⟩ = some y2 ∧ w.cell? ⟨b, 3, none⟩ = some y3 ∧ w.cell? ⟨c, 0, none⟩ = some z0 ∧ w.cell? ⟨c, 1, none⟩ = some z1 ∧ w.cell? ⟨c, 2, none⟩ = some z2 ∧ w.cell? ⟨c, 3, none⟩ = some z3 :=
  ⟨h.cell 0, h.cell 1, h.cell 2, h.cell 3, k.cell 0, k.cell 1, k.cell 2, k.cell 3, l.cell 0, l.cell 1, l.cell 2, l.cell 3⟩
theorem kids8 {w w' : World} {B b : Nat} {v0 v1 v2 v3 v4 v5 v6 v7 : Value} (hb : Below B w w') (h : b < B) (c0 : w.cell? ⟨b, 0, none⟩ = some v0) (c1 : w.cell? ⟨b, 1, none⟩ = some v1) (c2 : w.cell? ⟨b, 2, none⟩ = some v2) (c3 : w.cell? ⟨b, 3, none⟩ = some v3) (c4 : w.cell? ⟨b, 4, none⟩ = some v4) (c5 : w.cell? ⟨b, 5, none⟩ = some v5) (c6 : w.cell? ⟨b, 6, none⟩ = some v6) (c7 : w.cell? ⟨b, 7, none⟩ = some v7) :
    w'.cell? ⟨b, 0, none⟩ = some v0 ∧ w'.cell? ⟨b, 1, none⟩ = some v1 ∧ w'.cell? ⟨b, 2, none⟩ = some v2 ∧ w'.cell? ⟨b, 3, none⟩ = some v3 ∧ w'.cell? ⟨b, 4, none⟩ = some v4 ∧ w'.cell? ⟨b, 5, none⟩ = some v5 ∧ w'.cell? ⟨b, 6, none⟩ = some v6 ∧ w'.cell? ⟨b, 7, none⟩ = some v7 :=
  ⟨(hb.cell h).trans c0, (hb.cell h).trans c1, (hb.cell h).trans c2, (hb.cell h).trans c3, (hb.cell h).trans c4, (hb.cell h).trans c5, (hb.cell h).trans c6, (hb.cell h).trans c7⟩
theorem kids4 {w w' : World} {B b : Nat} {v0 v1 v2 v3 : Value} (hb : Below B w w') (h : b < B) (c0 : w.cell? ⟨b, 0, none⟩ = some v0) (c1 : w.cell? ⟨b, 1, none⟩ = some v1) (c2 : w.cell? ⟨b, 2, none⟩ = some v2) (c3 : w.cell? ⟨b, 3, none⟩ = some v3) :
    w'.cell? ⟨b, 0, none⟩ = some v0 ∧ w'.cell? ⟨b, 1, none⟩ = some v1 ∧ w'.cell? ⟨b, 2, none⟩ = some v2 ∧ w'.cell? ⟨b, 3, none⟩ = some v3 :=
  ⟨(hb.cell h).trans c0, (hb.cell h).trans c1, (hb.cell h).trans c2, (hb.cell h).trans c3⟩
theorem leaf_fin {D lo B : Nat} {w wX : World} {op n : Int} {name : ByteArray} {kids : List Ex} {v3 : Value} {t : TypeId} {g : Nat} {f : Ex} (hX : Below w.heap.size w wX) (hB : B ≤ w.heap.size) (hg : w.heap.size ≤ g) {c0 c1 c2 c3 : Value} (R : Row wX g t #[c0, c1, c2, c3]) (hy : ∀ m, (exT m (D + 1)).rep w lo B (.mk op n name kids) [.int .i64 op, .int .i64 n, .string name, v3]) (hf : f = .mk op n name kids) :
    Hid (FoldRP D f lo B w (.returned (.agg #[.int .i64 op, .int .i64 n, .string name, v3])) ((((wX.setCell ⟨g, 0, none⟩ (.int .i64 op)).setCell ⟨g, 1, none⟩ (.int .i64 n)).setCell ⟨g, 2, none⟩ (.string name)).setCell ⟨g, 3, none⟩ v3)) := by
  subst hf
  exact Lib.hid (fold_fin (y := .mk op n name kids) hX hB hg R hy)
/-- cells that a world has -/
def Has (w : World) (l : List (Addr × Value)) : Prop := ∀ x ∈ l, w.cell? x.1 = some x.2
theorem Has.below {w w' : World} {l : List (Addr × Value)} {B : Nat} (h : Has w l) (hb : Below B w w') (hl : ∀ x ∈ l, x.1.block < B) : Has w' l := fun x hx => (hb.cell (hl x hx)).trans (h x hx)
theorem Has.nine {w : World} {L : List (Addr × Value)} {a0 a1 a2 a3 a4 a5 a6 a7 a8 : Addr × Value} (h : Has w L) (hL : L = [a0, a1, a2, a3, a4, a5, a6, a7, a8]) : w.cell? a0.1 = some a0.2 ∧ w.cell? a1.1 = some a1.2 ∧ w.cell? a2.1 = some a2.2 ∧ w.cell? a3.1 = some a3.2 ∧ w.cell? a4.1 = some a4.2 ∧ w.cell? a5.1 = some a5.2 ∧ w.cell? a6.1 = some a6.2 ∧ w.cell? a7.1 = some a7.2 ∧ w.cell? a8.1 = some a8.2 := by
  subst hL
  exact ⟨h _ (by simp), h _ (by simp), h _ (by simp), h _ (by simp), h _ (by simp), h _ (by simp), h _ (by simp), h _ (by simp), h _ (by simp)⟩
theorem Has.five {w : World} {L : List (Addr × Value)} {a0 a1 a2 a3 a4 : Addr × Value} (h : Has w L) (hL : L = [a0, a1, a2, a3, a4]) : w.cell? a0.1 = some a0.2 ∧ w.cell? a1.1 = some a1.2 ∧ w.cell? a2.1 = some a2.2 ∧ w.cell? a3.1 = some a3.2 ∧ w.cell? a4.1 = some a4.2 := by
  subst hL
  exact ⟨h _ (by simp), h _ (by simp), h _ (by simp), h _ (by simp), h _ (by simp)⟩
theorem lcons {a : Addr} {v : Value} {l : List (Addr × Value)} {B : Nat} (h : a.block < B) (hl : ∀ x ∈ l, x.1.block < B) : ∀ x ∈ (a, v) :: l, x.1.block < B := fun x hx => by
  rcases List.mem_cons.1 hx with rfl | hx
  · exact h
  · exact hl x hx
theorem lnil {B : Nat} : ∀ x ∈ ([] : List (Addr × Value)), x.1.block < B := fun x hx => by simp at hx
theorem Has.nil {w : World} : Has w [] := fun _ h => by simp at h
theorem Has.cons {w : World} {a : Addr} {v : Value} {l : List (Addr × Value)} (h : w.cell? a = some v) (hl : Has w l) : Has w ((a, v) :: l) := fun x hx => by
  rcases List.mem_cons.1 hx with rfl | hx
  · exact h
  · exact hl x hx
end Go.Proofs.YthfinoapfbhgcaaDoor
