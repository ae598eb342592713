/-
  The draw of the law on units: DrawTightUnit. Condition: the argument reads as bytes.
-/
import Derived.Test.YtgcjccoglcgcoaaDrU9
namespace Go.Proofs.Ytgcjccoglcgcoaa
open Go.RowKit Go.ChangeShapes Go.WideShapes Go.Deep
variable {D : Nat}
set_option linter.unusedVariables false
set_option linter.unusedSimpArgs false
/-- what the draw of a unit answers -/
def DrawU (w : World) (e : Ending) (w' : World) : Prop := ∃ (A : Option Addr) (n c : Nat), e = .returned (.agg #[.slice A n c]) ∧ 1 ≤ n ∧ TyCods 4 w.heap.size w' (.slice A n c) ∧ Below w.heap.size w w'
set_option maxRecDepth 100000 in
theorem draw_DrawTightUnit (l : List UInt8) (v : Value) (w : World) (hv : Sl false byS w 0 w.heap.size l v) : Calls Try.prog 12 #[v] w (DrawU w) := by
  go_enter Try.func12, Try.ntmps12
  go_wp2_with fail
  have hb0 : Below w.heap.size w (w.alloc (.cells #[.slice none 0 0] 28)) := (Below.refl _ _).alloc (Nat.le_refl _) _
  refine (open_ok l v _ ((hv.below hb0 (Nat.le_refl _)).more (Nat.le_refl _) (by simp))).mono ?_
  rintro e w1 ⟨g, l', rfl, hg, h1, b1⟩
  have hg' : w.heap.size < g := by
    simp at hg
    omega
  have hb1 : Below w.heap.size w w1 := hb0.trans (b1.mono (by simp))
  have R1 := (Row.new w 28 #[.slice none 0 0]).below b1 (by simp)
  go_wp2_with fail
  refine (bent_ok l' g 0 w1 h1 (by omega)).mono ?_
  rintro e w2 ⟨v2, p2, rfl, h2, hp2, hb2, A, n, c, rfl, hn, ty⟩
  have hb2' : Below w.heap.size w1 w2 := hb2.1.mono (by omega)
  have RR2 : Row w2 w.heap.size 28 #[.slice none 0 0] := (hb2.1.block w.heap.size hg').trans R1
  have F := Lib.hid (show DrawU w (.returned (.agg #[.slice A n c])) (w2.setCell ⟨w.heap.size, 0, none⟩ (.slice A n c)) from ⟨A, n, c, rfl, hn, (ty.lower hb1.size).keep (Chg.set RR2 (OK.ofCods (ty.lower hb1.size))), (hb1.trans hb2').setCell (p := ⟨w.heap.size, 0, none⟩) (Nat.le_refl _) _⟩)
  have s0 : w2.cell? ⟨w.heap.size, 0, none⟩ = some (.slice none 0 0) := RR2.cell 0
  have sf0 : w2.frozen? ⟨w.heap.size, 0, none⟩ = false := RR2.frozen 0
  go_wp2_with fail
  refine bodyPost_ret (v := .agg #[.slice A n c]) (by simp [results, Try.results12, go_sem, s0]) rfl F.out
end Go.Proofs.Ytgcjccoglcgcoaa
