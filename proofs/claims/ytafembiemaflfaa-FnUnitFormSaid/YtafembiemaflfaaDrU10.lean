/-
  The draws of the laws on units: DrawUnitValid, DrawInsCount. Condition: the argument reads as bytes.
-/
import Derived.Test.YtafembiemaflfaaDrU9
namespace Go.Proofs.Ytafembiemaflfaa
open Go.RowKit Go.ChangeShapes Go.WideShapes Go.Deep
variable {D : Nat}
set_option linter.unusedVariables false
set_option linter.unusedSimpArgs false
/-- the first elements of a slice -/
theorem Sl.take_ {α : Type} {m : Bool} {S : Shp α} {w : World} {lo B : Nat} {l : List α} {A : Option Addr} {n cap : Nat} (h : Sl m S w lo B l (.slice A n cap)) (k : Nat) (hk : k ≤ n) : Sl m S w lo B (l.take k) (.slice A k cap) := by
  obtain ⟨A', cap', hv, h1, h2, h3⟩ := h
  injection hv with e1 e2 e3
  subst e1
  subst e2
  subst e3
  refine ⟨A, cap, by rw [List.length_take, Nat.min_eq_left hk], by rw [List.length_take]; omega, h2, fun hl => ?_⟩
  obtain ⟨b, o, e1, e2, e3, e4, e5⟩ := h3 (by intro e; rw [e] at hl; simp at hl)
  refine ⟨b, o, e1, e2, e3, e4, fun i a ha => e5 i a ?_⟩
  rw [List.getElem?_take] at ha
  split at ha
  · exact ha
  · cases ha
/-- what the draw of a unit answers -/
def DrawU (w : World) (e : Ending) (w' : World) : Prop := ∃ (A : Option Addr) (n c : Nat), e = .returned (.agg #[.slice A n c]) ∧ 1 ≤ n ∧ TyCods 4 w.heap.size w' (.slice A n c) ∧ Below w.heap.size w w'
set_option maxRecDepth 100000 in
theorem draw_DrawUnitValid (l : List UInt8) (v : Value) (w : World) (hv : Sl false byS w 0 w.heap.size l v) : Calls Try.prog 15 #[v] w (DrawU w) := by
  go_enter Try.func15, Try.ntmps15
  go_wp2_with fail
  have hb0 : Below w.heap.size w (w.alloc (.cells #[.slice none 0 0] 39)) := (Below.refl _ _).alloc (Nat.le_refl _) _
  refine (open_ok l v _ ((hv.below hb0 (Nat.le_refl _)).more (Nat.le_refl _) (by simp))).mono ?_
  rintro e w1 ⟨g, l', rfl, hg, h1, b1⟩
  have hg' : w.heap.size < g := by
    simp at hg
    omega
  have hb1 : Below w.heap.size w w1 := hb0.trans (b1.mono (by simp))
  have R1 := (Row.new w 39 #[.slice none 0 0]).below b1 (by simp)
  go_wp2_with fail
  refine (bent_ok l' g 0 w1 h1 (by omega)).mono ?_
  rintro e w2 ⟨v2, p2, rfl, h2, hp2, hb2, A, n, c, rfl, hn, ty⟩
  have hb2' : Below w.heap.size w1 w2 := hb2.1.mono (by omega)
  have RR2 : Row w2 w.heap.size 39 #[.slice none 0 0] := (hb2.1.block w.heap.size hg').trans R1
  have F := Lib.hid (show DrawU w (.returned (.agg #[.slice A n c])) (w2.setCell ⟨w.heap.size, 0, none⟩ (.slice A n c)) from ⟨A, n, c, rfl, hn, (ty.lower hb1.size).keep (Chg.set RR2 (OK.ofCods (ty.lower hb1.size))), (hb1.trans hb2').setCell (p := ⟨w.heap.size, 0, none⟩) (Nat.le_refl _) _⟩)
  have s0 : w2.cell? ⟨w.heap.size, 0, none⟩ = some (.slice none 0 0) := RR2.cell 0
  have sf0 : w2.frozen? ⟨w.heap.size, 0, none⟩ = false := RR2.frozen 0
  go_wp2_with fail
  refine bodyPost_ret (v := .agg #[.slice A n c]) (by simp [results, Try.results15, go_sem, s0]) rfl F.out
set_option maxRecDepth 100000 in
theorem draw_DrawInsCount (l : List UInt8) (v : Value) (w : World) (hv : Sl false byS w 0 w.heap.size l v) : Calls Try.prog 12 #[v] w (DrawU w) := by
  go_enter Try.func12, Try.ntmps12
  go_wp2_with fail
  have hb0 : Below w.heap.size w (w.alloc (.cells #[.slice none 0 0] 39)) := (Below.refl _ _).alloc (Nat.le_refl _) _
  refine (open_ok l v _ ((hv.below hb0 (Nat.le_refl _)).more (Nat.le_refl _) (by simp))).mono ?_
  rintro e w1 ⟨g, l', rfl, hg, h1, b1⟩
  have hg' : w.heap.size < g := by
    simp at hg
    omega
  have hb1 : Below w.heap.size w w1 := hb0.trans (b1.mono (by simp))
  have R1 := (Row.new w 39 #[.slice none 0 0]).below b1 (by simp)
  go_wp2_with fail
  refine (bent_ok l' g 0 w1 h1 (by omega)).mono ?_
  rintro e w2 ⟨v2, p2, rfl, h2, hp2, hb2, A, n, c, rfl, hn, ty⟩
  have hb2' : Below w.heap.size w1 w2 := hb2.1.mono (by omega)
  have RR2 : Row w2 w.heap.size 39 #[.slice none 0 0] := (hb2.1.block w.heap.size hg').trans R1
  have F := Lib.hid (show DrawU w (.returned (.agg #[.slice A n c])) (w2.setCell ⟨w.heap.size, 0, none⟩ (.slice A n c)) from ⟨A, n, c, rfl, hn, (ty.lower hb1.size).keep (Chg.set RR2 (OK.ofCods (ty.lower hb1.size))), (hb1.trans hb2').setCell (p := ⟨w.heap.size, 0, none⟩) (Nat.le_refl _) _⟩)
  have s0 : w2.cell? ⟨w.heap.size, 0, none⟩ = some (.slice none 0 0) := RR2.cell 0
  have sf0 : w2.frozen? ⟨w.heap.size, 0, none⟩ = false := RR2.frozen 0
  go_wp2_with fail
  refine bodyPost_ret (v := .agg #[.slice A n c]) (by simp [results, Try.results12, go_sem, s0]) rfl F.out
end Go.Proofs.Ytafembiemaflfaa
