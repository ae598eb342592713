/-
  What the draws answer: the arguments of the laws. Condition: few numbers have been picked.
-/
import Derived.Test.YtpheoddpkmaidaaDoorDrawE5
namespace Go.Proofs.YtpheoddpkmaidaaDoor
open Go.RowKit Go.ChangeShapes Go.WideShapes Go.Deep
set_option linter.unusedSimpArgs false
set_option linter.unusedVariables false
/-- what a draw of a law answers -/
def DrawP (w : World) (e : Ending) (w' : World) : Prop :=
  ∃ op n name kids A c, e = .returned (.agg #[.int .i64 op, .int .i64 n, .string name, .slice A kids.length c]) ∧ I64 op ∧ I64 n ∧ name.size ≤ maxLen ∧ Sl false (exS false 9) w' w.heap.size w'.heap.size kids (.slice A kids.length c) ∧ NoZ (.mk op n name kids) ∧ Below w.heap.size w w'
theorem ExV.sl {d lo : Nat} {op n : Int} {name : ByteArray} {kids : List Ex} {v3 : Value} {w : World} (h : ExV d lo op n name kids v3 w) : Sl false (exS false d) w lo w.heap.size kids v3 := (h.2.2.2.2.2.2.slT (fun m => by rw [exT_size, exT_size]) (Nat.le_refl _) false).exS
set_option maxRecDepth 100000 in
set_option maxHeartbeats 4000000 in
theorem draw_parts (l : List UInt8) (v : Value) (w : World) (hv : Sl false byS w 0 w.heap.size l v) : Calls Tryd.prog 15 #[v] w (DrawP w) := by
  obtain ⟨A, cap, rfl, hlc, hcm⟩ := hv.form
  have hb0 : Below w.heap.size w (w.alloc (.cells #[.int .i64 0, .int .i64 0, .string ⟨#[]⟩, .slice none 0 0] 25)) := (Below.refl _ _).alloc (Nat.le_refl _) _
  have R0 : Row (w.alloc (.cells #[.int .i64 0, .int .i64 0, .string ⟨#[]⟩, .slice none 0 0] 25)) w.heap.size 25 #[.int .i64 0, .int .i64 0, .string ⟨#[]⟩, .slice none 0 0] := Row.new w _ _
  have hv0 : Sl false byS (w.alloc (.cells #[.int .i64 0, .int .i64 0, .string ⟨#[]⟩, .slice none 0 0] 25)) 0 (w.alloc (.cells #[.int .i64 0, .int .i64 0, .string ⟨#[]⟩, .slice none 0 0] 25)).heap.size l (.slice A l.length cap) := (hv.below hb0 (Nat.le_refl _)).more (Nat.le_refl _) hb0.size
  go_enter Tryd.func15, Tryd.ntmps15
  go_wp2_with fail
  refine (open_ok l _ _ hv0).mono ?_
  rintro e w1 ⟨g, l', rfl, hg, h1, b1⟩
  have hb1 := hb0.trans (b1.mono hb0.size)
  have R1 := R0.below b1 R0.lt
  have hwg : w.heap.size < g := Nat.lt_of_lt_of_le (by simp) hg
  have hg1 := h1.lt
  clear R0
  go_wp2_with fail
  refine (bent_ok l' g 0 _ h1 (by omega)).mono ?_
  rintro e w2 ⟨p2, op, n, name, kids, A3, c3, rfl, h2, hp2, hb2, hE⟩
  have R2 := R1.below hb2.1 hwg
  have hB2 := hb1.trans (hb2.1.mono (Nat.le_of_lt hwg))
  have s0 : w2.cell? ⟨w.heap.size, 0, none⟩ = some (.int .i64 0) := R2.cell 0
  have s1 : w2.cell? ⟨w.heap.size, 1, none⟩ = some (.int .i64 0) := R2.cell 1
  have s2 : w2.cell? ⟨w.heap.size, 2, none⟩ = some (.string ⟨#[]⟩) := R2.cell 2
  have s3 : w2.cell? ⟨w.heap.size, 3, none⟩ = some (.slice none 0 0) := R2.cell 3
  have sf0 : w2.frozen? ⟨w.heap.size, 0, none⟩ = false := R2.frozen 0
  have sf1 : w2.frozen? ⟨w.heap.size, 1, none⟩ = false := R2.frozen 1
  have sf2 : w2.frozen? ⟨w.heap.size, 2, none⟩ = false := R2.frozen 2
  have sf3 : w2.frozen? ⟨w.heap.size, 3, none⟩ = false := R2.frozen 3
  have hE6 := hE.keepT (w' := set4 w2 w.heap.size (.int .i64 op) (.int .i64 n) (.string name) (.slice A3 kids.length c3)) (fun b h1 h2 => set4_block _ _ _ _ _ _ b (by omega)) (Nat.le_of_eq (set4_size _ _ _ _ _ _).symm)
  have F : Hid (DrawP w (.returned (.agg #[.int .i64 op, .int .i64 n, .string name, .slice A3 kids.length c3])) (set4 w2 w.heap.size (.int .i64 op) (.int .i64 n) (.string name) (.slice A3 kids.length c3))) :=
    ⟨op, n, name, kids, A3, c3, rfl, hE.1, hE.2.1, Nat.le_trans hE.2.2.1 (by decide), hE6.sl.more (by omega) (Nat.le_refl _), hE.noZ, hB2.trans (set4_below w2 w.heap.size _ _ _ _ (Nat.le_refl _))⟩
  clear hE hE6 hb2 hv0 hv R1
  go_wp2_with fail
  refine bodyPost_ret (v := .agg #[.int .i64 op, .int .i64 n, .string name, .slice A3 kids.length c3]) (by simp [results, Tryd.results15, go_sem, s0, s1, s2, s3]) rfl F.out
set_option maxRecDepth 100000 in
set_option maxHeartbeats 4000000 in
theorem draw_valid (l : List UInt8) (v : Value) (w : World) (hv : Sl false byS w 0 w.heap.size l v) : Calls Tryd.prog 35 #[v] w (DrawP w) := by
  obtain ⟨A, cap, rfl, hlc, hcm⟩ := hv.form
  have hb0 : Below w.heap.size w (w.alloc (.cells #[.int .i64 0, .int .i64 0, .string ⟨#[]⟩, .slice none 0 0] 25)) := (Below.refl _ _).alloc (Nat.le_refl _) _
  have R0 : Row (w.alloc (.cells #[.int .i64 0, .int .i64 0, .string ⟨#[]⟩, .slice none 0 0] 25)) w.heap.size 25 #[.int .i64 0, .int .i64 0, .string ⟨#[]⟩, .slice none 0 0] := Row.new w _ _
  have hv0 : Sl false byS (w.alloc (.cells #[.int .i64 0, .int .i64 0, .string ⟨#[]⟩, .slice none 0 0] 25)) 0 (w.alloc (.cells #[.int .i64 0, .int .i64 0, .string ⟨#[]⟩, .slice none 0 0] 25)).heap.size l (.slice A l.length cap) := (hv.below hb0 (Nat.le_refl _)).more (Nat.le_refl _) hb0.size
  go_enter Tryd.func35, Tryd.ntmps35
  go_wp2_with fail
  refine (open_ok l _ _ hv0).mono ?_
  rintro e w1 ⟨g, l', rfl, hg, h1, b1⟩
  have hb1 := hb0.trans (b1.mono hb0.size)
  have R1 := R0.below b1 R0.lt
  have hwg : w.heap.size < g := Nat.lt_of_lt_of_le (by simp) hg
  have hg1 := h1.lt
  clear R0
  go_wp2_with fail
  refine (bent_ok l' g 0 _ h1 (by omega)).mono ?_
  rintro e w2 ⟨p2, op, n, name, kids, A3, c3, rfl, h2, hp2, hb2, hE⟩
  have R2 := R1.below hb2.1 hwg
  have hB2 := hb1.trans (hb2.1.mono (Nat.le_of_lt hwg))
  have s0 : w2.cell? ⟨w.heap.size, 0, none⟩ = some (.int .i64 0) := R2.cell 0
  have s1 : w2.cell? ⟨w.heap.size, 1, none⟩ = some (.int .i64 0) := R2.cell 1
  have s2 : w2.cell? ⟨w.heap.size, 2, none⟩ = some (.string ⟨#[]⟩) := R2.cell 2
  have s3 : w2.cell? ⟨w.heap.size, 3, none⟩ = some (.slice none 0 0) := R2.cell 3
  have sf0 : w2.frozen? ⟨w.heap.size, 0, none⟩ = false := R2.frozen 0
  have sf1 : w2.frozen? ⟨w.heap.size, 1, none⟩ = false := R2.frozen 1
  have sf2 : w2.frozen? ⟨w.heap.size, 2, none⟩ = false := R2.frozen 2
  have sf3 : w2.frozen? ⟨w.heap.size, 3, none⟩ = false := R2.frozen 3
  have hE6 := hE.keepT (w' := set4 w2 w.heap.size (.int .i64 op) (.int .i64 n) (.string name) (.slice A3 kids.length c3)) (fun b h1 h2 => set4_block _ _ _ _ _ _ b (by omega)) (Nat.le_of_eq (set4_size _ _ _ _ _ _).symm)
  have F : Hid (DrawP w (.returned (.agg #[.int .i64 op, .int .i64 n, .string name, .slice A3 kids.length c3])) (set4 w2 w.heap.size (.int .i64 op) (.int .i64 n) (.string name) (.slice A3 kids.length c3))) :=
    ⟨op, n, name, kids, A3, c3, rfl, hE.1, hE.2.1, Nat.le_trans hE.2.2.1 (by decide), hE6.sl.more (by omega) (Nat.le_refl _), hE.noZ, hB2.trans (set4_below w2 w.heap.size _ _ _ _ (Nat.le_refl _))⟩
  clear hE hE6 hb2 hv0 hv R1
  go_wp2_with fail
  refine bodyPost_ret (v := .agg #[.int .i64 op, .int .i64 n, .string name, .slice A3 kids.length c3]) (by simp [results, Tryd.results35, go_sem, s0, s1, s2, s3]) rfl F.out
set_option maxRecDepth 100000 in
set_option maxHeartbeats 4000000 in
theorem draw_vars (l : List UInt8) (v : Value) (w : World) (hv : Sl false byS w 0 w.heap.size l v) : Calls Tryd.prog 27 #[v] w (DrawP w) := by
  obtain ⟨A, cap, rfl, hlc, hcm⟩ := hv.form
  have hb0 : Below w.heap.size w (w.alloc (.cells #[.int .i64 0, .int .i64 0, .string ⟨#[]⟩, .slice none 0 0] 25)) := (Below.refl _ _).alloc (Nat.le_refl _) _
  have R0 : Row (w.alloc (.cells #[.int .i64 0, .int .i64 0, .string ⟨#[]⟩, .slice none 0 0] 25)) w.heap.size 25 #[.int .i64 0, .int .i64 0, .string ⟨#[]⟩, .slice none 0 0] := Row.new w _ _
  have hv0 : Sl false byS (w.alloc (.cells #[.int .i64 0, .int .i64 0, .string ⟨#[]⟩, .slice none 0 0] 25)) 0 (w.alloc (.cells #[.int .i64 0, .int .i64 0, .string ⟨#[]⟩, .slice none 0 0] 25)).heap.size l (.slice A l.length cap) := (hv.below hb0 (Nat.le_refl _)).more (Nat.le_refl _) hb0.size
  go_enter Tryd.func27, Tryd.ntmps27
  go_wp2_with fail
  refine (open_ok l _ _ hv0).mono ?_
  rintro e w1 ⟨g, l', rfl, hg, h1, b1⟩
  have hb1 := hb0.trans (b1.mono hb0.size)
  have R1 := R0.below b1 R0.lt
  have hwg : w.heap.size < g := Nat.lt_of_lt_of_le (by simp) hg
  have hg1 := h1.lt
  clear R0
  go_wp2_with fail
  refine (bent_ok l' g 0 _ h1 (by omega)).mono ?_
  rintro e w2 ⟨p2, op, n, name, kids, A3, c3, rfl, h2, hp2, hb2, hE⟩
  have R2 := R1.below hb2.1 hwg
  have hB2 := hb1.trans (hb2.1.mono (Nat.le_of_lt hwg))
  have s0 : w2.cell? ⟨w.heap.size, 0, none⟩ = some (.int .i64 0) := R2.cell 0
  have s1 : w2.cell? ⟨w.heap.size, 1, none⟩ = some (.int .i64 0) := R2.cell 1
  have s2 : w2.cell? ⟨w.heap.size, 2, none⟩ = some (.string ⟨#[]⟩) := R2.cell 2
  have s3 : w2.cell? ⟨w.heap.size, 3, none⟩ = some (.slice none 0 0) := R2.cell 3
  have sf0 : w2.frozen? ⟨w.heap.size, 0, none⟩ = false := R2.frozen 0
  have sf1 : w2.frozen? ⟨w.heap.size, 1, none⟩ = false := R2.frozen 1
  have sf2 : w2.frozen? ⟨w.heap.size, 2, none⟩ = false := R2.frozen 2
  have sf3 : w2.frozen? ⟨w.heap.size, 3, none⟩ = false := R2.frozen 3
  have hE6 := hE.keepT (w' := set4 w2 w.heap.size (.int .i64 op) (.int .i64 n) (.string name) (.slice A3 kids.length c3)) (fun b h1 h2 => set4_block _ _ _ _ _ _ b (by omega)) (Nat.le_of_eq (set4_size _ _ _ _ _ _).symm)
  have F : Hid (DrawP w (.returned (.agg #[.int .i64 op, .int .i64 n, .string name, .slice A3 kids.length c3])) (set4 w2 w.heap.size (.int .i64 op) (.int .i64 n) (.string name) (.slice A3 kids.length c3))) :=
    ⟨op, n, name, kids, A3, c3, rfl, hE.1, hE.2.1, Nat.le_trans hE.2.2.1 (by decide), hE6.sl.more (by omega) (Nat.le_refl _), hE.noZ, hB2.trans (set4_below w2 w.heap.size _ _ _ _ (Nat.le_refl _))⟩
  clear hE hE6 hb2 hv0 hv R1
  go_wp2_with fail
  refine bodyPost_ret (v := .agg #[.int .i64 op, .int .i64 n, .string name, .slice A3 kids.length c3]) (by simp [results, Tryd.results27, go_sem, s0, s1, s2, s3]) rfl F.out
set_option maxRecDepth 100000 in
set_option maxHeartbeats 4000000 in
theorem draw_calls (l : List UInt8) (v : Value) (w : World) (hv : Sl false byS w 0 w.heap.size l v) : Calls Tryd.prog 20 #[v] w (DrawP w) := by
  obtain ⟨A, cap, rfl, hlc, hcm⟩ := hv.form
  have hb0 : Below w.heap.size w (w.alloc (.cells #[.int .i64 0, .int .i64 0, .string ⟨#[]⟩, .slice none 0 0] 25)) := (Below.refl _ _).alloc (Nat.le_refl _) _
  have R0 : Row (w.alloc (.cells #[.int .i64 0, .int .i64 0, .string ⟨#[]⟩, .slice none 0 0] 25)) w.heap.size 25 #[.int .i64 0, .int .i64 0, .string ⟨#[]⟩, .slice none 0 0] := Row.new w _ _
  have hv0 : Sl false byS (w.alloc (.cells #[.int .i64 0, .int .i64 0, .string ⟨#[]⟩, .slice none 0 0] 25)) 0 (w.alloc (.cells #[.int .i64 0, .int .i64 0, .string ⟨#[]⟩, .slice none 0 0] 25)).heap.size l (.slice A l.length cap) := (hv.below hb0 (Nat.le_refl _)).more (Nat.le_refl _) hb0.size
  go_enter Tryd.func20, Tryd.ntmps20
  go_wp2_with fail
  refine (open_ok l _ _ hv0).mono ?_
  rintro e w1 ⟨g, l', rfl, hg, h1, b1⟩
  have hb1 := hb0.trans (b1.mono hb0.size)
  have R1 := R0.below b1 R0.lt
  have hwg : w.heap.size < g := Nat.lt_of_lt_of_le (by simp) hg
  have hg1 := h1.lt
  clear R0
  go_wp2_with fail
  refine (bent_ok l' g 0 _ h1 (by omega)).mono ?_
  rintro e w2 ⟨p2, op, n, name, kids, A3, c3, rfl, h2, hp2, hb2, hE⟩
  have R2 := R1.below hb2.1 hwg
  have hB2 := hb1.trans (hb2.1.mono (Nat.le_of_lt hwg))
  have s0 : w2.cell? ⟨w.heap.size, 0, none⟩ = some (.int .i64 0) := R2.cell 0
  have s1 : w2.cell? ⟨w.heap.size, 1, none⟩ = some (.int .i64 0) := R2.cell 1
  have s2 : w2.cell? ⟨w.heap.size, 2, none⟩ = some (.string ⟨#[]⟩) := R2.cell 2
  have s3 : w2.cell? ⟨w.heap.size, 3, none⟩ = some (.slice none 0 0) := R2.cell 3
  have sf0 : w2.frozen? ⟨w.heap.size, 0, none⟩ = false := R2.frozen 0
  have sf1 : w2.frozen? ⟨w.heap.size, 1, none⟩ = false := R2.frozen 1
  have sf2 : w2.frozen? ⟨w.heap.size, 2, none⟩ = false := R2.frozen 2
  have sf3 : w2.frozen? ⟨w.heap.size, 3, none⟩ = false := R2.frozen 3
  have hE6 := hE.keepT (w' := set4 w2 w.heap.size (.int .i64 op) (.int .i64 n) (.string name) (.slice A3 kids.length c3)) (fun b h1 h2 => set4_block _ _ _ _ _ _ b (by omega)) (Nat.le_of_eq (set4_size _ _ _ _ _ _).symm)
  have F : Hid (DrawP w (.returned (.agg #[.int .i64 op, .int .i64 n, .string name, .slice A3 kids.length c3])) (set4 w2 w.heap.size (.int .i64 op) (.int .i64 n) (.string name) (.slice A3 kids.length c3))) :=
    ⟨op, n, name, kids, A3, c3, rfl, hE.1, hE.2.1, Nat.le_trans hE.2.2.1 (by decide), hE6.sl.more (by omega) (Nat.le_refl _), hE.noZ, hB2.trans (set4_below w2 w.heap.size _ _ _ _ (Nat.le_refl _))⟩
  clear hE hE6 hb2 hv0 hv R1
  go_wp2_with fail
  refine bodyPost_ret (v := .agg #[.int .i64 op, .int .i64 n, .string name, .slice A3 kids.length c3]) (by simp [results, Tryd.results20, go_sem, s0, s1, s2, s3]) rfl F.out
end Go.Proofs.YtpheoddpkmaidaaDoor
