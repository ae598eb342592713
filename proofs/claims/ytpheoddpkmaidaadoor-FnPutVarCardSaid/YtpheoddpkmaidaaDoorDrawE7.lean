/-
  What the draws answer: the arguments of the law on what is put. Condition: few numbers have been picked.
-/
import Derived.Test.YtpheoddpkmaidaaDoorDrawE6
namespace Go.Proofs.YtpheoddpkmaidaaDoor
open Go.RowKit Go.ChangeShapes Go.WideShapes Go.Deep
set_option linter.unusedSimpArgs false
set_option linter.unusedVariables false
/-- what it answers: an expression, a name, an expression -/
def DrawQ (w : World) (e : Ending) (w' : World) : Prop :=
  ∃ op n name kids A c nm op' n' name' kids' A' c', e = .returned (.tuple #[.agg #[.int .i64 op, .int .i64 n, .string name, .slice A kids.length c], .string nm, .agg #[.int .i64 op', .int .i64 n', .string name', .slice A' kids'.length c']]) ∧
    I64 op ∧ I64 n ∧ name.size ≤ maxLen ∧ Sl false (exS false 9) w' w.heap.size w'.heap.size kids (.slice A kids.length c) ∧ nm.size ≤ 1001 ∧ I64 op' ∧ I64 n' ∧ name'.size ≤ maxLen ∧ Sl false (exS false 9) w' w.heap.size w'.heap.size kids' (.slice A' kids'.length c') ∧ Below w.heap.size w w'
set_option maxRecDepth 100000 in
set_option maxHeartbeats 8000000 in
theorem draw_putvar (l : List UInt8) (v : Value) (w : World) (hv : Sl false byS w 0 w.heap.size l v) : Calls Tryd.prog 29 #[v] w (DrawQ w) := by
  obtain ⟨A, cap, rfl, hlc, hcm⟩ := hv.form
  have hb0 : Below w.heap.size w ((w.alloc (.cells #[.int .i64 0, .int .i64 0, .string ⟨#[]⟩, .slice none 0 0] 25)).alloc (.cells #[.int .i64 0, .int .i64 0, .string ⟨#[]⟩, .slice none 0 0] 25)) := ((Below.refl _ _).alloc (Nat.le_refl _) _).alloc (by simp) _
  have R0 : Row ((w.alloc (.cells #[.int .i64 0, .int .i64 0, .string ⟨#[]⟩, .slice none 0 0] 25)).alloc (.cells #[.int .i64 0, .int .i64 0, .string ⟨#[]⟩, .slice none 0 0] 25)) w.heap.size 25 #[.int .i64 0, .int .i64 0, .string ⟨#[]⟩, .slice none 0 0] := (Row.new w _ _).alloc _
  have Q0 : Row ((w.alloc (.cells #[.int .i64 0, .int .i64 0, .string ⟨#[]⟩, .slice none 0 0] 25)).alloc (.cells #[.int .i64 0, .int .i64 0, .string ⟨#[]⟩, .slice none 0 0] 25)) (w.heap.size + 1) 25 #[.int .i64 0, .int .i64 0, .string ⟨#[]⟩, .slice none 0 0] := by simpa using Row.new (w.alloc (.cells #[.int .i64 0, .int .i64 0, .string ⟨#[]⟩, .slice none 0 0] 25)) 25 #[.int .i64 0, .int .i64 0, .string ⟨#[]⟩, .slice none 0 0]
  have hv0 : Sl false byS ((w.alloc (.cells #[.int .i64 0, .int .i64 0, .string ⟨#[]⟩, .slice none 0 0] 25)).alloc (.cells #[.int .i64 0, .int .i64 0, .string ⟨#[]⟩, .slice none 0 0] 25)) 0 ((w.alloc (.cells #[.int .i64 0, .int .i64 0, .string ⟨#[]⟩, .slice none 0 0] 25)).alloc (.cells #[.int .i64 0, .int .i64 0, .string ⟨#[]⟩, .slice none 0 0] 25)).heap.size l (.slice A l.length cap) := (hv.below hb0 (Nat.le_refl _)).more (Nat.le_refl _) hb0.size
  have hsz : ((w.alloc (.cells #[.int .i64 0, .int .i64 0, .string ⟨#[]⟩, .slice none 0 0] 25)).alloc (.cells #[.int .i64 0, .int .i64 0, .string ⟨#[]⟩, .slice none 0 0] 25)).heap.size = w.heap.size + 2 := by simp
  go_enter Tryd.func29, Tryd.ntmps29
  go_wp2_with fail
  refine (open_ok l _ _ hv0).mono ?_
  rintro e w1 ⟨g, l', rfl, hg, h1, b1⟩
  have hb1 := hb0.trans (b1.mono hb0.size)
  have R1 := R0.below b1 R0.lt
  have Q1 := Q0.below b1 Q0.lt
  have hwg : w.heap.size + 1 < g := by rw [hsz] at hg; omega
  have hg1 := h1.lt
  clear R0 Q0
  go_wp2_with fail
  refine (bent_ok l' g 0 _ h1 (by omega)).mono ?_
  rintro e w2 ⟨p2, op, n, name, kids, A3, c3, rfl, h2, hp2, hb2, hE⟩
  have R2 := R1.below hb2.1 (by omega)
  have Q2 := Q1.below hb2.1 hwg
  have hB2 := hb1.trans (hb2.1.mono (by omega))
  have L3 := lit_str w2 [⟨#[97]⟩, ⟨#[98]⟩, ⟨#[120]⟩, ⟨#[103, 111]⟩, ⟨#[102]⟩, ⟨#[]⟩] (nm_ml (nm_all (by decide +kernel))) (by decide)
  have st3 := (Below.refl _ w2).alloc (Nat.le_refl _) (.cells (([⟨#[97]⟩, ⟨#[98]⟩, ⟨#[120]⟩, ⟨#[103, 111]⟩, ⟨#[102]⟩, ⟨#[]⟩] : List ByteArray).map Value.string).toArray 9)
  have hg2 := h2.lt
  go_wp2_with fail
  refine (of_ok [⟨#[97]⟩, ⟨#[98]⟩, ⟨#[120]⟩, ⟨#[103, 111]⟩, ⟨#[102]⟩, ⟨#[]⟩] (by decide) (by decide) NmOk (nm_all (by decide +kernel)) _ _ _ l' g p2 _ (h2.below st3 hg2) (by omega) L3 hg2 (Nat.le_refl _)).mono ?_
  rintro e w3 ⟨v, p3, rfl, h3, hp3, hb3, s, hs, rfl⟩
  have hb3' : But g w2 w3 := ((But.refl w2).alloc hg2 _).trans hb3
  have R3 := R2.below hb3'.1 (by omega)
  have Q3 := Q2.below hb3'.1 hwg
  have hB3 := hB2.trans (hb3'.1.mono (by omega))
  have hE3 := hE.but hb3' hg1
  clear L3 hb3 hE
  go_wp2_with fail
  refine (bent_ok l' g p3 _ h3 (by omega)).mono ?_
  rintro e w4 ⟨p4, op', n', name', kids', A4, c4, rfl, h4, hp4, hb4, hF⟩
  have R4 := R3.below hb4.1 (by omega)
  have Q4 := Q3.below hb4.1 hwg
  have hB4 := hB3.trans (hb4.1.mono (by omega))
  have hE4 := hE3.but hb4 hg1
  have hw12 := hb2.1.size
  have hw23 := hb3'.1.size
  have Q5 : Row (set4 w4 w.heap.size (.int .i64 op) (.int .i64 n) (.string name) (.slice A3 kids.length c3)) (w.heap.size + 1) 25 #[.int .i64 0, .int .i64 0, .string ⟨#[]⟩, .slice none 0 0] := (set4_block w4 w.heap.size _ _ _ _ _ (by omega)).trans Q4
  have s0 : w4.cell? ⟨w.heap.size, 0, none⟩ = some (.int .i64 0) := R4.cell 0
  have s1 : w4.cell? ⟨w.heap.size, 1, none⟩ = some (.int .i64 0) := R4.cell 1
  have s2 : w4.cell? ⟨w.heap.size, 2, none⟩ = some (.string ⟨#[]⟩) := R4.cell 2
  have s3 : w4.cell? ⟨w.heap.size, 3, none⟩ = some (.slice none 0 0) := R4.cell 3
  have sf0 : w4.frozen? ⟨w.heap.size, 0, none⟩ = false := R4.frozen 0
  have sf1 : w4.frozen? ⟨w.heap.size, 1, none⟩ = false := R4.frozen 1
  have sf2 : w4.frozen? ⟨w.heap.size, 2, none⟩ = false := R4.frozen 2
  have sf3 : w4.frozen? ⟨w.heap.size, 3, none⟩ = false := R4.frozen 3
  have t0 : w4.cell? ⟨w.heap.size + 1, 0, none⟩ = some (.int .i64 0) := Q4.cell 0
  have t1 : w4.cell? ⟨w.heap.size + 1, 1, none⟩ = some (.int .i64 0) := Q4.cell 1
  have t2 : w4.cell? ⟨w.heap.size + 1, 2, none⟩ = some (.string ⟨#[]⟩) := Q4.cell 2
  have t3 : w4.cell? ⟨w.heap.size + 1, 3, none⟩ = some (.slice none 0 0) := Q4.cell 3
  have tf0 : w4.frozen? ⟨w.heap.size + 1, 0, none⟩ = false := Q4.frozen 0
  have tf1 : w4.frozen? ⟨w.heap.size + 1, 1, none⟩ = false := Q4.frozen 1
  have tf2 : w4.frozen? ⟨w.heap.size + 1, 2, none⟩ = false := Q4.frozen 2
  have tf3 : w4.frozen? ⟨w.heap.size + 1, 3, none⟩ = false := Q4.frozen 3
  have R6 : Row (set4 (set4 w4 w.heap.size (.int .i64 op) (.int .i64 n) (.string name) (.slice A3 kids.length c3)) (w.heap.size + 1) (.int .i64 op') (.int .i64 n') (.string name') (.slice A4 kids'.length c4)) w.heap.size 25 #[.int .i64 op, .int .i64 n, .string name, .slice A3 kids.length c3] := (set4_block (set4 w4 w.heap.size (.int .i64 op) (.int .i64 n) (.string name) (.slice A3 kids.length c3)) (w.heap.size + 1) _ _ _ _ _ (by omega)).trans ((((R4.set_ 0 _).set_ 1 _).set_ 2 _).set_ 3 _)
  have Q6 : Row (set4 (set4 w4 w.heap.size (.int .i64 op) (.int .i64 n) (.string name) (.slice A3 kids.length c3)) (w.heap.size + 1) (.int .i64 op') (.int .i64 n') (.string name') (.slice A4 kids'.length c4)) (w.heap.size + 1) 25 #[.int .i64 op', .int .i64 n', .string name', .slice A4 kids'.length c4] := ((((Q5.set_ 0 _).set_ 1 _).set_ 2 _).set_ 3 _)


  have hz6 : (set4 (set4 w4 w.heap.size (.int .i64 op) (.int .i64 n) (.string name) (.slice A3 kids.length c3)) (w.heap.size + 1) (.int .i64 op') (.int .i64 n') (.string name') (.slice A4 kids'.length c4)).heap.size = w4.heap.size := by rw [set4_size, set4_size]
  have same : ∀ b : Nat, w.heap.size + 1 < b → (set4 (set4 w4 w.heap.size (.int .i64 op) (.int .i64 n) (.string name) (.slice A3 kids.length c3)) (w.heap.size + 1) (.int .i64 op') (.int .i64 n') (.string name') (.slice A4 kids'.length c4)).heap[b]? = w4.heap[b]? := fun b hb => (set4_block _ (w.heap.size + 1) _ _ _ _ b (by omega)).trans (set4_block w4 w.heap.size _ _ _ _ b (by omega))
  have F : Hid (DrawQ w (.returned (.tuple #[.agg #[.int .i64 op, .int .i64 n, .string name, .slice A3 kids.length c3], .string s, .agg #[.int .i64 op', .int .i64 n', .string name', .slice A4 kids'.length c4]])) (set4 (set4 w4 w.heap.size (.int .i64 op) (.int .i64 n) (.string name) (.slice A3 kids.length c3)) (w.heap.size + 1) (.int .i64 op') (.int .i64 n') (.string name') (.slice A4 kids'.length c4))) :=
    ⟨op, n, name, kids, A3, c3, s, op', n', name', kids', A4, c4, rfl, hE4.1, hE4.2.1, Nat.le_trans hE4.2.2.1 (by decide), (hE4.sl.keep (by omega) (Nat.le_of_eq hz6.symm) (fun b h1 h2 => same b (by omega))), hs.1, hF.1, hF.2.1, Nat.le_trans hF.2.2.1 (by decide), (hF.sl.keep (by omega) (Nat.le_of_eq hz6.symm) (fun b h1 h2 => same b (by omega))), (hB4.trans (set4_below w4 w.heap.size _ _ _ _ (Nat.le_refl _))).trans (set4_below _ (w.heap.size + 1) _ _ _ _ (by omega))⟩
  clear hE3 hE4 hF hb2 hb3' hb4 hv0 hv R1 Q1 same R6 Q6 R3 Q3 R2 Q2
  go_wp2_with fail
  refine bodyPost_ret (v := .tuple #[.agg #[.int .i64 op, .int .i64 n, .string name, .slice A3 kids.length c3], .string s, .agg #[.int .i64 op', .int .i64 n', .string name', .slice A4 kids'.length c4]]) (by simp [results, Tryd.results29, go_sem, s0, s1, s2, s3, t0, t1, t2, t3]) rfl F.out
end Go.Proofs.YtpheoddpkmaidaaDoor
