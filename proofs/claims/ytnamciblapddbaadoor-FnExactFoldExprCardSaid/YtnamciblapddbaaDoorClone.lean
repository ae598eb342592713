/-
  Copies of expressions, by the program and by the reference. Conditions: the argument reads as data and has the form of an expression.
-/
import Derived.Test.YtnamciblapddbaaDoorMapped
namespace Go.Proofs.YtnamciblapddbaaDoor
open Go.RowKit Go.ChangeShapes Go.WideShapes Go.Deep

set_option linter.unusedVariables false
set_option linter.unusedSimpArgs false
def CloneAt (F : FuncId) (m : Nat) : Prop := ∀ (d : Nat) (op n : Int) (name : ByteArray) (kids : List Ex) (v3 : Value) (w : World) (lo B : Nat) (_ : B ≤ w.heap.size) (_ : I64 op) (_ : I64 n) (_ : name.size ≤ maxLen) (_ : Sl false (exS false d) w lo B kids v3) (_ : formB m (.mk op n name kids) = true),
  Calls Tryd.prog F #[.agg #[.int .i64 op, .int .i64 n, .string name, v3]] w (ToTE m (.mk op n name kids) w)
set_option maxRecDepth 100000 in
set_option maxHeartbeats 4000000 in
theorem clone_step (m : Nat) (ih : CloneAt 57 m) : CloneAt 57 (m + 1) := by
  intro d op n name kids v3 w lo B hB ho hn64 hnm h3 hform
  rw [formB, Bool.and_eq_true] at hform
  obtain ⟨hfm, hall⟩ := hform
  replace hall := Lib.hid hall
  have hk3 := fmK_len hfm
  clear hfm
  obtain ⟨A, p, hf, hl1, hl2⟩ := h3.form
  subst hf
  have hb2 : Below w.heap.size w ((w.alloc (.cells #[.int .i64 op, .int .i64 n, .string name, .slice A kids.length p] 30)).alloc (.cells #[.int .i64 0, .int .i64 0, .string ⟨#[]⟩, .slice none 0 0] 30)) := ((Below.refl _ _).alloc (Nat.le_refl _) _).alloc (by simp) _
  have R2 : Row ((w.alloc (.cells #[.int .i64 op, .int .i64 n, .string name, .slice A kids.length p] 30)).alloc (.cells #[.int .i64 0, .int .i64 0, .string ⟨#[]⟩, .slice none 0 0] 30)) w.heap.size 30 #[.int .i64 op, .int .i64 n, .string name, .slice A kids.length p] := (Row.new w _ _).alloc _
  have S2 : Row ((w.alloc (.cells #[.int .i64 op, .int .i64 n, .string name, .slice A kids.length p] 30)).alloc (.cells #[.int .i64 0, .int .i64 0, .string ⟨#[]⟩, .slice none 0 0] 30)) (w.heap.size + 1) 30 #[.int .i64 0, .int .i64 0, .string ⟨#[]⟩, .slice none 0 0] := by simpa using Row.new (w.alloc (.cells #[.int .i64 op, .int .i64 n, .string name, .slice A kids.length p] 30)) 30 #[.int .i64 0, .int .i64 0, .string ⟨#[]⟩, .slice none 0 0]
  have z2 : w.heap.size + 1 + 1 = ((w.alloc (.cells #[.int .i64 op, .int .i64 n, .string name, .slice A kids.length p] 30)).alloc (.cells #[.int .i64 0, .int .i64 0, .string ⟨#[]⟩, .slice none 0 0] 30)).heap.size := by simp
  go_enter Tryd.func57, Tryd.ntmps57
  go_wp2_with fail
  refine (impl_mapped 57 #[] id m d kids (.slice A kids.length p) _ lo B (Nat.le_trans hB hb2.size) (by omega) (h3.below hb2 hB) (fun args w => by kernel_rfl) (fun d' op' n' name' kids' v' w' hd hb' g0 g1 g2 g3 hmem => by simpa using ih d' op' n' name' kids' v' w' lo B (Nat.le_trans hB (hb2.trans (hb'.mono hb2.size)).size) g0 g1 g2 g3 (List.all_eq_true.1 hall.out _ hmem))).mono ?_
  rintro e w1 ⟨v', rfl, hx, b1⟩
  simp only [List.map_id] at hx
  obtain ⟨A', p', hf, _, _⟩ := (hx false).form
  subst hf
  have hb1 : Below w.heap.size w w1 := hb2.trans (b1.mono hb2.size)
  have R1 := R2.below b1 R2.lt
  have S1 := S2.below b1 S2.lt
  have z1 : w.heap.size + 1 + 1 ≤ w1.heap.size := z2 ▸ b1.size
  have hy : ∀ m', SlT m' (exT m' (m + 1)) w1 (w.heap.size + 1 + 1) w1.heap.size kids (.slice A' kids.length p') := fun m' => (hx m').more (Nat.le_of_eq z2) (Nat.le_refl _)
  clear z2
  have r0 : (w1).cell? ⟨w.heap.size, 0, none⟩ = some (.int .i64 op) := R1.cell 0
  have rf0 : (w1).frozen? ⟨w.heap.size, 0, none⟩ = false := R1.frozen 0
  have r1 : (w1).cell? ⟨w.heap.size, 1, none⟩ = some (.int .i64 n) := R1.cell 1
  have rf1 : (w1).frozen? ⟨w.heap.size, 1, none⟩ = false := R1.frozen 1
  have r2 : (w1).cell? ⟨w.heap.size, 2, none⟩ = some (.string name) := R1.cell 2
  have rf2 : (w1).frozen? ⟨w.heap.size, 2, none⟩ = false := R1.frozen 2
  have r3 : (w1).cell? ⟨w.heap.size, 3, none⟩ = some (.slice A kids.length p) := R1.cell 3
  have rf3 : (w1).frozen? ⟨w.heap.size, 3, none⟩ = false := R1.frozen 3
  have s0 : (w1).cell? ⟨w.heap.size + 1, 0, none⟩ = some (.int .i64 0) := S1.cell 0
  have sf0 : (w1).frozen? ⟨w.heap.size + 1, 0, none⟩ = false := S1.frozen 0
  have s1 : (w1).cell? ⟨w.heap.size + 1, 1, none⟩ = some (.int .i64 0) := S1.cell 1
  have sf1 : (w1).frozen? ⟨w.heap.size + 1, 1, none⟩ = false := S1.frozen 1
  have s2 : (w1).cell? ⟨w.heap.size + 1, 2, none⟩ = some (.string ⟨#[]⟩) := S1.cell 2
  have sf2 : (w1).frozen? ⟨w.heap.size + 1, 2, none⟩ = false := S1.frozen 2
  have s3 : (w1).cell? ⟨w.heap.size + 1, 3, none⟩ = some (.slice none 0 0) := S1.cell 3
  have sf3 : (w1).frozen? ⟨w.heap.size + 1, 3, none⟩ = false := S1.frozen 3
  go_wp2_with fail
  refine bodyPost_ret (v := .agg #[.int .i64 op, .int .i64 n, .string name, .slice A' kids.length p']) (by simp [results, Tryd.results57, go_sem, s0, s1, s2, s3]) rfl ⟨_, rfl, fun m' => ?_, ?_⟩
  · exact exT_mk m' (m + 1) op n name kids _ ho hn64 hnm ((hy m').keep (by omega) (by simp [World.setCell]) ((((((Same.refl _ _ _).setCell (p := ⟨w.heap.size, 3, none⟩) (.inl (by first | omega | (simp; omega) | simp)) (.slice A' kids.length p')).setCell (p := ⟨w.heap.size + 1, 0, none⟩) (.inl (by first | omega | (simp; omega) | simp)) (.int .i64 op)).setCell (p := ⟨w.heap.size + 1, 1, none⟩) (.inl (by first | omega | (simp; omega) | simp)) (.int .i64 n)).setCell (p := ⟨w.heap.size + 1, 2, none⟩) (.inl (by first | omega | (simp; omega) | simp)) (.string name)).setCell (p := ⟨w.heap.size + 1, 3, none⟩) (.inl (by first | omega | (simp; omega) | simp)) (.slice A' kids.length p')))
  · exact (((((hb1.setCell (p := ⟨w.heap.size, 3, none⟩) (by first | omega | (simp; omega) | simp) (.slice A' kids.length p')).setCell (p := ⟨w.heap.size + 1, 0, none⟩) (by first | omega | (simp; omega) | simp) (.int .i64 op)).setCell (p := ⟨w.heap.size + 1, 1, none⟩) (by first | omega | (simp; omega) | simp) (.int .i64 n)).setCell (p := ⟨w.heap.size + 1, 2, none⟩) (by first | omega | (simp; omega) | simp) (.string name)).setCell (p := ⟨w.heap.size + 1, 3, none⟩) (by first | omega | (simp; omega) | simp) (.slice A' kids.length p'))
theorem impl_cloneExpr : ∀ m : Nat, CloneAt 57 m
  | 0 => fun d op n name kids v3 w lo B _ _ _ _ _ h => by simp [formB] at h
  | m + 1 => clone_step m (impl_cloneExpr m)
end Go.Proofs.YtnamciblapddbaaDoor

