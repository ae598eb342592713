/-
  What an argument reads as: the shapes of the laws' own types. No condition.
-/
import Derived.Test.YtaokcnjjlbdnoaaTypes
namespace Go.Proofs.Ytaokcnjjlbdnoaa
open Go.RowKit Go.ChangeShapes Go.WideShapes Go.Deep

theorem dec_Phi {w : World} : Dec Try.prog w 215 (phiS false) := by
  intro H enc base spare held fuel cs x h
  obtain ⟨hl, n, hn, hf⟩ := trod_fields Try.underlying215 (by kernel_rfl) (by kernel_rfl) h
  match cs, hl with
  | [c0, c1], _ =>
    obtain ⟨y0, z0⟩ := hf 0 _ c0 rfl rfl
    obtain ⟨a0, r0⟩ := dec_int (w := w) Try.underlying3 z0
    obtain ⟨y1, z1⟩ := hf 1 _ c1 rfl rfl
    obtain ⟨a1, r1⟩ := dec_slice (w := w) Try.underlying22 (by kernel_rfl) (by decide) (dec_int Try.underlying3) z1
    exact ⟨⟨a0, a1⟩, c0, c1, rfl, r0, r1⟩

theorem dec_Ins {w : World} : Dec Try.prog w 24 (insS false) := by
  intro H enc base spare held fuel cs x h
  obtain ⟨hl, n, hn, hf⟩ := trod_fields Try.underlying24 (by kernel_rfl) (by kernel_rfl) h
  match cs, hl with
  | [c0, c1, c2, c3], _ =>
    obtain ⟨y0, z0⟩ := hf 0 _ c0 rfl rfl
    obtain ⟨a0, r0⟩ := dec_int (w := w) Try.underlying3 z0
    obtain ⟨y1, z1⟩ := hf 1 _ c1 rfl rfl
    obtain ⟨a1, r1⟩ := dec_int (w := w) Try.underlying3 z1
    obtain ⟨y2, z2⟩ := hf 2 _ c2 rfl rfl
    obtain ⟨a2, r2⟩ := dec_slice (w := w) Try.underlying22 (by kernel_rfl) (by decide) (dec_int Try.underlying3) z2
    obtain ⟨y3, z3⟩ := hf 3 _ c3 rfl rfl
    obtain ⟨a3, r3⟩ := dec_int (w := w) Try.underlying3 z3
    exact ⟨⟨a0, a1, a2, a3⟩, c0, c1, c2, c3, rfl, r0, r1, r2, r3⟩

theorem dec_Block {w : World} : Dec Try.prog w 170 (blkS false) := by
  intro H enc base spare held fuel cs x h
  obtain ⟨hl, n, hn, hf⟩ := trod_fields Try.underlying170 (by kernel_rfl) (by kernel_rfl) h
  match cs, hl with
  | [c0, c1, c2, c3, c4], _ =>
    obtain ⟨y0, z0⟩ := hf 0 _ c0 rfl rfl
    obtain ⟨a0, r0⟩ := dec_slice (w := w) Try.underlying167 (by kernel_rfl) (by decide) dec_Phi z0
    obtain ⟨y1, z1⟩ := hf 1 _ c1 rfl rfl
    obtain ⟨a1, r1⟩ := dec_slice (w := w) Try.underlying168 (by kernel_rfl) (by decide) dec_Ins z1
    obtain ⟨y2, z2⟩ := hf 2 _ c2 rfl rfl
    obtain ⟨a2, r2⟩ := dec_int (w := w) Try.underlying3 z2
    obtain ⟨y3, z3⟩ := hf 3 _ c3 rfl rfl
    obtain ⟨a3, r3⟩ := dec_int (w := w) Try.underlying3 z3
    obtain ⟨y4, z4⟩ := hf 4 _ c4 rfl rfl
    obtain ⟨a4, r4⟩ := dec_slice (w := w) Try.underlying22 (by kernel_rfl) (by decide) (dec_int Try.underlying3) z4
    exact ⟨⟨a0, a1, a2, a3, a4⟩, c0, c1, c2, c3, c4, rfl, r0, r1, r2, r3, r4⟩

theorem dec_Code {w : World} : Dec Try.prog w 78 (codeS false) := by
  intro H enc base spare held fuel cs x h
  obtain ⟨hl, n, hn, hf⟩ := trod_fields Try.underlying78 (by kernel_rfl) (by kernel_rfl) h
  match cs, hl with
  | [c0, c1, c2], _ =>
    obtain ⟨y0, z0⟩ := hf 0 _ c0 rfl rfl
    obtain ⟨a0, r0⟩ := dec_int (w := w) Try.underlying3 z0
    obtain ⟨y1, z1⟩ := hf 1 _ c1 rfl rfl
    obtain ⟨a1, r1⟩ := dec_int (w := w) Try.underlying3 z1
    obtain ⟨y2, z2⟩ := hf 2 _ c2 rfl rfl
    obtain ⟨a2, r2⟩ := dec_slice (w := w) Try.underlying76 (by kernel_rfl) (by decide) dec_Block z2
    exact ⟨⟨a0, a1, a2⟩, c0, c1, c2, rfl, r0, r1, r2⟩

theorem dec_Unit {w : World} : Dec Try.prog w 88 (unitS false) := by
  intro H enc base spare held fuel cs x h
  obtain ⟨hl, n, hn, hf⟩ := trod_fields Try.underlying88 (by kernel_rfl) (by kernel_rfl) h
  match cs, hl with
  | [c0], _ =>
    obtain ⟨y0, z0⟩ := hf 0 _ c0 rfl rfl
    obtain ⟨a0, r0⟩ := dec_slice (w := w) Try.underlying86 (by kernel_rfl) (by decide) dec_Code z0
    exact ⟨⟨a0⟩, c0, rfl, r0⟩

theorem dec_Outcome {w : World} : Dec Try.prog w 32 (outS false) := by
  intro H enc base spare held fuel cs x h
  obtain ⟨hl, n, hn, hf⟩ := trod_fields Try.underlying32 (by kernel_rfl) (by kernel_rfl) h
  match cs, hl with
  | [c0, c1, c2, c3], _ =>
    obtain ⟨y0, z0⟩ := hf 0 _ c0 rfl rfl
    obtain ⟨a0, r0⟩ := dec_slice (w := w) Try.underlying22 (by kernel_rfl) (by decide) (dec_int Try.underlying3) z0
    obtain ⟨y1, z1⟩ := hf 1 _ c1 rfl rfl
    obtain ⟨a1, r1⟩ := dec_int (w := w) Try.underlying3 z1
    obtain ⟨y2, z2⟩ := hf 2 _ c2 rfl rfl
    obtain ⟨a2, r2⟩ := dec_int (w := w) Try.underlying3 z2
    obtain ⟨y3, z3⟩ := hf 3 _ c3 rfl rfl
    obtain ⟨a3, r3⟩ := dec_slice (w := w) Try.underlying22 (by kernel_rfl) (by decide) (dec_int Try.underlying3) z3
    exact ⟨⟨a0, a1, a2, a3⟩, c0, c1, c2, c3, rfl, r0, r1, r2, r3⟩

theorem dec_Expr_at {w : World} : ∀ (D : Nat) {H : Type} {enc : TypeId × Value → H} {base : Nat} {spare : Nat → Bool} {held : Bool} {fuel : Nat} {cs : List Value} {x : DataW H × List MemPlace}, fuel ≤ D → DataW.trod enc Try.prog w base spare held fuel 40 cs = some x → ∃ a, (exS false D).rep w 0 w.heap.size a cs := by
  intro D
  induction D with
  | zero =>
    intro H enc base spare held fuel cs x hf h
    obtain rfl : fuel = 0 := by omega
    simp [DataW.trod] at h
  | succ D ih =>
    intro H enc base spare held fuel cs x hfu h
    obtain ⟨hl, n, hn, hf⟩ := trod_fields Try.underlying40 (by kernel_rfl) (by kernel_rfl) h
    match cs, hl with
    | [c0, c1, c2, c3], _ =>
      obtain ⟨y0, z0⟩ := hf 0 _ c0 rfl rfl
      obtain ⟨a0, r0⟩ := dec_int (w := w) Try.underlying3 z0
      obtain ⟨y1, z1⟩ := hf 1 _ c1 rfl rfl
      obtain ⟨a1, r1⟩ := dec_int (w := w) Try.underlying3 z1
      obtain ⟨y2, z2⟩ := hf 2 _ c2 rfl rfl
      obtain ⟨a2, r2⟩ := dec_str (w := w) Try.underlying9 z2
      obtain ⟨y3, z3⟩ := hf 3 _ c3 rfl rfl
      obtain ⟨a3, v3, e3, q3⟩ := dec_slice_at (w := w) (S := exS false D) Try.underlying38 (by rw [exS_size]; kernel_rfl) (by rw [exS_size]; omega) (fun m cs' y hm hy => ih (by omega) hy) z3
      have r3 : (slS false (exS false D)).rep w 0 w.heap.size a3 [c3] := ⟨v3, e3, q3⟩
      exact ⟨.mk a0 a1 a2 a3, c0, c1, c2, c3, rfl, r0, r1, r2, r3⟩

theorem dec_Stmt_at {w : World} : ∀ (D : Nat) {H : Type} {enc : TypeId × Value → H} {base : Nat} {spare : Nat → Bool} {held : Bool} {fuel : Nat} {cs : List Value} {x : DataW H × List MemPlace}, fuel ≤ D → DataW.trod enc Try.prog w base spare held fuel 212 cs = some x → ∃ a, (stS false D).rep w 0 w.heap.size a cs := by
  intro D
  induction D with
  | zero =>
    intro H enc base spare held fuel cs x hf h
    obtain rfl : fuel = 0 := by omega
    simp [DataW.trod] at h
  | succ D ih =>
    intro H enc base spare held fuel cs x hfu h
    obtain ⟨hl, n, hn, hf⟩ := trod_fields Try.underlying212 (by kernel_rfl) (by kernel_rfl) h
    match cs, hl with
    | [c0, c1, c2, c3, c4], _ =>
      obtain ⟨y0, z0⟩ := hf 0 _ c0 rfl rfl
      obtain ⟨a0, r0⟩ := dec_int (w := w) Try.underlying3 z0
      obtain ⟨y1, z1⟩ := hf 1 _ c1 rfl rfl
      obtain ⟨a1, r1⟩ := dec_str (w := w) Try.underlying9 z1
      obtain ⟨y2, z2⟩ := hf 2 _ c2 rfl rfl
      obtain ⟨a2, v2, e2, q2⟩ := dec_slice_at (w := w) (S := exS false D) Try.underlying38 (by rw [exS_size]; kernel_rfl) (by rw [exS_size]; omega) (fun m cs' y hm hy => dec_Expr_at D (by omega) hy) z2
      have r2 : (slS false (exS false D)).rep w 0 w.heap.size a2 [c2] := ⟨v2, e2, q2⟩
      obtain ⟨y3, z3⟩ := hf 3 _ c3 rfl rfl
      obtain ⟨a3, v3, e3, q3⟩ := dec_slice_at (w := w) (S := stS false D) Try.underlying162 (by rw [stS_size]; kernel_rfl) (by rw [stS_size]; omega) (fun m cs' y hm hy => ih (by omega) hy) z3
      have r3 : (slS false (stS false D)).rep w 0 w.heap.size a3 [c3] := ⟨v3, e3, q3⟩
      obtain ⟨y4, z4⟩ := hf 4 _ c4 rfl rfl
      obtain ⟨a4, v4, e4, q4⟩ := dec_slice_at (w := w) (S := stS false D) Try.underlying162 (by rw [stS_size]; kernel_rfl) (by rw [stS_size]; omega) (fun m cs' y hm hy => ih (by omega) hy) z4
      have r4 : (slS false (stS false D)).rep w 0 w.heap.size a4 [c4] := ⟨v4, e4, q4⟩
      exact ⟨.mk a0 a1 a2 a3 a4, c0, c1, c2, c3, c4, rfl, r0, r1, r2, r3, r4⟩

theorem dec_Fn_at {w : World} (D : Nat) {H : Type} {enc : TypeId × Value → H} {base : Nat} {spare : Nat → Bool} {held : Bool} {fuel : Nat} {cs : List Value} {x : DataW H × List MemPlace} (hfu : fuel ≤ D) (h : DataW.trod enc Try.prog w base spare held fuel 164 cs = some x) : ∃ a, (fnS false D).rep w 0 w.heap.size a cs := by
  obtain ⟨hl, n, hn, hf⟩ := trod_fields Try.underlying164 (by kernel_rfl) (by kernel_rfl) h
  match cs, hl with
  | [c0, c1, c2], _ =>
    obtain ⟨y0, z0⟩ := hf 0 _ c0 rfl rfl
    obtain ⟨a0, r0⟩ := dec_str (w := w) Try.underlying9 z0
    obtain ⟨y1, z1⟩ := hf 1 _ c1 rfl rfl
    obtain ⟨a1, r1⟩ := dec_slice (w := w) Try.underlying120 (by kernel_rfl) (by decide) (dec_str Try.underlying9) z1
    obtain ⟨y2, z2⟩ := hf 2 _ c2 rfl rfl
    obtain ⟨a2, v2, e2, q2⟩ := dec_slice_at (w := w) (S := stS false D) Try.underlying162 (by rw [stS_size]; kernel_rfl) (by rw [stS_size]; omega) (fun m cs' y hm hy => dec_Stmt_at D (by omega) hy) z2
    have r2 : (slS false (stS false D)).rep w 0 w.heap.size a2 [c2] := ⟨v2, e2, q2⟩
    exact ⟨⟨a0, a1, a2⟩, c0, c1, c2, rfl, r0, r1, r2⟩

theorem dec_Program_at {w : World} (D : Nat) {H : Type} {enc : TypeId × Value → H} {base : Nat} {spare : Nat → Bool} {held : Bool} {fuel : Nat} {cs : List Value} {x : DataW H × List MemPlace} (hfu : fuel ≤ D) (h : DataW.trod enc Try.prog w base spare held fuel 67 cs = some x) : ∃ a, (progS false D).rep w 0 w.heap.size a cs := by
  obtain ⟨hl, n, hn, hf⟩ := trod_fields Try.underlying67 (by kernel_rfl) (by kernel_rfl) h
  match cs, hl with
  | [c0], _ =>
    obtain ⟨y0, z0⟩ := hf 0 _ c0 rfl rfl
    obtain ⟨a0, v0, e0, q0⟩ := dec_slice_at (w := w) (S := fnS false D) Try.underlying65 (by rw [fnS_size]; kernel_rfl) (by rw [fnS_size]; omega) (fun m cs' y hm hy => dec_Fn_at D (by omega) hy) z0
    have r0 : (slS false (fnS false D)).rep w 0 w.heap.size a0 [c0] := ⟨v0, e0, q0⟩
    exact ⟨⟨a0⟩, c0, rfl, r0⟩

end Go.Proofs.Ytaokcnjjlbdnoaa

