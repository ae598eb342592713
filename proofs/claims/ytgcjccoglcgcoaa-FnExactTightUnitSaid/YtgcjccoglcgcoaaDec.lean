/-
  What an argument reads as: the shapes of the laws' own types. No condition.
-/
import Derived.Test.YtgcjccoglcgcoaaTypes
namespace Go.Proofs.Ytgcjccoglcgcoaa
open Go.RowKit Go.ChangeShapes Go.WideShapes Go.Deep

theorem dec_Phi {w : World} : Dec Try.prog w 133 (phiS false) := by
  intro H enc base spare held fuel cs x h
  obtain ⟨hl, n, hn, hf⟩ := trod_fields Try.underlying133 (by kernel_rfl) (by kernel_rfl) h
  match cs, hl with
  | [c0, c1], _ =>
    obtain ⟨y0, z0⟩ := hf 0 _ c0 rfl rfl
    obtain ⟨a0, r0⟩ := dec_int (w := w) Try.underlying3 z0
    obtain ⟨y1, z1⟩ := hf 1 _ c1 rfl rfl
    obtain ⟨a1, r1⟩ := dec_slice (w := w) Try.underlying63 (by kernel_rfl) (by decide) (dec_int Try.underlying3) z1
    exact ⟨⟨a0, a1⟩, c0, c1, rfl, r0, r1⟩

theorem dec_Ins {w : World} : Dec Try.prog w 135 (insS false) := by
  intro H enc base spare held fuel cs x h
  obtain ⟨hl, n, hn, hf⟩ := trod_fields Try.underlying135 (by kernel_rfl) (by kernel_rfl) h
  match cs, hl with
  | [c0, c1, c2, c3], _ =>
    obtain ⟨y0, z0⟩ := hf 0 _ c0 rfl rfl
    obtain ⟨a0, r0⟩ := dec_int (w := w) Try.underlying3 z0
    obtain ⟨y1, z1⟩ := hf 1 _ c1 rfl rfl
    obtain ⟨a1, r1⟩ := dec_int (w := w) Try.underlying3 z1
    obtain ⟨y2, z2⟩ := hf 2 _ c2 rfl rfl
    obtain ⟨a2, r2⟩ := dec_slice (w := w) Try.underlying63 (by kernel_rfl) (by decide) (dec_int Try.underlying3) z2
    obtain ⟨y3, z3⟩ := hf 3 _ c3 rfl rfl
    obtain ⟨a3, r3⟩ := dec_int (w := w) Try.underlying3 z3
    exact ⟨⟨a0, a1, a2, a3⟩, c0, c1, c2, c3, rfl, r0, r1, r2, r3⟩

theorem dec_Block {w : World} : Dec Try.prog w 117 (blkS false) := by
  intro H enc base spare held fuel cs x h
  obtain ⟨hl, n, hn, hf⟩ := trod_fields Try.underlying117 (by kernel_rfl) (by kernel_rfl) h
  match cs, hl with
  | [c0, c1, c2, c3, c4], _ =>
    obtain ⟨y0, z0⟩ := hf 0 _ c0 rfl rfl
    obtain ⟨a0, r0⟩ := dec_slice (w := w) Try.underlying114 (by kernel_rfl) (by decide) dec_Phi z0
    obtain ⟨y1, z1⟩ := hf 1 _ c1 rfl rfl
    obtain ⟨a1, r1⟩ := dec_slice (w := w) Try.underlying115 (by kernel_rfl) (by decide) dec_Ins z1
    obtain ⟨y2, z2⟩ := hf 2 _ c2 rfl rfl
    obtain ⟨a2, r2⟩ := dec_int (w := w) Try.underlying3 z2
    obtain ⟨y3, z3⟩ := hf 3 _ c3 rfl rfl
    obtain ⟨a3, r3⟩ := dec_int (w := w) Try.underlying3 z3
    obtain ⟨y4, z4⟩ := hf 4 _ c4 rfl rfl
    obtain ⟨a4, r4⟩ := dec_slice (w := w) Try.underlying63 (by kernel_rfl) (by decide) (dec_int Try.underlying3) z4
    exact ⟨⟨a0, a1, a2, a3, a4⟩, c0, c1, c2, c3, c4, rfl, r0, r1, r2, r3, r4⟩

theorem dec_Code {w : World} : Dec Try.prog w 60 (codeS false) := by
  intro H enc base spare held fuel cs x h
  obtain ⟨hl, n, hn, hf⟩ := trod_fields Try.underlying60 (by kernel_rfl) (by kernel_rfl) h
  match cs, hl with
  | [c0, c1, c2], _ =>
    obtain ⟨y0, z0⟩ := hf 0 _ c0 rfl rfl
    obtain ⟨a0, r0⟩ := dec_int (w := w) Try.underlying3 z0
    obtain ⟨y1, z1⟩ := hf 1 _ c1 rfl rfl
    obtain ⟨a1, r1⟩ := dec_int (w := w) Try.underlying3 z1
    obtain ⟨y2, z2⟩ := hf 2 _ c2 rfl rfl
    obtain ⟨a2, r2⟩ := dec_slice (w := w) Try.underlying58 (by kernel_rfl) (by decide) dec_Block z2
    exact ⟨⟨a0, a1, a2⟩, c0, c1, c2, rfl, r0, r1, r2⟩

theorem dec_Unit {w : World} : Dec Try.prog w 24 (unitS false) := by
  intro H enc base spare held fuel cs x h
  obtain ⟨hl, n, hn, hf⟩ := trod_fields Try.underlying24 (by kernel_rfl) (by kernel_rfl) h
  match cs, hl with
  | [c0], _ =>
    obtain ⟨y0, z0⟩ := hf 0 _ c0 rfl rfl
    obtain ⟨a0, r0⟩ := dec_slice (w := w) Try.underlying22 (by kernel_rfl) (by decide) dec_Code z0
    exact ⟨⟨a0⟩, c0, rfl, r0⟩

end Go.Proofs.Ytgcjccoglcgcoaa

