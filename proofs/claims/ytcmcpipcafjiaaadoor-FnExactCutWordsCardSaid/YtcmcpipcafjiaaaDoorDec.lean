/-
  What an argument reads as: the shapes of the laws' own types. No condition.
-/
import Derived.Test.YtcmcpipcafjiaaaDoorTypes
namespace Go.Proofs.YtcmcpipcafjiaaaDoor
open Go.RowKit Go.ChangeShapes Go.WideShapes Go.Deep
set_option linter.unusedVariables false

theorem dec_Word {w : World} : Dec Tryd.prog w 29 (wordS false) := by
  intro H enc base spare held fuel cs x h
  obtain ⟨hl, n, hn, hf⟩ := trod_fields Tryd.underlying29 (by kernel_rfl) (by kernel_rfl) h
  match cs, hl with
  | [c0, c1], _ =>
    obtain ⟨y0, z0⟩ := hf 0 _ c0 rfl rfl
    obtain ⟨a0, r0⟩ := dec_int (w := w) Tryd.underlying3 z0
    obtain ⟨y1, z1⟩ := hf 1 _ c1 rfl rfl
    obtain ⟨a1, r1⟩ := dec_str (w := w) Tryd.underlying9 z1
    exact ⟨⟨a0, a1⟩, c0, c1, rfl, r0, r1⟩

end Go.Proofs.YtcmcpipcafjiaaaDoor

