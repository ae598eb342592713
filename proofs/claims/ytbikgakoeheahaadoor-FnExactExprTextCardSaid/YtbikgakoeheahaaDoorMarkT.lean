/-
  The text of a mark. Condition: the mark is no great number.
-/
import Derived.Test.YtbikgakoeheahaaDoorName
import Derived.Laws.BytesArg
namespace Go.Proofs.YtbikgakoeheahaaDoor
open Go.RowKit Go.ChangeShapes Go.WideShapes Go.Deep
set_option linter.unusedSimpArgs false
set_option linter.unusedVariables false
theorem ba_of {a b : ByteArray} (h : a.data.toList = b.data.toList) : a = b := by
  obtain ⟨x⟩ := a
  obtain ⟨y⟩ := b
  have : x = y := Array.ext' h
  rw [this]
theorem u8_str (w : World) (D : Int) : (convert 112 9 (.slice (some ⟨w.heap.size, 0, none⟩) 1 1)).run Tryd.prog (w.alloc (.cells #[.int .u8 D] 5)) = .ok (.string ⟨#[UInt8.ofNat D.toNat]⟩) (w.alloc (.cells #[.int .u8 D] 5)) := by
  have h := run_convert_bytes_arg (P := Tryd.prog) (w.alloc (.cells #[.int .u8 D] 5)) 112 5 Tryd.underlying112 Tryd.underlying5 w.heap.size 0 1 1 [D] rfl (fun i hi => by
    obtain rfl : i = 0 := by omega
    exact (Row.new w 5 #[.int .u8 D]).cell 0) 9 Tryd.underlying9
  exact h
end Go.Proofs.YtbikgakoeheahaaDoor
