/-
  The text of a mark. Condition: the mark is no great number.
-/
import Derived.Test.YtpheoddpkmaidaaDoorName
import Derived.Laws.BytesArg
namespace Go.Proofs.YtpheoddpkmaidaaDoor
open Go.RowKit Go.ChangeShapes Go.WideShapes Go.Deep
set_option linter.unusedSimpArgs false
set_option linter.unusedVariables false
theorem ba_of {a b : ByteArray} (h : a.data.toList = b.data.toList) : a = b := by
  obtain ⟨x⟩ := a
  obtain ⟨y⟩ := b
  have : x = y := Array.ext' h
  rw [this]
/-- the digits of a number, none of 0 -/
def decs (k : Nat) : List UInt8 := if h : 0 < k then decs (k / 10) ++ [48 + UInt8.ofNat (k % 10)] else []
termination_by k
decreasing_by omega
theorem decs_step {k : Nat} (h : 0 < k) : decs k = decs (k / 10) ++ [48 + UInt8.ofNat (k % 10)] := by
  rw [decs, dif_pos h]
theorem decs_zero : decs 0 = [] := by
  rw [decs, dif_neg (by omega)]
/-- the text of mark k -/
def mtx (k : Nat) : ByteArray := if k = 0 then ⟨#[109, 48]⟩ else ⟨(109 :: decs k).toArray⟩
theorem u8_str (w : World) (D : Int) : (convert 22 9 (.slice (some ⟨w.heap.size, 0, none⟩) 1 1)).run Tryd.prog (w.alloc (.cells #[.int .u8 D] 5)) = .ok (.string ⟨#[UInt8.ofNat D.toNat]⟩) (w.alloc (.cells #[.int .u8 D] 5)) := by
  have h := run_convert_bytes_arg (P := Tryd.prog) (w.alloc (.cells #[.int .u8 D] 5)) 22 5 Tryd.underlying22 Tryd.underlying5 w.heap.size 0 1 1 [D] rfl (fun i hi => by
    obtain rfl : i = 0 := by omega
    exact (Row.new w 5 #[.int .u8 D]).cell 0) 9 Tryd.underlying9
  exact h
end Go.Proofs.YtpheoddpkmaidaaDoor

