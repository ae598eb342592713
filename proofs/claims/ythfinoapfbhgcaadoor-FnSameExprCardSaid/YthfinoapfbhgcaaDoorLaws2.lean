/-
  The door's own world, for the laws that read numbers. No condition.
-/
import Derived.Test.YthfinoapfbhgcaaDoorLaws
import Derived.LaidSub
namespace Go.Proofs.YthfinoapfbhgcaaDoor
open Go.RowKit Go.ChangeShapes Go.WideShapes Go.Deep
set_option maxRecDepth 100000
/-- The door's own heap meets the condition of the rows on texts of expressions. -/
theorem door_metX (os : Os) (args : Array Value) : laidMetH Tryd.prog [("math/bits.deBruijn32tab", Rows.laid_math_bits_deBruijn32tab), ("math/bits.deBruijn64tab", Rows.laid_math_bits_deBruijn64tab), ("internal/strconv.uint64pow10", Rows.laid_internal_strconv_uint64pow10), ("strconv.ErrRange", Rows.laid_strconv_ErrRange), ("strconv.ErrSyntax", Rows.laid_strconv_ErrSyntax), ("loop.example/wholeway/impl.keys", Rows.laid_loop_example_wholeway_impl_keys), ("loop.example/wholeway/impl.opSign", Rows.laid_loop_example_wholeway_impl_opSign)] ((World.doorLaid Tryd.prog 400 os).forCall (fun _ _ => 0) ⟨#[], args, []⟩).memory :=
  laidMetH_of_parts3 (fuel := 8) (laidMet_of_run' 8 (by kernel_rfl) (by kernel_rfl)) (by kernel_rfl) (by kernel_rfl)
theorem tabs_ofX {W : World} (h : laidMetH Tryd.prog [("math/bits.deBruijn32tab", Rows.laid_math_bits_deBruijn32tab), ("math/bits.deBruijn64tab", Rows.laid_math_bits_deBruijn64tab), ("internal/strconv.uint64pow10", Rows.laid_internal_strconv_uint64pow10), ("strconv.ErrRange", Rows.laid_strconv_ErrRange), ("strconv.ErrSyntax", Rows.laid_strconv_ErrSyntax), ("loop.example/wholeway/impl.keys", Rows.laid_loop_example_wholeway_impl_keys), ("loop.example/wholeway/impl.opSign", Rows.laid_loop_example_wholeway_impl_opSign)] W) : Tabs W := by
  have h2 := h.filter (fun x => x.1 == "loop.example/wholeway/impl.keys" || x.1 == "loop.example/wholeway/impl.opSign")
  exact tabs_of (show laidMetH Tryd.prog [("loop.example/wholeway/impl.keys", Rows.laid_loop_example_wholeway_impl_keys), ("loop.example/wholeway/impl.opSign", Rows.laid_loop_example_wholeway_impl_opSign)] W from h2)
end Go.Proofs.YthfinoapfbhgcaaDoor
