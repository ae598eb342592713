/-
  Closed facts of the program as a whole, each proved once; and how a row's closed facts are put together. No condition.
-/
import Derived.Test.YtbikgakoeheahaaGreatDoorBase
import Derived.JoinedOf
namespace Go.Proofs.YtbikgakoeheahaaGreatDoor
open Go
set_option maxRecDepth 100000
theorem mayEnter : Tryz.prog.mayEnter = true := by kernel_rfl
theorem liftsFinal : Tryz.prog.liftsFinal = false := by kernel_rfl
theorem makeCut : Tryz.prog.make = some .cut := by kernel_rfl
theorem mapsRowedO : mapsRowed Tryz.prog = true := by kernel_rfl
theorem plainKeysO : Tryz.prog.plainKeys = true := by kernel_rfl
theorem stopsHeardO : Tryz.prog.stopsHeard = true := by kernel_rfl
theorem and_mk {a b : Bool} (ha : a = true) (hb : b = true) : (a && b) = true := by rw [ha, hb]; rfl
end Go.Proofs.YtbikgakoeheahaaGreatDoor
