/-
  Closed facts of the program as a whole, each proved once; and how a row's closed facts are put together. No condition.
-/
import Derived.Test.YtlhnojpkomcpmaaDoorBase
import Derived.Test.YtlhnojpkomcpmaaDoorBaseL
import Derived.JoinedOf
namespace Go.Proofs.YtlhnojpkomcpmaaDoor
open Go
set_option maxRecDepth 100000
theorem noLater : Tryd.prog.laysLater = false := by kernel_rfl
theorem noReflect : Tryd.prog.bearsReflect = false := by kernel_rfl
theorem mayEnter : Tryd.prog.mayEnter = true := by kernel_rfl
theorem liftsFinal : Tryd.prog.liftsFinal = false := by kernel_rfl
theorem makeCut : Tryd.prog.make = some .cut := by kernel_rfl
theorem mapsRowedO : mapsRowed Tryd.prog = true := by kernel_rfl
theorem plainKeysO : Tryd.prog.plainKeys = true := by kernel_rfl
theorem stopsHeardO : Tryd.prog.stopsHeard = true := by kernel_rfl
theorem and_mk {a b : Bool} (ha : a = true) (hb : b = true) : (a && b) = true := by rw [ha, hb]; rfl
end Go.Proofs.YtlhnojpkomcpmaaDoor
