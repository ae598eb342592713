/-
  What every law of this seat needs: the listed variables, the door's own world. No condition.
-/
import Derived.Test.YtlhnojpkomcpmaaDoorLaid
import Derived.Test.YtlhnojpkomcpmaaDoorVars
import Derived.Test.YtlhnojpkomcpmaaDoorTie
import Derived.Test.YtlhnojpkomcpmaaDoorFacts
import Derived.Test.YtlhnojpkomcpmaaDoorEq
import Derived.Test.YtlhnojpkomcpmaaDoorDec
import Derived.Deep.RegionHeld3
import Derived.ProofKit
import Derived.Handed
import Derived.Stop.Joined
import Derived.SevenTiedAt
namespace Go.Proofs.YtlhnojpkomcpmaaDoor
open Go.RowKit Go.ChangeShapes Go.WideShapes Go.Deep
set_option maxRecDepth 100000
theorem vars_ok : ∀ n ∈ ["loop.example/wholeway/impl.tries"], ∀ g t, Tryd.prog.globalNamed n = some g → (Tryd.prog.globals[g]?).map (·.type) = some t → Tryd.prog.readableRec t = true ∧ t < Tryd.prog.types.size := by
  intro n hn g t hg ht
  simp only [List.mem_cons, List.not_mem_nil, or_false] at hn
  subst hn
  obtain rfl := Option.some.inj (gTries.symm.trans hg)
  obtain rfl := Option.some.inj (tTries.symm.trans ht)
  exact ⟨by kernel_rfl, of_decide_eq_true (by kernel_rfl)⟩
/-- The door's own heap meets the condition. -/
theorem door_met (os : Os) (args : Array Value) : laidMetH Tryd.prog [("loop.example/wholeway/impl.tries", Rows.laid_loop_example_wholeway_impl_tries)] ((World.doorLaid Tryd.prog 400 os).forCall (fun _ _ => 0) ⟨#[], args, []⟩).memory :=
  laidMetH_of_parts3 (fuel := 8) (laidMet_of_run' 8 (by kernel_rfl) (by kernel_rfl)) (by kernel_rfl) (by kernel_rfl)
end Go.Proofs.YtlhnojpkomcpmaaDoor
