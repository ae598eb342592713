/-
  A number between two others, by the program and by the reference. No condition.
-/
import Derived.Test.YtgcjccoglcgcoaaOwn
namespace Go.Proofs.Ytgcjccoglcgcoaa
open Go.RowKit Go.ChangeShapes Go.WideShapes Go.Deep
set_option linter.unusedSimpArgs false
set_option linter.unusedVariables false
/-- it answers a value and leaves the world -/
def RetW (v : Value) (w : World) (e : Ending) (w' : World) : Prop := e = .returned v ∧ w = w'
theorem RetW.mk {v u : Value} {w : World} {e : Ending} (h : u = v) (he : e = .returned u) : RetW v w e w := ⟨by rw [← h]; exact he, rfl⟩
/-- lo ≤ n ≤ hi -/
def inB (n lo hi : Int) : Bool := decide (lo ≤ n ∧ n ≤ hi)
theorem inB_yes {n lo hi : Int} (h0 : lo ≤ n) (h1 : n ≤ hi) : inB n lo hi = true := by simp [inB, h0, h1]
theorem inB_no {n lo hi : Int} (h : n < lo ∨ hi < n) : inB n lo hi = false := by simp [inB]; omega
theorem inB_out {n lo hi : Int} (h : inB n lo hi = true) : lo ≤ n ∧ n ≤ hi := by simpa [inB] using h
theorem impl_within (n lo hi : Int) (w : World) : Calls Try.prog 31 #[.int .i64 n, .int .i64 lo, .int .i64 hi] w (RetW (.bool (inB n lo hi)) w) := by
  by_cases h0 : lo ≤ n
  · by_cases h1 : n ≤ hi
    · have E : Hid (inB n lo hi = true) := inB_yes h0 h1
      go_enter Try.func31, Try.ntmps31
      go_wp2_with fail
      go_ret
      exact RetW.mk (by rw [E.out] <;> rfl) rfl
    · have E : Hid (inB n lo hi = false) := inB_no (Or.inr (by omega))
      go_enter Try.func31, Try.ntmps31
      go_wp2_with fail
      go_ret
      exact RetW.mk (by rw [E.out] <;> rfl) rfl
  · have E : Hid (inB n lo hi = false) := inB_no (Or.inl (by omega))
    go_enter Try.func31, Try.ntmps31
    go_wp2_with fail
    go_ret
    exact RetW.mk (by rw [E.out] <;> rfl) rfl
theorem spec_l1In (n lo hi : Int) (w : World) : Calls Try.prog 35 #[.int .i64 n, .int .i64 lo, .int .i64 hi] w (RetW (.bool (inB n lo hi)) w) := by
  by_cases h0 : lo ≤ n
  · by_cases h1 : n ≤ hi
    · have E : Hid (inB n lo hi = true) := inB_yes h0 h1
      go_enter Try.func35, Try.ntmps35
      go_wp2_with fail
      go_ret
      exact RetW.mk (by rw [E.out] <;> rfl) rfl
    · have E : Hid (inB n lo hi = false) := inB_no (Or.inr (by omega))
      go_enter Try.func35, Try.ntmps35
      go_wp2_with fail
      go_ret
      exact RetW.mk (by rw [E.out] <;> rfl) rfl
  · have E : Hid (inB n lo hi = false) := inB_no (Or.inl (by omega))
    go_enter Try.func35, Try.ntmps35
    go_wp2_with fail
    go_ret
    exact RetW.mk (by rw [E.out] <;> rfl) rfl
end Go.Proofs.Ytgcjccoglcgcoaa
