/-
  A list of numbers in memory of its own is marked, number by number, and asked for its marks. Conditions: it may be written.
-/
import Derived.Test.YtgcjccoglcgcoaaMark
import Derived.Test.YtgcjccoglcgcoaaEq
namespace Go.Proofs.Ytgcjccoglcgcoaa
open Go.RowKit Go.ChangeShapes Go.WideShapes Go.Deep

theorem Row.soft {w w' : World} {lo B g : Nat} {t : TypeId} {cs : Array Value} (h : Row w g t cs) (hs : Soft lo B w w') (hd : g < lo ∨ B ≤ g) : Row w' g t cs := (hs.out g hd).trans h
/-- it answers a value, and what was there is as it was -/
def RetV (v : Value) (w : World) (e : Ending) (w' : World) : Prop := e = .returned v ∧ Below w.heap.size w w'
theorem RetV.mk {v u : Value} {w : World} {e : Ending} {w' : World} (h : u = v) (he : e = .returned u) (hb : Below w.heap.size w w') : RetV v w e w' := ⟨by rw [← h]; exact he, hb⟩

/-- the marks from k on -/
def marksL (k : Int) (n : Nat) : List Int := (List.range n).map fun (i : Nat) => k + (i : Int)
theorem marksL_length (k : Int) (n : Nat) : (marksL k n).length = n := by simp [marksL]
theorem marksL_get {k : Int} {n i : Nat} (h : i < (marksL k n).length) : (marksL k n)[i] = k + i := by simp [marksL]

set_option maxRecDepth 100000 in
theorem held_IntS (k : Int) (n : Nat) (v : Value) (w : World) (lo B : Nat) (hB : B ≤ w.heap.size) (k0 : 0 ≤ k) (hk : k + (n : Int) ≤ 1073741824) (hv : Sl false (intS false) w lo B (marksL k n) v) :
    Calls Try.prog 79 #[v, .int .i64 k] w (RetV (.int .i64 (k + n)) w) := by
  obtain ⟨A, cap, hf, hlc, hcm⟩ := hv.form
  rw [marksL_length] at hf hlc
  subst hf
  go_enter Try.func79, Try.ntmps79
  go_wp2_with fail
  go_loopw [1, 5] (fun t i wr => ∃ j : Nat, j ≤ n ∧ i = .int .i64 j ∧ t = .int .i64 (k + j) ∧ Below w.heap.size w wr) (fun _ i _ => n - (intOf i).toNat)
  case atStart => exact ⟨0, by omega, rfl, by simp, Below.refl _ _⟩
  case round =>
    obtain ⟨j, hj, rfl, rfl, hb⟩ := hrel
    by_cases hjl : j < n
    · obtain ⟨b, o, a, rfl, _, _, HL, _, c0⟩ := int_get (hv.below hb hB) (show j < (marksL k n).length by rw [marksL_length]; exact hjl)
      obtain rfl : a = k + j := HL.out.symm.trans (marksL_get _)
      go_wp2_with fail
      go_roundw
      case rel => exact ⟨j + 1, by omega, by go_num, by go_num, hb⟩
      case measure => simp [intOf]; omega
    · obtain rfl : j = n := by omega
      go_wp2_with fail
      go_ret
      exact ⟨rfl, hb⟩
end Go.Proofs.Ytgcjccoglcgcoaa
