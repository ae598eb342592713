/-
  The laws' own functions over words (szWord, toWord, eqWord and their lists) return what they should. Conditions: the arguments read as words; at most 1048576 are left.
-/
import Derived.Test.YtcmcpipcafjiaaaWordMem
namespace Go.Proofs.Ytcmcpipcafjiaaa
open Go.RowKit Go.ChangeShapes Go.WideShapes Go.Deep

/-- what is left of so many -/
def szR (left n : Int) : Int := if left < n then -1 else left - n
theorem szR_le {left n : Int} (h0 : 0 ≤ left) (hn : 0 ≤ n) : szR left n ≤ left ∧ -1 ≤ szR left n := by unfold szR; split <;> omega
theorem szR_pos {left n : Int} (h : 0 ≤ szR left n) : n ≤ left ∧ szR left n = left - n := by
  unfold szR at *; split at h <;> first | omega | (rename_i h1; rw [if_neg h1]; omega)

theorem szWord_any (k : Int) (s : ByteArray) (left : Int) (hl : left ≤ 1048576) (h0 : 0 ≤ left) (hs : s.size ≤ maxLen) (w : World) :
    Calls Try.prog 10 #[.agg #[.int .i64 k, .string s], .int .i64 left] w fun e w' =>
      e = .returned (.int .i64 (szR left s.size)) ∧ Below w.heap.size w w' := by
  unfold maxLen at hs
  by_cases hlt : left < s.size
  · have e1 : szR left s.size = -1 := by unfold szR; rw [if_pos hlt]
    rw [e1]
    go_enter Try.func10, Try.ntmps10
    go_wp2
    go_ret
    exact ⟨rfl, (Below.refl _ _).alloc (Nat.le_refl _) _⟩
  · have e1 : szR left s.size = left - s.size := by unfold szR; rw [if_neg hlt]
    rw [e1]
    clear e1
    go_enter Try.func10, Try.ntmps10
    go_wp2
    go_ret
    exact ⟨rfl, (Below.refl _ _).alloc (Nat.le_refl _) _⟩

theorem toWord_any (k : Int) (s : ByteArray) (w : World) :
    Calls Try.prog 11 #[.agg #[.int .i64 k, .string s]] w fun e w' =>
      e = .returned (.agg #[.int .i64 k, .string s]) ∧ Below w.heap.size w w' := by
  go_enter Try.func11, Try.ntmps11
  go_wp2
  refine bodyPost_ret (v := .agg #[.int .i64 k, .string s]) (by simp [results, Try.results11, go_sem]) rfl ⟨rfl, ?_⟩
  exact (((Below.refl _ _).alloc (Nat.le_refl _) _).alloc (by simp) _).alloc (by simp; omega) _

theorem eqWord_same (k : Int) (s : ByteArray) (w : World) :
    Calls Try.prog 12 #[.agg #[.int .i64 k, .string s], .agg #[.int .i64 k, .string s]] w fun e w' =>
      e = .returned (.bool true) ∧ Below w.heap.size w w' := by
  go_enter Try.func12, Try.ntmps12
  go_wp2
  go_ret
  exact ⟨rfl, ((Below.refl _ _).alloc (Nat.le_refl _) _).alloc (by simp) _⟩

end Go.Proofs.Ytcmcpipcafjiaaa
