/-
  MadeBy, the program's and the reference's. No condition.
-/
import Derived.Test.YtafembiemaflfaaIn
import Derived.Deep.RegionHeld3
namespace Go.Proofs.Ytafembiemaflfaa
open Go.RowKit Go.ChangeShapes Go.WideShapes Go.Deep

/-- the register that an instruction sets, or -1 -/
def madeBy (op to : Int) : Int := if 1 ≤ op ∧ op ≤ 14 ∧ op ≠ 12 ∧ op ≠ 13 then to else -1

theorem ret_int {k : IntKind} {a b : Int} (h : a = b) : Ending.returned (.int k a) = .returned (.int k b) := by rw [h]

theorem implMadeBy_any (op to n : Int) (v : Value) (w : World) :
    Calls Try.prog 21 #[.agg #[.int .i64 op, .int .i64 to, v, .int .i64 n]] w fun e w' => e = .returned (.int .i64 (madeBy op to)) ∧ Below w.heap.size w w' := by
  by_cases h1 : 1 ≤ op
  · by_cases h2 : op ≤ 14
    · by_cases h3 : op = 12
      · subst h3
        go_enter Try.func21, Try.ntmps21
        go_wp2
        go_ret
        exact ⟨ret_int (by unfold madeBy; rw [if_neg (by omega)]), (Below.refl _ _).alloc (Nat.le_refl _) _⟩
      · by_cases h4 : op = 13
        · subst h4
          go_enter Try.func21, Try.ntmps21
          go_wp2
          go_ret
          exact ⟨ret_int (by unfold madeBy; rw [if_neg (by omega)]), (Below.refl _ _).alloc (Nat.le_refl _) _⟩
        · have e3 : (op != 12) = true := by simpa using h3
          have e4 : (op != 13) = true := by simpa using h4
          have E : Hid (madeBy op to = to) := by show _ = _; unfold madeBy; rw [if_pos ⟨h1, h2, h3, h4⟩]
          go_enter Try.func21, Try.ntmps21
          go_wp2
          go_ret
          exact ⟨ret_int E.out.symm, (Below.refl _ _).alloc (Nat.le_refl _) _⟩
    · go_enter Try.func21, Try.ntmps21
      go_wp2
      go_ret
      exact ⟨ret_int (by unfold madeBy; rw [if_neg (by omega)]), (Below.refl _ _).alloc (Nat.le_refl _) _⟩
  · go_enter Try.func21, Try.ntmps21
    go_wp2
    go_ret
    exact ⟨ret_int (by unfold madeBy; rw [if_neg (by omega)]), (Below.refl _ _).alloc (Nat.le_refl _) _⟩

theorem specMadeBy_any (op to n : Int) (v : Value) (w : World) :
    Calls Try.prog 23 #[.agg #[.int .i64 op, .int .i64 to, v, .int .i64 n]] w fun e w' => e = .returned (.int .i64 (madeBy op to)) ∧ Below w.heap.size w w' := by
  by_cases h1 : 1 ≤ op
  · by_cases h2 : op ≤ 14
    · by_cases h3 : op = 12
      · subst h3
        go_enter Try.func23, Try.ntmps23
        go_wp2
        go_ret
        exact ⟨ret_int (by unfold madeBy; rw [if_neg (by omega)]), (Below.refl _ _).alloc (Nat.le_refl _) _⟩
      · by_cases h4 : op = 13
        · subst h4
          go_enter Try.func23, Try.ntmps23
          go_wp2
          go_ret
          exact ⟨ret_int (by unfold madeBy; rw [if_neg (by omega)]), (Below.refl _ _).alloc (Nat.le_refl _) _⟩
        · have e3 : (op != 12) = true := by simpa using h3
          have e4 : (op != 13) = true := by simpa using h4
          have E : Hid (madeBy op to = to) := by show _ = _; unfold madeBy; rw [if_pos ⟨h1, h2, h3, h4⟩]
          go_enter Try.func23, Try.ntmps23
          go_wp2
          go_ret
          exact ⟨ret_int E.out.symm, (Below.refl _ _).alloc (Nat.le_refl _) _⟩
    · go_enter Try.func23, Try.ntmps23
      go_wp2
      go_ret
      exact ⟨ret_int (by unfold madeBy; rw [if_neg (by omega)]), (Below.refl _ _).alloc (Nat.le_refl _) _⟩
  · go_enter Try.func23, Try.ntmps23
    go_wp2
    go_ret
    exact ⟨ret_int (by unfold madeBy; rw [if_neg (by omega)]), (Below.refl _ _).alloc (Nat.le_refl _) _⟩

end Go.Proofs.Ytafembiemaflfaa
