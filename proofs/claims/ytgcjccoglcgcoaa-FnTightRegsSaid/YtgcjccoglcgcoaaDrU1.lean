/-
  The draws of units: l7To. Condition: few numbers have been picked.
-/
import Derived.Test.YtgcjccoglcgcoaaRdD
import Derived.Test.YtgcjccoglcgcoaaTyA
import Derived.Test.YtgcjccoglcgcoaaUnitB
import Derived.IntWalk
namespace Go.Proofs.Ytgcjccoglcgcoaa
open Go.RowKit Go.ChangeShapes Go.WideShapes Go.Deep
variable {D : Nat}
set_option linter.unusedVariables false
set_option linter.unusedSimpArgs false
theorem ButR.chg {g lo : Nat} {w w' : World} (h : ButR g w w') (hg : g < lo) : Chg D lo w w' := Chg.same fun b hb hs => h.2 b (by omega) hs
theorem ButR.size {g : Nat} {w w' : World} (h : ButR g w w') : w.heap.size ≤ w'.heap.size := h.1.size
theorem to_ok (b n : Nat) (hb : b < n) (hn2 : 2 ≤ n) (hn : n ≤ 1000) (l : List UInt8) (g p : Nat) (w : World) (h : RdAt w g l p) (hp : p ≤ 900000) :
    Calls Try.prog 106 #[.pointer (some ⟨g, 0, none⟩), .int .i64 (b : Int), .int .i64 (n : Int)] w (DrP g l p 2 (fun v _ => ∃ k : Nat, k < n ∧ v = .int .i64 (k : Int)) w) := by
  have w1 : IntKind.i64.wrap ((n : Int) - 1) = (n : Int) - 1 := IntWalk.i64_in _ (by omega)
  by_cases hbn : b + 1 < n
  · have q1 : decide ((b : Int) < (n : Int) - 1) = true := by simp; omega
    have q2 : (b : Int) < (n : Int) - 1 := by omega
    go_enter Try.func106, Try.ntmps106
    go_wp2_with fail
    refine (pick_ok 4 (by omega) (by omega) l g p _ h (by omega)).mono ?_
    rintro e v1 ⟨v, p1, rfl, h1, hp1, hb1, k, hk, rfl⟩
    by_cases hk0 : k = 0
    · subst hk0
      go_wp2_with fail
      have e1 : ((n : Int) - 1) = ((n - 1 : Nat) : Int) := by omega
      rw [e1]
      refine (pick_ok (n - 1) (by omega) (by omega) l g p1 _ h1 (by omega)).mono ?_
      rintro e v2 ⟨v, p2, rfl, h2, hp2, hb2, k2, hk2, rfl⟩
      go_wp2_with fail
      go_ret
      exact ⟨_, p2, rfl, h2, by omega, hb1.trans hb2, k2 + 1, by omega, by go_num⟩
    · have k1 : decide (0 < (k : Int)) = true := by simp; omega
      have k2 : (0 : Int) < (k : Int) := by omega
      have k3 : 0 < k := by omega
      go_wp2_with fail
      have e1 : ((n : Int) - 1 - (b : Int)) = ((n - 1 - b : Nat) : Int) := by omega
      rw [e1]
      refine (pick_ok (n - 1 - b) (by omega) (by omega) l g p1 _ h1 (by omega)).mono ?_
      rintro e v2 ⟨v, p2, rfl, h2, hp2, hb2, k4, hk4, rfl⟩
      go_wp2_with fail
      go_ret
      exact ⟨_, p2, rfl, h2, by omega, hb1.trans hb2, b + 1 + k4, by omega, by go_num⟩
  · have q1 : decide ((b : Int) < (n : Int) - 1) = false := by simp; omega
    have q2 : ¬ (b : Int) < (n : Int) - 1 := by omega
    go_enter Try.func106, Try.ntmps106
    go_wp2_with fail
    have e1 : ((n : Int) - 1) = ((n - 1 : Nat) : Int) := by omega
    rw [e1]
    refine (pick_ok (n - 1) (by omega) (by omega) l g p _ h (by omega)).mono ?_
    rintro e v2 ⟨v, p2, rfl, h2, hp2, hb2, k2, hk2, rfl⟩
    go_wp2_with fail
    go_ret
    exact ⟨_, p2, rfl, h2, by omega, hb2, k2 + 1, by omega, by go_num⟩
end Go.Proofs.Ytgcjccoglcgcoaa
