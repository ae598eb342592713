/-
  More small functions behind UnitValid: l7Args, codeOk$2. Conditions stand at each.
-/
import Derived.Test.YtgcjccoglcgcoaaUnit1
namespace Go.Proofs.Ytgcjccoglcgcoaa
open Go.RowKit Go.ChangeShapes Go.WideShapes Go.Deep
set_option linter.unusedVariables false
set_option linter.unusedSimpArgs false
/-- the closure that asks whether a number is no block that one leads to -/
theorem nonext (n params regs : Int) (A : Option Addr) (len cap : Nat) (gc : Nat) (w : World) (hl : len ≤ 1048576) (hc : w.cell? ⟨gc, 2, none⟩ = some (.slice A len cap)) :
    Calls Try.prog 58 #[.int .i64 n, .pointer (some ⟨gc, 0, none⟩)] w (RetV (.bool (!inB n 1 ((len : Int) - 1))) w) := by
  go_enter Try.func58, Try.ntmps58
  go_wp2_with fail
  refine (impl_within n 1 _ _).mono ?_
  rintro e w1 ⟨rfl, rfl⟩
  go_wp2_with fail
  go_ret
  exact ⟨rfl, Below.refl _ _⟩
theorem spec_l7Args (op : Int) (h : inB op 1 14 = true) (h14 : op ≠ 14) (w : World) : Calls Try.prog 96 #[.int .i64 op] w (RetW (.int .i64 (argsN op)) w) := by
  have hr := inB_out h
  by_cases h1 : op = 1
  · subst h1
    go_enter Try.func96, Try.ntmps96
    go_wp2_with fail
    go_ret
    exact RetW.mk rfl rfl
  · have e1 : (op == 1) = false := by simpa using h1
    by_cases h2 : op = 2
    · subst h2
      go_enter Try.func96, Try.ntmps96
      go_wp2_with fail
      go_ret
      exact RetW.mk rfl rfl
    · have e2 : (op == 2) = false := by simpa using h2
      by_cases h10 : op = 10
      · subst h10
        go_enter Try.func96, Try.ntmps96
        go_wp2_with fail
        go_ret
        exact RetW.mk rfl rfl
      · have e10 : (op == 10) = false := by simpa using h10
        by_cases h11 : op = 11
        · subst h11
          go_enter Try.func96, Try.ntmps96
          go_wp2_with fail
          go_ret
          exact RetW.mk rfl rfl
        · have e11 : (op == 11) = false := by simpa using h11
          by_cases h13 : op = 13
          · subst h13
            go_enter Try.func96, Try.ntmps96
            go_wp2_with fail
            go_ret
            exact RetW.mk rfl rfl
          · have e13 : (op == 13) = false := by simpa using h13
            by_cases h12 : op = 12
            · subst h12
              go_enter Try.func96, Try.ntmps96
              go_wp2_with fail
              refine (spec_l1In 12 3 9 _).mono ?_
              rintro e w1 ⟨rfl, rfl⟩
              rw [show inB 12 3 9 = false by decide]
              go_wp2_with fail
              go_ret
              exact RetW.mk rfl rfl
            · have e12 : (op == 12) = false := by simpa using h12
              have hin := Lib.hid (inB_yes (show (3 : Int) ≤ op by omega) (show op ≤ 9 by omega))
              have E : Hid (argsN op = 2) := by show _ = _; unfold argsN; rw [if_neg h1, if_neg (by omega)]
              clear hr h h14 h1 h2 h10 h11 h13 h12
              go_enter Try.func96, Try.ntmps96
              go_wp2_with fail
              refine (spec_l1In op 3 9 _).mono ?_
              rintro e w1 ⟨rfl, rfl⟩
              rw [hin.out]
              go_wp2_with fail
              go_ret
              exact RetW.mk (by rw [E.out]; rfl) rfl
end Go.Proofs.Ytgcjccoglcgcoaa
