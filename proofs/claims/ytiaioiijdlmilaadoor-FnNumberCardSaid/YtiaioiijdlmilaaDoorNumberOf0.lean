/-
  The number of a word, by the program and by the reference. Condition: the word reads as data.
-/
import Derived.Test.YtiaioiijdlmilaaDoorWord
import Derived.Deep.QuietTactic
namespace Go.Proofs.YtiaioiijdlmilaaDoor
open Go.RowKit Go.ChangeShapes Go.WideShapes Go.Deep
set_option linter.unusedSimpArgs false
set_option linter.unusedVariables false
/-- the number of a word, or -1 -/
def noW (kind : Int) (s : ByteArray) : Int := if kind = 2 then numW s else -1
set_option maxRecDepth 100000 in
set_option maxHeartbeats 4000000 in
theorem spec_NumberOf (kind : Int) (s : ByteArray) (w : World) (hs : s.size ≤ maxLen) : Calls Tryd.prog 27 #[.agg #[.int .i64 kind, .string s]] w (RetV (.int .i64 (noW kind s)) w) := by
  have hs' : s.size ≤ 9223372036854775807 := by unfold maxLen at hs; omega
  have hb0 : Below w.heap.size w (w.alloc (.cells #[.int .i64 kind, .string s] 29)) := (Below.refl _ _).alloc (Nat.le_refl _) _
  have R0 : Row (w.alloc (.cells #[.int .i64 kind, .string s] 29)) w.heap.size 29 #[.int .i64 kind, .string s] := Row.new w _ _
  by_cases k2 : kind = 2
  case neg =>
    have n2 : (kind == 2) = false := by simpa using k2
    have n3 : (kind != 2) = true := by simpa using k2
    have E : Hid (noW kind s = -1) := if_neg k2
    clear k2
    go_enter Tryd.func27, Tryd.ntmps27
    go_wp2_with fail
    go_ret
    exact RetV.mk (by rw [E.out] <;> rfl) rfl hb0
  subst k2
  have HW : Hid (wvB 2 s = numOk s) := rfl
  have E : Hid (noW 2 s = numW s) := rfl
  go_enter Tryd.func27, Tryd.ntmps27
  go_wp2_with fail
  refine (spec_WordValid 2 s _ hs).mono ?_
  rintro e w1 ⟨rfl, b1⟩
  rw [HW.out]
  have hb1 : Below w.heap.size w w1 := hb0.trans (b1.mono hb0.size)
  have R1 := R0.below b1 R0.lt
  have y1 : w1.cell? ⟨w.heap.size, 1, none⟩ = some (.string s) := R1.cell 1
  clear R0 R1
  cases hk : numOk s
  · have E2 : Hid (numW s = -1) := by
      rcases numW_cases s with h | ⟨n, _, _, h⟩
      · exact h
      · unfold numOk at hk
        rw [h] at hk
        simp at hk
    clear hk
    go_wp2_with fail
    go_ret
    exact RetV.mk (by rw [E.out, E2.out] <;> rfl) rfl hb1
  · have E2 : Hid ((l3 s).1 = numW s) := l3_val hk
    clear hk
    go_wp2_with fail
    refine (spec_l30Num s _ hs).mono ?_
    rintro e w' ⟨rfl, rfl⟩
    go_wp2_with fail
    go_ret
    exact RetV.mk (by rw [E.out, ← E2.out] <;> rfl) rfl hb1
set_option maxRecDepth 100000 in
set_option maxHeartbeats 4000000 in
theorem impl_NumberOf (kind : Int) (s : ByteArray) (w : World) (hs : s.size ≤ maxLen) : Calls Tryd.prog 26 #[.agg #[.int .i64 kind, .string s]] w (RetV (.int .i64 (noW kind s)) w) := by
  have hs' : s.size ≤ 9223372036854775807 := by unfold maxLen at hs; omega
  have hb0 : Below w.heap.size w (w.alloc (.cells #[.int .i64 kind, .string s] 29)) := (Below.refl _ _).alloc (Nat.le_refl _) _
  by_cases k2 : kind = 2
  case neg =>
    have n2 : (kind == 2) = false := by simpa using k2
    have E : Hid (noW kind s = -1) := if_neg k2
    clear k2
    go_enter Tryd.func26, Tryd.ntmps26
    go_wp2_with fail
    go_ret
    exact RetV.mk (by rw [E.out] <;> rfl) rfl hb0
  subst k2
  have E : Hid (noW 2 s = numW s) := rfl
  go_enter Tryd.func26, Tryd.ntmps26
  go_wp2_with fail
  refine (impl_decimal s _ hs).mono ?_
  rintro e w1 ⟨rfl, b1⟩
  go_wp2_with fail
  go_ret
  exact RetV.mk (by rw [E.out] <;> rfl) rfl (hb0.trans (b1.mono hb0.size))
end Go.Proofs.YtiaioiijdlmilaaDoor
