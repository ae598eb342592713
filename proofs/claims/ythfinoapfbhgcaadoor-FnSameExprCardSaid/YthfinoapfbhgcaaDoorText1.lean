/-
  The text of an expression, by the reference: levels, signs, numbers. Conditions: a number is no great one.
-/
import Derived.Test.YthfinoapfbhgcaaDoorPreT
import Derived.Lib.ItoaNum
namespace Go.Proofs.YthfinoapfbhgcaaDoor
open Go.RowKit Go.ChangeShapes Go.WideShapes Go.Deep
set_option linter.unusedVariables false
set_option linter.unusedSimpArgs false
/-- the digits of a number -/
def decT (n : Nat) : ByteArray := ⟨(Lib.decDigits n).toArray⟩
theorem decT_one {n : Nat} (h : n < 10) : Lib.decDigits n = [UInt8.ofNat (48 + n)] := by rw [Lib.decDigits, dif_pos h]
theorem decT_more {n : Nat} (h : 9 < n) : Lib.decDigits n = Lib.decDigits (n / 10) ++ [UInt8.ofNat (48 + n % 10)] := by rw [Lib.decDigits, dif_neg (by omega)]
theorem of8 (x : Nat) : UInt8.ofNat (48 + x) = 48 + UInt8.ofNat x := by rw [UInt8.ofNat_add]; rfl
/-- the sign of an op -/
def sgS (op : Int) : ByteArray := if op = 11 then ⟨#[33]⟩ else if op = 12 then ⟨#[64]⟩ else sgn op
set_option maxRecDepth 100000 in
set_option maxHeartbeats 4000000 in
theorem spec_l2Level (op : Int) (w : World) (h1 : 1 ≤ op) (h2 : op ≤ 13) : Calls Tryd.prog 42 #[.int .i64 op] w (RetW (.int .i64 (levOf op)) w) := by
  have hc : op = 1 ∨ op = 2 ∨ op = 3 ∨ op = 4 ∨ op = 5 ∨ op = 6 ∨ op = 7 ∨ op = 8 ∨ op = 9 ∨ op = 10 ∨ op = 11 ∨ op = 12 ∨ op = 13 := by omega
  rcases hc with rfl | rfl | rfl | rfl | rfl | rfl | rfl | rfl | rfl | rfl | rfl | rfl | rfl
  all_goals
    go_enter Tryd.func42, Tryd.ntmps42
    go_wp2_with fail
    go_ret
    exact ⟨rfl, rfl⟩
set_option maxRecDepth 100000 in
set_option maxHeartbeats 4000000 in
theorem spec_l2Sign (op : Int) (w : World) (h1 : 3 ≤ op) (h2 : op ≤ 12) : Calls Tryd.prog 44 #[.int .i64 op] w (RetW (.string (sgS op)) w) := by
  have hc : op = 3 ∨ op = 4 ∨ op = 5 ∨ op = 6 ∨ op = 7 ∨ op = 8 ∨ op = 9 ∨ op = 10 ∨ op = 11 ∨ op = 12 := by omega
  rcases hc with rfl | rfl | rfl | rfl | rfl | rfl | rfl | rfl | rfl | rfl
  all_goals
    go_enter Tryd.func44, Tryd.ntmps44
    go_wp2_with fail
    refine (spec_l1In _ 3 12 _).mono ?_
    rintro e w' ⟨rfl, rfl⟩
    go_wp2_with fail
    go_ret
    exact ⟨rfl, rfl⟩
theorem spec_decT (n : Nat) (hn : n ≤ 1000) (w : World) : Calls Tryd.prog 43 #[.int .i64 (n : Int)] w (RetV (.string (decT n)) w) := by
  have q0 : decide ((n : Int) < -9223372036854775807) = false := decide_eq_false (by omega)
  have q1 : decide ((n : Int) < 0) = false := by simp
  go_enter Tryd.func43, Tryd.ntmps43
  go_wp2_with fail
  go_loopw [0, 3] (fun t v wr => ∃ (j : Nat) (s : ByteArray), t = .int .i64 (j : Int) ∧ v = .string s ∧ s.size + j ≤ n ∧ Hid (Lib.decDigits n = Lib.decDigits j ++ s.data.toList ∨ (j = n ∧ s = ⟨#[]⟩)) ∧ Below w.heap.size w wr) (fun t _ _ => (intOf t).toNat)
  case atStart => exact ⟨n, ⟨#[]⟩, rfl, rfl, (by show 0 + n ≤ n; omega), Or.inr ⟨rfl, rfl⟩, Below.refl _ _⟩
  case round =>
    obtain ⟨j, s, rfl, rfl, hs, HD, hb⟩ := hrel
    have hcv := u8_str wr
    have HE : Hid (Lib.decDigits n = Lib.decDigits j ++ s.data.toList) := by
      rcases HD.out with h | ⟨h1, h2⟩
      · exact h
      · subst h1 h2
        show _ = _
        simp
    clear HD
    by_cases hj : 9 < j
    · have hj0 : (9 : Int) < (j : Int) := by omega
      go_wp2_with fail
      go_roundw
      case rel =>
        refine ⟨j / 10, _, by go_num, rfl, by rw [ByteArray.size_append]; show 1 + s.size + j / 10 ≤ n; omega, Or.inl ?_, hb.alloc hb.size _⟩
        rw [HE.out, decT_more hj, of8]
        simp
      case measure => simp [intOf]; omega
    · have hj0 : decide ((9 : Int) < (j : Int)) = false := by simp; omega
      have E : Hid (decT n = ⟨#[48 + UInt8.ofNat j]⟩ ++ s) := by
        have h1 := HE.out
        rw [decT_one (show j < 10 by omega), of8] at h1
        show _ = _
        unfold decT
        rw [h1]
        exact ba_of (by simp)
      go_wp2_with fail
      go_ret
      exact RetV.mk (by rw [E.out] <;> rfl) rfl (hb.alloc hb.size _)
end Go.Proofs.YthfinoapfbhgcaaDoor
