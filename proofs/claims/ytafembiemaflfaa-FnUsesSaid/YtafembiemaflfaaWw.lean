/-
  The laws' own functions on lists of numbers: wwInts of a list and itself, wwHas. Condition: the arguments read as data.
-/
import Derived.Test.YtafembiemaflfaaPreds
import Derived.Test.YtafembiemaflfaaUnit7
import Derived.IntWalk
import Derived.Deep.Cut
import Derived.Deep.QuietTactic
namespace Go.Proofs.Ytafembiemaflfaa
open Go.RowKit Go.ChangeShapes Go.WideShapes Go.Deep
set_option linter.unusedVariables false
set_option linter.unusedSimpArgs false
set_option maxRecDepth 100000 in
set_option maxHeartbeats 4000000 in
theorem wwInts_same (l : List Int) (v1 v2 : Value) (w : World) (lo B : Nat) (hB : B ≤ w.heap.size) (h1 : Sl false (intS false) w lo B l v1) (h2 : Sl false (intS false) w lo B l v2) (hl : l.length ≤ 1048576) :
    Calls Try.prog 9 #[v1, v2] w (fun e w' => e = .returned (.bool true) ∧ Below w.heap.size w w') := by
  obtain ⟨A1, c1, rfl, hc1, hm1⟩ := h1.form
  obtain ⟨A2, c2, rfl, hc2, hm2⟩ := h2.form
  have hmn : ∀ w1 : World, (Builtin.min_ #[3, 3] 3 #[.int .i64 (l.length : Int), .int .i64 (l.length : Int)]).run Try.prog w1 = .ok (.int .i64 (l.length : Int)) w1 := fun w1 => by rw [run_min_int2, ite_self]
  go_enter Try.func9, Try.ntmps9
  go_wp2_with fail
  clear hmn
  go_loopw [11] (fun i wr => ∃ k : Nat, k ≤ l.length ∧ i = .int .i64 (k : Int) ∧ Below w.heap.size w wr) (fun i _ => l.length - (intOf i).toNat)
  case atStart => exact ⟨0, by omega, rfl, Below.refl _ _⟩
  case round =>
    obtain ⟨k, hk, rfl, hb⟩ := hrel
    by_cases hkl : k < l.length
    case neg =>
      have hk1 : ¬ (k : Int) < (l.length : Int) := by omega
      have he : ((l.length : Int) == (l.length : Int)) = true := by simp
      go_wp2_with fail
      go_ret
      exact ⟨rfl, hb⟩
    have hk1 : (k : Int) < (l.length : Int) := by omega
    obtain ⟨x1, o1, a, rfl, _, _, HL1, _, d1⟩ := int_get (h1.below hb hB) hkl
    obtain ⟨x2, o2, a2, rfl, _, _, HL2, _, d2⟩ := int_get (h2.below hb hB) hkl
    have ha : a2 = a := HL2.out.symm.trans HL1.out
    subst ha
    have haa : (a2 != a2) = false := by simp
    go_upto_region 4 with fail
    go_quiet (fail)
    go_wp2_with fail
    go_roundw
    case rel => exact ⟨k + 1, by omega, by go_num, ⟨hb.os, hb.tape, hb.output, hb.size, hb.block⟩⟩
    case measure => simp [intOf]; omega
/-- a number is in a list -/
theorem any_drop {l : List Int} {k : Nat} {a n : Int} (h : k < l.length) (ha : l[k] = a) : (l.drop k).any (fun x => x == n) = (a == n || (l.drop (k + 1)).any (fun x => x == n)) := by
  rw [drop_cons h ha]
  rfl
set_option maxRecDepth 100000 in
set_option maxHeartbeats 4000000 in
theorem wwHas_ok (l : List Int) (n : Int) (v : Value) (w : World) (lo B : Nat) (hB : B ≤ w.heap.size) (h1 : Sl false (intS false) w lo B l v) (hl : l.length ≤ 1048576) :
    Calls Try.prog 11 #[v, .int .i64 n] w (fun e w' => e = .returned (.bool (l.any (fun x => x == n))) ∧ Below w.heap.size w w') := by
  obtain ⟨A1, c1, rfl, hc1, hm1⟩ := h1.form
  go_enter Try.func11, Try.ntmps11
  go_wp2_with fail
  go_loopw [9] (fun i wr => ∃ k : Nat, k ≤ l.length ∧ i = .int .i64 (k : Int) ∧ Hid (l.any (fun x => x == n) = (l.drop k).any (fun x => x == n)) ∧ Below w.heap.size w wr) (fun i _ => l.length - (intOf i).toNat)
  case atStart => exact ⟨0, by omega, rfl, (show _ = _ from rfl), Below.refl _ _⟩
  case round =>
    obtain ⟨k, hk, rfl, HT, hb⟩ := hrel
    by_cases hkl : k < l.length
    case neg =>
      have hk1 : ¬ (k : Int) < (l.length : Int) := by omega
      have E : Hid (l.any (fun x => x == n) = false) := by
        have h1 := HT.out
        rw [List.drop_eq_nil_of_le (by omega)] at h1
        exact h1
      clear HT
      go_wp2_with fail
      go_ret
      exact ⟨by rw [E.out] <;> rfl, hb⟩
    have hk1 : (k : Int) < (l.length : Int) := by omega
    obtain ⟨x1, o1, a, rfl, _, _, HL1, _, d1⟩ := int_get (h1.below hb hB) hkl
    cases he : (a == n) with
    | true =>
      have E : Hid (l.any (fun x => x == n) = true) := by
        have h1 := HT.out
        rw [any_drop hkl HL1.out, he] at h1
        exact h1
      clear HT
      go_wp2_with fail
      go_ret
      exact ⟨by rw [E.out] <;> rfl, hb⟩
    | false =>
      have E : Hid (l.any (fun x => x == n) = (l.drop (k + 1)).any (fun x => x == n)) := by
        have h1 := HT.out
        rw [any_drop hkl HL1.out, he] at h1
        exact h1
      clear HT
      go_wp2_with fail
      go_roundw
      case rel => exact ⟨k + 1, by omega, by go_num, E, hb⟩
      case measure => simp [intOf]; omega
end Go.Proofs.Ytafembiemaflfaa
