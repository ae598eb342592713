/-
  Several texts in one: Unit2, Unit3.
-/
import Derived.Test.YtgcjccoglcgcoaaUnit1
import Derived.Deep.QuietTactic
import Derived.BigQuiet
namespace Go.Proofs.Ytgcjccoglcgcoaa
open Go.RowKit Go.ChangeShapes Go.WideShapes Go.Deep
set_option linter.unusedVariables false
set_option linter.unusedSimpArgs false
/-- the closure that asks whether a number is no block that one leads to -/
theorem nonext (n params regs : Int) (A : Option Addr) (len cap : Nat) (gc : Nat) (w : World) (hl : len ≤ 1048576) (hc : w.cell? ⟨gc, 2, none⟩ = some (.slice A len cap)) :
    Calls Try.prog 58 #[.int .i64 n, .pointer (some ⟨gc, 0, none⟩)] w (RetV (.bool (!inB n 1 ((len : Int) - 1))) w) := by
  go_enter Try.func58, Try.ntmps58
  go_wp2_with fail
  refine (impl_within n 1 _ _).mono ?_
  rintro e w1 ⟨rfl, rfl⟩
  go_wp2_with fail
  go_ret
  exact ⟨rfl, Below.refl _ _⟩
theorem spec_l7Args (op : Int) (h : inB op 1 14 = true) (h14 : op ≠ 14) (w : World) : Calls Try.prog 96 #[.int .i64 op] w (RetW (.int .i64 (argsN op)) w) := by
  have hr := inB_out h
  by_cases h1 : op = 1
  · subst h1
    go_enter Try.func96, Try.ntmps96
    go_wp2_with fail
    go_ret
    exact RetW.mk rfl rfl
  · have e1 : (op == 1) = false := by simpa using h1
    by_cases h2 : op = 2
    · subst h2
      go_enter Try.func96, Try.ntmps96
      go_wp2_with fail
      go_ret
      exact RetW.mk rfl rfl
    · have e2 : (op == 2) = false := by simpa using h2
      by_cases h10 : op = 10
      · subst h10
        go_enter Try.func96, Try.ntmps96
        go_wp2_with fail
        go_ret
        exact RetW.mk rfl rfl
      · have e10 : (op == 10) = false := by simpa using h10
        by_cases h11 : op = 11
        · subst h11
          go_enter Try.func96, Try.ntmps96
          go_wp2_with fail
          go_ret
          exact RetW.mk rfl rfl
        · have e11 : (op == 11) = false := by simpa using h11
          by_cases h13 : op = 13
          · subst h13
            go_enter Try.func96, Try.ntmps96
            go_wp2_with fail
            go_ret
            exact RetW.mk rfl rfl
          · have e13 : (op == 13) = false := by simpa using h13
            by_cases h12 : op = 12
            · subst h12
              go_enter Try.func96, Try.ntmps96
              go_wp2_with fail
              refine (spec_l1In 12 3 9 _).mono ?_
              rintro e w1 ⟨rfl, rfl⟩
              rw [show inB 12 3 9 = false by decide]
              go_wp2_with fail
              go_ret
              exact RetW.mk rfl rfl
            · have e12 : (op == 12) = false := by simpa using h12
              have hin := Lib.hid (inB_yes (show (3 : Int) ≤ op by omega) (show op ≤ 9 by omega))
              have E : Hid (argsN op = 2) := by show _ = _; unfold argsN; rw [if_neg h1, if_neg (by omega)]
              clear hr h h14 h1 h2 h10 h11 h13 h12
              go_enter Try.func96, Try.ntmps96
              go_wp2_with fail
              refine (spec_l1In op 3 9 _).mono ?_
              rintro e w1 ⟨rfl, rfl⟩
              rw [hin.out]
              go_wp2_with fail
              go_ret
              exact RetW.mk (by rw [E.out]; rfl) rfl
end Go.Proofs.Ytgcjccoglcgcoaa

namespace Go.Proofs.Ytgcjccoglcgcoaa
open Go.RowKit Go.ChangeShapes Go.WideShapes Go.Deep
set_option linter.unusedVariables false
set_option linter.unusedSimpArgs false
theorem sumBy_takeU {α : Type} {f : α → Nat} {l : List α} {k : Nat} {a : α} (h : k < l.length) (ha : l[k] = a) : sumBy f (l.take (k + 1)) = sumBy f (l.take k) + f a := by
  unfold sumBy
  rw [List.take_succ_eq_append_getElem h, List.map_append, List.sum_append, ha]
  simp
theorem sumBy_leU {α : Type} (f : α → Nat) (l : List α) (k : Nat) : sumBy f (l.take k) ≤ sumBy f l := by
  have h := congrArg List.sum (congrArg (List.map f) (List.take_append_drop k l))
  rw [List.map_append, List.sum_append] at h
  show (List.map f (l.take k)).sum ≤ (List.map f l).sum
  omega
set_option maxRecDepth 100000 in
theorem impl_codeCount (params regs : Int) (blocks : List BlkD) (v2 : Value) (w : World) (lo B : Nat) (hB : B ≤ w.heap.size) (hN : blocks.length ≤ 1048576) (hS : sumBy blkC blocks ≤ 1099511627776) (h2 : Sl false (blkS false) w lo B blocks v2) :
    Calls Try.prog 33 #[.agg #[.int .i64 params, .int .i64 regs, v2]] w (RetV (.int .i64 (sumBy blkC blocks : Nat)) w) := by
  obtain ⟨A, p, hf, hl1, hl2⟩ := h2.form
  subst hf
  have hb0 : Below w.heap.size w (w.alloc (.cells #[.int .i64 params, .int .i64 regs, .slice A blocks.length p] 39)) := (Below.refl _ _).alloc (Nat.le_refl _) _
  go_enter Try.func33, Try.ntmps33
  go_wp2_with fail
  go_loopw [3, 9] (fun n i wr => ∃ k : Nat, k ≤ blocks.length ∧ i = .int .i64 k ∧ n = .int .i64 (sumBy blkC (blocks.take k) : Nat) ∧ Below w.heap.size w wr) (fun _ i _ => blocks.length - (intOf i).toNat)
  case atStart => exact ⟨0, by omega, rfl, rfl, hb0⟩
  case round =>
    obtain ⟨k, hk, rfl, rfl, hb⟩ := hrel
    have hsz := hb.size
    by_cases hkl : k < blocks.length
    · obtain ⟨f, o, phis, u0, ins, u1, jump, on, next, u4, rfl, _, hbB, HL, g0, g1, g2, g3, g4, c0, c1, c2, c3, c4⟩ := blk_get (h2.below hb hB) hkl
      obtain ⟨A4, p4, hf, _, _⟩ := g4.form
      change _ = Value.slice A4 next.length p4 at hf
      subst hf
      have hkn : (k : Int) < (blocks.length : Int) := by omega
      have hki : (0 : Int) ≤ (k : Int) := by omega
      obtain ⟨A0, p0, hf, _, _⟩ := g0.form
      change _ = Value.slice A0 phis.length p0 at hf
      subst hf
      obtain ⟨A1, p1, hf, _, _⟩ := g1.form
      change _ = Value.slice A1 ins.length p1 at hf
      subst hf
      have hba : Below w.heap.size w (wr.alloc (.cells #[.slice A0 phis.length p0, .slice A1 ins.length p1, .int .i64 jump, .int .i64 on, .slice A4 next.length p4] 65)) := hb.alloc hsz _
      have hE := sumBy_takeU (f := blkC) hkl HL.out
      have hle := sumBy_leU blkC blocks (k + 1)
      have hbk : blkC ⟨phis, ins, jump, on, next⟩ = phis.length + ins.length := rfl
      rw [hbk] at hE
      obtain ⟨m, hm⟩ : ∃ m, sumBy blkC (blocks.take k) = m := ⟨_, rfl⟩
      rw [hm] at hE ⊢
      have q1 : phis.length + ins.length ≤ 1099511627776 := by omega
      have q2 : m + (phis.length + ins.length) ≤ 1099511627776 := by omega
      have HE := Lib.hid hE
      clear hE hle hbk hm hS
      go_wp2_with fail
      go_roundw
      case rel => exact ⟨k + 1, by omega, by go_num, by rw [HE.out]; go_num, hba⟩
      case measure => simp [intOf]; omega
    · have E : Hid (sumBy blkC (blocks.take k) = sumBy blkC blocks) := by show _ = _; rw [List.take_of_length_le (by omega)]
      go_wp2_with fail
      go_ret
      exact RetV.mk (by rw [E.out] <;> rfl) rfl hb
end Go.Proofs.Ytgcjccoglcgcoaa
