/-
  impl.codeCount. Condition: the blocks read as data, and their parts are at most 2^40.
-/
import Derived.Test.YtgcjccoglcgcoaaUnit2
import Derived.Deep.QuietTactic
import Derived.BigQuiet
namespace Go.Proofs.Ytgcjccoglcgcoaa
open Go.RowKit Go.ChangeShapes Go.WideShapes Go.Deep
set_option linter.unusedVariables false
set_option linter.unusedSimpArgs false
theorem sumBy_takeU {α : Type} {f : α → Nat} {l : List α} {k : Nat} {a : α} (h : k < l.length) (ha : l[k] = a) : sumBy f (l.take (k + 1)) = sumBy f (l.take k) + f a := by
  unfold sumBy
  rw [List.take_succ_eq_append_getElem h, List.map_append, List.sum_append, ha]
  simp
theorem sumBy_leU {α : Type} (f : α → Nat) (l : List α) (k : Nat) : sumBy f (l.take k) ≤ sumBy f l := by
  have h := congrArg List.sum (congrArg (List.map f) (List.take_append_drop k l))
  rw [List.map_append, List.sum_append] at h
  show (List.map f (l.take k)).sum ≤ (List.map f l).sum
  omega
set_option maxRecDepth 100000 in
theorem impl_codeCount (params regs : Int) (blocks : List BlkD) (v2 : Value) (w : World) (lo B : Nat) (hB : B ≤ w.heap.size) (hN : blocks.length ≤ 1048576) (hS : sumBy blkC blocks ≤ 1099511627776) (h2 : Sl false (blkS false) w lo B blocks v2) :
    Calls Try.prog 33 #[.agg #[.int .i64 params, .int .i64 regs, v2]] w (RetV (.int .i64 (sumBy blkC blocks : Nat)) w) := by
  obtain ⟨A, p, hf, hl1, hl2⟩ := h2.form
  subst hf
  have hb0 : Below w.heap.size w (w.alloc (.cells #[.int .i64 params, .int .i64 regs, .slice A blocks.length p] 39)) := (Below.refl _ _).alloc (Nat.le_refl _) _
  go_enter Try.func33, Try.ntmps33
  go_wp2_with fail
  go_loopw [3, 9] (fun n i wr => ∃ k : Nat, k ≤ blocks.length ∧ i = .int .i64 k ∧ n = .int .i64 (sumBy blkC (blocks.take k) : Nat) ∧ Below w.heap.size w wr) (fun _ i _ => blocks.length - (intOf i).toNat)
  case atStart => exact ⟨0, by omega, rfl, rfl, hb0⟩
  case round =>
    obtain ⟨k, hk, rfl, rfl, hb⟩ := hrel
    have hsz := hb.size
    by_cases hkl : k < blocks.length
    · obtain ⟨f, o, phis, u0, ins, u1, jump, on, next, u4, rfl, _, hbB, HL, g0, g1, g2, g3, g4, c0, c1, c2, c3, c4⟩ := blk_get (h2.below hb hB) hkl
      obtain ⟨A4, p4, hf, _, _⟩ := g4.form
      change _ = Value.slice A4 next.length p4 at hf
      subst hf
      have hkn : (k : Int) < (blocks.length : Int) := by omega
      have hki : (0 : Int) ≤ (k : Int) := by omega
      obtain ⟨A0, p0, hf, _, _⟩ := g0.form
      change _ = Value.slice A0 phis.length p0 at hf
      subst hf
      obtain ⟨A1, p1, hf, _, _⟩ := g1.form
      change _ = Value.slice A1 ins.length p1 at hf
      subst hf
      have hba : Below w.heap.size w (wr.alloc (.cells #[.slice A0 phis.length p0, .slice A1 ins.length p1, .int .i64 jump, .int .i64 on, .slice A4 next.length p4] 65)) := hb.alloc hsz _
      have hE := sumBy_takeU (f := blkC) hkl HL.out
      have hle := sumBy_leU blkC blocks (k + 1)
      have hbk : blkC ⟨phis, ins, jump, on, next⟩ = phis.length + ins.length := rfl
      rw [hbk] at hE
      obtain ⟨m, hm⟩ : ∃ m, sumBy blkC (blocks.take k) = m := ⟨_, rfl⟩
      rw [hm] at hE ⊢
      have q1 : phis.length + ins.length ≤ 1099511627776 := by omega
      have q2 : m + (phis.length + ins.length) ≤ 1099511627776 := by omega
      have HE := Lib.hid hE
      clear hE hle hbk hm hS
      go_wp2_with fail
      go_roundw
      case rel => exact ⟨k + 1, by omega, by go_num, by rw [HE.out]; go_num, hba⟩
      case measure => simp [intOf]; omega
    · have E : Hid (sumBy blkC (blocks.take k) = sumBy blkC blocks) := by show _ = _; rw [List.take_of_length_le (by omega)]
      go_wp2_with fail
      go_ret
      exact RetV.mk (by rw [E.out] <;> rfl) rfl hb
end Go.Proofs.Ytgcjccoglcgcoaa
