/-
  What a valid unit is, in plain terms: parts of the laws UnitValid and InsCount. No condition.
-/
import Derived.Test.YtgcjccoglcgcoaaPreds
namespace Go.Proofs.Ytgcjccoglcgcoaa
open Go.RowKit Go.ChangeShapes Go.WideShapes Go.Deep
set_option linter.unusedVariables false
set_option linter.unusedSimpArgs false
def setsB (op : Int) : Bool := inB op 1 14 && (decide (op ≠ 12) && decide (op ≠ 13))
/-- Args of an instruction that is no call -/
def argsN (op : Int) : Int := if op = 1 then 0 else if op = 2 ∨ op = 10 ∨ op = 11 ∨ op = 13 then 1 else 2
def regB (regs r : Int) : Bool := inB r 0 (regs - 1)
/-- the parameters of a code of a unit -/
def parOf (us : List CodeD) (n : Int) : Int := match us[n.toNat]? with
  | some c => c.params
  | none => 0
def insB (us : List CodeD) (regs : Int) (k : Nat) (x : InsD) : Bool :=
  inB x.op 1 14 && (x.args.all (regB regs) && ((if setsB x.op = true then regB regs x.to else decide (x.to = -1)) &&
  (if x.op = 1 then decide ((x.args.length : Int) = 0) && inB x.n 0 255 else if x.op = 14 then inB x.n 0 ((k : Int) - 1) && decide ((x.args.length : Int) = parOf us x.n) else decide (x.n = 0) && decide ((x.args.length : Int) = argsN x.op))))
def nextN (jump : Int) : Int := if jump = 1 then 1 else if jump = 2 then 2 else if jump = 3 then 0 else -1
def usesOnB (jump : Int) : Bool := decide (jump = 2) || decide (jump = 3)
def onB (regs : Int) (x : BlkD) : Bool := if usesOnB x.jump = true then regB regs x.on else decide (x.on = 0)
def phiB (regs : Int) (preds b : Nat) (f : PhiD) : Bool := decide (b ≠ 0) && (regB regs f.to && (decide (f.args.length = preds) && f.args.all (regB regs)))
def blkB (us : List CodeD) (c : CodeD) (k b : Nat) (x : BlkD) : Bool :=
  decide ((x.next.length : Int) = nextN x.jump) && (onB c.regs x && (x.next.all (fun n => inB n 1 ((c.blocks.length : Int) - 1)) && (x.ins.all (insB us c.regs k) && x.phis.all (phiB c.regs (predsFrom (b : Int) 0 c.blocks).length b))))
/-- the blocks from the place b on -/
def blksB (us : List CodeD) (c : CodeD) (k : Nat) : Nat → List BlkD → Bool
  | _, [] => true
  | b, x :: r => blkB us c k b x && blksB us c k (b + 1) r
def headB (c : CodeD) : Bool := inB c.regs 0 300 && (inB c.params 0 (min 3 c.regs) && inB (c.blocks.length : Int) 1 160)
def codeB (us : List CodeD) (k : Nat) (c : CodeD) : Bool := headB c && blksB us c k 0 c.blocks
def blkC (x : BlkD) : Nat := x.phis.length + x.ins.length
def codeC (c : CodeD) : Nat := sumBy blkC c.blocks
/-- the codes from the place k on -/
def codesB (us : List CodeD) : Nat → List CodeD → Bool
  | _, [] => true
  | k, c :: r => codeB us k c && codesB us (k + 1) r
def unitC (us : List CodeD) : Nat := sumBy codeC us
def unitB (us : List CodeD) : Bool := inB (us.length : Int) 1 4 && (codesB us 0 us && decide (unitC us ≤ 800))
def cntU (us : List CodeD) : Int := if unitB us = true then (unitC us : Int) else -1
-- the model's order: the count is looked at block by block
def walkB (us : List CodeD) (c : CodeD) (k : Nat) : Nat → Nat → List BlkD → Option Nat
  | _, n, [] => some n
  | b, n, x :: r => if decide (n + blkC x ≤ 800) && blkB us c k b x then walkB us c k (b + 1) (n + blkC x) r else none
def walkU (us : List CodeD) : Nat → Nat → List CodeD → Bool
  | _, _, [] => true
  | k, n, c :: r => match (if headB c then walkB us c k 0 n c.blocks else none) with
    | some m => walkU us (k + 1) m r
    | none => false
theorem sumBy_cons {α : Type} (f : α → Nat) (a : α) (l : List α) : sumBy f (a :: l) = f a + sumBy f l := by simp [sumBy]
theorem walkB_eq (us : List CodeD) (c : CodeD) (k : Nat) : ∀ (l : List BlkD) (b n : Nat), n ≤ 800 → walkB us c k b n l = if blksB us c k b l && decide (n + sumBy blkC l ≤ 800) then some (n + sumBy blkC l) else none
  | [], b, n, hn => by simp [walkB, blksB, sumBy, hn]
  | x :: r, b, n, hn => by
    rw [walkB, blksB, sumBy_cons]
    by_cases h1 : n + blkC x ≤ 800
    · rw [decide_eq_true h1, Bool.true_and, walkB_eq us c k r (b + 1) _ h1, ← Nat.add_assoc]
      cases blkB us c k b x <;> simp
    · rw [decide_eq_false h1, Bool.false_and, decide_eq_false (show ¬ n + (blkC x + sumBy blkC r) ≤ 800 by omega), Bool.and_false]
      rfl
theorem walkU_eq (us : List CodeD) : ∀ (l : List CodeD) (k n : Nat), n ≤ 800 → walkU us k n l = (codesB us k l && decide (n + sumBy codeC l ≤ 800))
  | [], k, n, hn => by simp [walkU, codesB, sumBy, hn]
  | c :: r, k, n, hn => by
    rw [walkU, codesB, sumBy_cons, codeB]
    cases hh : headB c
    · simp
    · rw [if_pos rfl, walkB_eq us c k c.blocks 0 n hn]
      by_cases h1 : n + codeC c ≤ 800
      · cases hb : blksB us c k 0 c.blocks
        · simp
        · have e : decide (n + sumBy blkC c.blocks ≤ 800) = true := decide_eq_true h1
          rw [e, Bool.true_and, if_pos rfl]
          show walkU us (k + 1) (n + codeC c) r = _
          rw [walkU_eq us r (k + 1) _ h1, ← Nat.add_assoc]
          simp
      · have e : decide (n + sumBy blkC c.blocks ≤ 800) = false := decide_eq_false h1
        rw [e, Bool.and_false, decide_eq_false (show ¬ n + (codeC c + sumBy codeC r) ≤ 800 by omega), Bool.and_false]
        rfl
/-- a valid unit is valid without its last codes -/
theorem unitC_take (us : List CodeD) (m : Nat) : unitC (us.take m) ≤ unitC us := by
  have h := congrArg List.sum (congrArg (List.map codeC) (List.take_append_drop m us))
  rw [List.map_append, List.sum_append] at h
  show (List.map codeC (us.take m)).sum ≤ (List.map codeC us).sum
  omega
theorem parOf_take (us : List CodeD) {n : Int} {k m : Nat} (h0 : 0 ≤ n) (h1 : n ≤ (k : Int) - 1) (hm : k < m) : parOf (us.take m) n = parOf us n := by
  unfold parOf
  rw [List.getElem?_take_of_lt (by omega)]
theorem insB_take (us : List CodeD) (regs : Int) {k m : Nat} (hm : k < m) (x : InsD) : insB (us.take m) regs k x = insB us regs k x := by
  unfold insB
  by_cases h14 : x.op = 14
  · by_cases hr : inB x.n 0 ((k : Int) - 1) = true
    · have h2 : 0 ≤ x.n ∧ x.n ≤ (k : Int) - 1 := by simpa [inB] using hr
      rw [parOf_take us h2.1 h2.2 hm]
    · rw [Bool.not_eq_true] at hr
      simp only [hr, Bool.false_and]
  · simp only [if_neg h14]
theorem blkB_take (us : List CodeD) (c : CodeD) {k m : Nat} (hm : k < m) (b : Nat) (x : BlkD) : blkB (us.take m) c k b x = blkB us c k b x := by
  unfold blkB
  rw [show insB (us.take m) c.regs k = insB us c.regs k from funext fun y => insB_take us c.regs hm y]
theorem blksB_take (us : List CodeD) (c : CodeD) {k m : Nat} (hm : k < m) : ∀ (l : List BlkD) (b : Nat), blksB (us.take m) c k b l = blksB us c k b l
  | [], _ => rfl
  | x :: r, b => by rw [blksB, blksB, blkB_take us c hm, blksB_take us c hm r]
theorem codeB_take (us : List CodeD) {k m : Nat} (hm : k < m) (c : CodeD) : codeB (us.take m) k c = codeB us k c := by
  unfold codeB
  rw [blksB_take us c hm]
theorem codesB_take (us : List CodeD) (m : Nat) : ∀ (l : List CodeD) (k : Nat), k + l.length ≤ m → codesB (us.take m) k l = codesB us k l
  | [], _, _ => rfl
  | c :: r, k, h => by
    rw [List.length_cons] at h
    rw [codesB, codesB, codeB_take us (by omega), codesB_take us m r (k + 1) (by omega)]
theorem codesB_init (us : List CodeD) : ∀ (l : List CodeD) (k j : Nat), codesB us k l = true → codesB us k (l.take j) = true
  | [], _, _, h => by rw [List.take_nil]; exact h
  | c :: r, k, 0, _ => rfl
  | c :: r, k, j + 1, h => by
    rw [codesB, Bool.and_eq_true] at h
    rw [List.take_succ_cons, codesB, h.1, Bool.true_and]
    exact codesB_init us r (k + 1) j h.2
theorem unitB_take {us : List CodeD} {m : Nat} (h : unitB us = true) (h0 : 0 < m) (hm : m ≤ us.length) : unitB (us.take m) = true := by
  unfold unitB at h ⊢
  rw [Bool.and_eq_true, Bool.and_eq_true, decide_eq_true_eq] at h
  obtain ⟨h1, h2, h3⟩ := h
  have h4 : 1 ≤ (us.length : Int) ∧ (us.length : Int) ≤ 4 := by simpa [inB] using h1
  have hl : (us.take m).length = m := by rw [List.length_take]; omega
  rw [codesB_take us m (us.take m) 0 (by omega), codesB_init us us 0 m h2, hl, Bool.true_and, Bool.and_eq_true, decide_eq_true_eq]
  exact ⟨by simp only [inB, decide_eq_true_eq]; omega, Nat.le_trans (unitC_take us m) h3⟩
/-- none, and five -/
theorem unitB_none : unitB [] = false := by simp [unitB, inB]
theorem unitB_many {us : List CodeD} (h : 4 < us.length) : unitB us = false := by
  unfold unitB
  rw [show inB (us.length : Int) 1 4 = false by simp only [inB, decide_eq_false_iff_not]; omega]
  rfl
end Go.Proofs.Ytgcjccoglcgcoaa
