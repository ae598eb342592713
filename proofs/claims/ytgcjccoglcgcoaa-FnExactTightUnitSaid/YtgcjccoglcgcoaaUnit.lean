/-
  What a valid unit is, in plain terms: parts of the laws UnitValid and InsCount. No condition.
-/
import Derived.Test.YtgcjccoglcgcoaaPreds
namespace Go.Proofs.Ytgcjccoglcgcoaa
open Go.RowKit Go.ChangeShapes Go.WideShapes Go.Deep
set_option linter.unusedVariables false
set_option linter.unusedSimpArgs false
def setsB (op : Int) : Bool := inB op 1 14 && (decide (op ≠ 12) && decide (op ≠ 13))
/-- Args of an instruction that is no call -/
def argsN (op : Int) : Int := if op = 1 then 0 else if op = 2 ∨ op = 10 ∨ op = 11 ∨ op = 13 then 1 else 2
def regB (regs r : Int) : Bool := inB r 0 (regs - 1)
/-- the parameters of a code of a unit -/
def parOf (us : List CodeD) (n : Int) : Int := match us[n.toNat]? with
  | some c => c.params
  | none => 0
def insB (us : List CodeD) (regs : Int) (k : Nat) (x : InsD) : Bool :=
  inB x.op 1 14 && (x.args.all (regB regs) && ((if setsB x.op = true then regB regs x.to else decide (x.to = -1)) &&
  (if x.op = 1 then decide ((x.args.length : Int) = 0) && inB x.n 0 255 else if x.op = 14 then inB x.n 0 ((k : Int) - 1) && decide ((x.args.length : Int) = parOf us x.n) else decide (x.n = 0) && decide ((x.args.length : Int) = argsN x.op))))
def nextN (jump : Int) : Int := if jump = 1 then 1 else if jump = 2 then 2 else if jump = 3 then 0 else -1
def usesOnB (jump : Int) : Bool := decide (jump = 2) || decide (jump = 3)
def onB (regs : Int) (x : BlkD) : Bool := if usesOnB x.jump = true then regB regs x.on else decide (x.on = 0)
def phiB (regs : Int) (preds b : Nat) (f : PhiD) : Bool := decide (b ≠ 0) && (regB regs f.to && (decide (f.args.length = preds) && f.args.all (regB regs)))
def blkB (us : List CodeD) (c : CodeD) (k b : Nat) (x : BlkD) : Bool :=
  decide ((x.next.length : Int) = nextN x.jump) && (onB c.regs x && (x.next.all (fun n => inB n 1 ((c.blocks.length : Int) - 1)) && (x.ins.all (insB us c.regs k) && x.phis.all (phiB c.regs (predsFrom (b : Int) 0 c.blocks).length b))))
/-- the blocks from the place b on -/
def blksB (us : List CodeD) (c : CodeD) (k : Nat) : Nat → List BlkD → Bool
  | _, [] => true
  | b, x :: r => blkB us c k b x && blksB us c k (b + 1) r
def headB (c : CodeD) : Bool := inB c.regs 0 300 && (inB c.params 0 (min 3 c.regs) && inB (c.blocks.length : Int) 1 160)
def codeB (us : List CodeD) (k : Nat) (c : CodeD) : Bool := headB c && blksB us c k 0 c.blocks
def blkC (x : BlkD) : Nat := x.phis.length + x.ins.length
def codeC (c : CodeD) : Nat := sumBy blkC c.blocks
/-- the codes from the place k on -/
def codesB (us : List CodeD) : Nat → List CodeD → Bool
  | _, [] => true
  | k, c :: r => codeB us k c && codesB us (k + 1) r
def unitC (us : List CodeD) : Nat := sumBy codeC us
def unitB (us : List CodeD) : Bool := inB (us.length : Int) 1 4 && (codesB us 0 us && decide (unitC us ≤ 800))
-- the model's order: the count is looked at block by block
def walkB (us : List CodeD) (c : CodeD) (k : Nat) : Nat → Nat → List BlkD → Option Nat
  | _, n, [] => some n
  | b, n, x :: r => if decide (n + blkC x ≤ 800) && blkB us c k b x then walkB us c k (b + 1) (n + blkC x) r else none
def walkU (us : List CodeD) : Nat → Nat → List CodeD → Bool
  | _, _, [] => true
  | k, n, c :: r => match (if headB c then walkB us c k 0 n c.blocks else none) with
    | some m => walkU us (k + 1) m r
    | none => false
theorem sumBy_cons {α : Type} (f : α → Nat) (a : α) (l : List α) : sumBy f (a :: l) = f a + sumBy f l := by simp [sumBy]
theorem walkB_eq (us : List CodeD) (c : CodeD) (k : Nat) : ∀ (l : List BlkD) (b n : Nat), n ≤ 800 → walkB us c k b n l = if blksB us c k b l && decide (n + sumBy blkC l ≤ 800) then some (n + sumBy blkC l) else none
  | [], b, n, hn => by simp [walkB, blksB, sumBy, hn]
  | x :: r, b, n, hn => by
    rw [walkB, blksB, sumBy_cons]
    by_cases h1 : n + blkC x ≤ 800
    · rw [decide_eq_true h1, Bool.true_and, walkB_eq us c k r (b + 1) _ h1, ← Nat.add_assoc]
      cases blkB us c k b x <;> simp
    · rw [decide_eq_false h1, Bool.false_and, decide_eq_false (show ¬ n + (blkC x + sumBy blkC r) ≤ 800 by omega), Bool.and_false]
      rfl
theorem walkU_eq (us : List CodeD) : ∀ (l : List CodeD) (k n : Nat), n ≤ 800 → walkU us k n l = (codesB us k l && decide (n + sumBy codeC l ≤ 800))
  | [], k, n, hn => by simp [walkU, codesB, sumBy, hn]
  | c :: r, k, n, hn => by
    rw [walkU, codesB, sumBy_cons, codeB]
    cases hh : headB c
    · simp
    · rw [if_pos rfl, walkB_eq us c k c.blocks 0 n hn]
      by_cases h1 : n + codeC c ≤ 800
      · cases hb : blksB us c k 0 c.blocks
        · simp
        · have e : decide (n + sumBy blkC c.blocks ≤ 800) = true := decide_eq_true h1
          rw [e, Bool.true_and, if_pos rfl]
          show walkU us (k + 1) (n + codeC c) r = _
          rw [walkU_eq us r (k + 1) _ h1, ← Nat.add_assoc]
          simp
      · have e : decide (n + sumBy blkC c.blocks ≤ 800) = false := decide_eq_false h1
        rw [e, Bool.and_false, decide_eq_false (show ¬ n + (codeC c + sumBy codeC r) ≤ 800 by omega), Bool.and_false]
        rfl
end Go.Proofs.Ytgcjccoglcgcoaa
