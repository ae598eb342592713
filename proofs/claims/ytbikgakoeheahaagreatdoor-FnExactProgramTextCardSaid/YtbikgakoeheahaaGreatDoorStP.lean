/-
  Statements and programs: plain functions. No condition.
-/
import Derived.Test.YtbikgakoeheahaaGreatDoorParts
namespace Go.Proofs.YtbikgakoeheahaaGreatDoor
open Go.RowKit Go.ChangeShapes Go.WideShapes Go.Deep
set_option linter.unusedVariables false
set_option linter.unusedSimpArgs false
/-- how many Args an op has -/
def stK (op : Int) : Nat := if op = 4 then 2 else 1
def nmB (op : Int) (name : ByteArray) : Bool := if op = 1 ∨ op = 2 then isName name else name.toList.isEmpty
/-- the head of a statement -/
def hdB (op : Int) (name : ByteArray) (args : List Ex) (nb ne : Nat) : Bool :=
  decide (1 ≤ op ∧ op ≤ 8) && (decide (args.length = stK op) && (nmB op name && (args.all valE && (args.all (fun e => decide (op = 8 → e.op = 13)) && (decide (ne = 0 ∨ op = 5) && decide (nb = 0 ∨ op = 5 ∨ op = 6))))))
/-- a statement is one, nested at most so deep -/
def stB : Nat → St → Bool
  | 0, _ => false
  | m + 1, .mk op name args body els => hdB op name args body.length els.length && (body.all (stB m) && els.all (stB m))
def fnB (f : FnD) : Bool := f.params.all isName && (isName f.name && (decide (f.params.length ≤ 3) && f.body.all (stB 4)))
mutual
/-- how many statements there are -/
def cnS : St → Nat
  | .mk _ _ _ body els => 1 + cnL body + cnL els
def cnL : List St → Nat
  | [] => 0
  | s :: r => cnS s + cnL r
end
mutual
/-- how deep statements lie -/
def nsS : St → Nat
  | .mk _ _ _ body els => 1 + max (nsL body) (nsL els)
def nsL : List St → Nat
  | [] => 0
  | s :: r => max (nsS s) (nsL r)
end
theorem cnL_le : ∀ l : List St, cnL l = l.length + (l.map fun s => cnS s - 1).sum
  | [] => rfl
  | .mk op name args body els :: r => by
    have := cnL_le r
    rw [cnL, cnS, List.length_cons, List.map_cons, List.sum_cons, cnS]
    omega
mutual
theorem cnS_size : ∀ s : St, cnS s ≤ 1 + stN s
  | .mk op name args body els => by
    have h1 := cnL_size body
    have h2 := cnL_size els
    rw [cnS, stN]
    omega
theorem cnL_size : ∀ l : List St, cnL l ≤ l.length + stNs l
  | [] => by rw [cnL]; omega
  | s :: r => by
    have h1 := cnS_size s
    have h2 := cnL_size r
    rw [cnL, stNs, List.length_cons]
    omega
end
mutual
theorem nsS_cn : ∀ s : St, nsS s ≤ cnS s
  | .mk op name args body els => by
    have h1 := nsL_cn body
    have h2 := nsL_cn els
    rw [cnS, nsS]
    omega
theorem nsL_cn : ∀ l : List St, nsL l ≤ cnL l
  | [] => by rw [nsL]; omega
  | s :: r => by
    have h1 := nsS_cn s
    have h2 := nsL_cn r
    rw [cnL, nsL]
    omega
end
def cnP (l : List FnD) : Nat := (l.map fun f => cnL f.body).sum
def nsP (l : List FnD) : Nat := l.foldl (fun n f => max n (nsL f.body)) 0
def prB (p : ProgD) : Bool := decide (1 ≤ p.fns.length ∧ p.fns.length ≤ 4) && (p.fns.all fnB && decide (cnP p.fns ≤ 40))
theorem hd_out {op : Int} {name : ByteArray} {args : List Ex} {nb ne : Nat} (h : op < 1 ∨ 8 < op) : hdB op name args nb ne = false := by
  unfold hdB; rw [decide_eq_false (by omega)]; rfl
theorem hd_len {op : Int} {name : ByteArray} {args : List Ex} {nb ne : Nat} (h : args.length ≠ stK op) : hdB op name args nb ne = false := by
  unfold hdB; rw [decide_eq_false h]; simp
theorem hd_name {op : Int} {name : ByteArray} {args : List Ex} {nb ne : Nat} (h : nmB op name = false) : hdB op name args nb ne = false := by
  unfold hdB; rw [h]; simp
theorem hd_args {op : Int} {name : ByteArray} {args : List Ex} {nb ne : Nat} (h : args.all valE = false) : hdB op name args nb ne = false := by
  unfold hdB; rw [h]; simp
theorem hd_do {op : Int} {name : ByteArray} {args : List Ex} {nb ne : Nat} (h : args.all (fun e => decide (op = 8 → e.op = 13)) = false) : hdB op name args nb ne = false := by
  unfold hdB; rw [h]; simp
theorem hd_els {op : Int} {name : ByteArray} {args : List Ex} {nb ne : Nat} (h : 0 < ne) (h5 : op ≠ 5) : hdB op name args nb ne = false := by
  unfold hdB; rw [decide_eq_false (show ¬ (ne = 0 ∨ op = 5) by omega)]; simp
theorem hd_body {op : Int} {name : ByteArray} {args : List Ex} {nb ne : Nat} (h : 0 < nb) (h5 : op ≠ 5) (h6 : op ≠ 6) : hdB op name args nb ne = false := by
  unfold hdB; rw [decide_eq_false (show ¬ (nb = 0 ∨ op = 5 ∨ op = 6) by omega)]; simp
theorem hd_yes {op : Int} {name : ByteArray} {args : List Ex} {nb ne : Nat} (h1 : 1 ≤ op ∧ op ≤ 8) (h2 : args.length = stK op) (h3 : nmB op name = true) (h4 : args.all valE = true) (h5 : args.all (fun e => decide (op = 8 → e.op = 13)) = true) (h6 : ne = 0 ∨ op = 5) (h7 : nb = 0 ∨ op = 5 ∨ op = 6) : hdB op name args nb ne = true := by
  unfold hdB; rw [decide_eq_true h1, decide_eq_true h2, h3, h4, h5, decide_eq_true h6, decide_eq_true h7]; rfl
theorem st_no {op : Int} {name : ByteArray} {args : List Ex} {body els : List St} (h : hdB op name args body.length els.length = false) : ∀ m, stB m (.mk op name args body els) = false
  | 0 => rfl
  | m + 1 => by rw [stB, h]; rfl
end Go.Proofs.YtbikgakoeheahaaGreatDoor
