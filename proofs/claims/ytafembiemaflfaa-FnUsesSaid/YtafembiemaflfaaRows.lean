/-
  No cell of these rows narrows 'for every input' (looked for: loops, veiled, ifaces, maps, wideKeys, modest, calm, conditions, laid).
  DERIVED. THE GIVEN ROWS OF THIS SEAT. 4 by the template 'for every input the law returns true; each argument reads behind the call as it read before'; 0 by the template 'total and deterministic' (their statements: YtafembiemaflfaaTotals.lean).
  GIVEN WITH THE SEED: the statements are not yours to turn. If you find one false, say at which input.
  Laid BY PROGRAM, IN A SANDBOX (cutbox-rows.mjs): the forced cells as the released guide's own fill.sh prints them over the translation 633234edf31d83b8… (all of the seat's roots in one cut). By AI agents, Wed Nov 11 2026. No macro, syntax, notation, axiom, sorry.
-/
import Derived.Test.YtafembiemaflfaaChecked
import GoSem.Claim
import GoSem.ClaimJoined
import GoSem.ClaimMapViews
import Derived.JoinedTies
import Derived.KernelRfl
namespace Go.Proofs.Ytafembiemaflfaa
/- THE CELL 'sum', in the pinned program and in every row, IS THE sha256 OF THE DUMP (.gsa) THAT YtafembiemaflfaaProg.lean LOADS. Nothing in Lean hashes anything: it is a label: what it is worth is what the hold of that sum in a sandbox is worth. -/
noncomputable def Try.pinned : Pinned := { name := "ytafembiemaflfaa", sum := "633234edf31d83b8f483f2a54941fe7923748a3e5f7d17647a366d7e5d29d5db", checked := Try.checked }
namespace Rows
def none {H : Type} : Left H := { results := [], args := [] }

/-- 'laws.FnPreds': WHATEVER THE INPUT: true; the input reads as it did. -/
def fnPredsSpec : ChangeSpec := { name := "fnPreds", fn := fun _ => fun
  | [d] => { results := [.lit (.bool true)], args := [d] }
  | _ => none }
def fnPredsRow : OpenClaim := { program := "ytafembiemaflfaa", sum := "633234edf31d83b8f483f2a54941fe7923748a3e5f7d17647a366d7e5d29d5db", func := "loop.example/wholeway/laws.FnPreds", spec := "fnPreds", apart := false }
def FnPredsSaid : Prop := fnPredsRow.holds Try.pinned (OpenSpec.ofChange fnPredsSpec)

/-- ITS FALSE NEIGHBOUR: 'it returns false'. Refute it at one input. -/
def fnPredsWrong : ChangeSpec := { name := "fnPreds", fn := fun _ => fun
  | [d] => { results := [.lit (.bool false)], args := [d] }
  | _ => none }
def FnPredsWrongFalsely : Prop := fnPredsRow.holds Try.pinned (OpenSpec.ofChange fnPredsWrong)

/-- 'laws.FnInsCount': WHATEVER THE INPUT: true; the input reads as it did. -/
def fnInsCountSpec : ChangeSpec := { name := "fnInsCount", fn := fun _ => fun
  | [d] => { results := [.lit (.bool true)], args := [d] }
  | _ => none }
def fnInsCountRow : OpenClaim := { program := "ytafembiemaflfaa", sum := "633234edf31d83b8f483f2a54941fe7923748a3e5f7d17647a366d7e5d29d5db", func := "loop.example/wholeway/laws.FnInsCount", spec := "fnInsCount", unfollowed := true, recurses := true, apart := false }
def FnInsCountSaid : Prop := fnInsCountRow.holds Try.pinned (OpenSpec.ofChange fnInsCountSpec)

/-- ITS FALSE NEIGHBOUR: 'it returns false'. Refute it at one input. -/
def fnInsCountWrong : ChangeSpec := { name := "fnInsCount", fn := fun _ => fun
  | [d] => { results := [.lit (.bool false)], args := [d] }
  | _ => none }
def FnInsCountWrongFalsely : Prop := fnInsCountRow.holds Try.pinned (OpenSpec.ofChange fnInsCountWrong)

/-- 'laws.FnUnitForm': WHATEVER THE INPUT: true; the input reads as it did. -/
def fnUnitFormSpec : ChangeSpec := { name := "fnUnitForm", fn := fun _ => fun
  | [d] => { results := [.lit (.bool true)], args := [d] }
  | _ => none }
def fnUnitFormRow : OpenClaim := { program := "ytafembiemaflfaa", sum := "633234edf31d83b8f483f2a54941fe7923748a3e5f7d17647a366d7e5d29d5db", func := "loop.example/wholeway/laws.FnUnitForm", spec := "fnUnitForm", unfollowed := true, recurses := true, apart := false }
def FnUnitFormSaid : Prop := fnUnitFormRow.holds Try.pinned (OpenSpec.ofChange fnUnitFormSpec)

/-- ITS FALSE NEIGHBOUR: 'it returns false'. Refute it at one input. -/
def fnUnitFormWrong : ChangeSpec := { name := "fnUnitForm", fn := fun _ => fun
  | [d] => { results := [.lit (.bool false)], args := [d] }
  | _ => none }
def FnUnitFormWrongFalsely : Prop := fnUnitFormRow.holds Try.pinned (OpenSpec.ofChange fnUnitFormWrong)

/-- 'laws.FnUses': WHATEVER THE INPUT: true; the input reads as it did. -/
def fnUsesSpec : ChangeSpec := { name := "fnUses", fn := fun _ => fun
  | [d1, d2] => { results := [.lit (.bool true)], args := [d1, d2] }
  | _ => none }
def fnUsesRow : OpenClaim := { program := "ytafembiemaflfaa", sum := "633234edf31d83b8f483f2a54941fe7923748a3e5f7d17647a366d7e5d29d5db", func := "loop.example/wholeway/laws.FnUses", spec := "fnUses", recurses := true, apart := false }
def FnUsesSaid : Prop := fnUsesRow.holds Try.pinned (OpenSpec.ofChange fnUsesSpec)

/-- ITS FALSE NEIGHBOUR: 'it returns false'. Refute it at one input. -/
def fnUsesWrong : ChangeSpec := { name := "fnUses", fn := fun _ => fun
  | [d1, d2] => { results := [.lit (.bool false)], args := [d1, d2] }
  | _ => none }
def FnUsesWrongFalsely : Prop := fnUsesRow.holds Try.pinned (OpenSpec.ofChange fnUsesWrong)

/- THE SECOND FORM. 'bulk': how many values and letters a reading holds, each counted each time it is reached (what is shared counts as often as it is met; a slice's spare places count too). A statement '..UptoSaid' is the law's where the arguments, and the package variables that the reading takes, are together of bulk at most 1048576: NARROWER than '..Said'. Prove '..Said' where nothing that the law and all that it calls make is longer than what came in: it says more and counts as full. Else prove '..UptoSaid'. A law counts once. -/
mutual
def uptoBulk {H : Type} : DataW H → Nat
  | .lit (.string bytes) => bytes.length + 1
  | .lit _ => 1
  | .nil => 1
  | .ptr d => uptoBulk d + 1
  | .slice elems spare => uptoBulkAll elems + uptoBulkAll spare + 1
  | .agg parts => uptoBulkAll parts + 1
  | .iface _ d => uptoBulk d + 1
  | .map entries => uptoBulkEntries entries + 1
  | .held _ => 1
def uptoBulkAll {H : Type} : List (DataW H) → Nat
  | [] => 0
  | d :: r => uptoBulk d + uptoBulkAll r
def uptoBulkEntries {H : Type} : List (Lit × DataW H) → Nat
  | [] => 0
  | x :: r => uptoBulkEntry x + uptoBulkEntries r
def uptoBulkEntry {H : Type} : Lit × DataW H → Nat
  | (.string bytes, d) => bytes.length + uptoBulk d + 1
  | (_, d) => uptoBulk d + 1
 end
def uptoSmall : (H : Type) → List (DataW H) → Bool := fun _ ds => decide (uptoBulkAll ds ≤ 1048576)
def OpenSpec.upto (s : _root_.Go.ChangeSpec) : _root_.Go.OpenSpec := { _root_.Go.OpenSpec.ofChange s with cond := some uptoSmall }

/-- 'laws.FnPreds', WHERE WHAT IT READS IS OF BULK AT MOST 1048576: true; the input reads as it did. -/
def fnPredsUptoRow : OpenClaim := { program := "ytafembiemaflfaa", sum := "633234edf31d83b8f483f2a54941fe7923748a3e5f7d17647a366d7e5d29d5db", func := "loop.example/wholeway/laws.FnPreds", spec := "fnPreds", apart := false, narrowed := true }
def FnPredsUptoSaid : Prop := fnPredsUptoRow.holds Try.pinned (OpenSpec.upto fnPredsSpec)

/-- 'laws.FnInsCount', WHERE WHAT IT READS IS OF BULK AT MOST 1048576: true; the input reads as it did. -/
def fnInsCountUptoRow : OpenClaim := { program := "ytafembiemaflfaa", sum := "633234edf31d83b8f483f2a54941fe7923748a3e5f7d17647a366d7e5d29d5db", func := "loop.example/wholeway/laws.FnInsCount", spec := "fnInsCount", unfollowed := true, recurses := true, apart := false, narrowed := true }
def FnInsCountUptoSaid : Prop := fnInsCountUptoRow.holds Try.pinned (OpenSpec.upto fnInsCountSpec)

/-- 'laws.FnUnitForm', WHERE WHAT IT READS IS OF BULK AT MOST 1048576: true; the input reads as it did. -/
def fnUnitFormUptoRow : OpenClaim := { program := "ytafembiemaflfaa", sum := "633234edf31d83b8f483f2a54941fe7923748a3e5f7d17647a366d7e5d29d5db", func := "loop.example/wholeway/laws.FnUnitForm", spec := "fnUnitForm", unfollowed := true, recurses := true, apart := false, narrowed := true }
def FnUnitFormUptoSaid : Prop := fnUnitFormUptoRow.holds Try.pinned (OpenSpec.upto fnUnitFormSpec)

/-- 'laws.FnUses', WHERE WHAT IT READS IS OF BULK AT MOST 1048576: true; the input reads as it did. -/
def fnUsesUptoRow : OpenClaim := { program := "ytafembiemaflfaa", sum := "633234edf31d83b8f483f2a54941fe7923748a3e5f7d17647a366d7e5d29d5db", func := "loop.example/wholeway/laws.FnUses", spec := "fnUses", recurses := true, apart := false, narrowed := true }
def FnUsesUptoSaid : Prop := fnUsesUptoRow.holds Try.pinned (OpenSpec.upto fnUsesSpec)

end Rows
end Go.Proofs.Ytafembiemaflfaa
