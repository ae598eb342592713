/-
  NARROWER THAN 'FOR EVERY INPUT', by the rows' own cells (each row's printed sentence says how): FnExactSameExpr: loops · FnExactFnAt: loops · FnExactSamePrograms: loops.
  DERIVED. THE GIVEN ROWS OF THIS SEAT. 17 by the template 'for every input the law returns true; each argument reads behind the call as it read before'; 0 by the template 'total and deterministic' (their statements: YtaokcnjjlbdnoaaTotals.lean).
  GIVEN WITH THE SEED: the statements are not yours to turn. If you find one false, say at which input.
  Laid BY PROGRAM, IN A SANDBOX (cutbox-rows.mjs): the forced cells as the released guide's own fill.sh prints them over the translation 945b6bdc39dad637… (all of the seat's roots in one cut). By AI agents, Wed Nov 11 2026. No macro, syntax, notation, axiom, sorry.
-/
import Derived.Test.YtaokcnjjlbdnoaaChecked
import GoSem.Claim
import GoSem.ClaimJoined
import GoSem.ClaimMapViews
import Derived.JoinedTies
import Derived.KernelRfl
namespace Go.Proofs.Ytaokcnjjlbdnoaa
/- THE CELL 'sum', in the pinned program and in every row, IS THE sha256 OF THE DUMP (.gsa) THAT YtaokcnjjlbdnoaaProg.lean LOADS. Nothing in Lean hashes anything: it is a label: what it is worth is what the hold of that sum in a sandbox is worth. -/
noncomputable def Try.pinned : Pinned := { name := "ytaokcnjjlbdnoaa", sum := "945b6bdc39dad637c9c001240108aa65eafe44ad9a6b8c2f7bb086fdbf11165b", checked := Try.checked }
namespace Rows
def none {H : Type} : Left H := { results := [], args := [] }

/-- 'laws.FnExactMadeBy': WHATEVER THE INPUT: true; the input reads as it did. -/
def fnExactMadeBySpec : ChangeSpec := { name := "fnExactMadeBy", fn := fun _ => fun
  | [d] => { results := [.lit (.bool true)], args := [d] }
  | _ => none }
def fnExactMadeByRow : OpenClaim := { program := "ytaokcnjjlbdnoaa", sum := "945b6bdc39dad637c9c001240108aa65eafe44ad9a6b8c2f7bb086fdbf11165b", func := "loop.example/wholeway/laws.FnExactMadeBy", spec := "fnExactMadeBy", apart := false }
def FnExactMadeBySaid : Prop := fnExactMadeByRow.holds Try.pinned (OpenSpec.ofChange fnExactMadeBySpec)

/-- ITS FALSE NEIGHBOUR: 'it returns false'. Refute it at one input. -/
def fnExactMadeByWrong : ChangeSpec := { name := "fnExactMadeBy", fn := fun _ => fun
  | [d] => { results := [.lit (.bool false)], args := [d] }
  | _ => none }
def FnExactMadeByWrongFalsely : Prop := fnExactMadeByRow.holds Try.pinned (OpenSpec.ofChange fnExactMadeByWrong)

/-- 'laws.FnExactSameOutcome': WHATEVER THE INPUT: true; the input reads as it did. -/
def fnExactSameOutcomeSpec : ChangeSpec := { name := "fnExactSameOutcome", fn := fun _ => fun
  | [d1, d2] => { results := [.lit (.bool true)], args := [d1, d2] }
  | _ => none }
def fnExactSameOutcomeRow : OpenClaim := { program := "ytaokcnjjlbdnoaa", sum := "945b6bdc39dad637c9c001240108aa65eafe44ad9a6b8c2f7bb086fdbf11165b", func := "loop.example/wholeway/laws.FnExactSameOutcome", spec := "fnExactSameOutcome", apart := false }
def FnExactSameOutcomeSaid : Prop := fnExactSameOutcomeRow.holds Try.pinned (OpenSpec.ofChange fnExactSameOutcomeSpec)

/-- ITS FALSE NEIGHBOUR: 'it returns false'. Refute it at one input. -/
def fnExactSameOutcomeWrong : ChangeSpec := { name := "fnExactSameOutcome", fn := fun _ => fun
  | [d1, d2] => { results := [.lit (.bool false)], args := [d1, d2] }
  | _ => none }
def FnExactSameOutcomeWrongFalsely : Prop := fnExactSameOutcomeRow.holds Try.pinned (OpenSpec.ofChange fnExactSameOutcomeWrong)

/-- 'laws.FnExactSameExpr': WHATEVER THE INPUT: true; the input reads as it did. -/
def fnExactSameExprSpec : ChangeSpec := { name := "fnExactSameExpr", fn := fun _ => fun
  | [d1, d2] => { results := [.lit (.bool true)], args := [d1, d2] }
  | _ => none }
def fnExactSameExprRow : OpenClaim := { program := "ytaokcnjjlbdnoaa", sum := "945b6bdc39dad637c9c001240108aa65eafe44ad9a6b8c2f7bb086fdbf11165b", func := "loop.example/wholeway/laws.FnExactSameExpr", spec := "fnExactSameExpr", unfollowed := true, recurses := true, loops := true, apart := false }
def FnExactSameExprSaid : Prop := fnExactSameExprRow.holds Try.pinned (OpenSpec.ofChange fnExactSameExprSpec)

/-- ITS FALSE NEIGHBOUR: 'it returns false'. Refute it at one input. -/
def fnExactSameExprWrong : ChangeSpec := { name := "fnExactSameExpr", fn := fun _ => fun
  | [d1, d2] => { results := [.lit (.bool false)], args := [d1, d2] }
  | _ => none }
def FnExactSameExprWrongFalsely : Prop := fnExactSameExprRow.holds Try.pinned (OpenSpec.ofChange fnExactSameExprWrong)

/-- 'laws.FnExactDoIns': WHATEVER THE INPUT: true; the input reads as it did. -/
def fnExactDoInsSpec : ChangeSpec := { name := "fnExactDoIns", fn := fun _ => fun
  | [d1, d2, d3] => { results := [.lit (.bool true)], args := [d1, d2, d3] }
  | _ => none }
def fnExactDoInsRow : OpenClaim := { program := "ytaokcnjjlbdnoaa", sum := "945b6bdc39dad637c9c001240108aa65eafe44ad9a6b8c2f7bb086fdbf11165b", func := "loop.example/wholeway/laws.FnExactDoIns", spec := "fnExactDoIns", unfollowed := true, recurses := true, apart := false }
def FnExactDoInsSaid : Prop := fnExactDoInsRow.holds Try.pinned (OpenSpec.ofChange fnExactDoInsSpec)

/-- ITS FALSE NEIGHBOUR: 'it returns false'. Refute it at one input. -/
def fnExactDoInsWrong : ChangeSpec := { name := "fnExactDoIns", fn := fun _ => fun
  | [d1, d2, d3] => { results := [.lit (.bool false)], args := [d1, d2, d3] }
  | _ => none }
def FnExactDoInsWrongFalsely : Prop := fnExactDoInsRow.holds Try.pinned (OpenSpec.ofChange fnExactDoInsWrong)

/-- 'laws.FnPreds': WHATEVER THE INPUT: true; the input reads as it did. -/
def fnPredsSpec : ChangeSpec := { name := "fnPreds", fn := fun _ => fun
  | [d] => { results := [.lit (.bool true)], args := [d] }
  | _ => none }
def fnPredsRow : OpenClaim := { program := "ytaokcnjjlbdnoaa", sum := "945b6bdc39dad637c9c001240108aa65eafe44ad9a6b8c2f7bb086fdbf11165b", func := "loop.example/wholeway/laws.FnPreds", spec := "fnPreds", apart := false }
def FnPredsSaid : Prop := fnPredsRow.holds Try.pinned (OpenSpec.ofChange fnPredsSpec)

/-- ITS FALSE NEIGHBOUR: 'it returns false'. Refute it at one input. -/
def fnPredsWrong : ChangeSpec := { name := "fnPreds", fn := fun _ => fun
  | [d] => { results := [.lit (.bool false)], args := [d] }
  | _ => none }
def FnPredsWrongFalsely : Prop := fnPredsRow.holds Try.pinned (OpenSpec.ofChange fnPredsWrong)

/-- 'laws.FnExactFnAt': WHATEVER THE INPUT: true; the input reads as it did. -/
def fnExactFnAtSpec : ChangeSpec := { name := "fnExactFnAt", fn := fun _ => fun
  | [d1, d2] => { results := [.lit (.bool true)], args := [d1, d2] }
  | _ => none }
def fnExactFnAtRow : OpenClaim := { program := "ytaokcnjjlbdnoaa", sum := "945b6bdc39dad637c9c001240108aa65eafe44ad9a6b8c2f7bb086fdbf11165b", func := "loop.example/wholeway/laws.FnExactFnAt", spec := "fnExactFnAt", unfollowed := true, recurses := true, loops := true, apart := false }
def FnExactFnAtSaid : Prop := fnExactFnAtRow.holds Try.pinned (OpenSpec.ofChange fnExactFnAtSpec)

/-- ITS FALSE NEIGHBOUR: 'it returns false'. Refute it at one input. -/
def fnExactFnAtWrong : ChangeSpec := { name := "fnExactFnAt", fn := fun _ => fun
  | [d1, d2] => { results := [.lit (.bool false)], args := [d1, d2] }
  | _ => none }
def FnExactFnAtWrongFalsely : Prop := fnExactFnAtRow.holds Try.pinned (OpenSpec.ofChange fnExactFnAtWrong)

/-- 'laws.FnExactPredsOf': WHATEVER THE INPUT: true; the input reads as it did. -/
def fnExactPredsOfSpec : ChangeSpec := { name := "fnExactPredsOf", fn := fun _ => fun
  | [d1, d2] => { results := [.lit (.bool true)], args := [d1, d2] }
  | _ => none }
def fnExactPredsOfRow : OpenClaim := { program := "ytaokcnjjlbdnoaa", sum := "945b6bdc39dad637c9c001240108aa65eafe44ad9a6b8c2f7bb086fdbf11165b", func := "loop.example/wholeway/laws.FnExactPredsOf", spec := "fnExactPredsOf", apart := false }
def FnExactPredsOfSaid : Prop := fnExactPredsOfRow.holds Try.pinned (OpenSpec.ofChange fnExactPredsOfSpec)

/-- ITS FALSE NEIGHBOUR: 'it returns false'. Refute it at one input. -/
def fnExactPredsOfWrong : ChangeSpec := { name := "fnExactPredsOf", fn := fun _ => fun
  | [d1, d2] => { results := [.lit (.bool false)], args := [d1, d2] }
  | _ => none }
def FnExactPredsOfWrongFalsely : Prop := fnExactPredsOfRow.holds Try.pinned (OpenSpec.ofChange fnExactPredsOfWrong)

/-- 'laws.FnExactSamePrograms': WHATEVER THE INPUT: true; the input reads as it did. -/
def fnExactSameProgramsSpec : ChangeSpec := { name := "fnExactSamePrograms", fn := fun _ => fun
  | [d1, d2] => { results := [.lit (.bool true)], args := [d1, d2] }
  | _ => none }
def fnExactSameProgramsRow : OpenClaim := { program := "ytaokcnjjlbdnoaa", sum := "945b6bdc39dad637c9c001240108aa65eafe44ad9a6b8c2f7bb086fdbf11165b", func := "loop.example/wholeway/laws.FnExactSamePrograms", spec := "fnExactSamePrograms", unfollowed := true, recurses := true, loops := true, apart := false }
def FnExactSameProgramsSaid : Prop := fnExactSameProgramsRow.holds Try.pinned (OpenSpec.ofChange fnExactSameProgramsSpec)

/-- ITS FALSE NEIGHBOUR: 'it returns false'. Refute it at one input. -/
def fnExactSameProgramsWrong : ChangeSpec := { name := "fnExactSamePrograms", fn := fun _ => fun
  | [d1, d2] => { results := [.lit (.bool false)], args := [d1, d2] }
  | _ => none }
def FnExactSameProgramsWrongFalsely : Prop := fnExactSameProgramsRow.holds Try.pinned (OpenSpec.ofChange fnExactSameProgramsWrong)

/-- 'laws.FnExactSameUnits': WHATEVER THE INPUT: true; the input reads as it did. -/
def fnExactSameUnitsSpec : ChangeSpec := { name := "fnExactSameUnits", fn := fun _ => fun
  | [d1, d2] => { results := [.lit (.bool true)], args := [d1, d2] }
  | _ => none }
def fnExactSameUnitsRow : OpenClaim := { program := "ytaokcnjjlbdnoaa", sum := "945b6bdc39dad637c9c001240108aa65eafe44ad9a6b8c2f7bb086fdbf11165b", func := "loop.example/wholeway/laws.FnExactSameUnits", spec := "fnExactSameUnits", unfollowed := true, recurses := true, apart := false }
def FnExactSameUnitsSaid : Prop := fnExactSameUnitsRow.holds Try.pinned (OpenSpec.ofChange fnExactSameUnitsSpec)

/-- ITS FALSE NEIGHBOUR: 'it returns false'. Refute it at one input. -/
def fnExactSameUnitsWrong : ChangeSpec := { name := "fnExactSameUnits", fn := fun _ => fun
  | [d1, d2] => { results := [.lit (.bool false)], args := [d1, d2] }
  | _ => none }
def FnExactSameUnitsWrongFalsely : Prop := fnExactSameUnitsRow.holds Try.pinned (OpenSpec.ofChange fnExactSameUnitsWrong)

/-- 'laws.FnInsCount': WHATEVER THE INPUT: true; the input reads as it did. -/
def fnInsCountSpec : ChangeSpec := { name := "fnInsCount", fn := fun _ => fun
  | [d] => { results := [.lit (.bool true)], args := [d] }
  | _ => none }
def fnInsCountRow : OpenClaim := { program := "ytaokcnjjlbdnoaa", sum := "945b6bdc39dad637c9c001240108aa65eafe44ad9a6b8c2f7bb086fdbf11165b", func := "loop.example/wholeway/laws.FnInsCount", spec := "fnInsCount", unfollowed := true, recurses := true, apart := false }
def FnInsCountSaid : Prop := fnInsCountRow.holds Try.pinned (OpenSpec.ofChange fnInsCountSpec)

/-- ITS FALSE NEIGHBOUR: 'it returns false'. Refute it at one input. -/
def fnInsCountWrong : ChangeSpec := { name := "fnInsCount", fn := fun _ => fun
  | [d] => { results := [.lit (.bool false)], args := [d] }
  | _ => none }
def FnInsCountWrongFalsely : Prop := fnInsCountRow.holds Try.pinned (OpenSpec.ofChange fnInsCountWrong)

/-- 'laws.FnUnitForm': WHATEVER THE INPUT: true; the input reads as it did. -/
def fnUnitFormSpec : ChangeSpec := { name := "fnUnitForm", fn := fun _ => fun
  | [d] => { results := [.lit (.bool true)], args := [d] }
  | _ => none }
def fnUnitFormRow : OpenClaim := { program := "ytaokcnjjlbdnoaa", sum := "945b6bdc39dad637c9c001240108aa65eafe44ad9a6b8c2f7bb086fdbf11165b", func := "loop.example/wholeway/laws.FnUnitForm", spec := "fnUnitForm", unfollowed := true, recurses := true, apart := false }
def FnUnitFormSaid : Prop := fnUnitFormRow.holds Try.pinned (OpenSpec.ofChange fnUnitFormSpec)

/-- ITS FALSE NEIGHBOUR: 'it returns false'. Refute it at one input. -/
def fnUnitFormWrong : ChangeSpec := { name := "fnUnitForm", fn := fun _ => fun
  | [d] => { results := [.lit (.bool false)], args := [d] }
  | _ => none }
def FnUnitFormWrongFalsely : Prop := fnUnitFormRow.holds Try.pinned (OpenSpec.ofChange fnUnitFormWrong)

/-- 'laws.FnExactUsesOf': WHATEVER THE INPUT: true; the input reads as it did. -/
def fnExactUsesOfSpec : ChangeSpec := { name := "fnExactUsesOf", fn := fun _ => fun
  | [d] => { results := [.lit (.bool true)], args := [d] }
  | _ => none }
def fnExactUsesOfRow : OpenClaim := { program := "ytaokcnjjlbdnoaa", sum := "945b6bdc39dad637c9c001240108aa65eafe44ad9a6b8c2f7bb086fdbf11165b", func := "loop.example/wholeway/laws.FnExactUsesOf", spec := "fnExactUsesOf", recurses := true, apart := false }
def FnExactUsesOfSaid : Prop := fnExactUsesOfRow.holds Try.pinned (OpenSpec.ofChange fnExactUsesOfSpec)

/-- ITS FALSE NEIGHBOUR: 'it returns false'. Refute it at one input. -/
def fnExactUsesOfWrong : ChangeSpec := { name := "fnExactUsesOf", fn := fun _ => fun
  | [d] => { results := [.lit (.bool false)], args := [d] }
  | _ => none }
def FnExactUsesOfWrongFalsely : Prop := fnExactUsesOfRow.holds Try.pinned (OpenSpec.ofChange fnExactUsesOfWrong)

/-- 'laws.FnExactUnitValid': WHATEVER THE INPUT: true; the input reads as it did. -/
def fnExactUnitValidSpec : ChangeSpec := { name := "fnExactUnitValid", fn := fun _ => fun
  | [d] => { results := [.lit (.bool true)], args := [d] }
  | _ => none }
def fnExactUnitValidRow : OpenClaim := { program := "ytaokcnjjlbdnoaa", sum := "945b6bdc39dad637c9c001240108aa65eafe44ad9a6b8c2f7bb086fdbf11165b", func := "loop.example/wholeway/laws.FnExactUnitValid", spec := "fnExactUnitValid", unfollowed := true, recurses := true, apart := false }
def FnExactUnitValidSaid : Prop := fnExactUnitValidRow.holds Try.pinned (OpenSpec.ofChange fnExactUnitValidSpec)

/-- ITS FALSE NEIGHBOUR: 'it returns false'. Refute it at one input. -/
def fnExactUnitValidWrong : ChangeSpec := { name := "fnExactUnitValid", fn := fun _ => fun
  | [d] => { results := [.lit (.bool false)], args := [d] }
  | _ => none }
def FnExactUnitValidWrongFalsely : Prop := fnExactUnitValidRow.holds Try.pinned (OpenSpec.ofChange fnExactUnitValidWrong)

/-- 'laws.FnExactInsCount': WHATEVER THE INPUT: true; the input reads as it did. -/
def fnExactInsCountSpec : ChangeSpec := { name := "fnExactInsCount", fn := fun _ => fun
  | [d] => { results := [.lit (.bool true)], args := [d] }
  | _ => none }
def fnExactInsCountRow : OpenClaim := { program := "ytaokcnjjlbdnoaa", sum := "945b6bdc39dad637c9c001240108aa65eafe44ad9a6b8c2f7bb086fdbf11165b", func := "loop.example/wholeway/laws.FnExactInsCount", spec := "fnExactInsCount", unfollowed := true, recurses := true, apart := false }
def FnExactInsCountSaid : Prop := fnExactInsCountRow.holds Try.pinned (OpenSpec.ofChange fnExactInsCountSpec)

/-- ITS FALSE NEIGHBOUR: 'it returns false'. Refute it at one input. -/
def fnExactInsCountWrong : ChangeSpec := { name := "fnExactInsCount", fn := fun _ => fun
  | [d] => { results := [.lit (.bool false)], args := [d] }
  | _ => none }
def FnExactInsCountWrongFalsely : Prop := fnExactInsCountRow.holds Try.pinned (OpenSpec.ofChange fnExactInsCountWrong)

/-- 'laws.FnUses': WHATEVER THE INPUT: true; the input reads as it did. -/
def fnUsesSpec : ChangeSpec := { name := "fnUses", fn := fun _ => fun
  | [d1, d2] => { results := [.lit (.bool true)], args := [d1, d2] }
  | _ => none }
def fnUsesRow : OpenClaim := { program := "ytaokcnjjlbdnoaa", sum := "945b6bdc39dad637c9c001240108aa65eafe44ad9a6b8c2f7bb086fdbf11165b", func := "loop.example/wholeway/laws.FnUses", spec := "fnUses", recurses := true, apart := false }
def FnUsesSaid : Prop := fnUsesRow.holds Try.pinned (OpenSpec.ofChange fnUsesSpec)

/-- ITS FALSE NEIGHBOUR: 'it returns false'. Refute it at one input. -/
def fnUsesWrong : ChangeSpec := { name := "fnUses", fn := fun _ => fun
  | [d1, d2] => { results := [.lit (.bool false)], args := [d1, d2] }
  | _ => none }
def FnUsesWrongFalsely : Prop := fnUsesRow.holds Try.pinned (OpenSpec.ofChange fnUsesWrong)

/-- 'laws.FnTightRegs': WHATEVER THE INPUT: true; the input reads as it did. -/
def fnTightRegsSpec : ChangeSpec := { name := "fnTightRegs", fn := fun _ => fun
  | [d] => { results := [.lit (.bool true)], args := [d] }
  | _ => none }
def fnTightRegsRow : OpenClaim := { program := "ytaokcnjjlbdnoaa", sum := "945b6bdc39dad637c9c001240108aa65eafe44ad9a6b8c2f7bb086fdbf11165b", func := "loop.example/wholeway/laws.FnTightRegs", spec := "fnTightRegs", unfollowed := true, recurses := true, apart := false }
def FnTightRegsSaid : Prop := fnTightRegsRow.holds Try.pinned (OpenSpec.ofChange fnTightRegsSpec)

/-- ITS FALSE NEIGHBOUR: 'it returns false'. Refute it at one input. -/
def fnTightRegsWrong : ChangeSpec := { name := "fnTightRegs", fn := fun _ => fun
  | [d] => { results := [.lit (.bool false)], args := [d] }
  | _ => none }
def FnTightRegsWrongFalsely : Prop := fnTightRegsRow.holds Try.pinned (OpenSpec.ofChange fnTightRegsWrong)

/-- 'laws.FnExactTightUnit': WHATEVER THE INPUT: true; the input reads as it did. -/
def fnExactTightUnitSpec : ChangeSpec := { name := "fnExactTightUnit", fn := fun _ => fun
  | [d] => { results := [.lit (.bool true)], args := [d] }
  | _ => none }
def fnExactTightUnitRow : OpenClaim := { program := "ytaokcnjjlbdnoaa", sum := "945b6bdc39dad637c9c001240108aa65eafe44ad9a6b8c2f7bb086fdbf11165b", func := "loop.example/wholeway/laws.FnExactTightUnit", spec := "fnExactTightUnit", unfollowed := true, recurses := true, apart := false }
def FnExactTightUnitSaid : Prop := fnExactTightUnitRow.holds Try.pinned (OpenSpec.ofChange fnExactTightUnitSpec)

/-- ITS FALSE NEIGHBOUR: 'it returns false'. Refute it at one input. -/
def fnExactTightUnitWrong : ChangeSpec := { name := "fnExactTightUnit", fn := fun _ => fun
  | [d] => { results := [.lit (.bool false)], args := [d] }
  | _ => none }
def FnExactTightUnitWrongFalsely : Prop := fnExactTightUnitRow.holds Try.pinned (OpenSpec.ofChange fnExactTightUnitWrong)

/- THE SECOND FORM. 'bulk': how many values and letters a reading holds, each counted each time it is reached (what is shared counts as often as it is met; a slice's spare places count too). A statement '..UptoSaid' is the law's where the arguments, and the package variables that the reading takes, are together of bulk at most 1048576: NARROWER than '..Said'. Prove '..Said' where nothing that the law and all that it calls make is longer than what came in: it says more and counts as full. Else prove '..UptoSaid'. A law counts once. -/
mutual
def uptoBulk {H : Type} : DataW H → Nat
  | .lit (.string bytes) => bytes.length + 1
  | .lit _ => 1
  | .nil => 1
  | .ptr d => uptoBulk d + 1
  | .slice elems spare => uptoBulkAll elems + uptoBulkAll spare + 1
  | .agg parts => uptoBulkAll parts + 1
  | .iface _ d => uptoBulk d + 1
  | .map entries => uptoBulkEntries entries + 1
  | .held _ => 1
def uptoBulkAll {H : Type} : List (DataW H) → Nat
  | [] => 0
  | d :: r => uptoBulk d + uptoBulkAll r
def uptoBulkEntries {H : Type} : List (Lit × DataW H) → Nat
  | [] => 0
  | x :: r => uptoBulkEntry x + uptoBulkEntries r
def uptoBulkEntry {H : Type} : Lit × DataW H → Nat
  | (.string bytes, d) => bytes.length + uptoBulk d + 1
  | (_, d) => uptoBulk d + 1
 end
def uptoSmall : (H : Type) → List (DataW H) → Bool := fun _ ds => decide (uptoBulkAll ds ≤ 1048576)
def OpenSpec.upto (s : _root_.Go.ChangeSpec) : _root_.Go.OpenSpec := { _root_.Go.OpenSpec.ofChange s with cond := some uptoSmall }

/-- 'laws.FnExactMadeBy', WHERE WHAT IT READS IS OF BULK AT MOST 1048576: true; the input reads as it did. -/
def fnExactMadeByUptoRow : OpenClaim := { program := "ytaokcnjjlbdnoaa", sum := "945b6bdc39dad637c9c001240108aa65eafe44ad9a6b8c2f7bb086fdbf11165b", func := "loop.example/wholeway/laws.FnExactMadeBy", spec := "fnExactMadeBy", apart := false, narrowed := true }
def FnExactMadeByUptoSaid : Prop := fnExactMadeByUptoRow.holds Try.pinned (OpenSpec.upto fnExactMadeBySpec)

/-- 'laws.FnExactSameOutcome', WHERE WHAT IT READS IS OF BULK AT MOST 1048576: true; the input reads as it did. -/
def fnExactSameOutcomeUptoRow : OpenClaim := { program := "ytaokcnjjlbdnoaa", sum := "945b6bdc39dad637c9c001240108aa65eafe44ad9a6b8c2f7bb086fdbf11165b", func := "loop.example/wholeway/laws.FnExactSameOutcome", spec := "fnExactSameOutcome", apart := false, narrowed := true }
def FnExactSameOutcomeUptoSaid : Prop := fnExactSameOutcomeUptoRow.holds Try.pinned (OpenSpec.upto fnExactSameOutcomeSpec)

/-- 'laws.FnExactSameExpr', WHERE WHAT IT READS IS OF BULK AT MOST 1048576: true; the input reads as it did. -/
def fnExactSameExprUptoRow : OpenClaim := { program := "ytaokcnjjlbdnoaa", sum := "945b6bdc39dad637c9c001240108aa65eafe44ad9a6b8c2f7bb086fdbf11165b", func := "loop.example/wholeway/laws.FnExactSameExpr", spec := "fnExactSameExpr", unfollowed := true, recurses := true, loops := true, apart := false, narrowed := true }
def FnExactSameExprUptoSaid : Prop := fnExactSameExprUptoRow.holds Try.pinned (OpenSpec.upto fnExactSameExprSpec)

/-- 'laws.FnExactDoIns', WHERE WHAT IT READS IS OF BULK AT MOST 1048576: true; the input reads as it did. -/
def fnExactDoInsUptoRow : OpenClaim := { program := "ytaokcnjjlbdnoaa", sum := "945b6bdc39dad637c9c001240108aa65eafe44ad9a6b8c2f7bb086fdbf11165b", func := "loop.example/wholeway/laws.FnExactDoIns", spec := "fnExactDoIns", unfollowed := true, recurses := true, apart := false, narrowed := true }
def FnExactDoInsUptoSaid : Prop := fnExactDoInsUptoRow.holds Try.pinned (OpenSpec.upto fnExactDoInsSpec)

/-- 'laws.FnPreds', WHERE WHAT IT READS IS OF BULK AT MOST 1048576: true; the input reads as it did. -/
def fnPredsUptoRow : OpenClaim := { program := "ytaokcnjjlbdnoaa", sum := "945b6bdc39dad637c9c001240108aa65eafe44ad9a6b8c2f7bb086fdbf11165b", func := "loop.example/wholeway/laws.FnPreds", spec := "fnPreds", apart := false, narrowed := true }
def FnPredsUptoSaid : Prop := fnPredsUptoRow.holds Try.pinned (OpenSpec.upto fnPredsSpec)

/-- 'laws.FnExactFnAt', WHERE WHAT IT READS IS OF BULK AT MOST 1048576: true; the input reads as it did. -/
def fnExactFnAtUptoRow : OpenClaim := { program := "ytaokcnjjlbdnoaa", sum := "945b6bdc39dad637c9c001240108aa65eafe44ad9a6b8c2f7bb086fdbf11165b", func := "loop.example/wholeway/laws.FnExactFnAt", spec := "fnExactFnAt", unfollowed := true, recurses := true, loops := true, apart := false, narrowed := true }
def FnExactFnAtUptoSaid : Prop := fnExactFnAtUptoRow.holds Try.pinned (OpenSpec.upto fnExactFnAtSpec)

/-- 'laws.FnExactPredsOf', WHERE WHAT IT READS IS OF BULK AT MOST 1048576: true; the input reads as it did. -/
def fnExactPredsOfUptoRow : OpenClaim := { program := "ytaokcnjjlbdnoaa", sum := "945b6bdc39dad637c9c001240108aa65eafe44ad9a6b8c2f7bb086fdbf11165b", func := "loop.example/wholeway/laws.FnExactPredsOf", spec := "fnExactPredsOf", apart := false, narrowed := true }
def FnExactPredsOfUptoSaid : Prop := fnExactPredsOfUptoRow.holds Try.pinned (OpenSpec.upto fnExactPredsOfSpec)

/-- 'laws.FnExactSamePrograms', WHERE WHAT IT READS IS OF BULK AT MOST 1048576: true; the input reads as it did. -/
def fnExactSameProgramsUptoRow : OpenClaim := { program := "ytaokcnjjlbdnoaa", sum := "945b6bdc39dad637c9c001240108aa65eafe44ad9a6b8c2f7bb086fdbf11165b", func := "loop.example/wholeway/laws.FnExactSamePrograms", spec := "fnExactSamePrograms", unfollowed := true, recurses := true, loops := true, apart := false, narrowed := true }
def FnExactSameProgramsUptoSaid : Prop := fnExactSameProgramsUptoRow.holds Try.pinned (OpenSpec.upto fnExactSameProgramsSpec)

/-- 'laws.FnExactSameUnits', WHERE WHAT IT READS IS OF BULK AT MOST 1048576: true; the input reads as it did. -/
def fnExactSameUnitsUptoRow : OpenClaim := { program := "ytaokcnjjlbdnoaa", sum := "945b6bdc39dad637c9c001240108aa65eafe44ad9a6b8c2f7bb086fdbf11165b", func := "loop.example/wholeway/laws.FnExactSameUnits", spec := "fnExactSameUnits", unfollowed := true, recurses := true, apart := false, narrowed := true }
def FnExactSameUnitsUptoSaid : Prop := fnExactSameUnitsUptoRow.holds Try.pinned (OpenSpec.upto fnExactSameUnitsSpec)

/-- 'laws.FnInsCount', WHERE WHAT IT READS IS OF BULK AT MOST 1048576: true; the input reads as it did. -/
def fnInsCountUptoRow : OpenClaim := { program := "ytaokcnjjlbdnoaa", sum := "945b6bdc39dad637c9c001240108aa65eafe44ad9a6b8c2f7bb086fdbf11165b", func := "loop.example/wholeway/laws.FnInsCount", spec := "fnInsCount", unfollowed := true, recurses := true, apart := false, narrowed := true }
def FnInsCountUptoSaid : Prop := fnInsCountUptoRow.holds Try.pinned (OpenSpec.upto fnInsCountSpec)

/-- 'laws.FnUnitForm', WHERE WHAT IT READS IS OF BULK AT MOST 1048576: true; the input reads as it did. -/
def fnUnitFormUptoRow : OpenClaim := { program := "ytaokcnjjlbdnoaa", sum := "945b6bdc39dad637c9c001240108aa65eafe44ad9a6b8c2f7bb086fdbf11165b", func := "loop.example/wholeway/laws.FnUnitForm", spec := "fnUnitForm", unfollowed := true, recurses := true, apart := false, narrowed := true }
def FnUnitFormUptoSaid : Prop := fnUnitFormUptoRow.holds Try.pinned (OpenSpec.upto fnUnitFormSpec)

/-- 'laws.FnExactUsesOf', WHERE WHAT IT READS IS OF BULK AT MOST 1048576: true; the input reads as it did. -/
def fnExactUsesOfUptoRow : OpenClaim := { program := "ytaokcnjjlbdnoaa", sum := "945b6bdc39dad637c9c001240108aa65eafe44ad9a6b8c2f7bb086fdbf11165b", func := "loop.example/wholeway/laws.FnExactUsesOf", spec := "fnExactUsesOf", recurses := true, apart := false, narrowed := true }
def FnExactUsesOfUptoSaid : Prop := fnExactUsesOfUptoRow.holds Try.pinned (OpenSpec.upto fnExactUsesOfSpec)

/-- 'laws.FnExactUnitValid', WHERE WHAT IT READS IS OF BULK AT MOST 1048576: true; the input reads as it did. -/
def fnExactUnitValidUptoRow : OpenClaim := { program := "ytaokcnjjlbdnoaa", sum := "945b6bdc39dad637c9c001240108aa65eafe44ad9a6b8c2f7bb086fdbf11165b", func := "loop.example/wholeway/laws.FnExactUnitValid", spec := "fnExactUnitValid", unfollowed := true, recurses := true, apart := false, narrowed := true }
def FnExactUnitValidUptoSaid : Prop := fnExactUnitValidUptoRow.holds Try.pinned (OpenSpec.upto fnExactUnitValidSpec)

/-- 'laws.FnExactInsCount', WHERE WHAT IT READS IS OF BULK AT MOST 1048576: true; the input reads as it did. -/
def fnExactInsCountUptoRow : OpenClaim := { program := "ytaokcnjjlbdnoaa", sum := "945b6bdc39dad637c9c001240108aa65eafe44ad9a6b8c2f7bb086fdbf11165b", func := "loop.example/wholeway/laws.FnExactInsCount", spec := "fnExactInsCount", unfollowed := true, recurses := true, apart := false, narrowed := true }
def FnExactInsCountUptoSaid : Prop := fnExactInsCountUptoRow.holds Try.pinned (OpenSpec.upto fnExactInsCountSpec)

/-- 'laws.FnUses', WHERE WHAT IT READS IS OF BULK AT MOST 1048576: true; the input reads as it did. -/
def fnUsesUptoRow : OpenClaim := { program := "ytaokcnjjlbdnoaa", sum := "945b6bdc39dad637c9c001240108aa65eafe44ad9a6b8c2f7bb086fdbf11165b", func := "loop.example/wholeway/laws.FnUses", spec := "fnUses", recurses := true, apart := false, narrowed := true }
def FnUsesUptoSaid : Prop := fnUsesUptoRow.holds Try.pinned (OpenSpec.upto fnUsesSpec)

/-- 'laws.FnTightRegs', WHERE WHAT IT READS IS OF BULK AT MOST 1048576: true; the input reads as it did. -/
def fnTightRegsUptoRow : OpenClaim := { program := "ytaokcnjjlbdnoaa", sum := "945b6bdc39dad637c9c001240108aa65eafe44ad9a6b8c2f7bb086fdbf11165b", func := "loop.example/wholeway/laws.FnTightRegs", spec := "fnTightRegs", unfollowed := true, recurses := true, apart := false, narrowed := true }
def FnTightRegsUptoSaid : Prop := fnTightRegsUptoRow.holds Try.pinned (OpenSpec.upto fnTightRegsSpec)

/-- 'laws.FnExactTightUnit', WHERE WHAT IT READS IS OF BULK AT MOST 1048576: true; the input reads as it did. -/
def fnExactTightUnitUptoRow : OpenClaim := { program := "ytaokcnjjlbdnoaa", sum := "945b6bdc39dad637c9c001240108aa65eafe44ad9a6b8c2f7bb086fdbf11165b", func := "loop.example/wholeway/laws.FnExactTightUnit", spec := "fnExactTightUnit", unfollowed := true, recurses := true, apart := false, narrowed := true }
def FnExactTightUnitUptoSaid : Prop := fnExactTightUnitUptoRow.holds Try.pinned (OpenSpec.upto fnExactTightUnitSpec)

end Rows
end Go.Proofs.Ytaokcnjjlbdnoaa
