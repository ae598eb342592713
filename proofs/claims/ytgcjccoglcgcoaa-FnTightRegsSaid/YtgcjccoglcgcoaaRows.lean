/-
  No cell of these rows narrows 'for every input' (looked for: loops, veiled, ifaces, maps, wideKeys, modest, calm, conditions, laid).
  DERIVED. THE GIVEN ROWS OF THIS SEAT. 2 by the template 'for every input the law returns true; each argument reads behind the call as it read before'; 0 by the template 'total and deterministic' (their statements: YtgcjccoglcgcoaaTotals.lean).
  GIVEN WITH THE SEED: the statements are not yours to turn. If you find one false, say at which input.
  Laid BY PROGRAM, IN A SANDBOX (cutbox-rows.mjs): the forced cells as the released guide's own fill.sh prints them over the translation 7b54bab9e4321a80… (all of the seat's roots in one cut). By AI agents, Wed Nov 11 2026. No macro, syntax, notation, axiom, sorry.
-/
import Derived.Test.YtgcjccoglcgcoaaChecked
import GoSem.Claim
import GoSem.ClaimJoined
import GoSem.ClaimMapViews
import Derived.JoinedTies
import Derived.KernelRfl
namespace Go.Proofs.Ytgcjccoglcgcoaa
/- THE CELL 'sum', in the pinned program and in every row, IS THE sha256 OF THE DUMP (.gsa) THAT YtgcjccoglcgcoaaProg.lean LOADS. Nothing in Lean hashes anything: it is a label: what it is worth is what the hold of that sum in a sandbox is worth. -/
noncomputable def Try.pinned : Pinned := { name := "ytgcjccoglcgcoaa", sum := "7b54bab9e4321a8053a818cf771a2765069991bb7c366926233980c4474a28e6", checked := Try.checked }
namespace Rows
def none {H : Type} : Left H := { results := [], args := [] }

/-- 'laws.FnExactTightUnit': WHATEVER THE INPUT: true; the input reads as it did. -/
def fnExactTightUnitSpec : ChangeSpec := { name := "fnExactTightUnit", fn := fun _ => fun
  | [d] => { results := [.lit (.bool true)], args := [d] }
  | _ => none }
def fnExactTightUnitRow : OpenClaim := { program := "ytgcjccoglcgcoaa", sum := "7b54bab9e4321a8053a818cf771a2765069991bb7c366926233980c4474a28e6", func := "loop.example/wholeway/laws.FnExactTightUnit", spec := "fnExactTightUnit", unfollowed := true, recurses := true, apart := false }
def FnExactTightUnitSaid : Prop := fnExactTightUnitRow.holds Try.pinned (OpenSpec.ofChange fnExactTightUnitSpec)

/-- ITS FALSE NEIGHBOUR: 'it returns false'. Refute it at one input. -/
def fnExactTightUnitWrong : ChangeSpec := { name := "fnExactTightUnit", fn := fun _ => fun
  | [d] => { results := [.lit (.bool false)], args := [d] }
  | _ => none }
def FnExactTightUnitWrongFalsely : Prop := fnExactTightUnitRow.holds Try.pinned (OpenSpec.ofChange fnExactTightUnitWrong)

/-- 'laws.FnTightRegs': WHATEVER THE INPUT: true; the input reads as it did. -/
def fnTightRegsSpec : ChangeSpec := { name := "fnTightRegs", fn := fun _ => fun
  | [d] => { results := [.lit (.bool true)], args := [d] }
  | _ => none }
def fnTightRegsRow : OpenClaim := { program := "ytgcjccoglcgcoaa", sum := "7b54bab9e4321a8053a818cf771a2765069991bb7c366926233980c4474a28e6", func := "loop.example/wholeway/laws.FnTightRegs", spec := "fnTightRegs", unfollowed := true, recurses := true, apart := false }
def FnTightRegsSaid : Prop := fnTightRegsRow.holds Try.pinned (OpenSpec.ofChange fnTightRegsSpec)

/-- ITS FALSE NEIGHBOUR: 'it returns false'. Refute it at one input. -/
def fnTightRegsWrong : ChangeSpec := { name := "fnTightRegs", fn := fun _ => fun
  | [d] => { results := [.lit (.bool false)], args := [d] }
  | _ => none }
def FnTightRegsWrongFalsely : Prop := fnTightRegsRow.holds Try.pinned (OpenSpec.ofChange fnTightRegsWrong)

/- THE SECOND FORM. 'bulk': how many values and letters a reading holds, each counted each time it is reached (what is shared counts as often as it is met; a slice's spare places count too). A statement '..UptoSaid' is the law's where the arguments, and the package variables that the reading takes, are together of bulk at most 1048576: NARROWER than '..Said'. Prove '..Said' where nothing that the law and all that it calls make is longer than what came in: it says more and counts as full. Else prove '..UptoSaid'. A law counts once. -/
mutual
def uptoBulk {H : Type} : DataW H → Nat
  | .lit (.string bytes) => bytes.length + 1
  | .lit _ => 1
  | .nil => 1
  | .ptr d => uptoBulk d + 1
  | .slice elems spare => uptoBulkAll elems + uptoBulkAll spare + 1
  | .agg parts => uptoBulkAll parts + 1
  | .iface _ d => uptoBulk d + 1
  | .map entries => uptoBulkEntries entries + 1
  | .held _ => 1
def uptoBulkAll {H : Type} : List (DataW H) → Nat
  | [] => 0
  | d :: r => uptoBulk d + uptoBulkAll r
def uptoBulkEntries {H : Type} : List (Lit × DataW H) → Nat
  | [] => 0
  | x :: r => uptoBulkEntry x + uptoBulkEntries r
def uptoBulkEntry {H : Type} : Lit × DataW H → Nat
  | (.string bytes, d) => bytes.length + uptoBulk d + 1
  | (_, d) => uptoBulk d + 1
 end
def uptoSmall : (H : Type) → List (DataW H) → Bool := fun _ ds => decide (uptoBulkAll ds ≤ 1048576)
def OpenSpec.upto (s : _root_.Go.ChangeSpec) : _root_.Go.OpenSpec := { _root_.Go.OpenSpec.ofChange s with cond := some uptoSmall }

/-- 'laws.FnExactTightUnit', WHERE WHAT IT READS IS OF BULK AT MOST 1048576: true; the input reads as it did. -/
def fnExactTightUnitUptoRow : OpenClaim := { program := "ytgcjccoglcgcoaa", sum := "7b54bab9e4321a8053a818cf771a2765069991bb7c366926233980c4474a28e6", func := "loop.example/wholeway/laws.FnExactTightUnit", spec := "fnExactTightUnit", unfollowed := true, recurses := true, apart := false, narrowed := true }
def FnExactTightUnitUptoSaid : Prop := fnExactTightUnitUptoRow.holds Try.pinned (OpenSpec.upto fnExactTightUnitSpec)

/-- 'laws.FnTightRegs', WHERE WHAT IT READS IS OF BULK AT MOST 1048576: true; the input reads as it did. -/
def fnTightRegsUptoRow : OpenClaim := { program := "ytgcjccoglcgcoaa", sum := "7b54bab9e4321a8053a818cf771a2765069991bb7c366926233980c4474a28e6", func := "loop.example/wholeway/laws.FnTightRegs", spec := "fnTightRegs", unfollowed := true, recurses := true, apart := false, narrowed := true }
def FnTightRegsUptoSaid : Prop := fnTightRegsUptoRow.holds Try.pinned (OpenSpec.upto fnTightRegsSpec)

end Rows
end Go.Proofs.Ytgcjccoglcgcoaa
