/-
  NARROWER THAN 'FOR EVERY INPUT', by the rows' own cells (each row's printed sentence says how): FnExactKeyWords: laid · FnExactIsName: laid · FnExactNumberOf: laid · FnExactWordValid: laid · FnExactCutWords: laid · FnExactJoinWords: laid · FnExactPlainText: laid.
  DERIVED. THE GIVEN ROWS OF THIS SEAT. 7 by the template 'for every input the law returns true; each argument reads behind the call as it read before'; 0 by the template 'total and deterministic' (their statements: YtcmcpipcafjiaaaDoorTotals.lean).
  GIVEN WITH THE SEED: the statements are not yours to turn. If you find one false, say at which input.
  Laid BY PROGRAM, IN A SANDBOX (cutbox-rows.mjs): the forced cells as the released guide's own fill.sh prints them over the translation 986b5ca691e5d9a9… (all of the seat's roots in one cut). By AI agents, Wed Nov 11 2026. No macro, syntax, notation, axiom, sorry.
-/
import Derived.Test.YtcmcpipcafjiaaaDoorChecked
import GoSem.Claim
import GoSem.ClaimJoined
import GoSem.ClaimMapViews
import Derived.JoinedTies
import Derived.KernelRfl
namespace Go.Proofs.YtcmcpipcafjiaaaDoor
/- THE CELL 'sum', in the pinned program and in every row, IS THE sha256 OF THE DUMP (.gsa) THAT YtcmcpipcafjiaaaDoorProg.lean LOADS. Nothing in Lean hashes anything: it is a label: what it is worth is what the hold of that sum in a sandbox is worth. -/
noncomputable def Tryd.pinned : Pinned := { name := "ytcmcpipcafjiaaadoor", sum := "986b5ca691e5d9a9439f6e439349c81fecd3cd2b76b5ff5da17ec5893f97ff46", checked := Tryd.checked }
namespace Rows
def none {H : Type} : Left H := { results := [], args := [] }

/- WHAT THE LISTED PACKAGE-LEVEL VARIABLES READ AS WHEN THE CALL BEGINS. Each datum BY PROGRAM (the guide's laid-datum.mjs) off the statement by which the dump's own 'gosem.cut.vars' lays the variable. In a bare row this is a premise. The card (YtcmcpipcafjiaaaDoorCards.lean) ties it to the program's text. -/
def laid_loop_example_wholeway_impl_keys {H : Type} : DataW H := .agg [.lit (.string [102, 110]), .lit (.string [108, 101, 116]), .lit (.string [115, 97, 121]), .lit (.string [112, 117, 116]), .lit (.string [105, 102]), .lit (.string [101, 108, 115, 101]), .lit (.string [108, 111, 111, 112]), .lit (.string [98, 97, 99, 107]), .lit (.string [100, 111])]
def laid_math_bits_deBruijn32tab {H : Type} : DataW H := .agg [.lit (.int .u8 0), .lit (.int .u8 1), .lit (.int .u8 28), .lit (.int .u8 2), .lit (.int .u8 29), .lit (.int .u8 14), .lit (.int .u8 24), .lit (.int .u8 3), .lit (.int .u8 30), .lit (.int .u8 22), .lit (.int .u8 20), .lit (.int .u8 15), .lit (.int .u8 25), .lit (.int .u8 17), .lit (.int .u8 4), .lit (.int .u8 8), .lit (.int .u8 31), .lit (.int .u8 27), .lit (.int .u8 13), .lit (.int .u8 23), .lit (.int .u8 21), .lit (.int .u8 19), .lit (.int .u8 16), .lit (.int .u8 7), .lit (.int .u8 26), .lit (.int .u8 12), .lit (.int .u8 18), .lit (.int .u8 6), .lit (.int .u8 11), .lit (.int .u8 5), .lit (.int .u8 10), .lit (.int .u8 9)]
def laid_math_bits_deBruijn64tab {H : Type} : DataW H := .agg [.lit (.int .u8 0), .lit (.int .u8 1), .lit (.int .u8 56), .lit (.int .u8 2), .lit (.int .u8 57), .lit (.int .u8 49), .lit (.int .u8 28), .lit (.int .u8 3), .lit (.int .u8 61), .lit (.int .u8 58), .lit (.int .u8 42), .lit (.int .u8 50), .lit (.int .u8 38), .lit (.int .u8 29), .lit (.int .u8 17), .lit (.int .u8 4), .lit (.int .u8 62), .lit (.int .u8 47), .lit (.int .u8 59), .lit (.int .u8 36), .lit (.int .u8 45), .lit (.int .u8 43), .lit (.int .u8 51), .lit (.int .u8 22), .lit (.int .u8 53), .lit (.int .u8 39), .lit (.int .u8 33), .lit (.int .u8 30), .lit (.int .u8 24), .lit (.int .u8 18), .lit (.int .u8 12), .lit (.int .u8 5), .lit (.int .u8 63), .lit (.int .u8 55), .lit (.int .u8 48), .lit (.int .u8 27), .lit (.int .u8 60), .lit (.int .u8 41), .lit (.int .u8 37), .lit (.int .u8 16), .lit (.int .u8 46), .lit (.int .u8 35), .lit (.int .u8 44), .lit (.int .u8 21), .lit (.int .u8 52), .lit (.int .u8 32), .lit (.int .u8 23), .lit (.int .u8 11), .lit (.int .u8 54), .lit (.int .u8 26), .lit (.int .u8 40), .lit (.int .u8 15), .lit (.int .u8 34), .lit (.int .u8 20), .lit (.int .u8 31), .lit (.int .u8 10), .lit (.int .u8 25), .lit (.int .u8 14), .lit (.int .u8 19), .lit (.int .u8 9), .lit (.int .u8 13), .lit (.int .u8 8), .lit (.int .u8 7), .lit (.int .u8 6)]
def laid_internal_strconv_uint64pow10 {H : Type} : DataW H := .agg [.lit (.int .u64 1), .lit (.int .u64 10), .lit (.int .u64 100), .lit (.int .u64 1000), .lit (.int .u64 10000), .lit (.int .u64 100000), .lit (.int .u64 1000000), .lit (.int .u64 10000000), .lit (.int .u64 100000000), .lit (.int .u64 1000000000), .lit (.int .u64 10000000000), .lit (.int .u64 100000000000), .lit (.int .u64 1000000000000), .lit (.int .u64 10000000000000), .lit (.int .u64 100000000000000), .lit (.int .u64 1000000000000000), .lit (.int .u64 10000000000000000), .lit (.int .u64 100000000000000000), .lit (.int .u64 1000000000000000000), .lit (.int .u64 10000000000000000000)]
def laid_strconv_ErrRange {H : Type} : DataW H := .iface "*errors.errorString" (.ptr (.agg [.lit (.string [118, 97, 108, 117, 101, 32, 111, 117, 116, 32, 111, 102, 32, 114, 97, 110, 103, 101])]))
def laid_strconv_ErrSyntax {H : Type} : DataW H := .iface "*errors.errorString" (.ptr (.agg [.lit (.string [105, 110, 118, 97, 108, 105, 100, 32, 115, 121, 110, 116, 97, 120])]))

/-- 'laws.FnExactKeyWords': WHATEVER THE INPUT: true; the input reads as it did. -/
def fnExactKeyWordsSpec : ChangeSpec := { name := "fnExactKeyWords", vars := ["loop.example/wholeway/impl.keys"], fn := fun _ => fun
  | [g1] => { results := [.lit (.bool true)], args := [], vars := [g1] }
  | _ => none }
def fnExactKeyWordsRow : OpenClaim := { program := "ytcmcpipcafjiaaadoor", sum := "986b5ca691e5d9a9439f6e439349c81fecd3cd2b76b5ff5da17ec5893f97ff46", func := "loop.example/wholeway/laws.FnExactKeyWords", spec := "fnExactKeyWords", named := ["loop.example/wholeway/impl.keys"], apart := false, laid := [("loop.example/wholeway/impl.keys", laid_loop_example_wholeway_impl_keys)] }
def FnExactKeyWordsSaid : Prop := fnExactKeyWordsRow.holds Tryd.pinned (OpenSpec.ofChange fnExactKeyWordsSpec)

/-- ITS FALSE NEIGHBOUR: 'it returns false'. Refute it at one input. -/
def fnExactKeyWordsWrong : ChangeSpec := { name := "fnExactKeyWords", vars := ["loop.example/wholeway/impl.keys"], fn := fun _ => fun
  | [g1] => { results := [.lit (.bool false)], args := [], vars := [g1] }
  | _ => none }
def FnExactKeyWordsWrongFalsely : Prop := fnExactKeyWordsRow.holds Tryd.pinned (OpenSpec.ofChange fnExactKeyWordsWrong)

/-- 'laws.FnExactIsName': WHATEVER THE INPUT: true; the input reads as it did. -/
def fnExactIsNameSpec : ChangeSpec := { name := "fnExactIsName", vars := ["loop.example/wholeway/impl.keys"], fn := fun _ => fun
  | [d, g1] => { results := [.lit (.bool true)], args := [d], vars := [g1] }
  | _ => none }
def fnExactIsNameRow : OpenClaim := { program := "ytcmcpipcafjiaaadoor", sum := "986b5ca691e5d9a9439f6e439349c81fecd3cd2b76b5ff5da17ec5893f97ff46", func := "loop.example/wholeway/laws.FnExactIsName", spec := "fnExactIsName", unfollowed := true, recurses := true, named := ["loop.example/wholeway/impl.keys"], apart := false, laid := [("loop.example/wholeway/impl.keys", laid_loop_example_wholeway_impl_keys)] }
def FnExactIsNameSaid : Prop := fnExactIsNameRow.holds Tryd.pinned (OpenSpec.ofChange fnExactIsNameSpec)

/-- ITS FALSE NEIGHBOUR: 'it returns false'. Refute it at one input. -/
def fnExactIsNameWrong : ChangeSpec := { name := "fnExactIsName", vars := ["loop.example/wholeway/impl.keys"], fn := fun _ => fun
  | [d, g1] => { results := [.lit (.bool false)], args := [d], vars := [g1] }
  | _ => none }
def FnExactIsNameWrongFalsely : Prop := fnExactIsNameRow.holds Tryd.pinned (OpenSpec.ofChange fnExactIsNameWrong)

/-- 'laws.FnExactNumberOf': WHATEVER THE INPUT: true; the input reads as it did. -/
def fnExactNumberOfSpec : ChangeSpec := { name := "fnExactNumberOf", fn := fun _ => fun
  | [d] => { results := [.lit (.bool true)], args := [d] }
  | _ => none }
def fnExactNumberOfRow : OpenClaim := { program := "ytcmcpipcafjiaaadoor", sum := "986b5ca691e5d9a9439f6e439349c81fecd3cd2b76b5ff5da17ec5893f97ff46", func := "loop.example/wholeway/laws.FnExactNumberOf", spec := "fnExactNumberOf", named := ["strconv.ErrSyntax", "strconv.ErrRange", "internal/strconv.uint64pow10", "math/bits.deBruijn32tab", "math/bits.deBruijn64tab"], apart := false, laid := [("math/bits.deBruijn32tab", laid_math_bits_deBruijn32tab), ("math/bits.deBruijn64tab", laid_math_bits_deBruijn64tab), ("internal/strconv.uint64pow10", laid_internal_strconv_uint64pow10), ("strconv.ErrRange", laid_strconv_ErrRange), ("strconv.ErrSyntax", laid_strconv_ErrSyntax)] }
def FnExactNumberOfSaid : Prop := fnExactNumberOfRow.holds Tryd.pinned (OpenSpec.ofChange fnExactNumberOfSpec)

/-- ITS FALSE NEIGHBOUR: 'it returns false'. Refute it at one input. -/
def fnExactNumberOfWrong : ChangeSpec := { name := "fnExactNumberOf", fn := fun _ => fun
  | [d] => { results := [.lit (.bool false)], args := [d] }
  | _ => none }
def FnExactNumberOfWrongFalsely : Prop := fnExactNumberOfRow.holds Tryd.pinned (OpenSpec.ofChange fnExactNumberOfWrong)

/-- 'laws.FnExactWordValid': WHATEVER THE INPUT: true; the input reads as it did. -/
def fnExactWordValidSpec : ChangeSpec := { name := "fnExactWordValid", vars := ["loop.example/wholeway/impl.keys"], fn := fun _ => fun
  | [d, g1] => { results := [.lit (.bool true)], args := [d], vars := [g1] }
  | _ => none }
def fnExactWordValidRow : OpenClaim := { program := "ytcmcpipcafjiaaadoor", sum := "986b5ca691e5d9a9439f6e439349c81fecd3cd2b76b5ff5da17ec5893f97ff46", func := "loop.example/wholeway/laws.FnExactWordValid", spec := "fnExactWordValid", inPlace := ["internal/bytealg.IndexByteString", "internal/bytealg.IndexString"], unfollowed := true, recurses := true, named := ["loop.example/wholeway/impl.keys", "strconv.ErrSyntax", "strconv.ErrRange", "internal/strconv.uint64pow10", "math/bits.deBruijn32tab", "math/bits.deBruijn64tab", "internal/bytealg.MaxLen"], apart := false, laid := [("math/bits.deBruijn32tab", laid_math_bits_deBruijn32tab), ("math/bits.deBruijn64tab", laid_math_bits_deBruijn64tab), ("internal/strconv.uint64pow10", laid_internal_strconv_uint64pow10), ("strconv.ErrRange", laid_strconv_ErrRange), ("strconv.ErrSyntax", laid_strconv_ErrSyntax), ("loop.example/wholeway/impl.keys", laid_loop_example_wholeway_impl_keys)] }
def FnExactWordValidSaid : Prop := fnExactWordValidRow.holds Tryd.pinned (OpenSpec.ofChange fnExactWordValidSpec)

/-- ITS FALSE NEIGHBOUR: 'it returns false'. Refute it at one input. -/
def fnExactWordValidWrong : ChangeSpec := { name := "fnExactWordValid", vars := ["loop.example/wholeway/impl.keys"], fn := fun _ => fun
  | [d, g1] => { results := [.lit (.bool false)], args := [d], vars := [g1] }
  | _ => none }
def FnExactWordValidWrongFalsely : Prop := fnExactWordValidRow.holds Tryd.pinned (OpenSpec.ofChange fnExactWordValidWrong)

/-- 'laws.FnExactCutWords': WHATEVER THE INPUT: true; the input reads as it did. -/
def fnExactCutWordsSpec : ChangeSpec := { name := "fnExactCutWords", vars := ["loop.example/wholeway/impl.keys"], fn := fun _ => fun
  | [d, g1] => { results := [.lit (.bool true)], args := [d], vars := [g1] }
  | _ => none }
def fnExactCutWordsRow : OpenClaim := { program := "ytcmcpipcafjiaaadoor", sum := "986b5ca691e5d9a9439f6e439349c81fecd3cd2b76b5ff5da17ec5893f97ff46", func := "loop.example/wholeway/laws.FnExactCutWords", spec := "fnExactCutWords", inPlace := ["internal/bytealg.IndexByteString", "internal/bytealg.IndexString"], unfollowed := true, recurses := true, named := ["loop.example/wholeway/impl.keys", "strconv.ErrSyntax", "strconv.ErrRange", "internal/strconv.uint64pow10", "math/bits.deBruijn32tab", "math/bits.deBruijn64tab", "internal/bytealg.MaxLen"], apart := false, laid := [("math/bits.deBruijn32tab", laid_math_bits_deBruijn32tab), ("math/bits.deBruijn64tab", laid_math_bits_deBruijn64tab), ("internal/strconv.uint64pow10", laid_internal_strconv_uint64pow10), ("strconv.ErrRange", laid_strconv_ErrRange), ("strconv.ErrSyntax", laid_strconv_ErrSyntax), ("loop.example/wholeway/impl.keys", laid_loop_example_wholeway_impl_keys)] }
def FnExactCutWordsSaid : Prop := fnExactCutWordsRow.holds Tryd.pinned (OpenSpec.ofChange fnExactCutWordsSpec)

/-- ITS FALSE NEIGHBOUR: 'it returns false'. Refute it at one input. -/
def fnExactCutWordsWrong : ChangeSpec := { name := "fnExactCutWords", vars := ["loop.example/wholeway/impl.keys"], fn := fun _ => fun
  | [d, g1] => { results := [.lit (.bool false)], args := [d], vars := [g1] }
  | _ => none }
def FnExactCutWordsWrongFalsely : Prop := fnExactCutWordsRow.holds Tryd.pinned (OpenSpec.ofChange fnExactCutWordsWrong)

/-- 'laws.FnExactJoinWords': WHATEVER THE INPUT: true; the input reads as it did. -/
def fnExactJoinWordsSpec : ChangeSpec := { name := "fnExactJoinWords", vars := ["loop.example/wholeway/impl.keys"], fn := fun _ => fun
  | [d, g1] => { results := [.lit (.bool true)], args := [d], vars := [g1] }
  | _ => none }
def fnExactJoinWordsRow : OpenClaim := { program := "ytcmcpipcafjiaaadoor", sum := "986b5ca691e5d9a9439f6e439349c81fecd3cd2b76b5ff5da17ec5893f97ff46", func := "loop.example/wholeway/laws.FnExactJoinWords", spec := "fnExactJoinWords", inPlace := ["internal/bytealg.IndexByteString", "internal/bytealg.IndexString", "internal/abi.NoEscape", "internal/bytealg.MakeNoZero"], unfollowed := true, recurses := true, named := ["loop.example/wholeway/impl.keys", "strconv.ErrSyntax", "strconv.ErrRange", "internal/strconv.uint64pow10", "math/bits.deBruijn32tab", "math/bits.deBruijn64tab", "internal/bytealg.MaxLen"], apart := false, laid := [("math/bits.deBruijn32tab", laid_math_bits_deBruijn32tab), ("math/bits.deBruijn64tab", laid_math_bits_deBruijn64tab), ("internal/strconv.uint64pow10", laid_internal_strconv_uint64pow10), ("strconv.ErrRange", laid_strconv_ErrRange), ("strconv.ErrSyntax", laid_strconv_ErrSyntax), ("loop.example/wholeway/impl.keys", laid_loop_example_wholeway_impl_keys)] }
def FnExactJoinWordsSaid : Prop := fnExactJoinWordsRow.holds Tryd.pinned (OpenSpec.ofChange fnExactJoinWordsSpec)

/-- ITS FALSE NEIGHBOUR: 'it returns false'. Refute it at one input. -/
def fnExactJoinWordsWrong : ChangeSpec := { name := "fnExactJoinWords", vars := ["loop.example/wholeway/impl.keys"], fn := fun _ => fun
  | [d, g1] => { results := [.lit (.bool false)], args := [d], vars := [g1] }
  | _ => none }
def FnExactJoinWordsWrongFalsely : Prop := fnExactJoinWordsRow.holds Tryd.pinned (OpenSpec.ofChange fnExactJoinWordsWrong)

/-- 'laws.FnExactPlainText': WHATEVER THE INPUT: true; the input reads as it did. -/
def fnExactPlainTextSpec : ChangeSpec := { name := "fnExactPlainText", vars := ["loop.example/wholeway/impl.keys"], fn := fun _ => fun
  | [d, g1] => { results := [.lit (.bool true)], args := [d], vars := [g1] }
  | _ => none }
def fnExactPlainTextRow : OpenClaim := { program := "ytcmcpipcafjiaaadoor", sum := "986b5ca691e5d9a9439f6e439349c81fecd3cd2b76b5ff5da17ec5893f97ff46", func := "loop.example/wholeway/laws.FnExactPlainText", spec := "fnExactPlainText", inPlace := ["internal/bytealg.IndexByteString", "internal/bytealg.IndexString", "internal/abi.NoEscape", "internal/bytealg.MakeNoZero"], unfollowed := true, recurses := true, named := ["loop.example/wholeway/impl.keys", "strconv.ErrSyntax", "strconv.ErrRange", "internal/strconv.uint64pow10", "math/bits.deBruijn32tab", "math/bits.deBruijn64tab", "internal/bytealg.MaxLen"], apart := false, laid := [("math/bits.deBruijn32tab", laid_math_bits_deBruijn32tab), ("math/bits.deBruijn64tab", laid_math_bits_deBruijn64tab), ("internal/strconv.uint64pow10", laid_internal_strconv_uint64pow10), ("strconv.ErrRange", laid_strconv_ErrRange), ("strconv.ErrSyntax", laid_strconv_ErrSyntax), ("loop.example/wholeway/impl.keys", laid_loop_example_wholeway_impl_keys)] }
def FnExactPlainTextSaid : Prop := fnExactPlainTextRow.holds Tryd.pinned (OpenSpec.ofChange fnExactPlainTextSpec)

/-- ITS FALSE NEIGHBOUR: 'it returns false'. Refute it at one input. -/
def fnExactPlainTextWrong : ChangeSpec := { name := "fnExactPlainText", vars := ["loop.example/wholeway/impl.keys"], fn := fun _ => fun
  | [d, g1] => { results := [.lit (.bool false)], args := [d], vars := [g1] }
  | _ => none }
def FnExactPlainTextWrongFalsely : Prop := fnExactPlainTextRow.holds Tryd.pinned (OpenSpec.ofChange fnExactPlainTextWrong)

/- THE SECOND FORM. 'bulk': how many values and letters a reading holds, each counted each time it is reached (what is shared counts as often as it is met; a slice's spare places count too). A statement '..UptoSaid' is the law's where the arguments, and the package variables that the reading takes, are together of bulk at most 1048576: NARROWER than '..Said'. Prove '..Said' where nothing that the law and all that it calls make is longer than what came in: it says more and counts as full. Else prove '..UptoSaid'. A law counts once. -/
mutual
def uptoBulk {H : Type} : DataW H → Nat
  | .lit (.string bytes) => bytes.length + 1
  | .lit _ => 1
  | .nil => 1
  | .ptr d => uptoBulk d + 1
  | .slice elems spare => uptoBulkAll elems + uptoBulkAll spare + 1
  | .agg parts => uptoBulkAll parts + 1
  | .iface _ d => uptoBulk d + 1
  | .map entries => uptoBulkEntries entries + 1
  | .held _ => 1
def uptoBulkAll {H : Type} : List (DataW H) → Nat
  | [] => 0
  | d :: r => uptoBulk d + uptoBulkAll r
def uptoBulkEntries {H : Type} : List (Lit × DataW H) → Nat
  | [] => 0
  | x :: r => uptoBulkEntry x + uptoBulkEntries r
def uptoBulkEntry {H : Type} : Lit × DataW H → Nat
  | (.string bytes, d) => bytes.length + uptoBulk d + 1
  | (_, d) => uptoBulk d + 1
 end
def uptoSmall : (H : Type) → List (DataW H) → Bool := fun _ ds => decide (uptoBulkAll ds ≤ 1048576)
def OpenSpec.upto (s : _root_.Go.ChangeSpec) : _root_.Go.OpenSpec := { _root_.Go.OpenSpec.ofChange s with cond := some uptoSmall }

/-- 'laws.FnExactKeyWords', WHERE WHAT IT READS IS OF BULK AT MOST 1048576: true; the input reads as it did. -/
def fnExactKeyWordsUptoRow : OpenClaim := { program := "ytcmcpipcafjiaaadoor", sum := "986b5ca691e5d9a9439f6e439349c81fecd3cd2b76b5ff5da17ec5893f97ff46", func := "loop.example/wholeway/laws.FnExactKeyWords", spec := "fnExactKeyWords", named := ["loop.example/wholeway/impl.keys"], apart := false, laid := [("loop.example/wholeway/impl.keys", laid_loop_example_wholeway_impl_keys)], narrowed := true }
def FnExactKeyWordsUptoSaid : Prop := fnExactKeyWordsUptoRow.holds Tryd.pinned (OpenSpec.upto fnExactKeyWordsSpec)

/-- 'laws.FnExactIsName', WHERE WHAT IT READS IS OF BULK AT MOST 1048576: true; the input reads as it did. -/
def fnExactIsNameUptoRow : OpenClaim := { program := "ytcmcpipcafjiaaadoor", sum := "986b5ca691e5d9a9439f6e439349c81fecd3cd2b76b5ff5da17ec5893f97ff46", func := "loop.example/wholeway/laws.FnExactIsName", spec := "fnExactIsName", unfollowed := true, recurses := true, named := ["loop.example/wholeway/impl.keys"], apart := false, laid := [("loop.example/wholeway/impl.keys", laid_loop_example_wholeway_impl_keys)], narrowed := true }
def FnExactIsNameUptoSaid : Prop := fnExactIsNameUptoRow.holds Tryd.pinned (OpenSpec.upto fnExactIsNameSpec)

/-- 'laws.FnExactNumberOf', WHERE WHAT IT READS IS OF BULK AT MOST 1048576: true; the input reads as it did. -/
def fnExactNumberOfUptoRow : OpenClaim := { program := "ytcmcpipcafjiaaadoor", sum := "986b5ca691e5d9a9439f6e439349c81fecd3cd2b76b5ff5da17ec5893f97ff46", func := "loop.example/wholeway/laws.FnExactNumberOf", spec := "fnExactNumberOf", named := ["strconv.ErrSyntax", "strconv.ErrRange", "internal/strconv.uint64pow10", "math/bits.deBruijn32tab", "math/bits.deBruijn64tab"], apart := false, laid := [("math/bits.deBruijn32tab", laid_math_bits_deBruijn32tab), ("math/bits.deBruijn64tab", laid_math_bits_deBruijn64tab), ("internal/strconv.uint64pow10", laid_internal_strconv_uint64pow10), ("strconv.ErrRange", laid_strconv_ErrRange), ("strconv.ErrSyntax", laid_strconv_ErrSyntax)], narrowed := true }
def FnExactNumberOfUptoSaid : Prop := fnExactNumberOfUptoRow.holds Tryd.pinned (OpenSpec.upto fnExactNumberOfSpec)

/-- 'laws.FnExactWordValid', WHERE WHAT IT READS IS OF BULK AT MOST 1048576: true; the input reads as it did. -/
def fnExactWordValidUptoRow : OpenClaim := { program := "ytcmcpipcafjiaaadoor", sum := "986b5ca691e5d9a9439f6e439349c81fecd3cd2b76b5ff5da17ec5893f97ff46", func := "loop.example/wholeway/laws.FnExactWordValid", spec := "fnExactWordValid", inPlace := ["internal/bytealg.IndexByteString", "internal/bytealg.IndexString"], unfollowed := true, recurses := true, named := ["loop.example/wholeway/impl.keys", "strconv.ErrSyntax", "strconv.ErrRange", "internal/strconv.uint64pow10", "math/bits.deBruijn32tab", "math/bits.deBruijn64tab", "internal/bytealg.MaxLen"], apart := false, laid := [("math/bits.deBruijn32tab", laid_math_bits_deBruijn32tab), ("math/bits.deBruijn64tab", laid_math_bits_deBruijn64tab), ("internal/strconv.uint64pow10", laid_internal_strconv_uint64pow10), ("strconv.ErrRange", laid_strconv_ErrRange), ("strconv.ErrSyntax", laid_strconv_ErrSyntax), ("loop.example/wholeway/impl.keys", laid_loop_example_wholeway_impl_keys)], narrowed := true }
def FnExactWordValidUptoSaid : Prop := fnExactWordValidUptoRow.holds Tryd.pinned (OpenSpec.upto fnExactWordValidSpec)

/-- 'laws.FnExactCutWords', WHERE WHAT IT READS IS OF BULK AT MOST 1048576: true; the input reads as it did. -/
def fnExactCutWordsUptoRow : OpenClaim := { program := "ytcmcpipcafjiaaadoor", sum := "986b5ca691e5d9a9439f6e439349c81fecd3cd2b76b5ff5da17ec5893f97ff46", func := "loop.example/wholeway/laws.FnExactCutWords", spec := "fnExactCutWords", inPlace := ["internal/bytealg.IndexByteString", "internal/bytealg.IndexString"], unfollowed := true, recurses := true, named := ["loop.example/wholeway/impl.keys", "strconv.ErrSyntax", "strconv.ErrRange", "internal/strconv.uint64pow10", "math/bits.deBruijn32tab", "math/bits.deBruijn64tab", "internal/bytealg.MaxLen"], apart := false, laid := [("math/bits.deBruijn32tab", laid_math_bits_deBruijn32tab), ("math/bits.deBruijn64tab", laid_math_bits_deBruijn64tab), ("internal/strconv.uint64pow10", laid_internal_strconv_uint64pow10), ("strconv.ErrRange", laid_strconv_ErrRange), ("strconv.ErrSyntax", laid_strconv_ErrSyntax), ("loop.example/wholeway/impl.keys", laid_loop_example_wholeway_impl_keys)], narrowed := true }
def FnExactCutWordsUptoSaid : Prop := fnExactCutWordsUptoRow.holds Tryd.pinned (OpenSpec.upto fnExactCutWordsSpec)

/-- 'laws.FnExactJoinWords', WHERE WHAT IT READS IS OF BULK AT MOST 1048576: true; the input reads as it did. -/
def fnExactJoinWordsUptoRow : OpenClaim := { program := "ytcmcpipcafjiaaadoor", sum := "986b5ca691e5d9a9439f6e439349c81fecd3cd2b76b5ff5da17ec5893f97ff46", func := "loop.example/wholeway/laws.FnExactJoinWords", spec := "fnExactJoinWords", inPlace := ["internal/bytealg.IndexByteString", "internal/bytealg.IndexString", "internal/abi.NoEscape", "internal/bytealg.MakeNoZero"], unfollowed := true, recurses := true, named := ["loop.example/wholeway/impl.keys", "strconv.ErrSyntax", "strconv.ErrRange", "internal/strconv.uint64pow10", "math/bits.deBruijn32tab", "math/bits.deBruijn64tab", "internal/bytealg.MaxLen"], apart := false, laid := [("math/bits.deBruijn32tab", laid_math_bits_deBruijn32tab), ("math/bits.deBruijn64tab", laid_math_bits_deBruijn64tab), ("internal/strconv.uint64pow10", laid_internal_strconv_uint64pow10), ("strconv.ErrRange", laid_strconv_ErrRange), ("strconv.ErrSyntax", laid_strconv_ErrSyntax), ("loop.example/wholeway/impl.keys", laid_loop_example_wholeway_impl_keys)], narrowed := true }
def FnExactJoinWordsUptoSaid : Prop := fnExactJoinWordsUptoRow.holds Tryd.pinned (OpenSpec.upto fnExactJoinWordsSpec)

/-- 'laws.FnExactPlainText', WHERE WHAT IT READS IS OF BULK AT MOST 1048576: true; the input reads as it did. -/
def fnExactPlainTextUptoRow : OpenClaim := { program := "ytcmcpipcafjiaaadoor", sum := "986b5ca691e5d9a9439f6e439349c81fecd3cd2b76b5ff5da17ec5893f97ff46", func := "loop.example/wholeway/laws.FnExactPlainText", spec := "fnExactPlainText", inPlace := ["internal/bytealg.IndexByteString", "internal/bytealg.IndexString", "internal/abi.NoEscape", "internal/bytealg.MakeNoZero"], unfollowed := true, recurses := true, named := ["loop.example/wholeway/impl.keys", "strconv.ErrSyntax", "strconv.ErrRange", "internal/strconv.uint64pow10", "math/bits.deBruijn32tab", "math/bits.deBruijn64tab", "internal/bytealg.MaxLen"], apart := false, laid := [("math/bits.deBruijn32tab", laid_math_bits_deBruijn32tab), ("math/bits.deBruijn64tab", laid_math_bits_deBruijn64tab), ("internal/strconv.uint64pow10", laid_internal_strconv_uint64pow10), ("strconv.ErrRange", laid_strconv_ErrRange), ("strconv.ErrSyntax", laid_strconv_ErrSyntax), ("loop.example/wholeway/impl.keys", laid_loop_example_wholeway_impl_keys)], narrowed := true }
def FnExactPlainTextUptoSaid : Prop := fnExactPlainTextUptoRow.holds Tryd.pinned (OpenSpec.upto fnExactPlainTextSpec)

end Rows
end Go.Proofs.YtcmcpipcafjiaaaDoor
